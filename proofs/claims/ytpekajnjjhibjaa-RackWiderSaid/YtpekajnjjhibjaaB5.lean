/-
  thrown; Hit.
-/
import Derived.Test.YtpekajnjjhibjaaB4
namespace Go.Proofs.Ytpekajnjjhibjaa
open Go.RowKit
set_option linter.unusedSimpArgs false
set_option linter.unusedVariables false

/-- A block of six cells, those of a rack at which a ball goes. -/
def At6 (W : World) (q : Nat) (v0 v1 v2 v3 v4 v5 : Value) : Prop := W.heap[q]? = some (.cells #[v0, v1, v2, v3, v4, v5] 102)
theorem At6.cells {W : World} {q : Nat} {v0 v1 v2 v3 v4 v5 : Value} (h : At6 W q v0 v1 v2 v3 v4 v5) :
    (W.cell? ⟨q, 0, none⟩ = some v0 ∧ W.cell? ⟨q, 1, none⟩ = some v1 ∧ W.cell? ⟨q, 2, none⟩ = some v2 ∧ W.cell? ⟨q, 3, none⟩ = some v3 ∧ W.cell? ⟨q, 4, none⟩ = some v4 ∧ W.cell? ⟨q, 5, none⟩ = some v5) ∧ ∀ i, W.frozen? ⟨q, i, none⟩ = false := by
  unfold At6 at h
  simp [World.cell?, World.frozen?, h]
theorem At6.step {W W' : World} {q : Nat} {v0 v1 v2 v3 v4 v5 : Value} (h : At6 W q v0 v1 v2 v3 v4 v5) (hb : Below W.heap.size W W') : At6 W' q v0 v1 v2 v3 v4 v5 := (hb.block q (Array.getElem?_eq_some_iff.1 h).1).trans h
theorem At6.set {W : World} {q : Nat} {v0 v1 v2 v3 v4 v5 : Value} (h : At6 W q v0 v1 v2 v3 v4 v5) (u0 u1 u2 u3 u4 u5 : Value) :
    At6 ((((((W.setCell ⟨q, 0, none⟩ (u0)).setCell ⟨q, 1, none⟩ (u1)).setCell ⟨q, 2, none⟩ (u2)).setCell ⟨q, 3, none⟩ (u3)).setCell ⟨q, 4, none⟩ (u4)).setCell ⟨q, 5, none⟩ (u5)) q u0 u1 u2 u3 u4 u5 := by
  unfold At6 at h ⊢
  simp [World.setCell, Array.getElem?_modify, h]
theorem below_six {B : Nat} {w W : World} (hb : Below B w W) {q : Nat} (hq : B ≤ q) (u0 u1 u2 u3 u4 u5 : Value) :
    Below B w ((((((W.setCell ⟨q, 0, none⟩ (u0)).setCell ⟨q, 1, none⟩ (u1)).setCell ⟨q, 2, none⟩ (u2)).setCell ⟨q, 3, none⟩ (u3)).setCell ⟨q, 4, none⟩ (u4)).setCell ⟨q, 5, none⟩ (u5)) := (((((hb.setCell hq _).setCell hq _).setCell hq _).setCell hq _).setCell hq _).setCell hq _
/-- The error of a ball at pins. -/
noncomputable def thrErr (r : Rk) (xs : List Int) (ball : List Rg) : Int := if pinErr r xs = 0 then (if ballB r.rows ball then 0 else 2) else pinErr r xs
theorem thrErr_pin {r : Rk} {xs : List Int} {ball : List Rg} (h : thrErr r xs ball = 0) : pinErr r xs = 0 ∧ ballB r.rows ball = true := by
  unfold thrErr at h
  split at h
  · rename_i h0
    split at h
    · rename_i h1; exact ⟨h0, h1⟩
    · cases h
  · rename_i h0; exact absurd h h0
theorem pinErr_cases (r : Rk) (xs : List Int) : pinErr r xs = 0 ∨ pinErr r xs = 1 ∨ pinErr r xs = 2 ∨ pinErr r xs = 3 := by
  unfold pinErr
  split
  · split
    · exact .inl rfl
    · exact .inr (.inr (.inl rfl))
  · rcases rackErr_cases r with h | h | h <;> simp [h]
/-- The rack with its pins, if the ball is one; else the zero. -/
noncomputable def thrV (r : Rk) (A : Option Addr) (c : Nat) (xs : List Int) (ball : List Rg) : Value := if thrErr r xs ball = 0 then .agg #[.int .i64 r.rows, .int .i64 r.mid, .int .i64 r.gap, .int .i64 r.reach, .slice A r.links.length c, .int .u16 (pinS r xs : Int)] else .agg #[.int .i64 0, .int .i64 0, .int .i64 0, .int .i64 0, .slice none 0 0, .int .u16 0]

set_option maxRecDepth 100000 in
set_option maxHeartbeats 4000000 in
theorem thrown_c (r : Rk) (A xA Ab : Option Addr) (c cx cb : Nat) (xs : List Int) (ball : List Rg) (w : World) (hl : Lks w.heap.size w A r.links) (hc : r.links.length ≤ c ∧ c ≤ 9223372036854775807) (hx : Ints w.heap.size w xA xs) (hcx : xs.length ≤ cx ∧ cx ≤ 9223372036854775807) (hball : Rgs w.heap.size w Ab ball) (hcb : ball.length ≤ cb ∧ cb ≤ 9223372036854775807) :
    Calls Try.prog 53 #[.agg #[.int .i64 r.rows, .int .i64 r.mid, .int .i64 r.gap, .int .i64 r.reach, .slice A r.links.length c], .slice xA xs.length cx, .slice Ab ball.length cb] w (Ans w (.tuple #[thrV r A c xs ball, .int .i64 (thrErr r xs ball)])) := by
  have HB := Lib.hid (Below.refl w.heap.size w)
  have HL := Lib.hid hl
  have HX := Lib.hid hx
  have HBa := Lib.hid hball
  clear hl hx hball
  have hb : Below w.heap.size w (w.alloc (.cells #[.int .i64 r.rows, .int .i64 r.mid, .int .i64 r.gap, .int .i64 r.reach, .slice A r.links.length c] 39)) := (Below.refl _ _).alloc (Nat.le_refl _) _
  replace HL := Lib.hid (HL.out.step hb)
  replace HX := Lib.hid (HX.out.step hb)
  replace HBa := Lib.hid (HBa.out.step hb)
  replace HB := Lib.hid (HB.out.trans (hb.mono HB.out.size))
  clear hb
  have k0 : (w.alloc (.cells #[.int .i64 r.rows, .int .i64 r.mid, .int .i64 r.gap, .int .i64 r.reach, .slice A r.links.length c] 39)).cell? ⟨w.heap.size, 0, none⟩ = some (.int .i64 r.rows) := by simp
  have k1 : (w.alloc (.cells #[.int .i64 r.rows, .int .i64 r.mid, .int .i64 r.gap, .int .i64 r.reach, .slice A r.links.length c] 39)).cell? ⟨w.heap.size, 1, none⟩ = some (.int .i64 r.mid) := by simp
  have k2 : (w.alloc (.cells #[.int .i64 r.rows, .int .i64 r.mid, .int .i64 r.gap, .int .i64 r.reach, .slice A r.links.length c] 39)).cell? ⟨w.heap.size, 2, none⟩ = some (.int .i64 r.gap) := by simp
  have k3 : (w.alloc (.cells #[.int .i64 r.rows, .int .i64 r.mid, .int .i64 r.gap, .int .i64 r.reach, .slice A r.links.length c] 39)).cell? ⟨w.heap.size, 3, none⟩ = some (.int .i64 r.reach) := by simp
  have k4 : (w.alloc (.cells #[.int .i64 r.rows, .int .i64 r.mid, .int .i64 r.gap, .int .i64 r.reach, .slice A r.links.length c] 39)).cell? ⟨w.heap.size, 4, none⟩ = some (.slice A r.links.length c) := by simp
  have hb : Below (w.alloc (.cells #[.int .i64 r.rows, .int .i64 r.mid, .int .i64 r.gap, .int .i64 r.reach, .slice A r.links.length c] 39)).heap.size (w.alloc (.cells #[.int .i64 r.rows, .int .i64 r.mid, .int .i64 r.gap, .int .i64 r.reach, .slice A r.links.length c] 39)) ((w.alloc (.cells #[.int .i64 r.rows, .int .i64 r.mid, .int .i64 r.gap, .int .i64 r.reach, .slice A r.links.length c] 39)).alloc (.cells #[.int .i64 0, .int .i64 0, .int .i64 0, .int .i64 0, .slice none 0 0, .int .u16 0] 102)) := (Below.refl _ _).alloc (Nat.le_refl _) _
  replace HL := Lib.hid (HL.out.step hb)
  replace HX := Lib.hid (HX.out.step hb)
  replace HBa := Lib.hid (HBa.out.step hb)
  replace k0 := cell_of_ans hb k0
  replace k1 := cell_of_ans hb k1
  replace k2 := cell_of_ans hb k2
  replace k3 := cell_of_ans hb k3
  replace k4 := cell_of_ans hb k4
  replace HB := Lib.hid (HB.out.trans (hb.mono HB.out.size))
  clear hb
  have HZ : Hid (At6 ((w.alloc (.cells #[.int .i64 r.rows, .int .i64 r.mid, .int .i64 r.gap, .int .i64 r.reach, .slice A r.links.length c] 39)).alloc (.cells #[.int .i64 0, .int .i64 0, .int .i64 0, .int .i64 0, .slice none 0 0, .int .u16 0] 102)) (w.heap.size + 1) (.int .i64 0) (.int .i64 0) (.int .i64 0) (.int .i64 0) (.slice none 0 0) (.int .u16 0)) := by show At6 _ _ _ _ _ _ _ _; unfold At6; rw [show w.heap.size + 1 = (w.alloc (.cells #[.int .i64 r.rows, .int .i64 r.mid, .int .i64 r.gap, .int .i64 r.reach, .slice A r.links.length c] 39)).heap.size by simp]; exact World.alloc_heap_new _ _
  have HTE : Hid (thrErr r xs ball = if pinErr r xs = 0 then (if ballB r.rows ball then 0 else 2) else pinErr r xs) := rfl
  have HTV : Hid (thrV r A c xs ball = if thrErr r xs ball = 0 then .agg #[.int .i64 r.rows, .int .i64 r.mid, .int .i64 r.gap, .int .i64 r.reach, .slice A r.links.length c, .int .u16 (pinS r xs : Int)] else .agg #[.int .i64 0, .int .i64 0, .int .i64 0, .int .i64 0, .slice none 0 0, .int .u16 0]) := rfl
  by_cases he : pinErr r xs = 0
  · rw [if_pos he] at HTE
    go_enter Try.func53, Try.ntmps53
    go_wp2_with fail
    generalize ((w.alloc (.cells #[.int .i64 r.rows, .int .i64 r.mid, .int .i64 r.gap, .int .i64 r.reach, .slice A r.links.length c] 39)).alloc (.cells #[.int .i64 0, .int .i64 0, .int .i64 0, .int .i64 0, .slice none 0 0, .int .u16 0] 102)) = x2 at *
    refine (pinned_c r A xA c cx xs _ HL.out hc HX.out hcx).mono ?_
    rw [he]
    rintro e x1 ⟨rfl, hb⟩
    replace HL := Lib.hid (HL.out.step hb)
    replace HX := Lib.hid (HX.out.step hb)
    replace HBa := Lib.hid (HBa.out.step hb)
    replace k0 := cell_of_ans hb k0
    replace k1 := cell_of_ans hb k1
    replace k2 := cell_of_ans hb k2
    replace k3 := cell_of_ans hb k3
    replace k4 := cell_of_ans hb k4
    replace HZ := Lib.hid (HZ.out.step hb)
    replace HB := Lib.hid (HB.out.trans (hb.mono HB.out.size))
    clear hb
    have ltk0 := World.block_lt_of_cell? _ _ k0
    dsimp only at ltk0
    clear he
    cases hbl : ballB r.rows ball
    · rw [hbl] at HTE
      have hte : ¬ thrErr r xs ball = 0 := by rw [HTE.out]; simp
      rw [if_neg hte] at HTV
      clear hte
      go_wp2_with fail
      refine (ball_c r A Ab c cb ball _ HBa.out hcb).mono ?_
      rw [hbl]
      rintro e x2 ⟨rfl, hb⟩
      replace HL := Lib.hid (HL.out.step hb)
      replace HX := Lib.hid (HX.out.step hb)
      replace HBa := Lib.hid (HBa.out.step hb)
      replace k0 := cell_of_ans hb k0
      replace k1 := cell_of_ans hb k1
      replace k2 := cell_of_ans hb k2
      replace k3 := cell_of_ans hb k3
      replace k4 := cell_of_ans hb k4
      replace HZ := Lib.hid (HZ.out.step hb)
      replace HB := Lib.hid (HB.out.trans (hb.mono HB.out.size))
      clear hb
      have ltk0 := World.block_lt_of_cell? _ _ k0
      dsimp only at ltk0
      have hzf := (HZ.out.set (.int .i64 0) (.int .i64 0) (.int .i64 0) (.int .i64 0) (.slice none 0 0) (.int .u16 0))
      have hbf := below_six (q := w.heap.size + 1) HB.out (Nat.le_succ w.heap.size) (.int .i64 0) (.int .i64 0) (.int .i64 0) (.int .i64 0) (.slice none 0 0) (.int .u16 0)
      obtain ⟨⟨z0, z1, z2, z3, z4, z5⟩, zf⟩ := HZ.out.cells
      have zf0 := zf 0
      have zf1 := zf 1
      have zf2 := zf 2
      have zf3 := zf 3
      have zf4 := zf 4
      have zf5 := zf 5
      clear zf
      go_wp2_with fail
      generalize ((((((x2.setCell ⟨w.heap.size + 1, 0, none⟩ (.int .i64 0)).setCell ⟨w.heap.size + 1, 1, none⟩ (.int .i64 0)).setCell ⟨w.heap.size + 1, 2, none⟩ (.int .i64 0)).setCell ⟨w.heap.size + 1, 3, none⟩ (.int .i64 0)).setCell ⟨w.heap.size + 1, 4, none⟩ (.slice none 0 0)).setCell ⟨w.heap.size + 1, 5, none⟩ (.int .u16 0)) = W9 at *
      refine bodyPost_ret (v := (.tuple #[.agg #[.int .i64 0, .int .i64 0, .int .i64 0, .int .i64 0, .slice none 0 0, .int .u16 0], .int .i64 (2)])) (by unfold At6 at hzf; simp [results, Try.results53, go_sem, World.cell?, hzf]) rfl ?_
      exact ⟨by rw [HTV.out, HTE.out] <;> simp, hbf⟩
    · rw [hbl] at HTE
      have hte : thrErr r xs ball = 0 := by rw [HTE.out]; simp
      rw [if_pos hte] at HTV
      clear hte
      go_wp2_with fail
      refine (ball_c r A Ab c cb ball _ HBa.out hcb).mono ?_
      rw [hbl]
      rintro e x3 ⟨rfl, hb⟩
      replace HL := Lib.hid (HL.out.step hb)
      replace HX := Lib.hid (HX.out.step hb)
      replace HBa := Lib.hid (HBa.out.step hb)
      replace k0 := cell_of_ans hb k0
      replace k1 := cell_of_ans hb k1
      replace k2 := cell_of_ans hb k2
      replace k3 := cell_of_ans hb k3
      replace k4 := cell_of_ans hb k4
      replace HZ := Lib.hid (HZ.out.step hb)
      replace HB := Lib.hid (HB.out.trans (hb.mono HB.out.size))
      clear hb
      have ltk0 := World.block_lt_of_cell? _ _ k0
      dsimp only at ltk0
      have hzf := (HZ.out.set (.int .i64 r.rows) (.int .i64 r.mid) (.int .i64 r.gap) (.int .i64 r.reach) (.slice A r.links.length c) (.int .u16 (pinS r xs : Int)))
      have hbf := below_six (q := w.heap.size + 1) HB.out (Nat.le_succ w.heap.size) (.int .i64 r.rows) (.int .i64 r.mid) (.int .i64 r.gap) (.int .i64 r.reach) (.slice A r.links.length c) (.int .u16 (pinS r xs : Int))
      obtain ⟨⟨z0, z1, z2, z3, z4, z5⟩, zf⟩ := HZ.out.cells
      have zf0 := zf 0
      have zf1 := zf 1
      have zf2 := zf 2
      have zf3 := zf 3
      have zf4 := zf 4
      have zf5 := zf 5
      clear zf
      go_wp2_with fail
      generalize ((((((x3.setCell ⟨w.heap.size + 1, 0, none⟩ (.int .i64 r.rows)).setCell ⟨w.heap.size + 1, 1, none⟩ (.int .i64 r.mid)).setCell ⟨w.heap.size + 1, 2, none⟩ (.int .i64 r.gap)).setCell ⟨w.heap.size + 1, 3, none⟩ (.int .i64 r.reach)).setCell ⟨w.heap.size + 1, 4, none⟩ (.slice A r.links.length c)).setCell ⟨w.heap.size + 1, 5, none⟩ (.int .u16 (pinS r xs : Int))) = W9 at *
      refine bodyPost_ret (v := (.tuple #[.agg #[.int .i64 r.rows, .int .i64 r.mid, .int .i64 r.gap, .int .i64 r.reach, .slice A r.links.length c, .int .u16 (pinS r xs : Int)], .int .i64 (0)])) (by unfold At6 at hzf; simp [results, Try.results53, go_sem, World.cell?, hzf]) rfl ?_
      exact ⟨by rw [HTV.out, HTE.out] <;> simp, hbf⟩
  · rw [if_neg he] at HTE
    have hte : ¬ thrErr r xs ball = 0 := by rw [HTE.out]; exact he
    rw [if_neg hte] at HTV
    have hne : (pinErr r xs != 0) = true := by simp [he]
    clear hte he
    go_enter Try.func53, Try.ntmps53
    go_wp2_with fail
    generalize ((w.alloc (.cells #[.int .i64 r.rows, .int .i64 r.mid, .int .i64 r.gap, .int .i64 r.reach, .slice A r.links.length c] 39)).alloc (.cells #[.int .i64 0, .int .i64 0, .int .i64 0, .int .i64 0, .slice none 0 0, .int .u16 0] 102)) = x2 at *
    refine (pinned_c r A xA c cx xs _ HL.out hc HX.out hcx).mono ?_
    rintro e x4 ⟨rfl, hb⟩
    replace HL := Lib.hid (HL.out.step hb)
    replace HX := Lib.hid (HX.out.step hb)
    replace HBa := Lib.hid (HBa.out.step hb)
    replace k0 := cell_of_ans hb k0
    replace k1 := cell_of_ans hb k1
    replace k2 := cell_of_ans hb k2
    replace k3 := cell_of_ans hb k3
    replace k4 := cell_of_ans hb k4
    replace HZ := Lib.hid (HZ.out.step hb)
    replace HB := Lib.hid (HB.out.trans (hb.mono HB.out.size))
    clear hb
    have ltk0 := World.block_lt_of_cell? _ _ k0
    dsimp only at ltk0
    have hzf := (HZ.out.set (.int .i64 0) (.int .i64 0) (.int .i64 0) (.int .i64 0) (.slice none 0 0) (.int .u16 0))
    have hbf := below_six (q := w.heap.size + 1) HB.out (Nat.le_succ w.heap.size) (.int .i64 0) (.int .i64 0) (.int .i64 0) (.int .i64 0) (.slice none 0 0) (.int .u16 0)
    obtain ⟨⟨z0, z1, z2, z3, z4, z5⟩, zf⟩ := HZ.out.cells
    have zf0 := zf 0
    have zf1 := zf 1
    have zf2 := zf 2
    have zf3 := zf 3
    have zf4 := zf 4
    have zf5 := zf 5
    clear zf
    go_wp2_with fail
    generalize ((((((x4.setCell ⟨w.heap.size + 1, 0, none⟩ (.int .i64 0)).setCell ⟨w.heap.size + 1, 1, none⟩ (.int .i64 0)).setCell ⟨w.heap.size + 1, 2, none⟩ (.int .i64 0)).setCell ⟨w.heap.size + 1, 3, none⟩ (.int .i64 0)).setCell ⟨w.heap.size + 1, 4, none⟩ (.slice none 0 0)).setCell ⟨w.heap.size + 1, 5, none⟩ (.int .u16 0)) = W9 at *
    refine bodyPost_ret (v := (.tuple #[.agg #[.int .i64 0, .int .i64 0, .int .i64 0, .int .i64 0, .slice none 0 0, .int .u16 0], .int .i64 (pinErr r xs)])) (by unfold At6 at hzf; simp [results, Try.results53, go_sem, World.cell?, hzf]) rfl ?_
    exact ⟨by rw [HTV.out, HTE.out] <;> simp, hbf⟩

/-- A list of bools in memory. -/
def bx (bs : List Bool) (k : Nat) : Bool := bs.getD k false
theorem bx_lt {bs : List Bool} {k : Nat} (h : k < bs.length) : bx bs k = bs[k] := by simp [bx, h]
def Bls (B : Nat) (w : World) (A : Option Addr) (bs : List Bool) : Prop :=
  0 < bs.length → ∃ b off, A = some ⟨b, off, none⟩ ∧ b < B ∧ ∀ k, k < bs.length → w.cell? ⟨b, off + k, none⟩ = some (.bool (bx bs k))
theorem Bls.at_ {B : Nat} {w : World} {A : Option Addr} {bs : List Bool} (h : Bls B w A bs) {k : Nat} (hk : k < bs.length) : ∃ b off, A = some ⟨b, off, none⟩ ∧ b < B ∧ w.cell? ⟨b, off + k, none⟩ = some (.bool (bx bs k)) := by
  obtain ⟨b, off, hA, hb, hc⟩ := h (by omega)
  exact ⟨b, off, hA, hb, hc k hk⟩
theorem Bls.below {B : Nat} {w w' : World} {A : Option Addr} {bs : List Bool} (h : Bls B w A bs) (hb : Below B w w') : Bls B w' A bs := fun hp => by
  obtain ⟨b, off, hA, hlt, hc⟩ := h hp
  exact ⟨b, off, hA, hlt, fun k hk => (hb.cell (p := ⟨b, off + k, none⟩) hlt).trans (hc k hk)⟩
theorem Bls.more {B B' : Nat} {w : World} {A : Option Addr} {bs : List Bool} (h : Bls B w A bs) (hB : B ≤ B') : Bls B' w A bs := fun hp => by
  obtain ⟨b, off, hA, hlt, hc⟩ := h hp
  exact ⟨b, off, hA, by omega, hc⟩
theorem Bls.step {w w' : World} {A : Option Addr} {bs : List Bool} (h : Bls w.heap.size w A bs) (hb : Below w.heap.size w w') : Bls w'.heap.size w' A bs := (h.below hb).more hb.size
/-- Are boards, and what carries, a truth of a ball? -/
noncomputable def overB (ball : List Rg) (ys : List Int) : Bool := allB ys.length (fun k => inB (ix ys k) (gx ball k).lo (gx ball k).hi)
noncomputable def carryB (ls : List Lk) (bs : List Bool) : Bool := allB bs.length (fun k => !(lx ls k).s || bx bs k)
noncomputable def truthB (r : Rk) (ball : List Rg) (ys : List Int) (bs : List Bool) : Bool := (decide (ys.length = ball.length) && decide (bs.length = r.links.length)) && (overB ball ys && carryB r.links bs)
noncomputable def hitErr (r : Rk) (xs : List Int) (ball : List Rg) (ys : List Int) (bs : List Bool) : Int := if thrErr r xs ball = 0 then (if truthB r ball ys bs then 0 else 2) else thrErr r xs ball
/-- What a truth leaves, as a list. -/
noncomputable def hitL (r : Rk) (xs : List Int) (ball : List Rg) (ys : List Int) (bs : List Bool) : List Int := if hitErr r xs ball ys bs = 0 then natsI (listS (leftS r (pinS r xs) (ix ys) (bx bs))) else []
theorem fallS_congr {ls : List Lk} {c d : Nat → Bool} {pins s : Nat} (h : ∀ i, i < ls.length → c i = d i) : fallS ls c pins s = fallS ls d pins s := by
  refine Nat.eq_of_testBit_eq fun i => ?_
  rw [Bool.eq_iff_iff, fallS, fallS, mem_bitsP, mem_bitsP]
  exact ⟨fun ⟨a, b⟩ => ⟨a, b.mono (fun i hi hc => by rw [← h i hi]; exact hc) Sub.rfl Sub.rfl⟩, fun ⟨a, b⟩ => ⟨a, b.mono (fun i hi hc => by rw [h i hi]; exact hc) Sub.rfl Sub.rfl⟩⟩
theorem felledS_congr {r : Rk} {pins : Nat} {b b' : Nat → Int} {c d : Nat → Bool} (hb : ∀ k, k < r.rows.toNat → b k = b' k) (h : ∀ i, i < r.links.length → c i = d i) : felledS r pins b c = felledS r pins b' d := by
  unfold felledS
  rw [touchedS_congr hb, fallS_congr h]
theorem left_is {r : Rk} {pins : Nat} {b : Nat → Int} {c : Nat → Bool} (hp : pins < 2 ^ 10) : pins &&& (65535 - felledS r pins b c) = leftS r pins b c := by
  have hf := felledS_lt (r := r) (b := b) (c := c) hp
  refine set_ext (n := 10) (Nat.lt_of_le_of_lt Nat.and_le_left hp) leftS_lt fun p hp10 => ?_
  rw [Nat.testBit_and, Bool.and_eq_true, mem_leftS hp, show 65535 - felledS r pins b c = 2 ^ 16 - (felledS r pins b c + 1) by omega, Nat.testBit_two_pow_sub_succ (by omega)]
  simp [show p < 16 by omega]
/-- The numbers of those that carry, ahead of k, by bits. -/
def bitsN (bs : List Bool) (k : Nat) : Nat := ofS ((List.range k).filter (bx bs))
theorem bitsN_succ (bs : List Bool) (k : Nat) : bitsN bs (k + 1) = if bx bs k then bitsN bs k ||| 2 ^ k else bitsN bs k := by
  unfold bitsN
  rw [List.range_succ, List.filter_append]
  cases h : bx bs k
  · simp [h]
  · simp [h, or_ofS]
theorem bitsN_lt (bs : List Bool) {k : Nat} (hk : k ≤ 12) : bitsN bs k < 2 ^ 12 := ofS_lt fun p hp => by
  have := List.mem_range.1 (List.mem_filter.1 hp).1
  omega
theorem mem_bitsN {bs : List Bool} {k i : Nat} : (bitsN bs k).testBit i = true ↔ i < k ∧ bx bs i = true := by
  rw [bitsN, mem_ofS, List.mem_filter, List.mem_range]
theorem i64_or_nat (a b : Nat) (ha : a < 2 ^ 16) (hb : b < 2 ^ 16) : bits .or .i64 (a : Int) (b : Int) = ((a ||| b : Nat) : Int) := by
  have h := Nat.or_lt_two_pow ha hb
  show IntKind.i64.wrap ((BitVec.ofInt 64 (a : Int) ||| BitVec.ofInt 64 (b : Int)).toNat : Nat) = _
  have e : ∀ n : Nat, n < 2 ^ 16 → (BitVec.ofInt 64 (n : Int)).toNat = n := fun n hn => by
    rw [BitVec.toNat_ofInt]
    omega
  rw [BitVec.toNat_or, e a ha, e b hb]
  exact IntWalk.i64_in _ (by omega)

/-- The boards that are read so far. -/
def bdF (ys : List Int) (k j : Nat) : Int := if j < k then ix ys j else 0
theorem enters78 : Enters 78 := fun _ _ => enters_of Try.func78 (by kernel_rfl) rfl _ _
def At4 (W : World) (q : Nat) (f : Nat → Int) : Prop := W.heap[q]? = some (.cells #[.int .i64 (f 0), .int .i64 (f 1), .int .i64 (f 2), .int .i64 (f 3)] 129)
theorem At4.step {W W' : World} {q : Nat} {f : Nat → Int} (h : At4 W q f) (hb : Below W.heap.size W W') : At4 W' q f := (hb.block q (Array.getElem?_eq_some_iff.1 h).1).trans h
theorem At4.cells {W : World} {q : Nat} {f : Nat → Int} (h : At4 W q f) : (W.cell? ⟨q, 0, none⟩ = some (.int .i64 (f 0)) ∧ W.cell? ⟨q, 1, none⟩ = some (.int .i64 (f 1)) ∧ W.cell? ⟨q, 2, none⟩ = some (.int .i64 (f 2)) ∧ W.cell? ⟨q, 3, none⟩ = some (.int .i64 (f 3))) ∧ (∀ j, j < 4 → W.cell? ⟨q, j, none⟩ = some (.int .i64 (f j))) ∧ ∀ i, W.frozen? ⟨q, i, none⟩ = false := by
  unfold At4 at h
  refine ⟨by simp [World.cell?, h], fun j hj => ?_, by simp [World.frozen?, h]⟩
  rcases (by omega : j = 0 ∨ j = 1 ∨ j = 2 ∨ j = 3) with rfl | rfl | rfl | rfl <;> simp [World.cell?, h]
theorem At4.set {W : World} {q k : Nat} {ys : List Int} (h : At4 W q (bdF ys k)) (hk : k < 4) : At4 (W.setCell ⟨q, k, none⟩ (.int .i64 (ix ys k))) q (bdF ys (k + 1)) := by
  unfold At4 at h ⊢
  rcases (by omega : k = 0 ∨ k = 1 ∨ k = 2 ∨ k = 3) with rfl | rfl | rfl | rfl <;> simp [World.setCell, Array.getElem?_modify, h, bdF]

/-- What Hit answers. -/
def HitP (w : World) (xs : List Int) (err : Int) (e : Ending) (w' : World) : Prop := ∃ A c, e = .returned (.tuple #[.slice A xs.length c, .int .i64 err]) ∧ OwnI w.heap.size w' (.slice A xs.length c) xs ∧ Below w.heap.size w w'
set_option maxRecDepth 100000 in
set_option maxHeartbeats 16000000 in
theorem hit_c (r : Rk) (A xA Ab yA sA : Option Addr) (c cx cb cy cs : Nat) (xs ys : List Int) (ball : List Rg) (bs : List Bool) (w : World) (hl : Lks w.heap.size w A r.links) (hc : r.links.length ≤ c ∧ c ≤ 9223372036854775807) (hx : Ints w.heap.size w xA xs) (hcx : xs.length ≤ cx ∧ cx ≤ 9223372036854775807) (hball : Rgs w.heap.size w Ab ball) (hcb : ball.length ≤ cb ∧ cb ≤ 9223372036854775807) (hy : Ints w.heap.size w yA ys) (hcy : ys.length ≤ cy ∧ cy ≤ 9223372036854775807) (hcs : Bls w.heap.size w sA bs) (hccs : bs.length ≤ cs ∧ cs ≤ 9223372036854775807) :
    Calls Try.prog 43 #[.agg #[.int .i64 r.rows, .int .i64 r.mid, .int .i64 r.gap, .int .i64 r.reach, .slice A r.links.length c], .slice xA xs.length cx, .slice Ab ball.length cb, .slice yA ys.length cy, .slice sA bs.length cs] w (HitP w (hitL r xs ball ys bs) (hitErr r xs ball ys bs)) := by
  have HB := Lib.hid (Below.refl w.heap.size w)
  have HX0 := Lib.hid hx
  have HY0 := Lib.hid hy
  have HG0 := Lib.hid hball
  have HC0 := Lib.hid hcs
  have HLk := Lib.hid hl
  have HL := Lib.hid hl
  have HX := Lib.hid hx
  have HBa := Lib.hid hball
  have HY := Lib.hid hy
  have HCs := Lib.hid hcs
  clear hl hx hball hy hcs
  have hb : Below w.heap.size w (w.alloc (.cells #[.int .i64 r.rows, .int .i64 r.mid, .int .i64 r.gap, .int .i64 r.reach, .slice A r.links.length c] 39)) := (Below.refl _ _).alloc (Nat.le_refl _) _
  replace HL := Lib.hid (HL.out.step hb)
  replace HX := Lib.hid (HX.out.step hb)
  replace HBa := Lib.hid (HBa.out.step hb)
  replace HY := Lib.hid (HY.out.step hb)
  replace HCs := Lib.hid (HCs.out.step hb)
  replace HB := Lib.hid (HB.out.trans (hb.mono HB.out.size))
  clear hb
  have k0 : (w.alloc (.cells #[.int .i64 r.rows, .int .i64 r.mid, .int .i64 r.gap, .int .i64 r.reach, .slice A r.links.length c] 39)).cell? ⟨w.heap.size, 0, none⟩ = some (.int .i64 r.rows) := by simp
  have k1 : (w.alloc (.cells #[.int .i64 r.rows, .int .i64 r.mid, .int .i64 r.gap, .int .i64 r.reach, .slice A r.links.length c] 39)).cell? ⟨w.heap.size, 1, none⟩ = some (.int .i64 r.mid) := by simp
  have k2 : (w.alloc (.cells #[.int .i64 r.rows, .int .i64 r.mid, .int .i64 r.gap, .int .i64 r.reach, .slice A r.links.length c] 39)).cell? ⟨w.heap.size, 2, none⟩ = some (.int .i64 r.gap) := by simp
  have k3 : (w.alloc (.cells #[.int .i64 r.rows, .int .i64 r.mid, .int .i64 r.gap, .int .i64 r.reach, .slice A r.links.length c] 39)).cell? ⟨w.heap.size, 3, none⟩ = some (.int .i64 r.reach) := by simp
  have k4 : (w.alloc (.cells #[.int .i64 r.rows, .int .i64 r.mid, .int .i64 r.gap, .int .i64 r.reach, .slice A r.links.length c] 39)).cell? ⟨w.heap.size, 4, none⟩ = some (.slice A r.links.length c) := by simp
  have HHE : Hid (hitErr r xs ball ys bs = if thrErr r xs ball = 0 then (if truthB r ball ys bs then 0 else 2) else thrErr r xs ball) := rfl
  have HHL : Hid (hitL r xs ball ys bs = if hitErr r xs ball ys bs = 0 then natsI (listS (leftS r (pinS r xs) (ix ys) (bx bs))) else []) := rfl
  have HTV : Hid (thrV r A c xs ball = if thrErr r xs ball = 0 then .agg #[.int .i64 r.rows, .int .i64 r.mid, .int .i64 r.gap, .int .i64 r.reach, .slice A r.links.length c, .int .u16 (pinS r xs : Int)] else .agg #[.int .i64 0, .int .i64 0, .int .i64 0, .int .i64 0, .slice none 0 0, .int .u16 0]) := rfl
  by_cases he : thrErr r xs ball = 0
  · rw [if_pos he] at HHE HTV
    obtain ⟨hpe, hbl⟩ := thrErr_pin he
    have hr := rackOk (pinErr_rack hpe)
    have hbl2 : ((ball.length : Int) = r.rows) := by have := hbl; unfold ballB at this; simp at this; exact this.1
    have HBR : Hid (allB ball.length (fun k => rangeB (gx ball k)) = true) := by show _ = _; have := hbl; unfold ballB at this; rw [Bool.and_eq_true] at this; exact this.2
    have HPS := Lib.hid (pinS_lt (r := r) (xs := xs))
    have hbl4 : ball.length ≤ 4 := by have := hr.rows4; omega
    have HRL : Hid (r.rows.toNat = ball.length) := by show _ = _; omega
    clear hpe hbl hbl2
    go_enter Try.func43, Try.ntmps43
    go_wp2_with fail
    generalize (w.alloc (.cells #[.int .i64 r.rows, .int .i64 r.mid, .int .i64 r.gap, .int .i64 r.reach, .slice A r.links.length c] 39)) = x1 at *
    refine (thrown_c r A xA Ab c cx cb xs ball _ HL.out hc HX.out hcx HBa.out hcb).mono ?_
    rw [HTV.out, he]
    rintro e x2 ⟨rfl, hb⟩
    replace HL := Lib.hid (HL.out.step hb)
    replace HX := Lib.hid (HX.out.step hb)
    replace HBa := Lib.hid (HBa.out.step hb)
    replace HY := Lib.hid (HY.out.step hb)
    replace HCs := Lib.hid (HCs.out.step hb)
    replace k0 := cell_of_ans hb k0
    replace k1 := cell_of_ans hb k1
    replace k2 := cell_of_ans hb k2
    replace k3 := cell_of_ans hb k3
    replace k4 := cell_of_ans hb k4
    replace HB := Lib.hid (HB.out.trans (hb.mono HB.out.size))
    clear hb
    clear he
    generalize hps : pinS r xs = pins at *
    have hpl := HPS.out
    have ltk0 := World.block_lt_of_cell? _ _ k0
    dsimp only at ltk0
    have ltk4 := World.block_lt_of_cell? _ _ k4
    dsimp only at ltk4
    go_upto_region 4 with fail
    have hb : Below x2.heap.size x2 (x2.alloc (.cells #[.int .i64 r.rows, .int .i64 r.mid, .int .i64 r.gap, .int .i64 r.reach, .slice A r.links.length c, .int .u16 (pins : Int)] 102)) := (Below.refl _ _).alloc (Nat.le_refl _) _
    replace HL := Lib.hid (HL.out.step hb)
    replace HX := Lib.hid (HX.out.step hb)
    replace HBa := Lib.hid (HBa.out.step hb)
    replace HY := Lib.hid (HY.out.step hb)
    replace HCs := Lib.hid (HCs.out.step hb)
    replace k0 := cell_of_ans hb k0
    replace k1 := cell_of_ans hb k1
    replace k2 := cell_of_ans hb k2
    replace k3 := cell_of_ans hb k3
    replace k4 := cell_of_ans hb k4
    replace HB := Lib.hid (HB.out.trans (hb.mono HB.out.size))
    clear hb
    have h0 : (x2.alloc (.cells #[.int .i64 r.rows, .int .i64 r.mid, .int .i64 r.gap, .int .i64 r.reach, .slice A r.links.length c, .int .u16 (pins : Int)] 102)).cell? ⟨x2.heap.size, 0, none⟩ = some (.int .i64 r.rows) := by simp
    have h1 : (x2.alloc (.cells #[.int .i64 r.rows, .int .i64 r.mid, .int .i64 r.gap, .int .i64 r.reach, .slice A r.links.length c, .int .u16 (pins : Int)] 102)).cell? ⟨x2.heap.size, 1, none⟩ = some (.int .i64 r.mid) := by simp
    have h2 : (x2.alloc (.cells #[.int .i64 r.rows, .int .i64 r.mid, .int .i64 r.gap, .int .i64 r.reach, .slice A r.links.length c, .int .u16 (pins : Int)] 102)).cell? ⟨x2.heap.size, 2, none⟩ = some (.int .i64 r.gap) := by simp
    have h3 : (x2.alloc (.cells #[.int .i64 r.rows, .int .i64 r.mid, .int .i64 r.gap, .int .i64 r.reach, .slice A r.links.length c, .int .u16 (pins : Int)] 102)).cell? ⟨x2.heap.size, 3, none⟩ = some (.int .i64 r.reach) := by simp
    have h4 : (x2.alloc (.cells #[.int .i64 r.rows, .int .i64 r.mid, .int .i64 r.gap, .int .i64 r.reach, .slice A r.links.length c, .int .u16 (pins : Int)] 102)).cell? ⟨x2.heap.size, 4, none⟩ = some (.slice A r.links.length c) := by simp
    have h5 : (x2.alloc (.cells #[.int .i64 r.rows, .int .i64 r.mid, .int .i64 r.gap, .int .i64 r.reach, .slice A r.links.length c, .int .u16 (pins : Int)] 102)).cell? ⟨x2.heap.size, 5, none⟩ = some (.int .u16 (pins : Int)) := by simp
    have HQ6 : Hid (At6 (x2.alloc (.cells #[.int .i64 r.rows, .int .i64 r.mid, .int .i64 r.gap, .int .i64 r.reach, .slice A r.links.length c, .int .u16 (pins : Int)] 102)) x2.heap.size (.int .i64 r.rows) (.int .i64 r.mid) (.int .i64 r.gap) (.int .i64 r.reach) (.slice A r.links.length c) (.int .u16 (pins : Int))) := World.alloc_heap_new _ _
    obtain ⟨hq, hhq⟩ : ∃ hq, hq = x2.heap.size := ⟨_, rfl⟩
    rw [← hhq] at h0 h1 h2 h3 h4 h5 HQ6
    have hwq : w.heap.size < hq := by omega
    simp only [← hhq]
    generalize (x2.alloc (.cells #[.int .i64 r.rows, .int .i64 r.mid, .int .i64 r.gap, .int .i64 r.reach, .slice A r.links.length c, .int .u16 (pins : Int)] 102)) = x3 at *
    clear hhq
    have HTB : Hid (truthB r ball ys bs = ((decide (ys.length = ball.length) && decide (bs.length = r.links.length)) && (overB ball ys && carryB r.links bs))) := rfl
    by_cases e1 : ys.length = ball.length
    · by_cases e2 : bs.length = r.links.length
      · rw [decide_eq_true e1, decide_eq_true e2] at HTB
        simp only [Bool.true_and] at HTB
        have q1 : ((ys.length : Int) != (ball.length : Int)) = false := by simp [e1]
        have q2 : ((bs.length : Int) != (r.links.length : Int)) = false := by simp [e2]
        have E1 := Lib.hid e1
        have E2 := Lib.hid e2
        clear e1 e2
        go_wp2_with fail
        have lth5 := World.block_lt_of_cell? _ _ h5
        dsimp only at lth5
        have ltk9 := World.block_lt_of_cell? _ _ k4
        dsimp only at ltk9
        have hb : Below x3.heap.size x3 (x3.alloc (.cells #[.int .i64 0, .int .i64 0, .int .i64 0, .int .i64 0] 129)) := (Below.refl _ _).alloc (Nat.le_refl _) _
        replace HL := Lib.hid (HL.out.step hb)
        replace HX := Lib.hid (HX.out.step hb)
        replace HBa := Lib.hid (HBa.out.step hb)
        replace HY := Lib.hid (HY.out.step hb)
        replace HCs := Lib.hid (HCs.out.step hb)
        replace k0 := cell_of_ans hb k0
        replace k1 := cell_of_ans hb k1
        replace k2 := cell_of_ans hb k2
        replace k3 := cell_of_ans hb k3
        replace k4 := cell_of_ans hb k4
        replace h0 := cell_of_ans hb h0
        replace h1 := cell_of_ans hb h1
        replace h2 := cell_of_ans hb h2
        replace h3 := cell_of_ans hb h3
        replace h4 := cell_of_ans hb h4
        replace h5 := cell_of_ans hb h5
        replace HQ6 := Lib.hid (HQ6.out.step hb)
        replace HB := Lib.hid (HB.out.trans (hb.mono HB.out.size))
        clear hb
        have HQ4 : Hid (At4 (x3.alloc (.cells #[.int .i64 0, .int .i64 0, .int .i64 0, .int .i64 0] 129)) x3.heap.size (bdF ys 0)) := World.alloc_heap_new _ _
        obtain ⟨bq, hbq⟩ : ∃ bq, bq = x3.heap.size := ⟨_, rfl⟩
        rw [← hbq] at HQ4
        have hqb : hq < bq := by omega
        simp only [← hbq]
        generalize (x3.alloc (.cells #[.int .i64 0, .int .i64 0, .int .i64 0, .int .i64 0] 129)) = x4 at *
        have hwb : w.heap.size < bq := by omega
        clear hbq
        go_loopw [47] (fun i wr => ∃ k : Nat, k ≤ ys.length ∧ i = .int .i64 k ∧ AllB k (fun k => inB (ix ys k) (gx ball k).lo (gx ball k).hi) ∧ At4 wr bq (bdF ys k) ∧ x4.grownBy wr (some bq)) (fun i _ => ys.length - (intOf i).toNat)
        case atStart => exact ⟨0, by omega, rfl, fun j hj => by omega, HQ4.out, World.grownBy.refl _ _⟩
        case round =>
          obtain ⟨k, hk, rfl, hall, h4, hgr⟩ := hrel
          have HBW : Hid (Below w.heap.size w wr) := HB.out.grown hgr HB.out.size (fun j e => by injection e with e; omega)
          have HALL := Lib.hid hall
          have H4 := Lib.hid h4
          have HGR := Lib.hid hgr
          clear hall h4 hgr
          by_cases hk1 : k < ys.length
          · obtain ⟨b1, o1, hA1, hlt1, y0⟩ := (HY0.out.below HBW.out).at_ hk1
            obtain ⟨b2, o2, hA2, hlt2, c1, c2⟩ := (HG0.out.below HBW.out).at_ (k := k) (by have := E1.out; omega)
            obtain ⟨⟨-, -, -, -⟩, zc, zf⟩ := H4.out.cells
            have hk4 : k < 4 := by have := E1.out; omega
            have zk := zc k hk4
            have zfk := zf k
            clear zc zf
            have hki : (k : Int) < (ys.length : Int) := by omega
            have hkb : (k : Int) < (ball.length : Int) := by have := E1.out; omega
            have hkb2 : k < ball.length := by have := E1.out; omega
            have hk4i : (k : Int) < 4 := by omega
            have HOV : Hid (∀ b, inB (ix ys k) (gx ball k).lo (gx ball k).hi = b → b = false → overB ball ys = false) := fun b h1 h2 => allB_false hk1 (by rw [← h2, ← h1])
            have HSU : Hid (∀ b, inB (ix ys k) (gx ball k).lo (gx ball k).hi = b → b = true → AllB (k + 1) (fun k => inB (ix ys k) (gx ball k).lo (gx ball k).hi)) := fun b h1 h2 => HALL.out.succ (by rw [← h2, ← h1])
            have hd : Below wr.heap.size wr wr.drew := (Below.refl _ _).drew
            have H4d := Lib.hid ((H4.out.step hd).set hk4)
            have HGd : Hid (x4.grownBy wr.drew (some bq)) := HGR.out.trans (only_below hd _)
            have HBd : Hid (Below w.heap.size w wr.drew) := HBW.out.trans (hd.mono HBW.out.size)
            generalize hgx : gx ball k = x at *
            obtain ⟨xl, xh⟩ := x
            dsimp only at c1 c2 HOV HSU
            generalize hyk : ix ys k = yk at *
            subst hA1 hA2
            clear hd
            cases hib : inB yk xl xh
            all_goals
              have HIB := Lib.hid hib
              go_upto_region 10 with fail
              go_region_held3 (fun w' => w'.cell? ⟨b2, o2 + k * 2, none⟩ = some (.int .i64 xl) ∧ w'.cell? ⟨b2, o2 + k * 2 + 1, none⟩ = some (.int .i64 xh) ∧ w'.cell? ⟨bq, k, none⟩ = some (.int .i64 (bdF ys k k)) ∧ w'.frozen? ⟨bq, k, none⟩ = false) (go_keep) (first | (go_at_call 65; refine (within_c _ _ _ _).mono ?_; rintro e w1 ⟨rfl, rfl⟩; rw [HIB.out]))
            · have htr : truthB r ball ys bs = false := by rw [HTB.out, HOV.out _ HIB.out rfl, Bool.false_and]
              have hhe : ¬ hitErr r xs ball ys bs = 0 := by rw [HHE.out, htr]; simp
              go_wp2_with fail
              refine bodyPost_ret (results_tmp2 rfl _ _ _) rfl ?_
              exact ⟨none, 0, by rw [HHL.out, if_neg hhe, HHE.out, htr]; rfl, by rw [HHL.out, if_neg hhe]; exact OwnI.nil _ _, HBd.out⟩
            · go_wp2_with fail
              go_roundw
              case rel => exact ⟨k + 1, by omega, by go_num, HSU.out _ HIB.out rfl, H4d.out, HGd.out.trans (only_setCell (World.grownBy.refl _ _) (.inl rfl) _)⟩
              case measure => simp [intOf]; omega
          · obtain rfl : k = ys.length := by omega
            have HOT : Hid (overB ball ys = true) := allB_true HALL.out
            have HNE1 : Hid (some w.heap.size ≠ some bq) := by show _ ≠ _; simp; omega
            have HNE2 : Hid (some hq ≠ some bq) := by show _ ≠ _; simp; omega
            replace k0 := HGR.out.cell k0 HNE1.out
            replace k4 := HGR.out.cell k4 HNE1.out
            replace h0 := HGR.out.cell h0 HNE2.out
            replace h1 := HGR.out.cell h1 HNE2.out
            replace h2 := HGR.out.cell h2 HNE2.out
            replace h3 := HGR.out.cell h3 HNE2.out
            replace h4 := HGR.out.cell h4 HNE2.out
            replace h5 := HGR.out.cell h5 HNE2.out
            clear k1 k2 k3 HX HY HBa HCs HL HX0 HY0 HG0 HALL HGR HQ4 HQ6
            go_wp2_with fail
            go_loopw [17, 71] (fun t i wt => ∃ k : Nat, k ≤ bs.length ∧ i = .int .i64 k ∧ t = .int .i64 (bitsN bs k : Int) ∧ AllB k (fun k => !(lx r.links k).s || bx bs k) ∧ wt = wr) (fun _ i _ => bs.length - (intOf i).toNat)
            case atStart => exact ⟨0, by omega, rfl, rfl, fun j hj => by omega, rfl⟩
            case round =>
              obtain ⟨k, hk, rfl, rfl, hall, rfl⟩ := hrel
              have HALL := Lib.hid hall
              clear hall
              have hl12 : r.links.length ≤ 12 := hr.len
              have hbk := bitsN_lt bs (k := k) (by have := E2.out; omega)
              by_cases hk1 : k < bs.length
              · obtain ⟨b1, o1, hA1, hlt1, y0⟩ := (HC0.out.below HBW.out).at_ hk1
                obtain ⟨b2, o2, hA2, hlt2, c1, c2, c3⟩ := (HLk.out.below HBW.out).at_ (k := k) (by have := E2.out; omega)
                have hki : (k : Int) < (bs.length : Int) := by omega
                have hkl : (k : Int) < (r.links.length : Int) := by have := E2.out; omega
                have hkl2 : k < r.links.length := by have := E2.out; omega
                have hw : IntKind.i64.wrap ((2 : Int) ^ k) = (2 : Int) ^ k := by
                  have hp2 : (2 : Nat) ^ k < 2 ^ 12 := Nat.pow_lt_pow_right (by decide) (by omega)
                  rw [show (2 : Int) ^ k = ((2 ^ k : Nat) : Int) by simp]
                  generalize 2 ^ k = z at hp2 ⊢
                  exact IntWalk.i64_in _ (by omega)
                have HOR : Hid (bits .or .i64 (bitsN bs k : Int) ((2 : Int) ^ k) = ((bitsN bs k ||| 2 ^ k : Nat) : Int)) := by
                  have hp2 : (2 : Nat) ^ k < 2 ^ 12 := Nat.pow_lt_pow_right (by decide) (by omega)
                  show _ = _
                  rw [show (2 : Int) ^ k = ((2 ^ k : Nat) : Int) by simp, i64_or_nat _ _ (by omega) (by omega)]
                have HSC := Lib.hid (bitsN_succ bs k)
                have HOV : Hid ((!(lx r.links k).s || bx bs k) = false → carryB r.links bs = false) := fun h2 => allB_false hk1 h2
                have HSU : Hid ((!(lx r.links k).s || bx bs k) = true → AllB (k + 1) (fun k => !(lx r.links k).s || bx bs k)) := fun h2 => HALL.out.succ h2
                generalize hlx : lx r.links k = x at *
                obtain ⟨xf, xt, xs'⟩ := x
                dsimp only at c1 c2 c3 HOV HSU
                generalize hyk : bx bs k = yk at *
                generalize bitsN bs k = bn at *
                subst hA1 hA2
                cases yk
                · cases xs'
                  · go_wp2_with fail
                    go_roundw
                    case rel => exact ⟨k + 1, by omega, by go_num, by rw [HSC.out]; rfl, HSU.out rfl, by trivial⟩
                    case measure => simp [intOf]; omega
                  · have htr : truthB r ball ys bs = false := by rw [HTB.out, HOV.out rfl, Bool.and_false]
                    have hhe : ¬ hitErr r xs ball ys bs = 0 := by rw [HHE.out, htr]; simp
                    go_wp2_with fail
                    refine bodyPost_ret (results_tmp2 rfl _ _ _) rfl ?_
                    exact ⟨none, 0, by rw [HHL.out, if_neg hhe, HHE.out, htr]; rfl, by rw [HHL.out, if_neg hhe]; exact OwnI.nil _ _, HBW.out⟩
                · cases xs'
                  all_goals
                    go_wp2_with fail
                    go_roundw
                    case rel => exact ⟨k + 1, by omega, by go_num, by rw [HSC.out]; exact congrArg _ HOR.out, HSU.out rfl, by trivial⟩
                    case measure => simp [intOf]; omega
              · obtain rfl : k = bs.length := by omega
                have htr : truthB r ball ys bs = true := by rw [HTB.out, HOT.out]; exact allB_true HALL.out
                have hhe : hitErr r xs ball ys bs = 0 := by rw [HHE.out, htr]; rfl
                have HHE0 := Lib.hid hhe
                rw [if_pos hhe] at HHL
                have HFE : Hid (felledS r pins (bdF ys ys.length) (fun i => (lx r.links i).s || (bitsN bs bs.length).testBit i) = felledS r pins (ix ys) (bx bs)) := by
                  refine felledS_congr (fun k hk => ?_) fun i hi => ?_
                  · have := HRL.out; have := E1.out; rw [bdF, if_pos (by omega)]
                  · have h1 : i < bs.length := by have := E2.out; omega
                    have h2 := HALL.out i h1
                    have h3 := mem_bitsN (bs := bs) (k := bs.length) (i := i)
                    cases e1 : (lx r.links i).s <;> cases e2 : bx bs i <;> simp_all
                clear htr hhe hk hk1 hbk
                have HBD : Hid (∀ k, k < r.rows.toNat → -1000 ≤ bdF ys ys.length k ∧ bdF ys ys.length k ≤ 1000) := fun k hk => by
                  have h1 := HRL.out
                  have h2 := E1.out
                  have h3 := allB_iff.1 HOT.out k (by omega)
                  have h4 := allB_iff.1 HBR.out k (by omega)
                  rw [bdF, if_pos (by omega)]
                  simp only [rangeB, Bool.and_eq_true, inB_eq, decide_eq_true_eq] at h3 h4
                  omega
                have HSM : Hid (∀ i, i < r.links.length → ∀ W, Calls Try.prog 78 #[lV (lx r.links i), .int .i64 (i : Int), .int .i64 (bitsN bs bs.length : Int)] W (Ans W (.bool ((lx r.links i).s || (bitsN bs bs.length).testBit i)))) := fun i hi W => some_c _ i _ W (by omega)
                have HL9 : Hid (Lks wr.heap.size wr A r.links) := (HLk.out.below HBW.out).more HBW.out.size
                have HLF : Hid (pins &&& (65535 - felledS r pins (ix ys) (bx bs)) = leftS r pins (ix ys) (bx bs)) := left_is hpl
                have hFl := felledS_lt (r := r) (b := ix ys) (c := bx bs) hpl
                have hLl := leftS_lt (r := r) (pins := pins) (b := ix ys) (c := bx bs)
                have HFC : Hid (∀ W, Lks W.heap.size W A r.links → Calls Try.prog 77 #[.agg #[.int .i64 r.rows, .int .i64 r.mid, .int .i64 r.gap, .int .i64 r.reach, .slice A r.links.length c, .int .u16 (pins : Int)], .agg #[.int .i64 (bdF ys ys.length 0), .int .i64 (bdF ys ys.length 1), .int .i64 (bdF ys ys.length 2), .int .i64 (bdF ys ys.length 3)], .agg #[.func (.func 78) #[] #[]], .int .i64 (bitsN bs bs.length : Int)] W (Ans W (.int .u16 (felledS r pins (bdF ys ys.length) (fun i => (lx r.links i).s || (bitsN bs bs.length).testBit i) : Int)))) := fun W h => felled_c r A c pins 78 _ (bdF ys ys.length) _ W hr hpl HBD.out h hc enters78 HSM.out
                rw [HFE.out] at HFC
                generalize leftS r pins (ix ys) (bx bs) = L at *
                generalize felledS r pins (ix ys) (bx bs) = F at *
                have han : bits .andNot .u16 (pins : Int) (F : Int) = (L : Int) := by rw [u16_andNot_nat _ _ (by omega) (by omega), HLF.out]
                generalize bitsN bs bs.length = bn at *
                obtain ⟨⟨b0, b1, b2, b3⟩, -, -⟩ := H4.out.cells
                generalize bdF ys ys.length 0 = v0 at *
                generalize bdF ys ys.length 1 = v1 at *
                generalize bdF ys ys.length 2 = v2 at *
                generalize bdF ys ys.length 3 = v3 at *
                clear HFE HBD HSM HBR HOT HALL HLk HC0 HTB H4 HB HLF
                have HB := HBW
                clear HBW
                go_upto_region 23 with fail
                have hd : Below wr.heap.size wr wr.drew := (Below.refl _ _).drew
                replace HL9 := Lib.hid (HL9.out.step hd)
                replace HB := Lib.hid (HB.out.trans (hd.mono HB.out.size))
                clear hd
                go_region_held3 (fun w' => w'.cell? ⟨hq, 0, none⟩ = some (.int .i64 r.rows) ∧ w'.cell? ⟨hq, 1, none⟩ = some (.int .i64 r.mid) ∧ w'.cell? ⟨hq, 2, none⟩ = some (.int .i64 r.gap) ∧ w'.cell? ⟨hq, 3, none⟩ = some (.int .i64 r.reach) ∧ w'.cell? ⟨hq, 4, none⟩ = some (.slice A r.links.length c) ∧ w'.cell? ⟨hq, 5, none⟩ = some (.int .u16 (pins : Int)) ∧ w'.cell? ⟨bq, 0, none⟩ = some (.int .i64 v0) ∧ w'.cell? ⟨bq, 1, none⟩ = some (.int .i64 v1) ∧ w'.cell? ⟨bq, 2, none⟩ = some (.int .i64 v2) ∧ w'.cell? ⟨bq, 3, none⟩ = some (.int .i64 v3)) (go_keep) (first | (go_at_call 77; refine (HFC.out _ HL9.out).mono ?_; rintro e x8 ⟨rfl, hb⟩; replace HL9 := Lib.hid (HL9.out.step hb); replace h0 := cell_of_ans (below_drew_l hb) h0; replace h1 := cell_of_ans (below_drew_l hb) h1; replace h2 := cell_of_ans (below_drew_l hb) h2; replace h3 := cell_of_ans (below_drew_l hb) h3; replace h4 := cell_of_ans (below_drew_l hb) h4; replace h5 := cell_of_ans (below_drew_l hb) h5; replace b0 := cell_of_ans (below_drew_l hb) b0; replace b1 := cell_of_ans (below_drew_l hb) b1; replace b2 := cell_of_ans (below_drew_l hb) b2; replace b3 := cell_of_ans (below_drew_l hb) b3; replace HB := Lib.hid (HB.out.trans (hb.mono HB.out.size)); clear hb) | (go_at_call 58; have hz8 := HB.out.size; refine (list_s L _ (by omega)).mono ?_; rintro e x9 ⟨Al, cl, rfl, hO, hb⟩; have HO := Lib.hid (ownsRow_base hO hz8); clear hO hz8; replace HL9 := Lib.hid (HL9.out.step hb); replace h0 := cell_of_ans hb h0; replace h1 := cell_of_ans hb h1; replace h2 := cell_of_ans hb h2; replace h3 := cell_of_ans hb h3; replace h4 := cell_of_ans hb h4; replace h5 := cell_of_ans hb h5; replace b0 := cell_of_ans hb b0; replace b1 := cell_of_ans hb b1; replace b2 := cell_of_ans hb b2; replace b3 := cell_of_ans hb b3; replace HB := Lib.hid (HB.out.trans (hb.mono HB.out.size)); clear hb))
                go_wp2_with fail
                refine bodyPost_ret (results_tmp2 rfl _ _ _) rfl ?_
                exact ⟨Al, cl, by rw [HHL.out, HHE0.out]; rfl, by rw [HHL.out]; exact HO.out, HB.out⟩
      · have htr : truthB r ball ys bs = false := by rw [HTB.out, decide_eq_false e2]; simp
        have hhe : ¬ hitErr r xs ball ys bs = 0 := by rw [HHE.out, htr]; simp
        have q1 : ((ys.length : Int) != (ball.length : Int)) = false := by simp [e1]
        have q2 : ((bs.length : Int) != (r.links.length : Int)) = true := by simp; omega
        clear e1
        go_wp2_with fail
        refine bodyPost_ret (results_tmp2 rfl _ _ _) rfl ?_
        exact ⟨none, 0, by rw [HHL.out, if_neg hhe, HHE.out, htr]; rfl, by rw [HHL.out, if_neg hhe]; exact OwnI.nil _ _, HB.out⟩
    · have htr : truthB r ball ys bs = false := by rw [HTB.out, decide_eq_false e1]; simp
      have hhe : ¬ hitErr r xs ball ys bs = 0 := by rw [HHE.out, htr]; simp
      have q1 : ((ys.length : Int) != (ball.length : Int)) = true := by simp; omega
      go_wp2_with fail
      refine bodyPost_ret (results_tmp2 rfl _ _ _) rfl ?_
      exact ⟨none, 0, by rw [HHL.out, if_neg hhe, HHE.out, htr]; rfl, by rw [HHL.out, if_neg hhe]; exact OwnI.nil _ _, HB.out⟩
  · rw [if_neg he] at HHE HTV
    have hte : ¬ hitErr r xs ball ys bs = 0 := by rw [HHE.out]; exact he
    rw [if_neg hte] at HHL
    have hne : (thrErr r xs ball != 0) = true := by simp [he]
    clear hte he
    go_enter Try.func43, Try.ntmps43
    go_wp2_with fail
    generalize (w.alloc (.cells #[.int .i64 r.rows, .int .i64 r.mid, .int .i64 r.gap, .int .i64 r.reach, .slice A r.links.length c] 39)) = x1 at *
    refine (thrown_c r A xA Ab c cx cb xs ball _ HL.out hc HX.out hcx HBa.out hcb).mono ?_
    rw [HTV.out]
    rintro e x2 ⟨rfl, hb⟩
    replace HL := Lib.hid (HL.out.step hb)
    replace HX := Lib.hid (HX.out.step hb)
    replace HBa := Lib.hid (HBa.out.step hb)
    replace HY := Lib.hid (HY.out.step hb)
    replace HCs := Lib.hid (HCs.out.step hb)
    replace k0 := cell_of_ans hb k0
    replace k1 := cell_of_ans hb k1
    replace k2 := cell_of_ans hb k2
    replace k3 := cell_of_ans hb k3
    replace k4 := cell_of_ans hb k4
    replace HB := Lib.hid (HB.out.trans (hb.mono HB.out.size))
    clear hb
    have ltk0 := World.block_lt_of_cell? _ _ k0
    dsimp only at ltk0
    go_wp2_with fail
    skip
    refine bodyPost_ret (results_tmp2 rfl _ _ _) rfl ?_
    exact ⟨none, 0, by rw [HHL.out, HHE.out]; rfl, by rw [HHL.out]; exact OwnI.nil _ _, HB.out.alloc HB.out.size _⟩
end Go.Proofs.Ytpekajnjjhibjaa
