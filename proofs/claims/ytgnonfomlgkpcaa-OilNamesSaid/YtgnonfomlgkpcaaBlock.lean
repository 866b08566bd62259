/-
  All lines of a list; the error of a lane with a block: program's and law's.
-/
import Derived.Test.YtgnonfomlgkpcaaLine
namespace Go.Proofs.Ytgnonfomlgkpcaa
open Go.RowKit
set_option linter.unusedSimpArgs false
set_option linter.unusedVariables false

abbrev Lines := List (List Int × List Int)
def lineV (ls : Lines) (A1 : Nat → Option Addr) (c1 : Nat → Nat) (A2 : Nat → Option Addr) (c2 : Nat → Nat) (k : Nat) : Value := .agg #[.slice (A1 k) (lx ls k).1.length (c1 k), .slice (A2 k) (lx ls k).2.length (c2 k)]
def ElL (B : Nat) (w : World) (A : Option Addr) (ls : Lines) (A1 : Nat → Option Addr) (c1 : Nat → Nat) (A2 : Nat → Option Addr) (c2 : Nat → Nat) : Prop :=
  0 < ls.length → ∃ b off, A = some ⟨b, off, none⟩ ∧ b < B ∧ ∀ k, k < ls.length → w.cell? ⟨b, off + k * 2, none⟩ = some (.slice (A1 k) (lx ls k).1.length (c1 k)) ∧ w.cell? ⟨b, off + k * 2 + 1, none⟩ = some (.slice (A2 k) (lx ls k).2.length (c2 k))
def InL (B : Nat) (w : World) (ls : Lines) (A1 : Nat → Option Addr) (c1 : Nat → Nat) (A2 : Nat → Option Addr) (c2 : Nat → Nat) : Prop :=
  ∀ k, k < ls.length → ((lx ls k).1.length ≤ c1 k ∧ c1 k ≤ 9223372036854775807) ∧ ((lx ls k).2.length ≤ c2 k ∧ c2 k ≤ 9223372036854775807) ∧ Ints B w (A1 k) (lx ls k).1 ∧ Ints B w (A2 k) (lx ls k).2
theorem pick_lt {α : Type} [Inhabited α] {n : Nat} {p : Nat → α → Prop} (h : ∀ k, k < n → ∃ x, p k x) : ∃ f : Nat → α, ∀ k, k < n → p k (f k) := by
  classical
  exact ⟨fun k => if hk : k < n then (h k hk).choose else default, fun k hk => by dsimp only; rw [dif_pos hk]; exact (h k hk).choose_spec⟩
theorem Lns.el {B : Nat} {w : World} {A : Option Addr} {ls : Lines} (h : Lns B w A ls) : ∃ A1 c1 A2 c2, ElL B w A ls A1 c1 A2 c2 ∧ InL B w ls A1 c1 A2 c2 := by
  by_cases h0 : 0 < ls.length
  · obtain ⟨b, off, hA, hb, hc⟩ := h h0
    have h1 : ∀ k, k < ls.length → ∃ x : (Option Addr × Nat) × (Option Addr × Nat), (w.cell? ⟨b, off + k * 2, none⟩ = some (.slice x.1.1 (lx ls k).1.length x.1.2) ∧ w.cell? ⟨b, off + k * 2 + 1, none⟩ = some (.slice x.2.1 (lx ls k).2.length x.2.2)) ∧ ((lx ls k).1.length ≤ x.1.2 ∧ x.1.2 ≤ 9223372036854775807) ∧ ((lx ls k).2.length ≤ x.2.2 ∧ x.2.2 ≤ 9223372036854775807) ∧ Ints B w x.1.1 (lx ls k).1 ∧ Ints B w x.2.1 (lx ls k).2 := fun k hk => by
      obtain ⟨v, u, e1, e2, ⟨A1, c1, rfl, a1, a2, a3⟩, ⟨A2, c2, rfl, b1, b2, b3⟩⟩ := hc k hk
      exact ⟨((A1, c1), (A2, c2)), ⟨e1, e2⟩, ⟨a1, a2⟩, ⟨b1, b2⟩, a3, b3⟩
    obtain ⟨f, hf⟩ := pick_lt h1
    exact ⟨fun k => (f k).1.1, fun k => (f k).1.2, fun k => (f k).2.1, fun k => (f k).2.2, fun _ => ⟨b, off, hA, hb, fun k hk => (hf k hk).1⟩, fun k hk => (hf k hk).2⟩
  · exact ⟨fun _ => none, fun _ => 0, fun _ => none, fun _ => 0, fun h => absurd h h0, fun k hk => by omega⟩
theorem ElL.below {B : Nat} {w w' : World} {A : Option Addr} {ls : Lines} {A1 : Nat → Option Addr} {c1 : Nat → Nat} {A2 : Nat → Option Addr} {c2 : Nat → Nat} (h : ElL B w A ls A1 c1 A2 c2) (hb : Below B w w') : ElL B w' A ls A1 c1 A2 c2 := fun hp => by
  obtain ⟨b, off, hA, hlt, hc⟩ := h hp
  exact ⟨b, off, hA, hlt, fun k hk => ⟨(hb.cell (p := ⟨b, off + k * 2, none⟩) hlt).trans (hc k hk).1, (hb.cell (p := ⟨b, off + k * 2 + 1, none⟩) hlt).trans (hc k hk).2⟩⟩
theorem Lns.below {B : Nat} {w w' : World} {A : Option Addr} {ls : Lines} (h : Lns B w A ls) (hb : Below B w w') : Lns B w' A ls := fun hp => by
  obtain ⟨b, off, hA, hlt, hc⟩ := h hp
  refine ⟨b, off, hA, hlt, fun k hk => ?_⟩
  obtain ⟨v, u, e1, e2, e3, e4⟩ := hc k hk
  exact ⟨v, u, (hb.cell (p := ⟨b, off + k * 2, none⟩) hlt).trans e1, (hb.cell (p := ⟨b, off + k * 2 + 1, none⟩) hlt).trans e2, e3.below hb, e4.below hb⟩
theorem Lns.more {B B' : Nat} {w : World} {A : Option Addr} {ls : Lines} (h : Lns B w A ls) (hB : B ≤ B') : Lns B' w A ls := fun hp => by
  obtain ⟨b, off, hA, hlt, hc⟩ := h hp
  refine ⟨b, off, hA, by omega, fun k hk => ?_⟩
  obtain ⟨v, u, e1, e2, e3, e4⟩ := hc k hk
  exact ⟨v, u, e1, e2, e3.more hB, e4.more hB⟩
theorem Lns.step {w w' : World} {A : Option Addr} {ls : Lines} (h : Lns w.heap.size w A ls) (hb : Below w.heap.size w w') : Lns w'.heap.size w' A ls := (h.below hb).more hb.size
theorem lns_nil (B : Nat) (w : World) : Lns B w none [] := fun h => by simp at h

/-- The function g, with what is bound and captured, says p k of line k, in whatever world that has the old blocks. -/
def RightL (B : Nat) (w : World) (n g : Nat) (fs cs : Array Value) (vs : Nat → Value) (p : Nat → Bool) : Prop :=
  ∀ k, k < n → ∀ W, Below B w W → Calls Try.prog g (fs.push (vs k) ++ cs) W (Ans W (.bool (p k)))

set_option maxHeartbeats 400000 in
theorem clL (g bx : Nat) (fs cs : Array Value) (A1 A2 : Option Addr) (n1 n2 c1 c2 : Nat) (W : World) (b : Bool) (he : Enters g)
    (hbx : W.cell? ⟨bx, 0, none⟩ = some (.func (.func g) fs cs)) (hc : Calls Try.prog g (fs.push (.agg #[.slice A1 n1 c1, .slice A2 n2 c2]) ++ cs) (W.alloc (.cells #[.slice A1 n1 c1, .slice A2 n2 c2] 60)) (Ans (W.alloc (.cells #[.slice A1 n1 c1, .slice A2 n2 c2] 60)) (.bool b))) :
    Calls Try.prog 100 #[.agg #[.slice A1 n1 c1, .slice A2 n2 c2], .pointer (some ⟨bx, 0, none⟩)] W (Ans W (.bool (!b))) := by
  have H := Lib.hid hc
  clear hc
  unfold Enters at he
  have hbx2 := cell_alloc_keep (.cells #[.slice A1 n1 c1, .slice A2 n2 c2] 60) hbx
  have hb0 : Below W.heap.size W (W.alloc (.cells #[.slice A1 n1 c1, .slice A2 n2 c2] 60)) := (Below.refl _ _).alloc (Nat.le_refl _) _
  have hz0 := hb0.size
  go_enter Try.func100, Try.ntmps100
  go_wp2_with fail
  refine H.out.mono ?_
  rintro e w1 ⟨rfl, hb⟩
  go_wp2_with fail
  go_ret
  exact ⟨rfl, hb0.trans (hb.mono hz0)⟩

set_option maxHeartbeats 1000000 in
theorem indexL {B : Nat} (A : Option Addr) (ls : Lines) (c g bx : Nat) (fs cs : Array Value) (A1 : Nat → Option Addr) (c1 : Nat → Nat) (A2 : Nat → Option Addr) (c2 : Nat → Nat) (p : Nat → Bool) (w : World) (he : Enters g) (hB : B ≤ w.heap.size) (hbx : bx < w.heap.size) (hn : ls.length ≤ 9223372036854775807)
    (hcell : w.cell? ⟨bx, 0, none⟩ = some (.func (.func g) fs cs)) (hel : ElL B w A ls A1 c1 A2 c2) (hr : RightL B w ls.length g fs cs (lineV ls A1 c1 A2 c2) p) :
    Calls Try.prog 101 #[.slice A ls.length c, .func (.func 100) #[] #[.pointer (some ⟨bx, 0, none⟩)]] w (Found w ls.length p) := by
  have HR := Lib.hid hr
  have HC := Lib.hid hcell
  have HE := Lib.hid he
  clear hr hcell he
  go_enter Try.func101, Try.ntmps101
  go_wp2_with fail
  go_loopw [8] (fun i wr => ∃ k : Nat, k ≤ ls.length ∧ i = .int .i64 k ∧ AllB k p ∧ Below w.heap.size w wr) (fun i _ => ls.length - (intOf i).toNat)
  case atStart => exact ⟨0, by omega, rfl, fun j hj => by omega, Below.refl _ _⟩
  case round =>
    obtain ⟨k, hk, rfl, hp, hb⟩ := hrel
    by_cases h1 : k < ls.length
    · obtain ⟨b, off, rfl, hb1, hc0⟩ := hel (by omega)
      obtain ⟨e1, e2⟩ := hc0 k h1
      have d1 := (hb.cell (p := ⟨b, off + k * 2, none⟩) (by dsimp only; omega)).trans e1
      have d2 := (hb.cell (p := ⟨b, off + k * 2 + 1, none⟩) (by dsimp only; omega)).trans e2
      have hcl := HR.out k h1
      unfold lineV at hcl
      generalize (lx ls k).1.length = n1 at d1 hcl
      generalize (lx ls k).2.length = n2 at d2 hcl
      generalize A1 k = a1 at d1 hcl
      generalize A2 k = a2 at d2 hcl
      generalize c1 k = d3 at d1 hcl
      generalize c2 k = d4 at d2 hcl
      clear hc0 e1 e2
      have hz := hb.size
      have hcl2 := clL g bx fs cs a1 a2 n1 n2 d3 d4 wr (p k) HE.out ((hb.cell (p := ⟨bx, 0, none⟩) hbx).trans HC.out) (hcl _ ((hb.mono hB).alloc (by omega) _))
      have HCL := Lib.hid hcl2
      clear hcl2 hcl
      cases hpk : p k
      · have HP := Lib.hid hpk
        clear hpk
        go_wp2_with fail
        refine HCL.out.mono ?_
        rw [HP.out]
        rintro e w1 ⟨rfl, hb2⟩
        go_wp2_with fail
        go_ret
        exact found_at h1 HP.out (hb.trans (hb2.mono hz))
      · have HP := Lib.hid hpk
        clear hpk
        go_wp2_with fail
        refine HCL.out.mono ?_
        rw [HP.out]
        rintro e w1 ⟨rfl, hb2⟩
        go_wp2_with fail
        go_roundw
        case rel => exact ⟨k + 1, by omega, by go_num, hp.succ HP.out, hb.trans (hb2.mono hz)⟩
        case measure => simp [intOf]; omega
    · go_wp2_with fail
      go_ret
      exact found_none (by have : k = ls.length := by omega
                           rwa [this] at hp) hb

set_option maxHeartbeats 400000 in
theorem containsL {B : Nat} (A : Option Addr) (ls : Lines) (c g bx : Nat) (fs cs : Array Value) (A1 : Nat → Option Addr) (c1 : Nat → Nat) (A2 : Nat → Option Addr) (c2 : Nat → Nat) (p : Nat → Bool) (w : World) (he : Enters g) (hB : B ≤ w.heap.size) (hbx : bx < w.heap.size) (hn : ls.length ≤ 9223372036854775807)
    (hcell : w.cell? ⟨bx, 0, none⟩ = some (.func (.func g) fs cs)) (hel : ElL B w A ls A1 c1 A2 c2) (hr : RightL B w ls.length g fs cs (lineV ls A1 c1 A2 c2) p) :
    Calls Try.prog 99 #[.slice A ls.length c, .func (.func 100) #[] #[.pointer (some ⟨bx, 0, none⟩)]] w (Ans w (.bool (!allB ls.length p))) := by
  have H := Lib.hid (indexL A ls c g bx fs cs A1 c1 A2 c2 p w he hB hbx hn hcell hel hr)
  clear hcell hr he
  go_enter Try.func99, Try.ntmps99
  go_wp2_with fail
  refine H.out.mono ?_
  rintro e w1 (⟨k, rfl, hk, hb⟩ | ⟨rfl, hk, hb⟩)
  · go_wp2_with fail
    go_ret
    exact ⟨ret_bool (by rw [hk]; simp), hb⟩
  · go_wp2_with fail
    go_ret
    exact ⟨ret_bool (by rw [hk]; rfl), hb⟩

set_option maxHeartbeats 400000 in
theorem allL {B : Nat} (A : Option Addr) (ls : Lines) (c g : Nat) (fs cs : Array Value) (A1 : Nat → Option Addr) (c1 : Nat → Nat) (A2 : Nat → Option Addr) (c2 : Nat → Nat) (p : Nat → Bool) (w : World) (he : Enters g) (hB : B ≤ w.heap.size) (hn : ls.length ≤ 9223372036854775807)
    (hel : ElL B w A ls A1 c1 A2 c2) (hr : RightL B w ls.length g fs cs (lineV ls A1 c1 A2 c2) p) :
    Calls Try.prog 92 #[.slice A ls.length c, .func (.func g) fs cs] w (Ans w (.bool (allB ls.length p))) := by
  have hw : Below B w (w.alloc (.cells #[.func (.func g) fs cs] 108)) := (Below.refl _ _).alloc hB _
  have H := Lib.hid (containsL (B := B) A ls c g w.heap.size fs cs A1 c1 A2 c2 p (w.alloc (.cells #[.func (.func g) fs cs] 108)) he (by simp; omega) (by simp) hn (by simp) (hel.below hw) (fun k hk W hW => hr k hk W (hw.trans hW)))
  clear hr he
  go_enter Try.func92, Try.ntmps92
  go_wp2_with fail
  refine H.out.mono ?_
  rintro e w1 ⟨rfl, hb⟩
  go_wp2_with fail
  go_ret
  exact ⟨ret_bool (by simp), (((Below.refl w.heap.size w).alloc (Nat.le_refl _) _).trans (hb.mono (by simp)))⟩

noncomputable def linesB (xss : List (List Int)) (ls : Lines) : Bool := allB ls.length fun k => lineB xss (lx ls k).1 (lx ls k).2
/-- The error of a lane with a block. -/
noncomputable def blockErr (xss : List (List Int)) (lo hi ca : Int) (ls : Lines) : Int := if laneErr xss lo hi ca = 0 then (if ls.length ≤ 20 then (if linesB xss ls then 0 else 2) else 3) else laneErr xss lo hi ca

set_option maxHeartbeats 2000000 in
theorem block_c {B : Nat} (A A' : Option Addr) (xss : List (List Int)) (ls : Lines) (c c' : Nat) (lo hi ca : Int) (w : World) (hB : B ≤ w.heap.size) (hr : Grd B w A xss) (hy : Lns B w A' ls) (hc : xss.length ≤ c ∧ c ≤ 9223372036854775807) (_hc' : ls.length ≤ c' ∧ c' ≤ 9223372036854775807) :
    Calls Try.prog 76 #[.agg #[.slice A xss.length c, .int .i64 lo, .int .i64 hi, .int .i64 ca], .slice A' ls.length c'] w (Ans w (.int .i64 (blockErr xss lo hi ca ls))) := by
  have hw1 : Below w.heap.size w (w.alloc (.cells #[.slice A xss.length c, .int .i64 lo, .int .i64 hi, .int .i64 ca] 34)) := (Below.refl _ _).alloc (Nat.le_refl _) _
  have hz1 := hw1.size
  have H1 := Lib.hid (checkLane_c (B := B) A xss c lo hi ca (w.alloc (.cells #[.slice A xss.length c, .int .i64 lo, .int .i64 hi, .int .i64 ca] 34)) (by omega) (hr.below (hw1.mono hB)) hc)
  by_cases h1 : laneErr xss lo hi ca = 0
  · obtain ⟨h0, h8⟩ := laneErr_pos h1
    have H0 := Lib.hid h1
    clear h1
    obtain ⟨A1, c1, A2, c2, hel, hvs⟩ := hy.el
    go_enter Try.func76, Try.ntmps76
    go_wp2_with fail
    refine H1.out.mono ?_
    rw [H0.out]
    rintro e w1 ⟨rfl, hb1⟩
    have hb2 := hw1.trans (hb1.mono hz1)
    have hz2 := hb2.size
    obtain ⟨hcell, hfroz⟩ := bcell hb1
    by_cases h2 : ls.length ≤ 20
    · have H2 := Lib.hid (allL (B := B) A' ls c' 73 #[.agg #[.slice A xss.length c, .int .i64 lo, .int .i64 hi, .int .i64 ca]] #[] A1 c1 A2 c2 (fun k => lineB xss (lx ls k).1 (lx ls k).2) w1 enters73 (Nat.le_trans hB hz2) (by omega) (hel.below (hb2.mono hB)) (fun k hk W hW => by
        obtain ⟨q1, q2, q3, q4⟩ := hvs k hk
        have hbb : Below B w W := (hb2.mono hB).trans hW
        exact line_c (B := B) A (A1 k) (A2 k) xss (lx ls k).1 (lx ls k).2 c (c1 k) (c2 k) lo hi ca W (Nat.le_trans hB hbb.size) (hr.below hbb) (q3.below hbb) (q4.below hbb) h0 hc q1 q2))
      cases h3 : linesB xss ls
      · have HR : Hid (blockErr xss lo hi ca ls = 2) := by show _ = _; simp [blockErr, H0.out, h2, h3]
        have H3 : Hid (allB ls.length (fun k => lineB xss (lx ls k).1 (lx ls k).2) = false) := h3
        clear h3
        go_wp2_with fail
        refine H2.out.mono ?_
        rw [H3.out]
        rintro e w2 ⟨rfl, hb3⟩
        go_wp2_with fail
        go_ret
        exact ⟨ret_int HR.out.symm, hb2.trans (hb3.mono hz2)⟩
      · have HR : Hid (blockErr xss lo hi ca ls = 0) := by show _ = _; simp [blockErr, H0.out, h2, h3]
        have H3 : Hid (allB ls.length (fun k => lineB xss (lx ls k).1 (lx ls k).2) = true) := h3
        clear h3
        go_wp2_with fail
        refine H2.out.mono ?_
        rw [H3.out]
        rintro e w2 ⟨rfl, hb3⟩
        go_wp2_with fail
        go_ret
        exact ⟨ret_int HR.out.symm, hb2.trans (hb3.mono hz2)⟩
    · have HR : Hid (blockErr xss lo hi ca ls = 3) := by show _ = _; simp [blockErr, H0.out, h2]
      go_wp2_with fail
      go_ret
      exact ⟨ret_int HR.out.symm, hb2⟩
  · have h1' : (laneErr xss lo hi ca != 0) = true := by simp [h1]
    have HR : Hid (blockErr xss lo hi ca ls = laneErr xss lo hi ca) := by show _ = _; simp [blockErr, h1]
    go_enter Try.func76, Try.ntmps76
    go_wp2_with fail
    refine H1.out.mono ?_
    rintro e w1 ⟨rfl, hb1⟩
    go_wp2_with fail
    go_ret
    exact ⟨ret_int HR.out.symm, hw1.trans (hb1.mono hz1)⟩
end Go.Proofs.Ytgnonfomlgkpcaa
