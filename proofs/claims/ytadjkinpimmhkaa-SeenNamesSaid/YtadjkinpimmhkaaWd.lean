/-
  Words; what checks them; CheckLane.
-/
import Derived.Test.YtadjkinpimmhkaaA
namespace Go.Proofs.Ytadjkinpimmhkaa
open Go.RowKit

/-- What a teller says: frame, ball, teller, least, most. -/
structure Wd where
  fr : Int
  ba : Int
  te : Int
  lo : Int
  hi : Int
def wx (ws : List Wd) (k : Nat) : Wd := ws.getD k ⟨0, 0, 0, 0, 0⟩
theorem wx_lt {ws : List Wd} {k : Nat} (h : k < ws.length) : wx ws k = ws[k] := by simp [wx, h]
/-- A word's value, the program's or the reference's. -/
def wV (x : Wd) : Value := .agg #[.int .i64 x.fr, .int .i64 x.ba, .int .i64 x.te, .int .i64 x.lo, .int .i64 x.hi]

def W5 (w : World) (b p : Nat) (x : Wd) : Prop :=
  w.cell? ⟨b, p, none⟩ = some (.int .i64 x.fr) ∧ w.cell? ⟨b, p + 1, none⟩ = some (.int .i64 x.ba) ∧ w.cell? ⟨b, p + 2, none⟩ = some (.int .i64 x.te) ∧ w.cell? ⟨b, p + 3, none⟩ = some (.int .i64 x.lo) ∧ w.cell? ⟨b, p + 4, none⟩ = some (.int .i64 x.hi)
theorem W5.below {B : Nat} {w w' : World} {b p : Nat} {x : Wd} (h : W5 w b p x) (hb : Below B w w') (hlt : b < B) : W5 w' b p x :=
  ⟨(hb.cell (p := ⟨b, p, none⟩) hlt).trans h.1, (hb.cell (p := ⟨b, p + 1, none⟩) hlt).trans h.2.1, (hb.cell (p := ⟨b, p + 2, none⟩) hlt).trans h.2.2.1, (hb.cell (p := ⟨b, p + 3, none⟩) hlt).trans h.2.2.2.1, (hb.cell (p := ⟨b, p + 4, none⟩) hlt).trans h.2.2.2.2⟩

/-- The slice address A has the words ws. -/
def Wds (B : Nat) (w : World) (A : Option Addr) (ws : List Wd) : Prop :=
  0 < ws.length → ∃ b off, A = some ⟨b, off, none⟩ ∧ b < B ∧ ∀ k, k < ws.length → W5 w b (off + k * 5) (wx ws k)
theorem Wds.at_ {B : Nat} {w : World} {A : Option Addr} {ws : List Wd} (h : Wds B w A ws) {k : Nat} (hk : k < ws.length) : ∃ b off, A = some ⟨b, off, none⟩ ∧ b < B ∧ W5 w b (off + k * 5) (wx ws k) := by
  obtain ⟨b, off, hA, hb, hc⟩ := h (by omega)
  exact ⟨b, off, hA, hb, hc k hk⟩
theorem Wds.below {B : Nat} {w w' : World} {A : Option Addr} {ws : List Wd} (h : Wds B w A ws) (hb : Below B w w') : Wds B w' A ws := fun hp => by
  obtain ⟨b, off, hA, hlt, hc⟩ := h hp
  exact ⟨b, off, hA, hlt, fun k hk => (hc k hk).below hb hlt⟩
theorem Wds.more {B B' : Nat} {w : World} {A : Option Addr} {ws : List Wd} (h : Wds B w A ws) (hB : B ≤ B') : Wds B' w A ws := fun hp => by
  obtain ⟨b, off, hA, hlt, hc⟩ := h hp
  exact ⟨b, off, hA, by omega, hc⟩
theorem Wds.step {w w' : World} {A : Option Addr} {ws : List Wd} (h : Wds w.heap.size w A ws) (hb : Below w.heap.size w w') : Wds w'.heap.size w' A ws := (h.below hb).more hb.size
theorem wds_nil (B : Nat) (w : World) : Wds B w none [] := fun h => by simp at h

/-- Is a word one of a lane of so many frames? -/
def wordB (fr : Int) (x : Wd) : Bool := inB x.fr 0 (fr - 1) && (inB x.ba 0 1 && (inB x.te 0 3 && (decide (0 ≤ x.lo) && (decide (x.lo ≤ x.hi) && decide (x.hi ≤ 10)))))

/-- The function g, with what is bound and captured, says p k of word k, in whatever world that has the old blocks. -/
def RightW (B : Nat) (w : World) (n g : Nat) (fs cs : Array Value) (ws : List Wd) (p : Nat → Bool) : Prop :=
  ∀ k, k < n → ∀ W, Below B w W → Calls Try.prog g (fs.push (wV (wx ws k)) ++ cs) W (Ans W (.bool (p k)))
theorem RightW.below {B : Nat} {w w' : World} {n g : Nat} {fs cs : Array Value} {ws : List Wd} {p : Nat → Bool} (h : RightW B w n g fs cs ws p) (hb : Below B w w') : RightW B w' n g fs cs ws p :=
  fun k hk W hW => h k hk W (hb.trans hW)

set_option maxHeartbeats 1000000 in
theorem word_c (A : Option Addr) (n c : Nat) (fr : Int) (x : Wd) (w : World) (h1 : 1 ≤ fr) (h5 : fr ≤ 5) :
    Calls Try.prog 53 #[.agg #[.int .i64 fr, .slice A n c], wV x] w (Ans w (.bool (wordB fr x))) := by
  obtain ⟨xf, xb, xt, xl, xh⟩ := x
  unfold wV
  dsimp only
  have hb0 : Below w.heap.size w ((w.alloc (.cells #[.int .i64 fr, .slice A n c] 32)).alloc (.cells #[.int .i64 xf, .int .i64 xb, .int .i64 xt, .int .i64 xl, .int .i64 xh] 85)) := ((Below.refl _ _).alloc (Nat.le_refl _) _).alloc (by simp) _
  have HB := Lib.hid hb0
  clear hb0
  cases t0 : inB xf 0 (fr - 1)
  · go_enter Try.func53, Try.ntmps53
    go_wp2_with (go_at_call 51; refine (within_c _ _ _ _).mono ?_; rintro e w1 ⟨rfl, rfl⟩)
    go_ret
    exact ⟨ret_bool (by first | (simp [wordB, *]; done) | (simp [wordB, *]; omega)), HB.out⟩
  · cases t1 : inB xb 0 1
    · go_enter Try.func53, Try.ntmps53
      go_wp2_with (go_at_call 51; refine (within_c _ _ _ _).mono ?_; rintro e w1 ⟨rfl, rfl⟩)
      go_ret
      exact ⟨ret_bool (by first | (simp [wordB, *]; done) | (simp [wordB, *]; omega)), HB.out⟩
    · cases t2 : inB xt 0 3
      · go_enter Try.func53, Try.ntmps53
        go_wp2_with (go_at_call 51; refine (within_c _ _ _ _).mono ?_; rintro e w1 ⟨rfl, rfl⟩)
        go_ret
        exact ⟨ret_bool (by first | (simp [wordB, *]; done) | (simp [wordB, *]; omega)), HB.out⟩
      · by_cases t3 : 0 ≤ xl
        · by_cases t4 : xl ≤ xh
          · by_cases t5 : xh ≤ 10
            · go_enter Try.func53, Try.ntmps53
              go_wp2_with (go_at_call 51; refine (within_c _ _ _ _).mono ?_; rintro e w1 ⟨rfl, rfl⟩)
              go_ret
              exact ⟨ret_bool (by first | (simp [wordB, *]; done) | (simp [wordB, *]; omega)), HB.out⟩
            · go_enter Try.func53, Try.ntmps53
              go_wp2_with (go_at_call 51; refine (within_c _ _ _ _).mono ?_; rintro e w1 ⟨rfl, rfl⟩)
              go_ret
              exact ⟨ret_bool (by first | (simp [wordB, *]; done) | (simp [wordB, *]; omega)), HB.out⟩
          · go_enter Try.func53, Try.ntmps53
            go_wp2_with (go_at_call 51; refine (within_c _ _ _ _).mono ?_; rintro e w1 ⟨rfl, rfl⟩)
            go_ret
            exact ⟨ret_bool (by first | (simp [wordB, *]; done) | (simp [wordB, *]; omega)), HB.out⟩
        · go_enter Try.func53, Try.ntmps53
          go_wp2_with (go_at_call 51; refine (within_c _ _ _ _).mono ?_; rintro e w1 ⟨rfl, rfl⟩)
          go_ret
          exact ⟨ret_bool (by first | (simp [wordB, *]; done) | (simp [wordB, *]; omega)), HB.out⟩

set_option maxHeartbeats 400000 in
theorem clW (g bx : Nat) (fs cs : Array Value) (x : Wd) (W : World) (b : Bool) (he : Enters g)
    (hbx : W.cell? ⟨bx, 0, none⟩ = some (.func (.func g) fs cs)) (hc : Calls Try.prog g (fs.push (wV x) ++ cs) (W.alloc (.cells #[.int .i64 x.fr, .int .i64 x.ba, .int .i64 x.te, .int .i64 x.lo, .int .i64 x.hi] 85)) (Ans (W.alloc (.cells #[.int .i64 x.fr, .int .i64 x.ba, .int .i64 x.te, .int .i64 x.lo, .int .i64 x.hi] 85)) (.bool b))) :
    Calls Try.prog 70 #[wV x, .pointer (some ⟨bx, 0, none⟩)] W (Ans W (.bool (!b))) := by
  have H := Lib.hid hc
  clear hc
  unfold Enters at he
  obtain ⟨xf, xb, xt, xl, xh⟩ := x
  unfold wV at H ⊢
  dsimp only at H ⊢
  have hbx2 := cell_alloc_keep (.cells #[.int .i64 xf, .int .i64 xb, .int .i64 xt, .int .i64 xl, .int .i64 xh] 85) hbx
  have hb0 : Below W.heap.size W (W.alloc (.cells #[.int .i64 xf, .int .i64 xb, .int .i64 xt, .int .i64 xl, .int .i64 xh] 85)) := (Below.refl _ _).alloc (Nat.le_refl _) _
  have hz0 := hb0.size
  go_enter Try.func70, Try.ntmps70
  go_wp2_with fail
  refine H.out.mono ?_
  rintro e w1 ⟨rfl, hb⟩
  go_wp2_with fail
  go_ret
  exact ⟨rfl, hb0.trans (hb.mono hz0)⟩

set_option maxHeartbeats 400000 in
theorem indexW {B : Nat} (A : Option Addr) (c g bx : Nat) (fs cs : Array Value) (ws : List Wd) (p : Nat → Bool) (w : World) (he : Enters g) (hB : B ≤ w.heap.size) (hbx : bx < w.heap.size) (hn : ws.length ≤ 9223372036854775807)
    (hcell : w.cell? ⟨bx, 0, none⟩ = some (.func (.func g) fs cs)) (hel : Wds B w A ws) (hr : RightW B w ws.length g fs cs ws p) :
    Calls Try.prog 81 #[.slice A ws.length c, .func (.func 70) #[] #[.pointer (some ⟨bx, 0, none⟩)]] w (Found w ws.length p) := by
  have HR := Lib.hid hr
  have HC := Lib.hid hcell
  have HE := Lib.hid he
  clear hr hcell he
  go_enter Try.func81, Try.ntmps81
  go_wp2_with fail
  go_loopw [8] (fun i wr => ∃ k : Nat, k ≤ ws.length ∧ i = .int .i64 k ∧ AllB k p ∧ Below w.heap.size w wr) (fun i _ => ws.length - (intOf i).toNat)
  case atStart => exact ⟨0, by omega, rfl, fun j hj => by omega, Below.refl _ _⟩
  case round =>
    obtain ⟨k, hk, rfl, hp, hb⟩ := hrel
    by_cases h1 : k < ws.length
    · obtain ⟨b, off, rfl, hb1, hc0⟩ := hel.at_ h1
      obtain ⟨c1, c2, c3, c4, c5⟩ := (hc0.below hb (by omega) : W5 wr b (off + k * 5) (wx ws k))
      clear hc0
      have hz := hb.size
      have hcl := clW g bx fs cs (wx ws k) wr (p k) HE.out ((hb.cell (p := ⟨bx, 0, none⟩) hbx).trans HC.out) (HR.out k h1 _ ((hb.mono hB).alloc (by omega) _))
      unfold wV at hcl
      have HCL := Lib.hid hcl
      clear hcl
      cases hpk : p k
      · have HP := Lib.hid hpk
        clear hpk
        go_wp2_with fail
        refine HCL.out.mono ?_
        rw [HP.out]
        rintro e w1 ⟨rfl, hb2⟩
        go_wp2_with fail
        go_ret
        exact found_at h1 HP.out (hb.trans (hb2.mono hz))
      · have HP := Lib.hid hpk
        clear hpk
        go_wp2_with fail
        refine HCL.out.mono ?_
        rw [HP.out]
        rintro e w1 ⟨rfl, hb2⟩
        go_wp2_with fail
        go_roundw
        case rel => exact ⟨k + 1, by omega, by go_num, hp.succ HP.out, hb.trans (hb2.mono hz)⟩
        case measure => simp [intOf]; omega
    · go_wp2_with fail
      go_ret
      exact found_none (by have : k = ws.length := by omega
                           rwa [this] at hp) hb

set_option maxHeartbeats 400000 in
theorem containsW {B : Nat} (A : Option Addr) (c g bx : Nat) (fs cs : Array Value) (ws : List Wd) (p : Nat → Bool) (w : World) (he : Enters g) (hB : B ≤ w.heap.size) (hbx : bx < w.heap.size) (hn : ws.length ≤ 9223372036854775807)
    (hcell : w.cell? ⟨bx, 0, none⟩ = some (.func (.func g) fs cs)) (hel : Wds B w A ws) (hr : RightW B w ws.length g fs cs ws p) :
    Calls Try.prog 69 #[.slice A ws.length c, .func (.func 70) #[] #[.pointer (some ⟨bx, 0, none⟩)]] w (Ans w (.bool (!allB ws.length p))) := by
  have H := Lib.hid (indexW A c g bx fs cs ws p w he hB hbx hn hcell hel hr)
  clear hcell hr he
  go_enter Try.func69, Try.ntmps69
  go_wp2_with fail
  refine H.out.mono ?_
  rintro e w1 (⟨k, rfl, hk, hb⟩ | ⟨rfl, hk, hb⟩)
  · go_wp2_with fail
    go_ret
    exact ⟨ret_bool (by rw [hk]; simp), hb⟩
  · go_wp2_with fail
    go_ret
    exact ⟨ret_bool (by rw [hk]; rfl), hb⟩

set_option maxHeartbeats 400000 in
theorem allW {B : Nat} (A : Option Addr) (c g : Nat) (fs cs : Array Value) (ws : List Wd) (p : Nat → Bool) (w : World) (he : Enters g) (hB : B ≤ w.heap.size) (hn : ws.length ≤ 9223372036854775807)
    (hel : Wds B w A ws) (hr : RightW B w ws.length g fs cs ws p) :
    Calls Try.prog 52 #[.slice A ws.length c, .func (.func g) fs cs] w (Ans w (.bool (allB ws.length p))) := by
  have hw : Below B w (w.alloc (.cells #[.func (.func g) fs cs] 89)) := (Below.refl _ _).alloc hB _
  have H := Lib.hid (containsW (B := B) A c g w.heap.size fs cs ws p (w.alloc (.cells #[.func (.func g) fs cs] 89)) he (by simp; omega) (by simp) hn (by simp) (hel.below hw) (hr.below hw))
  clear hr he
  go_enter Try.func52, Try.ntmps52
  go_wp2_with fail
  refine H.out.mono ?_
  rintro e w1 ⟨rfl, hb⟩
  go_wp2_with fail
  go_ret
  exact ⟨ret_bool (by simp), (((Below.refl w.heap.size w).alloc (Nat.le_refl _) _).trans (hb.mono (by simp)))⟩

theorem enters53 : Enters 53 := fun _ _ => enters_of Try.func53 (by kernel_rfl) rfl _ _

/-- The error of a lane. -/
noncomputable def laneErr (fr : Int) (ws : List Wd) : Int := if ws.length ≤ 30 then (if inB fr 1 5 && allB ws.length (fun k => wordB fr (wx ws k)) then 0 else 1) else 3

set_option maxHeartbeats 1000000 in
theorem checkLane_c {B : Nat} (A : Option Addr) (ws : List Wd) (c : Nat) (fr : Int) (w : World) (hB : B ≤ w.heap.size) (hr : Wds B w A ws) (_hc : ws.length ≤ c ∧ c ≤ 9223372036854775807) :
    Calls Try.prog 19 #[.agg #[.int .i64 fr, .slice A ws.length c]] w (Ans w (.int .i64 (laneErr fr ws))) := by
  have hw1 : Below w.heap.size w (w.alloc (.cells #[.int .i64 fr, .slice A ws.length c] 32)) := (Below.refl _ _).alloc (Nat.le_refl _) _
  have hz1 := hw1.size
  by_cases h1 : ws.length ≤ 30
  · cases h2 : inB fr 1 5
    · have HR : Hid (laneErr fr ws = 1) := by show _ = _; simp [laneErr, h1, h2]
      go_enter Try.func19, Try.ntmps19
      go_wp2_with (go_at_call 51; refine (within_c _ _ _ _).mono ?_; rintro e w1 ⟨rfl, rfl⟩)
      go_ret
      exact ⟨ret_int HR.out.symm, hw1⟩
    · obtain ⟨hf1, hf5⟩ := (inB_eq _ _ _).1 h2
      have HR : Hid (laneErr fr ws = if allB ws.length (fun k => wordB fr (wx ws k)) then 0 else 1) := by show _ = _; simp [laneErr, h1, h2]
      have H1 := Lib.hid (allW (B := B) A c 53 #[.agg #[.int .i64 fr, .slice A ws.length c]] #[] ws (fun k => wordB fr (wx ws k)) (w.alloc (.cells #[.int .i64 fr, .slice A ws.length c] 32)) enters53 (Nat.le_trans hB hz1) (by omega) (hr.below (hw1.mono hB)) (fun k _ W _ => word_c A ws.length c fr (wx ws k) W hf1 hf5))
      cases h3 : allB ws.length (fun k => wordB fr (wx ws k))
      all_goals
        have H3 := Lib.hid h3
        clear h3
        go_enter Try.func19, Try.ntmps19
        go_wp2_with (go_at_call 51; refine (within_c _ _ _ _).mono ?_; rintro e w1 ⟨rfl, rfl⟩)
        refine H1.out.mono ?_
        rw [H3.out]
        rintro e w1 ⟨rfl, hb⟩
        go_wp2_with fail
        go_ret
        exact ⟨ret_int (by rw [HR.out, H3.out]; rfl), hw1.trans (hb.mono hz1)⟩
  · have HR : Hid (laneErr fr ws = 3) := by show _ = _; simp [laneErr, h1]
    go_enter Try.func19, Try.ntmps19
    go_wp2_with fail
    go_ret
    exact ⟨ret_int HR.out.symm, hw1⟩
end Go.Proofs.Ytadjkinpimmhkaa
