/-
  seen: games that words are told of; ranges; proofs of games (carried over from the proofs of the chapter 03).
-/
import Derived.Test.YtenpiinkbfancaaBase
import Derived.Test.YtenpiinkbfancaaGen
import Derived.Test.YtenpiinkbfancaaR
import Derived.Test.YtenpiinkbfancaaT
import Derived.Test.YtenpiinkbfancaaRt
import Derived.WalkMore
namespace Go.Proofs.Ytenpiinkbfancaa.Sn
open Go.RowKit
set_option linter.unusedSimpArgs false
set_option linter.unusedVariables false

section
open Go.RowKit
set_option maxHeartbeats 400000 in
theorem within_c (n lo hi : Int) (w : World) : Calls Try.prog 65 #[.int .i64 n, .int .i64 lo, .int .i64 hi] w (Same w (.bool (inB n lo hi))) := by
  by_cases h : lo ≤ n
  · go_enter Try.func65, Try.ntmps65
    go_wp2
    go_ret
    exact ⟨ret_bool (by simp [inB, h]), rfl⟩
  · go_enter Try.func65, Try.ntmps65
    go_wp2
    go_ret
    exact ⟨ret_bool (by simp only [inB]; rw [decide_eq_false (by omega)]; rfl), rfl⟩
set_option maxHeartbeats 400000 in
theorem in_c (n lo hi : Int) (w : World) : Calls Try.prog 41 #[.int .i64 n, .int .i64 lo, .int .i64 hi] w (Same w (.bool (inB n lo hi))) := by
  by_cases h : lo ≤ n
  · go_enter Try.func41, Try.ntmps41
    go_wp2
    go_ret
    exact ⟨ret_bool (by simp [inB, h]), rfl⟩
  · go_enter Try.func41, Try.ntmps41
    go_wp2
    go_ret
    exact ⟨ret_bool (by simp only [inB]; rw [decide_eq_false (by omega)]; rfl), rfl⟩
set_option maxHeartbeats 400000 in
theorem max2_c (g : Nat) (x y : Int) (w : World) (h0 : w.cell? ⟨g, 0, none⟩ = some (.int .i64 x)) (h1 : w.cell? ⟨g, 1, none⟩ = some (.int .i64 y)) :
    Calls Try.prog 118 #[.slice (some ⟨g, 0, none⟩) 2 2] w (Same w (.int .i64 (max x y))) := by
  go_enter Try.func118, Try.ntmps118
  go_wp2
  go_loop [3, 4] (fun m i => (m = .int .i64 x ∧ i = .int .i64 1) ∨ (m = .int .i64 (max x y) ∧ i = .int .i64 2)) (fun _ i => 2 - (intOf i).toNat)
  case atStart => exact .inl ⟨rfl, rfl⟩
  case round =>
    rcases hrel with ⟨rfl, rfl⟩ | ⟨rfl, rfl⟩
    · go_wp2
      all_goals
        go_round
        case rel => exact .inr ⟨by congr 1; omega, rfl⟩
        case measure => simp [intOf]
    · go_wp2
      go_ret
      exact ⟨rfl, rfl⟩
set_option maxHeartbeats 400000 in
theorem min2_c (g : Nat) (x y : Int) (w : World) (h0 : w.cell? ⟨g, 0, none⟩ = some (.int .i64 x)) (h1 : w.cell? ⟨g, 1, none⟩ = some (.int .i64 y)) :
    Calls Try.prog 117 #[.slice (some ⟨g, 0, none⟩) 2 2] w (Same w (.int .i64 (min x y))) := by
  go_enter Try.func117, Try.ntmps117
  go_wp2
  go_loop [3, 4] (fun m i => (m = .int .i64 x ∧ i = .int .i64 1) ∨ (m = .int .i64 (min x y) ∧ i = .int .i64 2)) (fun _ i => 2 - (intOf i).toNat)
  case atStart => exact .inl ⟨rfl, rfl⟩
  case round =>
    rcases hrel with ⟨rfl, rfl⟩ | ⟨rfl, rfl⟩
    · go_wp2
      all_goals
        go_round
        case rel => exact .inr ⟨by congr 1; omega, rfl⟩
        case measure => simp [intOf]
    · go_wp2
      go_ret
      exact ⟨rfl, rfl⟩
set_option maxHeartbeats 400000 in
theorem greatest_c (g : Nat) (x y : Int) (w : World) (h0 : w.cell? ⟨g, 0, none⟩ = some (.int .i64 x)) (h1 : w.cell? ⟨g, 1, none⟩ = some (.int .i64 y)) :
    Calls Try.prog 100 #[.slice (some ⟨g, 0, none⟩) 2 2] w (Same w (.int .i64 (max x y))) := by
  go_enter Try.func100, Try.ntmps100
  go_wp2_with (go_at_call 118; refine (max2_c _ _ _ _ h0 h1).mono ?_; rintro e w' ⟨rfl, rfl⟩)
  go_ret
  exact ⟨rfl, rfl⟩
set_option maxHeartbeats 400000 in
theorem least_c (g : Nat) (x y : Int) (w : World) (h0 : w.cell? ⟨g, 0, none⟩ = some (.int .i64 x)) (h1 : w.cell? ⟨g, 1, none⟩ = some (.int .i64 y)) :
    Calls Try.prog 99 #[.slice (some ⟨g, 0, none⟩) 2 2] w (Same w (.int .i64 (min x y))) := by
  go_enter Try.func99, Try.ntmps99
  go_wp2_with (go_at_call 117; refine (min2_c _ _ _ _ h0 h1).mono ?_; rintro e w' ⟨rfl, rfl⟩)
  go_ret
  exact ⟨rfl, rfl⟩
end

section
open Go.RowKit
/-- What a teller says: frame, ball, teller, least, most. -/
structure Wd where
  fr : Int
  ba : Int
  te : Int
  lo : Int
  hi : Int
def wx (ws : List Wd) (k : Nat) : Wd := ws.getD k ⟨0, 0, 0, 0, 0⟩
theorem wx_lt {ws : List Wd} {k : Nat} (h : k < ws.length) : wx ws k = ws[k] := by simp [wx, h]
/-- A word's value, the program's or the reference's. -/
def wV (x : Wd) : Value := .agg #[.int .i64 x.fr, .int .i64 x.ba, .int .i64 x.te, .int .i64 x.lo, .int .i64 x.hi]
def W5 (w : World) (b p : Nat) (x : Wd) : Prop :=
  w.cell? ⟨b, p, none⟩ = some (.int .i64 x.fr) ∧ w.cell? ⟨b, p + 1, none⟩ = some (.int .i64 x.ba) ∧ w.cell? ⟨b, p + 2, none⟩ = some (.int .i64 x.te) ∧ w.cell? ⟨b, p + 3, none⟩ = some (.int .i64 x.lo) ∧ w.cell? ⟨b, p + 4, none⟩ = some (.int .i64 x.hi)
theorem W5.below {B : Nat} {w w' : World} {b p : Nat} {x : Wd} (h : W5 w b p x) (hb : Below B w w') (hlt : b < B) : W5 w' b p x :=
  ⟨(hb.cell (p := ⟨b, p, none⟩) hlt).trans h.1, (hb.cell (p := ⟨b, p + 1, none⟩) hlt).trans h.2.1, (hb.cell (p := ⟨b, p + 2, none⟩) hlt).trans h.2.2.1, (hb.cell (p := ⟨b, p + 3, none⟩) hlt).trans h.2.2.2.1, (hb.cell (p := ⟨b, p + 4, none⟩) hlt).trans h.2.2.2.2⟩
/-- The slice address A has the words ws. -/
def Wds (B : Nat) (w : World) (A : Option Addr) (ws : List Wd) : Prop :=
  0 < ws.length → ∃ b off, A = some ⟨b, off, none⟩ ∧ b < B ∧ ∀ k, k < ws.length → W5 w b (off + k * 5) (wx ws k)
theorem Wds.at_ {B : Nat} {w : World} {A : Option Addr} {ws : List Wd} (h : Wds B w A ws) {k : Nat} (hk : k < ws.length) : ∃ b off, A = some ⟨b, off, none⟩ ∧ b < B ∧ W5 w b (off + k * 5) (wx ws k) := by
  obtain ⟨b, off, hA, hb, hc⟩ := h (by omega)
  exact ⟨b, off, hA, hb, hc k hk⟩
theorem Wds.below {B : Nat} {w w' : World} {A : Option Addr} {ws : List Wd} (h : Wds B w A ws) (hb : Below B w w') : Wds B w' A ws := fun hp => by
  obtain ⟨b, off, hA, hlt, hc⟩ := h hp
  exact ⟨b, off, hA, hlt, fun k hk => (hc k hk).below hb hlt⟩
theorem Wds.more {B B' : Nat} {w : World} {A : Option Addr} {ws : List Wd} (h : Wds B w A ws) (hB : B ≤ B') : Wds B' w A ws := fun hp => by
  obtain ⟨b, off, hA, hlt, hc⟩ := h hp
  exact ⟨b, off, hA, by omega, hc⟩
theorem Wds.step {w w' : World} {A : Option Addr} {ws : List Wd} (h : Wds w.heap.size w A ws) (hb : Below w.heap.size w w') : Wds w'.heap.size w' A ws := (h.below hb).more hb.size
/-- Is a word one of a lane of so many frames? -/
def wordB (fr : Int) (x : Wd) : Bool := inB x.fr 0 (fr - 1) && (inB x.ba 0 1 && (inB x.te 0 3 && (decide (0 ≤ x.lo) && (decide (x.lo ≤ x.hi) && decide (x.hi ≤ 10)))))
/-- The function g, with what is bound and captured, says p k of word k, in whatever world that has the old blocks. -/
def RightW (B : Nat) (w : World) (n g : Nat) (fs cs : Array Value) (ws : List Wd) (p : Nat → Bool) : Prop :=
  ∀ k, k < n → ∀ W, Below B w W → Calls Try.prog g (fs.push (wV (wx ws k)) ++ cs) W (Ans W (.bool (p k)))
theorem RightW.below {B : Nat} {w w' : World} {n g : Nat} {fs cs : Array Value} {ws : List Wd} {p : Nat → Bool} (h : RightW B w n g fs cs ws p) (hb : Below B w w') : RightW B w' n g fs cs ws p :=
  fun k hk W hW => h k hk W (hb.trans hW)
set_option maxHeartbeats 1000000 in
theorem word_c (A : Option Addr) (n c : Nat) (fr : Int) (x : Wd) (w : World) (h1 : 1 ≤ fr) (h5 : fr ≤ 5) :
    Calls Try.prog 180 #[.agg #[.int .i64 fr, .slice A n c], wV x] w (Ans w (.bool (wordB fr x))) := by
  obtain ⟨xf, xb, xt, xl, xh⟩ := x
  unfold wV
  dsimp only
  have hb0 : Below w.heap.size w ((w.alloc (.cells #[.int .i64 fr, .slice A n c] 40)).alloc (.cells #[.int .i64 xf, .int .i64 xb, .int .i64 xt, .int .i64 xl, .int .i64 xh] 82)) := ((Below.refl _ _).alloc (Nat.le_refl _) _).alloc (by simp) _
  have HB := Lib.hid hb0
  clear hb0
  cases t0 : inB xf 0 (fr - 1)
  · go_enter Try.func180, Try.ntmps180
    go_wp2_with (go_at_call 65; refine (within_c _ _ _ _).mono ?_; rintro e w1 ⟨rfl, rfl⟩)
    go_ret
    exact ⟨ret_bool (by first | (simp [wordB, *]; done) | (simp [wordB, *]; omega)), HB.out⟩
  · cases t1 : inB xb 0 1
    · go_enter Try.func180, Try.ntmps180
      go_wp2_with (go_at_call 65; refine (within_c _ _ _ _).mono ?_; rintro e w1 ⟨rfl, rfl⟩)
      go_ret
      exact ⟨ret_bool (by first | (simp [wordB, *]; done) | (simp [wordB, *]; omega)), HB.out⟩
    · cases t2 : inB xt 0 3
      · go_enter Try.func180, Try.ntmps180
        go_wp2_with (go_at_call 65; refine (within_c _ _ _ _).mono ?_; rintro e w1 ⟨rfl, rfl⟩)
        go_ret
        exact ⟨ret_bool (by first | (simp [wordB, *]; done) | (simp [wordB, *]; omega)), HB.out⟩
      · by_cases t3 : 0 ≤ xl
        · by_cases t4 : xl ≤ xh
          · by_cases t5 : xh ≤ 10
            · go_enter Try.func180, Try.ntmps180
              go_wp2_with (go_at_call 65; refine (within_c _ _ _ _).mono ?_; rintro e w1 ⟨rfl, rfl⟩)
              go_ret
              exact ⟨ret_bool (by first | (simp [wordB, *]; done) | (simp [wordB, *]; omega)), HB.out⟩
            · go_enter Try.func180, Try.ntmps180
              go_wp2_with (go_at_call 65; refine (within_c _ _ _ _).mono ?_; rintro e w1 ⟨rfl, rfl⟩)
              go_ret
              exact ⟨ret_bool (by first | (simp [wordB, *]; done) | (simp [wordB, *]; omega)), HB.out⟩
          · go_enter Try.func180, Try.ntmps180
            go_wp2_with (go_at_call 65; refine (within_c _ _ _ _).mono ?_; rintro e w1 ⟨rfl, rfl⟩)
            go_ret
            exact ⟨ret_bool (by first | (simp [wordB, *]; done) | (simp [wordB, *]; omega)), HB.out⟩
        · go_enter Try.func180, Try.ntmps180
          go_wp2_with (go_at_call 65; refine (within_c _ _ _ _).mono ?_; rintro e w1 ⟨rfl, rfl⟩)
          go_ret
          exact ⟨ret_bool (by first | (simp [wordB, *]; done) | (simp [wordB, *]; omega)), HB.out⟩
set_option maxHeartbeats 400000 in
theorem clW (g bx : Nat) (fs cs : Array Value) (x : Wd) (W : World) (b : Bool) (he : Enters g)
    (hbx : W.cell? ⟨bx, 0, none⟩ = some (.func (.func g) fs cs)) (hc : Calls Try.prog g (fs.push (wV x) ++ cs) (W.alloc (.cells #[.int .i64 x.fr, .int .i64 x.ba, .int .i64 x.te, .int .i64 x.lo, .int .i64 x.hi] 82)) (Ans (W.alloc (.cells #[.int .i64 x.fr, .int .i64 x.ba, .int .i64 x.te, .int .i64 x.lo, .int .i64 x.hi] 82)) (.bool b))) :
    Calls Try.prog 201 #[wV x, .pointer (some ⟨bx, 0, none⟩)] W (Ans W (.bool (!b))) := by
  have H := Lib.hid hc
  clear hc
  unfold Enters at he
  obtain ⟨xf, xb, xt, xl, xh⟩ := x
  unfold wV at H ⊢
  dsimp only at H ⊢
  have hbx2 := cell_alloc_keep (.cells #[.int .i64 xf, .int .i64 xb, .int .i64 xt, .int .i64 xl, .int .i64 xh] 82) hbx
  have hb0 : Below W.heap.size W (W.alloc (.cells #[.int .i64 xf, .int .i64 xb, .int .i64 xt, .int .i64 xl, .int .i64 xh] 82)) := (Below.refl _ _).alloc (Nat.le_refl _) _
  have hz0 := hb0.size
  go_enter Try.func201, Try.ntmps201
  go_wp2_with fail
  refine H.out.mono ?_
  rintro e w1 ⟨rfl, hb⟩
  go_wp2_with fail
  go_ret
  exact ⟨rfl, hb0.trans (hb.mono hz0)⟩
set_option maxHeartbeats 400000 in
theorem indexW {B : Nat} (A : Option Addr) (c g bx : Nat) (fs cs : Array Value) (ws : List Wd) (p : Nat → Bool) (w : World) (he : Enters g) (hB : B ≤ w.heap.size) (hbx : bx < w.heap.size) (hn : ws.length ≤ 9223372036854775807)
    (hcell : w.cell? ⟨bx, 0, none⟩ = some (.func (.func g) fs cs)) (hel : Wds B w A ws) (hr : RightW B w ws.length g fs cs ws p) :
    Calls Try.prog 210 #[.slice A ws.length c, .func (.func 201) #[] #[.pointer (some ⟨bx, 0, none⟩)]] w (Found w ws.length p) := by
  have HR := Lib.hid hr
  have HC := Lib.hid hcell
  have HE := Lib.hid he
  clear hr hcell he
  go_enter Try.func210, Try.ntmps210
  go_wp2_with fail
  go_loopw [8] (fun i wr => ∃ k : Nat, k ≤ ws.length ∧ i = .int .i64 k ∧ AllB k p ∧ Below w.heap.size w wr) (fun i _ => ws.length - (intOf i).toNat)
  case atStart => exact ⟨0, by omega, rfl, fun j hj => by omega, Below.refl _ _⟩
  case round =>
    obtain ⟨k, hk, rfl, hp, hb⟩ := hrel
    by_cases h1 : k < ws.length
    · obtain ⟨b, off, rfl, hb1, hc0⟩ := hel.at_ h1
      obtain ⟨c1, c2, c3, c4, c5⟩ := (hc0.below hb (by omega) : W5 wr b (off + k * 5) (wx ws k))
      clear hc0
      have hz := hb.size
      have hcl := clW g bx fs cs (wx ws k) wr (p k) HE.out ((hb.cell (p := ⟨bx, 0, none⟩) hbx).trans HC.out) (HR.out k h1 _ ((hb.mono hB).alloc (by omega) _))
      unfold wV at hcl
      have HCL := Lib.hid hcl
      clear hcl
      cases hpk : p k
      · have HP := Lib.hid hpk
        clear hpk
        go_wp2_with fail
        refine HCL.out.mono ?_
        rw [HP.out]
        rintro e w1 ⟨rfl, hb2⟩
        go_wp2_with fail
        go_ret
        exact found_at h1 HP.out (hb.trans (hb2.mono hz))
      · have HP := Lib.hid hpk
        clear hpk
        go_wp2_with fail
        refine HCL.out.mono ?_
        rw [HP.out]
        rintro e w1 ⟨rfl, hb2⟩
        go_wp2_with fail
        go_roundw
        case rel => exact ⟨k + 1, by omega, by go_num, hp.succ HP.out, hb.trans (hb2.mono hz)⟩
        case measure => simp [intOf]; omega
    · go_wp2_with fail
      go_ret
      exact found_none (by have : k = ws.length := by omega
                           rwa [this] at hp) hb
set_option maxHeartbeats 400000 in
theorem containsW {B : Nat} (A : Option Addr) (c g bx : Nat) (fs cs : Array Value) (ws : List Wd) (p : Nat → Bool) (w : World) (he : Enters g) (hB : B ≤ w.heap.size) (hbx : bx < w.heap.size) (hn : ws.length ≤ 9223372036854775807)
    (hcell : w.cell? ⟨bx, 0, none⟩ = some (.func (.func g) fs cs)) (hel : Wds B w A ws) (hr : RightW B w ws.length g fs cs ws p) :
    Calls Try.prog 200 #[.slice A ws.length c, .func (.func 201) #[] #[.pointer (some ⟨bx, 0, none⟩)]] w (Ans w (.bool (!allB ws.length p))) := by
  have H := Lib.hid (indexW A c g bx fs cs ws p w he hB hbx hn hcell hel hr)
  clear hcell hr he
  go_enter Try.func200, Try.ntmps200
  go_wp2_with fail
  refine H.out.mono ?_
  rintro e w1 (⟨k, rfl, hk, hb⟩ | ⟨rfl, hk, hb⟩)
  · go_wp2_with fail
    go_ret
    exact ⟨ret_bool (by rw [hk]; simp), hb⟩
  · go_wp2_with fail
    go_ret
    exact ⟨ret_bool (by rw [hk]; rfl), hb⟩
set_option maxHeartbeats 400000 in
theorem allW {B : Nat} (A : Option Addr) (c g : Nat) (fs cs : Array Value) (ws : List Wd) (p : Nat → Bool) (w : World) (he : Enters g) (hB : B ≤ w.heap.size) (hn : ws.length ≤ 9223372036854775807)
    (hel : Wds B w A ws) (hr : RightW B w ws.length g fs cs ws p) :
    Calls Try.prog 179 #[.slice A ws.length c, .func (.func g) fs cs] w (Ans w (.bool (allB ws.length p))) := by
  have hw : Below B w (w.alloc (.cells #[.func (.func g) fs cs] 298)) := (Below.refl _ _).alloc hB _
  have H := Lib.hid (containsW (B := B) A c g w.heap.size fs cs ws p (w.alloc (.cells #[.func (.func g) fs cs] 298)) he (by simp; omega) (by simp) hn (by simp) (hel.below hw) (hr.below hw))
  clear hr he
  go_enter Try.func179, Try.ntmps179
  go_wp2_with fail
  refine H.out.mono ?_
  rintro e w1 ⟨rfl, hb⟩
  go_wp2_with fail
  go_ret
  exact ⟨ret_bool (by simp), (((Below.refl w.heap.size w).alloc (Nat.le_refl _) _).trans (hb.mono (by simp)))⟩
theorem enters53 : Enters 180 := fun _ _ => enters_of Try.func180 (by kernel_rfl) rfl _ _
/-- The error of a lane. -/
noncomputable def laneErr (fr : Int) (ws : List Wd) : Int := if ws.length ≤ 30 then (if inB fr 1 5 && allB ws.length (fun k => wordB fr (wx ws k)) then 0 else 1) else 3
set_option maxHeartbeats 1000000 in
theorem checkLane_c {B : Nat} (A : Option Addr) (ws : List Wd) (c : Nat) (fr : Int) (w : World) (hB : B ≤ w.heap.size) (hr : Wds B w A ws) (_hc : ws.length ≤ c ∧ c ≤ 9223372036854775807) :
    Calls Try.prog 158 #[.agg #[.int .i64 fr, .slice A ws.length c]] w (Ans w (.int .i64 (laneErr fr ws))) := by
  have hw1 : Below w.heap.size w (w.alloc (.cells #[.int .i64 fr, .slice A ws.length c] 40)) := (Below.refl _ _).alloc (Nat.le_refl _) _
  have hz1 := hw1.size
  by_cases h1 : ws.length ≤ 30
  · cases h2 : inB fr 1 5
    · have HR : Hid (laneErr fr ws = 1) := by show _ = _; simp [laneErr, h1, h2]
      go_enter Try.func158, Try.ntmps158
      go_wp2_with (go_at_call 65; refine (within_c _ _ _ _).mono ?_; rintro e w1 ⟨rfl, rfl⟩)
      go_ret
      exact ⟨ret_int HR.out.symm, hw1⟩
    · obtain ⟨hf1, hf5⟩ := (inB_eq _ _ _).1 h2
      have HR : Hid (laneErr fr ws = if allB ws.length (fun k => wordB fr (wx ws k)) then 0 else 1) := by show _ = _; simp [laneErr, h1, h2]
      have H1 := Lib.hid (allW (B := B) A c 180 #[.agg #[.int .i64 fr, .slice A ws.length c]] #[] ws (fun k => wordB fr (wx ws k)) (w.alloc (.cells #[.int .i64 fr, .slice A ws.length c] 40)) enters53 (Nat.le_trans hB hz1) (by omega) (hr.below (hw1.mono hB)) (fun k _ W _ => word_c A ws.length c fr (wx ws k) W hf1 hf5))
      cases h3 : allB ws.length (fun k => wordB fr (wx ws k))
      all_goals
        have H3 := Lib.hid h3
        clear h3
        go_enter Try.func158, Try.ntmps158
        go_wp2_with (go_at_call 65; refine (within_c _ _ _ _).mono ?_; rintro e w1 ⟨rfl, rfl⟩)
        refine H1.out.mono ?_
        rw [H3.out]
        rintro e w1 ⟨rfl, hb⟩
        go_wp2_with fail
        go_ret
        exact ⟨ret_int (by rw [HR.out, H3.out]; rfl), hw1.trans (hb.mono hz1)⟩
  · have HR : Hid (laneErr fr ws = 3) := by show _ = _; simp [laneErr, h1]
    go_enter Try.func158, Try.ntmps158
    go_wp2_with fail
    go_ret
    exact ⟨ret_int HR.out.symm, hw1⟩
end

section
open Go.RowKit
set_option maxHeartbeats 400000 in
theorem one_c (f s : Int) (w : World) : Calls Try.prog 144 #[.agg #[.int .i64 f, .int .i64 s]] w (Ans w (.int .i64 f)) := by
  go_enter Try.func144, Try.ntmps144
  go_wp2
  go_ret
  exact ⟨rfl, (Below.refl _ _).alloc (Nat.le_refl _) _⟩
set_option maxHeartbeats 400000 in
theorem two_c (f s : Int) (w : World) : Calls Try.prog 145 #[.agg #[.int .i64 f, .int .i64 s]] w (Ans w (.int .i64 s)) := by
  go_enter Try.func145, Try.ntmps145
  go_wp2
  go_ret
  exact ⟨rfl, (Below.refl _ _).alloc (Nat.le_refl _) _⟩
theorem enters82 : Enters 144 := fun _ _ => enters_of Try.func144 (by kernel_rfl) rfl _ _
theorem enters83 : Enters 145 := fun _ _ => enters_of Try.func145 (by kernel_rfl) rfl _ _
set_option maxHeartbeats 400000 in
theorem places_c (w : World) : Calls Try.prog 98 #[] w (Ans w (.agg #[.func (.func 144) #[] #[], .func (.func 145) #[] #[]])) := by
  go_enter Try.func98, Try.ntmps98
  go_wp2
  refine bodyPost_ret (v := .agg #[.func (.func 144) #[] #[], .func (.func 145) #[] #[]]) (by simp [results, Try.results98, go_sem]) rfl ⟨rfl, ?_⟩
  repeat (first | exact Below.refl _ _ | refine Below.setCell ?_ (by dsimp only; omega) _ | refine Below.alloc ?_ (by omega) _)
theorem index_pl0 (W : World) : (Instr.index 228 (.agg #[.func (.func 144) #[] #[], .func (.func 145) #[] #[]]) (.int .i64 0)).run Try.prog W = .ok (.agg #[.func (.func 144) #[] #[]]) W := by
  kernel_rfl
theorem index_pl1 (W : World) : (Instr.index 228 (.agg #[.func (.func 144) #[] #[], .func (.func 145) #[] #[]]) (.int .i64 1)).run Try.prog W = .ok (.agg #[.func (.func 145) #[] #[]]) W := by
  kernel_rfl
theorem field_pl (g : Nat) (W : World) : (Instr.field 227 (.agg #[.func (.func g) #[] #[]]) 0).run Try.prog W = .ok (.func (.func g) #[] #[]) W := by
  kernel_rfl
/-- What a word says of how many stood. -/
def standB (x : Wd) (f s : Int) : Int := if x.ba = 0 then f else s
def fitsB (x : Wd) (f s : Int) : Bool := decide (x.lo ≤ standB x f s) && decide (standB x f s ≤ x.hi)
set_option maxRecDepth 100000 in
set_option maxHeartbeats 4000000 in
theorem fits_c (x : Wd) (f s : Int) (w : World) (hb : x.ba = 0 ∨ x.ba = 1) : Calls Try.prog 125 #[wV x, .agg #[.int .i64 f, .int .i64 s]] w (Ans w (.bool (fitsB x f s))) := by
  obtain ⟨xf, xb, xt, xl, xh⟩ := x
  unfold wV
  dsimp only at hb ⊢
  have e82 := enters82
  have e83 := enters83
  have i0 := index_pl0
  have i1 := index_pl1
  have i2 := field_pl
  unfold Enters at e82 e83
  rcases hb with rfl | rfl
  · have hb0 : Below w.heap.size w ((w.alloc (.cells #[.int .i64 xf, .int .i64 0, .int .i64 xt, .int .i64 xl, .int .i64 xh] 82)).alloc (.cells #[.int .i64 f, .int .i64 s] 175)) := ((Below.refl _ _).alloc (Nat.le_refl _) _).alloc (by simp) _
    have k0 : ((w.alloc (.cells #[.int .i64 xf, .int .i64 0, .int .i64 xt, .int .i64 xl, .int .i64 xh] 82)).alloc (.cells #[.int .i64 f, .int .i64 s] 175)).cell? ⟨w.heap.size, 0, none⟩ = some (.int .i64 xf) := by go_simp
    have k1 : ((w.alloc (.cells #[.int .i64 xf, .int .i64 0, .int .i64 xt, .int .i64 xl, .int .i64 xh] 82)).alloc (.cells #[.int .i64 f, .int .i64 s] 175)).cell? ⟨w.heap.size, 1, none⟩ = some (.int .i64 0) := by go_simp
    have k2 : ((w.alloc (.cells #[.int .i64 xf, .int .i64 0, .int .i64 xt, .int .i64 xl, .int .i64 xh] 82)).alloc (.cells #[.int .i64 f, .int .i64 s] 175)).cell? ⟨w.heap.size, 2, none⟩ = some (.int .i64 xt) := by go_simp
    have k3 : ((w.alloc (.cells #[.int .i64 xf, .int .i64 0, .int .i64 xt, .int .i64 xl, .int .i64 xh] 82)).alloc (.cells #[.int .i64 f, .int .i64 s] 175)).cell? ⟨w.heap.size, 3, none⟩ = some (.int .i64 xl) := by go_simp
    have k4 : ((w.alloc (.cells #[.int .i64 xf, .int .i64 0, .int .i64 xt, .int .i64 xl, .int .i64 xh] 82)).alloc (.cells #[.int .i64 f, .int .i64 s] 175)).cell? ⟨w.heap.size, 4, none⟩ = some (.int .i64 xh) := by go_simp
    have k5 : ((w.alloc (.cells #[.int .i64 xf, .int .i64 0, .int .i64 xt, .int .i64 xl, .int .i64 xh] 82)).alloc (.cells #[.int .i64 f, .int .i64 s] 175)).cell? ⟨w.heap.size + 1, 0, none⟩ = some (.int .i64 f) := by go_simp
    have k6 : ((w.alloc (.cells #[.int .i64 xf, .int .i64 0, .int .i64 xt, .int .i64 xl, .int .i64 xh] 82)).alloc (.cells #[.int .i64 f, .int .i64 s] 175)).cell? ⟨w.heap.size + 1, 1, none⟩ = some (.int .i64 s) := by go_simp
    have HB := Lib.hid hb0
    clear hb0
    by_cases t1 : xl ≤ f
    · by_cases t2 : f ≤ xh
      · go_enter Try.func125, Try.ntmps125
        go_wp2_with fail
        generalize ((w.alloc (.cells #[.int .i64 xf, .int .i64 0, .int .i64 xt, .int .i64 xl, .int .i64 xh] 82)).alloc (.cells #[.int .i64 f, .int .i64 s] 175)) = W0 at k0 k1 k2 k3 k4 k5 k6 HB ⊢
        go_region_held3 (fun w' => w'.cell? ⟨w.heap.size, 0, none⟩ = some (.int .i64 xf) ∧ w'.cell? ⟨w.heap.size, 1, none⟩ = some (.int .i64 0) ∧ w'.cell? ⟨w.heap.size, 2, none⟩ = some (.int .i64 xt) ∧ w'.cell? ⟨w.heap.size, 3, none⟩ = some (.int .i64 xl) ∧ w'.cell? ⟨w.heap.size, 4, none⟩ = some (.int .i64 xh) ∧ w'.cell? ⟨w.heap.size + 1, 0, none⟩ = some (.int .i64 f) ∧ w'.cell? ⟨w.heap.size + 1, 1, none⟩ = some (.int .i64 s)) (go_keep) (first | (go_at_call 98; refine (places_c _).mono ?_; rintro e w1 ⟨rfl, hb⟩; replace k0 := cell_of_ans (below_drew_l hb) k0; replace k1 := cell_of_ans (below_drew_l hb) k1; replace k2 := cell_of_ans (below_drew_l hb) k2; replace k3 := cell_of_ans (below_drew_l hb) k3; replace k4 := cell_of_ans (below_drew_l hb) k4; replace k5 := cell_of_ans (below_drew_l hb) k5; replace k6 := cell_of_ans (below_drew_l hb) k6; replace HB := Lib.hid (HB.out.trans ((below_drew_l hb).mono HB.out.size)); clear hb) | (go_at_call 144; refine (one_c f s _).mono ?_; rintro e w1 ⟨rfl, hb⟩; replace k0 := cell_of_ans hb k0; replace k1 := cell_of_ans hb k1; replace k2 := cell_of_ans hb k2; replace k3 := cell_of_ans hb k3; replace k4 := cell_of_ans hb k4; replace k5 := cell_of_ans hb k5; replace k6 := cell_of_ans hb k6; replace HB := Lib.hid (HB.out.trans (hb.mono HB.out.size)); clear hb))
        go_wp2_with fail
        go_ret
        exact ⟨ret_bool (by first | (simp [fitsB, standB, *]; done) | (simp only [fitsB, standB]; simp; omega)), HB.out⟩
      · go_enter Try.func125, Try.ntmps125
        go_wp2_with fail
        generalize ((w.alloc (.cells #[.int .i64 xf, .int .i64 0, .int .i64 xt, .int .i64 xl, .int .i64 xh] 82)).alloc (.cells #[.int .i64 f, .int .i64 s] 175)) = W0 at k0 k1 k2 k3 k4 k5 k6 HB ⊢
        go_region_held3 (fun w' => w'.cell? ⟨w.heap.size, 0, none⟩ = some (.int .i64 xf) ∧ w'.cell? ⟨w.heap.size, 1, none⟩ = some (.int .i64 0) ∧ w'.cell? ⟨w.heap.size, 2, none⟩ = some (.int .i64 xt) ∧ w'.cell? ⟨w.heap.size, 3, none⟩ = some (.int .i64 xl) ∧ w'.cell? ⟨w.heap.size, 4, none⟩ = some (.int .i64 xh) ∧ w'.cell? ⟨w.heap.size + 1, 0, none⟩ = some (.int .i64 f) ∧ w'.cell? ⟨w.heap.size + 1, 1, none⟩ = some (.int .i64 s)) (go_keep) (first | (go_at_call 98; refine (places_c _).mono ?_; rintro e w1 ⟨rfl, hb⟩; replace k0 := cell_of_ans (below_drew_l hb) k0; replace k1 := cell_of_ans (below_drew_l hb) k1; replace k2 := cell_of_ans (below_drew_l hb) k2; replace k3 := cell_of_ans (below_drew_l hb) k3; replace k4 := cell_of_ans (below_drew_l hb) k4; replace k5 := cell_of_ans (below_drew_l hb) k5; replace k6 := cell_of_ans (below_drew_l hb) k6; replace HB := Lib.hid (HB.out.trans ((below_drew_l hb).mono HB.out.size)); clear hb) | (go_at_call 144; refine (one_c f s _).mono ?_; rintro e w1 ⟨rfl, hb⟩; replace k0 := cell_of_ans hb k0; replace k1 := cell_of_ans hb k1; replace k2 := cell_of_ans hb k2; replace k3 := cell_of_ans hb k3; replace k4 := cell_of_ans hb k4; replace k5 := cell_of_ans hb k5; replace k6 := cell_of_ans hb k6; replace HB := Lib.hid (HB.out.trans (hb.mono HB.out.size)); clear hb))
        go_wp2_with fail
        go_ret
        exact ⟨ret_bool (by first | (simp [fitsB, standB, *]; done) | (simp only [fitsB, standB]; simp; omega)), HB.out⟩
    · go_enter Try.func125, Try.ntmps125
      go_wp2_with fail
      generalize ((w.alloc (.cells #[.int .i64 xf, .int .i64 0, .int .i64 xt, .int .i64 xl, .int .i64 xh] 82)).alloc (.cells #[.int .i64 f, .int .i64 s] 175)) = W0 at k0 k1 k2 k3 k4 k5 k6 HB ⊢
      go_region_held3 (fun w' => w'.cell? ⟨w.heap.size, 0, none⟩ = some (.int .i64 xf) ∧ w'.cell? ⟨w.heap.size, 1, none⟩ = some (.int .i64 0) ∧ w'.cell? ⟨w.heap.size, 2, none⟩ = some (.int .i64 xt) ∧ w'.cell? ⟨w.heap.size, 3, none⟩ = some (.int .i64 xl) ∧ w'.cell? ⟨w.heap.size, 4, none⟩ = some (.int .i64 xh) ∧ w'.cell? ⟨w.heap.size + 1, 0, none⟩ = some (.int .i64 f) ∧ w'.cell? ⟨w.heap.size + 1, 1, none⟩ = some (.int .i64 s)) (go_keep) (first | (go_at_call 98; refine (places_c _).mono ?_; rintro e w1 ⟨rfl, hb⟩; replace k0 := cell_of_ans (below_drew_l hb) k0; replace k1 := cell_of_ans (below_drew_l hb) k1; replace k2 := cell_of_ans (below_drew_l hb) k2; replace k3 := cell_of_ans (below_drew_l hb) k3; replace k4 := cell_of_ans (below_drew_l hb) k4; replace k5 := cell_of_ans (below_drew_l hb) k5; replace k6 := cell_of_ans (below_drew_l hb) k6; replace HB := Lib.hid (HB.out.trans ((below_drew_l hb).mono HB.out.size)); clear hb) | (go_at_call 144; refine (one_c f s _).mono ?_; rintro e w1 ⟨rfl, hb⟩; replace k0 := cell_of_ans hb k0; replace k1 := cell_of_ans hb k1; replace k2 := cell_of_ans hb k2; replace k3 := cell_of_ans hb k3; replace k4 := cell_of_ans hb k4; replace k5 := cell_of_ans hb k5; replace k6 := cell_of_ans hb k6; replace HB := Lib.hid (HB.out.trans (hb.mono HB.out.size)); clear hb))
      go_wp2_with fail
      go_ret
      exact ⟨ret_bool (by first | (simp [fitsB, standB, *]; done) | (simp only [fitsB, standB]; simp; omega)), HB.out⟩
  · have hb0 : Below w.heap.size w ((w.alloc (.cells #[.int .i64 xf, .int .i64 1, .int .i64 xt, .int .i64 xl, .int .i64 xh] 82)).alloc (.cells #[.int .i64 f, .int .i64 s] 175)) := ((Below.refl _ _).alloc (Nat.le_refl _) _).alloc (by simp) _
    have k0 : ((w.alloc (.cells #[.int .i64 xf, .int .i64 1, .int .i64 xt, .int .i64 xl, .int .i64 xh] 82)).alloc (.cells #[.int .i64 f, .int .i64 s] 175)).cell? ⟨w.heap.size, 0, none⟩ = some (.int .i64 xf) := by go_simp
    have k1 : ((w.alloc (.cells #[.int .i64 xf, .int .i64 1, .int .i64 xt, .int .i64 xl, .int .i64 xh] 82)).alloc (.cells #[.int .i64 f, .int .i64 s] 175)).cell? ⟨w.heap.size, 1, none⟩ = some (.int .i64 1) := by go_simp
    have k2 : ((w.alloc (.cells #[.int .i64 xf, .int .i64 1, .int .i64 xt, .int .i64 xl, .int .i64 xh] 82)).alloc (.cells #[.int .i64 f, .int .i64 s] 175)).cell? ⟨w.heap.size, 2, none⟩ = some (.int .i64 xt) := by go_simp
    have k3 : ((w.alloc (.cells #[.int .i64 xf, .int .i64 1, .int .i64 xt, .int .i64 xl, .int .i64 xh] 82)).alloc (.cells #[.int .i64 f, .int .i64 s] 175)).cell? ⟨w.heap.size, 3, none⟩ = some (.int .i64 xl) := by go_simp
    have k4 : ((w.alloc (.cells #[.int .i64 xf, .int .i64 1, .int .i64 xt, .int .i64 xl, .int .i64 xh] 82)).alloc (.cells #[.int .i64 f, .int .i64 s] 175)).cell? ⟨w.heap.size, 4, none⟩ = some (.int .i64 xh) := by go_simp
    have k5 : ((w.alloc (.cells #[.int .i64 xf, .int .i64 1, .int .i64 xt, .int .i64 xl, .int .i64 xh] 82)).alloc (.cells #[.int .i64 f, .int .i64 s] 175)).cell? ⟨w.heap.size + 1, 0, none⟩ = some (.int .i64 f) := by go_simp
    have k6 : ((w.alloc (.cells #[.int .i64 xf, .int .i64 1, .int .i64 xt, .int .i64 xl, .int .i64 xh] 82)).alloc (.cells #[.int .i64 f, .int .i64 s] 175)).cell? ⟨w.heap.size + 1, 1, none⟩ = some (.int .i64 s) := by go_simp
    have HB := Lib.hid hb0
    clear hb0
    by_cases t1 : xl ≤ s
    · by_cases t2 : s ≤ xh
      · go_enter Try.func125, Try.ntmps125
        go_wp2_with fail
        generalize ((w.alloc (.cells #[.int .i64 xf, .int .i64 1, .int .i64 xt, .int .i64 xl, .int .i64 xh] 82)).alloc (.cells #[.int .i64 f, .int .i64 s] 175)) = W0 at k0 k1 k2 k3 k4 k5 k6 HB ⊢
        go_region_held3 (fun w' => w'.cell? ⟨w.heap.size, 0, none⟩ = some (.int .i64 xf) ∧ w'.cell? ⟨w.heap.size, 1, none⟩ = some (.int .i64 1) ∧ w'.cell? ⟨w.heap.size, 2, none⟩ = some (.int .i64 xt) ∧ w'.cell? ⟨w.heap.size, 3, none⟩ = some (.int .i64 xl) ∧ w'.cell? ⟨w.heap.size, 4, none⟩ = some (.int .i64 xh) ∧ w'.cell? ⟨w.heap.size + 1, 0, none⟩ = some (.int .i64 f) ∧ w'.cell? ⟨w.heap.size + 1, 1, none⟩ = some (.int .i64 s)) (go_keep) (first | (go_at_call 98; refine (places_c _).mono ?_; rintro e w1 ⟨rfl, hb⟩; replace k0 := cell_of_ans (below_drew_l hb) k0; replace k1 := cell_of_ans (below_drew_l hb) k1; replace k2 := cell_of_ans (below_drew_l hb) k2; replace k3 := cell_of_ans (below_drew_l hb) k3; replace k4 := cell_of_ans (below_drew_l hb) k4; replace k5 := cell_of_ans (below_drew_l hb) k5; replace k6 := cell_of_ans (below_drew_l hb) k6; replace HB := Lib.hid (HB.out.trans ((below_drew_l hb).mono HB.out.size)); clear hb) | (go_at_call 145; refine (two_c f s _).mono ?_; rintro e w1 ⟨rfl, hb⟩; replace k0 := cell_of_ans hb k0; replace k1 := cell_of_ans hb k1; replace k2 := cell_of_ans hb k2; replace k3 := cell_of_ans hb k3; replace k4 := cell_of_ans hb k4; replace k5 := cell_of_ans hb k5; replace k6 := cell_of_ans hb k6; replace HB := Lib.hid (HB.out.trans (hb.mono HB.out.size)); clear hb))
        go_wp2_with fail
        go_ret
        exact ⟨ret_bool (by first | (simp [fitsB, standB, *]; done) | (simp only [fitsB, standB]; simp; omega)), HB.out⟩
      · go_enter Try.func125, Try.ntmps125
        go_wp2_with fail
        generalize ((w.alloc (.cells #[.int .i64 xf, .int .i64 1, .int .i64 xt, .int .i64 xl, .int .i64 xh] 82)).alloc (.cells #[.int .i64 f, .int .i64 s] 175)) = W0 at k0 k1 k2 k3 k4 k5 k6 HB ⊢
        go_region_held3 (fun w' => w'.cell? ⟨w.heap.size, 0, none⟩ = some (.int .i64 xf) ∧ w'.cell? ⟨w.heap.size, 1, none⟩ = some (.int .i64 1) ∧ w'.cell? ⟨w.heap.size, 2, none⟩ = some (.int .i64 xt) ∧ w'.cell? ⟨w.heap.size, 3, none⟩ = some (.int .i64 xl) ∧ w'.cell? ⟨w.heap.size, 4, none⟩ = some (.int .i64 xh) ∧ w'.cell? ⟨w.heap.size + 1, 0, none⟩ = some (.int .i64 f) ∧ w'.cell? ⟨w.heap.size + 1, 1, none⟩ = some (.int .i64 s)) (go_keep) (first | (go_at_call 98; refine (places_c _).mono ?_; rintro e w1 ⟨rfl, hb⟩; replace k0 := cell_of_ans (below_drew_l hb) k0; replace k1 := cell_of_ans (below_drew_l hb) k1; replace k2 := cell_of_ans (below_drew_l hb) k2; replace k3 := cell_of_ans (below_drew_l hb) k3; replace k4 := cell_of_ans (below_drew_l hb) k4; replace k5 := cell_of_ans (below_drew_l hb) k5; replace k6 := cell_of_ans (below_drew_l hb) k6; replace HB := Lib.hid (HB.out.trans ((below_drew_l hb).mono HB.out.size)); clear hb) | (go_at_call 145; refine (two_c f s _).mono ?_; rintro e w1 ⟨rfl, hb⟩; replace k0 := cell_of_ans hb k0; replace k1 := cell_of_ans hb k1; replace k2 := cell_of_ans hb k2; replace k3 := cell_of_ans hb k3; replace k4 := cell_of_ans hb k4; replace k5 := cell_of_ans hb k5; replace k6 := cell_of_ans hb k6; replace HB := Lib.hid (HB.out.trans (hb.mono HB.out.size)); clear hb))
        go_wp2_with fail
        go_ret
        exact ⟨ret_bool (by first | (simp [fitsB, standB, *]; done) | (simp only [fitsB, standB]; simp; omega)), HB.out⟩
    · go_enter Try.func125, Try.ntmps125
      go_wp2_with fail
      generalize ((w.alloc (.cells #[.int .i64 xf, .int .i64 1, .int .i64 xt, .int .i64 xl, .int .i64 xh] 82)).alloc (.cells #[.int .i64 f, .int .i64 s] 175)) = W0 at k0 k1 k2 k3 k4 k5 k6 HB ⊢
      go_region_held3 (fun w' => w'.cell? ⟨w.heap.size, 0, none⟩ = some (.int .i64 xf) ∧ w'.cell? ⟨w.heap.size, 1, none⟩ = some (.int .i64 1) ∧ w'.cell? ⟨w.heap.size, 2, none⟩ = some (.int .i64 xt) ∧ w'.cell? ⟨w.heap.size, 3, none⟩ = some (.int .i64 xl) ∧ w'.cell? ⟨w.heap.size, 4, none⟩ = some (.int .i64 xh) ∧ w'.cell? ⟨w.heap.size + 1, 0, none⟩ = some (.int .i64 f) ∧ w'.cell? ⟨w.heap.size + 1, 1, none⟩ = some (.int .i64 s)) (go_keep) (first | (go_at_call 98; refine (places_c _).mono ?_; rintro e w1 ⟨rfl, hb⟩; replace k0 := cell_of_ans (below_drew_l hb) k0; replace k1 := cell_of_ans (below_drew_l hb) k1; replace k2 := cell_of_ans (below_drew_l hb) k2; replace k3 := cell_of_ans (below_drew_l hb) k3; replace k4 := cell_of_ans (below_drew_l hb) k4; replace k5 := cell_of_ans (below_drew_l hb) k5; replace k6 := cell_of_ans (below_drew_l hb) k6; replace HB := Lib.hid (HB.out.trans ((below_drew_l hb).mono HB.out.size)); clear hb) | (go_at_call 145; refine (two_c f s _).mono ?_; rintro e w1 ⟨rfl, hb⟩; replace k0 := cell_of_ans hb k0; replace k1 := cell_of_ans hb k1; replace k2 := cell_of_ans hb k2; replace k3 := cell_of_ans hb k3; replace k4 := cell_of_ans hb k4; replace k5 := cell_of_ans hb k5; replace k6 := cell_of_ans hb k6; replace HB := Lib.hid (HB.out.trans (hb.mono HB.out.size)); clear hb))
      go_wp2_with fail
      go_ret
      exact ⟨ret_bool (by first | (simp [fitsB, standB, *]; done) | (simp only [fitsB, standB]; simp; omega)), HB.out⟩
end

section
open Go.RowKit
attribute [local go_sem] Oper.semAt_some
theorem wpIn_scope_wide {n : Nat} {P : Program} {c : Code} {Q : Exit → Act → World → Prop} {a : Act} {w : World} (h : c.wpIn Fence.wide n P (Exit.noGoto Q) a w) : (Code.scope c).wpIn Fence.wide n P Q a w := wpIn_wide.2 (wp_scope_straight (wpIn_wide.1 h))
/-- All pairs ahead of (f, s). -/
def upTo (f s : Nat) : List (Nat × Nat) := (List.range f).flatMap (fun a => (List.range (a + 1)).map fun b => (a, b)) ++ (List.range s).map fun b => (f, b)
theorem upTo_succ (f s : Nat) : upTo f (s + 1) = upTo f s ++ [(f, s)] := by simp [upTo, List.range_succ]
theorem upTo_next (f : Nat) : upTo (f + 1) 0 = upTo f (f + 1) := by simp [upTo, List.range_succ (n := f)]
/-- Does a word not stand against a game of a frame? -/
def okW (fr : Int) (o : Nat → Bool) (x : Wd) (f s : Nat) : Bool := !(decide (x.fr = fr)) || (o x.te.toNat || fitsB x (f : Int) (s : Int))
noncomputable def okB (ws : List Wd) (fr : Int) (o : Nat → Bool) (p : Nat × Nat) : Bool := allB ws.length fun k => okW fr o (wx ws k) p.1 p.2
noncomputable def gamesTo (ws : List Wd) (fr : Int) (o : Nat → Bool) (f s : Nat) : List (Nat × Nat) := (upTo f s).filter (okB ws fr o)
noncomputable def gamesL (ws : List Wd) (fr : Int) (o : Nat → Bool) : List (Nat × Nat) := gamesTo ws fr o 11 0
theorem gamesTo_no {ws : List Wd} {fr : Int} {o : Nat → Bool} {f s : Nat} (h : okB ws fr o (f, s) = false) : gamesTo ws fr o f (s + 1) = gamesTo ws fr o f s := by simp [gamesTo, upTo_succ, List.filter_append, h]
theorem gamesTo_yes {ws : List Wd} {fr : Int} {o : Nat → Bool} {f s : Nat} (h : okB ws fr o (f, s) = true) : gamesTo ws fr o f (s + 1) = gamesTo ws fr o f s ++ [(f, s)] := by simp [gamesTo, upTo_succ, List.filter_append, h]
theorem gamesTo_next (ws : List Wd) (fr : Int) (o : Nat → Bool) (f : Nat) : gamesTo ws fr o (f + 1) 0 = gamesTo ws fr o f (f + 1) := by simp [gamesTo, upTo_next]
theorem upTo_len : ∀ f s, f ≤ 11 → s ≤ 11 → (upTo f s).length ≤ 66 + 11 := by
  intro f s hf hs
  have : ∀ f, f ≤ 11 → (upTo f 0).length ≤ 66 := by decide
  have h := this f hf
  have e : (upTo f s).length = (upTo f 0).length + s := by simp [upTo]
  omega
theorem gamesTo_len (ws : List Wd) (fr : Int) (o : Nat → Bool) {f s : Nat} (hf : f ≤ 11) (hs : s ≤ 11) : (gamesTo ws fr o f s).length ≤ 77 := Nat.le_trans (List.length_filter_le _ _) (upTo_len f s hf hs)
theorem gamesL_bd {ws : List Wd} {fr : Int} {o : Nat → Bool} {p : Nat × Nat} (h : p ∈ gamesL ws fr o) : p.1 ≤ 10 ∧ p.2 ≤ p.1 := by
  have h := (List.mem_filter.1 h).1
  simp only [upTo, List.mem_append, List.mem_flatMap, List.mem_map, List.mem_range] at h
  rcases h with ⟨a, ha, b, hb, rfl⟩ | ⟨b, hb, rfl⟩
  · dsimp only; omega
  · omega
/-- What the iterator reads: its three captured variables (from block q on), the watch (block p), the words. -/
structure GSt (B : Nat) (W : World) (q p : Nat) (fr frn : Int) (o : Nat → Bool) (A : Option Addr) (c : Nat) (ws : List Wd) : Prop where
  x : W.cell? ⟨q, 0, none⟩ = some (.pointer (some ⟨p, 0, none⟩))
  f : W.cell? ⟨q + 1, 0, none⟩ = some (.int .i64 fr)
  o : ∀ j, j < 4 → W.cell? ⟨q + 2, j, none⟩ = some (.bool (o j))
  n : W.cell? ⟨p, 0, none⟩ = some (.int .i64 frn)
  l : W.cell? ⟨p, 1, none⟩ = some (.slice A ws.length c)
  w : Wds B W A ws
theorem GSt.below {B : Nat} {W W' : World} {q p : Nat} {fr frn : Int} {o : Nat → Bool} {A : Option Addr} {c : Nat} {ws : List Wd} (h : GSt B W q p fr frn o A c ws) (hb : Below W.heap.size W W') (hB : B ≤ W.heap.size) : GSt B W' q p fr frn o A c ws :=
  ⟨cell_of_ans hb h.x, cell_of_ans hb h.f, fun j hj => cell_of_ans hb (h.o j hj), cell_of_ans hb h.n, cell_of_ans hb h.l, h.w.below (hb.mono hB)⟩
set_option maxHeartbeats 400000 in
theorem games_c (p : Nat) (fr : Int) (o : Nat → Bool) (w : World) :
    Calls Try.prog 68 #[.pointer (some ⟨p, 0, none⟩), .int .i64 fr, .agg #[.bool (o 0), .bool (o 1), .bool (o 2), .bool (o 3)]] w fun e w' => e = .returned (.func (.func 124) #[] #[.pointer (some ⟨w.heap.size, 0, none⟩), .pointer (some ⟨w.heap.size + 1, 0, none⟩), .pointer (some ⟨w.heap.size + 2, 0, none⟩)]) ∧
      ((w.alloc (.cells #[.pointer (some ⟨p, 0, none⟩)] 127)).alloc (.cells #[.int .i64 fr] 3)).alloc (.cells #[.bool (o 0), .bool (o 1), .bool (o 2), .bool (o 3)] 129) = w' := by
  go_enter Try.func68, Try.ntmps68
  go_wp2
  go_ret
  exact ⟨rfl, rfl⟩
def gEnc (x : Nat × Nat) : Array Value := #[.agg #[.int .i64 (x.1 : Int), .int .i64 (x.2 : Int)]]
set_option maxRecDepth 100000 in
set_option maxHeartbeats 4000000 in
theorem games1_in {B : Nat} (n l q p c : Nat) (fr frn : Int) (o : Nat → Bool) (A : Option Addr) (ws : List Wd) (n₀ : Nat) (hBn : B ≤ n₀) (hl9 : ws.length ≤ 1000000) (hok : ∀ k, k < ws.length → wordB frn (wx ws k) = true) (Kp : World → World → Prop) (hKt : ∀ {A B C : World}, Kp A B → Kp B C → Kp A C) (hKb : ∀ A B : World, n₀ ≤ A.heap.size → Below A.heap.size A B → Kp A B) (hKz : ∀ A B : World, Kp A B → A.heap.size ≤ B.heap.size)
    (hKc : ∀ W W', Kp W W' → GSt B W q p fr frn o A c ws → GSt B W' q p fr frn o A c ws) (J Jx : List (Nat × Nat) → World → Prop) (hJb : ∀ pre W W', J pre W → Below W.heap.size W W' → J pre W')
    (hY : ∀ pre x W, J pre W → pre.length < 100 → YieldAt Fence.wide (n - 1) Try.prog l (gEnc x) W fun e W' =>
      (e = .returned (.bool true) ∧ J (pre ++ [x]) W' ∧ Kp W W') ∨ (e = .returned (.bool false) ∧ Jx (pre ++ [x]) W'))
    (W : World) (hn : n₀ ≤ W.heap.size) (hS : GSt B W q p fr frn o A c ws) (h0 : J [] W) :
    CallsIn Fence.wide n Try.prog 124 #[.func (.yield l) #[] #[], .pointer (some ⟨q, 0, none⟩), .pointer (some ⟨q + 1, 0, none⟩), .pointer (some ⟨q + 2, 0, none⟩)] W fun e W' => (∃ v, e = .returned v) ∧
      ((∃ ys, ys = gamesL ws fr o ∧ J ys W') ∨ (∃ pre, True ∧ Jx pre W')) := by
  refine callsIn_of_wp Try.func124 rfl trivial ?_ rfl
  simp only [Try.ntmps124, List.size_toArray, List.length_cons, List.length_nil, Nat.reduceAdd, Nat.reduceSub, Array.replicate_succ, Array.replicate_zero, List.push_toArray, List.append_toArray, List.nil_append, List.cons_append]
  have HS := Lib.hid hS
  have HOK := Lib.hid hok
  clear hS hok
  gi_wp2
  gi_loopw [11] (fun i wr => ∃ f : Nat, f ≤ 11 ∧ i = .int .i64 f ∧ J (gamesTo ws fr o f 0) wr ∧ Kp W wr)
    (fun i _ => 11 - (intOf i).toNat)
  case atStart => exact ⟨0, Nat.zero_le _, rfl, h0, hKb _ _ hn (Below.refl _ _)⟩
  case round =>
    obtain ⟨f, hf, rfl, hJ, hK⟩ := hrel
    by_cases hf1 : f < 11
    · have HJ := Lib.hid hJ
      have HK := Lib.hid hK
      clear hJ hK
      have hfi : (f : Int) < 11 := by omega
      gi_wp2
      refine wpIn_scope_wide ?_
      gi_wp2
      refine wpIn_label ?_
      gi_wp2
      gi_loopw [16] (fun i wr => ∃ s : Nat, s ≤ f + 1 ∧ i = .int .i64 s ∧ J (gamesTo ws fr o f s) wr ∧ Kp W wr)
        (fun i _ => f + 1 - (intOf i).toNat)
      case atStart => exact ⟨0, Nat.zero_le _, rfl, HJ.out, HK.out⟩
      case round =>
        obtain ⟨s, hs, rfl, hJ, hK⟩ := hrel
        rename World => wm
        clear HJ HK
        have HJ := Lib.hid hJ
        have HK := Lib.hid hK
        have hS1 := hKc _ _ hK HS.out
        clear hJ hK
        by_cases hs1 : s < f + 1
        · have hsi : (s : Int) < (f : Int) + 1 := by omega
          have x1 := hS1.x
          have x2 := hS1.l
          have hq0 : q < wm.heap.size := World.block_lt_of_cell? wm _ x1
          have hp0 : p < wm.heap.size := World.block_lt_of_cell? wm _ x2
          have hb0 : Below wm.heap.size wm (wm.alloc (.cells #[.int .i64 (f : Int), .int .i64 (s : Int)] 175)) := (Below.refl _ _).alloc (Nat.le_refl _) _
          have y0 : (wm.alloc (.cells #[.int .i64 (f : Int), .int .i64 (s : Int)] 175)).cell? ⟨wm.heap.size, 0, none⟩ = some (.int .i64 (f : Int)) := by simp
          have y1 : (wm.alloc (.cells #[.int .i64 (f : Int), .int .i64 (s : Int)] 175)).cell? ⟨wm.heap.size, 1, none⟩ = some (.int .i64 (s : Int)) := by simp
          have HB0 := Lib.hid hb0
          have HS1 := Lib.hid hS1
          clear hb0 hS1
          gi_wp2
          generalize wm.alloc (.cells #[.int .i64 (f : Int), .int .i64 (s : Int)] 175) = wq at y0 y1 HB0 ⊢
          gi_loopw [28] (fun i wt => ∃ k : Nat, k ≤ ws.length ∧ i = .int .i64 k ∧ AllB k (fun k => okW fr o (wx ws k) f s) ∧ Below wq.heap.size wq wt)
            (fun i _ => ws.length - (intOf i).toNat)
          case atStart => exact ⟨0, Nat.zero_le _, rfl, fun j hj => by omega, Below.refl _ _⟩
          case round =>
            obtain ⟨k, hk, rfl, hAll, hbt⟩ := hrel
            rename World => wt
            have HALL := Lib.hid hAll
            have HBT := Lib.hid hbt
            have hz0 := HB0.out.size
            have hzt := hbt.size
            have hnr : n₀ ≤ wm.heap.size := Nat.le_trans hn (hKz _ _ HK.out)
            have HBr : Hid (Below wm.heap.size wm wt) := HB0.out.trans (hbt.mono hz0)
            have hSt := HS1.out.below HBr.out (by omega)
            have z0 := cell_of_ans hbt y0
            have z1 := cell_of_ans hbt y1
            clear hAll hbt
            by_cases hk1 : k < ws.length
            · obtain ⟨b, off, hA, hbB, c1, c2, c3, c4, c5⟩ := hSt.w.at_ hk1
              subst hA
              have hv := HOK.out k hk1
              have hbl : b < wt.heap.size := by omega
              have HOW : Hid (okW fr o (wx ws k) f s = (!(decide ((wx ws k).fr = fr)) || (o (wx ws k).te.toNat || fitsB (wx ws k) (f : Int) (s : Int)))) := rfl
              generalize hx : wx ws k = x at c1 c2 c3 c4 c5 hv HOW
              have HX := Lib.hid hx
              clear hx
              obtain ⟨xf, xb, xt, xl, xh⟩ := x
              dsimp only at c1 c2 c3 c4 c5
              have hv' : (inB xf 0 (frn - 1) && (inB xb 0 1 && (inB xt 0 3 && (decide (0 ≤ xl) && (decide (xl ≤ xh) && decide (xh ≤ 10)))))) = true := hv
              simp only [Bool.and_eq_true, inB_eq, decide_eq_true_eq] at hv'
              obtain ⟨-, ⟨hxb0, hxb1⟩, ⟨hxt0, hxt3⟩, -⟩ := hv'
              clear hv
              have x1 := hSt.x
              have x3 := hSt.f
              obtain ⟨tn, rfl⟩ : ∃ tn : Nat, xt = (tn : Int) := ⟨xt.toNat, by omega⟩
              have htn : tn < 4 := by omega
              have x4 := hSt.o tn htn
              have hq1 : q < wt.heap.size := World.block_lt_of_cell? wt _ x1
              have hq2 : q + 1 < wt.heap.size := World.block_lt_of_cell? wt _ x3
              have hq3 : q + 2 < wt.heap.size := World.block_lt_of_cell? wt _ x4
              have hzz : wm.heap.size < wt.heap.size := World.block_lt_of_cell? wt _ z0
              have hbw : Below wt.heap.size wt (wt.alloc (.cells #[.int .i64 xf, .int .i64 xb, .int .i64 (tn : Int), .int .i64 xl, .int .i64 xh] 82)) := (Below.refl _ _).alloc (Nat.le_refl _) _
              have HW := Lib.hid hbw
              have HF := Lib.hid (fits_c ⟨xf, xb, (tn : Int), xl, xh⟩ (f : Int) (s : Int) (wt.alloc (.cells #[.int .i64 xf, .int .i64 xb, .int .i64 (tn : Int), .int .i64 xl, .int .i64 xh] 82)) (show xb = 0 ∨ xb = 1 by omega))
              clear hSt hbw
              dsimp only [wV] at HF
              have hki : (k : Int) < (ws.length : Int) := by omega
              by_cases e1 : xf = fr
              · have e1' : (xf == fr) = true := by simp [e1]
                cases e2 : o tn
                · rw [e2] at x4
                  cases e3 : fitsB ⟨xf, xb, (tn : Int), xl, xh⟩ (f : Int) (s : Int)
                  · have HFV := Lib.hid e3
                    have HNO : Hid (okB ws fr o (f, s) = false) := by show _ = _; exact allB_false hk1 (by show okW _ _ _ _ _ = _; rw [HX.out, okW, e3]; simp [e1, e2])
                    clear e3 e1 e2
                    gi_wp2
                    refine ⟨trivial, fun h => by simp [Fence.wide] at h, (callsIn_wide.2 HF.out).mono ?_⟩
                    rw [HFV.out]
                    rintro e w1 ⟨rfl, hb1⟩
                    have HB1 := Lib.hid hb1
                    clear hb1
                    gi_wp2
                    refine ⟨⟨s + 1, by omega, by go_num, ?_, ?_⟩, by simp [intOf]; omega⟩
                    · rw [gamesTo_no HNO.out]
                      exact hJb _ _ _ HJ.out (HBr.out.trans ((HW.out.trans (HB1.out.mono HW.out.size)).mono HBr.out.size))
                    · exact hKt HK.out (hKb _ _ hnr (HBr.out.trans ((HW.out.trans (HB1.out.mono HW.out.size)).mono HBr.out.size)))
                  · have HFV := Lib.hid e3
                    have HYES : Hid (okW fr o (wx ws k) f s = true) := by show _ = _; rw [HX.out, okW, e3]; simp
                    clear e3 e1 e2
                    gi_wp2
                    refine ⟨trivial, fun h => by simp [Fence.wide] at h, (callsIn_wide.2 HF.out).mono ?_⟩
                    rw [HFV.out]
                    rintro e w1 ⟨rfl, hb1⟩
                    have HB1 := Lib.hid hb1
                    clear hb1
                    gi_wp2
                    go_roundw
                    case rel => exact ⟨k + 1, by omega, by go_num, HALL.out.succ HYES.out, HBT.out.trans ((HW.out.trans (HB1.out.mono HW.out.size)).mono HBT.out.size)⟩
                    case measure => simp [intOf]; omega
                · rw [e2] at x4
                  have HYES : Hid (okW fr o (wx ws k) f s = true) := by show _ = _; rw [HX.out, okW]; simp [e2]
                  clear e1 e2
                  gi_wp2
                  refine ⟨(fun _ h => by cases h), ?_⟩
                  gi_wp2
                  go_roundw
                  case rel => exact ⟨k + 1, by omega, by go_num, HALL.out.succ HYES.out, HBT.out.trans (HW.out.mono HBT.out.size)⟩
                  case measure => simp [intOf]; omega
              · have e1' : (xf == fr) = false := by simp [e1]
                have HYES : Hid (okW fr o (wx ws k) f s = true) := by show _ = _; rw [HX.out, okW]; simp [e1]
                clear e1
                gi_wp2
                refine ⟨(fun _ h => by cases h), ?_⟩
                gi_wp2
                go_roundw
                case rel => exact ⟨k + 1, by omega, by go_num, HALL.out.succ HYES.out, HBT.out.trans (HW.out.mono HBT.out.size)⟩
                case measure => simp [intOf]; omega
            · obtain rfl : k = ws.length := by omega
              have HYES : Hid (okB ws fr o (f, s) = true) := by show _ = _; exact allB_true HALL.out
              obtain ⟨fn, tmps, assign, body, hy, hR⟩ := hY _ (f, s) wt (hJb _ _ _ HJ.out HBr.out) (by have := gamesTo_len ws fr o (f := f) (s := s) (by omega) (by omega); omega)
              unfold gEnc at hy
              dsimp only at hy
              have HR := Lib.hid hR
              clear hR hSt
              gi_wp2
              refine ⟨fun h => by simp [Fence.wide] at h, ?_⟩
              refine HR.out.mono ?_
              rintro e W3 (⟨rfl, hJ3, hk3⟩ | ⟨rfl, hJx3⟩)
              · have HJ3 := Lib.hid hJ3
                have HK3 := Lib.hid hk3
                clear hJ3 hk3
                gi_wp2
                refine ⟨⟨s + 1, by omega, by go_num, ?_, ?_⟩, by simp [intOf]; omega⟩
                · rw [gamesTo_yes HYES.out]
                  exact HJ3.out
                · exact hKt (hKt HK.out (hKb _ _ hnr HBr.out)) HK3.out
              · have HJX := Lib.hid hJx3
                clear hJx3
                gi_wp2
                simp +zetaDelta only [Exit.noGoto_ret, Exit.inBlock, Exit.then]
                refine bodyPost_ret (results_none rfl _ _ _) rfl ?_
                exact ⟨⟨_, rfl⟩, .inr ⟨_, trivial, HJX.out⟩⟩
        · have hsi : ¬ ((s : Int) < (f : Int) + 1) := by omega
          obtain rfl : s = f + 1 := by omega
          gi_wp2
          refine ⟨⟨f + 1, by omega, by go_num, by rw [gamesTo_next]; exact HJ.out, HK.out⟩, by simp [intOf]; omega⟩
    · obtain rfl : f = 11 := by omega
      have HJ := Lib.hid hJ
      clear hJ hK
      gi_wp2
      refine bodyPost_end (v := .tuple #[]) (results_none rfl _ _ _) rfl ?_
      exact ⟨⟨_, rfl⟩, .inl ⟨_, rfl, HJ.out⟩⟩
theorem games_stops {B : Nat} (n q p c : Nat) (fr frn : Int) (o : Nat → Bool) (A : Option Addr) (ws : List Wd) (n₀ : Nat) (hBn : B ≤ n₀) (hl9 : ws.length ≤ 1000000) (hok : ∀ k, k < ws.length → wordB frn (wx ws k) = true) (Kp : World → World → Prop) (hKt : ∀ {A B C : World}, Kp A B → Kp B C → Kp A C) (hKb : ∀ A B : World, n₀ ≤ A.heap.size → Below A.heap.size A B → Kp A B) (hKz : ∀ A B : World, Kp A B → A.heap.size ≤ B.heap.size)
    (hKc : ∀ W W', Kp W W' → GSt B W q p fr frn o A c ws → GSt B W' q p fr frn o A c ws) (w : World) (hn : n₀ ≤ w.heap.size) (hS : GSt B w q p fr frn o A c ws) :
    SeqStopsK Fence.wide n Try.prog 124 #[.pointer (some ⟨q, 0, none⟩), .pointer (some ⟨q + 1, 0, none⟩), .pointer (some ⟨q + 2, 0, none⟩)] gEnc Kp (fun ys => ys = gamesL ws fr o) (fun _ => True) 100 w :=
  fun l J Jx W hW hJ _ hY h0 => games1_in n l q p c fr frn o A ws n₀ hBn hl9 hok Kp hKt hKb hKz hKc J Jx (fun pre W W' h hb => hJ pre W W' none h (only_below hb none) (fun _ e => by cases e)) hY W (Nat.le_trans hn hW.size) (hS.below hW (Nat.le_trans hBn hn)) h0
end

end Go.Proofs.Ytenpiinkbfancaa.Sn
