/-
  oil: what balls leave on a lane, and its bounds (carried over from the proofs of the chapter 10).
-/
import Derived.Test.YtenpiinkbfancaaBase
import Derived.Test.YtenpiinkbfancaaGen
import Derived.Test.YtenpiinkbfancaaR
import Derived.Test.YtenpiinkbfancaaT
import Derived.Test.YtenpiinkbfancaaRt
import Derived.WalkLawsBesides
import Derived.Deep.QuietTactic
import Derived.BigQuiet
import Derived.RangeFuncNested
import Derived.Laws.EntriesVeiled
import Derived.Shelf.Abstract
import Derived.Laws.CopyOwn
import Derived.Deep.RegionWith
import Derived.Maps.AppendAt
import Derived.Deep.OwnRows
import Derived.RangeFuncBound
import Derived.RangeFuncCalls
import Derived.RangeFuncLeaves
import Derived.OwnWalkIn
import Derived.TacticsInMore
import Derived.LoopNIn
import Derived.LoopIn
import Derived.Deep.DeepCutAuto
import Derived.Deep.RegionHeld3
namespace Go.Proofs.Ytenpiinkbfancaa.Ol
open Go.RowKit
set_option linter.unusedSimpArgs false
set_option linter.unusedVariables false

section
open Go.RowKit
/-- Is a number from lo to hi? -/
def inB (n lo hi : Int) : Bool := decide (lo ≤ n) && decide (n ≤ hi)
theorem inB_eq (n lo hi : Int) : inB n lo hi = true ↔ lo ≤ n ∧ n ≤ hi := by simp [inB]
/-- a bool, and the world as it was -/
def Same (w : World) (v : Value) (e : Ending) (w' : World) : Prop := e = .returned v ∧ w = w'
theorem Same.ans {w : World} {v : Value} {e : Ending} {w' : World} (h : Same w v e w') : Ans w v e w' := by
  obtain ⟨rfl, rfl⟩ := h
  exact Ans.same
theorem ret_bool {a b : Bool} (h : a = b) : Ending.returned (.bool a) = .returned (.bool b) := by rw [h]
theorem ret_int {k : IntKind} {a b : Int} (h : a = b) : Ending.returned (.int k a) = .returned (.int k b) := by rw [h]
set_option maxHeartbeats 400000 in
theorem within_c (n lo hi : Int) (w : World) : Calls Try.prog 82 #[.int .i64 n, .int .i64 lo, .int .i64 hi] w (Same w (.bool (inB n lo hi))) := by
  by_cases h : lo ≤ n
  · go_enter Try.func82, Try.ntmps82
    go_wp2
    go_ret
    exact ⟨ret_bool (by simp [inB, h]), rfl⟩
  · go_enter Try.func82, Try.ntmps82
    go_wp2
    go_ret
    exact ⟨ret_bool (by simp only [inB]; rw [decide_eq_false (by omega)]; rfl), rfl⟩
set_option maxHeartbeats 400000 in
theorem level_c (n : Int) (w : World) : Calls Try.prog 186 #[.int .i64 n] w (Same w (.bool (inB n 0 100))) := by
  go_enter Try.func186, Try.ntmps186
  go_wp2_with (go_at_call 82; refine (within_c _ _ _ _).mono ?_; rintro e w' ⟨rfl, rfl⟩)
  go_ret
  exact ⟨rfl, rfl⟩
set_option maxHeartbeats 400000 in
theorem few_c (A : Option Addr) (n c : Nat) (w : World) : Calls Try.prog 163 #[.slice A n c] w (Same w (.bool (decide (n ≤ 12)))) := by
  go_enter Try.func163, Try.ntmps163
  go_wp2
  go_ret
  exact ⟨ret_bool (decide_eq_decide.2 (by omega)), rfl⟩
/-- The oil of a cell behind a ball. -/
def wornF (carry oil before own : Int) : Int := max 0 (min 100 (oil + carry * before / 100) - own)
set_option maxHeartbeats 400000 in
theorem little_c (lo hi : Int) (w : World) : Calls Try.prog 92 #[.agg #[.int .i64 lo, .int .i64 hi]] w (Ans w (.tuple #[.int .i64 lo, .int .i64 hi])) := by
  go_enter Try.func92, Try.ntmps92
  go_wp2
  go_quiet (fail)
  go_wp2
  go_ret2
  exact ⟨rfl, below_drewN ((Below.refl _ _).alloc (Nat.le_refl _) _) _⟩
set_option maxHeartbeats 400000 in
theorem much_c (lo hi : Int) (w : World) : Calls Try.prog 93 #[.agg #[.int .i64 lo, .int .i64 hi]] w (Ans w (.tuple #[.int .i64 hi, .int .i64 lo])) := by
  go_enter Try.func93, Try.ntmps93
  go_wp2
  go_quiet (fail)
  go_wp2
  go_ret2
  exact ⟨rfl, below_drewN ((Below.refl _ _).alloc (Nat.le_refl _) _) _⟩
set_option maxHeartbeats 400000 in
theorem boards_c {B : Nat} (A : Option Addr) (xss : List (List Int)) (c : Nat) (lo hi ca : Int) (w : World) (hB : B ≤ w.heap.size) (hr : Grd B w A xss) (h0 : 0 < xss.length) :
    Calls Try.prog 140 #[.agg #[.slice A xss.length c, .int .i64 lo, .int .i64 hi, .int .i64 ca]] w (Ans w (.int .i64 (rx xss 0).length)) := by
  obtain ⟨b, off, A', c', rfl, hb, hc, _, _, _⟩ := hr.at_ h0
  have hb' : b < w.heap.size := by omega
  simp only [Nat.add_zero] at hc
  go_enter Try.func140, Try.ntmps140
  go_wp2
  go_ret
  exact ⟨rfl, (Below.refl _ _).alloc (Nat.le_refl _) _⟩

-- Two numbers in a new row: their greatest, their least.
set_option maxHeartbeats 400000 in
theorem max2_c (g : Nat) (x y : Int) (w : World) (h0 : w.cell? ⟨g, 0, none⟩ = some (.int .i64 x)) (h1 : w.cell? ⟨g, 1, none⟩ = some (.int .i64 y)) :
    Calls Try.prog 118 #[.slice (some ⟨g, 0, none⟩) 2 2] w (Same w (.int .i64 (max x y))) := by
  go_enter Try.func118, Try.ntmps118
  go_wp2
  go_loop [3, 4] (fun m i => (m = .int .i64 x ∧ i = .int .i64 1) ∨ (m = .int .i64 (max x y) ∧ i = .int .i64 2)) (fun _ i => 2 - (intOf i).toNat)
  case atStart => exact .inl ⟨rfl, rfl⟩
  case round =>
    rcases hrel with ⟨rfl, rfl⟩ | ⟨rfl, rfl⟩
    · go_wp2
      all_goals
        go_round
        case rel => exact .inr ⟨by congr 1; omega, rfl⟩
        case measure => simp [intOf]
    · go_wp2
      go_ret
      exact ⟨rfl, rfl⟩
set_option maxHeartbeats 400000 in
theorem min2_c (g : Nat) (x y : Int) (w : World) (h0 : w.cell? ⟨g, 0, none⟩ = some (.int .i64 x)) (h1 : w.cell? ⟨g, 1, none⟩ = some (.int .i64 y)) :
    Calls Try.prog 117 #[.slice (some ⟨g, 0, none⟩) 2 2] w (Same w (.int .i64 (min x y))) := by
  go_enter Try.func117, Try.ntmps117
  go_wp2
  go_loop [3, 4] (fun m i => (m = .int .i64 x ∧ i = .int .i64 1) ∨ (m = .int .i64 (min x y) ∧ i = .int .i64 2)) (fun _ i => 2 - (intOf i).toNat)
  case atStart => exact .inl ⟨rfl, rfl⟩
  case round =>
    rcases hrel with ⟨rfl, rfl⟩ | ⟨rfl, rfl⟩
    · go_wp2
      all_goals
        go_round
        case rel => exact .inr ⟨by congr 1; omega, rfl⟩
        case measure => simp [intOf]
    · go_wp2
      go_ret
      exact ⟨rfl, rfl⟩
set_option maxHeartbeats 400000 in
theorem greatest_c (g : Nat) (x y : Int) (w : World) (h0 : w.cell? ⟨g, 0, none⟩ = some (.int .i64 x)) (h1 : w.cell? ⟨g, 1, none⟩ = some (.int .i64 y)) :
    Calls Try.prog 137 #[.slice (some ⟨g, 0, none⟩) 2 2] w (Same w (.int .i64 (max x y))) := by
  go_enter Try.func137, Try.ntmps137
  go_wp2_with (go_at_call 118; refine (max2_c _ _ _ _ h0 h1).mono ?_; rintro e w' ⟨rfl, rfl⟩)
  go_ret
  exact ⟨rfl, rfl⟩
set_option maxHeartbeats 400000 in
theorem least_c (g : Nat) (x y : Int) (w : World) (h0 : w.cell? ⟨g, 0, none⟩ = some (.int .i64 x)) (h1 : w.cell? ⟨g, 1, none⟩ = some (.int .i64 y)) :
    Calls Try.prog 138 #[.slice (some ⟨g, 0, none⟩) 2 2] w (Same w (.int .i64 (min x y))) := by
  go_enter Try.func138, Try.ntmps138
  go_wp2_with (go_at_call 117; refine (min2_c _ _ _ _ h0 h1).mono ?_; rintro e w' ⟨rfl, rfl⟩)
  go_ret
  exact ⟨rfl, rfl⟩
end

section
open Go.RowKit
def Enters (g : Nat) : Prop := ∀ args W, (callFunc g args).run Try.prog W = .ok (.enter g args) W
/-- Cell k of a slice holds vs k. -/
def Elems (B : Nat) (w : World) (A : Option Addr) (n : Nat) (vs : Nat → Value) : Prop :=
  0 < n → ∃ b off, A = some ⟨b, off, none⟩ ∧ b < B ∧ ∀ k, k < n → w.cell? ⟨b, off + k, none⟩ = some (vs k)
theorem Elems.at_ {B : Nat} {w : World} {A : Option Addr} {n : Nat} {vs : Nat → Value} (h : Elems B w A n vs) {k : Nat} (hk : k < n) :
    ∃ b off, A = some ⟨b, off, none⟩ ∧ b < B ∧ w.cell? ⟨b, off + k, none⟩ = some (vs k) := by
  obtain ⟨b, off, hA, hb, hc⟩ := h (by omega)
  exact ⟨b, off, hA, hb, hc k hk⟩
theorem Elems.below {B : Nat} {w w' : World} {A : Option Addr} {n : Nat} {vs : Nat → Value} (h : Elems B w A n vs) (hb : Below B w w') : Elems B w' A n vs := fun hp => by
  obtain ⟨b, off, hA, hlt, hc⟩ := h hp
  exact ⟨b, off, hA, hlt, fun k hk => (hb.cell (p := ⟨b, off + k, none⟩) hlt).trans (hc k hk)⟩
theorem _root_.Go.Proofs.Ytenpiinkbfancaa.Ints.elems {B : Nat} {w : World} {A : Option Addr} {xs : List Int} (h : Ints B w A xs) : Elems B w A xs.length (fun k => .int .i64 (ix xs k)) := h
/-- The function g, with what is bound and captured, says p k of element k, in whatever world that has the old blocks. -/
def Right (B : Nat) (w : World) (n g : Nat) (fs cs : Array Value) (vs : Nat → Value) (p : Nat → Bool) : Prop :=
  ∀ k, k < n → ∀ W, Below B w W → Calls Try.prog g (fs.push (vs k) ++ cs) W (Ans W (.bool (p k)))
theorem Right.below {B : Nat} {w w' : World} {n g : Nat} {fs cs : Array Value} {vs : Nat → Value} {p : Nat → Bool} (h : Right B w n g fs cs vs p) (hb : Below B w w') : Right B w' n g fs cs vs p :=
  fun k hk W hW => h k hk W (hb.trans hW)
def AllB (n : Nat) (p : Nat → Bool) : Prop := ∀ k, k < n → p k = true
theorem AllB.succ {k : Nat} {p : Nat → Bool} (h : AllB k p) (hp : p k = true) : AllB (k + 1) p := fun j hj => by
  by_cases e : j = k
  · subst e; exact hp
  · exact h j (by omega)
noncomputable def allB (n : Nat) (p : Nat → Bool) : Bool := (List.range n).all p
theorem allB_iff {n : Nat} {p : Nat → Bool} : allB n p = true ↔ AllB n p := by simp [allB, AllB]
/-- What IndexFunc answers: an index, if one is not right; else -1. -/
def Found (w : World) (n : Nat) (p : Nat → Bool) (e : Ending) (w' : World) : Prop :=
  (∃ k : Nat, e = .returned (.int .i64 k) ∧ allB n p = false ∧ Below w.heap.size w w') ∨ (e = .returned (.int .i64 (-1)) ∧ allB n p = true ∧ Below w.heap.size w w')
theorem found_at {w w' : World} {n k : Nat} {p : Nat → Bool} (hk : k < n) (hp : p k = false) (hb : Below w.heap.size w w') : Found w n p (.returned (.int .i64 k)) w' :=
  .inl ⟨k, rfl, (Bool.eq_false_iff.2 fun h => by rw [allB_iff] at h; rw [h k hk] at hp; simp at hp), hb⟩
theorem found_none {w w' : World} {n : Nat} {p : Nat → Bool} (h : AllB n p) (hb : Below w.heap.size w w') : Found w n p (.returned (.int .i64 (-1))) w' := .inr ⟨rfl, allB_iff.2 h, hb⟩
set_option maxHeartbeats 400000 in
theorem clI (g bx : Nat) (fs cs : Array Value) (x : Value) (W : World) (b : Bool) (he : Enters g)
    (hbx : W.cell? ⟨bx, 0, none⟩ = some (.func (.func g) fs cs)) (hc : Calls Try.prog g (fs.push x ++ cs) W (Ans W (.bool b))) :
    Calls Try.prog 133 #[x, .pointer (some ⟨bx, 0, none⟩)] W (Ans W (.bool (!b))) := by
  have H := Lib.hid hc
  clear hc
  unfold Enters at he
  go_enter Try.func133, Try.ntmps133
  go_wp2_with fail
  refine H.out.mono ?_
  rintro e w1 ⟨rfl, hb⟩
  go_wp2_with fail
  go_ret
  exact ⟨rfl, hb⟩
set_option maxHeartbeats 400000 in
theorem indexI {B : Nat} (A : Option Addr) (n c g bx : Nat) (fs cs : Array Value) (vs : Nat → Value) (p : Nat → Bool) (w : World) (he : Enters g) (hB : B ≤ w.heap.size) (hbx : bx < w.heap.size) (hn : n ≤ 9223372036854775807)
    (hcell : w.cell? ⟨bx, 0, none⟩ = some (.func (.func g) fs cs)) (hel : Elems B w A n vs) (hr : Right B w n g fs cs vs p) :
    Calls Try.prog 166 #[.slice A n c, .func (.func 133) #[] #[.pointer (some ⟨bx, 0, none⟩)]] w (Found w n p) := by
  have HR := Lib.hid hr
  have HC := Lib.hid hcell
  have HE := Lib.hid he
  clear hr hcell he
  go_enter Try.func166, Try.ntmps166
  go_wp2_with fail
  go_loopw [8] (fun i wr => ∃ k : Nat, k ≤ n ∧ i = .int .i64 k ∧ AllB k p ∧ Below w.heap.size w wr) (fun i _ => n - (intOf i).toNat)
  case atStart => exact ⟨0, by omega, rfl, fun j hj => by omega, Below.refl _ _⟩
  case round =>
    obtain ⟨k, hk, rfl, hp, hb⟩ := hrel
    by_cases h1 : k < n
    · obtain ⟨b, off, rfl, hb1, hc0⟩ := hel.at_ h1
      have hc : wr.cell? ⟨b, off + k, none⟩ = some (vs k) := (hb.cell (p := ⟨b, off + k, none⟩) (by show b < _; omega)).trans hc0
      clear hc0
      have hz := hb.size
      have hcl := clI g bx fs cs (vs k) wr (p k) HE.out ((hb.cell (p := ⟨bx, 0, none⟩) hbx).trans HC.out) (HR.out k h1 wr (hb.mono hB))
      have HCL := Lib.hid hcl
      clear hcl
      cases hpk : p k
      · have HP := Lib.hid hpk
        clear hpk
        go_wp2_with fail
        refine HCL.out.mono ?_
        rw [HP.out]
        rintro e w1 ⟨rfl, hb2⟩
        go_wp2_with fail
        go_ret
        exact found_at h1 HP.out (hb.trans (hb2.mono hz))
      · have HP := Lib.hid hpk
        clear hpk
        go_wp2_with fail
        refine HCL.out.mono ?_
        rw [HP.out]
        rintro e w1 ⟨rfl, hb2⟩
        go_wp2_with fail
        go_roundw
        case rel => exact ⟨k + 1, by omega, by go_num, hp.succ HP.out, hb.trans (hb2.mono hz)⟩
        case measure => simp [intOf]; omega
    · go_wp2_with fail
      go_ret
      exact found_none (by have : k = n := by omega
                           rwa [this] at hp) hb
set_option maxHeartbeats 400000 in
theorem containsI {B : Nat} (A : Option Addr) (n c g bx : Nat) (fs cs : Array Value) (vs : Nat → Value) (p : Nat → Bool) (w : World) (he : Enters g) (hB : B ≤ w.heap.size) (hbx : bx < w.heap.size) (hn : n ≤ 9223372036854775807)
    (hcell : w.cell? ⟨bx, 0, none⟩ = some (.func (.func g) fs cs)) (hel : Elems B w A n vs) (hr : Right B w n g fs cs vs p) :
    Calls Try.prog 132 #[.slice A n c, .func (.func 133) #[] #[.pointer (some ⟨bx, 0, none⟩)]] w (Ans w (.bool (!allB n p))) := by
  have H := Lib.hid (indexI A n c g bx fs cs vs p w he hB hbx hn hcell hel hr)
  clear hcell hr he
  go_enter Try.func132, Try.ntmps132
  go_wp2_with fail
  refine H.out.mono ?_
  rintro e w1 (⟨k, rfl, hk, hb⟩ | ⟨rfl, hk, hb⟩)
  · go_wp2_with fail
    go_ret
    exact ⟨ret_bool (by rw [hk]; simp), hb⟩
  · go_wp2_with fail
    go_ret
    exact ⟨ret_bool (by rw [hk]; rfl), hb⟩
set_option maxHeartbeats 400000 in
theorem allI {B : Nat} (A : Option Addr) (n c g : Nat) (fs cs : Array Value) (vs : Nat → Value) (p : Nat → Bool) (w : World) (he : Enters g) (hB : B ≤ w.heap.size) (hn : n ≤ 9223372036854775807)
    (hel : Elems B w A n vs) (hr : Right B w n g fs cs vs p) :
    Calls Try.prog 84 #[.slice A n c, .func (.func g) fs cs] w (Ans w (.bool (allB n p))) := by
  have hw : Below B w (w.alloc (.cells #[.func (.func g) fs cs] 193)) := (Below.refl _ _).alloc hB _
  have H := Lib.hid (containsI (B := B) A n c g w.heap.size fs cs vs p (w.alloc (.cells #[.func (.func g) fs cs] 193)) he (by simp; omega) (by simp) hn (by simp) (hel.below hw) (hr.below hw))
  clear hr he
  go_enter Try.func84, Try.ntmps84
  go_wp2_with fail
  refine H.out.mono ?_
  rintro e w1 ⟨rfl, hb⟩
  go_wp2_with fail
  go_ret
  exact ⟨ret_bool (by simp), (((Below.refl w.heap.size w).alloc (Nat.le_refl _) _).trans (hb.mono (by simp)))⟩
set_option maxHeartbeats 400000 in
theorem clR (g bx : Nat) (fs cs : Array Value) (x : Value) (W : World) (b : Bool) (he : Enters g)
    (hbx : W.cell? ⟨bx, 0, none⟩ = some (.func (.func g) fs cs)) (hc : Calls Try.prog g (fs.push x ++ cs) W (Ans W (.bool b))) :
    Calls Try.prog 135 #[x, .pointer (some ⟨bx, 0, none⟩)] W (Ans W (.bool (!b))) := by
  have H := Lib.hid hc
  clear hc
  unfold Enters at he
  go_enter Try.func135, Try.ntmps135
  go_wp2_with fail
  refine H.out.mono ?_
  rintro e w1 ⟨rfl, hb⟩
  go_wp2_with fail
  go_ret
  exact ⟨rfl, hb⟩
set_option maxHeartbeats 400000 in
theorem indexR {B : Nat} (A : Option Addr) (n c g bx : Nat) (fs cs : Array Value) (vs : Nat → Value) (p : Nat → Bool) (w : World) (he : Enters g) (hB : B ≤ w.heap.size) (hbx : bx < w.heap.size) (hn : n ≤ 9223372036854775807)
    (hcell : w.cell? ⟨bx, 0, none⟩ = some (.func (.func g) fs cs)) (hel : Elems B w A n vs) (hr : Right B w n g fs cs vs p) :
    Calls Try.prog 167 #[.slice A n c, .func (.func 135) #[] #[.pointer (some ⟨bx, 0, none⟩)]] w (Found w n p) := by
  have HR := Lib.hid hr
  have HC := Lib.hid hcell
  have HE := Lib.hid he
  clear hr hcell he
  go_enter Try.func167, Try.ntmps167
  go_wp2_with fail
  go_loopw [8] (fun i wr => ∃ k : Nat, k ≤ n ∧ i = .int .i64 k ∧ AllB k p ∧ Below w.heap.size w wr) (fun i _ => n - (intOf i).toNat)
  case atStart => exact ⟨0, by omega, rfl, fun j hj => by omega, Below.refl _ _⟩
  case round =>
    obtain ⟨k, hk, rfl, hp, hb⟩ := hrel
    by_cases h1 : k < n
    · obtain ⟨b, off, rfl, hb1, hc0⟩ := hel.at_ h1
      have hc : wr.cell? ⟨b, off + k, none⟩ = some (vs k) := (hb.cell (p := ⟨b, off + k, none⟩) (by show b < _; omega)).trans hc0
      clear hc0
      have hz := hb.size
      have hcl := clR g bx fs cs (vs k) wr (p k) HE.out ((hb.cell (p := ⟨bx, 0, none⟩) hbx).trans HC.out) (HR.out k h1 wr (hb.mono hB))
      have HCL := Lib.hid hcl
      clear hcl
      cases hpk : p k
      · have HP := Lib.hid hpk
        clear hpk
        go_wp2_with fail
        refine HCL.out.mono ?_
        rw [HP.out]
        rintro e w1 ⟨rfl, hb2⟩
        go_wp2_with fail
        go_ret
        exact found_at h1 HP.out (hb.trans (hb2.mono hz))
      · have HP := Lib.hid hpk
        clear hpk
        go_wp2_with fail
        refine HCL.out.mono ?_
        rw [HP.out]
        rintro e w1 ⟨rfl, hb2⟩
        go_wp2_with fail
        go_roundw
        case rel => exact ⟨k + 1, by omega, by go_num, hp.succ HP.out, hb.trans (hb2.mono hz)⟩
        case measure => simp [intOf]; omega
    · go_wp2_with fail
      go_ret
      exact found_none (by have : k = n := by omega
                           rwa [this] at hp) hb
set_option maxHeartbeats 400000 in
theorem containsR {B : Nat} (A : Option Addr) (n c g bx : Nat) (fs cs : Array Value) (vs : Nat → Value) (p : Nat → Bool) (w : World) (he : Enters g) (hB : B ≤ w.heap.size) (hbx : bx < w.heap.size) (hn : n ≤ 9223372036854775807)
    (hcell : w.cell? ⟨bx, 0, none⟩ = some (.func (.func g) fs cs)) (hel : Elems B w A n vs) (hr : Right B w n g fs cs vs p) :
    Calls Try.prog 134 #[.slice A n c, .func (.func 135) #[] #[.pointer (some ⟨bx, 0, none⟩)]] w (Ans w (.bool (!allB n p))) := by
  have H := Lib.hid (indexR A n c g bx fs cs vs p w he hB hbx hn hcell hel hr)
  clear hcell hr he
  go_enter Try.func134, Try.ntmps134
  go_wp2_with fail
  refine H.out.mono ?_
  rintro e w1 (⟨k, rfl, hk, hb⟩ | ⟨rfl, hk, hb⟩)
  · go_wp2_with fail
    go_ret
    exact ⟨ret_bool (by rw [hk]; simp), hb⟩
  · go_wp2_with fail
    go_ret
    exact ⟨ret_bool (by rw [hk]; rfl), hb⟩
set_option maxHeartbeats 400000 in
theorem allR {B : Nat} (A : Option Addr) (n c g : Nat) (fs cs : Array Value) (vs : Nat → Value) (p : Nat → Bool) (w : World) (he : Enters g) (hB : B ≤ w.heap.size) (hn : n ≤ 9223372036854775807)
    (hel : Elems B w A n vs) (hr : Right B w n g fs cs vs p) :
    Calls Try.prog 85 #[.slice A n c, .func (.func g) fs cs] w (Ans w (.bool (allB n p))) := by
  have hw : Below B w (w.alloc (.cells #[.func (.func g) fs cs] 203)) := (Below.refl _ _).alloc hB _
  have H := Lib.hid (containsR (B := B) A n c g w.heap.size fs cs vs p (w.alloc (.cells #[.func (.func g) fs cs] 203)) he (by simp; omega) (by simp) hn (by simp) (hel.below hw) (hr.below hw))
  clear hr he
  go_enter Try.func85, Try.ntmps85
  go_wp2_with fail
  refine H.out.mono ?_
  rintro e w1 ⟨rfl, hb⟩
  go_wp2_with fail
  go_ret
  exact ⟨ret_bool (by simp), (((Below.refl w.heap.size w).alloc (Nat.le_refl _) _).trans (hb.mono (by simp)))⟩
end

section
open Go.RowKit
theorem _root_.Go.Proofs.Ytenpiinkbfancaa.Grd.elems {B : Nat} {w : World} {A : Option Addr} {xss : List (List Int)} (h : Grd B w A xss) : ∃ vs, Elems B w A xss.length vs ∧ ∀ k, k < xss.length → IsInts B w (vs k) (rx xss k) := by
  by_cases h0 : 0 < xss.length
  · obtain ⟨b, off, rfl, hb, hc⟩ := h h0
    refine ⟨fun k => ((w.cell? ⟨b, off + k, none⟩).getD undef), fun _ => ⟨b, off, rfl, hb, fun k hk => ?_⟩, fun k hk => ?_⟩
    · obtain ⟨v, hv, _⟩ := hc k hk
      simp [hv]
    · obtain ⟨v, hv, hi⟩ := hc k hk
      simpa [hv] using hi
  · exact ⟨fun _ => undef, fun hp => absurd hp h0, fun k hk => by omega⟩
theorem enters53 : Enters 163 := fun _ _ => enters_of Try.func163 (by kernel_rfl) rfl _ _
theorem enters55 : Enters 164 := fun _ _ => enters_of Try.func164 (by kernel_rfl) rfl _ _
theorem enters58 : Enters 81 := fun _ _ => enters_of Try.func81 (by kernel_rfl) rfl _ _
theorem enters59 : Enters 83 := fun _ _ => enters_of Try.func83 (by kernel_rfl) rfl _ _
theorem enters85 : Enters 186 := fun _ _ => enters_of Try.func186 (by kernel_rfl) rfl _ _
theorem enters86 : Enters 131 := fun _ _ => enters_of Try.func131 (by kernel_rfl) rfl _ _
theorem enters95 : Enters 165 := fun _ _ => enters_of Try.func165 (by kernel_rfl) rfl _ _
theorem push00 (x : Value) : ((#[] : Array Value).push x ++ #[]) = #[x] := rfl
theorem push10 (y x : Value) : ((#[y] : Array Value).push x ++ #[]) = #[y, x] := rfl
theorem right_few {B : Nat} {w : World} {xss : List (List Int)} {vs : Nat → Value} (hv : ∀ k, k < xss.length → IsInts B w (vs k) (rx xss k)) :
    Right B w xss.length 163 #[] #[] vs (fun k => decide ((rx xss k).length ≤ 12)) := fun k hk W _ => by
  obtain ⟨A, c, hvk, _, _, _⟩ := hv k hk
  rw [push00, hvk]
  exact (few_c A _ c W).mono fun _ _ h => h.ans
theorem right_level {B : Nat} {w : World} {xs : List Int} : Right B w xs.length 186 #[] #[] (fun k => .int .i64 (ix xs k)) (fun k => inB (ix xs k) 0 100) := fun k _ W _ => by
  rw [push00]
  exact (level_c _ W).mono fun _ _ h => h.ans
/-- Is a list a row of a lane whose first row is given? -/
noncomputable def rowB (xss : List (List Int)) (x : List Int) : Bool := decide (0 < x.length) && decide (x.length = (rx xss 0).length) && allB x.length (fun k => inB (ix x k) 0 100)
set_option maxHeartbeats 400000 in
theorem row_c {B : Nat} (A A' : Option Addr) (xss : List (List Int)) (x : List Int) (c c' : Nat) (lo hi ca : Int) (w : World) (hB : B ≤ w.heap.size) (hr : Grd B w A xss) (hx : Ints B w A' x) (h0 : 0 < xss.length) (hc' : x.length ≤ c' ∧ c' ≤ 9223372036854775807) :
    Calls Try.prog 164 #[.agg #[.slice A xss.length c, .int .i64 lo, .int .i64 hi, .int .i64 ca], .slice A' x.length c'] w (Ans w (.bool (rowB xss x))) := by
  have hw1 : Below w.heap.size w (w.alloc (.cells #[.slice A xss.length c, .int .i64 lo, .int .i64 hi, .int .i64 ca] 112)) := (Below.refl _ _).alloc (Nat.le_refl _) _
  by_cases h1 : 0 < x.length
  · have H1 := Lib.hid (boards_c (B := B) A xss c lo hi ca (w.alloc (.cells #[.slice A xss.length c, .int .i64 lo, .int .i64 hi, .int .i64 ca] 112)) (by simp; omega) (hr.below (hw1.mono hB)) h0)
    by_cases h2 : x.length = (rx xss 0).length
    · have h2' : ((x.length : Int) == ((rx xss 0).length : Int)) = true := by simp [h2]
      have HR : Hid (rowB xss x = allB x.length (fun k => inB (ix x k) 0 100)) := by show _ = _; simp [rowB, h2, h2 ▸ h1]
      clear h2
      go_enter Try.func164, Try.ntmps164
      go_wp2_with fail
      refine H1.out.mono ?_
      rintro e w1 ⟨rfl, hb1⟩
      have hb2 := hw1.trans (hb1.mono (by simp))
      have H2 := Lib.hid (allI (B := B) A' x.length c' 186 #[] #[] _ _ w1 enters85 (Nat.le_trans hB hb2.size) (by omega) (hx.below (hb2.mono hB)).elems (right_level (B := B) (w := w1) (xs := x)))
      go_wp2_with fail
      refine H2.out.mono ?_
      rintro e w2 ⟨rfl, hb3⟩
      go_wp2_with fail
      go_ret
      exact ⟨ret_bool HR.out.symm, hb2.trans (hb3.mono hb2.size)⟩
    · have h2' : ((x.length : Int) == ((rx xss 0).length : Int)) = false := by simp; omega
      have HR : Hid (rowB xss x = false) := by show _ = _; simp [rowB, h2]
      clear h2
      go_enter Try.func164, Try.ntmps164
      go_wp2_with fail
      refine H1.out.mono ?_
      rintro e w1 ⟨rfl, hb1⟩
      go_wp2_with fail
      go_ret
      exact ⟨ret_bool HR.out.symm, hw1.trans (hb1.mono (by simp))⟩
  · have HR : Hid (rowB xss x = false) := by show _ = _; simp [rowB]; omega
    go_enter Try.func164, Try.ntmps164
    go_wp2_with fail
    go_ret
    exact ⟨ret_bool HR.out.symm, hw1⟩
noncomputable def limB (xss : List (List Int)) : Bool := decide (xss.length ≤ 8) && allB xss.length (fun k => decide ((rx xss k).length ≤ 12))
noncomputable def argB (xss : List (List Int)) (lo hi ca : Int) : Bool := decide (0 < xss.length) && allB xss.length (fun k => rowB xss (rx xss k)) && inB lo 0 hi && decide (hi ≤ 9) && inB ca 0 100
/-- The error of a lane. -/
noncomputable def laneErr (xss : List (List Int)) (lo hi ca : Int) : Int := if limB xss then (if argB xss lo hi ca then 0 else 1) else 3
theorem right_row {B : Nat} {w : World} {A : Option Addr} {xss : List (List Int)} {c : Nat} {lo hi ca : Int} {vs : Nat → Value} (hB : B ≤ w.heap.size) (hr : Grd B w A xss) (hv : ∀ k, k < xss.length → IsInts B w (vs k) (rx xss k)) :
    Right B w xss.length 164 #[.agg #[.slice A xss.length c, .int .i64 lo, .int .i64 hi, .int .i64 ca]] #[] vs (fun k => rowB xss (rx xss k)) := fun k hk W hW => by
  obtain ⟨A', c', hvk, h1, h2, h3⟩ := hv k hk
  rw [push10, hvk]
  exact row_c (B := B) A A' xss (rx xss k) c c' lo hi ca W (Nat.le_trans hB hW.size) (hr.below hW) (h3.below hW) (by omega) ⟨h1, h2⟩
set_option maxHeartbeats 1000000 in
theorem checkLane_c {B : Nat} (A : Option Addr) (xss : List (List Int)) (c : Nat) (lo hi ca : Int) (w : World) (hB : B ≤ w.heap.size) (hr : Grd B w A xss) (hc : xss.length ≤ c ∧ c ≤ 9223372036854775807) :
    Calls Try.prog 130 #[.agg #[.slice A xss.length c, .int .i64 lo, .int .i64 hi, .int .i64 ca]] w (Ans w (.int .i64 (laneErr xss lo hi ca))) := by
  have hw1 : Below w.heap.size w (w.alloc (.cells #[.slice A xss.length c, .int .i64 lo, .int .i64 hi, .int .i64 ca] 112)) := (Below.refl _ _).alloc (Nat.le_refl _) _
  have hz1 := hw1.size
  obtain ⟨vs, hel, hvs⟩ := hr.elems
  have hn : xss.length ≤ 9223372036854775807 := by omega
  have HN := Lib.hid hn
  clear hn
  by_cases h1 : xss.length ≤ 8
  · have H1 := Lib.hid (allR (B := B) A xss.length c 163 #[] #[] vs _ (w.alloc (.cells #[.slice A xss.length c, .int .i64 lo, .int .i64 hi, .int .i64 ca] 112)) enters53 (Nat.le_trans hB hz1) HN.out (hel.below (hw1.mono hB)) ((right_few hvs).below (hw1.mono hB)))
    cases h2 : allB xss.length (fun k => decide ((rx xss k).length ≤ 12))
    · have HR : Hid (laneErr xss lo hi ca = 3) := by show _ = _; simp [laneErr, limB, h1, h2]
      have H2 := Lib.hid h2
      clear h2
      go_enter Try.func130, Try.ntmps130
      go_wp2_with fail
      refine H1.out.mono ?_
      rw [H2.out]
      rintro e w1 ⟨rfl, hb1⟩
      go_wp2_with fail
      go_ret
      exact ⟨ret_int HR.out.symm, hw1.trans (hb1.mono hz1)⟩
    · have HL : Hid (limB xss = true) := by show _ = _; simp [limB, h1, h2]
      have H2 := Lib.hid h2
      clear h2
      go_enter Try.func130, Try.ntmps130
      go_wp2_with fail
      refine H1.out.mono ?_
      rw [H2.out]
      rintro e w1 ⟨rfl, hb1⟩
      have hb2 := hw1.trans (hb1.mono hz1)
      have hz2 := hb2.size
      obtain ⟨hcell, hfroz⟩ := bcell hb1
      by_cases h3 : 0 < xss.length
      · have h3' : ((xss.length : Int) == 0) = false := by rw [beq_eq_false_iff_ne]; omega
        have hr1 := hr.below (hb2.mono hB)
        have H3 := Lib.hid (allR (B := B) A xss.length c 164 #[.agg #[.slice A xss.length c, .int .i64 lo, .int .i64 hi, .int .i64 ca]] #[] vs _ w1 enters55 (Nat.le_trans hB hz2) HN.out (hel.below (hb2.mono hB)) (right_row (Nat.le_trans hB hz2) hr1 (fun k hk => (hvs k hk).below (hb2.mono hB))))
        cases h4 : allB xss.length (fun k => rowB xss (rx xss k))
        · have HR : Hid (laneErr xss lo hi ca = 1) := by show _ = _; simp [laneErr, argB, HL.out, h4]
          have H4 := Lib.hid h4
          clear h4
          go_wp2_with fail
          refine H3.out.mono ?_
          rw [H4.out]
          rintro e w2 ⟨rfl, hb3⟩
          go_wp2_with fail
          go_ret
          exact ⟨ret_int HR.out.symm, hb2.trans (hb3.mono hz2)⟩
        · have HA : Hid (argB xss lo hi ca = (inB lo 0 hi && decide (hi ≤ 9) && inB ca 0 100)) := by show _ = _; simp [argB, h3, h4]
          have H4 := Lib.hid h4
          clear h4
          go_wp2_with fail
          refine H3.out.mono ?_
          rw [H4.out]
          rintro e w2 ⟨rfl, hb3⟩
          have hb4 := hb2.trans (hb3.mono hz2)
          obtain ⟨hcell2, hfroz2⟩ := bcell hb3
          have hlt : w.heap.size < w1.heap.size := by
            have := hb1.size
            simp at this
            omega
          cases h5 : inB lo 0 hi
          · have HR : Hid (laneErr xss lo hi ca = 1) := by show _ = _; simp [laneErr, HL.out, HA.out, h5]
            have H5 := Lib.hid h5
            clear h5
            go_wp2_with fail
            refine (within_c _ _ _ _).mono ?_
            rw [H5.out]
            rintro e w3 ⟨rfl, rfl⟩
            go_wp2_with fail
            go_ret
            exact ⟨ret_int HR.out.symm, hb4⟩
          · have H5 := Lib.hid h5
            clear h5
            by_cases h6 : hi ≤ 9
            · cases h7 : inB ca 0 100
              · have HR : Hid (laneErr xss lo hi ca = 1) := by show _ = _; simp [laneErr, HL.out, HA.out, h7]
                have H7 := Lib.hid h7
                clear h7
                go_wp2_with fail
                refine (within_c _ _ _ _).mono ?_
                rw [H5.out]
                rintro e w3 ⟨rfl, rfl⟩
                go_wp2_with fail
                refine (within_c _ _ _ _).mono ?_
                rw [H7.out]
                rintro e w3 ⟨rfl, rfl⟩
                go_wp2_with fail
                go_ret
                exact ⟨ret_int HR.out.symm, hb4⟩
              · have HR : Hid (laneErr xss lo hi ca = 0) := by show _ = _; simp [laneErr, HL.out, HA.out, H5.out, h6, h7]
                have H7 := Lib.hid h7
                clear h7
                go_wp2_with fail
                refine (within_c _ _ _ _).mono ?_
                rw [H5.out]
                rintro e w3 ⟨rfl, rfl⟩
                go_wp2_with fail
                refine (within_c _ _ _ _).mono ?_
                rw [H7.out]
                rintro e w3 ⟨rfl, rfl⟩
                go_wp2_with fail
                go_ret
                exact ⟨ret_int HR.out.symm, hb4⟩
            · have HR : Hid (laneErr xss lo hi ca = 1) := by show _ = _; simp [laneErr, HL.out, HA.out, h6]
              go_wp2_with fail
              refine (within_c _ _ _ _).mono ?_
              rw [H5.out]
              rintro e w3 ⟨rfl, rfl⟩
              go_wp2_with fail
              go_ret
              exact ⟨ret_int HR.out.symm, hb4⟩
      · have h3' : ((xss.length : Int) == 0) = true := by rw [beq_iff_eq]; omega
        have HR : Hid (laneErr xss lo hi ca = 1) := by show _ = _; simp [laneErr, argB, HL.out, h3]
        go_wp2_with fail
        go_ret
        exact ⟨ret_int HR.out.symm, hb2⟩
  · have HR : Hid (laneErr xss lo hi ca = 3) := by show _ = _; simp [laneErr, limB, h1]
    go_enter Try.func130, Try.ntmps130
    go_wp2_with fail
    go_ret
    exact ⟨ret_int HR.out.symm, hw1⟩
end

section
open Go.RowKit
set_option maxHeartbeats 400000 in
theorem ball1_c {B : Nat} (A : Option Addr) (xss : List (List Int)) (c bx : Nat) (lo hi ca n : Int) (w : World) (hB : B ≤ w.heap.size) (hr : Grd B w A xss) (h0 : 0 < xss.length)
    (c0 : w.cell? ⟨bx, 0, none⟩ = some (.slice A xss.length c)) (c1 : w.cell? ⟨bx, 1, none⟩ = some (.int .i64 lo)) (c2 : w.cell? ⟨bx, 2, none⟩ = some (.int .i64 hi)) (c3 : w.cell? ⟨bx, 3, none⟩ = some (.int .i64 ca))
    (hl : (rx xss 0).length ≤ 9223372036854775807) :
    Calls Try.prog 165 #[.int .i64 n, .pointer (some ⟨bx, 0, none⟩)] w (Ans w (.bool (inB n 0 ((rx xss 0).length - 1)))) := by
  have H1 := Lib.hid (boards_c (B := B) A xss c lo hi ca w hB hr h0)
  clear hr
  go_enter Try.func165, Try.ntmps165
  go_wp2_with fail
  refine H1.out.mono ?_
  rintro e w1 ⟨rfl, hb1⟩
  go_wp2_with fail
  refine (within_c _ _ _ _).mono ?_
  rintro e w3 ⟨rfl, rfl⟩
  go_wp2_with fail
  go_ret
  exact ⟨rfl, hb1⟩
/-- Is a list a ball of a lane? -/
noncomputable def ballB (xss : List (List Int)) (x : List Int) : Bool := decide (x.length = xss.length) && allB x.length (fun k => inB (ix x k) 0 ((rx xss 0).length - 1))
theorem push01 (x y : Value) : ((#[] : Array Value).push x ++ #[y]) = #[x, y] := rfl
theorem push02 (x y z : Value) : ((#[] : Array Value).push x ++ #[y, z]) = #[x, y, z] := rfl
theorem grd_len {B : Nat} {w : World} {A : Option Addr} {xss : List (List Int)} (hr : Grd B w A xss) {k : Nat} (hk : k < xss.length) : (rx xss k).length ≤ 9223372036854775807 := by
  obtain ⟨b, off, A', c', rfl, hb, hc, h1, h2, _⟩ := hr.at_ hk
  omega
set_option maxHeartbeats 400000 in
theorem ball_c {B : Nat} (A A' : Option Addr) (xss : List (List Int)) (x : List Int) (c c' : Nat) (lo hi ca : Int) (w : World) (hB : B ≤ w.heap.size) (hr : Grd B w A xss) (hx : Ints B w A' x) (h0 : 0 < xss.length) (_hc : xss.length ≤ c ∧ c ≤ 9223372036854775807) (_hc' : x.length ≤ c' ∧ c' ≤ 9223372036854775807) :
    Calls Try.prog 131 #[.agg #[.slice A xss.length c, .int .i64 lo, .int .i64 hi, .int .i64 ca], .slice A' x.length c'] w (Ans w (.bool (ballB xss x))) := by
  have hw1 : Below w.heap.size w (w.alloc (.cells #[.slice A xss.length c, .int .i64 lo, .int .i64 hi, .int .i64 ca] 112)) := (Below.refl _ _).alloc (Nat.le_refl _) _
  by_cases h1 : x.length = xss.length
  · have h1' : ((x.length : Int) == (xss.length : Int)) = true := by simp [h1]
    have HR : Hid (ballB xss x = allB x.length (fun k => inB (ix x k) 0 ((rx xss 0).length - 1))) := by show _ = _; simp [ballB, h1]
    have H1 := Lib.hid (allI (B := w.heap.size + 1) A' x.length c' 165 #[] #[.pointer (some ⟨w.heap.size, 0, none⟩)] (fun k => .int .i64 (ix x k)) (fun k => inB (ix x k) 0 ((rx xss 0).length - 1)) (w.alloc (.cells #[.slice A xss.length c, .int .i64 lo, .int .i64 hi, .int .i64 ca] 112)) enters95 (by simp) (by omega) ((hx.below (hw1.mono hB)).more (by omega)).elems
      (fun k _ W hW => by
        rw [push01]
        have hz := hW.size
        simp at hz
        have hcl : ∀ i, W.cell? ⟨w.heap.size, i, none⟩ = _ := fun i => hW.cell (p := ⟨w.heap.size, i, none⟩) (by simp)
        exact ball1_c (B := B) A xss c w.heap.size lo hi ca (ix x k) W (by omega) (hr.below ((hw1.trans (hW.mono (by omega))).mono hB)) h0 (by rw [hcl]; simp) (by rw [hcl]; simp) (by rw [hcl]; simp) (by rw [hcl]; simp) (grd_len hr h0)))
    clear h1
    go_enter Try.func131, Try.ntmps131
    go_wp2_with fail
    refine H1.out.mono ?_
    rintro e w1 ⟨rfl, hb1⟩
    go_wp2_with fail
    go_ret
    exact ⟨ret_bool HR.out.symm, hw1.trans (hb1.mono hw1.size)⟩
  · have h1' : ((x.length : Int) == (xss.length : Int)) = false := by simp; omega
    have HR : Hid (ballB xss x = false) := by show _ = _; simp [ballB, h1]
    go_enter Try.func131, Try.ntmps131
    go_wp2_with fail
    go_ret
    exact ⟨ret_bool HR.out.symm, hw1⟩
theorem right_ball {B : Nat} {w : World} {A : Option Addr} {xss yss : List (List Int)} {c : Nat} {lo hi ca : Int} {vs : Nat → Value} (hB : B ≤ w.heap.size) (hr : Grd B w A xss) (h0 : 0 < xss.length) (hc : xss.length ≤ c ∧ c ≤ 9223372036854775807) (hv : ∀ k, k < yss.length → IsInts B w (vs k) (rx yss k)) :
    Right B w yss.length 131 #[.agg #[.slice A xss.length c, .int .i64 lo, .int .i64 hi, .int .i64 ca]] #[] vs (fun k => ballB xss (rx yss k)) := fun k hk W hW => by
  obtain ⟨A', c', hvk, h1, h2, h3⟩ := hv k hk
  rw [push10, hvk]
  exact ball_c (B := B) A A' xss (rx yss k) c c' lo hi ca W (Nat.le_trans hB hW.size) (hr.below hW) (h3.below hW) h0 hc ⟨h1, h2⟩
/-- The error of a lane with balls. -/
noncomputable def ballsErr (xss : List (List Int)) (lo hi ca : Int) (yss : List (List Int)) : Int :=
  if laneErr xss lo hi ca = 0 then (if yss.length ≤ 20 then (if allB yss.length (fun k => ballB xss (rx yss k)) then 0 else 2) else 3) else laneErr xss lo hi ca
theorem laneErr_pos {xss : List (List Int)} {lo hi ca : Int} (h : laneErr xss lo hi ca = 0) : 0 < xss.length ∧ xss.length ≤ 8 := by
  unfold laneErr at h
  split at h <;> rename_i h1
  · split at h <;> rename_i h2
    · simp [argB] at h2
      simp [limB] at h1
      exact ⟨h2.1.1.1.1, h1.1⟩
    · cases h
  · cases h
set_option maxHeartbeats 1000000 in
theorem check_c {B : Nat} (A A' : Option Addr) (xss yss : List (List Int)) (c c' : Nat) (lo hi ca : Int) (w : World) (hB : B ≤ w.heap.size) (hr : Grd B w A xss) (hy : Grd B w A' yss) (hc : xss.length ≤ c ∧ c ≤ 9223372036854775807) (_hc' : yss.length ≤ c' ∧ c' ≤ 9223372036854775807) :
    Calls Try.prog 80 #[.agg #[.slice A xss.length c, .int .i64 lo, .int .i64 hi, .int .i64 ca], .slice A' yss.length c'] w (Ans w (.int .i64 (ballsErr xss lo hi ca yss))) := by
  have hw1 : Below w.heap.size w (w.alloc (.cells #[.slice A xss.length c, .int .i64 lo, .int .i64 hi, .int .i64 ca] 112)) := (Below.refl _ _).alloc (Nat.le_refl _) _
  have hz1 := hw1.size
  have H1 := Lib.hid (checkLane_c (B := B) A xss c lo hi ca (w.alloc (.cells #[.slice A xss.length c, .int .i64 lo, .int .i64 hi, .int .i64 ca] 112)) (by omega) (hr.below (hw1.mono hB)) hc)
  by_cases h1 : laneErr xss lo hi ca = 0
  · obtain ⟨h0, h8⟩ := laneErr_pos h1
    have H0 := Lib.hid h1
    clear h1
    obtain ⟨vs, hel, hvs⟩ := hy.elems
    go_enter Try.func80, Try.ntmps80
    go_wp2_with fail
    refine H1.out.mono ?_
    rw [H0.out]
    rintro e w1 ⟨rfl, hb1⟩
    have hb2 := hw1.trans (hb1.mono hz1)
    have hz2 := hb2.size
    obtain ⟨hcell, hfroz⟩ := bcell hb1
    by_cases h2 : yss.length ≤ 20
    · have H2 := Lib.hid (allR (B := B) A' yss.length c' 131 #[.agg #[.slice A xss.length c, .int .i64 lo, .int .i64 hi, .int .i64 ca]] #[] vs _ w1 enters86 (Nat.le_trans hB hz2) (by omega) (hel.below (hb2.mono hB)) (right_ball (Nat.le_trans hB hz2) (hr.below (hb2.mono hB)) h0 hc (fun k hk => (hvs k hk).below (hb2.mono hB))))
      cases h3 : allB yss.length (fun k => ballB xss (rx yss k))
      · have HR : Hid (ballsErr xss lo hi ca yss = 2) := by show _ = _; simp [ballsErr, H0.out, h2, h3]
        have H3 := Lib.hid h3
        clear h3
        go_wp2_with fail
        refine H2.out.mono ?_
        rw [H3.out]
        rintro e w2 ⟨rfl, hb3⟩
        go_wp2_with fail
        go_ret
        exact ⟨ret_int HR.out.symm, hb2.trans (hb3.mono hz2)⟩
      · have HR : Hid (ballsErr xss lo hi ca yss = 0) := by show _ = _; simp [ballsErr, H0.out, h2, h3]
        have H3 := Lib.hid h3
        clear h3
        go_wp2_with fail
        refine H2.out.mono ?_
        rw [H3.out]
        rintro e w2 ⟨rfl, hb3⟩
        go_wp2_with fail
        go_ret
        exact ⟨ret_int HR.out.symm, hb2.trans (hb3.mono hz2)⟩
    · have HR : Hid (ballsErr xss lo hi ca yss = 3) := by show _ = _; simp [ballsErr, H0.out, h2]
      go_wp2_with fail
      go_ret
      exact ⟨ret_int HR.out.symm, hb2⟩
  · have h1' : (laneErr xss lo hi ca != 0) = true := by simp [h1]
    have HR : Hid (ballsErr xss lo hi ca yss = laneErr xss lo hi ca) := by show _ = _; simp [ballsErr, h1]
    go_enter Try.func80, Try.ntmps80
    go_wp2_with fail
    refine H1.out.mono ?_
    rintro e w1 ⟨rfl, hb1⟩
    go_wp2_with fail
    go_ret
    exact ⟨ret_int HR.out.symm, hw1.trans (hb1.mono hz1)⟩
set_option maxHeartbeats 400000 in
theorem play1_c (bx : Nat) (lo hi n : Int) (w : World) (c1 : w.cell? ⟨bx, 1, none⟩ = some (.int .i64 lo)) (c2 : w.cell? ⟨bx, 2, none⟩ = some (.int .i64 hi)) :
    Calls Try.prog 81 #[.int .i64 n, .pointer (some ⟨bx, 0, none⟩)] w (Same w (.bool (inB n lo hi))) := by
  go_enter Try.func81, Try.ntmps81
  go_wp2_with fail
  refine (within_c _ _ _ _).mono ?_
  rintro e w3 ⟨rfl, rfl⟩
  go_wp2_with fail
  go_ret
  exact ⟨rfl, rfl⟩
noncomputable def wearB (n : Nat) (lo hi : Int) (x : List Int) : Bool := decide (x.length = n) && allB x.length (fun k => inB (ix x k) lo hi)
set_option maxHeartbeats 400000 in
theorem play2_c {B : Nat} (A A' : Option Addr) (n c c' bx by_ : Nat) (x : List Int) (lo hi : Int) (w : World) (hB : B ≤ w.heap.size) (hx : Ints B w A' x) (hc' : x.length ≤ c' ∧ c' ≤ 9223372036854775807)
    (hbx : bx < w.heap.size) (_hby : by_ < w.heap.size)
    (c0 : w.cell? ⟨bx, 0, none⟩ = some (.slice A n c)) (c1 : w.cell? ⟨bx, 1, none⟩ = some (.int .i64 lo)) (c2 : w.cell? ⟨bx, 2, none⟩ = some (.int .i64 hi))
    (d0 : w.cell? ⟨by_, 0, none⟩ = some (.func (.func 81) #[] #[.pointer (some ⟨bx, 0, none⟩)])) :
    Calls Try.prog 83 #[.slice A' x.length c', .pointer (some ⟨bx, 0, none⟩), .pointer (some ⟨by_, 0, none⟩)] w (Ans w (.bool (wearB n lo hi x))) := by
  by_cases h1 : x.length = n
  · have h1' : ((x.length : Int) == (n : Int)) = true := by simp [h1]
    have HR : Hid (wearB n lo hi x = allB x.length (fun k => inB (ix x k) lo hi)) := by show _ = _; simp [wearB, h1]
    have H1 := Lib.hid (allI (B := w.heap.size) A' x.length c' 81 #[] #[.pointer (some ⟨bx, 0, none⟩)] (fun k => .int .i64 (ix x k)) (fun k => inB (ix x k) lo hi) w enters58 (by simp) (by omega) (hx.more hB).elems
      (fun k _ W hW => by
        rw [push01]
        have hcl : ∀ i, W.cell? ⟨bx, i, none⟩ = w.cell? ⟨bx, i, none⟩ := fun i => hW.cell (p := ⟨bx, i, none⟩) hbx
        exact (play1_c bx lo hi (ix x k) W (by rw [hcl, c1]) (by rw [hcl, c2])).mono fun _ _ h => h.ans))
    clear h1
    go_enter Try.func83, Try.ntmps83
    go_wp2_with fail
    refine H1.out.mono ?_
    rintro e w1 ⟨rfl, hb1⟩
    go_wp2_with fail
    go_ret
    exact ⟨ret_bool HR.out.symm, hb1⟩
  · have h1' : ((x.length : Int) == (n : Int)) = false := by simp; omega
    have HR : Hid (wearB n lo hi x = false) := by show _ = _; simp [wearB, h1]
    go_enter Try.func83, Try.ntmps83
    go_wp2_with fail
    go_ret
    exact ⟨ret_bool HR.out.symm, Below.refl _ _⟩
end

section
open Go.RowKit
/-- The cells of a worn lane: its Lane, then the oil of 8 rows of 12 boards. -/
def wcells (fv : Value) (lo hi ca : Int) (o : Nat → Int) : List Value := fv :: .int .i64 lo :: .int .i64 hi :: .int .i64 ca :: (List.range 96).map fun i => .int .i64 (o i)
def Worn (w : World) (g : Nat) (fv : Value) (lo hi ca : Int) (o : Nat → Int) : Prop := w.heap[g]? = some (.cells (wcells fv lo hi ca o).toArray 266 (0, 0))
def upd (o : Nat → Int) (i : Nat) (x : Int) : Nat → Int := fun j => if j = i then x else o j
section
variable {w w' : World} {g : Nat} {fv : Value} {lo hi ca : Int} {o : Nat → Int}
theorem wcells_len : (wcells fv lo hi ca o).length = 100 := by simp [wcells]
theorem wcells_at {i : Nat} (h : i < 96) : (wcells fv lo hi ca o)[4 + i]? = some (.int .i64 (o i)) := by
  rw [Nat.add_comm]
  simp [wcells, h]
theorem Worn.lt (h : Worn w g fv lo hi ca o) : g < w.heap.size := (Array.getElem?_eq_some_iff.1 h).1
theorem Worn.cell (h : Worn w g fv lo hi ca o) (j : Nat) : w.cell? ⟨g, j, none⟩ = (wcells fv lo hi ca o)[j]? := by
  unfold Worn at h
  simp [World.cell?, h]
theorem Worn.c0 (h : Worn w g fv lo hi ca o) : w.cell? ⟨g, 0, none⟩ = some fv := h.cell 0
theorem Worn.c1 (h : Worn w g fv lo hi ca o) : w.cell? ⟨g, 1, none⟩ = some (.int .i64 lo) := h.cell 1
theorem Worn.c2 (h : Worn w g fv lo hi ca o) : w.cell? ⟨g, 2, none⟩ = some (.int .i64 hi) := h.cell 2
theorem Worn.c3 (h : Worn w g fv lo hi ca o) : w.cell? ⟨g, 3, none⟩ = some (.int .i64 ca) := h.cell 3
theorem Worn.at_ (h : Worn w g fv lo hi ca o) {i j : Nat} (hi' : i < 96) (hj : j = 4 + i) : w.cell? ⟨g, j, none⟩ = some (.int .i64 (o i)) := by rw [h.cell, hj, wcells_at hi']
theorem Worn.fz (h : Worn w g fv lo hi ca o) (j : Nat) : w.frozen? ⟨g, j, none⟩ = false := by
  unfold Worn at h
  simp [World.frozen?, h]
theorem Worn.drewN (h : Worn w g fv lo hi ca o) (n : Nat) : Worn (w.drewN n) g fv lo hi ca o := h
theorem Worn.alloc (h : Worn w g fv lo hi ca o) (x : Obj) : Worn (w.alloc x) g fv lo hi ca o := (Below.heap_alloc w x g h.lt).trans h
theorem Worn.below {B : Nat} (h : Worn w g fv lo hi ca o) (hb : Below B w w') (hg : g < B) : Worn w' g fv lo hi ca o := (hb.block g hg).trans h
theorem Worn.grown {row : Option Nat} (h : Worn w g fv lo hi ca o) (hb : w.grownBy w' row) (hg : some g ≠ row) : Worn w' g fv lo hi ca o := (hb.block g h.lt hg).trans h
theorem wcells_upd {i : Nat} (x : Int) (h : i < 96) : (wcells fv lo hi ca o).set (4 + i) (.int .i64 x) = wcells fv lo hi ca (upd o i x) := by
  refine List.ext_getElem (by simp [wcells]) fun j h1 h2 => ?_
  simp only [List.length_set, wcells_len] at h1
  rw [List.getElem_set]
  by_cases hj : j < 4
  · rw [if_neg (by omega)]
    obtain rfl | rfl | rfl | rfl : j = 0 ∨ j = 1 ∨ j = 2 ∨ j = 3 := by omega
    all_goals rfl
  · obtain ⟨m, rfl⟩ : ∃ m, j = 4 + m := ⟨j - 4, by omega⟩
    have e1 := wcells_at (fv := fv) (lo := lo) (hi := hi) (ca := ca) (o := o) (i := m) (by omega)
    have e2 := wcells_at (fv := fv) (lo := lo) (hi := hi) (ca := ca) (o := upd o i x) (i := m) (by omega)
    rw [List.getElem?_eq_getElem (by rw [wcells_len]; omega)] at e1 e2
    injection e1 with e1
    injection e2 with e2
    rw [e2]
    by_cases e : m = i
    · subst e; simp [upd]
    · rw [if_neg (by omega), e1]; simp [upd, e]
theorem Worn.set (h : Worn w g fv lo hi ca o) {i j : Nat} (x : Int) (hi' : i < 96) (hj : j = 4 + i) : Worn (w.setCell ⟨g, j, none⟩ (.int .i64 x)) g fv lo hi ca (upd o i x) := by
  unfold Worn at h ⊢
  subst hj
  simp [World.setCell, Array.getElem?_modify, h, wcells_upd x hi']
end
theorem upd_upd (o : Nat → Int) (i : Nat) (x y : Int) : upd (upd o i x) i y = upd o i y := by
  funext j; simp only [upd]; split <;> rfl
theorem only_drewN {a w : World} {row : Option Nat} (h : a.grownBy w row) (n : Nat) : a.grownBy (w.drewN n) row := ⟨h.os, h.tape, h.output, h.size, h.block⟩
theorem only_alloc {a w : World} {row : Option Nat} (h : a.grownBy w row) (o : Obj) : a.grownBy (w.alloc o) row :=
  ⟨h.os, h.tape, h.output, Nat.le_trans h.size (by simp), fun i hi hne => (Below.heap_alloc w o i (Nat.lt_of_lt_of_le hi h.size)).trans (h.block i hi hne)⟩
theorem only_setCell {a w : World} {g : Nat} (h : a.grownBy w (some g)) {p : Addr} (hp : p.block = g ∨ a.heap.size ≤ p.block) (u : Value) : a.grownBy (w.setCell p u) (some g) :=
  ⟨h.os, h.tape, h.output, by simpa [World.setCell] using h.size, fun i hi hne => (Below.heap_setCell w p u i (by
    rintro rfl
    rcases hp with hp | hp
    · exact hne (by rw [hp])
    · omega)).trans (h.block i hi hne)⟩
theorem only_below {a w : World} (h : Below a.heap.size a w) (row : Option Nat) : a.grownBy w row := ⟨h.os, h.tape, h.output, h.size, fun i hi _ => h.block i hi⟩
theorem below_only {B g : Nat} {a w : World} (h : a.grownBy w (some g)) (hg : B ≤ g) (hB : B ≤ a.heap.size) : Below B a w :=
  ⟨h.os, h.tape, h.output, h.size, fun i hi => h.block i (by omega) (fun e => by injection e with e; omega)⟩
/-- A ball has gone over one cell. -/
def WearPost (w : World) (g : Nat) (fv : Value) (lo hi ca : Int) (o : Nat → Int) (i : Nat) (x : Int) (e : Ending) (w' : World) : Prop :=
  e = .returned (.tuple #[]) ∧ Worn w' g fv lo hi ca (upd o i x) ∧ w.grownBy w' (some g)
set_option maxHeartbeats 1000000 in
theorem wear_pos (g r b : Nat) (fv : Value) (lo hi ca before own : Int) (o : Nat → Int) (w : World) (hw : Worn w g fv lo hi ca o) (hr : r < 8) (hr0 : 0 < r) (hb : b < 12)
    (h1 : 0 ≤ ca) (h2 : ca ≤ 100) (h3 : 0 ≤ before) (h4 : before ≤ 9) (h5 : 0 ≤ o (r * 12 + b)) (h6 : o (r * 12 + b) ≤ 100) (h7 : 0 ≤ own) (h8 : own ≤ 9) :
    Calls Try.prog 88 #[.pointer (some ⟨g, 0, none⟩), .agg #[.int .i64 r, .int .i64 b], .int .i64 before, .int .i64 own] w (WearPost w g fv lo hi ca o (r * 12 + b) (wornF ca (o (r * 12 + b)) before own)) := by
  have hg := hw.lt
  have hg1 : g < w.heap.size + 1 := by omega
  have hg2 : g < w.heap.size + 1 + 1 := by omega
  have hc3 := hw.c3
  have hx := hw.at_ (i := r * 12 + b) (j := 4 + r * 12 + b) (by omega) (by omega)
  have hf := hw.fz (4 + r * 12 + b)
  have h9 : 0 ≤ ca * before := Int.mul_nonneg h1 h3
  have h10 : ca * before ≤ 900 := by
    have := Int.mul_le_mul h2 h4 h3 (by omega)
    omega
  have HW := Lib.hid hw
  clear hw
  generalize hox : o (r * 12 + b) = x at *
  have HX := Lib.hid hox
  clear hox
  go_enter Try.func88, Try.ntmps88
  go_wp2_with fail
  go_quiet (fail)
  go_wp2_with fail
  go_region
  go_wp2_with fail
  refine (least_c _ 100 (x + ca * before / 100) _ (by go_simp) (by go_simp)).mono ?_
  rintro e w1 ⟨rfl, rfl⟩
  go_wp2_with fail
  refine (greatest_c _ 0 (min 100 (x + ca * before / 100) - own) _ (by go_simp) (by go_simp)).mono ?_
  rintro e w1 ⟨rfl, rfl⟩
  go_wp2_with fail
  go_end0
  refine ⟨rfl, ?_, ?_⟩
  · rw [← upd_upd o (r * 12 + b) (x + ca * before / 100)]
    exact ((((((HW.out.alloc _).drewN _).set (i := r * 12 + b) (j := 4 + r * 12 + b) _ (by omega) (by omega)).set (i := r * 12 + b) (j := 4 + r * 12 + b) _ (by omega) (by omega)).alloc _).alloc _)
  · exact only_alloc (only_alloc (only_setCell (only_setCell (only_drewN (only_alloc (World.grownBy.refl w _) _) _) (.inl rfl) _) (.inl rfl) _) _) _
theorem wornF_zero (ca x own : Int) : wornF ca x 0 own = max 0 (min 100 x - own) := by simp [wornF]
set_option maxHeartbeats 1000000 in
theorem wear_zero (g b : Nat) (fv : Value) (lo hi ca before own : Int) (o : Nat → Int) (w : World) (hw : Worn w g fv lo hi ca o) (hb : b < 12)
    (h5 : 0 ≤ o b) (h6 : o b ≤ 100) (h7 : 0 ≤ own) (h8 : own ≤ 9) :
    Calls Try.prog 88 #[.pointer (some ⟨g, 0, none⟩), .agg #[.int .i64 0, .int .i64 b], .int .i64 before, .int .i64 own] w (WearPost w g fv lo hi ca o b (wornF ca (o b) 0 own)) := by
  have hg := hw.lt
  have hg1 : g < w.heap.size + 1 := by omega
  have hg2 : g < w.heap.size + 1 + 1 := by omega
  have hc3 := hw.c3
  have hx := hw.at_ (i := b) (j := 4 + b) (by omega) (by omega)
  have hf := hw.fz (4 + b)
  have HW := Lib.hid hw
  clear hw
  generalize hox : o b = x at *
  have HX := Lib.hid hox
  clear hox
  go_enter Try.func88, Try.ntmps88
  go_wp2_with fail
  go_quiet (fail)
  go_wp2_with fail
  refine (least_c _ 100 x _ (by go_simp) (by go_simp)).mono ?_
  rintro e w1 ⟨rfl, rfl⟩
  go_wp2_with fail
  refine (greatest_c _ 0 (min 100 x - own) _ (by go_simp) (by go_simp)).mono ?_
  rintro e w1 ⟨rfl, rfl⟩
  go_wp2_with fail
  go_end0
  refine ⟨rfl, ?_, ?_⟩
  · rw [wornF_zero]
    exact ((((HW.out.alloc _).drewN _).set (i := b) (j := 4 + b) (max 0 (min 100 x - own)) (by omega) (by omega)).alloc _).alloc _
  · exact only_alloc (only_alloc (only_setCell (only_drewN (only_alloc (World.grownBy.refl w _) _) _) (.inl rfl) _) _) _
theorem wear_c (g r b : Nat) (fv : Value) (lo hi ca before own : Int) (o : Nat → Int) (w : World) (hw : Worn w g fv lo hi ca o) (hr : r < 8) (hb : b < 12)
    (h1 : 0 ≤ ca) (h2 : ca ≤ 100) (h3 : 0 ≤ before) (h4 : before ≤ 9) (h5 : 0 ≤ o (r * 12 + b)) (h6 : o (r * 12 + b) ≤ 100) (h7 : 0 ≤ own) (h8 : own ≤ 9) :
    Calls Try.prog 88 #[.pointer (some ⟨g, 0, none⟩), .agg #[.int .i64 r, .int .i64 b], .int .i64 before, .int .i64 own] w (WearPost w g fv lo hi ca o (r * 12 + b) (wornF ca (o (r * 12 + b)) (if 0 < r then before else 0) own)) := by
  by_cases hr0 : 0 < r
  · rw [if_pos hr0]
    exact wear_pos g r b fv lo hi ca before own o w hw hr hr0 hb h1 h2 h3 h4 h5 h6 h7 h8
  · obtain rfl : r = 0 := by omega
    simp only [Nat.zero_mul, Nat.zero_add, Nat.lt_irrefl, if_false] at h5 h6 ⊢
    exact wear_zero g b fv lo hi ca before own o w hw hb h5 h6 h7 h8
end

section
open Go.RowKit
/-- The oil of all cells, by rows of 12 boards; 0 where a row has no board. -/
def oilOf (xss : List (List Int)) : Nat → Int := fun i => ix (rx xss (i / 12)) (i % 12)
theorem worn_new (fv : Value) (lo hi ca : Int) : (((Try.zeroCells266.setIfInBounds 0 fv).setIfInBounds 1 (.int .i64 lo)).setIfInBounds 2 (.int .i64 hi)).setIfInBounds 3 (.int .i64 ca) = (wcells fv lo hi ca (oilOf [])).toArray := by kernel_rfl
theorem rx_take {xss : List (List Int)} {k j : Nat} : rx (xss.take k) j = if j < k then rx xss j else [] := by
  simp only [rx, List.getD_eq_getElem?_getD, List.getElem?_take]
  split <;> rfl
theorem splice_row {fv : Value} {lo hi ca : Int} {xss : List (List Int)} {k : Nat} (hk : k < 8) (hl : (rx xss k).length ≤ 12) :
    splice (wcells fv lo hi ca (oilOf (xss.take k))) (4 + k * 12) ((rx xss k).map (Value.int .i64)) = wcells fv lo hi ca (oilOf (xss.take (k + 1))) := by
  have hL : (splice (wcells fv lo hi ca (oilOf (xss.take k))) (4 + k * 12) ((rx xss k).map (Value.int .i64))).length = 100 := by
    rw [length_splice _ _ _ (by rw [wcells_len]; simp; omega), wcells_len]
  refine List.ext_getElem (by rw [hL, wcells_len]) fun j h1 h2 => ?_
  rw [hL] at h1
  rw [← Option.some_inj, ← List.getElem?_eq_getElem, ← List.getElem?_eq_getElem]
  unfold splice
  by_cases hj : j < 4
  · rw [List.getElem?_append_left (by simp [wcells_len]; omega), List.getElem?_take, if_pos (by omega)]
    obtain rfl | rfl | rfl | rfl : j = 0 ∨ j = 1 ∨ j = 2 ∨ j = 3 := by omega
    all_goals rfl
  · obtain ⟨m, rfl⟩ : ∃ m, j = 4 + m := ⟨j - 4, by omega⟩
    rw [wcells_at (by omega)]
    by_cases ha : m < k * 12
    · rw [List.getElem?_append_left (by simp [wcells_len]; omega), List.getElem?_take, if_pos (by omega), wcells_at (by omega)]
      have e1 : m / 12 < k := by omega
      simp only [oilOf, rx_take, if_pos e1, if_pos (show m / 12 < k + 1 by omega)]
    · have e0 : (List.take (4 + k * 12) (wcells fv lo hi ca (oilOf (xss.take k)))).length = 4 + k * 12 := by simp [wcells_len]; omega
      rw [List.getElem?_append_right (by rw [e0]; omega), e0]
      by_cases hb : m < k * 12 + (rx xss k).length
      · rw [List.getElem?_append_left (by simp; omega)]
        have e1 : m / 12 = k := by omega
        have e2 : 4 + m - (4 + k * 12) = m % 12 := by omega
        rw [e2, List.getElem?_map, List.getElem?_eq_getElem (by omega)]
        simp only [oilOf, rx_take, e1, if_pos (show k < k + 1 by omega), Option.map_some]
        rw [ix_lt]
      · rw [List.getElem?_append_right (by simp; omega), List.getElem?_drop]
        have e3 : 4 + k * 12 + (List.map (Value.int .i64) (rx xss k)).length + (4 + m - (4 + k * 12) - (List.map (Value.int .i64) (rx xss k)).length) = 4 + m := by simp; omega
        rw [e3, wcells_at (by omega)]
        congr 2
        simp only [oilOf, rx_take]
        by_cases e4 : m / 12 < k + 1
        · have e5 : m / 12 = k := by omega
          rw [e5, if_neg (by omega), if_pos (by omega)]
          simp only [ix]
          rw [List.getD_eq_getElem?_getD, List.getD_eq_getElem?_getD, List.getElem?_eq_none (by simp), List.getElem?_eq_none (by omega)]
        · rw [if_neg (by omega), if_neg (by omega)]
theorem info3s : (Try.prog.info? 3).map (·.size) = some 1 := by kernel_rfl
theorem add_eq (b off j : Nat) : (⟨b, off, none⟩ : Addr).add j = ⟨b, off + j, none⟩ := by
  unfold Addr.add
  split
  · next h => subst h; rfl
  · rfl
theorem Ints.src {B : Nat} {w : World} {A : Option Addr} {xs : List Int} (h : Ints B w A xs) (h0 : 0 < (xs.map (Value.int .i64)).length) : ∃ ad, A = some ad ∧ ∀ j v, (xs.map (Value.int .i64))[j]? = some v → w.cell? (ad.add j) = some v := by
  obtain ⟨b, off, hA, _, hc⟩ := h (by simpa using h0)
  refine ⟨_, hA, fun j v hv => ?_⟩
  rw [add_eq]
  have hj : j < xs.length := by
    rcases Nat.lt_or_ge j xs.length with h | h
    · exact h
    · rw [List.getElem?_eq_none (by simpa using h)] at hv; cases hv
  rw [hc j hj, ix_lt hj]
  simpa [hj] using hv
theorem one_ints (xs : List Int) : ∀ v ∈ xs.map (Value.int .i64), v.oneCell' = true := by
  intro v hv
  obtain ⟨x, _, rfl⟩ := List.mem_map.1 hv
  rfl
/-- The answer is a pointer to a worn lane, in a new block. -/
def FreshPost (w : World) (fv : Value) (lo hi ca : Int) (o : Nat → Int) (e : Ending) (w' : World) : Prop :=
  ∃ g, e = .returned (.pointer (some ⟨g, 0, none⟩)) ∧ w.heap.size ≤ g ∧ Worn w' g fv lo hi ca o ∧ Below w.heap.size w w'
set_option maxRecDepth 100000 in
set_option maxHeartbeats 1000000 in
theorem fresh_c {B : Nat} (A : Option Addr) (xss : List (List Int)) (c : Nat) (lo hi ca : Int) (w : World) (hB : B ≤ w.heap.size) (hr : Grd B w A xss) (_hc : xss.length ≤ c ∧ c ≤ 9223372036854775807) (h8 : xss.length ≤ 8)
    (h12 : ∀ k, k < xss.length → (rx xss k).length ≤ 12) :
    Calls Try.prog 86 #[.agg #[.slice A xss.length c, .int .i64 lo, .int .i64 hi, .int .i64 ca]] w (FreshPost w (.slice A xss.length c) lo hi ca (oilOf xss)) := by
  have hw0 : Below w.heap.size w ((w.alloc (.cells #[.slice A xss.length c, .int .i64 lo, .int .i64 hi, .int .i64 ca] 112)).alloc (.cells ((((Try.zeroCells266.setIfInBounds 0 (.slice A xss.length c)).setIfInBounds 1 (.int .i64 lo)).setIfInBounds 2 (.int .i64 hi)).setIfInBounds 3 (.int .i64 ca)) 266)) := ((Below.refl _ _).alloc (Nat.le_refl _) _).alloc (by simp) _
  have HW0 : Hid (Worn ((w.alloc (.cells #[.slice A xss.length c, .int .i64 lo, .int .i64 hi, .int .i64 ca] 112)).alloc (.cells ((((Try.zeroCells266.setIfInBounds 0 (.slice A xss.length c)).setIfInBounds 1 (.int .i64 lo)).setIfInBounds 2 (.int .i64 hi)).setIfInBounds 3 (.int .i64 ca)) 266)) (w.heap.size + 1) (.slice A xss.length c) lo hi ca (oilOf (xss.take 0))) := by
    show Worn _ _ _ _ _ _ _
    unfold Worn
    rw [List.take_zero, ← worn_new]
    have := World.alloc_heap_new (w.alloc (.cells #[.slice A xss.length c, .int .i64 lo, .int .i64 hi, .int .i64 ca] 112)) (.cells ((((Try.zeroCells266.setIfInBounds 0 (.slice A xss.length c)).setIfInBounds 1 (.int .i64 lo)).setIfInBounds 2 (.int .i64 hi)).setIfInBounds 3 (.int .i64 ca)) 266)
    rwa [World.size_alloc] at this
  go_enter Try.func86, Try.ntmps86
  go_wp2_with fail
  go_loopw [12] (fun i wr => ∃ k : Nat, k ≤ xss.length ∧ i = .int .i64 k ∧ Worn wr (w.heap.size + 1) (.slice A xss.length c) lo hi ca (oilOf (xss.take k)) ∧ Below w.heap.size w wr) (fun i _ => xss.length - (intOf i).toNat)
  case atStart => exact ⟨0, by omega, rfl, HW0.out, hw0⟩
  case round =>
    obtain ⟨k, hk, rfl, hW, hb⟩ := hrel
    clear hw0 HW0
    by_cases h1 : k < xss.length
    · obtain ⟨b, off, A', c', rfl, hb1, hcl, hl1, hl2, hin⟩ := (hr.below (hb.mono hB)).at_ h1
      have hl12 := h12 k h1
      have HIN := Lib.hid hin
      have HWo := Lib.hid hW
      have HB := Lib.hid hb
      have hz := hb.size
      have Hn : Hid (((rx xss k).map (Value.int .i64)).length = Nat.min (rx xss k).length 12) := by show _ = _; rw [List.length_map]; exact (Nat.min_eq_left hl12).symm
      have Hp : Hid (0 < ((rx xss k).map (Value.int .i64)).length → some (⟨w.heap.size + 1, 4 + k * 12, none⟩ : Addr) = some ⟨w.heap.size + 1, 4 + k * 12, none⟩ ∧ ∃ ad, A' = some ad ∧ ∀ j v, ((rx xss k).map (Value.int .i64))[j]? = some v → wr.cell? (ad.add j) = some v) := fun h0 => ⟨rfl, hin.src h0⟩
      have Hf : Hid (4 + k * 12 + ((rx xss k).map (Value.int .i64)).length ≤ (wcells (.slice (some ⟨b, off, none⟩) xss.length c) lo hi ca (oilOf (xss.take k))).length) := by show _ ≤ _; rw [wcells_len]; simp; omega
      clear hin hW hb
      go_wp2_with (refine wpList_copy_splice rfl (.tmp 22) (.tmp 23) 42 42 rfl 3 Try.underlying42 info3s (some ⟨w.heap.size + 1, 4 + k * 12, none⟩) A' 12 12 (rx xss k).length c' rfl rfl (w.heap.size + 1) (4 + k * 12) (wcells (.slice (some ⟨b, off, none⟩) xss.length c) lo hi ca (oilOf (xss.take k))) 266 HWo.out ((rx xss k).map (Value.int .i64)) Hn.out Hp.out Hf.out (one_ints _) w.heap.size w HB.out (Nat.le_succ _) ?_; intro w2 hW2 hb2; clear HWo HB HIN hcl Hn Hp Hf; have HW2 := Lib.hid hW2; have HB2 := Lib.hid hb2; clear hW2 hb2)
      have hW3 := HW2.out.out
      rw [splice_row (by omega) hl12] at hW3
      go_roundw
      case rel => exact ⟨k + 1, by omega, by go_num, hW3, HB2.out⟩
      case measure => simp [intOf]; omega
    · obtain rfl : k = xss.length := by omega
      go_wp2_with fail
      go_ret
      rw [List.take_length] at hW
      exact ⟨_, rfl, by omega, hW, hb⟩
end

section
open Go.RowKit
/-- A slice's cells, nil let in. -/
def Src (w : World) (size : Nat) (A : Option Addr) (m : Nat) (news : List Value) : Prop :=
  news.length = m * size ∧ (A = none → m = 0) ∧ ∀ ad, A = some ad → ∀ j u, news[j]? = some u → w.cell? (ad.add j) = some u
theorem Ints.isrc {B : Nat} {w : World} {A : Option Addr} {xs : List Int} (h : Ints B w A xs) : Src w 1 A xs.length (xs.map (Value.int .i64)) := by
  refine ⟨by simp, fun hA => ?_, fun ad hA j u hu => ?_⟩
  · rcases Nat.eq_zero_or_pos xs.length with h0 | h0
    · exact h0
    · obtain ⟨b, off, hA', _⟩ := h h0
      rw [hA] at hA'
      cases hA'
  · have h0 : 0 < (xs.map (Value.int .i64)).length := by
      rcases Nat.eq_zero_or_pos (xs.map (Value.int .i64)).length with h0 | h0
      · rw [List.getElem?_eq_none (by omega)] at hu; cases hu
      · exact h0
    obtain ⟨ad', hA', hc⟩ := h.src h0
    rw [hA] at hA'
    injection hA' with e
    subst e
    exact hc j u hu
section
variable {P : Program} {w : World}
theorem run_append_src (base : Nat) (t ty e : TypeId) (i : TypeInfo) (z : Value) (size bytes : Nat) (ht : P.underlying t = some (.slice e)) (hi : P.info? e = some i) (hz : i.zero = some z)
    (hsize : i.size = size) (hby : i.bytes = bytes) (hzs : z.cells.size = size) (hsz : 0 < size)
    (v : Value) (n : Nat) (xs : List Value) (hown : w.ownsRow base e size v n xs) (A : Option Addr) (m c : Nat) (news : List Value) (hs : Src w size A m news) (h1 : ∀ u ∈ news, u.oneCell' = true)
    (h63 : n + m ≤ maxLen) (hbytes : (n + m) * bytes ≤ 140737488355328) (hbase : base ≤ w.heap.size) :
    ∃ v' w', (Builtin.append_ #[t, t] ty #[v, .slice A m c]).run P w = .ok v' w' ∧ w'.ownsRow base e size v' (n + m) (xs ++ news) ∧ w.grownBy w' v.ownBlock ∧
      (v'.ownBlock = v.ownBlock ∨ v'.ownBlock = some w.heap.size) := by
  cases A with
  | some ad =>
    obtain ⟨v', w', h2, h3, h4, _, h5⟩ := run_append_own_at (P := P) w base t ty e i z size bytes ht hi hz hsize hby hzs hsz v n xs hown ad m c news hs.1 (hs.2.2 ad rfl) h1 h63 hbytes hbase
    exact ⟨v', w', h2, h3, h4, h5⟩
  | none =>
    obtain rfl : m = 0 := hs.2.1 rfl
    obtain rfl : news = [] := List.eq_nil_of_length_eq_zero (by simpa using hs.1)
    refine ⟨v, w, ?_, by simpa using hown, World.grownBy.refl _ _, .inl rfl⟩
    rcases hown.2 with ⟨rfl, rfl⟩ | ⟨g, cap, cur, rfl, _, _, hcap, _⟩
    all_goals simp [Builtin.append_, run_underlying ht, sizeOf, typeInfo, hi, Builtin.lenOf, Builtin.firstCells, storeCells]
    omega
theorem wpList_append_src {ops : Array Oper} {rest : List Oper} {o : Oper} {a : Act} {Q : Exit → Act → World → Prop} (hgd : o.guard = none) (s x : Operand) (t : TypeId)
    (ho : o.op = .call { callee := .builtin .append, args := #[s, x], argTypes := #[t, t] })
    (base : Nat) (e : TypeId) (i : TypeInfo) (z : Value) (size bytes : Nat) (ht : P.underlying t = some (.slice e)) (hi : P.info? e = some i) (hz : i.zero = some z)
    (hsize : i.size = size) (hby : i.bytes = bytes) (hzs : z.cells.size = size) (hsz : 0 < size)
    (v : Value) (n : Nat) (xs : List Value) (hv : a.eval s = v) (hown : w.ownsRow base e size v n xs) (A : Option Addr) (m c : Nat) (news : List Value) (hx : a.eval x = .slice A m c) (hs : Src w size A m news) (h1 : ∀ u ∈ news, u.oneCell' = true)
    (h63 : n + m ≤ maxLen) (hbytes : (n + m) * bytes ≤ 140737488355328) (hbase : base ≤ w.heap.size)
    (h : ∀ v' w', w'.ownsRow base e size v' (n + m) (xs ++ news) → w.grownBy w' v.ownBlock → (v'.ownBlock = v.ownBlock ∨ v'.ownBlock = some w.heap.size) → wpList P ops Q rest (a.put o.dst v') w') : wpList P ops Q (o :: rest) a w := by
  refine wpList_plain hgd fun K hK => ?_
  obtain ⟨v', w', hr, h2, h3, h4⟩ := run_append_src (P := P) (w := w) base t o.type e i z size bytes ht hi hz hsize hby hzs hsz v n xs hown A m c news hs h1 h63 hbytes hbase
  unfold Oper.wp execOp
  simp only [ho, resolve, invoke, builtin, Sem.run_bind, Sem.run_pure, Result.andThen_ok, List.map_toArray, List.map_cons, List.map_nil, hv, hx, hr]
  exact hK _ _ (h v' w' h2 h3 h4)
end
theorem infoInt : (Try.prog.info? 3).map (fun i => (i.zero, i.size, i.bytes)) = some (some (.int .i64 0), 1, 8) := by kernel_rfl
theorem infoInts : (Try.prog.info? 42).map (fun i => (i.zero, i.size, i.bytes)) = some (some (.slice none 0 0), 1, 24) := by kernel_rfl
/-- A new slice of integers. -/
def NewInts (w : World) (xs : List Int) (e : Ending) (w' : World) : Prop :=
  ∃ A c, e = .returned (.slice A xs.length c) ∧ w'.ownsRow w.heap.size 3 1 (.slice A xs.length c) xs.length (xs.map (Value.int .i64)) ∧ Below w.heap.size w w'
theorem ownsRow_form {w : World} {base : Nat} {e : TypeId} {size n : Nat} {v : Value} {xs : List Value} (h : w.ownsRow base e size v n xs) : ∃ A c, v = .slice A n c := by
  rcases h.2 with ⟨rfl, rfl⟩ | ⟨g, cap, cur, rfl, _⟩
  · exact ⟨_, _, rfl⟩
  · exact ⟨_, _, rfl⟩
theorem ownsRow_base {w : World} {base base' : Nat} {e : TypeId} {size n : Nat} {v : Value} {xs : List Value} (h : w.ownsRow base e size v n xs) (hb : base' ≤ base) : w.ownsRow base' e size v n xs := by
  obtain ⟨h1, h2⟩ := h
  refine ⟨h1, ?_⟩
  rcases h2 with h2 | ⟨g, cap, cur, hv, hg, r⟩
  · exact .inl h2
  · exact .inr ⟨g, cap, cur, hv, by omega, r⟩
theorem below_drew_l {B : Nat} {a w : World} (h : Below B a.drew w) : Below B a w := ⟨h.os, h.tape, h.output, h.size, h.block⟩
set_option maxHeartbeats 400000 in
theorem clone_c {B : Nat} (A : Option Addr) (xs : List Int) (c : Nat) (w : World) (hx : Ints B w A xs) (hB : B ≤ w.heap.size) (hl : xs.length ≤ 1000000) :
    Calls Try.prog 139 #[.slice A xs.length c] w (NewInts w xs) := by
  obtain ⟨i0, hi, hz0, hz1, hz2⟩ := info_parts infoInt
  cases A with
  | none =>
    have h0 : xs.length = 0 := hx.isrc.2.1 rfl
    obtain rfl : xs = [] := List.eq_nil_of_length_eq_zero h0
    clear h0
    rw [List.length_nil]
    have heq : ∀ W, (binOp .eql 42 (.slice none 0 c) (.slice none 0 0)).run Try.prog W = .ok (.bool true) W := fun W => Lib.run_eql_slice_nil W 42 3 none _ _ 0 0 Try.underlying42
    clear hx
    go_enter Try.func139, Try.ntmps139
    go_wp2_with fail
    go_ret
    exact ⟨_, _, rfl, World.ownsRow_nil _ _ _ _, Below.refl _ _⟩
  | some ad =>
    have heq : ∀ W, (binOp .eql 42 (.slice (some ad) xs.length c) (.slice none 0 0)).run Try.prog W = .ok (.bool false) W := fun W => Lib.run_eql_slice_nil W 42 3 (some ad) _ _ 0 0 Try.underlying42
    have hs := Lib.hid ((hx.alloc hB (.cells #[] 3)).isrc)
    have ho : Hid ((w.alloc (.cells #[] 3)).ownsRow w.heap.size 3 1 (.slice (some ⟨w.heap.size, 0, none⟩) 0 0) 0 []) := World.ownsRow_lit w #[] 0 (Nat.le_refl _) (by simp [maxLen]) (by simp)
    have h63 : Hid (0 + xs.length ≤ maxLen) := by show _ ≤ _; unfold maxLen; omega
    have hby : Hid ((0 + xs.length) * 8 ≤ 140737488355328) := by show _ ≤ _; omega
    go_enter Try.func139, Try.ntmps139
    go_wp2_with (at_builtin; refine wpList_append_src rfl (.tmp 5) (.tmp 6) 42 rfl w.heap.size 3 i0 (.int .i64 0) 1 8 Try.underlying42 hi hz0 hz1 hz2 rfl (by decide) (.slice (some ⟨w.heap.size, 0, none⟩) 0 0) 0 [] rfl ho.out (some ad) xs.length c _ rfl hs.out (one_ints xs) h63.out hby.out (by simp) ?_; intro v' w1 hown hgrow _; have HO := Lib.hid hown; have HG := Lib.hid hgrow; clear hown hgrow)
    go_ret
    have hown := HO.out
    rw [List.nil_append, Nat.zero_add] at hown
    obtain ⟨A', c', rfl⟩ := ownsRow_form hown
    exact ⟨_, _, rfl, hown, ((Below.refl w.heap.size w).alloc (Nat.le_refl _) _).grown HG.out (by simp) (fun k e => by injection e with e; subst e; exact Nat.le_refl _)⟩
/-- Row j of nb boards. -/
def rowOf (o : Nat → Int) (nb j : Nat) : List Int := (List.range nb).map fun b => o (j * 12 + b)
def rowsOf (o : Nat → Int) (nb n : Nat) : List (List Int) := (List.range n).map (rowOf o nb)
theorem rowOf_len (o : Nat → Int) (nb j : Nat) : (rowOf o nb j).length = nb := by simp [rowOf]
theorem ix_rowOf (o : Nat → Int) {nb j b : Nat} (h : b < nb) : ix (rowOf o nb j) b = o (j * 12 + b) := by
  rw [ix_lt (by rw [rowOf_len]; exact h)]
  simp [rowOf]
theorem rowsOf_len (o : Nat → Int) (nb n : Nat) : (rowsOf o nb n).length = n := by simp [rowsOf]
theorem rx_rowsOf (o : Nat → Int) {nb n j : Nat} (h : j < n) : rx (rowsOf o nb n) j = rowOf o nb j := by
  rw [rx_lt (by rw [rowsOf_len]; exact h)]
  simp [rowsOf]
theorem Worn.ints {w : World} {g : Nat} {fv : Value} {lo hi ca : Int} {o : Nat → Int} (h : Worn w g fv lo hi ca o) {nb j : Nat} (hj : j < 8) (hnb : nb ≤ 12) : Ints w.heap.size w (some ⟨g, 4 + j * 12, none⟩) (rowOf o nb j) := fun _ =>
  ⟨g, 4 + j * 12, rfl, h.lt, fun k hk => by
    rw [rowOf_len] at hk
    rw [ix_rowOf o hk]
    exact h.at_ (by omega) (by omega)⟩
theorem ownsRow_isInts {w : World} {base : Nat} {v : Value} {xs : List Int} (h : w.ownsRow base 3 1 v xs.length (xs.map (Value.int .i64))) : IsInts w.heap.size w v xs := by
  rcases h.2 with ⟨rfl, h0⟩ | ⟨g, cap, cur, rfl, hb, hg, hn, hm, hs, ht⟩
  · have : xs = [] := List.eq_nil_of_length_eq_zero h0
    subst this
    exact ⟨none, 0, rfl, by simp, by simp, fun hp => by simp at hp⟩
  · refine ⟨_, cap, rfl, hn, by unfold maxLen at hm; omega, fun hp => ⟨g, 0, rfl, (Array.getElem?_eq_some_iff.1 hg).1, fun k hk => ?_⟩⟩
    have := h.cells (g := g) rfl k (.int .i64 (ix xs k)) (by rw [List.getElem?_map, List.getElem?_eq_getElem hk, ix_lt hk]; rfl)
    rwa [add_eq] at this
/-- Block g holds n slices; the first k of them are rows of their own, in younger blocks. -/
def Outs (w : World) (g n k : Nat) (rows : Nat → List Int) : Prop :=
  ∃ arr : Array Value, w.heap[g]? = some (.cells arr 42 (0, 0)) ∧ arr.size = n ∧ ∀ j, j < k → ∃ v, arr[j]? = some v ∧ w.ownsRow (g + 1) 3 1 v (rows j).length ((rows j).map (Value.int .i64))
theorem Outs.keep {w w' : World} {g n k : Nat} {rows : Nat → List Int} (h : Outs w g n k rows) (hb : Below w.heap.size w w') : Outs w' g n k rows := by
  obtain ⟨arr, h1, h2, h3⟩ := h
  refine ⟨arr, (hb.block g (Array.getElem?_eq_some_iff.1 h1).1).trans h1, h2, fun j hj => ?_⟩
  obtain ⟨v, h4, h5⟩ := h3 j hj
  exact ⟨v, h4, h5.kept (only_below hb none) (by cases v.ownBlock <;> simp)⟩
theorem Outs.step {w : World} {g n k : Nat} {rows : Nat → List Int} {v : Value} (h : Outs w g n k rows) (hk : k < n) (hv : w.ownsRow (g + 1) 3 1 v (rows k).length ((rows k).map (Value.int .i64))) : Outs (w.setCell ⟨g, k, none⟩ v) g n (k + 1) rows := by
  obtain ⟨arr, h1, h2, h3⟩ := h
  have hset : w.grownBy (w.setCell ⟨g, k, none⟩ v) (some g) := only_setCell (World.grownBy.refl _ _) (.inl rfl) _
  have hne : ∀ {u : Value} {m : Nat} {us : List Value}, w.ownsRow (g + 1) 3 1 u m us → (w.setCell ⟨g, k, none⟩ v).ownsRow (g + 1) 3 1 u m us := fun {u m us} hu => hu.kept hset (by
    by_cases e : u.ownBlock = none
    · exact .inl e
    · refine .inr fun e' => ?_
      have := (hu.lt g e').1
      omega)
  refine ⟨arr.setIfInBounds k v, ?_, by simp [h2], fun j hj => ?_⟩
  · simp [World.setCell, Array.getElem?_modify, h1]
  · by_cases e : j = k
    · subst e
      exact ⟨v, by simp [h2, hk], hne hv⟩
    · obtain ⟨u, h4, h5⟩ := h3 j (by omega)
      exact ⟨u, by simp [Ne.symm e, h4], hne h5⟩
theorem Outs.grd {w : World} {g n : Nat} {yss : List (List Int)} (h : Outs w g n n (rx yss)) (hn : yss.length = n) (hm : n ≤ 9223372036854775807) : IsGrd w.heap.size w (.slice (some ⟨g, 0, none⟩) n n) yss := by
  subst hn
  obtain ⟨arr, h1, h2, h3⟩ := h
  refine ⟨_, _, rfl, Nat.le_refl _, hm, fun hp => ⟨g, 0, rfl, (Array.getElem?_eq_some_iff.1 h1).1, fun k hk => ?_⟩⟩
  obtain ⟨v, h4, h5⟩ := h3 k hk
  refine ⟨v, ?_, ownsRow_isInts h5⟩
  simp [World.cell?, h1, h4]
theorem Outs.lt {w : World} {g n k : Nat} {rows : Nat → List Int} (h : Outs w g n k rows) : g < w.heap.size := by
  obtain ⟨arr, h1, _⟩ := h
  exact (Array.getElem?_eq_some_iff.1 h1).1
theorem Outs.cell {w : World} {g n k : Nat} {rows : Nat → List Int} (h : Outs w g n k rows) {j : Nat} (hj : j < n) : (∃ u, w.cell? ⟨g, j, none⟩ = some u) ∧ w.frozen? ⟨g, j, none⟩ = false := by
  obtain ⟨arr, h1, h2, h3⟩ := h
  exact ⟨⟨arr[j], by simp [World.cell?, h1, h2, hj]⟩, by simp [World.frozen?, h1]⟩
/-- A new list of lists. -/
def NewGrd (w : World) (yss : List (List Int)) (e : Ending) (w' : World) : Prop :=
  ∃ v, e = .returned v ∧ IsGrd w'.heap.size w' v yss ∧ Below w.heap.size w w'
set_option maxHeartbeats 2000000 in
set_option maxRecDepth 100000 in
theorem list_c {B : Nat} (g : Nat) (A : Option Addr) (c : Nat) (lo hi ca : Int) (o : Nat → Int) (xss : List (List Int)) (w : World) (hW : Worn w g (.slice A xss.length c) lo hi ca o) (hB : B ≤ w.heap.size) (hr : Grd B w A xss) (h0 : 0 < xss.length) (h8 : xss.length ≤ 8) (h12 : (rx xss 0).length ≤ 12) :
    Calls Try.prog 89 #[.pointer (some ⟨g, 0, none⟩)] w (NewGrd w (rowsOf o (rx xss 0).length xss.length)) := by
  have hg := hW.lt
  have hg1 : g < w.heap.size + 1 := by omega
  have hc0 := hW.c0
  have hmk : ∀ W, (Instr.makeSlice 29 (.int .i64 (xss.length : Int)) (.int .i64 (xss.length : Int))).run Try.prog W = .ok (.slice (some ⟨W.heap.size, 0, none⟩) xss.length xss.length) (W.alloc (.cells (madeCells #[.slice none 0 0] xss.length) 42)) :=
    fun W => run_make_row' 29 42 (.slice none 0 0) 24 Try.underlying29 infoInts rfl .i64 .i64 xss.length (by omega) (by omega) W
  have hw1 : Below w.heap.size w (w.alloc (.cells (madeCells #[.slice none 0 0] xss.length) 42)) := (Below.refl _ _).alloc (Nat.le_refl _) _
  have HO : Hid (Outs (w.alloc (.cells (madeCells #[.slice none 0 0] xss.length) 42)) w.heap.size xss.length 0 (rx (rowsOf o (rx xss 0).length xss.length))) := ⟨_, World.alloc_heap_new w _, size_madeCells _ _, fun j hj => by omega⟩
  have HW := Lib.hid hW
  have HR := Lib.hid hr
  clear hW hr
  go_enter Try.func89, Try.ntmps89
  go_wp2_with fail
  go_loopw [14] (fun i wr => ∃ k : Nat, k ≤ xss.length ∧ i = .int .i64 k ∧ Outs wr w.heap.size xss.length k (rx (rowsOf o (rx xss 0).length xss.length)) ∧ Below w.heap.size w wr) (fun i _ => xss.length - (intOf i).toNat)
  case atStart => exact ⟨0, by omega, rfl, HO.out, hw1⟩
  case round =>
    obtain ⟨k, hk, rfl, hO, hb⟩ := hrel
    clear hw1 HO hmk hc0
    by_cases h1 : k < xss.length
    · have hW := HW.out.below hb hg
      have hr := HR.out.below (hb.mono hB)
      have hz := hb.size
      have d0 := hW.c0
      have d1 := hW.c1
      have d2 := hW.c2
      have d3 := hW.c3
      have HB := Lib.hid hb
      have HO := Lib.hid hO
      clear hb hO
      have H84 := Lib.hid (boards_c (B := B) A xss c lo hi ca wr.drew (by simp; omega) hr h0)
      have HI : Hid (Ints wr.heap.size wr (some ⟨g, 4 + k * 12, none⟩) (rowOf o (rx xss 0).length k)) := hW.ints (by omega) h12
      have HL : Hid ((rowOf o (rx xss 0).length k).length = (rx xss 0).length) := rowOf_len _ _ _
      have h12i : ((rx xss 0).length : Int) ≤ 12 := by omega
      have h12j : (0 : Int) ≤ ((rx xss 0).length : Int) := by omega
      clear hW hr
      go_wp2_with fail
      go_region_with (first | (go_at_call 140; refine H84.out.mono ?_; rintro e w1 ⟨rfl, hb1⟩; have HB1 := Lib.hid hb1; clear hb1 H84) | (go_at_call 139; have h77 := clone_c (B := wr.heap.size) (some ⟨g, 4 + k * 12, none⟩) (rowOf o (rx xss 0).length k) 12 w1 (HI.out.below (below_drew_l HB1.out)) HB1.out.size (by rw [HL.out]; omega); rw [HL.out] at h77; refine h77.mono ?_; clear h77; rintro e w2 ⟨va, vc, rfl, hv, hb2⟩; have hO2 := HO.out.keep ((below_drew_l HB1.out).trans (hb2.mono HB1.out.size)); obtain ⟨⟨u, hcell⟩, hfr⟩ := hO2.cell h1; have HO2 := Lib.hid hO2; have HV := Lib.hid hv; have HB2 := Lib.hid hb2; clear hO2 hv hb2))
      all_goals
        go_wp2_with fail
        go_roundw
        case rel =>
          have hlt := HO.out.lt
          have hz1 := HB1.out.size
          rw [World.size_drew] at hz1
          exact ⟨k + 1, by omega, by go_num, HO2.out.step h1 (by rw [rx_rowsOf o h1]; exact ownsRow_base HV.out (by omega)), (HB.out.trans ((below_drew_l HB1.out).mono hz)).trans (((Below.refl _ w1).trans (HB2.out.mono (Nat.le_refl _))).mono (by omega)) |>.setCell (p := ⟨w.heap.size, k, none⟩) (Nat.le_refl _) _⟩
        case measure => simp [intOf]; omega
    · obtain rfl : k = xss.length := by omega
      go_wp2_with fail
      go_ret
      exact ⟨_, rfl, hO.grd (rowsOf_len _ _ _) (by omega), hb⟩
end

section
open Go.RowKit
attribute [local go_sem] Oper.semAt_some
/-- The first k of Fin n. -/
def firsts (n k : Nat) : List (Fin n) := (List.finRange n).take k
theorem firsts_len {n k : Nat} (h : k ≤ n) : (firsts n k).length = k := by simp [firsts, h]
theorem firsts_succ {n k : Nat} (h : k < n) : firsts n (k + 1) = firsts n k ++ [⟨k, h⟩] := by
  unfold firsts
  rw [List.take_succ_eq_append_getElem (by simpa using h)]
  simp
set_option maxHeartbeats 400000 in
theorem cells_c (A : Option Addr) (n c : Nat) (w : World) :
    Calls Try.prog 87 #[.slice A n c] w fun e w' => e = .returned (.func (.func 136) #[] #[.pointer (some ⟨w.heap.size, 0, none⟩)]) ∧ w.alloc (.cells #[.slice A n c] 42) = w' := by
  go_enter Try.func87, Try.ntmps87
  go_wp2
  go_ret
  exact ⟨rfl, rfl⟩
def cellEnc (xs : List Int) (k : Fin xs.length) : Array Value := #[.agg #[.int .i64 (k.1 : Int), .int .i64 (ix xs k.1)]]
set_option maxRecDepth 100000 in
set_option maxHeartbeats 2000000 in
theorem cells1_in {B : Nat} (n l bx c : Nat) (A : Option Addr) (xs : List Int) (hl9 : xs.length ≤ 1000000) (Kp : World → World → Prop) (hKt : ∀ {A B C : World}, Kp A B → Kp B C → Kp A C) (hKr : ∀ A, Kp A A)
    (hKc : ∀ W W', Kp W W' → Ints B W A xs → Ints B W' A xs) (J Jx : List (Fin xs.length) → World → Prop)
    (hY : ∀ pre x W, J pre W → pre.length < xs.length → YieldAt Fence.wide (n - 1) Try.prog l (cellEnc xs x) W fun e W' =>
      (e = .returned (.bool true) ∧ J (pre ++ [x]) W' ∧ Kp W W') ∨ (e = .returned (.bool false) ∧ Jx (pre ++ [x]) W'))
    (W : World) (hbx : W.cell? ⟨bx, 0, none⟩ = some (.slice A xs.length c)) (hx : Ints B W A xs) (h0 : J [] W) :
    CallsIn Fence.wide n Try.prog 136 #[.func (.yield l) #[] #[], .pointer (some ⟨bx, 0, none⟩)] W fun e W' => (∃ v, e = .returned v) ∧
      ((∃ ys, ys = List.finRange xs.length ∧ J ys W') ∨ (∃ pre, (∃ k, pre = firsts xs.length k) ∧ Jx pre W')) := by
  refine callsIn_of_wp Try.func136 rfl trivial ?_ rfl
  simp only [Try.ntmps136, List.size_toArray, List.length_cons, List.length_nil, Nat.reduceAdd, Nat.reduceSub, Array.replicate_succ, Array.replicate_zero, List.push_toArray, List.append_toArray, List.nil_append, List.cons_append]
  gi_wp2
  gi_loopw [7] (fun i wr => ∃ k : Nat, k ≤ xs.length ∧ i = .int .i64 k ∧ J (firsts xs.length k) wr ∧ Kp W wr)
    (fun i _ => xs.length - (intOf i).toNat)
  case atStart => exact ⟨0, Nat.zero_le _, rfl, h0, hKr _⟩
  case round =>
    obtain ⟨k, hk, rfl, hJs, hkp⟩ := hrel
    by_cases hlt : k < xs.length
    · obtain ⟨fn, tmps, assign, body, hy, hR⟩ := hY _ ⟨k, hlt⟩ wr hJs (by rw [firsts_len hk]; exact hlt)
      obtain ⟨b, off, rfl, hb, hc⟩ := (hKc _ _ hkp hx).at_ hlt
      unfold cellEnc at hy
      dsimp only at hy
      have HR := Lib.hid hR
      clear hR
      gi_wp2
      refine ⟨fun h => by simp [Fence.wide] at h, ?_⟩
      refine HR.out.mono ?_
      rintro e W3 (⟨rfl, hJ3, hk3⟩ | ⟨rfl, hJx3⟩)
      · gi_wp2
        go_roundw
        case rel => exact ⟨k + 1, by omega, by simp, by rw [firsts_succ hlt]; exact hJ3, hKt hkp hk3⟩
        case measure => simp [intOf]; omega
      · gi_wp2
        refine bodyPost_ret (results_none rfl _ _ _) rfl ?_
        exact ⟨⟨_, rfl⟩, .inr ⟨_, ⟨k + 1, (firsts_succ hlt).symm⟩, hJx3⟩⟩
    · obtain rfl : k = xs.length := by omega
      gi_wp2
      go_end0
      refine ⟨⟨_, rfl⟩, .inl ⟨_, rfl, ?_⟩⟩
      have e : firsts xs.length xs.length = List.finRange xs.length := by
        unfold firsts
        exact List.take_of_length_le (by simp)
      rwa [e] at hJs
theorem cells_stops {B : Nat} (n bx c : Nat) (A : Option Addr) (xs : List Int) (hl9 : xs.length ≤ 1000000) (Kp : World → World → Prop) (hKt : ∀ {A B C : World}, Kp A B → Kp B C → Kp A C) (hKr : ∀ A, Kp A A)
    (hKc : ∀ W W', Kp W W' → Ints B W A xs → Ints B W' A xs) (w : World) (hbx' : bx < w.heap.size) (hB : B ≤ w.heap.size)
    (hbx : w.cell? ⟨bx, 0, none⟩ = some (.slice A xs.length c)) (hx : Ints B w A xs) :
    SeqStopsK Fence.wide n Try.prog 136 #[.pointer (some ⟨bx, 0, none⟩)] (cellEnc xs) Kp (fun ys => ys = List.finRange xs.length) (fun pre => ∃ k, pre = firsts xs.length k) xs.length w :=
  fun l J Jx W hW _ _ hY h0 => cells1_in n l bx c A xs hl9 Kp hKt hKr hKc J Jx hY W ((hW.cell (p := ⟨bx, 0, none⟩) hbx').trans hbx) (hx.below (hW.mono hB)) h0
end

section
open Go.RowKit
attribute [local go_sem] Oper.semAt_some
theorem calls_marks {P : Program} {f : FuncId} {fn : Func} {c : Code} {args : Array Value} {w : World} {R : Ending → World → Prop} (hf : P.funcs[f]? = some fn) (hb : fn.body = some c)
    (h : c.wp P (bodyPostM Fence.wide 0 P fn R) { tmps := args ++ Array.replicate (fn.ntmps - args.size) undef, defers := [] } w) : Calls P f args w R :=
  (callsIn_wide (n := 0)).1 (callsIn_of_wp_marks hf hb trivial (wpIn_wide.2 h) rfl)
theorem cell_alloc_keep {w : World} {a : Addr} {v : Value} (o : Obj) (h : w.cell? a = some v) : (w.alloc o).cell? a = some v := (World.cell?_alloc_lt _ _ _ (World.block_lt_of_cell? w a h)).trans h
theorem cell_of_ans {W w1 : World} (hb : Below W.heap.size W w1) {p : Addr} {v : Value} (h : W.cell? p = some v) : w1.cell? p = some v := (hb.cell (World.block_lt_of_cell? W p h)).trans h
theorem map_finRange (n : Nat) : (List.finRange n).map Fin.val = List.range n := by
  refine List.ext_getElem (by simp) fun i h1 h2 => by simp
/-- One cell of a ball. -/
def stepW (ca : Int) (xs : List Int) (bf ow : Nat → Int) (o : Nat → Int) (k : Nat) : Nat → Int :=
  upd o (k * 12 + (ix xs k).toNat) (wornF ca (o (k * 12 + (ix xs k).toNat)) (if 0 < k then bf k else 0) (ow k))
/-- All of them. -/
def rollW (ca : Int) (xs : List Int) (bf ow : Nat → Int) (o : Nat → Int) (ks : List Nat) : Nat → Int := ks.foldl (stepW ca xs bf ow) o
/-- Oil is from 0 to 100. -/
def Lvl (o : Nat → Int) : Prop := ∀ i, 0 ≤ o i ∧ o i ≤ 100
theorem wornF_lvl (ca x b ow : Int) (h : 0 ≤ ow) : 0 ≤ wornF ca x b ow ∧ wornF ca x b ow ≤ 100 := by simp only [wornF]; omega
theorem Lvl.step {ca : Int} {xs : List Int} {bf ow : Nat → Int} {o : Nat → Int} (h : Lvl o) (how : ∀ k, 0 ≤ ow k) (k : Nat) : Lvl (stepW ca xs bf ow o k) := fun i => by
  simp only [stepW, upd]
  split
  · exact wornF_lvl _ _ _ _ (how k)
  · exact h i
theorem Lvl.roll {ca : Int} {xs : List Int} {bf ow : Nat → Int} {o : Nat → Int} (h : Lvl o) (how : ∀ k, 0 ≤ ow k) (ks : List Nat) : Lvl (rollW ca xs bf ow o ks) := by
  induction ks generalizing o with
  | nil => exact h
  | cons k ks ih => exact ih (h.step how k)
theorem rollW_snoc (ca : Int) (xs : List Int) (bf ow : Nat → Int) (o : Nat → Int) (ks : List Nat) (k : Nat) : rollW ca xs bf ow o (ks ++ [k]) = stepW ca xs bf ow (rollW ca xs bf ow o ks) k := by simp [rollW]
/-- What a round keeps: of what lay below n₀ all but block g. -/
def KpG (n₀ g : Nat) (W W' : World) : Prop := W.heap.size ≤ W'.heap.size ∧ W'.os = W.os ∧ W'.tape = W.tape ∧ W'.output = W.output ∧ ∀ k, k < n₀ → k ≠ g → W'.heap[k]? = W.heap[k]?
theorem KpG.refl (n₀ g : Nat) (W : World) : KpG n₀ g W W := ⟨Nat.le_refl _, rfl, rfl, rfl, fun _ _ _ => rfl⟩
theorem KpG.trans {n₀ g : Nat} {A B C : World} (h : KpG n₀ g A B) (k : KpG n₀ g B C) : KpG n₀ g A C :=
  ⟨Nat.le_trans h.1 k.1, k.2.1.trans h.2.1, k.2.2.1.trans h.2.2.1, k.2.2.2.1.trans h.2.2.2.1, fun i hi hg => (k.2.2.2.2 i hi hg).trans (h.2.2.2.2 i hi hg)⟩
theorem KpG.of_grown {n₀ g : Nat} {A B : World} (h : A.grownBy B (some g)) (hn : n₀ ≤ A.heap.size) : KpG n₀ g A B :=
  ⟨h.size, h.os, h.tape, h.output, fun i hi hg => h.block i (by omega) (fun e => hg (by injection e))⟩
theorem KpG.below {n₀ g B : Nat} {A C : World} (h : KpG n₀ g A C) (hB : B ≤ n₀) (hg : B ≤ g) : Below B A C := ⟨h.2.1, h.2.2.1, h.2.2.2.1, h.1, fun k hk => h.2.2.2.2 k (by omega) (by omega)⟩
theorem KpG.cell {n₀ g : Nat} {A C : World} (h : KpG n₀ g A C) {p : Addr} {v : Value} (hc : A.cell? p = some v) (hp : p.block < n₀) (hg : p.block ≠ g) : C.cell? p = some v :=
  (World.cell?_of_block (w := A) (h.2.2.2.2 p.block hp hg)).trans hc
def RollPost (w : World) (g : Nat) (fv : Value) (lo hi ca : Int) (o : Nat → Int) (e : Ending) (w' : World) : Prop :=
  e = .returned (.tuple #[]) ∧ Worn w' g fv lo hi ca o ∧ w.grownBy w' (some g)
theorem enters69 : Enters 92 := fun _ _ => enters_of Try.func92 (by kernel_rfl) rfl _ _
theorem enters70 : Enters 93 := fun _ _ => enters_of Try.func93 (by kernel_rfl) rfl _ _
set_option maxRecDepth 100000 in
set_option maxHeartbeats 4000000 in
theorem roll_c {B : Nat} (g f c : Nat) (A : Option Addr) (xs : List Int) (fv : Value) (lo hi ca bf ow : Int) (o : Nat → Int) (w : World) (hw : Worn w g fv lo hi ca o) (hB : B ≤ w.heap.size) (hBg : B ≤ g) (hx : Ints B w A xs) (hf : Enters f)
    (hfc : ∀ W, Calls Try.prog f #[.agg #[.int .i64 lo, .int .i64 hi]] W (Ans W (.tuple #[.int .i64 bf, .int .i64 ow])))
    (h8 : xs.length ≤ 8) (hb : ∀ k, k < xs.length → 0 ≤ ix xs k ∧ ix xs k < 12) (h1 : 0 ≤ ca) (h2 : ca ≤ 100) (h3 : 0 ≤ bf) (h4 : bf ≤ 9) (h7 : 0 ≤ ow) (h8' : ow ≤ 9) (hlv : Lvl o) :
    Calls Try.prog 91 #[.pointer (some ⟨g, 0, none⟩), .slice A xs.length c, .agg #[.func (.func f) #[] #[]]] w (RollPost w g fv lo hi ca (rollW ca xs (fun _ => bf) (fun _ => ow) o (List.range xs.length))) := by
  have hg := hw.lt
  have hg1 : g < w.heap.size + 1 := by omega
  have hg2 : g < w.heap.size + 1 + 1 := by omega
  have hg3 : g < w.heap.size + 1 + 1 + 1 := by omega
  have hg4 : g < w.heap.size + 1 + 1 + 1 + 1 := by omega
  have hs1 : w.heap.size < w.heap.size + 1 + 1 := by omega
  have hs2 : w.heap.size < w.heap.size + 1 + 1 + 1 := by omega
  have hs3 : w.heap.size < w.heap.size + 1 + 1 + 1 + 1 := by omega
  have c1 := hw.c1
  have c2 := hw.c2
  have HF := Lib.hid hfc
  have HW := Lib.hid hw
  have HX := Lib.hid hx
  have HLV := Lib.hid hlv
  unfold Enters at hf
  clear hfc hw hx hlv
  refine calls_marks Try.func91 rfl ?_
  simp only [Try.ntmps91, List.size_toArray, List.length_cons, List.length_nil, Nat.reduceAdd, Nat.reduceSub, Array.replicate_succ, Array.replicate_zero, List.push_toArray, List.append_toArray, List.nil_append, List.cons_append]
  go_upto_region 1 with fail
  have d0 : ((w.alloc (.cells #[.pointer (some ⟨g, 0, none⟩)] 205)).alloc (.cells #[.func (.func f) #[] #[]] 218)).cell? ⟨w.heap.size, 0, none⟩ = some (.pointer (some ⟨g, 0, none⟩)) := by go_simp
  have d1 : ((w.alloc (.cells #[.pointer (some ⟨g, 0, none⟩)] 205)).alloc (.cells #[.func (.func f) #[] #[]] 218)).cell? ⟨w.heap.size + 1, 0, none⟩ = some (.func (.func f) #[] #[]) := by go_simp
  have d2 : ((w.alloc (.cells #[.pointer (some ⟨g, 0, none⟩)] 205)).alloc (.cells #[.func (.func f) #[] #[]] 218)).cell? ⟨g, 1, none⟩ = some (.int .i64 lo) := by go_simp
  have d3 : ((w.alloc (.cells #[.pointer (some ⟨g, 0, none⟩)] 205)).alloc (.cells #[.func (.func f) #[] #[]] 218)).cell? ⟨g, 2, none⟩ = some (.int .i64 hi) := by go_simp
  have HZ : Hid (((w.alloc (.cells #[.pointer (some ⟨g, 0, none⟩)] 205)).alloc (.cells #[.func (.func f) #[] #[]] 218)).heap.size = w.heap.size + 1 + 1) := by show _ = _; simp
  have HB0 : Hid (Below w.heap.size w ((w.alloc (.cells #[.pointer (some ⟨g, 0, none⟩)] 205)).alloc (.cells #[.func (.func f) #[] #[]] 218))) := ((Below.refl _ _).alloc (Nat.le_refl _) _).alloc (by simp) _
  generalize ((w.alloc (.cells #[.pointer (some ⟨g, 0, none⟩)] 205)).alloc (.cells #[.func (.func f) #[] #[]] 218)) = W0 at d0 d1 d2 d3 HZ HB0 ⊢
  clear c1 c2 hg1 hg2 hg3 hg4 hs1 hs2 hs3
  have n1 : W0.heap.size ≠ w.heap.size := by have := HZ.out; omega
  have n2 : W0.heap.size ≠ w.heap.size + 1 := by have := HZ.out; omega
  have n3 : W0.heap.size ≠ g := by have := HZ.out; omega
  have n4 : W0.heap.size + 1 ≠ w.heap.size := by have := HZ.out; omega
  have n5 : W0.heap.size + 1 ≠ w.heap.size + 1 := by have := HZ.out; omega
  have n6 : W0.heap.size + 1 ≠ g := by have := HZ.out; omega
  go_cut [6, 7] from 8 (fun s6 s7 wx => ∃ p q : Nat, s6 = .pointer (some ⟨p, 0, none⟩) ∧ s7 = .pointer (some ⟨q, 0, none⟩) ∧ W0.heap.size ≤ p ∧ W0.heap.size ≤ q ∧ wx.cell? ⟨p, 0, none⟩ = some (.int .i64 bf) ∧ wx.cell? ⟨q, 0, none⟩ = some (.int .i64 ow) ∧ Below W0.heap.size W0 wx)
  case first =>
    go_region_held3 (fun w' => w'.cell? ⟨w.heap.size, 0, none⟩ = some (.pointer (some ⟨g, 0, none⟩)) ∧ w'.cell? ⟨w.heap.size + 1, 0, none⟩ = some (.func (.func f) #[] #[]) ∧ w'.cell? ⟨g, 1, none⟩ = some (.int .i64 lo) ∧ w'.cell? ⟨g, 2, none⟩ = some (.int .i64 hi)) (go_keep) (first | ((with_reducible refine (HF.out _).mono ?_); rintro e w1 ⟨rfl, hb1⟩; have HB1 := Lib.hid hb1; have r1 := cell_of_ans hb1 (p := ⟨w.heap.size, 0, none⟩) (v := .pointer (some ⟨g, 0, none⟩)) (by simp [*]); have r2 := cell_of_ans hb1 (p := ⟨w.heap.size + 1, 0, none⟩) (v := .func (.func f) #[] #[]) (by simp [*]); have r3 := cell_of_ans hb1 (p := ⟨g, 1, none⟩) (v := .int .i64 lo) (by simp [*]);  have r4 := cell_of_ans hb1 (p := ⟨g, 2, none⟩) (v := .int .i64 hi) (by simp [*]); obtain ⟨q1, q2⟩ := bcell hb1; have y0 := hb1.size; simp only [World.size_alloc, World.size_drew, Nat.add_one_le_iff] at y0; have m1 : w1.heap.size ≠ w.heap.size := World.new_ne w1 _ r1; have m2 : w1.heap.size ≠ w.heap.size + 1 := World.new_ne w1 _ r2; have m3 : w1.heap.size ≠ g := World.new_ne w1 _ r3; have m4 : w1.heap.size + 1 ≠ w.heap.size := Nat.ne_of_gt (Nat.lt_succ_of_lt (World.block_lt_of_cell? w1 _ r1)); have m5 : w1.heap.size + 1 ≠ w.heap.size + 1 := Nat.ne_of_gt (Nat.lt_succ_of_lt (World.block_lt_of_cell? w1 _ r2)); have m6 : w1.heap.size + 1 ≠ g := Nat.ne_of_gt (Nat.lt_succ_of_lt (World.block_lt_of_cell? w1 _ r3)); clear hb1))
    all_goals
      go_wp2_with fail
      have y7 := HB1.out.size
      simp only [World.size_alloc, World.size_drew] at y7
      go_meet
      refine ⟨_, _, rfl, rfl, ?_, ?_, ?_, ?_, ?_⟩
      · omega
      · omega
      · first | (go_simp; done) | (refine World.cell?_setCell_same _ _ _ (u := .int .i64 0) ?_; rw [q1 _ _ (by simp only [World.size_alloc, World.size_drew]; omega)]; go_simp; done) | (rw [World.cell?_setCell_other _ _ _ _ (by simp)]; refine World.cell?_setCell_same _ _ _ (u := .int .i64 0) ?_; rw [q1 _ _ (by simp only [World.size_alloc, World.size_drew]; omega)]; go_simp; done)
      · first | (go_simp; done) | (refine World.cell?_setCell_same _ _ _ (u := .int .i64 0) ?_; rw [World.cell?_setCell_other _ _ _ _ (by simp), q1 _ _ (by simp only [World.size_alloc, World.size_drew]; omega)]; go_simp)
      · repeat (first | exact Below.refl _ _ | refine Below.setCell ?_ (by dsimp only; omega) _ | refine Below.alloc ?_ (by first | omega | (simp only [World.size_alloc, World.size_setCell]; omega)) _ | refine Below.drew ?_ | exact Below.trans (Below.drew (Below.refl _ _)) (HB1.out.mono (Nat.le_refl _)) | refine Below.trans ?_ (HB1.out.mono (by simp only [World.size_alloc, World.size_drew]; omega)))
  case rest =>
    obtain ⟨p, q, rfl, rfl, hp, hq, hcp, hcq, hbx⟩ := hcut
    have HZ' := HZ.out
    have e0 := cell_of_ans hbx d0
    have HBX := Lib.hid hbx
    have Hp := Lib.hid hp
    have Hq := Lib.hid hq
    clear d0 d1 d2 d3 n1 n2 n3 n4 n5 n6 hbx hp hq
    go_wp2_with (go_at_call 87; refine (cells_c _ _ _ _).mono ?_; rintro e w2 ⟨rfl, rfl⟩)
    have hW1 : Worn (wc.alloc (.cells #[.slice A xs.length c] 42)) g fv lo hi ca o := ((HW.out.below HB0.out hg).below HBX.out (by omega)).alloc _
    have hx1 : Ints B (wc.alloc (.cells #[.slice A xs.length c] 42)) A xs := (((HX.out.below (HB0.out.mono hB)).below (HBX.out.mono (by omega))).alloc (by have := HBX.out.size; omega) _)
    have hcb : (wc.alloc (.cells #[.slice A xs.length c] 42)).cell? ⟨wc.heap.size, 0, none⟩ = some (.slice A xs.length c) := by simp
    have hsz : (wc.alloc (.cells #[.slice A xs.length c] 42)).heap.size = wc.heap.size + 1 := by simp
    have k0 : (wc.alloc (.cells #[.slice A xs.length c] 42)).cell? ⟨w.heap.size, 0, none⟩ = some (.pointer (some ⟨g, 0, none⟩)) := cell_alloc_keep _ e0
    have k1 : (wc.alloc (.cells #[.slice A xs.length c] 42)).cell? ⟨p, 0, none⟩ = some (.int .i64 bf) := cell_alloc_keep _ hcp
    have k2 : (wc.alloc (.cells #[.slice A xs.length c] 42)).cell? ⟨q, 0, none⟩ = some (.int .i64 ow) := cell_alloc_keep _ hcq
    have hbw : w.grownBy (wc.alloc (.cells #[.slice A xs.length c] 42)) (some g) := only_alloc (only_below (HB0.out.trans (HBX.out.mono (by omega))) _) _
    generalize wc.alloc (.cells #[.slice A xs.length c] 42) = W1 at hW1 hx1 hcb hsz k0 k1 k2 hbw ⊢
    have hpn := Hp.out
    have hqn := Hq.out
    have hzc := HBX.out.size
    have hpl := World.block_lt_of_cell? wc _ hcp
    have hql := World.block_lt_of_cell? wc _ hcq
    dsimp only at hpl hql
    refine wpIn_wide.1 (wpIn_rangeFunc_ownH (F := Fence.wide) (n := 5) (α := Fin xs.length) rfl (by omega) (gf := 136) (lb := #[.pointer (some ⟨wc.heap.size, 0, none⟩)]) rfl trivial (enters_of Try.func136 (by kernel_rfl) rfl)
      (cells_stops 4 wc.heap.size c A xs (by omega) (KpG W1.heap.size g) (fun h k => h.trans k) (fun _ => KpG.refl _ _ _) (fun W W' hk hi => hi.below (hk.below (by omega) hBg)) W1 (by omega) (Nat.le_trans hB (by omega)) hcb hx1)
      (fun h k => h.trans k) ?keepPut (Below.refl _ _) (fun _ => rfl)
      (fun pre W => Worn W g fv lo hi ca (rollW ca xs (fun _ => bf) (fun _ => ow) o (pre.map Fin.val)) ∧ KpG W1.heap.size g W1 W)
      (fun _ _ _ => False) ?ownI (fun _ _ _ _ _ hs _ _ => hs) ⟨hW1, KpG.refl _ _ _⟩
      (fun x a' W => ∃ bb, W1.heap.size ≤ bb ∧ W.heap[bb]? = some (.cells #[.int .i64 (x.1 : Int), .int .i64 (ix xs x.1)] 211 (0, 0)) ∧ a' = { tmps := #[.pointer (some ⟨g, 0, none⟩), .slice A xs.length c, .agg #[.func (.func f) #[] #[]], .pointer (some ⟨w.heap.size, 0, none⟩), undef, .pointer (some ⟨w.heap.size + 1, 0, none⟩), .pointer (some ⟨p, 0, none⟩), .pointer (some ⟨q, 0, none⟩), .pointer (some ⟨bb, 0, none⟩), u9, u10, u11, u12, u13, u14, u15, u16, u17, u18, u19, .slice A xs.length c, .func (.func 136) #[] #[.pointer (some ⟨wc.heap.size, 0, none⟩)], .agg #[.int .i64 (x.1 : Int), .int .i64 (ix xs x.1)], u23, u24, u25, u26, u27], defers := [] })
      ?ownA ?assign ?body ?done ?stop)
    case keepPut =>
      intro W l x y hl hx _ _
      exact ⟨by simp, rfl, rfl, rfl, fun k hk _ => World.putObj_heap_other (by omega)⟩
    case ownI =>
      rintro pre W W' row ⟨hWo, hKp⟩ hg' hrow
      refine ⟨hWo.grown hg' (fun e => ?_), hKp.trans ⟨hg'.size, hg'.os, hg'.tape, hg'.output, fun k hk _ => hg'.block k (Nat.lt_of_lt_of_le hk hKp.1) (fun e => ?_)⟩⟩
      · have := (hrow _ e.symm).1
        omega
      · have := (hrow _ e.symm).1
        omega
    case ownA =>
      rintro x a' _ W W' row ⟨bb, hbb, hc, rfl⟩ hg' hrow
      refine ⟨bb, hbb, (hg'.block bb (Array.getElem?_eq_some_iff.1 hc).1 (fun e => ?_)).trans hc, rfl⟩
      obtain ⟨_, ob, ho, hno⟩ := hrow _ e.symm
      rw [hc] at ho
      cases ho
      cases hno
    case assign =>
      rintro l pre x W K ⟨hWo, hKp⟩ hK
      simp only [cellEnc]
      gi_wp2
      refine hK _ _ ((KeepsOthers.alloc _ _).from _) ⟨by simp, rfl, rfl, rfl, fun k hk _ => Below.heap_alloc _ _ _ (Nat.lt_of_lt_of_le hk hKp.1)⟩ ⟨hWo.alloc _, hKp.trans ⟨by simp, rfl, rfl, rfl, fun k hk _ => Below.heap_alloc _ _ _ (Nat.lt_of_lt_of_le hk hKp.1)⟩⟩ ⟨W.heap.size, hKp.1, World.alloc_heap_new _ _, rfl⟩
    case body =>
      rintro l pre x a' W hl ⟨r, hr⟩ ⟨hWo, hKp⟩ ⟨bb, hbb, hcell, rfl⟩ hlt
      have j0 : W.cell? ⟨w.heap.size, 0, none⟩ = some (.pointer (some ⟨g, 0, none⟩)) := hKp.cell k0 (by dsimp only; omega) (by dsimp only; omega)
      have j1 : W.cell? ⟨p, 0, none⟩ = some (.int .i64 bf) := hKp.cell k1 (by dsimp only; omega) (by dsimp only; omega)
      have j2 : W.cell? ⟨q, 0, none⟩ = some (.int .i64 ow) := hKp.cell k2 (by dsimp only; omega) (by dsimp only; omega)
      have j3 : W.cell? ⟨bb, 0, none⟩ = some (.int .i64 (x.1 : Int)) := by simp [World.cell?, hcell]
      have j4 : W.cell? ⟨bb, 1, none⟩ = some (.int .i64 (ix xs x.1)) := by simp [World.cell?, hcell]
      obtain ⟨hb0, hb12⟩ := hb x.1 x.2
      have hx8 : x.1 < 8 := Nat.lt_of_lt_of_le x.2 h8
      have hlv' : Lvl (rollW ca xs (fun _ => bf) (fun _ => ow) o (pre.map Fin.val)) := HLV.out.roll (fun _ => h7) _
      have hcall := wear_c g x.1 (ix xs x.1).toNat fv lo hi ca bf ow _ W hWo hx8 (by omega) h1 h2 h3 h4 (hlv' _).1 (hlv' _).2 h7 h8'
      rw [Int.toNat_of_nonneg hb0] at hcall
      have HC := Lib.hid hcall
      have HKp := Lib.hid hKp
      clear hcall hKp hcell hWo hlv'
      gi_wp2_with (refine ⟨trivial, ?_⟩; gi_at_call 88; refine (CallsIn.inRound l (callsIn_wide.2 HC.out)).mono ?_; rintro e W2 ⟨rfl, hWo2, hgr⟩; have HWo2 := Lib.hid hWo2; have HGR := Lib.hid hgr; clear hWo2 hgr)
      have hgr := HGR.out
      have hzW := HKp.out.1
      refine ⟨⟨hgr.size, fun k ob hk hko hno => (hgr.block k (Array.getElem?_eq_some_iff.1 hko).1 (fun e => ?_)).trans hko⟩, KpG.of_grown hgr hzW, ?_, HKp.out.trans (KpG.of_grown hgr hzW)⟩
      · injection e with e
        omega
      · have hWo2 := HWo2.out
        rw [List.map_append, List.map_singleton, rollW_snoc]
        exact hWo2
    case done =>
      rintro D ys W hD rfl ⟨hWo, hKp⟩ hK
      go_wp2_with fail
      refine ⟨by simp, .inl ⟨_, _, rfl, run_takeDeferred hK, ?_⟩⟩
      refine ⟨_, results_none rfl _ _ _, rfl, ?_, ?_⟩
      · have hWo' := hWo
        rw [map_finRange] at hWo'
        exact (World.putObj_heap_other (by omega)).trans hWo'
      · refine ⟨hKp.2.1.trans hbw.os, hKp.2.2.1.trans hbw.tape, hKp.2.2.2.1.trans hbw.output, by simpa using Nat.le_trans hbw.size hKp.1, fun k hk hne => ?_⟩
        rw [World.putObj_heap_other (by omega), hKp.2.2.2.2 k (by omega) (fun e => hne (by rw [e]))]
        exact hbw.block k hk hne
    case stop => exact fun _ _ _ _ _ _ h _ => h.elim
end

end Go.Proofs.Ytenpiinkbfancaa.Ol
