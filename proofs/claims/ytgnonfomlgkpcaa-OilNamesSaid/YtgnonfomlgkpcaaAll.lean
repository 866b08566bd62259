/-
  all[T] over a list of one-cell elements: true just if the function says so of each of them.
-/
import Derived.Test.YtgnonfomlgkpcaaA
import Derived.RangeFuncNested
import Derived.Laws.EntriesVeiled
namespace Go.Proofs.Ytgnonfomlgkpcaa
open Go.RowKit

def Enters (g : Nat) : Prop := ∀ args W, (callFunc g args).run Try.prog W = .ok (.enter g args) W

/-- Cell k of a slice holds vs k. -/
def Elems (B : Nat) (w : World) (A : Option Addr) (n : Nat) (vs : Nat → Value) : Prop :=
  0 < n → ∃ b off, A = some ⟨b, off, none⟩ ∧ b < B ∧ ∀ k, k < n → w.cell? ⟨b, off + k, none⟩ = some (vs k)
theorem Elems.at_ {B : Nat} {w : World} {A : Option Addr} {n : Nat} {vs : Nat → Value} (h : Elems B w A n vs) {k : Nat} (hk : k < n) :
    ∃ b off, A = some ⟨b, off, none⟩ ∧ b < B ∧ w.cell? ⟨b, off + k, none⟩ = some (vs k) := by
  obtain ⟨b, off, hA, hb, hc⟩ := h (by omega)
  exact ⟨b, off, hA, hb, hc k hk⟩
theorem Elems.below {B : Nat} {w w' : World} {A : Option Addr} {n : Nat} {vs : Nat → Value} (h : Elems B w A n vs) (hb : Below B w w') : Elems B w' A n vs := fun hp => by
  obtain ⟨b, off, hA, hlt, hc⟩ := h hp
  exact ⟨b, off, hA, hlt, fun k hk => (hb.cell (p := ⟨b, off + k, none⟩) hlt).trans (hc k hk)⟩
theorem Ints.elems {B : Nat} {w : World} {A : Option Addr} {xs : List Int} (h : Ints B w A xs) : Elems B w A xs.length (fun k => .int .i64 (ix xs k)) := h

/-- The function g, with what is bound and captured, says p k of element k, in whatever world that has the old blocks. -/
def Right (B : Nat) (w : World) (n g : Nat) (fs cs : Array Value) (vs : Nat → Value) (p : Nat → Bool) : Prop :=
  ∀ k, k < n → ∀ W, Below B w W → Calls Try.prog g (fs.push (vs k) ++ cs) W (Ans W (.bool (p k)))
theorem Right.below {B : Nat} {w w' : World} {n g : Nat} {fs cs : Array Value} {vs : Nat → Value} {p : Nat → Bool} (h : Right B w n g fs cs vs p) (hb : Below B w w') : Right B w' n g fs cs vs p :=
  fun k hk W hW => h k hk W (hb.trans hW)

def AllB (n : Nat) (p : Nat → Bool) : Prop := ∀ k, k < n → p k = true
theorem AllB.succ {k : Nat} {p : Nat → Bool} (h : AllB k p) (hp : p k = true) : AllB (k + 1) p := fun j hj => by
  by_cases e : j = k
  · subst e; exact hp
  · exact h j (by omega)
noncomputable def allB (n : Nat) (p : Nat → Bool) : Bool := (List.range n).all p
theorem allB_iff {n : Nat} {p : Nat → Bool} : allB n p = true ↔ AllB n p := by simp [allB, AllB]

/-- What IndexFunc answers: an index, if one is not right; else -1. -/
def Found (w : World) (n : Nat) (p : Nat → Bool) (e : Ending) (w' : World) : Prop :=
  (∃ k : Nat, e = .returned (.int .i64 k) ∧ allB n p = false ∧ Below w.heap.size w w') ∨ (e = .returned (.int .i64 (-1)) ∧ allB n p = true ∧ Below w.heap.size w w')
theorem found_at {w w' : World} {n k : Nat} {p : Nat → Bool} (hk : k < n) (hp : p k = false) (hb : Below w.heap.size w w') : Found w n p (.returned (.int .i64 k)) w' :=
  .inl ⟨k, rfl, (Bool.eq_false_iff.2 fun h => by rw [allB_iff] at h; rw [h k hk] at hp; simp at hp), hb⟩
theorem found_none {w w' : World} {n : Nat} {p : Nat → Bool} (h : AllB n p) (hb : Below w.heap.size w w') : Found w n p (.returned (.int .i64 (-1))) w' := .inr ⟨rfl, allB_iff.2 h, hb⟩

set_option maxHeartbeats 400000 in
theorem clI (g bx : Nat) (fs cs : Array Value) (x : Value) (W : World) (b : Bool) (he : Enters g)
    (hbx : W.cell? ⟨bx, 0, none⟩ = some (.func (.func g) fs cs)) (hc : Calls Try.prog g (fs.push x ++ cs) W (Ans W (.bool b))) :
    Calls Try.prog 88 #[x, .pointer (some ⟨bx, 0, none⟩)] W (Ans W (.bool (!b))) := by
  have H := Lib.hid hc
  clear hc
  unfold Enters at he
  go_enter Try.func88, Try.ntmps88
  go_wp2_with fail
  refine H.out.mono ?_
  rintro e w1 ⟨rfl, hb⟩
  go_wp2_with fail
  go_ret
  exact ⟨rfl, hb⟩

set_option maxHeartbeats 400000 in
theorem indexI {B : Nat} (A : Option Addr) (n c g bx : Nat) (fs cs : Array Value) (vs : Nat → Value) (p : Nat → Bool) (w : World) (he : Enters g) (hB : B ≤ w.heap.size) (hbx : bx < w.heap.size) (hn : n ≤ 9223372036854775807)
    (hcell : w.cell? ⟨bx, 0, none⟩ = some (.func (.func g) fs cs)) (hel : Elems B w A n vs) (hr : Right B w n g fs cs vs p) :
    Calls Try.prog 96 #[.slice A n c, .func (.func 88) #[] #[.pointer (some ⟨bx, 0, none⟩)]] w (Found w n p) := by
  have HR := Lib.hid hr
  have HC := Lib.hid hcell
  have HE := Lib.hid he
  clear hr hcell he
  go_enter Try.func96, Try.ntmps96
  go_wp2_with fail
  go_loopw [8] (fun i wr => ∃ k : Nat, k ≤ n ∧ i = .int .i64 k ∧ AllB k p ∧ Below w.heap.size w wr) (fun i _ => n - (intOf i).toNat)
  case atStart => exact ⟨0, by omega, rfl, fun j hj => by omega, Below.refl _ _⟩
  case round =>
    obtain ⟨k, hk, rfl, hp, hb⟩ := hrel
    by_cases h1 : k < n
    · obtain ⟨b, off, rfl, hb1, hc0⟩ := hel.at_ h1
      have hc : wr.cell? ⟨b, off + k, none⟩ = some (vs k) := (hb.cell (p := ⟨b, off + k, none⟩) (by show b < _; omega)).trans hc0
      clear hc0
      have hz := hb.size
      have hcl := clI g bx fs cs (vs k) wr (p k) HE.out ((hb.cell (p := ⟨bx, 0, none⟩) hbx).trans HC.out) (HR.out k h1 wr (hb.mono hB))
      have HCL := Lib.hid hcl
      clear hcl
      cases hpk : p k
      · have HP := Lib.hid hpk
        clear hpk
        go_wp2_with fail
        refine HCL.out.mono ?_
        rw [HP.out]
        rintro e w1 ⟨rfl, hb2⟩
        go_wp2_with fail
        go_ret
        exact found_at h1 HP.out (hb.trans (hb2.mono hz))
      · have HP := Lib.hid hpk
        clear hpk
        go_wp2_with fail
        refine HCL.out.mono ?_
        rw [HP.out]
        rintro e w1 ⟨rfl, hb2⟩
        go_wp2_with fail
        go_roundw
        case rel => exact ⟨k + 1, by omega, by go_num, hp.succ HP.out, hb.trans (hb2.mono hz)⟩
        case measure => simp [intOf]; omega
    · go_wp2_with fail
      go_ret
      exact found_none (by have : k = n := by omega
                           rwa [this] at hp) hb

set_option maxHeartbeats 400000 in
theorem containsI {B : Nat} (A : Option Addr) (n c g bx : Nat) (fs cs : Array Value) (vs : Nat → Value) (p : Nat → Bool) (w : World) (he : Enters g) (hB : B ≤ w.heap.size) (hbx : bx < w.heap.size) (hn : n ≤ 9223372036854775807)
    (hcell : w.cell? ⟨bx, 0, none⟩ = some (.func (.func g) fs cs)) (hel : Elems B w A n vs) (hr : Right B w n g fs cs vs p) :
    Calls Try.prog 87 #[.slice A n c, .func (.func 88) #[] #[.pointer (some ⟨bx, 0, none⟩)]] w (Ans w (.bool (!allB n p))) := by
  have H := Lib.hid (indexI A n c g bx fs cs vs p w he hB hbx hn hcell hel hr)
  clear hcell hr he
  go_enter Try.func87, Try.ntmps87
  go_wp2_with fail
  refine H.out.mono ?_
  rintro e w1 (⟨k, rfl, hk, hb⟩ | ⟨rfl, hk, hb⟩)
  · go_wp2_with fail
    go_ret
    exact ⟨ret_bool (by rw [hk]; simp), hb⟩
  · go_wp2_with fail
    go_ret
    exact ⟨ret_bool (by rw [hk]; rfl), hb⟩

set_option maxHeartbeats 400000 in
theorem allI {B : Nat} (A : Option Addr) (n c g : Nat) (fs cs : Array Value) (vs : Nat → Value) (p : Nat → Bool) (w : World) (he : Enters g) (hB : B ≤ w.heap.size) (hn : n ≤ 9223372036854775807)
    (hel : Elems B w A n vs) (hr : Right B w n g fs cs vs p) :
    Calls Try.prog 60 #[.slice A n c, .func (.func g) fs cs] w (Ans w (.bool (allB n p))) := by
  have hw : Below B w (w.alloc (.cells #[.func (.func g) fs cs] 88)) := (Below.refl _ _).alloc hB _
  have H := Lib.hid (containsI (B := B) A n c g w.heap.size fs cs vs p (w.alloc (.cells #[.func (.func g) fs cs] 88)) he (by simp; omega) (by simp) hn (by simp) (hel.below hw) (hr.below hw))
  clear hr he
  go_enter Try.func60, Try.ntmps60
  go_wp2_with fail
  refine H.out.mono ?_
  rintro e w1 ⟨rfl, hb⟩
  go_wp2_with fail
  go_ret
  exact ⟨ret_bool (by simp), (((Below.refl w.heap.size w).alloc (Nat.le_refl _) _).trans (hb.mono (by simp)))⟩


set_option maxHeartbeats 400000 in
theorem clR (g bx : Nat) (fs cs : Array Value) (x : Value) (W : World) (b : Bool) (he : Enters g)
    (hbx : W.cell? ⟨bx, 0, none⟩ = some (.func (.func g) fs cs)) (hc : Calls Try.prog g (fs.push x ++ cs) W (Ans W (.bool b))) :
    Calls Try.prog 83 #[x, .pointer (some ⟨bx, 0, none⟩)] W (Ans W (.bool (!b))) := by
  have H := Lib.hid hc
  clear hc
  unfold Enters at he
  go_enter Try.func83, Try.ntmps83
  go_wp2_with fail
  refine H.out.mono ?_
  rintro e w1 ⟨rfl, hb⟩
  go_wp2_with fail
  go_ret
  exact ⟨rfl, hb⟩

set_option maxHeartbeats 400000 in
theorem indexR {B : Nat} (A : Option Addr) (n c g bx : Nat) (fs cs : Array Value) (vs : Nat → Value) (p : Nat → Bool) (w : World) (he : Enters g) (hB : B ≤ w.heap.size) (hbx : bx < w.heap.size) (hn : n ≤ 9223372036854775807)
    (hcell : w.cell? ⟨bx, 0, none⟩ = some (.func (.func g) fs cs)) (hel : Elems B w A n vs) (hr : Right B w n g fs cs vs p) :
    Calls Try.prog 94 #[.slice A n c, .func (.func 83) #[] #[.pointer (some ⟨bx, 0, none⟩)]] w (Found w n p) := by
  have HR := Lib.hid hr
  have HC := Lib.hid hcell
  have HE := Lib.hid he
  clear hr hcell he
  go_enter Try.func94, Try.ntmps94
  go_wp2_with fail
  go_loopw [8] (fun i wr => ∃ k : Nat, k ≤ n ∧ i = .int .i64 k ∧ AllB k p ∧ Below w.heap.size w wr) (fun i _ => n - (intOf i).toNat)
  case atStart => exact ⟨0, by omega, rfl, fun j hj => by omega, Below.refl _ _⟩
  case round =>
    obtain ⟨k, hk, rfl, hp, hb⟩ := hrel
    by_cases h1 : k < n
    · obtain ⟨b, off, rfl, hb1, hc0⟩ := hel.at_ h1
      have hc : wr.cell? ⟨b, off + k, none⟩ = some (vs k) := (hb.cell (p := ⟨b, off + k, none⟩) (by show b < _; omega)).trans hc0
      clear hc0
      have hz := hb.size
      have hcl := clR g bx fs cs (vs k) wr (p k) HE.out ((hb.cell (p := ⟨bx, 0, none⟩) hbx).trans HC.out) (HR.out k h1 wr (hb.mono hB))
      have HCL := Lib.hid hcl
      clear hcl
      cases hpk : p k
      · have HP := Lib.hid hpk
        clear hpk
        go_wp2_with fail
        refine HCL.out.mono ?_
        rw [HP.out]
        rintro e w1 ⟨rfl, hb2⟩
        go_wp2_with fail
        go_ret
        exact found_at h1 HP.out (hb.trans (hb2.mono hz))
      · have HP := Lib.hid hpk
        clear hpk
        go_wp2_with fail
        refine HCL.out.mono ?_
        rw [HP.out]
        rintro e w1 ⟨rfl, hb2⟩
        go_wp2_with fail
        go_roundw
        case rel => exact ⟨k + 1, by omega, by go_num, hp.succ HP.out, hb.trans (hb2.mono hz)⟩
        case measure => simp [intOf]; omega
    · go_wp2_with fail
      go_ret
      exact found_none (by have : k = n := by omega
                           rwa [this] at hp) hb

set_option maxHeartbeats 400000 in
theorem containsR {B : Nat} (A : Option Addr) (n c g bx : Nat) (fs cs : Array Value) (vs : Nat → Value) (p : Nat → Bool) (w : World) (he : Enters g) (hB : B ≤ w.heap.size) (hbx : bx < w.heap.size) (hn : n ≤ 9223372036854775807)
    (hcell : w.cell? ⟨bx, 0, none⟩ = some (.func (.func g) fs cs)) (hel : Elems B w A n vs) (hr : Right B w n g fs cs vs p) :
    Calls Try.prog 82 #[.slice A n c, .func (.func 83) #[] #[.pointer (some ⟨bx, 0, none⟩)]] w (Ans w (.bool (!allB n p))) := by
  have H := Lib.hid (indexR A n c g bx fs cs vs p w he hB hbx hn hcell hel hr)
  clear hcell hr he
  go_enter Try.func82, Try.ntmps82
  go_wp2_with fail
  refine H.out.mono ?_
  rintro e w1 (⟨k, rfl, hk, hb⟩ | ⟨rfl, hk, hb⟩)
  · go_wp2_with fail
    go_ret
    exact ⟨ret_bool (by rw [hk]; simp), hb⟩
  · go_wp2_with fail
    go_ret
    exact ⟨ret_bool (by rw [hk]; rfl), hb⟩

set_option maxHeartbeats 400000 in
theorem allR {B : Nat} (A : Option Addr) (n c g : Nat) (fs cs : Array Value) (vs : Nat → Value) (p : Nat → Bool) (w : World) (he : Enters g) (hB : B ≤ w.heap.size) (hn : n ≤ 9223372036854775807)
    (hel : Elems B w A n vs) (hr : Right B w n g fs cs vs p) :
    Calls Try.prog 54 #[.slice A n c, .func (.func g) fs cs] w (Ans w (.bool (allB n p))) := by
  have hw : Below B w (w.alloc (.cells #[.func (.func g) fs cs] 84)) := (Below.refl _ _).alloc hB _
  have H := Lib.hid (containsR (B := B) A n c g w.heap.size fs cs vs p (w.alloc (.cells #[.func (.func g) fs cs] 84)) he (by simp; omega) (by simp) hn (by simp) (hel.below hw) (hr.below hw))
  clear hr he
  go_enter Try.func54, Try.ntmps54
  go_wp2_with fail
  refine H.out.mono ?_
  rintro e w1 ⟨rfl, hb⟩
  go_wp2_with fail
  go_ret
  exact ⟨ret_bool (by simp), (((Below.refl w.heap.size w).alloc (Nat.le_refl _) _).trans (hb.mono (by simp)))⟩


end Go.Proofs.Ytgnonfomlgkpcaa
