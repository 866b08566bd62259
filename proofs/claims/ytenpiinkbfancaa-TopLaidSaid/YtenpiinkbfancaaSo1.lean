/-
  path: states compared; slices.SortFunc at them.
-/
import Derived.Test.YtenpiinkbfancaaSo0
import Derived.Test.YtenpiinkbfancaaMq
namespace Go.Proofs.Ytenpiinkbfancaa.Pa
open Go.RowKit
set_option linter.unusedSimpArgs false
set_option linter.unusedVariables false

attribute [local go_sem] Oper.semAt_some
set_option maxHeartbeats 4000000 in
theorem or171_c (g : Nat) (x y : Int) (w : World) (h0 : w.cell? ⟨g, 0, none⟩ = some (.int .i64 x)) (h1 : w.cell? ⟨g, 1, none⟩ = some (.int .i64 y)) :
    Calls Try.prog 171 #[.slice (some ⟨g, 0, none⟩) 2 2] w (Same w (.int .i64 (if x = 0 then y else x))) := by
  by_cases hx : x = 0
  · subst hx
    by_cases hy : y = 0
    · subst hy
      go_enter Try.func171, Try.ntmps171
      go_wp2_with fail
      refine wp_loop_rounds 3 ?_
      rw [rounds_succ]
      go_wp2_with fail
      rw [rounds_succ]
      go_wp2_with fail
      rw [rounds_succ]
      go_wp2_with fail
      go_ret
      exact ⟨rfl, rfl⟩
    · go_enter Try.func171, Try.ntmps171
      go_wp2_with fail
      refine wp_loop_rounds 3 ?_
      rw [rounds_succ]
      go_wp2_with fail
      rw [rounds_succ]
      go_wp2_with fail
      go_ret
      exact ⟨rfl, rfl⟩
  · rw [if_neg hx]
    go_enter Try.func171, Try.ntmps171
    go_wp2_with fail
    refine wp_loop_rounds 3 ?_
    rw [rounds_succ]
    go_wp2_with fail
    go_ret
    exact ⟨rfl, rfl⟩
theorem or171n_c (x y : Int) (w : World) : Calls Try.prog 171 #[.slice (some ⟨w.heap.size, 0, none⟩) 2 2] (w.alloc (.cells #[.int .i64 x, .int .i64 y] 3)) (Same (w.alloc (.cells #[.int .i64 x, .int .i64 y] 3)) (.int .i64 (if x = 0 then y else x))) :=
  or171_c _ x y _ (by go_simp) (by go_simp)
/-- The states of balls. -/
abbrev St := { u : Int × Int // insd u }
instance : Inhabited St := ⟨⟨(1, 0), ⟨by decide, by decide⟩⟩⟩
def encS (x : St) : List Value := [.int .i64 x.1.1, .int .i64 x.1.2]
def cmpS (x y : St) : Int := if x.1.1 - y.1.1 = 0 then x.1.2 - y.1.2 else x.1.1 - y.1.1
theorem ltS (x y : St) : Go.Proofs.ltOf cmpS x y = decide (x.1.1 < y.1.1 ∨ x.1.1 = y.1.1 ∧ x.1.2 < y.1.2) := by
  unfold Go.Proofs.ltOf cmpS
  split
  · exact decide_eq_decide.2 (by omega)
  · exact decide_eq_decide.2 (by omega)
theorem swoS : Sort.SWO (Go.Proofs.ltOf cmpS) where
  irrefl x := by rw [ltS]; simp
  trans x y z h1 h2 := by rw [ltS] at *; simp only [decide_eq_true_eq] at *; omega
  ntrans x y z h1 h2 := by rw [ltS] at *; simp only [decide_eq_false_iff_not] at *; omega
set_option maxRecDepth 100000 in
set_option maxHeartbeats 4000000 in
theorem ahead143_c (x y : St) (W : World) : Calls Try.prog 143 #[.agg (encS x).toArray, .agg (encS y).toArray] W fun e w' => e = .returned (.int .i64 (cmpS x y)) ∧ ∃ q os', w' = Sort.grow (W.drewN q) os' := by
  obtain ⟨⟨x1, x2⟩, ⟨hx1, hx2⟩, hx3, hx4⟩ := x
  obtain ⟨⟨y1, y2⟩, ⟨hy1, hy2⟩, hy3, hy4⟩ := y
  dsimp only at hx1 hx2 hx3 hx4 hy1 hy2 hy3 hy4
  unfold cmpS encS
  dsimp only
  have hw1 : IntKind.i64.wrap (x1 - y1) = x1 - y1 := IntWalk.i64_in _ (by omega)
  have hw2 : IntKind.i64.wrap (x2 - y2) = x2 - y2 := IntWalk.i64_in _ (by omega)
  have HO : Hid (Calls Try.prog 171 #[.slice (some ⟨W.heap.size + 1 + 1, 0, none⟩) 2 2] (((W.alloc (.cells #[.int .i64 x1, .int .i64 x2] 105)).alloc (.cells #[.int .i64 y1, .int .i64 y2] 105)).alloc (.cells #[.int .i64 (x1 - y1), .int .i64 (x2 - y2)] 3)) (Same (((W.alloc (.cells #[.int .i64 x1, .int .i64 x2] 105)).alloc (.cells #[.int .i64 y1, .int .i64 y2] 105)).alloc (.cells #[.int .i64 (x1 - y1), .int .i64 (x2 - y2)] 3)) (.int .i64 (if x1 - y1 = 0 then x2 - y2 else x1 - y1)))) := by
    have h := or171n_c (x1 - y1) (x2 - y2) ((W.alloc (.cells #[.int .i64 x1, .int .i64 x2] 105)).alloc (.cells #[.int .i64 y1, .int .i64 y2] 105))
    simp only [World.size_alloc] at h
    exact h
  generalize (if x1 - y1 = 0 then x2 - y2 else x1 - y1) = r at *
  go_enter Try.func143, Try.ntmps143
  go_wp2_with fail
  refine HO.out.mono ?_
  rintro e w2 ⟨rfl, rfl⟩
  go_wp2_with fail
  go_ret
  exact ⟨rfl, 0, _, by rw [Sort.alloc_eq_grow, Sort.alloc_eq_grow, Sort.alloc_eq_grow, Sort.grow_grow, Sort.grow_grow]; rfl⟩
set_option maxHeartbeats 4000000 in
theorem ins187_nil (f : Value) (w : World) : Calls Try.prog 187 #[.slice none 0 0, .int .i64 0, .int .i64 0, f] w (Same w (.tuple #[])) := by
  go_enter Try.func187, Try.ntmps187
  go_wp2_with fail
  refine wp_loop_rounds 1 ?_
  rw [rounds_succ]
  go_wp2_with fail
  go_end0
  exact ⟨rfl, rfl⟩
set_option maxHeartbeats 4000000 in
theorem pdq169_nil (lim : Int) (f : Value) (w : World) : Calls Try.prog 169 #[.slice none 0 0, .int .i64 0, .int .i64 0, .int .i64 lim, f] w (Same w (.tuple #[])) := by
  go_enter Try.func169, Try.ntmps169
  go_wp2_with fail
  refine wp_loop_rounds 1 ?_
  rw [rounds_succ]
  go_wp2_with (go_at_call 187; refine (ins187_nil _ _).mono ?_; rintro e w' ⟨rfl, rfl⟩)
  (try simp only [Exit.inBlock, Exit.then]); refine bodyPost_ret (results_none rfl _ _ _) rfl ?_
  exact ⟨rfl, rfl⟩
theorem len170_zero (w : World) : Calls Try.prog 170 #[.int .u64 0] w fun e w' => e = .returned (.int .i64 (Lib.bitLen 0 : Nat)) ∧ w' = w :=
  Any.bits_Len (SlLaysF0.n15.bits (P := Try.prog) (ρ := sortSt_ren) { sortSt with }) 0 w (by omega) (by omega)
set_option maxHeartbeats 4000000 in
theorem sort142_nil (f : Value) (w : World) : Calls Try.prog 142 #[.slice none 0 0, f] w (Same w (.tuple #[])) := by
  have HL := Lib.hid (len170_zero w)
  go_enter Try.func142, Try.ntmps142
  go_wp2_with (first | (go_at_call 170; refine HL.out.mono ?_; rintro e w' ⟨rfl, rfl⟩) | (go_at_call 169; refine (pdq169_nil _ _ _).mono ?_; rintro e w' ⟨rfl, rfl⟩))
  go_end0
  exact ⟨rfl, rfl⟩
end Go.Proofs.Ytenpiinkbfancaa.Pa
