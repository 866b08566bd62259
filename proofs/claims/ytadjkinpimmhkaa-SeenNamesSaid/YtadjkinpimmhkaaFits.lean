/-
  What stands behind a ball: one, two, places; fits.
-/
import Derived.Test.YtadjkinpimmhkaaWd
import Derived.Test.YtadjkinpimmhkaaR
namespace Go.Proofs.Ytadjkinpimmhkaa
open Go.RowKit

def sV (f s : Int) : Value := .agg #[.int .i64 f, .int .i64 s]

set_option maxHeartbeats 400000 in
theorem one_c (f s : Int) (w : World) : Calls Try.prog 82 #[.agg #[.int .i64 f, .int .i64 s]] w (Ans w (.int .i64 f)) := by
  go_enter Try.func82, Try.ntmps82
  go_wp2
  go_ret
  exact ⟨rfl, (Below.refl _ _).alloc (Nat.le_refl _) _⟩
set_option maxHeartbeats 400000 in
theorem two_c (f s : Int) (w : World) : Calls Try.prog 83 #[.agg #[.int .i64 f, .int .i64 s]] w (Ans w (.int .i64 s)) := by
  go_enter Try.func83, Try.ntmps83
  go_wp2
  go_ret
  exact ⟨rfl, (Below.refl _ _).alloc (Nat.le_refl _) _⟩

theorem enters82 : Enters 82 := fun _ _ => enters_of Try.func82 (by kernel_rfl) rfl _ _
theorem enters83 : Enters 83 := fun _ _ => enters_of Try.func83 (by kernel_rfl) rfl _ _
def plV : Value := .agg #[.func (.func 82) #[] #[], .func (.func 83) #[] #[]]
set_option maxHeartbeats 400000 in
theorem places_c (w : World) : Calls Try.prog 71 #[] w (Ans w (.agg #[.func (.func 82) #[] #[], .func (.func 83) #[] #[]])) := by
  go_enter Try.func71, Try.ntmps71
  go_wp2
  refine bodyPost_ret (v := .agg #[.func (.func 82) #[] #[], .func (.func 83) #[] #[]]) (by simp [results, Try.results71, go_sem]) rfl ⟨rfl, ?_⟩
  repeat (first | exact Below.refl _ _ | refine Below.setCell ?_ (by dsimp only; omega) _ | refine Below.alloc ?_ (by omega) _)

theorem index_pl0 (W : World) : (Instr.index 122 (.agg #[.func (.func 82) #[] #[], .func (.func 83) #[] #[]]) (.int .i64 0)).run Try.prog W = .ok (.agg #[.func (.func 82) #[] #[]]) W := by
  kernel_rfl
theorem index_pl1 (W : World) : (Instr.index 122 (.agg #[.func (.func 82) #[] #[], .func (.func 83) #[] #[]]) (.int .i64 1)).run Try.prog W = .ok (.agg #[.func (.func 83) #[] #[]]) W := by
  kernel_rfl

theorem field_pl (g : Nat) (W : World) : (Instr.field 121 (.agg #[.func (.func g) #[] #[]]) 0).run Try.prog W = .ok (.func (.func g) #[] #[]) W := by
  kernel_rfl

/-- What a word says of how many stood. -/
def standB (x : Wd) (f s : Int) : Int := if x.ba = 0 then f else s
def fitsB (x : Wd) (f s : Int) : Bool := decide (x.lo ≤ standB x f s) && decide (standB x f s ≤ x.hi)

set_option maxRecDepth 100000 in
set_option maxHeartbeats 4000000 in
theorem fits_c (x : Wd) (f s : Int) (w : World) (hb : x.ba = 0 ∨ x.ba = 1) : Calls Try.prog 80 #[wV x, .agg #[.int .i64 f, .int .i64 s]] w (Ans w (.bool (fitsB x f s))) := by
  obtain ⟨xf, xb, xt, xl, xh⟩ := x
  unfold wV
  dsimp only at hb ⊢
  have e82 := enters82
  have e83 := enters83
  have i0 := index_pl0
  have i1 := index_pl1
  have i2 := field_pl
  unfold Enters at e82 e83
  rcases hb with rfl | rfl
  · have hb0 : Below w.heap.size w ((w.alloc (.cells #[.int .i64 xf, .int .i64 0, .int .i64 xt, .int .i64 xl, .int .i64 xh] 85)).alloc (.cells #[.int .i64 f, .int .i64 s] 111)) := ((Below.refl _ _).alloc (Nat.le_refl _) _).alloc (by simp) _
    have k0 : ((w.alloc (.cells #[.int .i64 xf, .int .i64 0, .int .i64 xt, .int .i64 xl, .int .i64 xh] 85)).alloc (.cells #[.int .i64 f, .int .i64 s] 111)).cell? ⟨w.heap.size, 0, none⟩ = some (.int .i64 xf) := by go_simp
    have k1 : ((w.alloc (.cells #[.int .i64 xf, .int .i64 0, .int .i64 xt, .int .i64 xl, .int .i64 xh] 85)).alloc (.cells #[.int .i64 f, .int .i64 s] 111)).cell? ⟨w.heap.size, 1, none⟩ = some (.int .i64 0) := by go_simp
    have k2 : ((w.alloc (.cells #[.int .i64 xf, .int .i64 0, .int .i64 xt, .int .i64 xl, .int .i64 xh] 85)).alloc (.cells #[.int .i64 f, .int .i64 s] 111)).cell? ⟨w.heap.size, 2, none⟩ = some (.int .i64 xt) := by go_simp
    have k3 : ((w.alloc (.cells #[.int .i64 xf, .int .i64 0, .int .i64 xt, .int .i64 xl, .int .i64 xh] 85)).alloc (.cells #[.int .i64 f, .int .i64 s] 111)).cell? ⟨w.heap.size, 3, none⟩ = some (.int .i64 xl) := by go_simp
    have k4 : ((w.alloc (.cells #[.int .i64 xf, .int .i64 0, .int .i64 xt, .int .i64 xl, .int .i64 xh] 85)).alloc (.cells #[.int .i64 f, .int .i64 s] 111)).cell? ⟨w.heap.size, 4, none⟩ = some (.int .i64 xh) := by go_simp
    have k5 : ((w.alloc (.cells #[.int .i64 xf, .int .i64 0, .int .i64 xt, .int .i64 xl, .int .i64 xh] 85)).alloc (.cells #[.int .i64 f, .int .i64 s] 111)).cell? ⟨w.heap.size + 1, 0, none⟩ = some (.int .i64 f) := by go_simp
    have k6 : ((w.alloc (.cells #[.int .i64 xf, .int .i64 0, .int .i64 xt, .int .i64 xl, .int .i64 xh] 85)).alloc (.cells #[.int .i64 f, .int .i64 s] 111)).cell? ⟨w.heap.size + 1, 1, none⟩ = some (.int .i64 s) := by go_simp
    have HB := Lib.hid hb0
    clear hb0
    by_cases t1 : xl ≤ f
    · by_cases t2 : f ≤ xh
      · go_enter Try.func80, Try.ntmps80
        go_wp2_with fail
        generalize ((w.alloc (.cells #[.int .i64 xf, .int .i64 0, .int .i64 xt, .int .i64 xl, .int .i64 xh] 85)).alloc (.cells #[.int .i64 f, .int .i64 s] 111)) = W0 at k0 k1 k2 k3 k4 k5 k6 HB ⊢
        go_region_held3 (fun w' => w'.cell? ⟨w.heap.size, 0, none⟩ = some (.int .i64 xf) ∧ w'.cell? ⟨w.heap.size, 1, none⟩ = some (.int .i64 0) ∧ w'.cell? ⟨w.heap.size, 2, none⟩ = some (.int .i64 xt) ∧ w'.cell? ⟨w.heap.size, 3, none⟩ = some (.int .i64 xl) ∧ w'.cell? ⟨w.heap.size, 4, none⟩ = some (.int .i64 xh) ∧ w'.cell? ⟨w.heap.size + 1, 0, none⟩ = some (.int .i64 f) ∧ w'.cell? ⟨w.heap.size + 1, 1, none⟩ = some (.int .i64 s)) (go_keep) (first | (go_at_call 71; refine (places_c _).mono ?_; rintro e w1 ⟨rfl, hb⟩; replace k0 := cell_of_ans (below_drew_l hb) k0; replace k1 := cell_of_ans (below_drew_l hb) k1; replace k2 := cell_of_ans (below_drew_l hb) k2; replace k3 := cell_of_ans (below_drew_l hb) k3; replace k4 := cell_of_ans (below_drew_l hb) k4; replace k5 := cell_of_ans (below_drew_l hb) k5; replace k6 := cell_of_ans (below_drew_l hb) k6; replace HB := Lib.hid (HB.out.trans ((below_drew_l hb).mono HB.out.size)); clear hb) | (go_at_call 82; refine (one_c f s _).mono ?_; rintro e w1 ⟨rfl, hb⟩; replace k0 := cell_of_ans hb k0; replace k1 := cell_of_ans hb k1; replace k2 := cell_of_ans hb k2; replace k3 := cell_of_ans hb k3; replace k4 := cell_of_ans hb k4; replace k5 := cell_of_ans hb k5; replace k6 := cell_of_ans hb k6; replace HB := Lib.hid (HB.out.trans (hb.mono HB.out.size)); clear hb))
        go_wp2_with fail
        go_ret
        exact ⟨ret_bool (by first | (simp [fitsB, standB, *]; done) | (simp only [fitsB, standB]; simp; omega)), HB.out⟩
      · go_enter Try.func80, Try.ntmps80
        go_wp2_with fail
        generalize ((w.alloc (.cells #[.int .i64 xf, .int .i64 0, .int .i64 xt, .int .i64 xl, .int .i64 xh] 85)).alloc (.cells #[.int .i64 f, .int .i64 s] 111)) = W0 at k0 k1 k2 k3 k4 k5 k6 HB ⊢
        go_region_held3 (fun w' => w'.cell? ⟨w.heap.size, 0, none⟩ = some (.int .i64 xf) ∧ w'.cell? ⟨w.heap.size, 1, none⟩ = some (.int .i64 0) ∧ w'.cell? ⟨w.heap.size, 2, none⟩ = some (.int .i64 xt) ∧ w'.cell? ⟨w.heap.size, 3, none⟩ = some (.int .i64 xl) ∧ w'.cell? ⟨w.heap.size, 4, none⟩ = some (.int .i64 xh) ∧ w'.cell? ⟨w.heap.size + 1, 0, none⟩ = some (.int .i64 f) ∧ w'.cell? ⟨w.heap.size + 1, 1, none⟩ = some (.int .i64 s)) (go_keep) (first | (go_at_call 71; refine (places_c _).mono ?_; rintro e w1 ⟨rfl, hb⟩; replace k0 := cell_of_ans (below_drew_l hb) k0; replace k1 := cell_of_ans (below_drew_l hb) k1; replace k2 := cell_of_ans (below_drew_l hb) k2; replace k3 := cell_of_ans (below_drew_l hb) k3; replace k4 := cell_of_ans (below_drew_l hb) k4; replace k5 := cell_of_ans (below_drew_l hb) k5; replace k6 := cell_of_ans (below_drew_l hb) k6; replace HB := Lib.hid (HB.out.trans ((below_drew_l hb).mono HB.out.size)); clear hb) | (go_at_call 82; refine (one_c f s _).mono ?_; rintro e w1 ⟨rfl, hb⟩; replace k0 := cell_of_ans hb k0; replace k1 := cell_of_ans hb k1; replace k2 := cell_of_ans hb k2; replace k3 := cell_of_ans hb k3; replace k4 := cell_of_ans hb k4; replace k5 := cell_of_ans hb k5; replace k6 := cell_of_ans hb k6; replace HB := Lib.hid (HB.out.trans (hb.mono HB.out.size)); clear hb))
        go_wp2_with fail
        go_ret
        exact ⟨ret_bool (by first | (simp [fitsB, standB, *]; done) | (simp only [fitsB, standB]; simp; omega)), HB.out⟩
    · go_enter Try.func80, Try.ntmps80
      go_wp2_with fail
      generalize ((w.alloc (.cells #[.int .i64 xf, .int .i64 0, .int .i64 xt, .int .i64 xl, .int .i64 xh] 85)).alloc (.cells #[.int .i64 f, .int .i64 s] 111)) = W0 at k0 k1 k2 k3 k4 k5 k6 HB ⊢
      go_region_held3 (fun w' => w'.cell? ⟨w.heap.size, 0, none⟩ = some (.int .i64 xf) ∧ w'.cell? ⟨w.heap.size, 1, none⟩ = some (.int .i64 0) ∧ w'.cell? ⟨w.heap.size, 2, none⟩ = some (.int .i64 xt) ∧ w'.cell? ⟨w.heap.size, 3, none⟩ = some (.int .i64 xl) ∧ w'.cell? ⟨w.heap.size, 4, none⟩ = some (.int .i64 xh) ∧ w'.cell? ⟨w.heap.size + 1, 0, none⟩ = some (.int .i64 f) ∧ w'.cell? ⟨w.heap.size + 1, 1, none⟩ = some (.int .i64 s)) (go_keep) (first | (go_at_call 71; refine (places_c _).mono ?_; rintro e w1 ⟨rfl, hb⟩; replace k0 := cell_of_ans (below_drew_l hb) k0; replace k1 := cell_of_ans (below_drew_l hb) k1; replace k2 := cell_of_ans (below_drew_l hb) k2; replace k3 := cell_of_ans (below_drew_l hb) k3; replace k4 := cell_of_ans (below_drew_l hb) k4; replace k5 := cell_of_ans (below_drew_l hb) k5; replace k6 := cell_of_ans (below_drew_l hb) k6; replace HB := Lib.hid (HB.out.trans ((below_drew_l hb).mono HB.out.size)); clear hb) | (go_at_call 82; refine (one_c f s _).mono ?_; rintro e w1 ⟨rfl, hb⟩; replace k0 := cell_of_ans hb k0; replace k1 := cell_of_ans hb k1; replace k2 := cell_of_ans hb k2; replace k3 := cell_of_ans hb k3; replace k4 := cell_of_ans hb k4; replace k5 := cell_of_ans hb k5; replace k6 := cell_of_ans hb k6; replace HB := Lib.hid (HB.out.trans (hb.mono HB.out.size)); clear hb))
      go_wp2_with fail
      go_ret
      exact ⟨ret_bool (by first | (simp [fitsB, standB, *]; done) | (simp only [fitsB, standB]; simp; omega)), HB.out⟩
  · have hb0 : Below w.heap.size w ((w.alloc (.cells #[.int .i64 xf, .int .i64 1, .int .i64 xt, .int .i64 xl, .int .i64 xh] 85)).alloc (.cells #[.int .i64 f, .int .i64 s] 111)) := ((Below.refl _ _).alloc (Nat.le_refl _) _).alloc (by simp) _
    have k0 : ((w.alloc (.cells #[.int .i64 xf, .int .i64 1, .int .i64 xt, .int .i64 xl, .int .i64 xh] 85)).alloc (.cells #[.int .i64 f, .int .i64 s] 111)).cell? ⟨w.heap.size, 0, none⟩ = some (.int .i64 xf) := by go_simp
    have k1 : ((w.alloc (.cells #[.int .i64 xf, .int .i64 1, .int .i64 xt, .int .i64 xl, .int .i64 xh] 85)).alloc (.cells #[.int .i64 f, .int .i64 s] 111)).cell? ⟨w.heap.size, 1, none⟩ = some (.int .i64 1) := by go_simp
    have k2 : ((w.alloc (.cells #[.int .i64 xf, .int .i64 1, .int .i64 xt, .int .i64 xl, .int .i64 xh] 85)).alloc (.cells #[.int .i64 f, .int .i64 s] 111)).cell? ⟨w.heap.size, 2, none⟩ = some (.int .i64 xt) := by go_simp
    have k3 : ((w.alloc (.cells #[.int .i64 xf, .int .i64 1, .int .i64 xt, .int .i64 xl, .int .i64 xh] 85)).alloc (.cells #[.int .i64 f, .int .i64 s] 111)).cell? ⟨w.heap.size, 3, none⟩ = some (.int .i64 xl) := by go_simp
    have k4 : ((w.alloc (.cells #[.int .i64 xf, .int .i64 1, .int .i64 xt, .int .i64 xl, .int .i64 xh] 85)).alloc (.cells #[.int .i64 f, .int .i64 s] 111)).cell? ⟨w.heap.size, 4, none⟩ = some (.int .i64 xh) := by go_simp
    have k5 : ((w.alloc (.cells #[.int .i64 xf, .int .i64 1, .int .i64 xt, .int .i64 xl, .int .i64 xh] 85)).alloc (.cells #[.int .i64 f, .int .i64 s] 111)).cell? ⟨w.heap.size + 1, 0, none⟩ = some (.int .i64 f) := by go_simp
    have k6 : ((w.alloc (.cells #[.int .i64 xf, .int .i64 1, .int .i64 xt, .int .i64 xl, .int .i64 xh] 85)).alloc (.cells #[.int .i64 f, .int .i64 s] 111)).cell? ⟨w.heap.size + 1, 1, none⟩ = some (.int .i64 s) := by go_simp
    have HB := Lib.hid hb0
    clear hb0
    by_cases t1 : xl ≤ s
    · by_cases t2 : s ≤ xh
      · go_enter Try.func80, Try.ntmps80
        go_wp2_with fail
        generalize ((w.alloc (.cells #[.int .i64 xf, .int .i64 1, .int .i64 xt, .int .i64 xl, .int .i64 xh] 85)).alloc (.cells #[.int .i64 f, .int .i64 s] 111)) = W0 at k0 k1 k2 k3 k4 k5 k6 HB ⊢
        go_region_held3 (fun w' => w'.cell? ⟨w.heap.size, 0, none⟩ = some (.int .i64 xf) ∧ w'.cell? ⟨w.heap.size, 1, none⟩ = some (.int .i64 1) ∧ w'.cell? ⟨w.heap.size, 2, none⟩ = some (.int .i64 xt) ∧ w'.cell? ⟨w.heap.size, 3, none⟩ = some (.int .i64 xl) ∧ w'.cell? ⟨w.heap.size, 4, none⟩ = some (.int .i64 xh) ∧ w'.cell? ⟨w.heap.size + 1, 0, none⟩ = some (.int .i64 f) ∧ w'.cell? ⟨w.heap.size + 1, 1, none⟩ = some (.int .i64 s)) (go_keep) (first | (go_at_call 71; refine (places_c _).mono ?_; rintro e w1 ⟨rfl, hb⟩; replace k0 := cell_of_ans (below_drew_l hb) k0; replace k1 := cell_of_ans (below_drew_l hb) k1; replace k2 := cell_of_ans (below_drew_l hb) k2; replace k3 := cell_of_ans (below_drew_l hb) k3; replace k4 := cell_of_ans (below_drew_l hb) k4; replace k5 := cell_of_ans (below_drew_l hb) k5; replace k6 := cell_of_ans (below_drew_l hb) k6; replace HB := Lib.hid (HB.out.trans ((below_drew_l hb).mono HB.out.size)); clear hb) | (go_at_call 83; refine (two_c f s _).mono ?_; rintro e w1 ⟨rfl, hb⟩; replace k0 := cell_of_ans hb k0; replace k1 := cell_of_ans hb k1; replace k2 := cell_of_ans hb k2; replace k3 := cell_of_ans hb k3; replace k4 := cell_of_ans hb k4; replace k5 := cell_of_ans hb k5; replace k6 := cell_of_ans hb k6; replace HB := Lib.hid (HB.out.trans (hb.mono HB.out.size)); clear hb))
        go_wp2_with fail
        go_ret
        exact ⟨ret_bool (by first | (simp [fitsB, standB, *]; done) | (simp only [fitsB, standB]; simp; omega)), HB.out⟩
      · go_enter Try.func80, Try.ntmps80
        go_wp2_with fail
        generalize ((w.alloc (.cells #[.int .i64 xf, .int .i64 1, .int .i64 xt, .int .i64 xl, .int .i64 xh] 85)).alloc (.cells #[.int .i64 f, .int .i64 s] 111)) = W0 at k0 k1 k2 k3 k4 k5 k6 HB ⊢
        go_region_held3 (fun w' => w'.cell? ⟨w.heap.size, 0, none⟩ = some (.int .i64 xf) ∧ w'.cell? ⟨w.heap.size, 1, none⟩ = some (.int .i64 1) ∧ w'.cell? ⟨w.heap.size, 2, none⟩ = some (.int .i64 xt) ∧ w'.cell? ⟨w.heap.size, 3, none⟩ = some (.int .i64 xl) ∧ w'.cell? ⟨w.heap.size, 4, none⟩ = some (.int .i64 xh) ∧ w'.cell? ⟨w.heap.size + 1, 0, none⟩ = some (.int .i64 f) ∧ w'.cell? ⟨w.heap.size + 1, 1, none⟩ = some (.int .i64 s)) (go_keep) (first | (go_at_call 71; refine (places_c _).mono ?_; rintro e w1 ⟨rfl, hb⟩; replace k0 := cell_of_ans (below_drew_l hb) k0; replace k1 := cell_of_ans (below_drew_l hb) k1; replace k2 := cell_of_ans (below_drew_l hb) k2; replace k3 := cell_of_ans (below_drew_l hb) k3; replace k4 := cell_of_ans (below_drew_l hb) k4; replace k5 := cell_of_ans (below_drew_l hb) k5; replace k6 := cell_of_ans (below_drew_l hb) k6; replace HB := Lib.hid (HB.out.trans ((below_drew_l hb).mono HB.out.size)); clear hb) | (go_at_call 83; refine (two_c f s _).mono ?_; rintro e w1 ⟨rfl, hb⟩; replace k0 := cell_of_ans hb k0; replace k1 := cell_of_ans hb k1; replace k2 := cell_of_ans hb k2; replace k3 := cell_of_ans hb k3; replace k4 := cell_of_ans hb k4; replace k5 := cell_of_ans hb k5; replace k6 := cell_of_ans hb k6; replace HB := Lib.hid (HB.out.trans (hb.mono HB.out.size)); clear hb))
        go_wp2_with fail
        go_ret
        exact ⟨ret_bool (by first | (simp [fitsB, standB, *]; done) | (simp only [fitsB, standB]; simp; omega)), HB.out⟩
    · go_enter Try.func80, Try.ntmps80
      go_wp2_with fail
      generalize ((w.alloc (.cells #[.int .i64 xf, .int .i64 1, .int .i64 xt, .int .i64 xl, .int .i64 xh] 85)).alloc (.cells #[.int .i64 f, .int .i64 s] 111)) = W0 at k0 k1 k2 k3 k4 k5 k6 HB ⊢
      go_region_held3 (fun w' => w'.cell? ⟨w.heap.size, 0, none⟩ = some (.int .i64 xf) ∧ w'.cell? ⟨w.heap.size, 1, none⟩ = some (.int .i64 1) ∧ w'.cell? ⟨w.heap.size, 2, none⟩ = some (.int .i64 xt) ∧ w'.cell? ⟨w.heap.size, 3, none⟩ = some (.int .i64 xl) ∧ w'.cell? ⟨w.heap.size, 4, none⟩ = some (.int .i64 xh) ∧ w'.cell? ⟨w.heap.size + 1, 0, none⟩ = some (.int .i64 f) ∧ w'.cell? ⟨w.heap.size + 1, 1, none⟩ = some (.int .i64 s)) (go_keep) (first | (go_at_call 71; refine (places_c _).mono ?_; rintro e w1 ⟨rfl, hb⟩; replace k0 := cell_of_ans (below_drew_l hb) k0; replace k1 := cell_of_ans (below_drew_l hb) k1; replace k2 := cell_of_ans (below_drew_l hb) k2; replace k3 := cell_of_ans (below_drew_l hb) k3; replace k4 := cell_of_ans (below_drew_l hb) k4; replace k5 := cell_of_ans (below_drew_l hb) k5; replace k6 := cell_of_ans (below_drew_l hb) k6; replace HB := Lib.hid (HB.out.trans ((below_drew_l hb).mono HB.out.size)); clear hb) | (go_at_call 83; refine (two_c f s _).mono ?_; rintro e w1 ⟨rfl, hb⟩; replace k0 := cell_of_ans hb k0; replace k1 := cell_of_ans hb k1; replace k2 := cell_of_ans hb k2; replace k3 := cell_of_ans hb k3; replace k4 := cell_of_ans hb k4; replace k5 := cell_of_ans hb k5; replace k6 := cell_of_ans hb k6; replace HB := Lib.hid (HB.out.trans (hb.mono HB.out.size)); clear hb))
      go_wp2_with fail
      go_ret
      exact ⟨ret_bool (by first | (simp [fitsB, standB, *]; done) | (simp only [fitsB, standB]; simp; omega)), HB.out⟩
end Go.Proofs.Ytadjkinpimmhkaa
