/-
  frame: the span of a sheet.
-/
import Derived.Test.YtenpiinkbfancaaFh
namespace Go.Proofs.Ytenpiinkbfancaa
open Go.RowKit
set_option linter.unusedSimpArgs false
set_option linter.unusedVariables false

attribute [local go_sem] Oper.semAt_some
/-- A box of two numbers. -/
def TwoAt (W : World) (g : Nat) (a b : Int) : Prop := W.heap[g]? = some (.cells #[.int .i64 a, .int .i64 b] 52)
theorem TwoAt.lt {W : World} {g : Nat} {a b : Int} (h : TwoAt W g a b) : g < W.heap.size := (Array.getElem?_eq_some_iff.1 h).1
theorem TwoAt.step {W W' : World} {g : Nat} {a b : Int} (h : TwoAt W g a b) (hb : Below W.heap.size W W') : TwoAt W' g a b := (hb.block g h.lt).trans h
theorem TwoAt.cells {W : World} {g : Nat} {a b : Int} (h : TwoAt W g a b) : W.cell? ⟨g, 0, none⟩ = some (.int .i64 a) ∧ W.cell? ⟨g, 1, none⟩ = some (.int .i64 b) ∧ ∀ o, W.frozen? ⟨g, o, none⟩ = false := by
  unfold TwoAt at h
  simp [World.cell?, World.frozen?, h]
theorem TwoAt.set {W : World} {g : Nat} {a b : Int} (h : TwoAt W g a b) (x y : Int) : TwoAt ((W.setCell ⟨g, 0, none⟩ (.int .i64 x)).setCell ⟨g, 1, none⟩ (.int .i64 y)) g x y := by
  unfold TwoAt at h ⊢
  simp [World.setCell, Array.getElem?_modify, h]
set_option maxRecDepth 100000 in
set_option maxHeartbeats 4000000 in
theorem span_c (N : Int) (A : Option Addr) (c : Nat) (xs : List Int) (J K : Nat) (w : World) (hs : SheetOk N xs) (hx : Ints w.heap.size w A xs) (hj : FinOk N false (plS N xs xs.length) J) (hk : FinOk N true (plS N xs xs.length) K) :
    Calls Try.prog 51 #[lawV N, .slice A xs.length c] w (Ans w (.agg #[.int .i64 (totS N xs xs.length + finT N false (plS N xs xs.length) J), .int .i64 (totS N xs xs.length + finT N true (plS N xs xs.length) K)])) := by
  obtain ⟨w1, hw1⟩ : ∃ w1, w1 = (w.alloc (.cells #[.int .i64 N, .int .i64 10, .int .i64 2, .int .i64 10] 50)).alloc (.cells #[.int .i64 0, .int .i64 0] 52) := ⟨_, rfl⟩
  have hb0 : Below w.heap.size w w1 := by rw [hw1]; exact below_two _ _
  have HB := Lib.hid hb0
  have l0 : w1.cell? ⟨w.heap.size, 0, none⟩ = some (.int .i64 N) := by rw [hw1]; go_simp
  have l1 : w1.cell? ⟨w.heap.size, 1, none⟩ = some (.int .i64 10) := by rw [hw1]; go_simp
  have l2 : w1.cell? ⟨w.heap.size, 2, none⟩ = some (.int .i64 2) := by rw [hw1]; go_simp
  have l3 : w1.cell? ⟨w.heap.size, 3, none⟩ = some (.int .i64 10) := by rw [hw1]; go_simp
  have ht : TwoAt w1 (w.heap.size + 1) 0 0 := by
    rw [hw1]
    have := World.alloc_heap_new (w.alloc (.cells #[.int .i64 N, .int .i64 10, .int .i64 2, .int .i64 10] 50)) (.cells #[.int .i64 0, .int .i64 0] 52)
    rwa [World.size_alloc] at this
  have HT := Lib.hid ht
  have HF0 := Lib.hid (fun (W : World) (h : Below w.heap.size w W) => final_c N A c xs false J W hs ((hx.below h).more h.size) hj)
  have HF1 := Lib.hid (fun (W : World) (h : Below w.heap.size w W) => final_c N A c xs true K W hs ((hx.below h).more h.size) hk)
  unfold lawV endF at *
  simp only [Bool.false_eq_true, if_false, if_true] at HF0 HF1
  clear hb0 hx hj hk ht
  generalize totS N xs xs.length + finT N false (plS N xs xs.length) J = lo at *
  generalize totS N xs xs.length + finT N true (plS N xs xs.length) K = hi at *
  go_enter Try.func51, Try.ntmps51
  go_upto_region 1 with fail
  rw [← hw1]
  clear hw1
  refine wp_region_noPanic ?_
  have hS : (fun W' : World => Below w1.heap.size w1 W') w1.drew := (Below.refl _ _).drew
  refine wp_region_any (by kernel_rfl) (wpAny_of_T (S := fun W' : World => Below w1.heap.size w1 W') (m := 9) _ _ _ _ ?_)
  refine' T_take (i := 0) (v := _) rfl (by kernel_rfl) (by kernel_rfl) (by kernel_rfl) (by kernel_rfl) (fun _ _ _ h => h) (by kernel_rfl) hS ?_ ?_
  rotate_left 1
  · intro Wv hW
    replace l0 := cell_of_ans hW l0
    replace l1 := cell_of_ans hW l1
    replace l2 := cell_of_ans hW l2
    replace l3 := cell_of_ans hW l3
    go_simp
    first | done | with_reducible rfl | omega
  try simp only [Act.put, List.setIfInBounds_toArray, List.set_cons_zero, List.set_cons_succ]
  refine' T_take (i := 1) (v := _) rfl (by kernel_rfl) (by kernel_rfl) (by kernel_rfl) (by kernel_rfl) (fun _ _ _ h => h) (by kernel_rfl) hS ?_ ?_
  rotate_left 1
  · intro Wv hW
    replace l0 := cell_of_ans hW l0
    replace l1 := cell_of_ans hW l1
    replace l2 := cell_of_ans hW l2
    replace l3 := cell_of_ans hW l3
    go_simp
    first | done | with_reducible rfl | omega
  try simp only [Act.put, List.setIfInBounds_toArray, List.set_cons_zero, List.set_cons_succ]
  refine' T_take (i := 2) (v := _) rfl (by kernel_rfl) (by kernel_rfl) (by kernel_rfl) (by kernel_rfl) (fun _ _ _ h => h) (by kernel_rfl) hS ?_ ?_
  rotate_left 1
  · intro Wv hW
    replace l0 := cell_of_ans hW l0
    replace l1 := cell_of_ans hW l1
    replace l2 := cell_of_ans hW l2
    replace l3 := cell_of_ans hW l3
    go_simp
    first | done | with_reducible rfl | omega
  try simp only [Act.put, List.setIfInBounds_toArray, List.set_cons_zero, List.set_cons_succ]
  refine' T_take (i := 4) (v := _) rfl (by kernel_rfl) (by kernel_rfl) (by kernel_rfl) (by kernel_rfl) (fun _ _ _ h => h) (by kernel_rfl) hS ?_ ?_
  rotate_left 1
  · intro Wv hW
    replace l0 := cell_of_ans hW l0
    replace l1 := cell_of_ans hW l1
    replace l2 := cell_of_ans hW l2
    replace l3 := cell_of_ans hW l3
    go_simp
    first | done | with_reducible rfl | omega
  try simp only [Act.put, List.setIfInBounds_toArray, List.set_cons_zero, List.set_cons_succ]
  refine' T_take (i := 5) (v := _) rfl (by kernel_rfl) (by kernel_rfl) (by kernel_rfl) (by kernel_rfl) (fun _ _ _ h => h) (by kernel_rfl) hS ?_ ?_
  rotate_left 1
  · intro Wv hW
    replace l0 := cell_of_ans hW l0
    replace l1 := cell_of_ans hW l1
    replace l2 := cell_of_ans hW l2
    replace l3 := cell_of_ans hW l3
    go_simp
    first | done | with_reducible rfl | omega
  try simp only [Act.put, List.setIfInBounds_toArray, List.set_cons_zero, List.set_cons_succ]
  refine' T_take (i := 6) (v := _) rfl (by kernel_rfl) (by kernel_rfl) (by kernel_rfl) (by kernel_rfl) (fun _ _ _ h => h) (by kernel_rfl) hS ?_ ?_
  rotate_left 1
  · intro Wv hW
    replace l0 := cell_of_ans hW l0
    replace l1 := cell_of_ans hW l1
    replace l2 := cell_of_ans hW l2
    replace l3 := cell_of_ans hW l3
    go_simp
    first | done | with_reducible rfl | omega
  try simp only [Act.put, List.setIfInBounds_toArray, List.set_cons_zero, List.set_cons_succ]
  refine T_ready (rs := [3]) (by kernel_rfl) (by simp) ?_
  refine TReady.cons rfl (fun K hK => ?_) TReady.nil
  try go_simp
  refine (HF0.out _ (HB.out.trans (hS.mono HB.out.size))).mono ?_
  rintro e w7 ⟨rfl, hb⟩
  have hS2 : Below w1.heap.size w1 w7 := below_cat hb hS
  try go_simp
  refine hK.out _ _ (fun _ => hS2) (fun _ => ?_)
  clear hK K hS hb
  replace hS := hS2
  clear hS2
  try simp only [Act.put, List.setIfInBounds_toArray, List.set_cons_zero, List.set_cons_succ]
  refine T_ready (rs := [7]) (by kernel_rfl) (by simp) ?_
  refine TReady.cons rfl (fun K hK => ?_) TReady.nil
  try go_simp
  refine (HF1.out _ (HB.out.trans (hS.mono HB.out.size))).mono ?_
  rintro e w8 ⟨rfl, hb⟩
  have hS2 : Below w1.heap.size w1 w8 := below_cat hb hS
  try go_simp
  refine hK.out _ _ (fun _ => hS2) (fun _ => ?_)
  clear hK K hS hb
  replace hS := hS2
  clear hS2
  try simp only [Act.put, List.setIfInBounds_toArray, List.set_cons_zero, List.set_cons_succ]
  refine' T_take (i := 8) (v := _) rfl (by kernel_rfl) (by kernel_rfl) (by kernel_rfl) (by kernel_rfl) (fun _ _ _ h => h) (by kernel_rfl) hS ?_ ?_
  rotate_left 1
  · intro Wv hW
    replace l0 := cell_of_ans hW l0
    replace l1 := cell_of_ans hW l1
    replace l2 := cell_of_ans hW l2
    replace l3 := cell_of_ans hW l3
    go_simp
    first | done | with_reducible rfl | omega
  try simp only [Act.put, List.setIfInBounds_toArray, List.set_cons_zero, List.set_cons_succ]
  refine T_ready (rs := [9]) (by kernel_rfl) (by simp) ?_
  refine TReady.cons rfl (fun K hK => ?_) TReady.nil
  have HT2 := HT.out.step hS
  have r0 := HT2.cells.1
  have r1 := HT2.cells.2.1
  have rf := HT2.cells.2.2
  try go_simp
  refine hK.out _ _ (fun h => absurd h (by decide)) (fun _ => ?_)
  clear hK K
  try simp only [Act.put, List.setIfInBounds_toArray, List.set_cons_zero, List.set_cons_succ]
  refine T_done (by kernel_rfl) ?_ _
  refine NoPanic.normal ?_
  try go_simp
  go_wp2_with fail
  have HT3 := HT2.set lo hi
  have c0 := HT3.cells.1
  have c1 := HT3.cells.2.1
  refine bodyPost_ret (v := .agg #[.int .i64 lo, .int .i64 hi]) (by simp [results, Try.results51, go_sem, c0, c1]) rfl ?_
  exact ⟨rfl, ((HB.out.trans (hS.mono HB.out.size)).setCell (by dsimp only; omega) _).setCell (by dsimp only; omega) _⟩
set_option maxHeartbeats 4000000 in
theorem Span_c (N : Int) (A : Option Addr) (c : Nat) (xs : List Int) (J K : Nat) (w : World) (hs : SheetOk N xs) (hx : Ints w.heap.size w A xs) (hj : FinOk N false (plS N xs xs.length) J) (hk : FinOk N true (plS N xs xs.length) K) :
    Calls Try.prog 16 #[lawV N, .slice A xs.length c] w (Ans w (.tuple #[.agg #[.int .i64 (totS N xs xs.length + finT N false (plS N xs xs.length) J), .int .i64 (totS N xs xs.length + finT N true (plS N xs xs.length) K)], .int .i64 0])) := by
  obtain ⟨w1, hw1⟩ : ∃ w1, w1 = (w.alloc (.cells #[.int .i64 N, .int .i64 10, .int .i64 2, .int .i64 10] 50)).alloc (.cells #[.int .i64 0, .int .i64 0] 52) := ⟨_, rfl⟩
  have hb0 : Below w.heap.size w w1 := by rw [hw1]; exact below_two _ _
  have HB := Lib.hid hb0
  have l0 : w1.cell? ⟨w.heap.size, 0, none⟩ = some (.int .i64 N) := by rw [hw1]; go_simp
  have l1 : w1.cell? ⟨w.heap.size, 1, none⟩ = some (.int .i64 10) := by rw [hw1]; go_simp
  have l2 : w1.cell? ⟨w.heap.size, 2, none⟩ = some (.int .i64 2) := by rw [hw1]; go_simp
  have l3 : w1.cell? ⟨w.heap.size, 3, none⟩ = some (.int .i64 10) := by rw [hw1]; go_simp
  have ht : TwoAt w1 (w.heap.size + 1) 0 0 := by
    rw [hw1]
    have := World.alloc_heap_new (w.alloc (.cells #[.int .i64 N, .int .i64 10, .int .i64 2, .int .i64 10] 50)) (.cells #[.int .i64 0, .int .i64 0] 52)
    rwa [World.size_alloc] at this
  have HT := Lib.hid ht
  have HCK := Lib.hid (check_c N A c xs w1 hs ((hx.below hb0).more hb0.size))
  have HSP := Lib.hid (fun (W : World) (h : Below w.heap.size w W) => span_c N A c xs J K W hs ((hx.below h).more h.size) hj hk)
  unfold lawV at *
  clear hb0 hx hj hk ht
  generalize totS N xs xs.length + finT N false (plS N xs xs.length) J = lo at *
  generalize totS N xs xs.length + finT N true (plS N xs xs.length) K = hi at *
  go_enter Try.func16, Try.ntmps16
  go_wp2_with fail
  rw [← hw1]
  clear hw1
  refine HCK.out.mono ?_
  rintro e w2 ⟨rfl, hb⟩
  replace HB := Lib.hid (HB.out.trans (hb.mono HB.out.size))
  replace HT := Lib.hid (HT.out.step hb)
  replace l0 := cell_of_ans hb l0
  replace l1 := cell_of_ans hb l1
  replace l2 := cell_of_ans hb l2
  replace l3 := cell_of_ans hb l3
  clear hb HCK
  go_wp2_with fail
  refine (HSP.out _ HB.out).mono ?_
  rintro e w3 ⟨rfl, hb⟩
  replace HB := Lib.hid (HB.out.trans (hb.mono HB.out.size))
  replace HT := Lib.hid (HT.out.step hb)
  clear hb HSP l0 l1 l2 l3
  have HT3 := HT.out.set lo hi
  have r0 := HT.out.cells.1
  have r1 := HT.out.cells.2.1
  have rf := HT.out.cells.2.2
  have c0 := HT3.cells.1
  have c1 := HT3.cells.2.1
  go_wp2_with fail
  refine bodyPost_ret (v := .tuple #[.agg #[.int .i64 lo, .int .i64 hi], .int .i64 0]) (by simp [results, Try.results16, go_sem, c0, c1]) rfl ?_
  exact ⟨rfl, (HB.out.setCell (by dsimp only; omega) _).setCell (by dsimp only; omega) _⟩
end Go.Proofs.Ytenpiinkbfancaa
