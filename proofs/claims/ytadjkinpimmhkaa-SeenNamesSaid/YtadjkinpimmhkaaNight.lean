/-
  The lane of the document's examples; what is seen of it.
-/
import Derived.Test.YtadjkinpimmhkaaLane
import Derived.Test.YtadjkinpimmhkaaApi
namespace Go.Proofs.Ytadjkinpimmhkaa
open Go.RowKit
set_option linter.unusedSimpArgs false
set_option linter.unusedVariables false

def nightW : List Wd := [⟨0, 0, 0, 3, 3⟩, ⟨0, 1, 0, 0, 2⟩, ⟨0, 0, 1, 2, 4⟩, ⟨1, 0, 1, 6, 6⟩, ⟨1, 0, 2, 0, 1⟩]
theorem night_err : laneErr 2 nightW = 0 := by decide +kernel
theorem night_ask0 : askErr 2 nightW [] = 0 := by decide +kernel
theorem night_ask1 : askErr 2 nightW [1] = 0 := by decide +kernel
theorem night_ex0 : explB 2 nightW (offT []) = false := by decide +kernel
theorem night_ex1 : explB 2 nightW (offT [1]) = true := by decide +kernel
theorem night_exe : exErr 2 nightW [1] = 0 := by decide +kernel
theorem night_rg : rangesL nightW (offT [1]) 2 = [(3, 3), (0, 2), (0, 1), (0, 1)] := by decide +kernel
theorem night_lo : cntLo nightW (offT [1]) 2 = 17 := by decide +kernel
theorem night_hi : cntHi nightW (offT [1]) 2 = 20 := by decide +kernel
theorem night_many : manyP nightW (offT [1]) 2 = 9 := by decide +kernel
theorem night_least : leastL (explB 2 nightW) = [1] := by decide +kernel

set_option maxHeartbeats 1000000 in
theorem word50_c (a b c d e : Int) (w : World) : Calls Try.prog 50 #[.int .i64 a, .int .i64 b, .int .i64 c, .int .i64 d, .int .i64 e] w (Ans w (.agg #[.int .i64 a, .int .i64 b, .int .i64 c, .int .i64 d, .int .i64 e])) := by
  have hb0 : Below w.heap.size w (w.alloc (.cells #[.int .i64 a, .int .i64 b, .int .i64 c, .int .i64 d, .int .i64 e] 85)) := (Below.refl _ _).alloc (Nat.le_refl _) _
  have HB0 := Lib.hid hb0
  clear hb0
  go_enter Try.func50, Try.ntmps50
  go_wp2_with fail
  refine bodyPost_ret (v := .agg #[.int .i64 a, .int .i64 b, .int .i64 c, .int .i64 d, .int .i64 e]) (by simp [results, Try.results50, go_sem]) rfl ⟨rfl, HB0.out⟩

def NightPost (w : World) (e : Ending) (w' : World) : Prop := ∃ A, e = .returned (.agg #[.int .i64 2, .slice A nightW.length 5]) ∧ Wds w'.heap.size w' A nightW ∧ Below w.heap.size w w'
set_option maxRecDepth 100000 in
set_option maxHeartbeats 8000000 in
theorem night_c (w : World) : Calls Try.prog 49 #[] w (NightPost w) := by
  have hb0 : Below w.heap.size w (w.alloc (.cells #[.int .i64 0, .slice none 0 0] 32)) := (Below.refl _ _).alloc (Nat.le_refl _) _
  have hz : (w.alloc (.cells #[.int .i64 0, .slice none 0 0] 32)).heap[w.heap.size]? = some (.cells #[.int .i64 0, .slice none 0 0] 32 (0, 0)) := World.alloc_heap_new _ _
  have H50 := Lib.hid word50_c
  have HB := Lib.hid hb0
  have HZ := Lib.hid hz
  clear hb0 hz
  go_enter Try.func49, Try.ntmps49
  go_wp2_with fail
  generalize w.alloc (.cells #[.int .i64 0, .slice none 0 0] 32) = W0 at HB HZ ⊢
  refine (H50.out _ _ _ _ _ _).mono ?_
  rintro e w1 ⟨rfl, hb⟩
  replace HZ := Lib.hid ((hb.block _ (Array.getElem?_eq_some_iff.1 HZ.out).1).trans HZ.out)
  replace HB := Lib.hid (HB.out.trans (hb.mono HB.out.size))
  clear hb
  go_wp2_with fail
  refine (H50.out _ _ _ _ _ _).mono ?_
  rintro e w2 ⟨rfl, hb⟩
  replace HZ := Lib.hid ((hb.block _ (Array.getElem?_eq_some_iff.1 HZ.out).1).trans HZ.out)
  replace HB := Lib.hid (HB.out.trans (hb.mono HB.out.size))
  clear hb
  go_wp2_with fail
  refine (H50.out _ _ _ _ _ _).mono ?_
  rintro e w3 ⟨rfl, hb⟩
  replace HZ := Lib.hid ((hb.block _ (Array.getElem?_eq_some_iff.1 HZ.out).1).trans HZ.out)
  replace HB := Lib.hid (HB.out.trans (hb.mono HB.out.size))
  clear hb
  go_wp2_with fail
  refine (H50.out _ _ _ _ _ _).mono ?_
  rintro e w4 ⟨rfl, hb⟩
  replace HZ := Lib.hid ((hb.block _ (Array.getElem?_eq_some_iff.1 HZ.out).1).trans HZ.out)
  replace HB := Lib.hid (HB.out.trans (hb.mono HB.out.size))
  clear hb
  go_wp2_with fail
  refine (H50.out _ _ _ _ _ _).mono ?_
  rintro e w5 ⟨rfl, hb⟩
  replace HZ := Lib.hid ((hb.block _ (Array.getElem?_eq_some_iff.1 HZ.out).1).trans HZ.out)
  replace HB := Lib.hid (HB.out.trans (hb.mono HB.out.size))
  have z0 : w5.cell? ⟨w.heap.size, 0, none⟩ = some (.int .i64 0) := by simp [World.cell?, HZ.out]
  have z1 : w5.cell? ⟨w.heap.size, 1, none⟩ = some (.slice none 0 0) := by simp [World.cell?, HZ.out]
  have z2 : w5.frozen? ⟨w.heap.size, 0, none⟩ = false := by simp [World.frozen?, HZ.out]
  have z3 : w5.frozen? ⟨w.heap.size, 1, none⟩ = false := by simp [World.frozen?, HZ.out]
  have hlt : w.heap.size < w5.heap.size := (Array.getElem?_eq_some_iff.1 HZ.out).1
  clear hb
  go_wp2_with fail
  have hb2 : Below w.heap.size w (w5.setCell ⟨w.heap.size, 0, none⟩ (.int .i64 2)) := HB.out.setCell (by dsimp only; omega) _
  have hb3 : Below w.heap.size w ((w5.setCell ⟨w.heap.size, 0, none⟩ (.int .i64 2)).setCell ⟨w.heap.size, 1, none⟩ (.slice (some ⟨w5.heap.size, 0, none⟩) 5 5)) := hb2.setCell (by dsimp only; omega) _
  have hsz : ((w5.setCell ⟨w.heap.size, 0, none⟩ (.int .i64 2)).setCell ⟨w.heap.size, 1, none⟩ (.slice (some ⟨w5.heap.size, 0, none⟩) 5 5)).heap.size = w5.heap.size := by simp [World.setCell]
  have hw6 : ((w5.setCell ⟨w.heap.size, 0, none⟩ (.int .i64 2)).setCell ⟨w.heap.size, 1, none⟩ (.slice (some ⟨w5.heap.size, 0, none⟩) 5 5)).heap[w.heap.size]? = some (.cells #[.int .i64 2, .slice (some ⟨w5.heap.size, 0, none⟩) 5 5] 32 (0, 0)) := by
    simp [World.setCell, Array.getElem?_modify, HZ.out]
  generalize ((w5.setCell ⟨w.heap.size, 0, none⟩ (.int .i64 2)).setCell ⟨w.heap.size, 1, none⟩ (.slice (some ⟨w5.heap.size, 0, none⟩) 5 5)) = w6 at hb3 hsz hw6 ⊢
  have y0 : w6.cell? ⟨w.heap.size, 0, none⟩ = some (.int .i64 2) := by simp [World.cell?, hw6]
  have y1 : w6.cell? ⟨w.heap.size, 1, none⟩ = some (.slice (some ⟨w5.heap.size, 0, none⟩) 5 5) := by simp [World.cell?, hw6]
  have y2 := cell_alloc_keep (.cells #[.int .i64 0, .int .i64 0, .int .i64 0, .int .i64 3, .int .i64 3, .int .i64 0, .int .i64 1, .int .i64 0, .int .i64 0, .int .i64 2, .int .i64 0, .int .i64 0, .int .i64 1, .int .i64 2, .int .i64 4, .int .i64 1, .int .i64 0, .int .i64 1, .int .i64 6, .int .i64 6, .int .i64 1, .int .i64 0, .int .i64 2, .int .i64 0, .int .i64 1] 85) y0
  have y3 := cell_alloc_keep (.cells #[.int .i64 0, .int .i64 0, .int .i64 0, .int .i64 3, .int .i64 3, .int .i64 0, .int .i64 1, .int .i64 0, .int .i64 0, .int .i64 2, .int .i64 0, .int .i64 0, .int .i64 1, .int .i64 2, .int .i64 4, .int .i64 1, .int .i64 0, .int .i64 1, .int .i64 6, .int .i64 6, .int .i64 1, .int .i64 0, .int .i64 2, .int .i64 0, .int .i64 1] 85) y1
  refine bodyPost_ret (v := .agg #[.int .i64 2, .slice (some ⟨w5.heap.size, 0, none⟩) 5 5]) (by simp [results, Try.results49, go_sem, y2, y3]) rfl ⟨some ⟨w5.heap.size, 0, none⟩, rfl, fun _ => ⟨w5.heap.size, 0, rfl, by simp [hsz], fun k hk => ?_⟩, hb3.alloc (by omega) _⟩
  rw [← hsz]
  have hk5 : k < 5 := hk
  rcases (by omega : k = 0 ∨ k = 1 ∨ k = 2 ∨ k = 3 ∨ k = 4) with rfl | rfl | rfl | rfl | rfl <;> simp [W5, wx, nightW]
end Go.Proofs.Ytadjkinpimmhkaa
