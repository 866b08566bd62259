/-
  awake: true, whatever was there.
-/
import Derived.Test.YtpekajnjjhibjaaAw
namespace Go.Proofs.Ytpekajnjjhibjaa
open Go.RowKit
set_option linter.unusedSimpArgs false
set_option linter.unusedVariables false

attribute [local go_sem] Oper.semAt_some
set_option maxRecDepth 100000 in
set_option maxHeartbeats 16000000 in
theorem awake16_c (w : World) : Calls Try.prog 16 #[] w (Ans w (.bool true)) := by
  go_enter Try.func16, Try.ntmps16
  go_wp2_with fail
  refine (ten50_c _).mono ?_
  rintro e w1 ⟨A1, c1, rfl, ⟨hl1, hc1, hd1⟩, hb⟩
  have HL1 := Lib.hid hl1
  have HB := Lib.hid hb
  clear hb hl1
  go_wp2_with fail
  have hb : Below w1.heap.size w1 (w1.alloc (.cells #[.int .i64 6, .int .i64 9] 3)) := (Below.refl _ _).alloc (Nat.le_refl _) _
  have HI1 := Lib.hid (ints_lit w1 [6, 9] #[.int .i64 6, .int .i64 9] rfl)
  replace HL1 := Lib.hid (HL1.out.step hb)
  replace HB := Lib.hid (HB.out.trans (hb.mono HB.out.size))
  clear hb
  generalize hx : (w1.alloc (.cells #[.int .i64 6, .int .i64 9] 3)) = x1 at *
  clear hx
  obtain ⟨g1, hg1⟩ : ∃ g, g = w1.heap.size := ⟨_, rfl⟩
  rw [← hg1] at HI1
  simp only [← hg1]
  clear hg1
  refine (Kind_c tenR A1 _ c1 2 [6, 9] _ HL1.out ⟨hc1, hd1⟩ HI1.out ⟨by decide, by decide⟩).mono ?_
  rw [ten_kind, ten_pin69]
  rintro e w2 ⟨rfl, hb⟩
  replace HB := Lib.hid (HB.out.trans (hb.mono HB.out.size))
  clear hb HL1 HI1
  go_wp2_with fail
  refine (ten50_c _).mono ?_
  rintro e w3 ⟨A2, c2, rfl, ⟨hl2, hc2, hd2⟩, hb⟩
  have HL2 := Lib.hid hl2
  replace HB := Lib.hid (HB.out.trans (hb.mono HB.out.size))
  clear hb hl2
  go_wp2_with fail
  refine (all51_c _).mono ?_
  rintro e w4 ⟨rfl, hi, hb⟩
  have HA2 := Lib.hid hi
  replace HL2 := Lib.hid (HL2.out.step hb)
  replace HB := Lib.hid (HB.out.trans (hb.mono HB.out.size))
  clear hb hi
  go_wp2_with fail
  refine (thrown52_c _).mono ?_
  rintro e w5 ⟨rfl, hi, hb⟩
  have HT2 := Lib.hid hi
  replace HA2 := Lib.hid (HA2.out.step hb)
  replace HL2 := Lib.hid (HL2.out.step hb)
  replace HB := Lib.hid (HB.out.trans (hb.mono HB.out.size))
  clear hb hi
  go_wp2_with fail
  refine (falls17_c tenR A2 _ _ c2 10 4 allP thrL _ HL2.out ⟨hc2, hd2⟩ HA2.out ⟨by decide, by decide⟩ HT2.out ⟨by decide, by decide⟩).mono ?_
  rw [ten_sure, ten_may, ten_thr]
  rintro e w6 ⟨As, cs, Am, cm, rfl, ⟨hs, hs1, hs2⟩, ⟨hm, hm1, hm2⟩, hb⟩
  have HS := Lib.hid hs
  have HM := Lib.hid hm
  replace HB := Lib.hid (HB.out.trans (hb.mono HB.out.size))
  clear hb HL2 HA2 HT2 hs hm
  go_wp2_with fail
  refine (ten50_c _).mono ?_
  rintro e w7 ⟨A3, c3, rfl, ⟨hl3, hc3, hd3⟩, hb⟩
  have HL3 := Lib.hid hl3
  replace HS := Lib.hid (HS.out.step hb)
  replace HM := Lib.hid (HM.out.step hb)
  replace HB := Lib.hid (HB.out.trans (hb.mono HB.out.size))
  clear hb hl3
  go_wp2_with fail
  refine (all51_c _).mono ?_
  rintro e w8 ⟨rfl, hi, hb⟩
  have HA3 := Lib.hid hi
  replace HL3 := Lib.hid (HL3.out.step hb)
  replace HS := Lib.hid (HS.out.step hb)
  replace HM := Lib.hid (HM.out.step hb)
  replace HB := Lib.hid (HB.out.trans (hb.mono HB.out.size))
  clear hb hi
  go_wp2_with fail
  refine (thrown52_c _).mono ?_
  rintro e w9 ⟨rfl, hi, hb⟩
  have HT3 := Lib.hid hi
  replace HA3 := Lib.hid (HA3.out.step hb)
  replace HL3 := Lib.hid (HL3.out.step hb)
  replace HS := Lib.hid (HS.out.step hb)
  replace HM := Lib.hid (HM.out.step hb)
  replace HB := Lib.hid (HB.out.trans (hb.mono HB.out.size))
  clear hb hi
  go_wp2_with fail
  refine (left21_c tenR A3 _ _ c3 10 4 allP thrL _ HL3.out ⟨hc3, hd3⟩ HA3.out ⟨by decide, by decide⟩ HT3.out ⟨by decide, by decide⟩).mono ?_
  rw [ten_left, ten_thr]
  rintro e w10 ⟨rfl, hb⟩
  replace HS := Lib.hid (HS.out.step hb)
  replace HM := Lib.hid (HM.out.step hb)
  replace HB := Lib.hid (HB.out.trans (hb.mono HB.out.size))
  clear hb HL3 HA3 HT3
  go_upto_region 4 with fail
  have hb : Below w10.heap.size w10 (w10.alloc (.cells #[.int .i64 3, .int .i64 6] 44)) := (Below.refl _ _).alloc (Nat.le_refl _) _
  have HX : Hid (At2 (w10.alloc (.cells #[.int .i64 3, .int .i64 6] 44)) w10.heap.size 44 3 6) := World.alloc_heap_new _ _
  replace HS := Lib.hid (HS.out.step hb)
  replace HM := Lib.hid (HM.out.step hb)
  replace HB := Lib.hid (HB.out.trans (hb.mono HB.out.size))
  clear hb
  skip
  generalize (w10.alloc (.cells #[.int .i64 3, .int .i64 6] 44)) = x10 at *
  generalize w10.heap.size = g10 at *
  go_wp2_with fail
  refine (ten50_c _).mono ?_
  rintro e w11 ⟨A4, c4, rfl, ⟨hl4, hc4, hd4⟩, hb⟩
  have HL4 := Lib.hid hl4
  replace HS := Lib.hid (HS.out.step hb)
  replace HM := Lib.hid (HM.out.step hb)
  replace HX := Lib.hid (HX.out.step hb)
  replace HB := Lib.hid (HB.out.trans (hb.mono HB.out.size))
  clear hb hl4
  go_wp2_with fail
  have hb : Below w11.heap.size w11 (w11.alloc (.cells #[.int .i64 1, .int .i64 3, .int .i64 6] 3)) := (Below.refl _ _).alloc (Nat.le_refl _) _
  have HI4 := Lib.hid (ints_lit w11 [1, 3, 6] #[.int .i64 1, .int .i64 3, .int .i64 6] rfl)
  replace HL4 := Lib.hid (HL4.out.step hb)
  replace HS := Lib.hid (HS.out.step hb)
  replace HM := Lib.hid (HM.out.step hb)
  replace HX := Lib.hid (HX.out.step hb)
  replace HB := Lib.hid (HB.out.trans (hb.mono HB.out.size))
  clear hb
  generalize hx : (w11.alloc (.cells #[.int .i64 1, .int .i64 3, .int .i64 6] 3)) = x11 at *
  clear hx
  obtain ⟨g4, hg4⟩ : ∃ g, g = w11.heap.size := ⟨_, rfl⟩
  rw [← hg4] at HI4
  simp only [← hg4]
  clear hg4
  refine (convert_c tenR A4 _ c4 3 [1, 3, 6] false _ HL4.out ⟨hc4, hd4⟩ HI4.out ⟨by decide, by decide⟩).mono ?_
  rw [ten_conv.1, ten_conv.2]
  rintro e w12 ⟨rfl, hb⟩
  replace HS := Lib.hid (HS.out.step hb)
  replace HM := Lib.hid (HM.out.step hb)
  replace HX := Lib.hid (HX.out.step hb)
  replace HB := Lib.hid (HB.out.trans (hb.mono HB.out.size))
  clear hb HL4 HI4
  go_upto_region 5 with fail
  have hb : Below w12.heap.size w12 (w12.alloc (.cells #[.int .i64 14, .int .i64 1] 51)) := (Below.refl _ _).alloc (Nat.le_refl _) _
  have HY : Hid (At2 (w12.alloc (.cells #[.int .i64 14, .int .i64 1] 51)) w12.heap.size 51 14 1) := World.alloc_heap_new _ _
  replace HS := Lib.hid (HS.out.step hb)
  replace HM := Lib.hid (HM.out.step hb)
  replace HX := Lib.hid (HX.out.step hb)
  replace HB := Lib.hid (HB.out.trans (hb.mono HB.out.size))
  clear hb
  generalize (w12.alloc (.cells #[.int .i64 14, .int .i64 1] 51)) = x12 at *
  generalize w12.heap.size = g12 at *
  go_wp2_with fail
  have hb : Below x12.heap.size x12 (x12.alloc (.cells #[.int .i64 0, .int .i64 1, .int .i64 2, .int .i64 8] 3)) := (Below.refl _ _).alloc (Nat.le_refl _) _
  have HI6 := Lib.hid (ints_lit x12 [0, 1, 2, 8] #[.int .i64 0, .int .i64 1, .int .i64 2, .int .i64 8] rfl)
  replace HS := Lib.hid (HS.out.step hb)
  replace HM := Lib.hid (HM.out.step hb)
  replace HX := Lib.hid (HX.out.step hb)
  replace HY := Lib.hid (HY.out.step hb)
  replace HB := Lib.hid (HB.out.trans (hb.mono HB.out.size))
  clear hb
  generalize hx : (x12.alloc (.cells #[.int .i64 0, .int .i64 1, .int .i64 2, .int .i64 8] 3)) = y6 at *
  clear hx
  obtain ⟨g6, hg6⟩ : ∃ g, g = x12.heap.size := ⟨_, rfl⟩
  rw [← hg6] at HI6
  simp only [← hg6]
  clear hg6
  refine (ints_c As _ [0, 1, 2, 8] [0, 1, 2, 8] cs 4 _ HS.out HI6.out ⟨hs1, hs2⟩ ⟨by decide, by decide⟩).mono ?_
  rw [show eqB [0, 1, 2, 8] [0, 1, 2, 8] = true from by decide]
  rintro e z6 ⟨rfl, nq6, rfl⟩
  have hb : Below y6.heap.size y6 (y6.drewN nq6) := below_drewN (Below.refl _ _) _
  replace HS := Lib.hid (HS.out.step hb)
  replace HM := Lib.hid (HM.out.step hb)
  replace HX := Lib.hid (HX.out.step hb)
  replace HY := Lib.hid (HY.out.step hb)
  replace HB := Lib.hid (HB.out.trans (hb.mono HB.out.size))
  clear hb HI6
  generalize y6.drewN nq6 = x13 at *
  go_wp2_with fail
  have hb : Below x13.heap.size x13 (x13.alloc (.cells #[.int .i64 0, .int .i64 1, .int .i64 2, .int .i64 3, .int .i64 4, .int .i64 5, .int .i64 6, .int .i64 8] 3)) := (Below.refl _ _).alloc (Nat.le_refl _) _
  have HI7 := Lib.hid (ints_lit x13 [0, 1, 2, 3, 4, 5, 6, 8] #[.int .i64 0, .int .i64 1, .int .i64 2, .int .i64 3, .int .i64 4, .int .i64 5, .int .i64 6, .int .i64 8] rfl)
  replace HS := Lib.hid (HS.out.step hb)
  replace HM := Lib.hid (HM.out.step hb)
  replace HX := Lib.hid (HX.out.step hb)
  replace HY := Lib.hid (HY.out.step hb)
  replace HB := Lib.hid (HB.out.trans (hb.mono HB.out.size))
  clear hb
  generalize hx : (x13.alloc (.cells #[.int .i64 0, .int .i64 1, .int .i64 2, .int .i64 3, .int .i64 4, .int .i64 5, .int .i64 6, .int .i64 8] 3)) = y7 at *
  clear hx
  obtain ⟨g7, hg7⟩ : ∃ g, g = x13.heap.size := ⟨_, rfl⟩
  rw [← hg7] at HI7
  simp only [← hg7]
  clear hg7
  refine (ints_c Am _ [0, 1, 2, 3, 4, 5, 6, 8] [0, 1, 2, 3, 4, 5, 6, 8] cm 8 _ HM.out HI7.out ⟨hm1, hm2⟩ ⟨by decide, by decide⟩).mono ?_
  rw [show eqB [0, 1, 2, 3, 4, 5, 6, 8] [0, 1, 2, 3, 4, 5, 6, 8] = true from by decide]
  rintro e z7 ⟨rfl, nq7, rfl⟩
  have hb : Below y7.heap.size y7 (y7.drewN nq7) := below_drewN (Below.refl _ _) _
  replace HS := Lib.hid (HS.out.step hb)
  replace HM := Lib.hid (HM.out.step hb)
  replace HX := Lib.hid (HX.out.step hb)
  replace HY := Lib.hid (HY.out.step hb)
  replace HB := Lib.hid (HB.out.trans (hb.mono HB.out.size))
  clear hb HI7
  generalize y7.drewN nq7 = x14 at *
  obtain ⟨⟨b0, b1⟩, -⟩ := HX.out.cells
  obtain ⟨⟨d0, d1⟩, -⟩ := HY.out.cells
  go_wp2_with fail
  go_ret
  exact ⟨rfl, HB.out⟩
end Go.Proofs.Ytpekajnjjhibjaa
