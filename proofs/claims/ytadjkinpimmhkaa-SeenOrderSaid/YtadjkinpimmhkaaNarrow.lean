/-
  The law's narrower: what is seen with more words is within what is seen with fewer.
-/
import Derived.Test.YtadjkinpimmhkaaExplainsW
import Derived.Test.YtadjkinpimmhkaaChosen
import Derived.Test.YtadjkinpimmhkaaMoreM
import Derived.Test.YtadjkinpimmhkaaEq41
namespace Go.Proofs.Ytadjkinpimmhkaa
open Go.RowKit
set_option linter.unusedSimpArgs false
set_option linter.unusedVariables false

def RngC2 (m : Nat) (r s : List (Int × Int)) : Prop := r.length = 2 * m ∧ s.length = 2 * m ∧ ∀ i, i < 2 * m → (px s i).1 ≤ (px r i).1 ∧ (px r i).2 ≤ (px s i).2
set_option maxRecDepth 100000 in
set_option maxHeartbeats 16000000 in
theorem narrower_c (A A2 At : Option Addr) (ws vs : List Wd) (ts : List Int) (c c2 ct m : Nat) (w : World) (hw : Wds w.heap.size w A ws) (hv : Wds w.heap.size w A2 vs) (ht : Ints w.heap.size w At ts) (hc : ws.length ≤ c ∧ c ≤ 9223372036854775807) (hc2 : vs.length ≤ c2 ∧ c2 ≤ 9223372036854775807) (hct : ts.length ≤ ct ∧ ct ≤ 9223372036854775807)
    (htl : ts.length ≤ 1000) (he1 : exErr (m : Int) ws ts = 0) (he2 : exErr (m : Int) vs ts = 0) (hn : Nar m ws vs (offT ts)) :
    Calls Try.prog 43 #[.agg #[.int .i64 (m : Int), .slice A ws.length c], .agg #[.int .i64 (m : Int), .slice A2 vs.length c2], .slice At ts.length ct] w (Ans w (.bool true)) := by
  have hb0 : Below w.heap.size w ((w.alloc (.cells #[.int .i64 (m : Int), .slice A ws.length c] 24)).alloc (.cells #[.int .i64 (m : Int), .slice A2 vs.length c2] 24)) := ((Below.refl _ _).alloc (Nat.le_refl _) _).alloc (by simp) _
  have k0 : ((w.alloc (.cells #[.int .i64 (m : Int), .slice A ws.length c] 24)).alloc (.cells #[.int .i64 (m : Int), .slice A2 vs.length c2] 24)).cell? ⟨w.heap.size, 0, none⟩ = some (.int .i64 (m : Int)) := by go_simp
  have k1 : ((w.alloc (.cells #[.int .i64 (m : Int), .slice A ws.length c] 24)).alloc (.cells #[.int .i64 (m : Int), .slice A2 vs.length c2] 24)).cell? ⟨w.heap.size, 1, none⟩ = some (.slice A ws.length c) := by go_simp
  have k2 : ((w.alloc (.cells #[.int .i64 (m : Int), .slice A ws.length c] 24)).alloc (.cells #[.int .i64 (m : Int), .slice A2 vs.length c2] 24)).cell? ⟨w.heap.size + 1, 0, none⟩ = some (.int .i64 (m : Int)) := by go_simp
  have k3 : ((w.alloc (.cells #[.int .i64 (m : Int), .slice A ws.length c] 24)).alloc (.cells #[.int .i64 (m : Int), .slice A2 vs.length c2] 24)).cell? ⟨w.heap.size + 1, 1, none⟩ = some (.slice A2 vs.length c2) := by go_simp
  have HB := Lib.hid hb0
  have HW := Lib.hid (hw.step hb0)
  have HV := Lib.hid (hv.step hb0)
  have HT := Lib.hid (ht.step hb0)
  have hl1 := (askOk (exOk he1).1).1
  have hx1 := (exOk he1).2
  have hl2 := (askOk (exOk he2).1).1
  obtain ⟨h30, hf1, hf5, hok⟩ := laneOk hl1
  obtain ⟨h30b, -, -, hokb⟩ := laneOk hl2
  have hm5 : m ≤ 5 := by omega
  have HE1 := Lib.hid he1
  have HE2 := Lib.hid he2
  have HMN := Lib.hid (nar_many hn m (Nat.le_refl _))
  have HCN := Lib.hid (nar_cnt hn hx1 m (Nat.le_refl _))
  have HSN := Lib.hid (nar_sure hn hx1 m (Nat.le_refl _))
  have HRN : Hid (RngC2 m (rangesL ws (offT ts) m) (rangesL vs (offT ts) m)) := ⟨rangesL_len _ _ _, rangesL_len _ _ _, fun i hi => nar_ranges hn hx1 hi⟩
  clear hb0 hw hv ht hl1 hl2 hx1 hok hokb he1 he2 hn
  go_enter Try.func43, Try.ntmps43
  go_wp2_with fail
  generalize ((w.alloc (.cells #[.int .i64 (m : Int), .slice A ws.length c] 24)).alloc (.cells #[.int .i64 (m : Int), .slice A2 vs.length c2] 24)) = W0 at *
  go_wp2_with fail
  refine (lane_c A ws c (m : Int) _ HW.out hc (by omega)).mono ?_
  rintro e y2 ⟨Al1, cl1, rfl, hO1, hb⟩
  replace HW := Lib.hid (HW.out.step hb)
  replace HV := Lib.hid (HV.out.step hb)
  replace HT := Lib.hid (HT.out.step hb)
  replace k0 := cell_of_ans hb k0
  replace k1 := cell_of_ans hb k1
  replace k2 := cell_of_ans hb k2
  replace k3 := cell_of_ans hb k3
  replace HB := Lib.hid (HB.out.trans (hb.mono HB.out.size))
  clear hb
  obtain ⟨hq1, hqq1, hO1⟩ := hO1.wds
  have HL1 := Lib.hid hO1
  clear hO1
  go_wp2_with fail
  refine (list_c At ts ct _ HT.out (Nat.le_refl _) (by omega)).mono ?_
  rintro e y4 ⟨At3, ct3, rfl, hO3, hb⟩
  replace HW := Lib.hid (HW.out.step hb)
  replace HV := Lib.hid (HV.out.step hb)
  replace HT := Lib.hid (HT.out.step hb)
  replace k0 := cell_of_ans hb k0
  replace k1 := cell_of_ans hb k1
  replace k2 := cell_of_ans hb k2
  replace k3 := cell_of_ans hb k3
  replace HL1 := Lib.hid (HL1.out.step hb)
  replace HB := Lib.hid (HB.out.trans (hb.mono HB.out.size))
  clear hb
  obtain ⟨hq3, hqq3, hO3⟩ := isInts_parts (ownsRow_isInts hO3)
  have HT3 := Lib.hid hO3
  clear hO3
  go_wp2_with fail
  refine (ranges_ok Al1 At3 ws ts cl1 ct3 (m : Int) _ HL1.out HT3.out ⟨hq1, hqq1⟩ ⟨hq3, hqq3⟩ HE1.out).mono ?_
  rintro e y5 ⟨Ar1, cr1, rfl, hcr1, hR, hb⟩
  replace HW := Lib.hid (HW.out.step hb)
  replace HV := Lib.hid (HV.out.step hb)
  replace HT := Lib.hid (HT.out.step hb)
  replace k0 := cell_of_ans hb k0
  replace k1 := cell_of_ans hb k1
  replace k2 := cell_of_ans hb k2
  replace k3 := cell_of_ans hb k3
  replace HL1 := Lib.hid (HL1.out.step hb)
  replace HT3 := Lib.hid (HT3.out.step hb)
  replace HB := Lib.hid (HB.out.trans (hb.mono HB.out.size))
  clear hb
  clear HL1 HT3
  have HG1 := Lib.hid hR
  clear hR
  rw [Int.toNat_natCast] at *
  generalize rangesL ws (offT ts) m = ra at *
  generalize cntLo ws (offT ts) m = la at *
  generalize cntHi ws (offT ts) m = ha at *
  go_upto_region 2 with fail
  have hb : Below y5.heap.size y5 (y5.alloc (.cells #[.int .i64 la, .int .i64 ha] 41)) := (Below.refl _ _).alloc (Nat.le_refl _) _
  have u0 : (y5.alloc (.cells #[.int .i64 la, .int .i64 ha] 41)).cell? ⟨y5.heap.size, 0, none⟩ = some (.int .i64 la) := by simp
  have u1 : (y5.alloc (.cells #[.int .i64 la, .int .i64 ha] 41)).cell? ⟨y5.heap.size, 1, none⟩ = some (.int .i64 ha) := by simp
  replace HW := Lib.hid (HW.out.step hb)
  replace HV := Lib.hid (HV.out.step hb)
  replace HT := Lib.hid (HT.out.step hb)
  replace k0 := cell_of_ans hb k0
  replace k1 := cell_of_ans hb k1
  replace k2 := cell_of_ans hb k2
  replace k3 := cell_of_ans hb k3
  replace HG1 := Lib.hid (HG1.out.step hb)
  replace HB := Lib.hid (HB.out.trans (hb.mono HB.out.size))
  clear hb
  generalize (y5.alloc (.cells #[.int .i64 la, .int .i64 ha] 41)) = y6 at *
  generalize y5.heap.size = qy6 at *
  go_wp2_with fail
  refine (lane_c A2 vs c2 (m : Int) _ HV.out hc2 (by omega)).mono ?_
  rintro e y8 ⟨Al7, cl7, rfl, hO7, hb⟩
  replace HW := Lib.hid (HW.out.step hb)
  replace HV := Lib.hid (HV.out.step hb)
  replace HT := Lib.hid (HT.out.step hb)
  replace k0 := cell_of_ans hb k0
  replace k1 := cell_of_ans hb k1
  replace k2 := cell_of_ans hb k2
  replace k3 := cell_of_ans hb k3
  replace HG1 := Lib.hid (HG1.out.step hb)
  replace u0 := cell_of_ans hb u0
  replace u1 := cell_of_ans hb u1
  replace HB := Lib.hid (HB.out.trans (hb.mono HB.out.size))
  clear hb
  obtain ⟨hq7, hqq7, hO7⟩ := hO7.wds
  have HL7 := Lib.hid hO7
  clear hO7
  go_wp2_with fail
  refine (list_c At ts ct _ HT.out (Nat.le_refl _) (by omega)).mono ?_
  rintro e y10 ⟨At9, ct9, rfl, hO9, hb⟩
  replace HW := Lib.hid (HW.out.step hb)
  replace HV := Lib.hid (HV.out.step hb)
  replace HT := Lib.hid (HT.out.step hb)
  replace k0 := cell_of_ans hb k0
  replace k1 := cell_of_ans hb k1
  replace k2 := cell_of_ans hb k2
  replace k3 := cell_of_ans hb k3
  replace HG1 := Lib.hid (HG1.out.step hb)
  replace u0 := cell_of_ans hb u0
  replace u1 := cell_of_ans hb u1
  replace HL7 := Lib.hid (HL7.out.step hb)
  replace HB := Lib.hid (HB.out.trans (hb.mono HB.out.size))
  clear hb
  obtain ⟨hq9, hqq9, hO9⟩ := isInts_parts (ownsRow_isInts hO9)
  have HT9 := Lib.hid hO9
  clear hO9
  go_wp2_with fail
  refine (ranges_ok Al7 At9 vs ts cl7 ct9 (m : Int) _ HL7.out HT9.out ⟨hq7, hqq7⟩ ⟨hq9, hqq9⟩ HE2.out).mono ?_
  rintro e y11 ⟨Ar2, cr2, rfl, hcr2, hR, hb⟩
  replace HW := Lib.hid (HW.out.step hb)
  replace HV := Lib.hid (HV.out.step hb)
  replace HT := Lib.hid (HT.out.step hb)
  replace k0 := cell_of_ans hb k0
  replace k1 := cell_of_ans hb k1
  replace k2 := cell_of_ans hb k2
  replace k3 := cell_of_ans hb k3
  replace HG1 := Lib.hid (HG1.out.step hb)
  replace u0 := cell_of_ans hb u0
  replace u1 := cell_of_ans hb u1
  replace HL7 := Lib.hid (HL7.out.step hb)
  replace HT9 := Lib.hid (HT9.out.step hb)
  replace HB := Lib.hid (HB.out.trans (hb.mono HB.out.size))
  clear hb
  clear HL7 HT9
  have HG2 := Lib.hid hR
  clear hR
  rw [Int.toNat_natCast] at *
  generalize rangesL vs (offT ts) m = rb at *
  generalize cntLo vs (offT ts) m = lb at *
  generalize cntHi vs (offT ts) m = hb2 at *
  go_upto_region 3 with fail
  have hb : Below y11.heap.size y11 (y11.alloc (.cells #[.int .i64 lb, .int .i64 hb2] 41)) := (Below.refl _ _).alloc (Nat.le_refl _) _
  have u2 : (y11.alloc (.cells #[.int .i64 lb, .int .i64 hb2] 41)).cell? ⟨y11.heap.size, 0, none⟩ = some (.int .i64 lb) := by simp
  have u3 : (y11.alloc (.cells #[.int .i64 lb, .int .i64 hb2] 41)).cell? ⟨y11.heap.size, 1, none⟩ = some (.int .i64 hb2) := by simp
  replace HW := Lib.hid (HW.out.step hb)
  replace HV := Lib.hid (HV.out.step hb)
  replace HT := Lib.hid (HT.out.step hb)
  replace k0 := cell_of_ans hb k0
  replace k1 := cell_of_ans hb k1
  replace k2 := cell_of_ans hb k2
  replace k3 := cell_of_ans hb k3
  replace HG1 := Lib.hid (HG1.out.step hb)
  replace u0 := cell_of_ans hb u0
  replace u1 := cell_of_ans hb u1
  replace HG2 := Lib.hid (HG2.out.step hb)
  replace HB := Lib.hid (HB.out.trans (hb.mono HB.out.size))
  clear hb
  generalize (y11.alloc (.cells #[.int .i64 lb, .int .i64 hb2] 41)) = y12 at *
  generalize y11.heap.size = qy12 at *
  go_wp2_with fail
  refine (lane_c A ws c (m : Int) _ HW.out hc (by omega)).mono ?_
  rintro e y14 ⟨Al13, cl13, rfl, hO13, hb⟩
  replace HW := Lib.hid (HW.out.step hb)
  replace HV := Lib.hid (HV.out.step hb)
  replace HT := Lib.hid (HT.out.step hb)
  replace k0 := cell_of_ans hb k0
  replace k1 := cell_of_ans hb k1
  replace k2 := cell_of_ans hb k2
  replace k3 := cell_of_ans hb k3
  replace HG1 := Lib.hid (HG1.out.step hb)
  replace u0 := cell_of_ans hb u0
  replace u1 := cell_of_ans hb u1
  replace HG2 := Lib.hid (HG2.out.step hb)
  replace u2 := cell_of_ans hb u2
  replace u3 := cell_of_ans hb u3
  replace HB := Lib.hid (HB.out.trans (hb.mono HB.out.size))
  clear hb
  obtain ⟨hq13, hqq13, hO13⟩ := hO13.wds
  have HL13 := Lib.hid hO13
  clear hO13
  go_wp2_with fail
  refine (list_c At ts ct _ HT.out (Nat.le_refl _) (by omega)).mono ?_
  rintro e y16 ⟨At15, ct15, rfl, hO15, hb⟩
  replace HW := Lib.hid (HW.out.step hb)
  replace HV := Lib.hid (HV.out.step hb)
  replace HT := Lib.hid (HT.out.step hb)
  replace k0 := cell_of_ans hb k0
  replace k1 := cell_of_ans hb k1
  replace k2 := cell_of_ans hb k2
  replace k3 := cell_of_ans hb k3
  replace HG1 := Lib.hid (HG1.out.step hb)
  replace u0 := cell_of_ans hb u0
  replace u1 := cell_of_ans hb u1
  replace HG2 := Lib.hid (HG2.out.step hb)
  replace u2 := cell_of_ans hb u2
  replace u3 := cell_of_ans hb u3
  replace HL13 := Lib.hid (HL13.out.step hb)
  replace HB := Lib.hid (HB.out.trans (hb.mono HB.out.size))
  clear hb
  obtain ⟨hq15, hqq15, hO15⟩ := isInts_parts (ownsRow_isInts hO15)
  have HT15 := Lib.hid hO15
  clear hO15
  go_wp2_with fail
  refine (sure_ok Al13 At15 ws ts cl13 ct15 (m : Int) _ HL13.out HT15.out ⟨hq13, hqq13⟩ ⟨hq15, hqq15⟩ HE1.out).mono ?_
  rintro e y17 ⟨Ap1, cp1, rfl, -, hb⟩
  replace HW := Lib.hid (HW.out.step hb)
  replace HV := Lib.hid (HV.out.step hb)
  replace HT := Lib.hid (HT.out.step hb)
  replace k0 := cell_of_ans hb k0
  replace k1 := cell_of_ans hb k1
  replace k2 := cell_of_ans hb k2
  replace k3 := cell_of_ans hb k3
  replace HG1 := Lib.hid (HG1.out.step hb)
  replace u0 := cell_of_ans hb u0
  replace u1 := cell_of_ans hb u1
  replace HG2 := Lib.hid (HG2.out.step hb)
  replace u2 := cell_of_ans hb u2
  replace u3 := cell_of_ans hb u3
  replace HL13 := Lib.hid (HL13.out.step hb)
  replace HT15 := Lib.hid (HT15.out.step hb)
  replace HB := Lib.hid (HB.out.trans (hb.mono HB.out.size))
  clear hb
  clear HL13 HT15
  rw [Int.toNat_natCast] at *
  generalize (sureL ws (offT ts) m).length = sa at *
  go_wp2_with fail
  refine (lane_c A2 vs c2 (m : Int) _ HV.out hc2 (by omega)).mono ?_
  rintro e y19 ⟨Al18, cl18, rfl, hO18, hb⟩
  replace HW := Lib.hid (HW.out.step hb)
  replace HV := Lib.hid (HV.out.step hb)
  replace HT := Lib.hid (HT.out.step hb)
  replace k0 := cell_of_ans hb k0
  replace k1 := cell_of_ans hb k1
  replace k2 := cell_of_ans hb k2
  replace k3 := cell_of_ans hb k3
  replace HG1 := Lib.hid (HG1.out.step hb)
  replace u0 := cell_of_ans hb u0
  replace u1 := cell_of_ans hb u1
  replace HG2 := Lib.hid (HG2.out.step hb)
  replace u2 := cell_of_ans hb u2
  replace u3 := cell_of_ans hb u3
  replace HB := Lib.hid (HB.out.trans (hb.mono HB.out.size))
  clear hb
  obtain ⟨hq18, hqq18, hO18⟩ := hO18.wds
  have HL18 := Lib.hid hO18
  clear hO18
  go_wp2_with fail
  refine (list_c At ts ct _ HT.out (Nat.le_refl _) (by omega)).mono ?_
  rintro e y21 ⟨At20, ct20, rfl, hO20, hb⟩
  replace HW := Lib.hid (HW.out.step hb)
  replace HV := Lib.hid (HV.out.step hb)
  replace HT := Lib.hid (HT.out.step hb)
  replace k0 := cell_of_ans hb k0
  replace k1 := cell_of_ans hb k1
  replace k2 := cell_of_ans hb k2
  replace k3 := cell_of_ans hb k3
  replace HG1 := Lib.hid (HG1.out.step hb)
  replace u0 := cell_of_ans hb u0
  replace u1 := cell_of_ans hb u1
  replace HG2 := Lib.hid (HG2.out.step hb)
  replace u2 := cell_of_ans hb u2
  replace u3 := cell_of_ans hb u3
  replace HL18 := Lib.hid (HL18.out.step hb)
  replace HB := Lib.hid (HB.out.trans (hb.mono HB.out.size))
  clear hb
  obtain ⟨hq20, hqq20, hO20⟩ := isInts_parts (ownsRow_isInts hO20)
  have HT20 := Lib.hid hO20
  clear hO20
  go_wp2_with fail
  refine (sure_ok Al18 At20 vs ts cl18 ct20 (m : Int) _ HL18.out HT20.out ⟨hq18, hqq18⟩ ⟨hq20, hqq20⟩ HE2.out).mono ?_
  rintro e y22 ⟨Ap2, cp2, rfl, -, hb⟩
  replace HW := Lib.hid (HW.out.step hb)
  replace HV := Lib.hid (HV.out.step hb)
  replace HT := Lib.hid (HT.out.step hb)
  replace k0 := cell_of_ans hb k0
  replace k1 := cell_of_ans hb k1
  replace k2 := cell_of_ans hb k2
  replace k3 := cell_of_ans hb k3
  replace HG1 := Lib.hid (HG1.out.step hb)
  replace u0 := cell_of_ans hb u0
  replace u1 := cell_of_ans hb u1
  replace HG2 := Lib.hid (HG2.out.step hb)
  replace u2 := cell_of_ans hb u2
  replace u3 := cell_of_ans hb u3
  replace HL18 := Lib.hid (HL18.out.step hb)
  replace HT20 := Lib.hid (HT20.out.step hb)
  replace HB := Lib.hid (HB.out.trans (hb.mono HB.out.size))
  clear hb
  clear HL18 HT20
  rw [Int.toNat_natCast] at *
  generalize (sureL vs (offT ts) m).length = sb at *
  go_wp2_with fail
  refine (lane_c A ws c (m : Int) _ HW.out hc (by omega)).mono ?_
  rintro e y24 ⟨Al23, cl23, rfl, hO23, hb⟩
  replace HW := Lib.hid (HW.out.step hb)
  replace HV := Lib.hid (HV.out.step hb)
  replace HT := Lib.hid (HT.out.step hb)
  replace k0 := cell_of_ans hb k0
  replace k1 := cell_of_ans hb k1
  replace k2 := cell_of_ans hb k2
  replace k3 := cell_of_ans hb k3
  replace HG1 := Lib.hid (HG1.out.step hb)
  replace u0 := cell_of_ans hb u0
  replace u1 := cell_of_ans hb u1
  replace HG2 := Lib.hid (HG2.out.step hb)
  replace u2 := cell_of_ans hb u2
  replace u3 := cell_of_ans hb u3
  replace HB := Lib.hid (HB.out.trans (hb.mono HB.out.size))
  clear hb
  obtain ⟨hq23, hqq23, hO23⟩ := hO23.wds
  have HL23 := Lib.hid hO23
  clear hO23
  go_wp2_with fail
  refine (list_c At ts ct _ HT.out (Nat.le_refl _) (by omega)).mono ?_
  rintro e y26 ⟨At25, ct25, rfl, hO25, hb⟩
  replace HW := Lib.hid (HW.out.step hb)
  replace HV := Lib.hid (HV.out.step hb)
  replace HT := Lib.hid (HT.out.step hb)
  replace k0 := cell_of_ans hb k0
  replace k1 := cell_of_ans hb k1
  replace k2 := cell_of_ans hb k2
  replace k3 := cell_of_ans hb k3
  replace HG1 := Lib.hid (HG1.out.step hb)
  replace u0 := cell_of_ans hb u0
  replace u1 := cell_of_ans hb u1
  replace HG2 := Lib.hid (HG2.out.step hb)
  replace u2 := cell_of_ans hb u2
  replace u3 := cell_of_ans hb u3
  replace HL23 := Lib.hid (HL23.out.step hb)
  replace HB := Lib.hid (HB.out.trans (hb.mono HB.out.size))
  clear hb
  obtain ⟨hq25, hqq25, hO25⟩ := isInts_parts (ownsRow_isInts hO25)
  have HT25 := Lib.hid hO25
  clear hO25
  go_wp2_with fail
  refine (many_ok Al23 At25 ws ts cl23 ct25 (m : Int) _ HL23.out HT25.out ⟨hq23, hqq23⟩ ⟨hq25, hqq25⟩ HE1.out).mono ?_
  rintro e y27 ⟨rfl, hb⟩
  replace HW := Lib.hid (HW.out.step hb)
  replace HV := Lib.hid (HV.out.step hb)
  replace HT := Lib.hid (HT.out.step hb)
  replace k0 := cell_of_ans hb k0
  replace k1 := cell_of_ans hb k1
  replace k2 := cell_of_ans hb k2
  replace k3 := cell_of_ans hb k3
  replace HG1 := Lib.hid (HG1.out.step hb)
  replace u0 := cell_of_ans hb u0
  replace u1 := cell_of_ans hb u1
  replace HG2 := Lib.hid (HG2.out.step hb)
  replace u2 := cell_of_ans hb u2
  replace u3 := cell_of_ans hb u3
  replace HL23 := Lib.hid (HL23.out.step hb)
  replace HT25 := Lib.hid (HT25.out.step hb)
  replace HB := Lib.hid (HB.out.trans (hb.mono HB.out.size))
  clear hb
  clear HL23 HT25
  rw [Int.toNat_natCast] at *
  generalize manyP ws (offT ts) m = na at *
  go_wp2_with fail
  refine (lane_c A2 vs c2 (m : Int) _ HV.out hc2 (by omega)).mono ?_
  rintro e y29 ⟨Al28, cl28, rfl, hO28, hb⟩
  replace HW := Lib.hid (HW.out.step hb)
  replace HV := Lib.hid (HV.out.step hb)
  replace HT := Lib.hid (HT.out.step hb)
  replace k0 := cell_of_ans hb k0
  replace k1 := cell_of_ans hb k1
  replace k2 := cell_of_ans hb k2
  replace k3 := cell_of_ans hb k3
  replace HG1 := Lib.hid (HG1.out.step hb)
  replace u0 := cell_of_ans hb u0
  replace u1 := cell_of_ans hb u1
  replace HG2 := Lib.hid (HG2.out.step hb)
  replace u2 := cell_of_ans hb u2
  replace u3 := cell_of_ans hb u3
  replace HB := Lib.hid (HB.out.trans (hb.mono HB.out.size))
  clear hb
  obtain ⟨hq28, hqq28, hO28⟩ := hO28.wds
  have HL28 := Lib.hid hO28
  clear hO28
  go_wp2_with fail
  refine (list_c At ts ct _ HT.out (Nat.le_refl _) (by omega)).mono ?_
  rintro e y31 ⟨At30, ct30, rfl, hO30, hb⟩
  replace HW := Lib.hid (HW.out.step hb)
  replace HV := Lib.hid (HV.out.step hb)
  replace HT := Lib.hid (HT.out.step hb)
  replace k0 := cell_of_ans hb k0
  replace k1 := cell_of_ans hb k1
  replace k2 := cell_of_ans hb k2
  replace k3 := cell_of_ans hb k3
  replace HG1 := Lib.hid (HG1.out.step hb)
  replace u0 := cell_of_ans hb u0
  replace u1 := cell_of_ans hb u1
  replace HG2 := Lib.hid (HG2.out.step hb)
  replace u2 := cell_of_ans hb u2
  replace u3 := cell_of_ans hb u3
  replace HL28 := Lib.hid (HL28.out.step hb)
  replace HB := Lib.hid (HB.out.trans (hb.mono HB.out.size))
  clear hb
  obtain ⟨hq30, hqq30, hO30⟩ := isInts_parts (ownsRow_isInts hO30)
  have HT30 := Lib.hid hO30
  clear hO30
  go_wp2_with fail
  refine (many_ok Al28 At30 vs ts cl28 ct30 (m : Int) _ HL28.out HT30.out ⟨hq28, hqq28⟩ ⟨hq30, hqq30⟩ HE2.out).mono ?_
  rintro e y32 ⟨rfl, hb⟩
  replace HW := Lib.hid (HW.out.step hb)
  replace HV := Lib.hid (HV.out.step hb)
  replace HT := Lib.hid (HT.out.step hb)
  replace k0 := cell_of_ans hb k0
  replace k1 := cell_of_ans hb k1
  replace k2 := cell_of_ans hb k2
  replace k3 := cell_of_ans hb k3
  replace HG1 := Lib.hid (HG1.out.step hb)
  replace u0 := cell_of_ans hb u0
  replace u1 := cell_of_ans hb u1
  replace HG2 := Lib.hid (HG2.out.step hb)
  replace u2 := cell_of_ans hb u2
  replace u3 := cell_of_ans hb u3
  replace HL28 := Lib.hid (HL28.out.step hb)
  replace HT30 := Lib.hid (HT30.out.step hb)
  replace HB := Lib.hid (HB.out.trans (hb.mono HB.out.size))
  clear hb
  clear HL28 HT30
  rw [Int.toNat_natCast] at *
  generalize manyP vs (offT ts) m = nb at *
  obtain ⟨hlr, hls, hrr⟩ := HRN.out
  have HRR := Lib.hid hrr
  have hmn := HMN.out
  have hsn := HSN.out
  obtain ⟨hcn1, hcn2⟩ := HCN.out
  have hmni : decide ((na : Int) > (nb : Int)) = false := decide_eq_false (by omega)
  have hsni : decide ((sa : Int) < (sb : Int)) = false := decide_eq_false (by omega)
  have hmnj : decide (nb < na) = false := decide_eq_false (by omega)
  have hsnj : decide (sa < sb) = false := decide_eq_false (by omega)
  have hq1 : decide (la < lb) = false := decide_eq_false (by omega)
  have hq2 : decide (hb2 < ha) = false := decide_eq_false (by omega)
  have hlne : ((ra.length : Int) != (rb.length : Int)) = false := by simp; omega
  clear hrr
  have HLR := Lib.hid hlr
  have HLS := Lib.hid hls
  clear hlr hls hmn hsn hcn1 hcn2 HMN HSN HCN
  go_wp2_with fail
  clear hmni hsni hmnj hsnj hq1 hq2
  go_loopw [21] (fun i wr => ∃ k n : Nat, k ≤ ra.length ∧ i = .int .i64 k ∧ wr = y32.drewN n) (fun i _ => ra.length - (intOf i).toNat)
  case atStart => exact ⟨0, 0, by omega, rfl, rfl⟩
  case round =>
    obtain ⟨k, n, hk, rfl, rfl⟩ := hrel
    by_cases h1 : k < ra.length
    · obtain ⟨b1, o1, rfl, hb1, hc1⟩ := HG1.out (by omega)
      obtain ⟨b2, o2, rfl, hb2', hc2'⟩ := HG2.out (by have := HLR.out; have := HLS.out; omega)
      have hk2 : k < rb.length := by have := HLR.out; have := HLS.out; omega
      obtain ⟨c1, c2⟩ := hc1 k h1
      obtain ⟨c3, c4⟩ := hc2' k hk2
      obtain ⟨r1, r2⟩ := HRR.out k (by have := HLR.out; omega)
      have h1i : (k : Int) < (ra.length : Int) := by omega
      have h2i : (k : Int) < (rb.length : Int) := by omega
      generalize px ra k = pa at *
      generalize px rb k = pb at *
      have r3 : ¬ pa.1 < pb.1 := by omega
      have r4 : ¬ pa.2 > pb.2 := by omega
      clear hc1 hc2' r1 r2
      go_wp2_with fail
      go_quiet (fail)
      go_wp2_with fail
      go_roundw
      case rel =>
        have e1 : ((k : Int) + 1) = ((k + 1 : Nat) : Int) := by omega
        first
          | exact ⟨k + 1, _, by omega, by go_num, rfl⟩
          | (rw [e1]; exact ⟨_, _, _, _, _, _, _, _, _, _, _, _, _, _, _, _, _, _, _, _, _, _, _, _, _, _, _, _, _, _, _, _, ⟨k + 1, _, by omega, rfl, rfl⟩, rfl⟩)
      case measure =>
        first
          | (simp [intOf]; omega)
          | (show ra.length - ((k : Int) + 1).toNat < ra.length - (k : Int).toNat; omega)
    · have h1i : ¬ (k : Int) < (ra.length : Int) := by omega
      go_wp2_with fail
      go_ret
      exact ⟨rfl, below_drewN HB.out n⟩
end Go.Proofs.Ytadjkinpimmhkaa
