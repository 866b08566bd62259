/-
  The walk of the law SeenFewer.
-/
import Derived.Test.YtadjkinpimmhkaaWakes
import Derived.Test.YtadjkinpimmhkaaChosen
import Derived.Test.YtadjkinpimmhkaaMono
namespace Go.Proofs.Ytadjkinpimmhkaa
open Go.RowKit
set_option linter.unusedSimpArgs false
set_option linter.unusedVariables false

theorem bits_or (b d : Nat) (hb : b < 256) (hd : d < 256) : bits .or .u8 (b : Int) (d : Int) = ((b ||| d : Nat) : Int) := by
  have h := Nat.or_lt_two_pow (n := 8) hb hd
  show IntKind.u8.wrap ((BitVec.ofInt 8 (b : Int) ||| BitVec.ofInt 8 (d : Int)).toNat : Int) = _
  have e : ∀ n : Nat, n < 256 → (BitVec.ofInt 8 (n : Int)).toNat = n := fun n hn => by simp; omega
  rw [BitVec.toNat_or, e b hb, e d hd]
  simp only [IntKind.wrap, IntKind.bits, IntKind.signed]
  simp
  omega
theorem ask_zero {m : Nat} {ws : List Wd} {ts : List Int} (h : laneErr (m : Int) ws = 0) (hr : riseB ts = true) : askErr (m : Int) ws ts = 0 := by simp [askErr, h, hr]
theorem ex_zero {m : Nat} {ws : List Wd} {ts : List Int} (h : laneErr (m : Int) ws = 0) (hr : riseB ts = true) (hx : explB (m : Int) ws (offT ts) = true) : exErr (m : Int) ws ts = 0 := by simp [exErr, ask_zero h hr, hx]
theorem all4 : riseB [0, 1, 2, 3] = true := by decide +kernel
theorem le_or (b d : Nat) : leO (offT (chTo b 4)) (offT (chTo (b ||| d) 4)) := fun j hj h => by
  rw [chTo_off _ _ hj] at *
  rw [Nat.testBit_or, h]
  rfl
theorem ints4 (w : World) : Ints (w.alloc (.cells #[.int .i64 0, .int .i64 1, .int .i64 2, .int .i64 3] 3)).heap.size (w.alloc (.cells #[.int .i64 0, .int .i64 1, .int .i64 2, .int .i64 3] 3)) (some ⟨w.heap.size, 0, none⟩) [0, 1, 2, 3] := fun _ => ⟨w.heap.size, 0, rfl, by simp, fun k hk => by
  have hk4 : k < 4 := hk
  rcases (by omega : k = 0 ∨ k = 1 ∨ k = 2 ∨ k = 3) with rfl | rfl | rfl | rfl <;> simp [ix]⟩
theorem explains_z {m : Nat} {ws : List Wd} {ts : List Int} (A At : Option Addr) (c ct : Nat) (w : World) (hw : Wds w.heap.size w A ws) (ht : Ints w.heap.size w At ts) (hc : ws.length ≤ c ∧ c ≤ 9223372036854775807) (hct : ts.length ≤ ct ∧ ct ≤ 9223372036854775807) (h : laneErr (m : Int) ws = 0) (hr : riseB ts = true) :
    Calls Try.prog 21 #[.agg #[.int .i64 (m : Int), .slice A ws.length c], .slice At ts.length ct] w (Ans w (.tuple #[.bool (explB (m : Int) ws (offT ts)), .int .i64 0])) := by
  have h1 := explains_c A At ws ts c ct (m : Int) w hw ht hc hct
  rw [ask_zero h hr] at h1
  simpa using h1
def RngC (m : Nat) (r s : List (Int × Int)) : Prop := r.length = 2 * m ∧ s.length = 2 * m ∧ ∀ i, i < 2 * m → (px s i).1 ≤ (px r i).1 ∧ (px r i).2 ≤ (px s i).2

set_option maxRecDepth 100000 in
set_option maxHeartbeats 16000000 in
theorem seenFewer_c (A : Option Addr) (ws : List Wd) (c : Nat) (frn : Int) (bi di : Nat) (w : World) (hw : Wds w.heap.size w A ws) (hc : ws.length ≤ c ∧ c ≤ 9223372036854775807) (hbi : bi < 256) (hdi : di < 256) :
    Calls Try.prog 6 #[.agg #[.int .i64 frn, .slice A ws.length c], .int .u8 (bi : Int), .int .u8 (di : Int)] w (Ans w (.bool true)) := by
  have hb0 : Below w.heap.size w (w.alloc (.cells #[.int .i64 frn, .slice A ws.length c] 24)) := (Below.refl _ _).alloc (Nat.le_refl _) _
  have k0 : (w.alloc (.cells #[.int .i64 frn, .slice A ws.length c] 24)).cell? ⟨w.heap.size, 0, none⟩ = some (.int .i64 frn) := by simp
  have k1 : (w.alloc (.cells #[.int .i64 frn, .slice A ws.length c] 24)).cell? ⟨w.heap.size, 1, none⟩ = some (.slice A ws.length c) := by simp
  have HB := Lib.hid hb0
  have HW := Lib.hid (hw.step hb0)
  have HWK := Lib.hid wakes_c
  clear hb0 hw
  go_enter Try.func6, Try.ntmps6
  go_wp2_with fail
  generalize (w.alloc (.cells #[.int .i64 frn, .slice A ws.length c] 24)) = W0 at *
  have HRd := Lib.hid (ready_c A ws c frn W0 HW.out hc)
  cases hrd : decide (laneErr frn ws = 0)
  · rw [hrd] at HRd
    clear hrd
    refine (HRd.out).mono ?_
    rintro e y1 ⟨rfl, hb⟩
    replace HW := Lib.hid (HW.out.step hb)
    replace k0 := cell_of_ans hb k0
    replace k1 := cell_of_ans hb k1
    replace HB := Lib.hid (HB.out.trans (hb.mono HB.out.size))
    clear hb
    go_wp2_with fail
    refine (HWK.out _).mono ?_
    rintro e y2 ⟨rfl, hb⟩
    replace HW := Lib.hid (HW.out.step hb)
    replace k0 := cell_of_ans hb k0
    replace k1 := cell_of_ans hb k1
    replace HB := Lib.hid (HB.out.trans (hb.mono HB.out.size))
    clear hb
    go_wp2_with fail
    go_ret
    exact ⟨rfl, HB.out⟩
  · rw [hrd] at HRd
    have hle : laneErr frn ws = 0 := of_decide_eq_true hrd
    obtain ⟨h30, hf1, hf5, hok⟩ := laneOk hle
    obtain ⟨m, rfl⟩ : ∃ m : Nat, frn = (m : Int) := ⟨frn.toNat, by omega⟩
    have HLE := Lib.hid hle
    have HOK := Lib.hid hok
    have hm5 : m ≤ 5 := by omega
    clear hrd hle hok
    refine (HRd.out).mono ?_
    rintro e y3 ⟨rfl, hb⟩
    replace HW := Lib.hid (HW.out.step hb)
    replace k0 := cell_of_ans hb k0
    replace k1 := cell_of_ans hb k1
    replace HB := Lib.hid (HB.out.trans (hb.mono HB.out.size))
    clear hb
    have hor : bi ||| di < 256 := Nat.or_lt_two_pow (n := 8) hbi hdi
    have hob := bits_or bi di hbi hdi
    have HLO := Lib.hid (le_or bi di)
    go_wp2_with fail
    refine (chosen_c bi hbi _).mono ?_
    rintro e y4 ⟨AcA, ccA, rfl, hO, hb⟩
    replace HW := Lib.hid (HW.out.step hb)
    replace k0 := cell_of_ans hb k0
    replace k1 := cell_of_ans hb k1
    replace HB := Lib.hid (HB.out.trans (hb.mono HB.out.size))
    clear hb
    obtain ⟨hcA, hccA, hO⟩ := isInts_parts (ownsRow_isInts hO)
    have HCA := Lib.hid hO
    clear hO
    have hlA := chTo_len (bi) 4
    go_wp2_with fail
    refine (chosen_c (bi ||| di) hor _).mono ?_
    rintro e y5 ⟨AcB, ccB, rfl, hO, hb⟩
    replace HW := Lib.hid (HW.out.step hb)
    replace k0 := cell_of_ans hb k0
    replace k1 := cell_of_ans hb k1
    replace HCA := Lib.hid (HCA.out.step hb)
    replace HB := Lib.hid (HB.out.trans (hb.mono HB.out.size))
    clear hb
    obtain ⟨hcB, hccB, hO⟩ := isInts_parts (ownsRow_isInts hO)
    have HCB := Lib.hid hO
    clear hO
    have hlB := chTo_len ((bi ||| di)) 4
    have HRA := Lib.hid (chTo_rise bi)
    have HRB := Lib.hid (chTo_rise (bi ||| di))
    clear hob hor
    generalize chTo bi 4 = fa at *
    generalize chTo (bi ||| di) 4 = fb at *
    go_wp2_with fail
    refine (lane_c A ws c (m : Int) _ HW.out hc (by omega)).mono ?_
    rintro e y7 ⟨Al6, cl6, rfl, hO6, hb⟩
    replace HW := Lib.hid (HW.out.step hb)
    replace k0 := cell_of_ans hb k0
    replace k1 := cell_of_ans hb k1
    replace HCA := Lib.hid (HCA.out.step hb)
    replace HCB := Lib.hid (HCB.out.step hb)
    replace HB := Lib.hid (HB.out.trans (hb.mono HB.out.size))
    clear hb
    obtain ⟨hq6, hqq6, hO6⟩ := hO6.wds
    have HL6 := Lib.hid hO6
    clear hO6
    go_wp2_with fail
    refine (list_c AcA fa ccA _ HCA.out (Nat.le_refl _) (by omega)).mono ?_
    rintro e y9 ⟨At8, ct8, rfl, hO8, hb⟩
    replace HW := Lib.hid (HW.out.step hb)
    replace k0 := cell_of_ans hb k0
    replace k1 := cell_of_ans hb k1
    replace HCA := Lib.hid (HCA.out.step hb)
    replace HCB := Lib.hid (HCB.out.step hb)
    replace HL6 := Lib.hid (HL6.out.step hb)
    replace HB := Lib.hid (HB.out.trans (hb.mono HB.out.size))
    clear hb
    obtain ⟨hq8, hqq8, hO8⟩ := isInts_parts (ownsRow_isInts hO8)
    have HT8 := Lib.hid hO8
    clear hO8
    go_wp2_with fail
    refine (explains_z Al6 At8 cl6 ct8 _ HL6.out HT8.out ⟨hq6, hqq6⟩ ⟨hq8, hqq8⟩ HLE.out HRA.out).mono ?_
    rintro e y10 ⟨rfl, hb⟩
    replace HW := Lib.hid (HW.out.step hb)
    replace k0 := cell_of_ans hb k0
    replace k1 := cell_of_ans hb k1
    replace HCA := Lib.hid (HCA.out.step hb)
    replace HCB := Lib.hid (HCB.out.step hb)
    replace HL6 := Lib.hid (HL6.out.step hb)
    replace HT8 := Lib.hid (HT8.out.step hb)
    replace HB := Lib.hid (HB.out.trans (hb.mono HB.out.size))
    clear hb
    clear HL6 HT8
    go_wp2_with fail
    refine (lane_c A ws c (m : Int) _ HW.out hc (by omega)).mono ?_
    rintro e y12 ⟨Al11, cl11, rfl, hO11, hb⟩
    replace HW := Lib.hid (HW.out.step hb)
    replace k0 := cell_of_ans hb k0
    replace k1 := cell_of_ans hb k1
    replace HCA := Lib.hid (HCA.out.step hb)
    replace HCB := Lib.hid (HCB.out.step hb)
    replace HB := Lib.hid (HB.out.trans (hb.mono HB.out.size))
    clear hb
    obtain ⟨hq11, hqq11, hO11⟩ := hO11.wds
    have HL11 := Lib.hid hO11
    clear hO11
    go_wp2_with fail
    refine (list_c AcB fb ccB _ HCB.out (Nat.le_refl _) (by omega)).mono ?_
    rintro e y14 ⟨At13, ct13, rfl, hO13, hb⟩
    replace HW := Lib.hid (HW.out.step hb)
    replace k0 := cell_of_ans hb k0
    replace k1 := cell_of_ans hb k1
    replace HCA := Lib.hid (HCA.out.step hb)
    replace HCB := Lib.hid (HCB.out.step hb)
    replace HL11 := Lib.hid (HL11.out.step hb)
    replace HB := Lib.hid (HB.out.trans (hb.mono HB.out.size))
    clear hb
    obtain ⟨hq13, hqq13, hO13⟩ := isInts_parts (ownsRow_isInts hO13)
    have HT13 := Lib.hid hO13
    clear hO13
    go_wp2_with fail
    refine (explains_z Al11 At13 cl11 ct13 _ HL11.out HT13.out ⟨hq11, hqq11⟩ ⟨hq13, hqq13⟩ HLE.out HRB.out).mono ?_
    rintro e y15 ⟨rfl, hb⟩
    replace HW := Lib.hid (HW.out.step hb)
    replace k0 := cell_of_ans hb k0
    replace k1 := cell_of_ans hb k1
    replace HCA := Lib.hid (HCA.out.step hb)
    replace HCB := Lib.hid (HCB.out.step hb)
    replace HL11 := Lib.hid (HL11.out.step hb)
    replace HT13 := Lib.hid (HT13.out.step hb)
    replace HB := Lib.hid (HB.out.trans (hb.mono HB.out.size))
    clear hb
    clear HL11 HT13
    go_wp2_with fail
    refine (lane_c A ws c (m : Int) _ HW.out hc (by omega)).mono ?_
    rintro e y17 ⟨Al16, cl16, rfl, hO16, hb⟩
    replace HW := Lib.hid (HW.out.step hb)
    replace k0 := cell_of_ans hb k0
    replace k1 := cell_of_ans hb k1
    replace HCA := Lib.hid (HCA.out.step hb)
    replace HCB := Lib.hid (HCB.out.step hb)
    replace HB := Lib.hid (HB.out.trans (hb.mono HB.out.size))
    clear hb
    obtain ⟨hq16, hqq16, hO16⟩ := hO16.wds
    have HL16 := Lib.hid hO16
    clear hO16
    go_wp2_with fail
    have HI4 := Lib.hid (ints4 y17)
    have hb : Below y17.heap.size y17 (y17.alloc (.cells #[.int .i64 0, .int .i64 1, .int .i64 2, .int .i64 3] 3)) := (Below.refl _ _).alloc (Nat.le_refl _) _
    replace HW := Lib.hid (HW.out.step hb)
    replace k0 := cell_of_ans hb k0
    replace k1 := cell_of_ans hb k1
    replace HCA := Lib.hid (HCA.out.step hb)
    replace HCB := Lib.hid (HCB.out.step hb)
    replace HL16 := Lib.hid (HL16.out.step hb)
    replace HB := Lib.hid (HB.out.trans (hb.mono HB.out.size))
    clear hb
    generalize (y17.alloc (.cells #[.int .i64 0, .int .i64 1, .int .i64 2, .int .i64 3] 3)) = y18 at *
    generalize y17.heap.size = q4 at *
    refine (explains_z (ts := [0, 1, 2, 3]) Al16 (some ⟨q4, 0, none⟩) cl16 4 _ HL16.out HI4.out ⟨hq16, hqq16⟩ (by decide) HLE.out all4).mono ?_
    rintro e y19 ⟨rfl, hb⟩
    replace HW := Lib.hid (HW.out.step hb)
    replace k0 := cell_of_ans hb k0
    replace k1 := cell_of_ans hb k1
    replace HCA := Lib.hid (HCA.out.step hb)
    replace HCB := Lib.hid (HCB.out.step hb)
    replace HL16 := Lib.hid (HL16.out.step hb)
    replace HB := Lib.hid (HB.out.trans (hb.mono HB.out.size))
    clear hb
    clear HL16
    have hx4 : explB (m : Int) ws (offT [0, 1, 2, 3]) = true := ex_all HOK.out (by decide)
    rw [hx4]
    clear hx4 HI4
    have HMO : Hid (explB (m : Int) ws (offT fa) = true → explB (m : Int) ws (offT fb) = true) := fun h => expl_mono HOK.out HLO.out h
    cases hxa : explB (m : Int) ws (offT fa)
    · clear HMO
      generalize explB (m : Int) ws (offT fb) = xb at *
      clear hxa
      go_wp2_with fail
      refine (HWK.out _).mono ?_
      rintro e y20 ⟨rfl, hb⟩
      replace HW := Lib.hid (HW.out.step hb)
      replace k0 := cell_of_ans hb k0
      replace k1 := cell_of_ans hb k1
      replace HCA := Lib.hid (HCA.out.step hb)
      replace HCB := Lib.hid (HCB.out.step hb)
      replace HB := Lib.hid (HB.out.trans (hb.mono HB.out.size))
      clear hb
      go_wp2_with fail
      go_ret
      exact ⟨rfl, HB.out⟩
    have hxb := HMO.out hxa
    rw [hxb]
    have HEA := Lib.hid (ex_zero HLE.out HRA.out hxa)
    have HEB := Lib.hid (ex_zero HLE.out HRB.out hxb)
    have HMN := Lib.hid (many_mono HOK.out HLO.out m)
    have HCN := Lib.hid (cnt_mono HOK.out HLO.out hxa m (Nat.le_refl _))
    have HRN : Hid (RngC m (rangesL ws (offT fa) m) (rangesL ws (offT fb) m)) := ⟨rangesL_len _ _ _, rangesL_len _ _ _, fun i hi => ranges_mono HOK.out HLO.out hxa hi⟩
    clear hxa hxb HMO
    go_wp2_with fail
    refine (lane_c A ws c (m : Int) _ HW.out hc (by omega)).mono ?_
    rintro e y22 ⟨Al21, cl21, rfl, hO21, hb⟩
    replace HW := Lib.hid (HW.out.step hb)
    replace k0 := cell_of_ans hb k0
    replace k1 := cell_of_ans hb k1
    replace HCA := Lib.hid (HCA.out.step hb)
    replace HCB := Lib.hid (HCB.out.step hb)
    replace HB := Lib.hid (HB.out.trans (hb.mono HB.out.size))
    clear hb
    obtain ⟨hq21, hqq21, hO21⟩ := hO21.wds
    have HL21 := Lib.hid hO21
    clear hO21
    go_wp2_with fail
    refine (list_c AcA fa ccA _ HCA.out (Nat.le_refl _) (by omega)).mono ?_
    rintro e y24 ⟨At23, ct23, rfl, hO23, hb⟩
    replace HW := Lib.hid (HW.out.step hb)
    replace k0 := cell_of_ans hb k0
    replace k1 := cell_of_ans hb k1
    replace HCA := Lib.hid (HCA.out.step hb)
    replace HCB := Lib.hid (HCB.out.step hb)
    replace HL21 := Lib.hid (HL21.out.step hb)
    replace HB := Lib.hid (HB.out.trans (hb.mono HB.out.size))
    clear hb
    obtain ⟨hq23, hqq23, hO23⟩ := isInts_parts (ownsRow_isInts hO23)
    have HT23 := Lib.hid hO23
    clear hO23
    go_wp2_with fail
    refine (ranges_ok Al21 At23 ws fa cl21 ct23 (m : Int) _ HL21.out HT23.out ⟨hq21, hqq21⟩ ⟨hq23, hqq23⟩ HEA.out).mono ?_
    rintro e y25 ⟨ArA, crA, rfl, hcrA, hR, hb⟩
    replace HW := Lib.hid (HW.out.step hb)
    replace k0 := cell_of_ans hb k0
    replace k1 := cell_of_ans hb k1
    replace HCA := Lib.hid (HCA.out.step hb)
    replace HCB := Lib.hid (HCB.out.step hb)
    replace HL21 := Lib.hid (HL21.out.step hb)
    replace HT23 := Lib.hid (HT23.out.step hb)
    replace HB := Lib.hid (HB.out.trans (hb.mono HB.out.size))
    clear hb
    clear HL21 HT23
    have HGA := Lib.hid hR
    clear hR
    rw [Int.toNat_natCast] at *
    generalize rangesL ws (offT fa) m = ra at *
    generalize cntLo ws (offT fa) m = la at *
    generalize cntHi ws (offT fa) m = ha at *
    go_upto_region 12 with fail
    have hb : Below y25.heap.size y25 (y25.alloc (.cells #[.int .i64 la, .int .i64 ha] 41)) := (Below.refl _ _).alloc (Nat.le_refl _) _
    have u0 : (y25.alloc (.cells #[.int .i64 la, .int .i64 ha] 41)).cell? ⟨y25.heap.size, 0, none⟩ = some (.int .i64 la) := by simp
    have u1 : (y25.alloc (.cells #[.int .i64 la, .int .i64 ha] 41)).cell? ⟨y25.heap.size, 1, none⟩ = some (.int .i64 ha) := by simp
    replace HW := Lib.hid (HW.out.step hb)
    replace k0 := cell_of_ans hb k0
    replace k1 := cell_of_ans hb k1
    replace HCA := Lib.hid (HCA.out.step hb)
    replace HCB := Lib.hid (HCB.out.step hb)
    replace HGA := Lib.hid (HGA.out.step hb)
    replace HB := Lib.hid (HB.out.trans (hb.mono HB.out.size))
    clear hb
    generalize (y25.alloc (.cells #[.int .i64 la, .int .i64 ha] 41)) = y26 at *
    generalize y25.heap.size = qy26 at *
    go_wp2_with fail
    refine (lane_c A ws c (m : Int) _ HW.out hc (by omega)).mono ?_
    rintro e y28 ⟨Al27, cl27, rfl, hO27, hb⟩
    replace HW := Lib.hid (HW.out.step hb)
    replace k0 := cell_of_ans hb k0
    replace k1 := cell_of_ans hb k1
    replace HCA := Lib.hid (HCA.out.step hb)
    replace HCB := Lib.hid (HCB.out.step hb)
    replace HGA := Lib.hid (HGA.out.step hb)
    replace u0 := cell_of_ans hb u0
    replace u1 := cell_of_ans hb u1
    replace HB := Lib.hid (HB.out.trans (hb.mono HB.out.size))
    clear hb
    obtain ⟨hq27, hqq27, hO27⟩ := hO27.wds
    have HL27 := Lib.hid hO27
    clear hO27
    go_wp2_with fail
    refine (list_c AcB fb ccB _ HCB.out (Nat.le_refl _) (by omega)).mono ?_
    rintro e y30 ⟨At29, ct29, rfl, hO29, hb⟩
    replace HW := Lib.hid (HW.out.step hb)
    replace k0 := cell_of_ans hb k0
    replace k1 := cell_of_ans hb k1
    replace HCA := Lib.hid (HCA.out.step hb)
    replace HCB := Lib.hid (HCB.out.step hb)
    replace HGA := Lib.hid (HGA.out.step hb)
    replace u0 := cell_of_ans hb u0
    replace u1 := cell_of_ans hb u1
    replace HL27 := Lib.hid (HL27.out.step hb)
    replace HB := Lib.hid (HB.out.trans (hb.mono HB.out.size))
    clear hb
    obtain ⟨hq29, hqq29, hO29⟩ := isInts_parts (ownsRow_isInts hO29)
    have HT29 := Lib.hid hO29
    clear hO29
    go_wp2_with fail
    refine (ranges_ok Al27 At29 ws fb cl27 ct29 (m : Int) _ HL27.out HT29.out ⟨hq27, hqq27⟩ ⟨hq29, hqq29⟩ HEB.out).mono ?_
    rintro e y31 ⟨ArB, crB, rfl, hcrB, hR, hb⟩
    replace HW := Lib.hid (HW.out.step hb)
    replace k0 := cell_of_ans hb k0
    replace k1 := cell_of_ans hb k1
    replace HCA := Lib.hid (HCA.out.step hb)
    replace HCB := Lib.hid (HCB.out.step hb)
    replace HGA := Lib.hid (HGA.out.step hb)
    replace u0 := cell_of_ans hb u0
    replace u1 := cell_of_ans hb u1
    replace HL27 := Lib.hid (HL27.out.step hb)
    replace HT29 := Lib.hid (HT29.out.step hb)
    replace HB := Lib.hid (HB.out.trans (hb.mono HB.out.size))
    clear hb
    clear HL27 HT29
    have HGB := Lib.hid hR
    clear hR
    rw [Int.toNat_natCast] at *
    generalize rangesL ws (offT fb) m = rb at *
    generalize cntLo ws (offT fb) m = lb at *
    generalize cntHi ws (offT fb) m = hb2 at *
    go_upto_region 13 with fail
    have hb : Below y31.heap.size y31 (y31.alloc (.cells #[.int .i64 lb, .int .i64 hb2] 41)) := (Below.refl _ _).alloc (Nat.le_refl _) _
    have u2 : (y31.alloc (.cells #[.int .i64 lb, .int .i64 hb2] 41)).cell? ⟨y31.heap.size, 0, none⟩ = some (.int .i64 lb) := by simp
    have u3 : (y31.alloc (.cells #[.int .i64 lb, .int .i64 hb2] 41)).cell? ⟨y31.heap.size, 1, none⟩ = some (.int .i64 hb2) := by simp
    replace HW := Lib.hid (HW.out.step hb)
    replace k0 := cell_of_ans hb k0
    replace k1 := cell_of_ans hb k1
    replace HCA := Lib.hid (HCA.out.step hb)
    replace HCB := Lib.hid (HCB.out.step hb)
    replace HGA := Lib.hid (HGA.out.step hb)
    replace u0 := cell_of_ans hb u0
    replace u1 := cell_of_ans hb u1
    replace HGB := Lib.hid (HGB.out.step hb)
    replace HB := Lib.hid (HB.out.trans (hb.mono HB.out.size))
    clear hb
    generalize (y31.alloc (.cells #[.int .i64 lb, .int .i64 hb2] 41)) = y32 at *
    generalize y31.heap.size = qy32 at *
    go_wp2_with fail
    refine (lane_c A ws c (m : Int) _ HW.out hc (by omega)).mono ?_
    rintro e y34 ⟨Al33, cl33, rfl, hO33, hb⟩
    replace HW := Lib.hid (HW.out.step hb)
    replace k0 := cell_of_ans hb k0
    replace k1 := cell_of_ans hb k1
    replace HCA := Lib.hid (HCA.out.step hb)
    replace HCB := Lib.hid (HCB.out.step hb)
    replace HGA := Lib.hid (HGA.out.step hb)
    replace u0 := cell_of_ans hb u0
    replace u1 := cell_of_ans hb u1
    replace HGB := Lib.hid (HGB.out.step hb)
    replace u2 := cell_of_ans hb u2
    replace u3 := cell_of_ans hb u3
    replace HB := Lib.hid (HB.out.trans (hb.mono HB.out.size))
    clear hb
    obtain ⟨hq33, hqq33, hO33⟩ := hO33.wds
    have HL33 := Lib.hid hO33
    clear hO33
    go_wp2_with fail
    refine (list_c AcA fa ccA _ HCA.out (Nat.le_refl _) (by omega)).mono ?_
    rintro e y36 ⟨At35, ct35, rfl, hO35, hb⟩
    replace HW := Lib.hid (HW.out.step hb)
    replace k0 := cell_of_ans hb k0
    replace k1 := cell_of_ans hb k1
    replace HCA := Lib.hid (HCA.out.step hb)
    replace HCB := Lib.hid (HCB.out.step hb)
    replace HGA := Lib.hid (HGA.out.step hb)
    replace u0 := cell_of_ans hb u0
    replace u1 := cell_of_ans hb u1
    replace HGB := Lib.hid (HGB.out.step hb)
    replace u2 := cell_of_ans hb u2
    replace u3 := cell_of_ans hb u3
    replace HL33 := Lib.hid (HL33.out.step hb)
    replace HB := Lib.hid (HB.out.trans (hb.mono HB.out.size))
    clear hb
    obtain ⟨hq35, hqq35, hO35⟩ := isInts_parts (ownsRow_isInts hO35)
    have HT35 := Lib.hid hO35
    clear hO35
    go_wp2_with fail
    refine (many_ok Al33 At35 ws fa cl33 ct35 (m : Int) _ HL33.out HT35.out ⟨hq33, hqq33⟩ ⟨hq35, hqq35⟩ HEA.out).mono ?_
    rintro e y37 ⟨rfl, hb⟩
    replace HW := Lib.hid (HW.out.step hb)
    replace k0 := cell_of_ans hb k0
    replace k1 := cell_of_ans hb k1
    replace HCA := Lib.hid (HCA.out.step hb)
    replace HCB := Lib.hid (HCB.out.step hb)
    replace HGA := Lib.hid (HGA.out.step hb)
    replace u0 := cell_of_ans hb u0
    replace u1 := cell_of_ans hb u1
    replace HGB := Lib.hid (HGB.out.step hb)
    replace u2 := cell_of_ans hb u2
    replace u3 := cell_of_ans hb u3
    replace HL33 := Lib.hid (HL33.out.step hb)
    replace HT35 := Lib.hid (HT35.out.step hb)
    replace HB := Lib.hid (HB.out.trans (hb.mono HB.out.size))
    clear hb
    clear HL33 HT35
    rw [Int.toNat_natCast] at *
    generalize manyP ws (offT fa) m = na at *
    go_wp2_with fail
    refine (lane_c A ws c (m : Int) _ HW.out hc (by omega)).mono ?_
    rintro e y39 ⟨Al38, cl38, rfl, hO38, hb⟩
    replace HW := Lib.hid (HW.out.step hb)
    replace k0 := cell_of_ans hb k0
    replace k1 := cell_of_ans hb k1
    replace HCA := Lib.hid (HCA.out.step hb)
    replace HCB := Lib.hid (HCB.out.step hb)
    replace HGA := Lib.hid (HGA.out.step hb)
    replace u0 := cell_of_ans hb u0
    replace u1 := cell_of_ans hb u1
    replace HGB := Lib.hid (HGB.out.step hb)
    replace u2 := cell_of_ans hb u2
    replace u3 := cell_of_ans hb u3
    replace HB := Lib.hid (HB.out.trans (hb.mono HB.out.size))
    clear hb
    obtain ⟨hq38, hqq38, hO38⟩ := hO38.wds
    have HL38 := Lib.hid hO38
    clear hO38
    go_wp2_with fail
    refine (list_c AcB fb ccB _ HCB.out (Nat.le_refl _) (by omega)).mono ?_
    rintro e y41 ⟨At40, ct40, rfl, hO40, hb⟩
    replace HW := Lib.hid (HW.out.step hb)
    replace k0 := cell_of_ans hb k0
    replace k1 := cell_of_ans hb k1
    replace HCA := Lib.hid (HCA.out.step hb)
    replace HCB := Lib.hid (HCB.out.step hb)
    replace HGA := Lib.hid (HGA.out.step hb)
    replace u0 := cell_of_ans hb u0
    replace u1 := cell_of_ans hb u1
    replace HGB := Lib.hid (HGB.out.step hb)
    replace u2 := cell_of_ans hb u2
    replace u3 := cell_of_ans hb u3
    replace HL38 := Lib.hid (HL38.out.step hb)
    replace HB := Lib.hid (HB.out.trans (hb.mono HB.out.size))
    clear hb
    obtain ⟨hq40, hqq40, hO40⟩ := isInts_parts (ownsRow_isInts hO40)
    have HT40 := Lib.hid hO40
    clear hO40
    go_wp2_with fail
    refine (many_ok Al38 At40 ws fb cl38 ct40 (m : Int) _ HL38.out HT40.out ⟨hq38, hqq38⟩ ⟨hq40, hqq40⟩ HEB.out).mono ?_
    rintro e y42 ⟨rfl, hb⟩
    replace HW := Lib.hid (HW.out.step hb)
    replace k0 := cell_of_ans hb k0
    replace k1 := cell_of_ans hb k1
    replace HCA := Lib.hid (HCA.out.step hb)
    replace HCB := Lib.hid (HCB.out.step hb)
    replace HGA := Lib.hid (HGA.out.step hb)
    replace u0 := cell_of_ans hb u0
    replace u1 := cell_of_ans hb u1
    replace HGB := Lib.hid (HGB.out.step hb)
    replace u2 := cell_of_ans hb u2
    replace u3 := cell_of_ans hb u3
    replace HL38 := Lib.hid (HL38.out.step hb)
    replace HT40 := Lib.hid (HT40.out.step hb)
    replace HB := Lib.hid (HB.out.trans (hb.mono HB.out.size))
    clear hb
    clear HL38 HT40
    rw [Int.toNat_natCast] at *
    generalize manyP ws (offT fb) m = nb at *
    obtain ⟨hlr, hls, hrr⟩ := HRN.out
    have HRR := Lib.hid hrr
    have hmn := HMN.out
    obtain ⟨hcn1, hcn2⟩ := HCN.out
    have hmni : decide (nb < na) = false := decide_eq_false (by omega)
    have hq1 : decide (la < lb) = false := decide_eq_false (by omega)
    have hq2 : decide (hb2 < ha) = false := decide_eq_false (by omega)
    have hlne : ((ra.length : Int) != (rb.length : Int)) = false := by simp; omega
    clear hrr
    have HLR := Lib.hid hlr
    have HLS := Lib.hid hls
    clear hlr hls hmn hcn1 hcn2
    go_wp2_with fail
    clear hmni hq1 hq2
    go_loopw [25] (fun i wr => ∃ k n : Nat, k ≤ ra.length ∧ i = .int .i64 k ∧ wr = y42.drewN n) (fun i _ => ra.length - (intOf i).toNat)
    case atStart => exact ⟨0, 0, by omega, rfl, rfl⟩
    case round =>
      obtain ⟨k, n, hk, rfl, rfl⟩ := hrel
      by_cases h1 : k < ra.length
      · obtain ⟨b1, o1, rfl, hb1, hc1⟩ := HGA.out (by omega)
        obtain ⟨b2, o2, rfl, hb2', hc2⟩ := HGB.out (by have := HLR.out; have := HLS.out; omega)
        have hk2 : k < rb.length := by have := HLR.out; have := HLS.out; omega
        obtain ⟨c1, c2⟩ := hc1 k h1
        obtain ⟨c3, c4⟩ := hc2 k hk2
        obtain ⟨r1, r2⟩ := HRR.out k (by have := HLR.out; omega)
        have h1i : (k : Int) < (ra.length : Int) := by omega
        have h2i : (k : Int) < (rb.length : Int) := by omega
        generalize px ra k = pa at *
        generalize px rb k = pb at *
        have r3 : ¬ pa.1 < pb.1 := by omega
        have r4 : ¬ pa.2 > pb.2 := by omega
        clear hc1 hc2 r1 r2
        go_wp2_with fail
        go_quiet (fail)
        go_wp2_with fail
        go_roundw
        case rel =>
          have e1 : ((k : Int) + 1) = ((k + 1 : Nat) : Int) := by omega
          first
            | exact ⟨k + 1, _, by omega, by go_num, rfl⟩
            | (rw [e1]; exact ⟨_, _, _, _, _, _, _, _, _, _, _, _, _, _, _, _, _, _, _, _, _, _, _, _, _, _, _, _, _, _, _, _, ⟨k + 1, _, by omega, rfl, rfl⟩, rfl⟩)
        case measure =>
          first
            | (simp [intOf]; omega)
            | (show ra.length - ((k : Int) + 1).toNat < ra.length - (k : Int).toNat; omega)
      · have h1i : ¬ (k : Int) < (ra.length : Int) := by omega
        go_wp2_with fail
        refine (HWK.out _).mono ?_
        rintro e w9 ⟨rfl, hb⟩
        go_wp2_with fail
        go_ret
        exact ⟨rfl, (below_drewN HB.out n).trans (hb.mono HB.out.size)⟩
end Go.Proofs.Ytadjkinpimmhkaa
