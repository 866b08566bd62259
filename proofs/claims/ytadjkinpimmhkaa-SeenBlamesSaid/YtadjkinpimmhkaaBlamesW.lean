/-
  The walk of the law SeenBlames.
-/
import Derived.Test.YtadjkinpimmhkaaExplainsW
import Derived.Test.YtadjkinpimmhkaaChosen
import Derived.Test.YtadjkinpimmhkaaMono
import Derived.Test.YtadjkinpimmhkaaLeast37
namespace Go.Proofs.Ytadjkinpimmhkaa
open Go.RowKit
set_option linter.unusedSimpArgs false
set_option linter.unusedVariables false

set_option maxRecDepth 100000 in
set_option maxHeartbeats 16000000 in
theorem seenBlames_c (A : Option Addr) (ws : List Wd) (c : Nat) (frn : Int) (w : World) (hw : Wds w.heap.size w A ws) (hc : ws.length ≤ c ∧ c ≤ 9223372036854775807) :
    Calls Try.prog 9 #[.agg #[.int .i64 frn, .slice A ws.length c]] w (Ans w (.bool true)) := by
  have hb0 : Below w.heap.size w (w.alloc (.cells #[.int .i64 frn, .slice A ws.length c] 24)) := (Below.refl _ _).alloc (Nat.le_refl _) _
  have k0 : (w.alloc (.cells #[.int .i64 frn, .slice A ws.length c] 24)).cell? ⟨w.heap.size, 0, none⟩ = some (.int .i64 frn) := by simp
  have k1 : (w.alloc (.cells #[.int .i64 frn, .slice A ws.length c] 24)).cell? ⟨w.heap.size, 1, none⟩ = some (.slice A ws.length c) := by simp
  have HB := Lib.hid hb0
  have HW := Lib.hid (hw.step hb0)
  have HWK := Lib.hid wakes_c
  clear hb0 hw
  go_enter Try.func9, Try.ntmps9
  go_wp2_with fail
  generalize (w.alloc (.cells #[.int .i64 frn, .slice A ws.length c] 24)) = W0 at *
  have HTh : Hid (Calls Try.prog 17 #[.agg #[.int .i64 frn, .slice A ws.length c], .slice none 0 0] W0 (Ans W0 (.bool (thinB ws [])))) := thin_c A none ws [] c 0 frn W0
  cases hth : thinB ws []
  · rw [hth] at HTh
    clear hth
    refine (HTh.out).mono ?_
    rintro e y1 ⟨rfl, hb⟩
    replace HW := Lib.hid (HW.out.step hb)
    replace k0 := cell_of_ans hb k0
    replace k1 := cell_of_ans hb k1
    replace HB := Lib.hid (HB.out.trans (hb.mono HB.out.size))
    clear hb
    go_wp2_with fail
    refine (HWK.out _).mono ?_
    rintro e y2 ⟨rfl, hb⟩
    replace HW := Lib.hid (HW.out.step hb)
    replace k0 := cell_of_ans hb k0
    replace k1 := cell_of_ans hb k1
    replace HB := Lib.hid (HB.out.trans (hb.mono HB.out.size))
    clear hb
    go_wp2_with fail
    go_ret
    exact ⟨rfl, HB.out⟩
  · rw [hth] at HTh
    obtain ⟨h35, -⟩ := thin_wakes ws [] hth
    clear hth
    refine (HTh.out).mono ?_
    rintro e y3 ⟨rfl, hb⟩
    replace HW := Lib.hid (HW.out.step hb)
    replace k0 := cell_of_ans hb k0
    replace k1 := cell_of_ans hb k1
    replace HB := Lib.hid (HB.out.trans (hb.mono HB.out.size))
    clear hb
    by_cases hle : laneErr frn ws = 0
    · obtain ⟨h30, hf1, hf5, hok⟩ := laneOk hle
      obtain ⟨m, rfl⟩ : ∃ m : Nat, frn = (m : Int) := ⟨frn.toNat, by omega⟩
      have HLE := Lib.hid hle
      have HOK := Lib.hid hok
      have hm5 : m ≤ 5 := by omega
      clear hle hok
      have HBX := Lib.hid (fun W (h : Wds W.heap.size W A ws) => blame38_c A ws c m W h hc (by omega) HOK.out hm5)
      have HLX := Lib.hid (fun W (h : Wds W.heap.size W A ws) => least37_c A ws c m W h hc (by omega) HOK.out hm5)
      go_wp2_with fail
      refine (lane_c A ws c (m : Int) _ HW.out hc (by omega)).mono ?_
      rintro e y5 ⟨Al4, cl4, rfl, hO4, hb⟩
      replace HW := Lib.hid (HW.out.step hb)
      replace k0 := cell_of_ans hb k0
      replace k1 := cell_of_ans hb k1
      replace HB := Lib.hid (HB.out.trans (hb.mono HB.out.size))
      clear hb
      obtain ⟨hq4, hqq4, hO4⟩ := hO4.wds
      have HL4 := Lib.hid hO4
      clear hO4
      go_wp2_with fail
      refine (least_ok Al4 ws cl4 (m : Int) _ HL4.out ⟨hq4, hqq4⟩ HLE.out).mono ?_
      rintro e y6 ⟨Ax, cx, rfl, hO, hb⟩
      replace HW := Lib.hid (HW.out.step hb)
      replace k0 := cell_of_ans hb k0
      replace k1 := cell_of_ans hb k1
      replace HL4 := Lib.hid (HL4.out.step hb)
      replace HB := Lib.hid (HB.out.trans (hb.mono HB.out.size))
      clear hb
      clear HL4
      obtain ⟨hx1, hx2, hO⟩ := isInts_parts (ownsRow_isInts hO)
      have HX := Lib.hid hO
      clear hO
      go_wp2_with fail
      refine (lane_c A ws c (m : Int) _ HW.out hc (by omega)).mono ?_
      rintro e y8 ⟨Al7, cl7, rfl, hO7, hb⟩
      replace HW := Lib.hid (HW.out.step hb)
      replace k0 := cell_of_ans hb k0
      replace k1 := cell_of_ans hb k1
      replace HX := Lib.hid (HX.out.step hb)
      replace HB := Lib.hid (HB.out.trans (hb.mono HB.out.size))
      clear hb
      obtain ⟨hq7, hqq7, hO7⟩ := hO7.wds
      have HL7 := Lib.hid hO7
      clear hO7
      go_wp2_with fail
      refine (blame_ok Al7 ws cl7 (m : Int) _ HL7.out ⟨hq7, hqq7⟩ HLE.out).mono ?_
      rintro e y9 ⟨rfl, hb⟩
      replace HW := Lib.hid (HW.out.step hb)
      replace k0 := cell_of_ans hb k0
      replace k1 := cell_of_ans hb k1
      replace HX := Lib.hid (HX.out.step hb)
      replace HL7 := Lib.hid (HL7.out.step hb)
      replace HB := Lib.hid (HB.out.trans (hb.mono HB.out.size))
      clear hb
      clear HL7
      have HBE := Lib.hid (blameR_eq (explB (m : Int) ws))
      have HBN := Lib.hid (blame_rx (explB (m : Int) ws))
      have HBV : Hid (blameOk (explB (m : Int) ws) = false → blameV (explB (m : Int) ws) = 0 ∧ blameE (explB (m : Int) ws) = 7) := fun h => by simp [blameV, blameE, h]
      have HBW : Hid (blameOk (explB (m : Int) ws) = true → blameE (explB (m : Int) ws) = 0) := fun h => by simp [blameE, h]
      generalize leastL (explB (m : Int) ws) = xs at *
      generalize blameR (explB (m : Int) ws) = br at *
      generalize blameV (explB (m : Int) ws) = bv at *
      generalize blameE (explB (m : Int) ws) = be at *
      generalize blameOk (explB (m : Int) ws) = bo at *
      go_wp2_with fail
      refine (fault23_c A ws c (m : Int) _ HW.out hc).mono ?_
      rintro e y10 ⟨rfl, hb⟩
      replace HW := Lib.hid (HW.out.step hb)
      replace k0 := cell_of_ans hb k0
      replace k1 := cell_of_ans hb k1
      replace HX := Lib.hid (HX.out.step hb)
      replace HB := Lib.hid (HB.out.trans (hb.mono HB.out.size))
      clear hb
      rw [HLE.out]
      go_wp2_with fail
      refine (HLX.out _ HW.out).mono ?_
      rintro e y11 ⟨Ay, cy, rfl, ⟨hy1, hy2⟩, hO, hb⟩
      replace HW := Lib.hid (HW.out.step hb)
      replace k0 := cell_of_ans hb k0
      replace k1 := cell_of_ans hb k1
      replace HX := Lib.hid (HX.out.step hb)
      replace HB := Lib.hid (HB.out.trans (hb.mono HB.out.size))
      clear hb
      have HY := Lib.hid hO
      clear hO
      go_wp2_with fail
      refine ((ints_c Ax Ay xs xs cx cy _ HX.out HY.out ⟨hx1, hx2⟩ ⟨hy1, hy2⟩).mono fun _ _ h => Qt.ans h).mono ?_
      rintro e y12 ⟨rfl, hb⟩
      replace HW := Lib.hid (HW.out.step hb)
      replace k0 := cell_of_ans hb k0
      replace k1 := cell_of_ans hb k1
      replace HX := Lib.hid (HX.out.step hb)
      replace HY := Lib.hid (HY.out.step hb)
      replace HB := Lib.hid (HB.out.trans (hb.mono HB.out.size))
      clear hb
      clear HX HY
      have heq : eqB xs xs = true := by simp [eqB]
      rw [heq]
      clear heq
      go_wp2_with fail
      refine (HBX.out _ HW.out).mono ?_
      rintro e y13 ⟨rfl, hb⟩
      replace HW := Lib.hid (HW.out.step hb)
      replace k0 := cell_of_ans hb k0
      replace k1 := cell_of_ans hb k1
      replace HB := Lib.hid (HB.out.trans (hb.mono HB.out.size))
      clear hb
      cases hbo : bo
      · obtain ⟨e1, e2⟩ := HBV.out hbo
        have e3 : br = -1 := by rw [HBE.out, hbo]; rfl
        subst e1 e2 e3
        clear hbo
        go_wp2_with fail
        refine (HWK.out _).mono ?_
        rintro e y14 ⟨rfl, hb⟩
        replace HW := Lib.hid (HW.out.step hb)
        replace k0 := cell_of_ans hb k0
        replace k1 := cell_of_ans hb k1
        replace HB := Lib.hid (HB.out.trans (hb.mono HB.out.size))
        clear hb
        go_wp2_with fail
        go_ret
        exact ⟨rfl, HB.out⟩
      · have e1 := HBW.out hbo
        have e2 : br = bv := by rw [HBE.out, hbo]; rfl
        have e3 : ¬ bv < 0 := by have := HBN.out hbo; omega
        have e4 : decide (bv ≥ 0) = true := decide_eq_true (by omega)
        have e5 : (bv == bv) = true := by simp
        subst e1 e2
        clear hbo HBE HBN HBV HBW
        go_wp2_with fail
        refine (HWK.out _).mono ?_
        rintro e y15 ⟨rfl, hb⟩
        replace HW := Lib.hid (HW.out.step hb)
        replace k0 := cell_of_ans hb k0
        replace k1 := cell_of_ans hb k1
        replace HB := Lib.hid (HB.out.trans (hb.mono HB.out.size))
        clear hb
        go_wp2_with fail
        go_ret
        exact ⟨rfl, HB.out⟩
    · have HLE := Lib.hid hle
      clear hle
      go_wp2_with fail
      refine (lane_c A ws c frn _ HW.out hc (by omega)).mono ?_
      rintro e y17 ⟨Al16, cl16, rfl, hO16, hb⟩
      replace HW := Lib.hid (HW.out.step hb)
      replace k0 := cell_of_ans hb k0
      replace k1 := cell_of_ans hb k1
      replace HB := Lib.hid (HB.out.trans (hb.mono HB.out.size))
      clear hb
      obtain ⟨hq16, hqq16, hO16⟩ := hO16.wds
      have HL16 := Lib.hid hO16
      clear hO16
      go_wp2_with fail
      refine (least_bad Al16 ws cl16 frn _ HL16.out ⟨hq16, hqq16⟩ HLE.out).mono ?_
      rintro e y18 ⟨rfl, hb⟩
      replace HW := Lib.hid (HW.out.step hb)
      replace k0 := cell_of_ans hb k0
      replace k1 := cell_of_ans hb k1
      replace HL16 := Lib.hid (HL16.out.step hb)
      replace HB := Lib.hid (HB.out.trans (hb.mono HB.out.size))
      clear hb
      clear HL16
      go_wp2_with fail
      refine (lane_c A ws c frn _ HW.out hc (by omega)).mono ?_
      rintro e y20 ⟨Al19, cl19, rfl, hO19, hb⟩
      replace HW := Lib.hid (HW.out.step hb)
      replace k0 := cell_of_ans hb k0
      replace k1 := cell_of_ans hb k1
      replace HB := Lib.hid (HB.out.trans (hb.mono HB.out.size))
      clear hb
      obtain ⟨hq19, hqq19, hO19⟩ := hO19.wds
      have HL19 := Lib.hid hO19
      clear hO19
      go_wp2_with fail
      refine (blame_bad Al19 ws cl19 frn _ HL19.out ⟨hq19, hqq19⟩ HLE.out).mono ?_
      rintro e y21 ⟨rfl, hb⟩
      replace HW := Lib.hid (HW.out.step hb)
      replace k0 := cell_of_ans hb k0
      replace k1 := cell_of_ans hb k1
      replace HL19 := Lib.hid (HL19.out.step hb)
      replace HB := Lib.hid (HB.out.trans (hb.mono HB.out.size))
      clear hb
      clear HL19
      go_wp2_with fail
      refine (fault23_c A ws c frn _ HW.out hc).mono ?_
      rintro e y22 ⟨rfl, hb⟩
      replace HW := Lib.hid (HW.out.step hb)
      replace k0 := cell_of_ans hb k0
      replace k1 := cell_of_ans hb k1
      replace HB := Lib.hid (HB.out.trans (hb.mono HB.out.size))
      clear hb
      have hn : (laneErr frn ws != 0) = true := by simp [HLE.out]
      generalize laneErr frn ws = er at *
      have hee : (er == er) = true := by simp
      go_wp2_with fail
      refine (HWK.out _).mono ?_
      rintro e y23 ⟨rfl, hb⟩
      replace HW := Lib.hid (HW.out.step hb)
      replace k0 := cell_of_ans hb k0
      replace k1 := cell_of_ans hb k1
      replace HB := Lib.hid (HB.out.trans (hb.mono HB.out.size))
      clear hb
      go_wp2_with fail
      go_ret
      exact ⟨rfl, HB.out⟩
end Go.Proofs.Ytadjkinpimmhkaa
