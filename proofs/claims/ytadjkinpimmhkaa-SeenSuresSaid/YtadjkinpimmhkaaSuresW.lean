/-
  The walk of the law SeenSures.
-/
import Derived.Test.YtadjkinpimmhkaaRangesW
import Derived.Test.YtadjkinpimmhkaaSuresM
namespace Go.Proofs.Ytadjkinpimmhkaa
open Go.RowKit
set_option linter.unusedSimpArgs false
set_option linter.unusedVariables false

set_option maxRecDepth 100000 in
set_option maxHeartbeats 16000000 in
theorem seenSures_c (A At : Option Addr) (ws : List Wd) (ts : List Int) (c ct : Nat) (frn : Int) (w : World) (hw : Wds w.heap.size w A ws) (ht : Ints w.heap.size w At ts) (hc : ws.length ≤ c ∧ c ≤ 9223372036854775807) (hct : ts.length ≤ ct ∧ ct ≤ 9223372036854775807) :
    Calls Try.prog 11 #[.agg #[.int .i64 frn, .slice A ws.length c], .slice At ts.length ct] w (Ans w (.bool true)) := by
  have hb0 : Below w.heap.size w (w.alloc (.cells #[.int .i64 frn, .slice A ws.length c] 24)) := (Below.refl _ _).alloc (Nat.le_refl _) _
  have k0 : (w.alloc (.cells #[.int .i64 frn, .slice A ws.length c] 24)).cell? ⟨w.heap.size, 0, none⟩ = some (.int .i64 frn) := by simp
  have k1 : (w.alloc (.cells #[.int .i64 frn, .slice A ws.length c] 24)).cell? ⟨w.heap.size, 1, none⟩ = some (.slice A ws.length c) := by simp
  have HB := Lib.hid hb0
  have HW := Lib.hid (hw.step hb0)
  have HT := Lib.hid (ht.step hb0)
  have HWK := Lib.hid wakes_c
  clear hb0 hw ht
  go_enter Try.func11, Try.ntmps11
  go_wp2_with fail
  generalize (w.alloc (.cells #[.int .i64 frn, .slice A ws.length c] 24)) = W0 at *
  have HTh := Lib.hid (thin_c A At ws ts c ct frn W0)
  cases hth : thinB ws ts
  · rw [hth] at HTh
    clear hth
    refine (HTh.out).mono ?_
    rintro e y1 ⟨rfl, hb⟩
    replace HW := Lib.hid (HW.out.step hb)
    replace HT := Lib.hid (HT.out.step hb)
    replace k0 := cell_of_ans hb k0
    replace k1 := cell_of_ans hb k1
    replace HB := Lib.hid (HB.out.trans (hb.mono HB.out.size))
    clear hb
    go_wp2_with fail
    refine (HWK.out _).mono ?_
    rintro e y2 ⟨rfl, hb⟩
    replace HW := Lib.hid (HW.out.step hb)
    replace HT := Lib.hid (HT.out.step hb)
    replace k0 := cell_of_ans hb k0
    replace k1 := cell_of_ans hb k1
    replace HB := Lib.hid (HB.out.trans (hb.mono HB.out.size))
    clear hb
    go_wp2_with fail
    go_ret
    exact ⟨rfl, HB.out⟩
  · rw [hth] at HTh
    obtain ⟨h35, h8⟩ := thin_wakes ws ts hth
    clear hth
    refine (HTh.out).mono ?_
    rintro e y3 ⟨rfl, hb⟩
    replace HW := Lib.hid (HW.out.step hb)
    replace HT := Lib.hid (HT.out.step hb)
    replace k0 := cell_of_ans hb k0
    replace k1 := cell_of_ans hb k1
    replace HB := Lib.hid (HB.out.trans (hb.mono HB.out.size))
    clear hb
    by_cases hex : exErr frn ws ts = 0
    · obtain ⟨h30, hf1, hf5, hok⟩ := laneOk (exOk2 hex).1
      have hxx := (exOk2 hex).2
      obtain ⟨m, rfl⟩ : ∃ m : Nat, frn = (m : Int) := ⟨frn.toNat, by omega⟩
      have HEX := Lib.hid hex
      have HOK := Lib.hid hok
      have hm5 : m ≤ 5 := by omega
      have HSM := Lib.hid (ranges_same hok ts hxx m (Nat.le_refl _))
      have HMS := Lib.hid (manyR_eq hok ts m)
      have HST := Lib.hid (sureL_sT ws (offT ts) m m (Nat.le_refl _))
      have HRLn := Lib.hid (rangesL_len ws (offT ts) m)
      clear hex hok hxx
      have HRX := Lib.hid (fun W (h : Wds W.heap.size W A ws) (h2 : Ints W.heap.size W At ts) => ranges28_c A At ws ts c ct m W h h2 hc hct (by omega) HOK.out hm5)
      have HMX := Lib.hid (fun W (h : Wds W.heap.size W A ws) (h2 : Ints W.heap.size W At ts) => many42_c A At ws ts c ct m W h h2 hc hct (by omega) HOK.out hm5)
      go_wp2_with fail
      refine (lane_c A ws c (m : Int) _ HW.out hc (by omega)).mono ?_
      rintro e y5 ⟨Al4, cl4, rfl, hO4, hb⟩
      replace HW := Lib.hid (HW.out.step hb)
      replace HT := Lib.hid (HT.out.step hb)
      replace k0 := cell_of_ans hb k0
      replace k1 := cell_of_ans hb k1
      replace HB := Lib.hid (HB.out.trans (hb.mono HB.out.size))
      clear hb
      obtain ⟨hq4, hqq4, hO4⟩ := hO4.wds
      have HL4 := Lib.hid hO4
      clear hO4
      go_wp2_with fail
      refine (list_c At ts ct _ HT.out (Nat.le_refl _) (by omega)).mono ?_
      rintro e y7 ⟨At6, ct6, rfl, hO6, hb⟩
      replace HW := Lib.hid (HW.out.step hb)
      replace HT := Lib.hid (HT.out.step hb)
      replace k0 := cell_of_ans hb k0
      replace k1 := cell_of_ans hb k1
      replace HL4 := Lib.hid (HL4.out.step hb)
      replace HB := Lib.hid (HB.out.trans (hb.mono HB.out.size))
      clear hb
      obtain ⟨hq6, hqq6, hO6⟩ := isInts_parts (ownsRow_isInts hO6)
      have HT6 := Lib.hid hO6
      clear hO6
      go_wp2_with fail
      refine (sure_ok Al4 At6 ws ts cl4 ct6 (m : Int) _ HL4.out HT6.out ⟨hq4, hqq4⟩ ⟨hq6, hqq6⟩ HEX.out).mono ?_
      rintro e y8 ⟨Ap, cp, rfl, hR, hb⟩
      replace HW := Lib.hid (HW.out.step hb)
      replace HT := Lib.hid (HT.out.step hb)
      replace k0 := cell_of_ans hb k0
      replace k1 := cell_of_ans hb k1
      replace HL4 := Lib.hid (HL4.out.step hb)
      replace HT6 := Lib.hid (HT6.out.step hb)
      replace HB := Lib.hid (HB.out.trans (hb.mono HB.out.size))
      clear hb
      clear HL4 HT6
      have HP := Lib.hid hR.rgs.2.2
      clear hR
      rw [Int.toNat_natCast] at *
      go_wp2_with fail
      refine (lane_c A ws c (m : Int) _ HW.out hc (by omega)).mono ?_
      rintro e y10 ⟨Al9, cl9, rfl, hO9, hb⟩
      replace HW := Lib.hid (HW.out.step hb)
      replace HT := Lib.hid (HT.out.step hb)
      replace k0 := cell_of_ans hb k0
      replace k1 := cell_of_ans hb k1
      replace HP := Lib.hid (HP.out.step hb)
      replace HB := Lib.hid (HB.out.trans (hb.mono HB.out.size))
      clear hb
      obtain ⟨hq9, hqq9, hO9⟩ := hO9.wds
      have HL9 := Lib.hid hO9
      clear hO9
      go_wp2_with fail
      refine (list_c At ts ct _ HT.out (Nat.le_refl _) (by omega)).mono ?_
      rintro e y12 ⟨At11, ct11, rfl, hO11, hb⟩
      replace HW := Lib.hid (HW.out.step hb)
      replace HT := Lib.hid (HT.out.step hb)
      replace k0 := cell_of_ans hb k0
      replace k1 := cell_of_ans hb k1
      replace HP := Lib.hid (HP.out.step hb)
      replace HL9 := Lib.hid (HL9.out.step hb)
      replace HB := Lib.hid (HB.out.trans (hb.mono HB.out.size))
      clear hb
      obtain ⟨hq11, hqq11, hO11⟩ := isInts_parts (ownsRow_isInts hO11)
      have HT11 := Lib.hid hO11
      clear hO11
      go_wp2_with fail
      refine (many_ok Al9 At11 ws ts cl9 ct11 (m : Int) _ HL9.out HT11.out ⟨hq9, hqq9⟩ ⟨hq11, hqq11⟩ HEX.out).mono ?_
      rintro e y13 ⟨rfl, hb⟩
      replace HW := Lib.hid (HW.out.step hb)
      replace HT := Lib.hid (HT.out.step hb)
      replace k0 := cell_of_ans hb k0
      replace k1 := cell_of_ans hb k1
      replace HP := Lib.hid (HP.out.step hb)
      replace HL9 := Lib.hid (HL9.out.step hb)
      replace HT11 := Lib.hid (HT11.out.step hb)
      replace HB := Lib.hid (HB.out.trans (hb.mono HB.out.size))
      clear hb
      clear HL9 HT11
      rw [Int.toNat_natCast] at *
      rw [HSM.out.1] at HRX
      rw [HMS.out] at HMX
      rw [HST.out] at HP
      rw [HST.out]
      clear HSM HMS HST
      go_wp2_with fail
      refine (explained27_c A At ws ts c ct (m : Int) _ HW.out HT.out hc hct).mono ?_
      rintro e y14 ⟨rfl, hb⟩
      replace HW := Lib.hid (HW.out.step hb)
      replace HT := Lib.hid (HT.out.step hb)
      replace k0 := cell_of_ans hb k0
      replace k1 := cell_of_ans hb k1
      replace HP := Lib.hid (HP.out.step hb)
      replace HB := Lib.hid (HB.out.trans (hb.mono HB.out.size))
      clear hb
      rw [HEX.out]
      generalize cloR ws ts m = lo at *
      generalize chiR ws ts m = hi at *
      go_wp2_with fail
      refine (HRX.out _ HW.out HT.out).mono ?_
      rintro e y15 ⟨Ax, cx, rfl, hcx, hR, hb⟩
      replace HW := Lib.hid (HW.out.step hb)
      replace HT := Lib.hid (HT.out.step hb)
      replace k0 := cell_of_ans hb k0
      replace k1 := cell_of_ans hb k1
      replace HP := Lib.hid (HP.out.step hb)
      replace HB := Lib.hid (HB.out.trans (hb.mono HB.out.size))
      clear hb
      have HX := Lib.hid hR
      clear hR
      generalize rangesL ws (offT ts) m = r at *
      generalize manyP ws (offT ts) m = nm at *
      have HSL := Lib.hid (fun i => sT_len r i)
      have HSA := Lib.hid (fun i (hi : i < 2 * m) (h : (px r i).1 = (px r i).2) => sT_at hi h)
      generalize hps : sT r (2 * m) = p at *
      have HPS := Lib.hid hps
      clear hps
      go_upto_region 9 with fail
      have hb : Below y15.heap.size y15 (y15.alloc (.cells #[.int .i64 lo, .int .i64 hi] 45)) := (Below.refl _ _).alloc (Nat.le_refl _) _
      have u2 : (y15.alloc (.cells #[.int .i64 lo, .int .i64 hi] 45)).cell? ⟨y15.heap.size, 0, none⟩ = some (.int .i64 lo) := by simp
      have u3 : (y15.alloc (.cells #[.int .i64 lo, .int .i64 hi] 45)).cell? ⟨y15.heap.size, 1, none⟩ = some (.int .i64 hi) := by simp
      replace HW := Lib.hid (HW.out.step hb)
      replace HT := Lib.hid (HT.out.step hb)
      replace k0 := cell_of_ans hb k0
      replace k1 := cell_of_ans hb k1
      replace HP := Lib.hid (HP.out.step hb)
      replace HX := Lib.hid (HX.out.step hb)
      replace HB := Lib.hid (HB.out.trans (hb.mono HB.out.size))
      clear hb
      generalize (y15.alloc (.cells #[.int .i64 lo, .int .i64 hi] 45)) = y16 at *
      generalize y15.heap.size = qy16 at *
      go_wp2_with fail
      go_loopw [12, 13] (fun a i wr => ∃ k n : Nat, k ≤ r.length ∧ i = .int .i64 k ∧ a = .int .i64 ((sT r k).length : Nat) ∧ wr = y16.drewN n) (fun _ i _ => r.length - (intOf i).toNat)
      case atStart => exact ⟨0, 0, by omega, rfl, rfl, rfl⟩
      case round =>
        obtain ⟨k, n, hk, rfl, rfl, rfl⟩ := hrel
        have hrl := HRLn.out
        have hsl := HSL.out k
        by_cases h1 : k < r.length
        · obtain ⟨b2, o2, rfl, hb2', hc2⟩ := HX.out (by omega)
          obtain ⟨c3, c4⟩ := hc2 k h1
          have h1i : (k : Int) < (r.length : Int) := by omega
          have HRL2 := Lib.hid hrl
          by_cases hs : (px r k).1 = (px r k).2
          · obtain ⟨s1, s2⟩ := HSA.out k (by omega) hs
            obtain ⟨b1, o1, hA1, hb1, hc1⟩ := HP.out (by omega)
            subst hA1
            obtain ⟨c1, c2⟩ := hc1 (sT r k).length s1
            rw [s2] at c1 c2
            have HY := Lib.hid (sT_yes hs)
            have hbn : ((px r k).1 != (px r k).2) = false := by simp [hs]
            generalize hpk : px r k = pa at *
            obtain ⟨pl, ph⟩ := pa
            dsimp only at hs hbn c3 c4
            subst hs
            have h3 : decide (((sT r k).length : Int) ≥ (p.length : Int)) = false := decide_eq_false (by omega)
            have hat : ((sT r (k + 1)).length : Int) = ((sT r k).length : Int) + 1 := by rw [HY.out]; simp
            have HAT := Lib.hid hat
            generalize (sT r k).length = at0 at *
            clear hc1 hc2 s2 hrl hat hpk
            have d1 : ((((k / 2 : Nat) : Int)) != (k : Int) / 2) = false := by simp
            have d2 : ((((k % 2 : Nat) : Int)) != (k : Int) % 2) = false := by simp
            go_wp2_with fail
            go_quiet (fail)
            go_wp2_with fail
            go_roundw
            case rel => exact ⟨k + 1, _, by omega, by go_num, by rw [HAT.out], rfl⟩
            case measure => simp [intOf]; omega
          · have HY := Lib.hid (sT_no hs)
            have hbn : ((px r k).1 != (px r k).2) = true := by simp [hs]
            generalize px r k = pa at *
            obtain ⟨pl, ph⟩ := pa
            dsimp only at hs hbn c3 c4
            generalize hat0 : (sT r k).length = at0 at *
            have HAT0 := Lib.hid hat0
            clear hc2 hrl hat0 hs
            go_wp2_with fail
            go_quiet (fail)
            go_wp2_with fail
            go_roundw
            case rel => exact ⟨k + 1, _, by omega, by go_num, by rw [HY.out, HAT0.out], rfl⟩
            case measure => simp [intOf]; omega
        · have h1i : ¬ (k : Int) < (r.length : Int) := by omega
          have hat : (sT r k).length = p.length := by rw [show k = 2 * m by omega, HPS.out]
          rw [hat]
          have e1 : ((p.length : Int) == (p.length : Int)) = true := by simp
          have e2 : ((nm : Int) == (nm : Int)) = true := by simp
          clear hat hrl hsl
          replace HW := Lib.hid (HW.out.step (below_drewN (Below.refl _ _) n))
          replace HT := Lib.hid (HT.out.step (below_drewN (Below.refl _ _) n))
          replace HB := Lib.hid (below_drewN HB.out n)
          replace k0 : (y16.drewN n).cell? ⟨w.heap.size, 0, none⟩ = some (.int .i64 (m : Int)) := k0
          replace k1 : (y16.drewN n).cell? ⟨w.heap.size, 1, none⟩ = some (.slice A ws.length c) := k1
          generalize y16.drewN n = z0 at *
          go_wp2_with fail
          refine (HMX.out _ HW.out HT.out).mono ?_
          rintro e w8 ⟨rfl, hb⟩
          replace HB := Lib.hid (HB.out.trans (hb.mono HB.out.size))
          clear hb
          go_wp2_with fail
          refine (HWK.out _).mono ?_
          rintro e w9 ⟨rfl, hb⟩
          go_wp2_with fail
          go_ret
          exact ⟨rfl, HB.out.trans (hb.mono HB.out.size)⟩
    · have HEX := Lib.hid hex
      clear hex
      go_wp2_with fail
      refine (lane_c A ws c frn _ HW.out hc (by omega)).mono ?_
      rintro e y18 ⟨Al17, cl17, rfl, hO17, hb⟩
      replace HW := Lib.hid (HW.out.step hb)
      replace HT := Lib.hid (HT.out.step hb)
      replace k0 := cell_of_ans hb k0
      replace k1 := cell_of_ans hb k1
      replace HB := Lib.hid (HB.out.trans (hb.mono HB.out.size))
      clear hb
      obtain ⟨hq17, hqq17, hO17⟩ := hO17.wds
      have HL17 := Lib.hid hO17
      clear hO17
      go_wp2_with fail
      refine (list_c At ts ct _ HT.out (Nat.le_refl _) (by omega)).mono ?_
      rintro e y20 ⟨At19, ct19, rfl, hO19, hb⟩
      replace HW := Lib.hid (HW.out.step hb)
      replace HT := Lib.hid (HT.out.step hb)
      replace k0 := cell_of_ans hb k0
      replace k1 := cell_of_ans hb k1
      replace HL17 := Lib.hid (HL17.out.step hb)
      replace HB := Lib.hid (HB.out.trans (hb.mono HB.out.size))
      clear hb
      obtain ⟨hq19, hqq19, hO19⟩ := isInts_parts (ownsRow_isInts hO19)
      have HT19 := Lib.hid hO19
      clear hO19
      go_wp2_with fail
      refine (sure_bad Al17 At19 ws ts cl17 ct19 frn _ HL17.out HT19.out ⟨hq17, hqq17⟩ ⟨hq19, hqq19⟩ HEX.out).mono ?_
      rintro e y21 ⟨rfl, hb⟩
      replace HW := Lib.hid (HW.out.step hb)
      replace HT := Lib.hid (HT.out.step hb)
      replace k0 := cell_of_ans hb k0
      replace k1 := cell_of_ans hb k1
      replace HL17 := Lib.hid (HL17.out.step hb)
      replace HT19 := Lib.hid (HT19.out.step hb)
      replace HB := Lib.hid (HB.out.trans (hb.mono HB.out.size))
      clear hb
      clear HL17 HT19
      go_wp2_with fail
      refine (lane_c A ws c frn _ HW.out hc (by omega)).mono ?_
      rintro e y23 ⟨Al22, cl22, rfl, hO22, hb⟩
      replace HW := Lib.hid (HW.out.step hb)
      replace HT := Lib.hid (HT.out.step hb)
      replace k0 := cell_of_ans hb k0
      replace k1 := cell_of_ans hb k1
      replace HB := Lib.hid (HB.out.trans (hb.mono HB.out.size))
      clear hb
      obtain ⟨hq22, hqq22, hO22⟩ := hO22.wds
      have HL22 := Lib.hid hO22
      clear hO22
      go_wp2_with fail
      refine (list_c At ts ct _ HT.out (Nat.le_refl _) (by omega)).mono ?_
      rintro e y25 ⟨At24, ct24, rfl, hO24, hb⟩
      replace HW := Lib.hid (HW.out.step hb)
      replace HT := Lib.hid (HT.out.step hb)
      replace k0 := cell_of_ans hb k0
      replace k1 := cell_of_ans hb k1
      replace HL22 := Lib.hid (HL22.out.step hb)
      replace HB := Lib.hid (HB.out.trans (hb.mono HB.out.size))
      clear hb
      obtain ⟨hq24, hqq24, hO24⟩ := isInts_parts (ownsRow_isInts hO24)
      have HT24 := Lib.hid hO24
      clear hO24
      go_wp2_with fail
      refine (many_bad Al22 At24 ws ts cl22 ct24 frn _ HL22.out HT24.out ⟨hq22, hqq22⟩ ⟨hq24, hqq24⟩ HEX.out).mono ?_
      rintro e y26 ⟨rfl, hb⟩
      replace HW := Lib.hid (HW.out.step hb)
      replace HT := Lib.hid (HT.out.step hb)
      replace k0 := cell_of_ans hb k0
      replace k1 := cell_of_ans hb k1
      replace HL22 := Lib.hid (HL22.out.step hb)
      replace HT24 := Lib.hid (HT24.out.step hb)
      replace HB := Lib.hid (HB.out.trans (hb.mono HB.out.size))
      clear hb
      clear HL22 HT24
      go_wp2_with fail
      refine (explained27_c A At ws ts c ct frn _ HW.out HT.out hc hct).mono ?_
      rintro e y27 ⟨rfl, hb⟩
      replace HW := Lib.hid (HW.out.step hb)
      replace HT := Lib.hid (HT.out.step hb)
      replace k0 := cell_of_ans hb k0
      replace k1 := cell_of_ans hb k1
      replace HB := Lib.hid (HB.out.trans (hb.mono HB.out.size))
      clear hb
      have hn : (exErr frn ws ts != 0) = true := by simp [HEX.out]
      generalize exErr frn ws ts = er at *
      have hee : (er == er) = true := by simp
      go_wp2_with fail
      refine (HWK.out _).mono ?_
      rintro e y28 ⟨rfl, hb⟩
      replace HW := Lib.hid (HW.out.step hb)
      replace HT := Lib.hid (HT.out.step hb)
      replace k0 := cell_of_ans hb k0
      replace k1 := cell_of_ans hb k1
      replace HB := Lib.hid (HB.out.trans (hb.mono HB.out.size))
      clear hb
      go_wp2_with fail
      go_ret
      exact ⟨rfl, HB.out⟩
end Go.Proofs.Ytadjkinpimmhkaa
