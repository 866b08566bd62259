/-
  The walk of the law SeenRanges.
-/
import Derived.Test.YtadjkinpimmhkaaExplainsW
import Derived.Test.YtadjkinpimmhkaaChosen
import Derived.Test.YtadjkinpimmhkaaRefRg
import Derived.Test.YtadjkinpimmhkaaEq41
namespace Go.Proofs.Ytadjkinpimmhkaa
open Go.RowKit
set_option linter.unusedSimpArgs false
set_option linter.unusedVariables false

theorem exOk2 {frn : Int} {ws : List Wd} {ts : List Int} (h : exErr frn ws ts = 0) : laneErr frn ws = 0 ∧ explB frn ws (offT ts) = true := ⟨(askOk (exOk h).1).1, (exOk h).2⟩

set_option maxRecDepth 100000 in
set_option maxHeartbeats 16000000 in
theorem seenRanges_c (A At : Option Addr) (ws : List Wd) (ts : List Int) (c ct : Nat) (frn : Int) (w : World) (hw : Wds w.heap.size w A ws) (ht : Ints w.heap.size w At ts) (hc : ws.length ≤ c ∧ c ≤ 9223372036854775807) (hct : ts.length ≤ ct ∧ ct ≤ 9223372036854775807) :
    Calls Try.prog 4 #[.agg #[.int .i64 frn, .slice A ws.length c], .slice At ts.length ct] w (Ans w (.bool true)) := by
  have hb0 : Below w.heap.size w (w.alloc (.cells #[.int .i64 frn, .slice A ws.length c] 24)) := (Below.refl _ _).alloc (Nat.le_refl _) _
  have k0 : (w.alloc (.cells #[.int .i64 frn, .slice A ws.length c] 24)).cell? ⟨w.heap.size, 0, none⟩ = some (.int .i64 frn) := by simp
  have k1 : (w.alloc (.cells #[.int .i64 frn, .slice A ws.length c] 24)).cell? ⟨w.heap.size, 1, none⟩ = some (.slice A ws.length c) := by simp
  have HB := Lib.hid hb0
  have HW := Lib.hid (hw.step hb0)
  have HT := Lib.hid (ht.step hb0)
  have HWK := Lib.hid wakes_c
  clear hb0 hw ht
  go_enter Try.func4, Try.ntmps4
  go_wp2_with fail
  generalize (w.alloc (.cells #[.int .i64 frn, .slice A ws.length c] 24)) = W0 at *
  have HTh := Lib.hid (thin_c A At ws ts c ct frn W0)
  cases hth : thinB ws ts
  · rw [hth] at HTh
    clear hth
    refine (HTh.out).mono ?_
    rintro e y1 ⟨rfl, hb⟩
    replace HW := Lib.hid (HW.out.step hb)
    replace HT := Lib.hid (HT.out.step hb)
    replace k0 := cell_of_ans hb k0
    replace k1 := cell_of_ans hb k1
    replace HB := Lib.hid (HB.out.trans (hb.mono HB.out.size))
    clear hb
    go_wp2_with fail
    refine (HWK.out _).mono ?_
    rintro e y2 ⟨rfl, hb⟩
    replace HW := Lib.hid (HW.out.step hb)
    replace HT := Lib.hid (HT.out.step hb)
    replace k0 := cell_of_ans hb k0
    replace k1 := cell_of_ans hb k1
    replace HB := Lib.hid (HB.out.trans (hb.mono HB.out.size))
    clear hb
    go_wp2_with fail
    go_ret
    exact ⟨rfl, HB.out⟩
  · rw [hth] at HTh
    obtain ⟨h35, h8⟩ := thin_wakes ws ts hth
    clear hth
    refine (HTh.out).mono ?_
    rintro e y3 ⟨rfl, hb⟩
    replace HW := Lib.hid (HW.out.step hb)
    replace HT := Lib.hid (HT.out.step hb)
    replace k0 := cell_of_ans hb k0
    replace k1 := cell_of_ans hb k1
    replace HB := Lib.hid (HB.out.trans (hb.mono HB.out.size))
    clear hb
    by_cases hex : exErr frn ws ts = 0
    · obtain ⟨h30, hf1, hf5, hok⟩ := laneOk (exOk2 hex).1
      have hxx := (exOk2 hex).2
      obtain ⟨m, rfl⟩ : ∃ m : Nat, frn = (m : Int) := ⟨frn.toNat, by omega⟩
      have HEX := Lib.hid hex
      have HOK := Lib.hid hok
      have hm5 : m ≤ 5 := by omega
      have HSM := Lib.hid (ranges_same hok ts hxx m (Nat.le_refl _))
      clear hex hok hxx
      have HRX := Lib.hid (fun W (h : Wds W.heap.size W A ws) (h2 : Ints W.heap.size W At ts) => ranges28_c A At ws ts c ct m W h h2 hc hct (by omega) HOK.out hm5)
      go_wp2_with fail
      refine (lane_c A ws c (m : Int) _ HW.out hc (by omega)).mono ?_
      rintro e y5 ⟨Al4, cl4, rfl, hO4, hb⟩
      replace HW := Lib.hid (HW.out.step hb)
      replace HT := Lib.hid (HT.out.step hb)
      replace k0 := cell_of_ans hb k0
      replace k1 := cell_of_ans hb k1
      replace HB := Lib.hid (HB.out.trans (hb.mono HB.out.size))
      clear hb
      obtain ⟨hq4, hqq4, hO4⟩ := hO4.wds
      have HL4 := Lib.hid hO4
      clear hO4
      go_wp2_with fail
      refine (list_c At ts ct _ HT.out (Nat.le_refl _) (by omega)).mono ?_
      rintro e y7 ⟨At6, ct6, rfl, hO6, hb⟩
      replace HW := Lib.hid (HW.out.step hb)
      replace HT := Lib.hid (HT.out.step hb)
      replace k0 := cell_of_ans hb k0
      replace k1 := cell_of_ans hb k1
      replace HL4 := Lib.hid (HL4.out.step hb)
      replace HB := Lib.hid (HB.out.trans (hb.mono HB.out.size))
      clear hb
      obtain ⟨hq6, hqq6, hO6⟩ := isInts_parts (ownsRow_isInts hO6)
      have HT6 := Lib.hid hO6
      clear hO6
      go_wp2_with fail
      refine (ranges_ok Al4 At6 ws ts cl4 ct6 (m : Int) _ HL4.out HT6.out ⟨hq4, hqq4⟩ ⟨hq6, hqq6⟩ HEX.out).mono ?_
      rintro e y8 ⟨Ar, cr, rfl, hcr, hR, hb⟩
      replace HW := Lib.hid (HW.out.step hb)
      replace HT := Lib.hid (HT.out.step hb)
      replace k0 := cell_of_ans hb k0
      replace k1 := cell_of_ans hb k1
      replace HL4 := Lib.hid (HL4.out.step hb)
      replace HT6 := Lib.hid (HT6.out.step hb)
      replace HB := Lib.hid (HB.out.trans (hb.mono HB.out.size))
      clear hb
      clear HL4 HT6
      have HG := Lib.hid hR
      clear hR
      rw [Int.toNat_natCast] at *
      rw [HSM.out.1, HSM.out.2.1, HSM.out.2.2] at HRX
      clear HSM
      generalize rangesL ws (offT ts) m = r at *
      generalize cntLo ws (offT ts) m = lo at *
      generalize cntHi ws (offT ts) m = hi at *
      go_upto_region 4 with fail
      have hb : Below y8.heap.size y8 (y8.alloc (.cells #[.int .i64 lo, .int .i64 hi] 41)) := (Below.refl _ _).alloc (Nat.le_refl _) _
      have u0 : (y8.alloc (.cells #[.int .i64 lo, .int .i64 hi] 41)).cell? ⟨y8.heap.size, 0, none⟩ = some (.int .i64 lo) := by simp
      have u1 : (y8.alloc (.cells #[.int .i64 lo, .int .i64 hi] 41)).cell? ⟨y8.heap.size, 1, none⟩ = some (.int .i64 hi) := by simp
      replace HW := Lib.hid (HW.out.step hb)
      replace HT := Lib.hid (HT.out.step hb)
      replace k0 := cell_of_ans hb k0
      replace k1 := cell_of_ans hb k1
      replace HG := Lib.hid (HG.out.step hb)
      replace HB := Lib.hid (HB.out.trans (hb.mono HB.out.size))
      clear hb
      generalize (y8.alloc (.cells #[.int .i64 lo, .int .i64 hi] 41)) = y9 at *
      generalize y8.heap.size = qy9 at *
      go_wp2_with fail
      refine (explained27_c A At ws ts c ct (m : Int) _ HW.out HT.out hc hct).mono ?_
      rintro e y10 ⟨rfl, hb⟩
      replace HW := Lib.hid (HW.out.step hb)
      replace HT := Lib.hid (HT.out.step hb)
      replace k0 := cell_of_ans hb k0
      replace k1 := cell_of_ans hb k1
      replace HG := Lib.hid (HG.out.step hb)
      replace u0 := cell_of_ans hb u0
      replace u1 := cell_of_ans hb u1
      replace HB := Lib.hid (HB.out.trans (hb.mono HB.out.size))
      clear hb
      rw [HEX.out]
      go_wp2_with fail
      refine (HRX.out _ HW.out HT.out).mono ?_
      rintro e y11 ⟨Ax, cx, rfl, hcx, hR, hb⟩
      replace HW := Lib.hid (HW.out.step hb)
      replace HT := Lib.hid (HT.out.step hb)
      replace k0 := cell_of_ans hb k0
      replace k1 := cell_of_ans hb k1
      replace HG := Lib.hid (HG.out.step hb)
      replace u0 := cell_of_ans hb u0
      replace u1 := cell_of_ans hb u1
      replace HB := Lib.hid (HB.out.trans (hb.mono HB.out.size))
      clear hb
      have HX := Lib.hid hR
      clear hR
      go_upto_region 8 with fail
      have hb : Below y11.heap.size y11 (y11.alloc (.cells #[.int .i64 lo, .int .i64 hi] 45)) := (Below.refl _ _).alloc (Nat.le_refl _) _
      have u2 : (y11.alloc (.cells #[.int .i64 lo, .int .i64 hi] 45)).cell? ⟨y11.heap.size, 0, none⟩ = some (.int .i64 lo) := by simp
      have u3 : (y11.alloc (.cells #[.int .i64 lo, .int .i64 hi] 45)).cell? ⟨y11.heap.size, 1, none⟩ = some (.int .i64 hi) := by simp
      replace HW := Lib.hid (HW.out.step hb)
      replace HT := Lib.hid (HT.out.step hb)
      replace k0 := cell_of_ans hb k0
      replace k1 := cell_of_ans hb k1
      replace HG := Lib.hid (HG.out.step hb)
      replace u0 := cell_of_ans hb u0
      replace u1 := cell_of_ans hb u1
      replace HX := Lib.hid (HX.out.step hb)
      replace HB := Lib.hid (HB.out.trans (hb.mono HB.out.size))
      clear hb
      generalize (y11.alloc (.cells #[.int .i64 lo, .int .i64 hi] 45)) = y12 at *
      generalize y11.heap.size = qy12 at *
      have e1 : ((r.length : Int) != (r.length : Int)) = false := by simp
      have e2 : (lo != lo) = false := by simp
      have e3 : (hi != hi) = false := by simp
      go_wp2_with fail
      clear e1 e2 e3
      go_loopw [11] (fun i wr => ∃ k n : Nat, k ≤ r.length ∧ i = .int .i64 k ∧ wr = y12.drewN n) (fun i _ => r.length - (intOf i).toNat)
      case atStart => exact ⟨0, 0, by omega, rfl, rfl⟩
      case round =>
        obtain ⟨k, n, hk, rfl, rfl⟩ := hrel
        by_cases h1 : k < r.length
        · obtain ⟨b1, o1, rfl, hb1, hc1⟩ := HG.out (by omega)
          obtain ⟨b2, o2, rfl, hb2', hc2⟩ := HX.out (by omega)
          obtain ⟨c1, c2⟩ := hc1 k h1
          obtain ⟨c3, c4⟩ := hc2 k h1
          have h1i : (k : Int) < (r.length : Int) := by omega
          generalize px r k = pa at *
          obtain ⟨pl, ph⟩ := pa
          have r3 : (pl != pl) = false := by simp
          have r4 : (ph != ph) = false := by simp
          clear hc1 hc2
          go_wp2_with fail
          go_quiet (fail)
          go_wp2_with fail
          go_roundw
          case rel =>
            have e1 : ((k : Int) + 1) = ((k + 1 : Nat) : Int) := by omega
            first
              | exact ⟨k + 1, _, by omega, by go_num, rfl⟩
              | (rw [e1]; exact ⟨_, _, _, _, _, _, _, _, _, _, _, _, _, _, _, _, _, _, _, _, _, _, _, _, ⟨k + 1, _, by omega, rfl, rfl⟩, rfl⟩)
          case measure =>
            first
              | (simp [intOf]; omega)
              | (show r.length - ((k : Int) + 1).toNat < r.length - (k : Int).toNat; omega)
        · have h1i : ¬ (k : Int) < (r.length : Int) := by omega
          go_wp2_with fail
          refine (HWK.out _).mono ?_
          rintro e w9 ⟨rfl, hb⟩
          go_wp2_with fail
          go_ret
          exact ⟨rfl, (below_drewN HB.out n).trans (hb.mono HB.out.size)⟩
    · have HEX := Lib.hid hex
      clear hex
      go_wp2_with fail
      refine (lane_c A ws c frn _ HW.out hc (by omega)).mono ?_
      rintro e y14 ⟨Al13, cl13, rfl, hO13, hb⟩
      replace HW := Lib.hid (HW.out.step hb)
      replace HT := Lib.hid (HT.out.step hb)
      replace k0 := cell_of_ans hb k0
      replace k1 := cell_of_ans hb k1
      replace HB := Lib.hid (HB.out.trans (hb.mono HB.out.size))
      clear hb
      obtain ⟨hq13, hqq13, hO13⟩ := hO13.wds
      have HL13 := Lib.hid hO13
      clear hO13
      go_wp2_with fail
      refine (list_c At ts ct _ HT.out (Nat.le_refl _) (by omega)).mono ?_
      rintro e y16 ⟨At15, ct15, rfl, hO15, hb⟩
      replace HW := Lib.hid (HW.out.step hb)
      replace HT := Lib.hid (HT.out.step hb)
      replace k0 := cell_of_ans hb k0
      replace k1 := cell_of_ans hb k1
      replace HL13 := Lib.hid (HL13.out.step hb)
      replace HB := Lib.hid (HB.out.trans (hb.mono HB.out.size))
      clear hb
      obtain ⟨hq15, hqq15, hO15⟩ := isInts_parts (ownsRow_isInts hO15)
      have HT15 := Lib.hid hO15
      clear hO15
      go_wp2_with fail
      refine (ranges_bad Al13 At15 ws ts cl13 ct15 frn _ HL13.out HT15.out ⟨hq13, hqq13⟩ ⟨hq15, hqq15⟩ HEX.out).mono ?_
      rintro e y17 ⟨rfl, hb⟩
      replace HW := Lib.hid (HW.out.step hb)
      replace HT := Lib.hid (HT.out.step hb)
      replace k0 := cell_of_ans hb k0
      replace k1 := cell_of_ans hb k1
      replace HL13 := Lib.hid (HL13.out.step hb)
      replace HT15 := Lib.hid (HT15.out.step hb)
      replace HB := Lib.hid (HB.out.trans (hb.mono HB.out.size))
      clear hb
      clear HL13 HT15
      go_upto_region 4 with fail
      have hb : Below y17.heap.size y17 (y17.alloc (.cells #[.int .i64 0, .int .i64 0] 41)) := (Below.refl _ _).alloc (Nat.le_refl _) _
      have u0 : (y17.alloc (.cells #[.int .i64 0, .int .i64 0] 41)).cell? ⟨y17.heap.size, 0, none⟩ = some (.int .i64 0) := by simp
      have u1 : (y17.alloc (.cells #[.int .i64 0, .int .i64 0] 41)).cell? ⟨y17.heap.size, 1, none⟩ = some (.int .i64 0) := by simp
      replace HW := Lib.hid (HW.out.step hb)
      replace HT := Lib.hid (HT.out.step hb)
      replace k0 := cell_of_ans hb k0
      replace k1 := cell_of_ans hb k1
      replace HB := Lib.hid (HB.out.trans (hb.mono HB.out.size))
      clear hb
      generalize (y17.alloc (.cells #[.int .i64 0, .int .i64 0] 41)) = y18 at *
      generalize y17.heap.size = qy18 at *
      go_wp2_with fail
      refine (explained27_c A At ws ts c ct frn _ HW.out HT.out hc hct).mono ?_
      rintro e y19 ⟨rfl, hb⟩
      replace HW := Lib.hid (HW.out.step hb)
      replace HT := Lib.hid (HT.out.step hb)
      replace k0 := cell_of_ans hb k0
      replace k1 := cell_of_ans hb k1
      replace u0 := cell_of_ans hb u0
      replace u1 := cell_of_ans hb u1
      replace HB := Lib.hid (HB.out.trans (hb.mono HB.out.size))
      clear hb
      have hn : (exErr frn ws ts != 0) = true := by simp [HEX.out]
      generalize exErr frn ws ts = er at *
      have hee : (er == er) = true := by simp
      have e41 := eq41 0 0 0 0
      go_wp2_with fail
      refine (HWK.out _).mono ?_
      rintro e y20 ⟨rfl, hb⟩
      replace HW := Lib.hid (HW.out.step hb)
      replace HT := Lib.hid (HT.out.step hb)
      replace k0 := cell_of_ans hb k0
      replace k1 := cell_of_ans hb k1
      replace u0 := cell_of_ans hb u0
      replace u1 := cell_of_ans hb u1
      replace HB := Lib.hid (HB.out.trans (hb.mono HB.out.size))
      clear hb
      go_wp2_with fail
      go_ret
      exact ⟨rfl, HB.out⟩
end Go.Proofs.Ytadjkinpimmhkaa
