/-
  The walk of the law SeenTruth.
-/
import Derived.Test.YtadjkinpimmhkaaFewerW
import Derived.Test.YtadjkinpimmhkaaTruthM
import Derived.Test.YtadjkinpimmhkaaPvA
import Derived.Test.YtadjkinpimmhkaaCopies
namespace Go.Proofs.Ytadjkinpimmhkaa
open Go.RowKit
set_option linter.unusedSimpArgs false
set_option linter.unusedVariables false

theorem true_isR (ns : List Int) (f : Nat) : isR (trueR ns f) = true := by
  rw [isR_iff]
  rcases trueR_row ns f with e | ⟨a, b, e, h1, h2, h3, h4⟩
  · rw [e]; simp [ix]
  · rw [e]; simp [ix]; omega
theorem true_isG (ns : List Int) (m : Nat) : isG m (trueG ns m) = true := by
  rw [isG_iff, trueG_len]
  refine ⟨rfl, fun f hf => ?_⟩
  rw [rx_trueG hf]
  exact true_isR ns f
theorem true_prove {m b : Nat} {ws : List Wd} {ns : List Int} (h : laneErr (m : Int) ws = 0) {o : Nat → Bool} (ho : ∀ j, j ≤ 3 → b.testBit j = true → o j = true) : proveB m (toldL (trueG ns m) ns b ws) o (trueG ns m) = true := by
  rw [proveB_iff]
  refine ⟨true_isG ns m, fun f hf => ?_⟩
  have h1 := stood_in (ns := ns) h ho hf
  have hr : isR (rx (trueG ns m) f) = true := by rw [rx_trueG hf]; exact true_isR ns f
  have e0 := behR_pair (b := 0) hr (by omega)
  have e1 := behR_pair (b := 1) hr (by omega)
  have e : stoodP ns m f = pairR (rx (trueG ns m) f) := by
    unfold stoodP
    rw [e0, e1]
    simp
  rw [← e]
  exact h1
def RngT (ns : List Int) (m : Nat) (r : List (Int × Int)) : Prop := r.length = 2 * m ∧ ∀ i, i < 2 * m → (px r i).1 ≤ behR (trueG ns m) (i / 2) (i % 2) ∧ behR (trueG ns m) (i / 2) (i % 2) ≤ (px r i).2
def SurT (m : Nat) (r s : List (Int × Int)) : Prop := ∀ j, j < s.length → ∃ i, i < 2 * m ∧ px s j = (((i / 2 : Nat) : Int), ((i % 2 : Nat) : Int)) ∧ (px r i).1 = (px r i).2
theorem cntT_even (ns : List Int) (m k : Nat) (h : k % 2 = 0) : cntT ns m ((k + 1) / 2) = cntT ns m (k / 2) := by rw [show (k + 1) / 2 = k / 2 by omega]
theorem cntT_odd (ns : List Int) (m k : Nat) (h : k % 2 = 1) : cntT ns m ((k + 1) / 2) = cntT ns m (k / 2) + (10 - behR (trueG ns m) (k / 2) (k % 2)) := by
  rw [show (k + 1) / 2 = k / 2 + 1 by omega, h]
  rfl

set_option maxRecDepth 100000 in
set_option maxHeartbeats 32000000 in
theorem seenTruth_c (A : Option Addr) (ws : List Wd) (c : Nat) (frn : Int) (An : Option Addr) (ns : List Int) (cn bi : Nat) (w : World) (hw : Wds w.heap.size w A ws) (hc : ws.length ≤ c ∧ c ≤ 9223372036854775807) (hn : U16s w.heap.size w An ns) (hcn : ns.length ≤ cn ∧ cn ≤ 9223372036854775807) (hbi : bi < 256) :
    Calls Try.prog 15 #[.agg #[.int .i64 frn, .slice A ws.length c], .slice An ns.length cn, .int .u8 (bi : Int)] w (Ans w (.bool true)) := by
  have hb0 : Below w.heap.size w (w.alloc (.cells #[.int .i64 frn, .slice A ws.length c] 24)) := (Below.refl _ _).alloc (Nat.le_refl _) _
  have k0 : (w.alloc (.cells #[.int .i64 frn, .slice A ws.length c] 24)).cell? ⟨w.heap.size, 0, none⟩ = some (.int .i64 frn) := by simp
  have k1 : (w.alloc (.cells #[.int .i64 frn, .slice A ws.length c] 24)).cell? ⟨w.heap.size, 1, none⟩ = some (.slice A ws.length c) := by simp
  have HB := Lib.hid hb0
  have HW := Lib.hid (hw.step hb0)
  have HWK := Lib.hid wakes_c
  have HN := Lib.hid (hn.step hb0)
  clear hn
  clear hb0 hw
  go_enter Try.func15, Try.ntmps15
  go_wp2_with fail
  generalize (w.alloc (.cells #[.int .i64 frn, .slice A ws.length c] 24)) = W0 at *
  have HRd := Lib.hid (ready_c A ws c frn W0 HW.out hc)
  cases hrd : decide (laneErr frn ws = 0)
  · rw [hrd] at HRd
    clear hrd
    refine (HRd.out).mono ?_
    rintro e y1 ⟨rfl, hb⟩
    replace HW := Lib.hid (HW.out.step hb)
    replace HN := Lib.hid (HN.out.step hb)
    replace k0 := cell_of_ans hb k0
    replace k1 := cell_of_ans hb k1
    replace HB := Lib.hid (HB.out.trans (hb.mono HB.out.size))
    clear hb
    go_wp2_with fail
    refine (HWK.out _).mono ?_
    rintro e y2 ⟨rfl, hb⟩
    replace HW := Lib.hid (HW.out.step hb)
    replace HN := Lib.hid (HN.out.step hb)
    replace k0 := cell_of_ans hb k0
    replace k1 := cell_of_ans hb k1
    replace HB := Lib.hid (HB.out.trans (hb.mono HB.out.size))
    clear hb
    go_wp2_with fail
    go_ret
    exact ⟨rfl, HB.out⟩
  · rw [hrd] at HRd
    have hle : laneErr frn ws = 0 := of_decide_eq_true hrd
    obtain ⟨h30, hf1, hf5, hok⟩ := laneOk hle
    obtain ⟨m, rfl⟩ : ∃ m : Nat, frn = (m : Int) := ⟨frn.toNat, by omega⟩
    have HLE := Lib.hid hle
    have HOK := Lib.hid hok
    have hm5 : m ≤ 5 := by omega
    clear hrd hle hok
    refine (HRd.out).mono ?_
    rintro e y3 ⟨rfl, hb⟩
    replace HW := Lib.hid (HW.out.step hb)
    replace HN := Lib.hid (HN.out.step hb)
    replace k0 := cell_of_ans hb k0
    replace k1 := cell_of_ans hb k1
    replace HB := Lib.hid (HB.out.trans (hb.mono HB.out.size))
    clear hb
    have HOO : Hid (∀ j, j ≤ 3 → bi.testBit j = true → offT (chTo bi 4) j = true) := fun j hj h => by rw [chTo_off _ _ (by omega)]; exact h
    obtain ⟨zs, hzs⟩ : ∃ zs : List Wd, zs = toldL (trueG ns m) ns bi ws := ⟨_, rfl⟩
    have HZS := Lib.hid hzs
    have HLZ : Hid (laneErr (m : Int) zs = 0) := by show _ = _; rw [hzs]; exact told_lane HLE.out
    have HEX : Hid (explB (m : Int) zs (offT (chTo bi 4)) = true) := by show _ = _; rw [hzs]; exact told_expl HLE.out HOO.out
    have HRT : Hid (RngT ns m (rangesL zs (offT (chTo bi 4)) m)) := by rw [hzs]; exact ⟨rangesL_len _ _ _, fun i hi => stood_rg HLE.out HOO.out hi⟩
    have HCT : Hid (cntLo zs (offT (chTo bi 4)) m ≤ cntT ns m m ∧ cntT ns m m ≤ cntHi zs (offT (chTo bi 4)) m) := by rw [hzs]; exact cnt_in HLE.out HOO.out m (Nat.le_refl _)
    have HST : Hid (SurT m (rangesL zs (offT (chTo bi 4)) m) (sureL zs (offT (chTo bi 4)) m)) := fun j hj => sure_mem hj
    have HSH : Hid ((leastL (explB (m : Int) zs)).length ≤ (chTo bi 4).length) := least_short HEX.out
    have HPV : Hid (proveB m zs (offT (chTo bi 4)) (trueG ns m) = true) := by show _ = _; rw [hzs]; exact true_prove HLE.out HOO.out
    have hzl0 : zs.length = ws.length := by rw [hzs, toldL_len]
    have HZL := Lib.hid hzl0
    have hzl : zs.length ≤ 1000000 := by omega
    clear hzs hzl0 HOO
    go_wp2_with fail
    refine (true_c An ns cn m _ HN.out hcn (by omega)).mono ?_
    rintro e y4 ⟨Ag, cg, vg, rfl, hR, hb⟩
    replace HW := Lib.hid (HW.out.step hb)
    replace HN := Lib.hid (HN.out.step hb)
    replace k0 := cell_of_ans hb k0
    replace k1 := cell_of_ans hb k1
    replace HB := Lib.hid (HB.out.trans (hb.mono HB.out.size))
    clear hb
    obtain ⟨hcg1, hcg2, hgr⟩ := grd_of hR.grd
    have HGR := Lib.hid hgr
    clear hR hgr
    have HTC : Hid (∀ W, Wds W.heap.size W A ws → Grd W.heap.size W Ag (trueG ns m) → U16s W.heap.size W An ns → Calls Try.prog 39 #[.agg #[.int .i64 (m : Int), .slice A ws.length c], .slice Ag (trueG ns m).length cg, .slice An ns.length cn, .int .u8 (bi : Int)] W (LanePost 56 W (m : Int) zs)) := fun W h1 h2 h3 => by
      rw [HZS.out]
      exact told_c A Ag An ws (trueG ns m) ns c cg cn bi m (m : Int) W h1 h2 h3 hc ⟨hcg1, hcg2⟩ hcn (by omega) hbi (trueG_len ns m) HOK.out true_vals true_bd
    go_wp2_with fail
    refine (HTC.out _ HW.out HGR.out HN.out).mono ?_
    rintro e y5 ⟨Az, cz, rfl, hO, hb⟩
    replace HW := Lib.hid (HW.out.step hb)
    replace HN := Lib.hid (HN.out.step hb)
    replace k0 := cell_of_ans hb k0
    replace k1 := cell_of_ans hb k1
    replace HGR := Lib.hid (HGR.out.step hb)
    replace HB := Lib.hid (HB.out.trans (hb.mono HB.out.size))
    clear hb
    obtain ⟨hcz1, hcz2, hO⟩ := hO.wds
    have HZ := Lib.hid hO
    clear hO
    have hcz : zs.length ≤ cz ∧ cz ≤ 9223372036854775807 := ⟨hcz1, hcz2⟩
    go_wp2_with fail
    refine (chosen_c bi hbi _).mono ?_
    rintro e y6 ⟨AcA, ccA, rfl, hO, hb⟩
    replace HW := Lib.hid (HW.out.step hb)
    replace HN := Lib.hid (HN.out.step hb)
    replace k0 := cell_of_ans hb k0
    replace k1 := cell_of_ans hb k1
    replace HGR := Lib.hid (HGR.out.step hb)
    replace HZ := Lib.hid (HZ.out.step hb)
    replace HB := Lib.hid (HB.out.trans (hb.mono HB.out.size))
    clear hb
    obtain ⟨hcA, hccA, hO⟩ := isInts_parts (ownsRow_isInts hO)
    have HCA := Lib.hid hO
    clear hO
    have hlA := chTo_len (bi) 4
    have HRA := Lib.hid (chTo_rise bi)
    have hfl : (chTo bi 4).length ≤ 1000 := by omega
    generalize chTo bi 4 = fa at *
    have HEZ := Lib.hid (ex_zero HLZ.out HRA.out HEX.out)
    have HAZ := Lib.hid (ask_zero HLZ.out HRA.out)
    go_upto_region 5 with fail
    have hb : Below y6.heap.size y6 (y6.alloc (.cells #[.int .i64 (m : Int), .slice Az zs.length cz] 24)) := (Below.refl _ _).alloc (Nat.le_refl _) _
    have z0 : (y6.alloc (.cells #[.int .i64 (m : Int), .slice Az zs.length cz] 24)).cell? ⟨y6.heap.size, 0, none⟩ = some (.int .i64 (m : Int)) := by simp
    have z1 : (y6.alloc (.cells #[.int .i64 (m : Int), .slice Az zs.length cz] 24)).cell? ⟨y6.heap.size, 1, none⟩ = some (.slice Az zs.length cz) := by simp
    replace HW := Lib.hid (HW.out.step hb)
    replace HN := Lib.hid (HN.out.step hb)
    replace k0 := cell_of_ans hb k0
    replace k1 := cell_of_ans hb k1
    replace HGR := Lib.hid (HGR.out.step hb)
    replace HZ := Lib.hid (HZ.out.step hb)
    replace HCA := Lib.hid (HCA.out.step hb)
    replace HB := Lib.hid (HB.out.trans (hb.mono HB.out.size))
    clear hb
    generalize (y6.alloc (.cells #[.int .i64 (m : Int), .slice Az zs.length cz] 24)) = y7 at *
    generalize y6.heap.size = qz at *
    go_wp2_with fail
    refine (lane_c Az zs cz (m : Int) _ HZ.out hcz hzl).mono ?_
    rintro e y9 ⟨Al8, cl8, rfl, hO8, hb⟩
    replace HW := Lib.hid (HW.out.step hb)
    replace HN := Lib.hid (HN.out.step hb)
    replace k0 := cell_of_ans hb k0
    replace k1 := cell_of_ans hb k1
    replace HGR := Lib.hid (HGR.out.step hb)
    replace HZ := Lib.hid (HZ.out.step hb)
    replace HCA := Lib.hid (HCA.out.step hb)
    replace z0 := cell_of_ans hb z0
    replace z1 := cell_of_ans hb z1
    replace HB := Lib.hid (HB.out.trans (hb.mono HB.out.size))
    clear hb
    obtain ⟨hq8, hqq8, hO8⟩ := hO8.wds
    have HL8 := Lib.hid hO8
    clear hO8
    go_wp2_with fail
    refine (list_c AcA fa ccA _ HCA.out (Nat.le_refl _) (by omega)).mono ?_
    rintro e y11 ⟨At10, ct10, rfl, hO10, hb⟩
    replace HW := Lib.hid (HW.out.step hb)
    replace HN := Lib.hid (HN.out.step hb)
    replace k0 := cell_of_ans hb k0
    replace k1 := cell_of_ans hb k1
    replace HGR := Lib.hid (HGR.out.step hb)
    replace HZ := Lib.hid (HZ.out.step hb)
    replace HCA := Lib.hid (HCA.out.step hb)
    replace z0 := cell_of_ans hb z0
    replace z1 := cell_of_ans hb z1
    replace HL8 := Lib.hid (HL8.out.step hb)
    replace HB := Lib.hid (HB.out.trans (hb.mono HB.out.size))
    clear hb
    obtain ⟨hq10, hqq10, hO10⟩ := isInts_parts (ownsRow_isInts hO10)
    have HT10 := Lib.hid hO10
    clear hO10
    go_wp2_with fail
    refine (explains_z (ws := zs) Al8 At10 cl8 ct10 _ HL8.out HT10.out ⟨hq8, hqq8⟩ ⟨hq10, hqq10⟩ HLZ.out HRA.out).mono ?_
    rintro e y12 ⟨rfl, hb⟩
    replace HW := Lib.hid (HW.out.step hb)
    replace HN := Lib.hid (HN.out.step hb)
    replace k0 := cell_of_ans hb k0
    replace k1 := cell_of_ans hb k1
    replace HGR := Lib.hid (HGR.out.step hb)
    replace HZ := Lib.hid (HZ.out.step hb)
    replace HCA := Lib.hid (HCA.out.step hb)
    replace z0 := cell_of_ans hb z0
    replace z1 := cell_of_ans hb z1
    replace HL8 := Lib.hid (HL8.out.step hb)
    replace HT10 := Lib.hid (HT10.out.step hb)
    replace HB := Lib.hid (HB.out.trans (hb.mono HB.out.size))
    clear hb
    clear HL8 HT10
    rw [HEX.out]
    go_wp2_with fail
    refine (lane_c Az zs cz (m : Int) _ HZ.out hcz hzl).mono ?_
    rintro e y14 ⟨Al13, cl13, rfl, hO13, hb⟩
    replace HW := Lib.hid (HW.out.step hb)
    replace HN := Lib.hid (HN.out.step hb)
    replace k0 := cell_of_ans hb k0
    replace k1 := cell_of_ans hb k1
    replace HGR := Lib.hid (HGR.out.step hb)
    replace HZ := Lib.hid (HZ.out.step hb)
    replace HCA := Lib.hid (HCA.out.step hb)
    replace z0 := cell_of_ans hb z0
    replace z1 := cell_of_ans hb z1
    replace HB := Lib.hid (HB.out.trans (hb.mono HB.out.size))
    clear hb
    obtain ⟨hq13, hqq13, hO13⟩ := hO13.wds
    have HL13 := Lib.hid hO13
    clear hO13
    go_wp2_with fail
    refine (list_c AcA fa ccA _ HCA.out (Nat.le_refl _) (by omega)).mono ?_
    rintro e y16 ⟨At15, ct15, rfl, hO15, hb⟩
    replace HW := Lib.hid (HW.out.step hb)
    replace HN := Lib.hid (HN.out.step hb)
    replace k0 := cell_of_ans hb k0
    replace k1 := cell_of_ans hb k1
    replace HGR := Lib.hid (HGR.out.step hb)
    replace HZ := Lib.hid (HZ.out.step hb)
    replace HCA := Lib.hid (HCA.out.step hb)
    replace z0 := cell_of_ans hb z0
    replace z1 := cell_of_ans hb z1
    replace HL13 := Lib.hid (HL13.out.step hb)
    replace HB := Lib.hid (HB.out.trans (hb.mono HB.out.size))
    clear hb
    obtain ⟨hq15, hqq15, hO15⟩ := isInts_parts (ownsRow_isInts hO15)
    have HT15 := Lib.hid hO15
    clear hO15
    go_wp2_with fail
    refine (ranges_ok Al13 At15 zs fa cl13 ct15 (m : Int) _ HL13.out HT15.out ⟨hq13, hqq13⟩ ⟨hq15, hqq15⟩ HEZ.out).mono ?_
    rintro e y17 ⟨Ar, cr, rfl, hcr, hR, hb⟩
    replace HW := Lib.hid (HW.out.step hb)
    replace HN := Lib.hid (HN.out.step hb)
    replace k0 := cell_of_ans hb k0
    replace k1 := cell_of_ans hb k1
    replace HGR := Lib.hid (HGR.out.step hb)
    replace HZ := Lib.hid (HZ.out.step hb)
    replace HCA := Lib.hid (HCA.out.step hb)
    replace z0 := cell_of_ans hb z0
    replace z1 := cell_of_ans hb z1
    replace HL13 := Lib.hid (HL13.out.step hb)
    replace HT15 := Lib.hid (HT15.out.step hb)
    replace HB := Lib.hid (HB.out.trans (hb.mono HB.out.size))
    clear hb
    clear HL13 HT15
    have HG := Lib.hid hR
    clear hR
    rw [Int.toNat_natCast] at *
    generalize rangesL zs (offT fa) m = r at *
    generalize cntLo zs (offT fa) m = lo at *
    generalize cntHi zs (offT fa) m = hi at *
    go_upto_region 7 with fail
    have hb : Below y17.heap.size y17 (y17.alloc (.cells #[.int .i64 lo, .int .i64 hi] 41)) := (Below.refl _ _).alloc (Nat.le_refl _) _
    have u0 : (y17.alloc (.cells #[.int .i64 lo, .int .i64 hi] 41)).cell? ⟨y17.heap.size, 0, none⟩ = some (.int .i64 lo) := by simp
    have u1 : (y17.alloc (.cells #[.int .i64 lo, .int .i64 hi] 41)).cell? ⟨y17.heap.size, 1, none⟩ = some (.int .i64 hi) := by simp
    replace HW := Lib.hid (HW.out.step hb)
    replace HN := Lib.hid (HN.out.step hb)
    replace k0 := cell_of_ans hb k0
    replace k1 := cell_of_ans hb k1
    replace HGR := Lib.hid (HGR.out.step hb)
    replace HZ := Lib.hid (HZ.out.step hb)
    replace HCA := Lib.hid (HCA.out.step hb)
    replace z0 := cell_of_ans hb z0
    replace z1 := cell_of_ans hb z1
    replace HG := Lib.hid (HG.out.step hb)
    replace HB := Lib.hid (HB.out.trans (hb.mono HB.out.size))
    clear hb
    generalize (y17.alloc (.cells #[.int .i64 lo, .int .i64 hi] 41)) = y18 at *
    generalize y17.heap.size = qy18 at *
    go_wp2_with fail
    refine (lane_c Az zs cz (m : Int) _ HZ.out hcz hzl).mono ?_
    rintro e y20 ⟨Al19, cl19, rfl, hO19, hb⟩
    replace HW := Lib.hid (HW.out.step hb)
    replace HN := Lib.hid (HN.out.step hb)
    replace k0 := cell_of_ans hb k0
    replace k1 := cell_of_ans hb k1
    replace HGR := Lib.hid (HGR.out.step hb)
    replace HZ := Lib.hid (HZ.out.step hb)
    replace HCA := Lib.hid (HCA.out.step hb)
    replace z0 := cell_of_ans hb z0
    replace z1 := cell_of_ans hb z1
    replace HG := Lib.hid (HG.out.step hb)
    replace u0 := cell_of_ans hb u0
    replace u1 := cell_of_ans hb u1
    replace HB := Lib.hid (HB.out.trans (hb.mono HB.out.size))
    clear hb
    obtain ⟨hq19, hqq19, hO19⟩ := hO19.wds
    have HL19 := Lib.hid hO19
    clear hO19
    go_wp2_with fail
    refine (list_c AcA fa ccA _ HCA.out (Nat.le_refl _) (by omega)).mono ?_
    rintro e y22 ⟨At21, ct21, rfl, hO21, hb⟩
    replace HW := Lib.hid (HW.out.step hb)
    replace HN := Lib.hid (HN.out.step hb)
    replace k0 := cell_of_ans hb k0
    replace k1 := cell_of_ans hb k1
    replace HGR := Lib.hid (HGR.out.step hb)
    replace HZ := Lib.hid (HZ.out.step hb)
    replace HCA := Lib.hid (HCA.out.step hb)
    replace z0 := cell_of_ans hb z0
    replace z1 := cell_of_ans hb z1
    replace HG := Lib.hid (HG.out.step hb)
    replace u0 := cell_of_ans hb u0
    replace u1 := cell_of_ans hb u1
    replace HL19 := Lib.hid (HL19.out.step hb)
    replace HB := Lib.hid (HB.out.trans (hb.mono HB.out.size))
    clear hb
    obtain ⟨hq21, hqq21, hO21⟩ := isInts_parts (ownsRow_isInts hO21)
    have HT21 := Lib.hid hO21
    clear hO21
    go_wp2_with fail
    refine (sure_ok Al19 At21 zs fa cl19 ct21 (m : Int) _ HL19.out HT21.out ⟨hq19, hqq19⟩ ⟨hq21, hqq21⟩ HEZ.out).mono ?_
    rintro e y23 ⟨Ap, cp, rfl, hO, hb⟩
    replace HW := Lib.hid (HW.out.step hb)
    replace HN := Lib.hid (HN.out.step hb)
    replace k0 := cell_of_ans hb k0
    replace k1 := cell_of_ans hb k1
    replace HGR := Lib.hid (HGR.out.step hb)
    replace HZ := Lib.hid (HZ.out.step hb)
    replace HCA := Lib.hid (HCA.out.step hb)
    replace z0 := cell_of_ans hb z0
    replace z1 := cell_of_ans hb z1
    replace HG := Lib.hid (HG.out.step hb)
    replace u0 := cell_of_ans hb u0
    replace u1 := cell_of_ans hb u1
    replace HL19 := Lib.hid (HL19.out.step hb)
    replace HT21 := Lib.hid (HT21.out.step hb)
    replace HB := Lib.hid (HB.out.trans (hb.mono HB.out.size))
    clear hb
    clear HL19 HT21
    rw [Int.toNat_natCast] at *
    obtain ⟨hcp1, hcp2, hO⟩ := hO.rgs
    have HP := Lib.hid hO
    clear hO
    generalize sureL zs (offT fa) m = sv at *
    go_wp2_with fail
    refine (lane_c Az zs cz (m : Int) _ HZ.out hcz hzl).mono ?_
    rintro e y25 ⟨Al24, cl24, rfl, hO24, hb⟩
    replace HW := Lib.hid (HW.out.step hb)
    replace HN := Lib.hid (HN.out.step hb)
    replace k0 := cell_of_ans hb k0
    replace k1 := cell_of_ans hb k1
    replace HGR := Lib.hid (HGR.out.step hb)
    replace HZ := Lib.hid (HZ.out.step hb)
    replace HCA := Lib.hid (HCA.out.step hb)
    replace z0 := cell_of_ans hb z0
    replace z1 := cell_of_ans hb z1
    replace HG := Lib.hid (HG.out.step hb)
    replace u0 := cell_of_ans hb u0
    replace u1 := cell_of_ans hb u1
    replace HP := Lib.hid (HP.out.step hb)
    replace HB := Lib.hid (HB.out.trans (hb.mono HB.out.size))
    clear hb
    obtain ⟨hq24, hqq24, hO24⟩ := hO24.wds
    have HL24 := Lib.hid hO24
    clear hO24
    go_wp2_with fail
    refine (least_ok Al24 zs cl24 (m : Int) _ HL24.out ⟨hq24, hqq24⟩ HLZ.out).mono ?_
    rintro e y26 ⟨Ax, cx, rfl, -, hb⟩
    replace HW := Lib.hid (HW.out.step hb)
    replace HN := Lib.hid (HN.out.step hb)
    replace k0 := cell_of_ans hb k0
    replace k1 := cell_of_ans hb k1
    replace HGR := Lib.hid (HGR.out.step hb)
    replace HZ := Lib.hid (HZ.out.step hb)
    replace HCA := Lib.hid (HCA.out.step hb)
    replace z0 := cell_of_ans hb z0
    replace z1 := cell_of_ans hb z1
    replace HG := Lib.hid (HG.out.step hb)
    replace u0 := cell_of_ans hb u0
    replace u1 := cell_of_ans hb u1
    replace HP := Lib.hid (HP.out.step hb)
    replace HL24 := Lib.hid (HL24.out.step hb)
    replace HB := Lib.hid (HB.out.trans (hb.mono HB.out.size))
    clear hb
    clear HL24
    generalize (leastL (explB (m : Int) zs)).length = nl at *
    obtain ⟨hrl, hrr⟩ := HRT.out
    have hm2 : IntKind.i64.wrap (2 * (m : Int)) = 2 * (m : Int) := IntWalk.i64_in _ (by omega)
    have hlm : ((r.length : Int) != 2 * (m : Int)) = false := bne_eq_false_iff_eq.2 (by omega)
    have hsh : decide ((nl : Int) > (fa.length : Int)) = false := decide_eq_false (by have := HSH.out; omega)
    have hsh2 : decide (fa.length < nl) = false := decide_eq_false (by have := HSH.out; omega)
    have HRR := Lib.hid hrr
    have HRL := Lib.hid hrl
    clear hrr hrl
    go_wp2_with fail
    refine (lane_c Az zs cz (m : Int) _ HZ.out hcz hzl).mono ?_
    rintro e y28 ⟨Al27, cl27, rfl, hO27, hb⟩
    replace HW := Lib.hid (HW.out.step hb)
    replace HN := Lib.hid (HN.out.step hb)
    replace k0 := cell_of_ans hb k0
    replace k1 := cell_of_ans hb k1
    replace HGR := Lib.hid (HGR.out.step hb)
    replace HZ := Lib.hid (HZ.out.step hb)
    replace HCA := Lib.hid (HCA.out.step hb)
    replace z0 := cell_of_ans hb z0
    replace z1 := cell_of_ans hb z1
    replace HG := Lib.hid (HG.out.step hb)
    replace u0 := cell_of_ans hb u0
    replace u1 := cell_of_ans hb u1
    replace HP := Lib.hid (HP.out.step hb)
    replace HB := Lib.hid (HB.out.trans (hb.mono HB.out.size))
    clear hb
    obtain ⟨hq27, hqq27, hO27⟩ := hO27.wds
    have HL27 := Lib.hid hO27
    clear hO27
    go_wp2_with fail
    refine (list_c AcA fa ccA _ HCA.out (Nat.le_refl _) (by omega)).mono ?_
    rintro e y30 ⟨At29, ct29, rfl, hO29, hb⟩
    replace HW := Lib.hid (HW.out.step hb)
    replace HN := Lib.hid (HN.out.step hb)
    replace k0 := cell_of_ans hb k0
    replace k1 := cell_of_ans hb k1
    replace HGR := Lib.hid (HGR.out.step hb)
    replace HZ := Lib.hid (HZ.out.step hb)
    replace HCA := Lib.hid (HCA.out.step hb)
    replace z0 := cell_of_ans hb z0
    replace z1 := cell_of_ans hb z1
    replace HG := Lib.hid (HG.out.step hb)
    replace u0 := cell_of_ans hb u0
    replace u1 := cell_of_ans hb u1
    replace HP := Lib.hid (HP.out.step hb)
    replace HL27 := Lib.hid (HL27.out.step hb)
    replace HB := Lib.hid (HB.out.trans (hb.mono HB.out.size))
    clear hb
    obtain ⟨hq29, hqq29, hO29⟩ := isInts_parts (ownsRow_isInts hO29)
    have HT29 := Lib.hid hO29
    clear hO29
    go_wp2_with fail
    refine (rows_c Ag (trueG ns m) cg _ HGR.out (by rw [trueG_len]; omega) (fun f hf => by rw [trueG_len] at hf; rw [rx_trueG hf]; rcases trueR_row ns f with e | ⟨a, b, e, -⟩ <;> rw [e] <;> simp)).mono ?_
    rintro e y31 ⟨Agr, cgr, vgr, rfl, hR, hb⟩
    replace HW := Lib.hid (HW.out.step hb)
    replace HN := Lib.hid (HN.out.step hb)
    replace k0 := cell_of_ans hb k0
    replace k1 := cell_of_ans hb k1
    replace HGR := Lib.hid (HGR.out.step hb)
    replace HZ := Lib.hid (HZ.out.step hb)
    replace HCA := Lib.hid (HCA.out.step hb)
    replace z0 := cell_of_ans hb z0
    replace z1 := cell_of_ans hb z1
    replace HG := Lib.hid (HG.out.step hb)
    replace u0 := cell_of_ans hb u0
    replace u1 := cell_of_ans hb u1
    replace HP := Lib.hid (HP.out.step hb)
    replace HL27 := Lib.hid (HL27.out.step hb)
    replace HT29 := Lib.hid (HT29.out.step hb)
    replace HB := Lib.hid (HB.out.trans (hb.mono HB.out.size))
    clear hb
    obtain ⟨hcr1, hcr2, hgr⟩ := grd_of hR.grd
    have HGS := Lib.hid hgr
    clear hR hgr
    go_wp2_with fail
    refine (prove_ok Al27 At29 Agr zs fa (trueG ns m) cl27 ct29 cgr m _ HL27.out HT29.out HGS.out ⟨hq27, hqq27⟩ ⟨hq29, hqq29⟩ ⟨hcr1, hcr2⟩ HAZ.out).mono ?_
    rintro e y32 ⟨rfl, hb⟩
    replace HW := Lib.hid (HW.out.step hb)
    replace HN := Lib.hid (HN.out.step hb)
    replace k0 := cell_of_ans hb k0
    replace k1 := cell_of_ans hb k1
    replace HGR := Lib.hid (HGR.out.step hb)
    replace HZ := Lib.hid (HZ.out.step hb)
    replace HCA := Lib.hid (HCA.out.step hb)
    replace z0 := cell_of_ans hb z0
    replace z1 := cell_of_ans hb z1
    replace HG := Lib.hid (HG.out.step hb)
    replace u0 := cell_of_ans hb u0
    replace u1 := cell_of_ans hb u1
    replace HP := Lib.hid (HP.out.step hb)
    replace HL27 := Lib.hid (HL27.out.step hb)
    replace HT29 := Lib.hid (HT29.out.step hb)
    replace HB := Lib.hid (HB.out.trans (hb.mono HB.out.size))
    clear hb
    clear HL27 HT29
    rw [HPV.out]
    go_wp2_with fail
    clear hsh hsh2 hlm hm2
    obtain ⟨wd, hwd⟩ : ∃ wd : World, wd = y32 := ⟨_, rfl⟩
    rw [← hwd] at HW HN HGR HZ HCA HG HP HB u0 u1 ⊢
    clear hwd
    go_loopw [20, 19] (fun i v wr => ∃ k : Nat, k ≤ r.length ∧ i = .int .i64 k ∧ v = .int .i64 (cntT ns m (k / 2)) ∧ wr = wd) (fun i _ _ => r.length - (intOf i).toNat)
    case atStart => exact ⟨0, by omega, rfl, rfl, rfl⟩
    case round =>
      obtain ⟨k, hk, rfl, rfl, hwr⟩ := hrel
      subst hwr
      by_cases h1 : k < r.length
      · have h1i : (k : Int) < (r.length : Int) := by omega
        obtain ⟨b1, o1, hA1, hb1, hc1⟩ := HG.out (by omega)
        subst hA1
        obtain ⟨c1, c2⟩ := hc1 k h1
        have hkm : k < 2 * m := by have := HRL.out; omega
        obtain ⟨r1, r2⟩ := HRR.out k hkm
        have hbd := cntT_bd (ns := ns) (m := m) (k / 2) (by omega)
        obtain ⟨b0, b9⟩ := true_bd (ns := ns) (m := m) (k / 2) (by omega) (k % 2) (by omega)
        have HBE := Lib.hid (behind_c Ag (trueG ns m) cg (k / 2) (k % 2) wr HGR.out ⟨hcg1, hcg2⟩ (by rw [trueG_len]; omega) (by omega) (true_vals (k / 2) (by rw [trueG_len]; omega)))
        have HEV := Lib.hid (cntT_even ns m k)
        have HOD := Lib.hid (cntT_odd ns m k)
        generalize px r k = pa at *
        obtain ⟨pl1, ph1⟩ := pa
        dsimp only at c1 c2 r1 r2
        generalize behR (trueG ns m) (k / 2) (k % 2) = be at *
        generalize cntT ns m (k / 2) = ct0 at *
        generalize hct1 : cntT ns m ((k + 1) / 2) = ct1 at *
        have HC1 := Lib.hid hct1
        clear hct1
        have hkp : k % 2 = 0 ∨ k % 2 = 1 := by omega
        have hdiv : (k : Int).tdiv 2 = ((k / 2 : Nat) : Int) := by rw [Int.tdiv_eq_ediv_of_nonneg (by omega)]; omega
        have hmod : (k : Int).tmod 2 = ((k % 2 : Nat) : Int) := by rw [Int.tmod_eq_emod_of_nonneg (by omega)]; omega
        have hdiv2 : (k : Int) / 2 = ((k / 2 : Nat) : Int) := by omega
        have hmod2 : (k : Int) % 2 = ((k % 2 : Nat) : Int) := by omega
        have hw1 : IntKind.i64.wrap ((k / 2 : Nat) : Int) = ((k / 2 : Nat) : Int) := IntWalk.i64_in _ (by omega)
        have hw2 : IntKind.i64.wrap ((k % 2 : Nat) : Int) = ((k % 2 : Nat) : Int) := IntWalk.i64_in _ (by omega)
        generalize hkd : k / 2 = kd at *
        generalize hkm2 : k % 2 = km at *
        have HKD := Lib.hid hkd
        have HKM := Lib.hid hkm2
        clear hc1 hkd hkm2
        have t1 : decide (be < pl1) = false := decide_eq_false (by omega)
        have t2 : decide (ph1 < be) = false := decide_eq_false (by omega)
        have t3 : decide (be > ph1) = false := decide_eq_false (by omega)
        have hw3 : IntKind.i64.wrap (10 - be) = 10 - be := IntWalk.i64_in _ (by omega)
        have hw4 : IntKind.i64.wrap (ct0 + (10 - be)) = ct0 + (10 - be) := IntWalk.i64_in _ (by omega)
        rcases hkp with hkp | hkp
        · have t4 : ((km : Int) == 1) = false := by rw [hkp]; rfl
          have HE : Hid (ct1 = ct0) := HEV.out hkp
          clear hkp r1 r2
          go_wp2_with fail
          refine HBE.out.mono ?_
          rintro e w9 ⟨rfl, rfl⟩
          go_wp2_with fail
          go_roundw
          case rel => exact ⟨k + 1, by omega, by go_num, by rw [HC1.out, HE.out], by trivial⟩
          case measure => simp [intOf]; omega
        · have t4 : ((km : Int) == 1) = true := by rw [hkp]; rfl
          have HE : Hid (ct1 = ct0 + (10 - be)) := HOD.out hkp
          clear hkp r1 r2
          go_wp2_with fail
          refine HBE.out.mono ?_
          rintro e w9 ⟨rfl, rfl⟩
          go_wp2_with fail
          go_roundw
          case rel => exact ⟨k + 1, by omega, by go_num, by rw [HC1.out, HE.out], by trivial⟩
          case measure => simp [intOf]; omega
      · obtain rfl : k = r.length := by omega
        have h1i : ¬ (r.length : Int) < (r.length : Int) := by omega
        have hcm : cntT ns m (r.length / 2) = cntT ns m m := by rw [HRL.out, show 2 * m / 2 = m by omega]
        rw [hcm]
        obtain ⟨hc1, hc2⟩ := HCT.out
        generalize cntT ns m m = cm at *
        clear hcm h1 hk
        have t5 : decide (cm ≥ lo) = true := decide_eq_true hc1
        have t6 : decide (lo ≤ cm) = true := decide_eq_true hc1
        have t7 : decide (cm ≤ hi) = true := decide_eq_true hc2
        go_wp2_with fail
        obtain ⟨we, hwe⟩ : ∃ we : World, we = wr := ⟨_, rfl⟩
        rw [← hwe] at HW HN HGR HZ HCA HG HP HB u0 u1 ⊢
        clear hwe
        go_loopw [22] (fun i wr => ∃ j n : Nat, j ≤ sv.length ∧ i = .int .i64 j ∧ wr = we.drewN n) (fun i _ => sv.length - (intOf i).toNat)
        case atStart => exact ⟨0, 0, by omega, rfl, rfl⟩
        case round =>
          obtain ⟨j, n, hj, rfl, hwr⟩ := hrel
          by_cases h2 : j < sv.length
          · have h2i : (j : Int) < (sv.length : Int) := by omega
            have hbw : Below we.heap.size we wr := by rw [hwr]; exact below_drewN (Below.refl _ _) n
            obtain ⟨i, hi1, hi2, hi3⟩ := HST.out j h2
            obtain ⟨b2, o2, hA2, hb2', hc2'⟩ := (HP.out.step hbw) (by omega)
            obtain ⟨b1, o1, hA1, hb1, hc1'⟩ := (HG.out.step hbw) (by have := HRL.out; omega)
            have hir : i < r.length := by have := HRL.out; omega
            subst hA1 hA2
            obtain ⟨c1, c2⟩ := hc2' j h2
            obtain ⟨c3, c4⟩ := hc1' i hir
            rw [hi2] at c1 c2
            rw [hi3] at c3
            generalize (px r i).2 = pv at *
            dsimp only at c1 c2
            have hiri : (i : Int) < (r.length : Int) := by omega
            have hw5 : IntKind.i64.wrap (2 * ((i / 2 : Nat) : Int)) = 2 * ((i / 2 : Nat) : Int) := IntWalk.i64_in _ (by omega)
            have hw6 : IntKind.i64.wrap (2 * ((i / 2 : Nat) : Int) + ((i % 2 : Nat) : Int)) = (i : Int) := by rw [IntWalk.i64_in _ (by omega)]; omega
            have t8 : decide ((i : Int) < 0) = false := decide_eq_false (by omega)
            have t9 : decide ((i : Int) ≥ (r.length : Int)) = false := decide_eq_false (by omega)
            have t10 : decide (r.length ≤ i) = false := decide_eq_false (by omega)
            have t11 : (pv != pv) = false := bne_self_eq_false _
            generalize hi4 : i / 2 = id at *
            generalize hi5 : i % 2 = im at *
            have HWR := Lib.hid hwr
            clear hc2' hc1' hi2 hi3 hi4 hi5 hbw hwr
            go_wp2_with fail
            go_quiet (fail)
            go_wp2_with fail
            go_quiet (fail)
            go_wp2_with fail
            go_roundw
            case rel =>
              exact ⟨j + 1, _, by omega, by go_num, by rw [HWR.out]; exact World.drewN_drewN _ _ _⟩
            case measure =>
              first
                | (simp [intOf]; omega)
                | (show sv.length - ((j : Int) + 1).toNat < sv.length - (j : Int).toNat; omega)
          · have h2i : ¬ (j : Int) < (sv.length : Int) := by omega
            have HBZ : Hid (Below w.heap.size w wr) := by rw [hwr]; exact below_drewN HB.out n
            have u0' : wr.cell? ⟨qy18, 0, none⟩ = some (.int .i64 lo) := by rw [hwr]; exact u0
            have u1' : wr.cell? ⟨qy18, 1, none⟩ = some (.int .i64 hi) := by rw [hwr]; exact u1
            clear hwr
            go_wp2_with fail
            refine (HWK.out _).mono ?_
            rintro e w9 ⟨rfl, hb⟩
            go_wp2_with fail
            go_ret
            exact ⟨rfl, HBZ.out.trans (hb.mono HBZ.out.size)⟩
end Go.Proofs.Ytadjkinpimmhkaa
