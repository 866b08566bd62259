/-
  The walk of the law SeenMore.
-/
import Derived.Test.YtadjkinpimmhkaaFewerW
import Derived.Test.YtadjkinpimmhkaaNarrow
import Derived.Test.YtadjkinpimmhkaaRegW
namespace Go.Proofs.Ytadjkinpimmhkaa
open Go.RowKit
set_option linter.unusedSimpArgs false
set_option linter.unusedVariables false

def BelM (y w : World) : Prop := Below y.heap.size y w
set_option maxRecDepth 100000 in
set_option maxHeartbeats 32000000 in
theorem seenMore_c (A : Option Addr) (ws : List Wd) (c : Nat) (frn : Int) (bi pl : Nat) (pf pb pt plo phi : Int) (w : World) (hw : Wds w.heap.size w A ws) (hc : ws.length ≤ c ∧ c ≤ 9223372036854775807) (hbi : bi < 256) (hpl : pl < 256) :
    Calls Try.prog 12 #[.agg #[.int .i64 frn, .slice A ws.length c], .int .u8 (bi : Int), .int .u8 (pl : Int), .agg #[.int .i64 pf, .int .i64 pb, .int .i64 pt, .int .i64 plo, .int .i64 phi]] w (Ans w (.bool true)) := by
  have hb0 : Below w.heap.size w ((w.alloc (.cells #[.int .i64 frn, .slice A ws.length c] 24)).alloc (.cells #[.int .i64 pf, .int .i64 pb, .int .i64 pt, .int .i64 plo, .int .i64 phi] 56)) := ((Below.refl _ _).alloc (Nat.le_refl _) _).alloc (by simp) _
  have k0 : ((w.alloc (.cells #[.int .i64 frn, .slice A ws.length c] 24)).alloc (.cells #[.int .i64 pf, .int .i64 pb, .int .i64 pt, .int .i64 plo, .int .i64 phi] 56)).cell? ⟨w.heap.size, 0, none⟩ = some (.int .i64 frn) := by go_simp
  have k1 : ((w.alloc (.cells #[.int .i64 frn, .slice A ws.length c] 24)).alloc (.cells #[.int .i64 pf, .int .i64 pb, .int .i64 pt, .int .i64 plo, .int .i64 phi] 56)).cell? ⟨w.heap.size, 1, none⟩ = some (.slice A ws.length c) := by go_simp
  have p0 : ((w.alloc (.cells #[.int .i64 frn, .slice A ws.length c] 24)).alloc (.cells #[.int .i64 pf, .int .i64 pb, .int .i64 pt, .int .i64 plo, .int .i64 phi] 56)).cell? ⟨w.heap.size + 1, 0, none⟩ = some (.int .i64 pf) := by go_simp
  have p1 : ((w.alloc (.cells #[.int .i64 frn, .slice A ws.length c] 24)).alloc (.cells #[.int .i64 pf, .int .i64 pb, .int .i64 pt, .int .i64 plo, .int .i64 phi] 56)).cell? ⟨w.heap.size + 1, 1, none⟩ = some (.int .i64 pb) := by go_simp
  have p2 : ((w.alloc (.cells #[.int .i64 frn, .slice A ws.length c] 24)).alloc (.cells #[.int .i64 pf, .int .i64 pb, .int .i64 pt, .int .i64 plo, .int .i64 phi] 56)).cell? ⟨w.heap.size + 1, 2, none⟩ = some (.int .i64 pt) := by go_simp
  have p3 : ((w.alloc (.cells #[.int .i64 frn, .slice A ws.length c] 24)).alloc (.cells #[.int .i64 pf, .int .i64 pb, .int .i64 pt, .int .i64 plo, .int .i64 phi] 56)).cell? ⟨w.heap.size + 1, 3, none⟩ = some (.int .i64 plo) := by go_simp
  have p4 : ((w.alloc (.cells #[.int .i64 frn, .slice A ws.length c] 24)).alloc (.cells #[.int .i64 pf, .int .i64 pb, .int .i64 pt, .int .i64 plo, .int .i64 phi] 56)).cell? ⟨w.heap.size + 1, 4, none⟩ = some (.int .i64 phi) := by go_simp
  have HB := Lib.hid hb0
  have HW := Lib.hid (hw.step hb0)
  have HWK := Lib.hid wakes_c
  clear hb0 hw
  go_enter Try.func12, Try.ntmps12
  go_wp2_with fail
  generalize ((w.alloc (.cells #[.int .i64 frn, .slice A ws.length c] 24)).alloc (.cells #[.int .i64 pf, .int .i64 pb, .int .i64 pt, .int .i64 plo, .int .i64 phi] 56)) = W0 at *
  have HRd := Lib.hid (ready_c A ws c frn W0 HW.out hc)
  cases hrd : decide (laneErr frn ws = 0)
  · rw [hrd] at HRd
    clear hrd
    refine (HRd.out).mono ?_
    rintro e y1 ⟨rfl, hb⟩
    replace HW := Lib.hid (HW.out.step hb)
    replace k0 := cell_of_ans hb k0
    replace k1 := cell_of_ans hb k1
    replace p0 := cell_of_ans hb p0
    replace p1 := cell_of_ans hb p1
    replace p2 := cell_of_ans hb p2
    replace p3 := cell_of_ans hb p3
    replace p4 := cell_of_ans hb p4
    replace HB := Lib.hid (HB.out.trans (hb.mono HB.out.size))
    clear hb
    go_wp2_with fail
    refine (HWK.out _).mono ?_
    rintro e y2 ⟨rfl, hb⟩
    replace HW := Lib.hid (HW.out.step hb)
    replace k0 := cell_of_ans hb k0
    replace k1 := cell_of_ans hb k1
    replace p0 := cell_of_ans hb p0
    replace p1 := cell_of_ans hb p1
    replace p2 := cell_of_ans hb p2
    replace p3 := cell_of_ans hb p3
    replace p4 := cell_of_ans hb p4
    replace HB := Lib.hid (HB.out.trans (hb.mono HB.out.size))
    clear hb
    go_wp2_with fail
    go_ret
    exact ⟨rfl, HB.out⟩
  · rw [hrd] at HRd
    have hle : laneErr frn ws = 0 := of_decide_eq_true hrd
    obtain ⟨h30, hf1, hf5, hok⟩ := laneOk hle
    obtain ⟨m, rfl⟩ : ∃ m : Nat, frn = (m : Int) := ⟨frn.toNat, by omega⟩
    have HLE := Lib.hid hle
    have HOK := Lib.hid hok
    have hm5 : m ≤ 5 := by omega
    have hm1 : 1 ≤ m := by omega
    clear hrd hle hok
    refine (HRd.out).mono ?_
    rintro e y3 ⟨rfl, hb⟩
    replace HW := Lib.hid (HW.out.step hb)
    replace k0 := cell_of_ans hb k0
    replace k1 := cell_of_ans hb k1
    replace p0 := cell_of_ans hb p0
    replace p1 := cell_of_ans hb p1
    replace p2 := cell_of_ans hb p2
    replace p3 := cell_of_ans hb p3
    replace p4 := cell_of_ans hb p4
    replace HB := Lib.hid (HB.out.trans (hb.mono HB.out.size))
    clear hb
    by_cases h29 : (ws.length : Int) > 29
    · go_wp2_with fail
      refine (HWK.out _).mono ?_
      rintro e y4 ⟨rfl, hb⟩
      replace HW := Lib.hid (HW.out.step hb)
      replace k0 := cell_of_ans hb k0
      replace k1 := cell_of_ans hb k1
      replace p0 := cell_of_ans hb p0
      replace p1 := cell_of_ans hb p1
      replace p2 := cell_of_ans hb p2
      replace p3 := cell_of_ans hb p3
      replace p4 := cell_of_ans hb p4
      replace HB := Lib.hid (HB.out.trans (hb.mono HB.out.size))
      clear hb
      go_wp2_with fail
      go_ret
      exact ⟨rfl, HB.out⟩
    have h29b : decide ((29 : Int) < (ws.length : Int)) = false := decide_eq_false (by omega)
    go_wp2_with fail
    refine (chosen_c bi hbi _).mono ?_
    rintro e y5 ⟨AcA, ccA, rfl, hO, hb⟩
    replace HW := Lib.hid (HW.out.step hb)
    replace k0 := cell_of_ans hb k0
    replace k1 := cell_of_ans hb k1
    replace p0 := cell_of_ans hb p0
    replace p1 := cell_of_ans hb p1
    replace p2 := cell_of_ans hb p2
    replace p3 := cell_of_ans hb p3
    replace p4 := cell_of_ans hb p4
    replace HB := Lib.hid (HB.out.trans (hb.mono HB.out.size))
    clear hb
    obtain ⟨hcA, hccA, hO⟩ := isInts_parts (ownsRow_isInts hO)
    have HCA := Lib.hid hO
    clear hO
    have hlA := chTo_len (bi) 4
    have HRA := Lib.hid (chTo_rise bi)
    generalize chTo bi 4 = fa at *
    cases hx : explB (m : Int) ws (offT fa)
    · have hx9 : exErr (m : Int) ws fa = 9 := by simp [exErr, ask_zero HLE.out HRA.out, hx]
      have HX9 := Lib.hid hx9
      clear hx hx9
      go_wp2_with fail
      refine (lane_c A ws c (m : Int) _ HW.out hc (by omega)).mono ?_
      rintro e y7 ⟨Al6, cl6, rfl, hO6, hb⟩
      replace HW := Lib.hid (HW.out.step hb)
      replace k0 := cell_of_ans hb k0
      replace k1 := cell_of_ans hb k1
      replace p0 := cell_of_ans hb p0
      replace p1 := cell_of_ans hb p1
      replace p2 := cell_of_ans hb p2
      replace p3 := cell_of_ans hb p3
      replace p4 := cell_of_ans hb p4
      replace HCA := Lib.hid (HCA.out.step hb)
      replace HB := Lib.hid (HB.out.trans (hb.mono HB.out.size))
      clear hb
      obtain ⟨hq6, hqq6, hO6⟩ := hO6.wds
      have HL6 := Lib.hid hO6
      clear hO6
      go_wp2_with fail
      refine (list_c AcA fa ccA _ HCA.out (Nat.le_refl _) (by omega)).mono ?_
      rintro e y9 ⟨At8, ct8, rfl, hO8, hb⟩
      replace HW := Lib.hid (HW.out.step hb)
      replace k0 := cell_of_ans hb k0
      replace k1 := cell_of_ans hb k1
      replace p0 := cell_of_ans hb p0
      replace p1 := cell_of_ans hb p1
      replace p2 := cell_of_ans hb p2
      replace p3 := cell_of_ans hb p3
      replace p4 := cell_of_ans hb p4
      replace HCA := Lib.hid (HCA.out.step hb)
      replace HL6 := Lib.hid (HL6.out.step hb)
      replace HB := Lib.hid (HB.out.trans (hb.mono HB.out.size))
      clear hb
      obtain ⟨hq8, hqq8, hO8⟩ := isInts_parts (ownsRow_isInts hO8)
      have HT8 := Lib.hid hO8
      clear hO8
      go_wp2_with fail
      refine (ranges_bad Al6 At8 ws fa cl6 ct8 (m : Int) _ HL6.out HT8.out ⟨hq6, hqq6⟩ ⟨hq8, hqq8⟩ (by rw [HX9.out]; decide)).mono ?_
      rintro e y10 ⟨rfl, hb⟩
      replace HW := Lib.hid (HW.out.step hb)
      replace k0 := cell_of_ans hb k0
      replace k1 := cell_of_ans hb k1
      replace p0 := cell_of_ans hb p0
      replace p1 := cell_of_ans hb p1
      replace p2 := cell_of_ans hb p2
      replace p3 := cell_of_ans hb p3
      replace p4 := cell_of_ans hb p4
      replace HCA := Lib.hid (HCA.out.step hb)
      replace HL6 := Lib.hid (HL6.out.step hb)
      replace HT8 := Lib.hid (HT8.out.step hb)
      replace HB := Lib.hid (HB.out.trans (hb.mono HB.out.size))
      clear hb
      clear HL6 HT8
      rw [HX9.out]
      go_upto_region 5 with fail
      have hb : Below y10.heap.size y10 (y10.alloc (.cells #[.int .i64 0, .int .i64 0] 41)) := (Below.refl _ _).alloc (Nat.le_refl _) _
      have u0 : (y10.alloc (.cells #[.int .i64 0, .int .i64 0] 41)).cell? ⟨y10.heap.size, 0, none⟩ = some (.int .i64 0) := by simp
      have u1 : (y10.alloc (.cells #[.int .i64 0, .int .i64 0] 41)).cell? ⟨y10.heap.size, 1, none⟩ = some (.int .i64 0) := by simp
      replace HW := Lib.hid (HW.out.step hb)
      replace k0 := cell_of_ans hb k0
      replace k1 := cell_of_ans hb k1
      replace p0 := cell_of_ans hb p0
      replace p1 := cell_of_ans hb p1
      replace p2 := cell_of_ans hb p2
      replace p3 := cell_of_ans hb p3
      replace p4 := cell_of_ans hb p4
      replace HCA := Lib.hid (HCA.out.step hb)
      replace HB := Lib.hid (HB.out.trans (hb.mono HB.out.size))
      clear hb
      generalize (y10.alloc (.cells #[.int .i64 0, .int .i64 0] 41)) = y11 at *
      generalize y10.heap.size = qy11 at *
      go_wp2_with fail
      refine (HWK.out _).mono ?_
      rintro e y12 ⟨rfl, hb⟩
      replace HW := Lib.hid (HW.out.step hb)
      replace k0 := cell_of_ans hb k0
      replace k1 := cell_of_ans hb k1
      replace p0 := cell_of_ans hb p0
      replace p1 := cell_of_ans hb p1
      replace p2 := cell_of_ans hb p2
      replace p3 := cell_of_ans hb p3
      replace p4 := cell_of_ans hb p4
      replace HCA := Lib.hid (HCA.out.step hb)
      replace u0 := cell_of_ans hb u0
      replace u1 := cell_of_ans hb u1
      replace HB := Lib.hid (HB.out.trans (hb.mono HB.out.size))
      clear hb
      go_wp2_with fail
      go_ret
      exact ⟨rfl, HB.out⟩
    have HEA := Lib.hid (ex_zero HLE.out HRA.out hx)
    have HXX := Lib.hid hx
    have HRL := Lib.hid (rangesL_len ws (offT fa) m)
    have HRBD : Hid (∀ k, k < 2 * m → 0 ≤ (rgAt ws (offT fa) m k).1 ∧ (rgAt ws (offT fa) m k).1 ≤ (rgAt ws (offT fa) m k).2 ∧ (rgAt ws (offT fa) m k).2 ≤ 10) := fun k hk => rg_bd hk hx
    have HNR : Hid (∀ k, k < 2 * m → ∀ te : Int, Nar m ws (ws ++ [⟨((k / 2 : Nat) : Int), ((k % 2 : Nat) : Int), te, (rgAt ws (offT fa) m k).1, (rgAt ws (offT fa) m k).2⟩]) (offT fa)) := fun k hk te => nar_range hk te
    clear hx
    go_wp2_with fail
    refine (lane_c A ws c (m : Int) _ HW.out hc (by omega)).mono ?_
    rintro e y14 ⟨Al13, cl13, rfl, hO13, hb⟩
    replace HW := Lib.hid (HW.out.step hb)
    replace k0 := cell_of_ans hb k0
    replace k1 := cell_of_ans hb k1
    replace p0 := cell_of_ans hb p0
    replace p1 := cell_of_ans hb p1
    replace p2 := cell_of_ans hb p2
    replace p3 := cell_of_ans hb p3
    replace p4 := cell_of_ans hb p4
    replace HCA := Lib.hid (HCA.out.step hb)
    replace HB := Lib.hid (HB.out.trans (hb.mono HB.out.size))
    clear hb
    obtain ⟨hq13, hqq13, hO13⟩ := hO13.wds
    have HL13 := Lib.hid hO13
    clear hO13
    go_wp2_with fail
    refine (list_c AcA fa ccA _ HCA.out (Nat.le_refl _) (by omega)).mono ?_
    rintro e y16 ⟨At15, ct15, rfl, hO15, hb⟩
    replace HW := Lib.hid (HW.out.step hb)
    replace k0 := cell_of_ans hb k0
    replace k1 := cell_of_ans hb k1
    replace p0 := cell_of_ans hb p0
    replace p1 := cell_of_ans hb p1
    replace p2 := cell_of_ans hb p2
    replace p3 := cell_of_ans hb p3
    replace p4 := cell_of_ans hb p4
    replace HCA := Lib.hid (HCA.out.step hb)
    replace HL13 := Lib.hid (HL13.out.step hb)
    replace HB := Lib.hid (HB.out.trans (hb.mono HB.out.size))
    clear hb
    obtain ⟨hq15, hqq15, hO15⟩ := isInts_parts (ownsRow_isInts hO15)
    have HT15 := Lib.hid hO15
    clear hO15
    go_wp2_with fail
    refine (ranges_ok Al13 At15 ws fa cl13 ct15 (m : Int) _ HL13.out HT15.out ⟨hq13, hqq13⟩ ⟨hq15, hqq15⟩ HEA.out).mono ?_
    rintro e y17 ⟨Ar, cr, rfl, hcr, hR, hb⟩
    replace HW := Lib.hid (HW.out.step hb)
    replace k0 := cell_of_ans hb k0
    replace k1 := cell_of_ans hb k1
    replace p0 := cell_of_ans hb p0
    replace p1 := cell_of_ans hb p1
    replace p2 := cell_of_ans hb p2
    replace p3 := cell_of_ans hb p3
    replace p4 := cell_of_ans hb p4
    replace HCA := Lib.hid (HCA.out.step hb)
    replace HL13 := Lib.hid (HL13.out.step hb)
    replace HT15 := Lib.hid (HT15.out.step hb)
    replace HB := Lib.hid (HB.out.trans (hb.mono HB.out.size))
    clear hb
    clear HL13 HT15
    have HG := Lib.hid hR
    clear hR
    rw [Int.toNat_natCast] at *
    have HRG : Hid (∀ k, rgAt ws (offT fa) m k = px (rangesL ws (offT fa) m) k) := fun _ => rfl
    generalize rangesL ws (offT fa) m = r at *
    generalize cntLo ws (offT fa) m = lo at *
    generalize cntHi ws (offT fa) m = hi at *
    go_upto_region 5 with fail
    have hb : Below y17.heap.size y17 (y17.alloc (.cells #[.int .i64 lo, .int .i64 hi] 41)) := (Below.refl _ _).alloc (Nat.le_refl _) _
    have u0 : (y17.alloc (.cells #[.int .i64 lo, .int .i64 hi] 41)).cell? ⟨y17.heap.size, 0, none⟩ = some (.int .i64 lo) := by simp
    have u1 : (y17.alloc (.cells #[.int .i64 lo, .int .i64 hi] 41)).cell? ⟨y17.heap.size, 1, none⟩ = some (.int .i64 hi) := by simp
    replace HW := Lib.hid (HW.out.step hb)
    replace k0 := cell_of_ans hb k0
    replace k1 := cell_of_ans hb k1
    replace p0 := cell_of_ans hb p0
    replace p1 := cell_of_ans hb p1
    replace p2 := cell_of_ans hb p2
    replace p3 := cell_of_ans hb p3
    replace p4 := cell_of_ans hb p4
    replace HCA := Lib.hid (HCA.out.step hb)
    replace HG := Lib.hid (HG.out.step hb)
    replace HB := Lib.hid (HB.out.trans (hb.mono HB.out.size))
    clear hb
    generalize (y17.alloc (.cells #[.int .i64 lo, .int .i64 hi] 41)) = y18 at *
    generalize y17.heap.size = qy18 at *
    have hrl : r.length = 2 * m := HRL.out
    have h2m : ((r.length : Int) != 2 * (m : Int)) = false := bne_eq_false_iff_eq.2 (by omega)
    have hm0 : ((r.length : Int) == 0) = false := beq_eq_false_iff_ne.2 (by omega)
    have hrp : 0 < (r.length : Int) := by omega
    have hk1 := Int.emod_nonneg (pl : Int) (b := (r.length : Int)) (by omega)
    have hk2 := Int.emod_lt_of_pos (pl : Int) (b := (r.length : Int)) (by omega)
    obtain ⟨kk, hkk⟩ : ∃ kk : Nat, (pl : Int) % (r.length : Int) = (kk : Int) := ⟨((pl : Int) % (r.length : Int)).toNat, by omega⟩
    have hkm : kk < 2 * m := by omega
    have hkr : (kk : Int) < (r.length : Int) := by omega
    have hkrn : kk < r.length := by omega
    clear hrl hk1 hk2
    go_upto_region 10 with fail
    rw [hkk]
    obtain ⟨b2, o2, hA2, hb2', hc2⟩ := HG.out (Nat.lt_of_le_of_lt (Nat.zero_le _) hkrn)
    subst hA2
    obtain ⟨c1, c2⟩ := hc2 kk hkrn
    obtain ⟨fr, hfr⟩ : ∃ fr : Int, fr = ((kk / 2 : Nat) : Int) := ⟨_, rfl⟩
    obtain ⟨ba, hba⟩ : ∃ ba : Int, ba = ((kk % 2 : Nat) : Int) := ⟨_, rfl⟩
    obtain ⟨te, hte⟩ : ∃ te : Int, te = ((pl % 4 : Nat) : Int) := ⟨_, rfl⟩
    have HFR := Lib.hid hfr
    have HBA := Lib.hid hba
    have HTE := Lib.hid hte
    have q1 : (kk : Int).tdiv 2 = fr := by rw [hfr]; exact Int.tdiv_eq_ediv_of_nonneg (by omega)
    have q2 : (kk : Int).tmod 2 = ba := by rw [hba]; exact Int.tmod_eq_emod_of_nonneg (by omega)
    have q6 : (pl : Int).tmod 4 = te := by rw [hte]; exact Int.tmod_eq_emod_of_nonneg (by omega)
    have q3 : IntKind.i64.wrap fr = fr := IntWalk.i64_in _ (by omega)
    have q8 : IntKind.i64.wrap (pl : Int) = (pl : Int) := IntWalk.i64_in _ (by omega)
    have q4 : (kk : Int) / 2 = fr := by omega
    have q5 : (kk : Int) % 2 = ba := by omega
    have q7 : (pl : Int) % 4 = te := by omega
    have HPX : Hid (rgAt ws (offT fa) m kk = px r kk) := HRG.out kk
    generalize px r kk = pa at *
    obtain ⟨xl, xh⟩ := pa
    dsimp only at c1 c2
    obtain ⟨zs, hzs⟩ : ∃ zs : List Wd, zs = ws ++ [⟨fr, ba, te, xl, xh⟩] := ⟨_, rfl⟩
    have HZS := Lib.hid hzs
    clear hzs hfr hba hte hc2
    have HLZ : Hid (laneErr (m : Int) zs = 0) := by
      show _ = _
      rw [HZS.out, HFR.out, HBA.out, HTE.out]
      have h5 := HRBD.out kk hkm
      rw [HPX.out] at h5
      refine lane_mk hm1 hm5 (by simp; omega) fun x hx => ?_
      rcases List.mem_append.1 hx with hx | hx
      · exact lane_word HLE.out x hx
      · simp only [List.mem_singleton] at hx
        subst hx
        exact wordB_mk (by omega) (by omega) (by omega) h5.1 h5.2.1 h5.2.2
    have HN2 : Hid (Nar m ws zs (offT fa)) := by
      have h5 := HNR.out kk hkm te
      rw [HPX.out] at h5
      show Nar _ _ _ _
      rw [HZS.out, HFR.out, HBA.out]
      exact h5
    have HN1 : Hid (Nar m zs ws (offT fa)) := nar_sub (fun x hx => by rw [HZS.out]; exact List.mem_append_left _ hx) _
    have HEZ := Lib.hid (ex_zero HLZ.out HRA.out (nar_expl HN2.out HXX.out))
    have hzl : zs.length ≤ 1000000 := by rw [HZS.out]; simp; omega
    have hfl : fa.length ≤ 1000 := by omega
    have HYY : Hid (BelM y18 y18) := Below.refl _ _
    generalize hwr : y18 = wr at HW k0 k1 p0 p1 p2 p3 p4 HG HCA u0 u1 c1 c2 HB ⊢
    clear HYY hwr
    go_cut [14] (fun s14 wx => ∃ gq : Nat, s14 = .pointer (some ⟨gq, 0, none⟩) ∧ LaneAt wx.heap.size wx gq (m : Int) zs ∧ Below wr.heap.size wr wx)
    case first =>
      try clear HB
      try clear HG
      try clear HCA
      try clear HEA
      try clear HRG
      try clear HXX
      try clear HRL
      try clear HRBD
      try clear HNR
      try clear HLE
      try clear HOK
      try clear HRA
      try clear hkk
      try clear hkm
      try clear hm0
      try clear h2m
      try clear hrp
      try clear HWK
      try clear u0
      try clear u1
      try clear HLZ
      try clear HN1
      try clear HN2
      try clear HEZ
      try clear HPX
      try clear HFR
      try clear HBA
      try clear HTE
      try clear hb2
      try clear HZ
      try clear z0
      try clear z1
      try clear p0
      try clear p1
      try clear p2
      try clear p3
      try clear p4
      refine wp_region_noPanic ?_
      have hS : (fun w' : World => Below wr.heap.size wr w') wr.drew := (Below.refl _ _).drew
      refine wp_region_any (by kernel_rfl) (wpAny_of_T (S := fun w' : World => Below wr.heap.size wr w') (m := 29) _ _ _ _ ?_)
      have HL : Hid (LSt wr wr.drew none none none) := LSt.start hS
      change wpAnyT _ _ _ _ _ _ _ _ _ wr.drew
      generalize hwv0 : wr.drew = wv0 at *
      clear hwv0
      refine' T_take (i := 0) (v := _) rfl (by kernel_rfl) (by kernel_rfl) (by kernel_rfl) (by kernel_rfl) (fun _ _ _ h => h) (by rfl) hS ?_ ?_
      rotate_left 1
      · intro Wv hW
        have l0 := cell_of_ans hW k0
        have l1 := cell_of_ans hW k1
        have l2 := cell_of_ans hW c1
        have l3 := cell_of_ans hW c2
        go_simp
        first | done | with_reducible rfl
      try simp only [Act.put, List.setIfInBounds_toArray, List.set_cons_zero, List.set_cons_succ]
      refine' T_take (i := 1) (v := _) rfl (by kernel_rfl) (by kernel_rfl) (by kernel_rfl) (by kernel_rfl) (fun _ _ _ h => h) (by rfl) hS ?_ ?_
      rotate_left 1
      · intro Wv hW
        have l0 := cell_of_ans hW k0
        have l1 := cell_of_ans hW k1
        have l2 := cell_of_ans hW c1
        have l3 := cell_of_ans hW c2
        go_simp
        first | done | with_reducible rfl
      try simp only [Act.put, List.setIfInBounds_toArray, List.set_cons_zero, List.set_cons_succ]
      refine' T_take (i := 3) (v := _) rfl (by kernel_rfl) (by kernel_rfl) (by kernel_rfl) (by kernel_rfl) (fun _ _ _ h => h) (by rfl) hS ?_ ?_
      rotate_left 1
      · intro Wv hW
        have l0 := cell_of_ans hW k0
        have l1 := cell_of_ans hW k1
        have l2 := cell_of_ans hW c1
        have l3 := cell_of_ans hW c2
        go_simp
        first | done | with_reducible rfl
      try simp only [Act.put, List.setIfInBounds_toArray, List.set_cons_zero, List.set_cons_succ]
      refine' T_take (i := 4) (v := _) rfl (by kernel_rfl) (by kernel_rfl) (by kernel_rfl) (by kernel_rfl) (fun _ _ _ h => h) (by rfl) hS ?_ ?_
      rotate_left 1
      · intro Wv hW
        have l0 := cell_of_ans hW k0
        have l1 := cell_of_ans hW k1
        have l2 := cell_of_ans hW c1
        have l3 := cell_of_ans hW c2
        go_simp
        first | done | with_reducible rfl
      try simp only [Act.put, List.setIfInBounds_toArray, List.set_cons_zero, List.set_cons_succ]
      refine' T_take (i := 6) (v := _) rfl (by kernel_rfl) (by kernel_rfl) (by kernel_rfl) (by kernel_rfl) (fun _ _ _ h => h) (by rfl) hS ?_ ?_
      rotate_left 1
      · intro Wv hW
        have l0 := cell_of_ans hW k0
        have l1 := cell_of_ans hW k1
        have l2 := cell_of_ans hW c1
        have l3 := cell_of_ans hW c2
        go_simp
        first | done | with_reducible rfl
      try simp only [Act.put, List.setIfInBounds_toArray, List.set_cons_zero, List.set_cons_succ]
      refine' T_take (i := 7) (v := _) rfl (by kernel_rfl) (by kernel_rfl) (by kernel_rfl) (by kernel_rfl) (fun _ _ _ h => h) (by rfl) hS ?_ ?_
      rotate_left 1
      · intro Wv hW
        have l0 := cell_of_ans hW k0
        have l1 := cell_of_ans hW k1
        have l2 := cell_of_ans hW c1
        have l3 := cell_of_ans hW c2
        go_simp
        first | done | with_reducible rfl
      try simp only [Act.put, List.setIfInBounds_toArray, List.set_cons_zero, List.set_cons_succ]
      refine' T_take (i := 8) (v := _) rfl (by kernel_rfl) (by kernel_rfl) (by kernel_rfl) (by kernel_rfl) (fun _ _ _ h => h) (by rfl) hS ?_ ?_
      rotate_left 1
      · intro Wv hW
        have l0 := cell_of_ans hW k0
        have l1 := cell_of_ans hW k1
        have l2 := cell_of_ans hW c1
        have l3 := cell_of_ans hW c2
        go_simp
        first | done | with_reducible rfl
      try simp only [Act.put, List.setIfInBounds_toArray, List.set_cons_zero, List.set_cons_succ]
      refine' T_take (i := 9) (v := _) rfl (by kernel_rfl) (by kernel_rfl) (by kernel_rfl) (by kernel_rfl) (fun _ _ _ h => h) (by rfl) hS ?_ ?_
      rotate_left 1
      · intro Wv hW
        have l0 := cell_of_ans hW k0
        have l1 := cell_of_ans hW k1
        have l2 := cell_of_ans hW c1
        have l3 := cell_of_ans hW c2
        go_simp
        first | done | with_reducible rfl
      try simp only [Act.put, List.setIfInBounds_toArray, List.set_cons_zero, List.set_cons_succ]
      refine' T_take (i := 10) (v := _) rfl (by kernel_rfl) (by kernel_rfl) (by kernel_rfl) (by kernel_rfl) (fun _ _ _ h => h) (by rfl) hS ?_ ?_
      rotate_left 1
      · intro Wv hW
        have l0 := cell_of_ans hW k0
        have l1 := cell_of_ans hW k1
        have l2 := cell_of_ans hW c1
        have l3 := cell_of_ans hW c2
        go_simp
        first | done | with_reducible rfl
      try simp only [Act.put, List.setIfInBounds_toArray, List.set_cons_zero, List.set_cons_succ]
      refine' T_take (i := 11) (v := _) rfl (by kernel_rfl) (by kernel_rfl) (by kernel_rfl) (by kernel_rfl) (fun _ _ _ h => h) (by rfl) hS ?_ ?_
      rotate_left 1
      · intro Wv hW
        have l0 := cell_of_ans hW k0
        have l1 := cell_of_ans hW k1
        have l2 := cell_of_ans hW c1
        have l3 := cell_of_ans hW c2
        go_simp
        first | done | with_reducible rfl
      try simp only [Act.put, List.setIfInBounds_toArray, List.set_cons_zero, List.set_cons_succ]
      refine' T_take (i := 12) (v := _) rfl (by kernel_rfl) (by kernel_rfl) (by kernel_rfl) (by kernel_rfl) (fun _ _ _ h => h) (by rfl) hS ?_ ?_
      rotate_left 1
      · intro Wv hW
        have l0 := cell_of_ans hW k0
        have l1 := cell_of_ans hW k1
        have l2 := cell_of_ans hW c1
        have l3 := cell_of_ans hW c2
        go_simp
        first | done | with_reducible rfl
      try simp only [Act.put, List.setIfInBounds_toArray, List.set_cons_zero, List.set_cons_succ]
      refine' T_take (i := 13) (v := _) rfl (by kernel_rfl) (by kernel_rfl) (by kernel_rfl) (by kernel_rfl) (fun _ _ _ h => h) (by rfl) hS ?_ ?_
      rotate_left 1
      · intro Wv hW
        have l0 := cell_of_ans hW k0
        have l1 := cell_of_ans hW k1
        have l2 := cell_of_ans hW c1
        have l3 := cell_of_ans hW c2
        go_simp
        first | done | with_reducible rfl
      try simp only [Act.put, List.setIfInBounds_toArray, List.set_cons_zero, List.set_cons_succ]
      refine' T_take (i := 14) (v := _) rfl (by kernel_rfl) (by kernel_rfl) (by kernel_rfl) (by kernel_rfl) (fun _ _ _ h => h) (by rfl) hS ?_ ?_
      rotate_left 1
      · intro Wv hW
        have l0 := cell_of_ans hW k0
        have l1 := cell_of_ans hW k1
        have l2 := cell_of_ans hW c1
        have l3 := cell_of_ans hW c2
        go_simp
        first | done | with_reducible rfl
      try simp only [Act.put, List.setIfInBounds_toArray, List.set_cons_zero, List.set_cons_succ]
      refine' T_take (i := 15) (v := _) rfl (by kernel_rfl) (by kernel_rfl) (by kernel_rfl) (by kernel_rfl) (fun _ _ _ h => h) (by rfl) hS ?_ ?_
      rotate_left 1
      · intro Wv hW
        have l0 := cell_of_ans hW k0
        have l1 := cell_of_ans hW k1
        have l2 := cell_of_ans hW c1
        have l3 := cell_of_ans hW c2
        go_simp
        first | done | with_reducible rfl
      try simp only [Act.put, List.setIfInBounds_toArray, List.set_cons_zero, List.set_cons_succ]
      refine' T_take (i := 16) (v := _) rfl (by kernel_rfl) (by kernel_rfl) (by kernel_rfl) (by kernel_rfl) (fun _ _ _ h => h) (by rfl) hS ?_ ?_
      rotate_left 1
      · intro Wv hW
        have l0 := cell_of_ans hW k0
        have l1 := cell_of_ans hW k1
        have l2 := cell_of_ans hW c1
        have l3 := cell_of_ans hW c2
        go_simp
        first | done | with_reducible rfl
      try simp only [Act.put, List.setIfInBounds_toArray, List.set_cons_zero, List.set_cons_succ]
      refine' T_take (i := 17) (v := _) rfl (by kernel_rfl) (by kernel_rfl) (by kernel_rfl) (by kernel_rfl) (fun _ _ _ h => h) (by rfl) hS ?_ ?_
      rotate_left 1
      · intro Wv hW
        have l0 := cell_of_ans hW k0
        have l1 := cell_of_ans hW k1
        have l2 := cell_of_ans hW c1
        have l3 := cell_of_ans hW c2
        go_simp
        first | done | with_reducible rfl
      try simp only [Act.put, List.setIfInBounds_toArray, List.set_cons_zero, List.set_cons_succ]
      refine' T_take (i := 18) (v := _) rfl (by kernel_rfl) (by kernel_rfl) (by kernel_rfl) (by kernel_rfl) (fun _ _ _ h => h) (by rfl) hS ?_ ?_
      rotate_left 1
      · intro Wv hW
        have l0 := cell_of_ans hW k0
        have l1 := cell_of_ans hW k1
        have l2 := cell_of_ans hW c1
        have l3 := cell_of_ans hW c2
        go_simp
        first | done | with_reducible rfl
      try simp only [Act.put, List.setIfInBounds_toArray, List.set_cons_zero, List.set_cons_succ]
      refine' T_take (i := 19) (v := _) rfl (by kernel_rfl) (by kernel_rfl) (by kernel_rfl) (by kernel_rfl) (fun _ _ _ h => h) (by rfl) hS ?_ ?_
      rotate_left 1
      · intro Wv hW
        have l0 := cell_of_ans hW k0
        have l1 := cell_of_ans hW k1
        have l2 := cell_of_ans hW c1
        have l3 := cell_of_ans hW c2
        go_simp
        first | done | with_reducible rfl
      try simp only [Act.put, List.setIfInBounds_toArray, List.set_cons_zero, List.set_cons_succ]
      refine' T_take (i := 20) (v := _) rfl (by kernel_rfl) (by kernel_rfl) (by kernel_rfl) (by kernel_rfl) (fun _ _ _ h => h) (by rfl) hS ?_ ?_
      rotate_left 1
      · intro Wv hW
        have l0 := cell_of_ans hW k0
        have l1 := cell_of_ans hW k1
        have l2 := cell_of_ans hW c1
        have l3 := cell_of_ans hW c2
        go_simp
        first | done | with_reducible rfl
      try simp only [Act.put, List.setIfInBounds_toArray, List.set_cons_zero, List.set_cons_succ]
      refine' T_take (i := 21) (v := _) rfl (by kernel_rfl) (by kernel_rfl) (by kernel_rfl) (by kernel_rfl) (fun _ _ _ h => h) (by rfl) hS ?_ ?_
      rotate_left 1
      · intro Wv hW
        have l0 := cell_of_ans hW k0
        have l1 := cell_of_ans hW k1
        have l2 := cell_of_ans hW c1
        have l3 := cell_of_ans hW c2
        go_simp
        first | done | with_reducible rfl
      try simp only [Act.put, List.setIfInBounds_toArray, List.set_cons_zero, List.set_cons_succ]
      refine' T_take (i := 22) (v := _) rfl (by kernel_rfl) (by kernel_rfl) (by kernel_rfl) (by kernel_rfl) (fun _ _ _ h => h) (by rfl) hS ?_ ?_
      rotate_left 1
      · intro Wv hW
        have l0 := cell_of_ans hW k0
        have l1 := cell_of_ans hW k1
        have l2 := cell_of_ans hW c1
        have l3 := cell_of_ans hW c2
        go_simp
        first | done | with_reducible rfl
      try simp only [Act.put, List.setIfInBounds_toArray, List.set_cons_zero, List.set_cons_succ]
      refine' T_take (i := 23) (v := _) rfl (by kernel_rfl) (by kernel_rfl) (by kernel_rfl) (by kernel_rfl) (fun _ _ _ h => h) (by rfl) hS ?_ ?_
      rotate_left 1
      · intro Wv hW
        have l0 := cell_of_ans hW k0
        have l1 := cell_of_ans hW k1
        have l2 := cell_of_ans hW c1
        have l3 := cell_of_ans hW c2
        go_simp
        first | done | with_reducible rfl
      try simp only [Act.put, List.setIfInBounds_toArray, List.set_cons_zero, List.set_cons_succ]
      refine T_ready (rs := [2, 24, 27]) (by kernel_rfl) (by simp) ?_
      refine TReady.cons rfl (fun K hK => ?_) (TReady.cons rfl (fun K hK => ?_) (TReady.cons rfl (fun K hK => ?_) TReady.nil))
      · try go_simp
        replace HL := Lib.hid HL.out.allocE
        refine hK.out _ _ (fun _ => HL.out.b) (fun hS => ?_)
        replace hS := hS (by decide)
        clear hK K
        try simp only [Act.put, List.setIfInBounds_toArray, List.set_cons_zero, List.set_cons_succ]
        generalize hwv1 : (wv0).alloc (.cells #[] 56) = wv1 at *
        generalize hwq1 : (wv0).heap.size = wq1 at *
        clear hwv1 hwq1
        refine T_ready (rs := [5, 24, 27]) (by kernel_rfl) (by simp) ?_
        refine TReady.cons rfl (fun K hK => ?_) (TReady.cons rfl (fun K hK => ?_) (TReady.cons rfl (fun K hK => ?_) TReady.nil))
        · refine step_words (.tmp 59) (.tmp 61) rfl rfl wr _ _ [] ws ws _ _ A ws.length c rfl rfl rfl rfl HL (Wds.src (HW.out.step HL.out.b)) (by decide) (by omega) ?_
          intro Aw2 cw2 wv2 HL2
          clear HL
          have HL := HL2
          clear HL2
          refine hK.out _ _ (fun _ => HL.out.b) (fun hS => ?_)
          replace hS := hS (by decide)
          clear hK K
          try simp only [Act.put, List.setIfInBounds_toArray, List.set_cons_zero, List.set_cons_succ]
          refine T_ready (rs := [24, 27]) (by kernel_rfl) (by simp) ?_
          refine TReady.cons rfl (fun K hK => ?_) (TReady.cons rfl (fun K hK => ?_) TReady.nil)
          · try go_simp
            replace HL := Lib.hid (HL.out.allocX ⟨fr, ba, te, xl, xh⟩)
            refine hK.out _ _ (fun _ => HL.out.b) (fun hS => ?_)
            replace hS := hS (by decide)
            clear hK K
            try simp only [Act.put, List.setIfInBounds_toArray, List.set_cons_zero, List.set_cons_succ]
            generalize hwv3 : (wv2).alloc (.cells #[.int .i64 (fr), .int .i64 (ba), .int .i64 (te), .int .i64 (xl), .int .i64 (xh)] 56) = wv3 at *
            generalize hwq3 : (wv2).heap.size = wq3 at *
            clear hwv3 hwq3
            refine T_ready (rs := [25, 27]) (by kernel_rfl) (by simp) ?_
            refine TReady.cons rfl (fun K hK => ?_) (TReady.cons rfl (fun K hK => ?_) TReady.nil)
            · refine step_words (.tmp 62) (.tmp 81) rfl rfl wr _ _ ws [⟨fr, ba, te, xl, xh⟩] zs _ _ (some ⟨wq3, 0, none⟩) 1 1 rfl HZS.out rfl rfl HL HL.out.src (by omega) (by simp) ?_
              intro Aw4 cw4 wv4 HL2
              clear HL
              have HL := HL2
              clear HL2
              refine hK.out _ _ (fun _ => HL.out.b) (fun hS => ?_)
              replace hS := hS (by decide)
              clear hK K
              try simp only [Act.put, List.setIfInBounds_toArray, List.set_cons_zero, List.set_cons_succ]
              refine' T_take (i := 26) (v := _) rfl (by kernel_rfl) (by kernel_rfl) (by kernel_rfl) (by kernel_rfl) (fun _ _ _ h => h) (by rfl) hS ?_ ?_
              rotate_left 1
              · intro Wv hW
                have l0 := cell_of_ans hW k0
                have l1 := cell_of_ans hW k1
                have l2 := cell_of_ans hW c1
                have l3 := cell_of_ans hW c2
                go_simp
                first | done | with_reducible rfl
              try simp only [Act.put, List.setIfInBounds_toArray, List.set_cons_zero, List.set_cons_succ]
              refine T_ready (rs := [27]) (by kernel_rfl) (by simp) ?_
              refine TReady.cons rfl (fun K hK => ?_) TReady.nil
              try go_simp
              replace HL := Lib.hid HL.out.allocG
              refine hK.out _ _ (fun _ => HL.out.b) (fun hS => ?_)
              replace hS := hS (by decide)
              clear hK K
              try simp only [Act.put, List.setIfInBounds_toArray, List.set_cons_zero, List.set_cons_succ]
              generalize hwv5 : (wv4).alloc (.cells #[.int .i64 0, .slice none 0 0] 24) = wv5 at *
              generalize hwq5 : (wv4).heap.size = wq5 at *
              clear hwv5 hwq5
              refine T_ready (rs := [28]) (by kernel_rfl) (by simp) ?_
              refine TReady.cons rfl (fun K hK => ?_) TReady.nil
              have z9 := HL.out.cells
              have z0 := z9.1
              have z1 := z9.2.1
              have z2 := z9.2.2.1
              have z3 := z9.2.2.2
              clear z9
              try go_simp
              have z9 := HL.out.fin (m : Int) rfl
              have HLA := z9.1
              have HBB := z9.2
              clear z9
              refine hK.out _ _ (fun _ => HBB) (fun hS => ?_)
              clear hK K hS
              try simp only [Act.put, List.setIfInBounds_toArray, List.set_cons_zero, List.set_cons_succ]
              refine T_done (by kernel_rfl) ?_ _
              refine NoPanic.normal ?_
              go_wp2_with fail
              go_meet
              exact ⟨_, rfl, HLA, HBB⟩
            · try go_simp
              replace HL := Lib.hid HL.out.allocG
              refine hK.out _ _ (fun _ => HL.out.b) (fun hS => ?_)
              replace hS := hS (by decide)
              clear hK K
              try simp only [Act.put, List.setIfInBounds_toArray, List.set_cons_zero, List.set_cons_succ]
              generalize hwv7 : (wv3).alloc (.cells #[.int .i64 0, .slice none 0 0] 24) = wv7 at *
              generalize hwq7 : (wv3).heap.size = wq7 at *
              clear hwv7 hwq7
              refine T_ready (rs := [25]) (by kernel_rfl) (by simp) ?_
              refine TReady.cons rfl (fun K hK => ?_) TReady.nil
              refine step_words (.tmp 62) (.tmp 81) rfl rfl wr _ _ ws [⟨fr, ba, te, xl, xh⟩] zs _ _ (some ⟨wq3, 0, none⟩) 1 1 rfl HZS.out rfl rfl HL HL.out.src (by omega) (by simp) ?_
              intro Aw8 cw8 wv8 HL2
              clear HL
              have HL := HL2
              clear HL2
              refine hK.out _ _ (fun _ => HL.out.b) (fun hS => ?_)
              replace hS := hS (by decide)
              clear hK K
              try simp only [Act.put, List.setIfInBounds_toArray, List.set_cons_zero, List.set_cons_succ]
              refine' T_take (i := 26) (v := _) rfl (by kernel_rfl) (by kernel_rfl) (by kernel_rfl) (by kernel_rfl) (fun _ _ _ h => h) (by rfl) hS ?_ ?_
              rotate_left 1
              · intro Wv hW
                have l0 := cell_of_ans hW k0
                have l1 := cell_of_ans hW k1
                have l2 := cell_of_ans hW c1
                have l3 := cell_of_ans hW c2
                go_simp
                first | done | with_reducible rfl
              try simp only [Act.put, List.setIfInBounds_toArray, List.set_cons_zero, List.set_cons_succ]
              refine T_ready (rs := [28]) (by kernel_rfl) (by simp) ?_
              refine TReady.cons rfl (fun K hK => ?_) TReady.nil
              have z9 := HL.out.cells
              have z0 := z9.1
              have z1 := z9.2.1
              have z2 := z9.2.2.1
              have z3 := z9.2.2.2
              clear z9
              try go_simp
              have z9 := HL.out.fin (m : Int) rfl
              have HLA := z9.1
              have HBB := z9.2
              clear z9
              refine hK.out _ _ (fun _ => HBB) (fun hS => ?_)
              clear hK K hS
              try simp only [Act.put, List.setIfInBounds_toArray, List.set_cons_zero, List.set_cons_succ]
              refine T_done (by kernel_rfl) ?_ _
              refine NoPanic.normal ?_
              go_wp2_with fail
              go_meet
              exact ⟨_, rfl, HLA, HBB⟩
          · try go_simp
            replace HL := Lib.hid HL.out.allocG
            refine hK.out _ _ (fun _ => HL.out.b) (fun hS => ?_)
            replace hS := hS (by decide)
            clear hK K
            try simp only [Act.put, List.setIfInBounds_toArray, List.set_cons_zero, List.set_cons_succ]
            generalize hwv10 : (wv2).alloc (.cells #[.int .i64 0, .slice none 0 0] 24) = wv10 at *
            generalize hwq10 : (wv2).heap.size = wq10 at *
            clear hwv10 hwq10
            refine T_ready (rs := [24]) (by kernel_rfl) (by simp) ?_
            refine TReady.cons rfl (fun K hK => ?_) TReady.nil
            try go_simp
            replace HL := Lib.hid (HL.out.allocX ⟨fr, ba, te, xl, xh⟩)
            refine hK.out _ _ (fun _ => HL.out.b) (fun hS => ?_)
            replace hS := hS (by decide)
            clear hK K
            try simp only [Act.put, List.setIfInBounds_toArray, List.set_cons_zero, List.set_cons_succ]
            generalize hwv11 : (wv10).alloc (.cells #[.int .i64 (fr), .int .i64 (ba), .int .i64 (te), .int .i64 (xl), .int .i64 (xh)] 56) = wv11 at *
            generalize hwq11 : (wv10).heap.size = wq11 at *
            clear hwv11 hwq11
            refine T_ready (rs := [25]) (by kernel_rfl) (by simp) ?_
            refine TReady.cons rfl (fun K hK => ?_) TReady.nil
            refine step_words (.tmp 62) (.tmp 81) rfl rfl wr _ _ ws [⟨fr, ba, te, xl, xh⟩] zs _ _ (some ⟨wq11, 0, none⟩) 1 1 rfl HZS.out rfl rfl HL HL.out.src (by omega) (by simp) ?_
            intro Aw12 cw12 wv12 HL2
            clear HL
            have HL := HL2
            clear HL2
            refine hK.out _ _ (fun _ => HL.out.b) (fun hS => ?_)
            replace hS := hS (by decide)
            clear hK K
            try simp only [Act.put, List.setIfInBounds_toArray, List.set_cons_zero, List.set_cons_succ]
            refine' T_take (i := 26) (v := _) rfl (by kernel_rfl) (by kernel_rfl) (by kernel_rfl) (by kernel_rfl) (fun _ _ _ h => h) (by rfl) hS ?_ ?_
            rotate_left 1
            · intro Wv hW
              have l0 := cell_of_ans hW k0
              have l1 := cell_of_ans hW k1
              have l2 := cell_of_ans hW c1
              have l3 := cell_of_ans hW c2
              go_simp
              first | done | with_reducible rfl
            try simp only [Act.put, List.setIfInBounds_toArray, List.set_cons_zero, List.set_cons_succ]
            refine T_ready (rs := [28]) (by kernel_rfl) (by simp) ?_
            refine TReady.cons rfl (fun K hK => ?_) TReady.nil
            have z9 := HL.out.cells
            have z0 := z9.1
            have z1 := z9.2.1
            have z2 := z9.2.2.1
            have z3 := z9.2.2.2
            clear z9
            try go_simp
            have z9 := HL.out.fin (m : Int) rfl
            have HLA := z9.1
            have HBB := z9.2
            clear z9
            refine hK.out _ _ (fun _ => HBB) (fun hS => ?_)
            clear hK K hS
            try simp only [Act.put, List.setIfInBounds_toArray, List.set_cons_zero, List.set_cons_succ]
            refine T_done (by kernel_rfl) ?_ _
            refine NoPanic.normal ?_
            go_wp2_with fail
            go_meet
            exact ⟨_, rfl, HLA, HBB⟩
        · try go_simp
          replace HL := Lib.hid (HL.out.allocX ⟨fr, ba, te, xl, xh⟩)
          refine hK.out _ _ (fun _ => HL.out.b) (fun hS => ?_)
          replace hS := hS (by decide)
          clear hK K
          try simp only [Act.put, List.setIfInBounds_toArray, List.set_cons_zero, List.set_cons_succ]
          generalize hwv14 : (wv1).alloc (.cells #[.int .i64 (fr), .int .i64 (ba), .int .i64 (te), .int .i64 (xl), .int .i64 (xh)] 56) = wv14 at *
          generalize hwq14 : (wv1).heap.size = wq14 at *
          clear hwv14 hwq14
          refine T_ready (rs := [5, 27]) (by kernel_rfl) (by simp) ?_
          refine TReady.cons rfl (fun K hK => ?_) (TReady.cons rfl (fun K hK => ?_) TReady.nil)
          · refine step_words (.tmp 59) (.tmp 61) rfl rfl wr _ _ [] ws ws _ _ A ws.length c rfl rfl rfl rfl HL (Wds.src (HW.out.step HL.out.b)) (by decide) (by omega) ?_
            intro Aw15 cw15 wv15 HL2
            clear HL
            have HL := HL2
            clear HL2
            refine hK.out _ _ (fun _ => HL.out.b) (fun hS => ?_)
            replace hS := hS (by decide)
            clear hK K
            try simp only [Act.put, List.setIfInBounds_toArray, List.set_cons_zero, List.set_cons_succ]
            refine T_ready (rs := [25, 27]) (by kernel_rfl) (by simp) ?_
            refine TReady.cons rfl (fun K hK => ?_) (TReady.cons rfl (fun K hK => ?_) TReady.nil)
            · refine step_words (.tmp 62) (.tmp 81) rfl rfl wr _ _ ws [⟨fr, ba, te, xl, xh⟩] zs _ _ (some ⟨wq14, 0, none⟩) 1 1 rfl HZS.out rfl rfl HL HL.out.src (by omega) (by simp) ?_
              intro Aw16 cw16 wv16 HL2
              clear HL
              have HL := HL2
              clear HL2
              refine hK.out _ _ (fun _ => HL.out.b) (fun hS => ?_)
              replace hS := hS (by decide)
              clear hK K
              try simp only [Act.put, List.setIfInBounds_toArray, List.set_cons_zero, List.set_cons_succ]
              refine' T_take (i := 26) (v := _) rfl (by kernel_rfl) (by kernel_rfl) (by kernel_rfl) (by kernel_rfl) (fun _ _ _ h => h) (by rfl) hS ?_ ?_
              rotate_left 1
              · intro Wv hW
                have l0 := cell_of_ans hW k0
                have l1 := cell_of_ans hW k1
                have l2 := cell_of_ans hW c1
                have l3 := cell_of_ans hW c2
                go_simp
                first | done | with_reducible rfl
              try simp only [Act.put, List.setIfInBounds_toArray, List.set_cons_zero, List.set_cons_succ]
              refine T_ready (rs := [27]) (by kernel_rfl) (by simp) ?_
              refine TReady.cons rfl (fun K hK => ?_) TReady.nil
              try go_simp
              replace HL := Lib.hid HL.out.allocG
              refine hK.out _ _ (fun _ => HL.out.b) (fun hS => ?_)
              replace hS := hS (by decide)
              clear hK K
              try simp only [Act.put, List.setIfInBounds_toArray, List.set_cons_zero, List.set_cons_succ]
              generalize hwv17 : (wv16).alloc (.cells #[.int .i64 0, .slice none 0 0] 24) = wv17 at *
              generalize hwq17 : (wv16).heap.size = wq17 at *
              clear hwv17 hwq17
              refine T_ready (rs := [28]) (by kernel_rfl) (by simp) ?_
              refine TReady.cons rfl (fun K hK => ?_) TReady.nil
              have z9 := HL.out.cells
              have z0 := z9.1
              have z1 := z9.2.1
              have z2 := z9.2.2.1
              have z3 := z9.2.2.2
              clear z9
              try go_simp
              have z9 := HL.out.fin (m : Int) rfl
              have HLA := z9.1
              have HBB := z9.2
              clear z9
              refine hK.out _ _ (fun _ => HBB) (fun hS => ?_)
              clear hK K hS
              try simp only [Act.put, List.setIfInBounds_toArray, List.set_cons_zero, List.set_cons_succ]
              refine T_done (by kernel_rfl) ?_ _
              refine NoPanic.normal ?_
              go_wp2_with fail
              go_meet
              exact ⟨_, rfl, HLA, HBB⟩
            · try go_simp
              replace HL := Lib.hid HL.out.allocG
              refine hK.out _ _ (fun _ => HL.out.b) (fun hS => ?_)
              replace hS := hS (by decide)
              clear hK K
              try simp only [Act.put, List.setIfInBounds_toArray, List.set_cons_zero, List.set_cons_succ]
              generalize hwv19 : (wv15).alloc (.cells #[.int .i64 0, .slice none 0 0] 24) = wv19 at *
              generalize hwq19 : (wv15).heap.size = wq19 at *
              clear hwv19 hwq19
              refine T_ready (rs := [25]) (by kernel_rfl) (by simp) ?_
              refine TReady.cons rfl (fun K hK => ?_) TReady.nil
              refine step_words (.tmp 62) (.tmp 81) rfl rfl wr _ _ ws [⟨fr, ba, te, xl, xh⟩] zs _ _ (some ⟨wq14, 0, none⟩) 1 1 rfl HZS.out rfl rfl HL HL.out.src (by omega) (by simp) ?_
              intro Aw20 cw20 wv20 HL2
              clear HL
              have HL := HL2
              clear HL2
              refine hK.out _ _ (fun _ => HL.out.b) (fun hS => ?_)
              replace hS := hS (by decide)
              clear hK K
              try simp only [Act.put, List.setIfInBounds_toArray, List.set_cons_zero, List.set_cons_succ]
              refine' T_take (i := 26) (v := _) rfl (by kernel_rfl) (by kernel_rfl) (by kernel_rfl) (by kernel_rfl) (fun _ _ _ h => h) (by rfl) hS ?_ ?_
              rotate_left 1
              · intro Wv hW
                have l0 := cell_of_ans hW k0
                have l1 := cell_of_ans hW k1
                have l2 := cell_of_ans hW c1
                have l3 := cell_of_ans hW c2
                go_simp
                first | done | with_reducible rfl
              try simp only [Act.put, List.setIfInBounds_toArray, List.set_cons_zero, List.set_cons_succ]
              refine T_ready (rs := [28]) (by kernel_rfl) (by simp) ?_
              refine TReady.cons rfl (fun K hK => ?_) TReady.nil
              have z9 := HL.out.cells
              have z0 := z9.1
              have z1 := z9.2.1
              have z2 := z9.2.2.1
              have z3 := z9.2.2.2
              clear z9
              try go_simp
              have z9 := HL.out.fin (m : Int) rfl
              have HLA := z9.1
              have HBB := z9.2
              clear z9
              refine hK.out _ _ (fun _ => HBB) (fun hS => ?_)
              clear hK K hS
              try simp only [Act.put, List.setIfInBounds_toArray, List.set_cons_zero, List.set_cons_succ]
              refine T_done (by kernel_rfl) ?_ _
              refine NoPanic.normal ?_
              go_wp2_with fail
              go_meet
              exact ⟨_, rfl, HLA, HBB⟩
          · try go_simp
            replace HL := Lib.hid HL.out.allocG
            refine hK.out _ _ (fun _ => HL.out.b) (fun hS => ?_)
            replace hS := hS (by decide)
            clear hK K
            try simp only [Act.put, List.setIfInBounds_toArray, List.set_cons_zero, List.set_cons_succ]
            generalize hwv22 : (wv14).alloc (.cells #[.int .i64 0, .slice none 0 0] 24) = wv22 at *
            generalize hwq22 : (wv14).heap.size = wq22 at *
            clear hwv22 hwq22
            refine T_ready (rs := [5]) (by kernel_rfl) (by simp) ?_
            refine TReady.cons rfl (fun K hK => ?_) TReady.nil
            refine step_words (.tmp 59) (.tmp 61) rfl rfl wr _ _ [] ws ws _ _ A ws.length c rfl rfl rfl rfl HL (Wds.src (HW.out.step HL.out.b)) (by decide) (by omega) ?_
            intro Aw23 cw23 wv23 HL2
            clear HL
            have HL := HL2
            clear HL2
            refine hK.out _ _ (fun _ => HL.out.b) (fun hS => ?_)
            replace hS := hS (by decide)
            clear hK K
            try simp only [Act.put, List.setIfInBounds_toArray, List.set_cons_zero, List.set_cons_succ]
            refine T_ready (rs := [25]) (by kernel_rfl) (by simp) ?_
            refine TReady.cons rfl (fun K hK => ?_) TReady.nil
            refine step_words (.tmp 62) (.tmp 81) rfl rfl wr _ _ ws [⟨fr, ba, te, xl, xh⟩] zs _ _ (some ⟨wq14, 0, none⟩) 1 1 rfl HZS.out rfl rfl HL HL.out.src (by omega) (by simp) ?_
            intro Aw24 cw24 wv24 HL2
            clear HL
            have HL := HL2
            clear HL2
            refine hK.out _ _ (fun _ => HL.out.b) (fun hS => ?_)
            replace hS := hS (by decide)
            clear hK K
            try simp only [Act.put, List.setIfInBounds_toArray, List.set_cons_zero, List.set_cons_succ]
            refine' T_take (i := 26) (v := _) rfl (by kernel_rfl) (by kernel_rfl) (by kernel_rfl) (by kernel_rfl) (fun _ _ _ h => h) (by rfl) hS ?_ ?_
            rotate_left 1
            · intro Wv hW
              have l0 := cell_of_ans hW k0
              have l1 := cell_of_ans hW k1
              have l2 := cell_of_ans hW c1
              have l3 := cell_of_ans hW c2
              go_simp
              first | done | with_reducible rfl
            try simp only [Act.put, List.setIfInBounds_toArray, List.set_cons_zero, List.set_cons_succ]
            refine T_ready (rs := [28]) (by kernel_rfl) (by simp) ?_
            refine TReady.cons rfl (fun K hK => ?_) TReady.nil
            have z9 := HL.out.cells
            have z0 := z9.1
            have z1 := z9.2.1
            have z2 := z9.2.2.1
            have z3 := z9.2.2.2
            clear z9
            try go_simp
            have z9 := HL.out.fin (m : Int) rfl
            have HLA := z9.1
            have HBB := z9.2
            clear z9
            refine hK.out _ _ (fun _ => HBB) (fun hS => ?_)
            clear hK K hS
            try simp only [Act.put, List.setIfInBounds_toArray, List.set_cons_zero, List.set_cons_succ]
            refine T_done (by kernel_rfl) ?_ _
            refine NoPanic.normal ?_
            go_wp2_with fail
            go_meet
            exact ⟨_, rfl, HLA, HBB⟩
        · try go_simp
          replace HL := Lib.hid HL.out.allocG
          refine hK.out _ _ (fun _ => HL.out.b) (fun hS => ?_)
          replace hS := hS (by decide)
          clear hK K
          try simp only [Act.put, List.setIfInBounds_toArray, List.set_cons_zero, List.set_cons_succ]
          generalize hwv26 : (wv1).alloc (.cells #[.int .i64 0, .slice none 0 0] 24) = wv26 at *
          generalize hwq26 : (wv1).heap.size = wq26 at *
          clear hwv26 hwq26
          refine T_ready (rs := [5, 24]) (by kernel_rfl) (by simp) ?_
          refine TReady.cons rfl (fun K hK => ?_) (TReady.cons rfl (fun K hK => ?_) TReady.nil)
          · refine step_words (.tmp 59) (.tmp 61) rfl rfl wr _ _ [] ws ws _ _ A ws.length c rfl rfl rfl rfl HL (Wds.src (HW.out.step HL.out.b)) (by decide) (by omega) ?_
            intro Aw27 cw27 wv27 HL2
            clear HL
            have HL := HL2
            clear HL2
            refine hK.out _ _ (fun _ => HL.out.b) (fun hS => ?_)
            replace hS := hS (by decide)
            clear hK K
            try simp only [Act.put, List.setIfInBounds_toArray, List.set_cons_zero, List.set_cons_succ]
            refine T_ready (rs := [24]) (by kernel_rfl) (by simp) ?_
            refine TReady.cons rfl (fun K hK => ?_) TReady.nil
            try go_simp
            replace HL := Lib.hid (HL.out.allocX ⟨fr, ba, te, xl, xh⟩)
            refine hK.out _ _ (fun _ => HL.out.b) (fun hS => ?_)
            replace hS := hS (by decide)
            clear hK K
            try simp only [Act.put, List.setIfInBounds_toArray, List.set_cons_zero, List.set_cons_succ]
            generalize hwv28 : (wv27).alloc (.cells #[.int .i64 (fr), .int .i64 (ba), .int .i64 (te), .int .i64 (xl), .int .i64 (xh)] 56) = wv28 at *
            generalize hwq28 : (wv27).heap.size = wq28 at *
            clear hwv28 hwq28
            refine T_ready (rs := [25]) (by kernel_rfl) (by simp) ?_
            refine TReady.cons rfl (fun K hK => ?_) TReady.nil
            refine step_words (.tmp 62) (.tmp 81) rfl rfl wr _ _ ws [⟨fr, ba, te, xl, xh⟩] zs _ _ (some ⟨wq28, 0, none⟩) 1 1 rfl HZS.out rfl rfl HL HL.out.src (by omega) (by simp) ?_
            intro Aw29 cw29 wv29 HL2
            clear HL
            have HL := HL2
            clear HL2
            refine hK.out _ _ (fun _ => HL.out.b) (fun hS => ?_)
            replace hS := hS (by decide)
            clear hK K
            try simp only [Act.put, List.setIfInBounds_toArray, List.set_cons_zero, List.set_cons_succ]
            refine' T_take (i := 26) (v := _) rfl (by kernel_rfl) (by kernel_rfl) (by kernel_rfl) (by kernel_rfl) (fun _ _ _ h => h) (by rfl) hS ?_ ?_
            rotate_left 1
            · intro Wv hW
              have l0 := cell_of_ans hW k0
              have l1 := cell_of_ans hW k1
              have l2 := cell_of_ans hW c1
              have l3 := cell_of_ans hW c2
              go_simp
              first | done | with_reducible rfl
            try simp only [Act.put, List.setIfInBounds_toArray, List.set_cons_zero, List.set_cons_succ]
            refine T_ready (rs := [28]) (by kernel_rfl) (by simp) ?_
            refine TReady.cons rfl (fun K hK => ?_) TReady.nil
            have z9 := HL.out.cells
            have z0 := z9.1
            have z1 := z9.2.1
            have z2 := z9.2.2.1
            have z3 := z9.2.2.2
            clear z9
            try go_simp
            have z9 := HL.out.fin (m : Int) rfl
            have HLA := z9.1
            have HBB := z9.2
            clear z9
            refine hK.out _ _ (fun _ => HBB) (fun hS => ?_)
            clear hK K hS
            try simp only [Act.put, List.setIfInBounds_toArray, List.set_cons_zero, List.set_cons_succ]
            refine T_done (by kernel_rfl) ?_ _
            refine NoPanic.normal ?_
            go_wp2_with fail
            go_meet
            exact ⟨_, rfl, HLA, HBB⟩
          · try go_simp
            replace HL := Lib.hid (HL.out.allocX ⟨fr, ba, te, xl, xh⟩)
            refine hK.out _ _ (fun _ => HL.out.b) (fun hS => ?_)
            replace hS := hS (by decide)
            clear hK K
            try simp only [Act.put, List.setIfInBounds_toArray, List.set_cons_zero, List.set_cons_succ]
            generalize hwv31 : (wv26).alloc (.cells #[.int .i64 (fr), .int .i64 (ba), .int .i64 (te), .int .i64 (xl), .int .i64 (xh)] 56) = wv31 at *
            generalize hwq31 : (wv26).heap.size = wq31 at *
            clear hwv31 hwq31
            refine T_ready (rs := [5]) (by kernel_rfl) (by simp) ?_
            refine TReady.cons rfl (fun K hK => ?_) TReady.nil
            refine step_words (.tmp 59) (.tmp 61) rfl rfl wr _ _ [] ws ws _ _ A ws.length c rfl rfl rfl rfl HL (Wds.src (HW.out.step HL.out.b)) (by decide) (by omega) ?_
            intro Aw32 cw32 wv32 HL2
            clear HL
            have HL := HL2
            clear HL2
            refine hK.out _ _ (fun _ => HL.out.b) (fun hS => ?_)
            replace hS := hS (by decide)
            clear hK K
            try simp only [Act.put, List.setIfInBounds_toArray, List.set_cons_zero, List.set_cons_succ]
            refine T_ready (rs := [25]) (by kernel_rfl) (by simp) ?_
            refine TReady.cons rfl (fun K hK => ?_) TReady.nil
            refine step_words (.tmp 62) (.tmp 81) rfl rfl wr _ _ ws [⟨fr, ba, te, xl, xh⟩] zs _ _ (some ⟨wq31, 0, none⟩) 1 1 rfl HZS.out rfl rfl HL HL.out.src (by omega) (by simp) ?_
            intro Aw33 cw33 wv33 HL2
            clear HL
            have HL := HL2
            clear HL2
            refine hK.out _ _ (fun _ => HL.out.b) (fun hS => ?_)
            replace hS := hS (by decide)
            clear hK K
            try simp only [Act.put, List.setIfInBounds_toArray, List.set_cons_zero, List.set_cons_succ]
            refine' T_take (i := 26) (v := _) rfl (by kernel_rfl) (by kernel_rfl) (by kernel_rfl) (by kernel_rfl) (fun _ _ _ h => h) (by rfl) hS ?_ ?_
            rotate_left 1
            · intro Wv hW
              have l0 := cell_of_ans hW k0
              have l1 := cell_of_ans hW k1
              have l2 := cell_of_ans hW c1
              have l3 := cell_of_ans hW c2
              go_simp
              first | done | with_reducible rfl
            try simp only [Act.put, List.setIfInBounds_toArray, List.set_cons_zero, List.set_cons_succ]
            refine T_ready (rs := [28]) (by kernel_rfl) (by simp) ?_
            refine TReady.cons rfl (fun K hK => ?_) TReady.nil
            have z9 := HL.out.cells
            have z0 := z9.1
            have z1 := z9.2.1
            have z2 := z9.2.2.1
            have z3 := z9.2.2.2
            clear z9
            try go_simp
            have z9 := HL.out.fin (m : Int) rfl
            have HLA := z9.1
            have HBB := z9.2
            clear z9
            refine hK.out _ _ (fun _ => HBB) (fun hS => ?_)
            clear hK K hS
            try simp only [Act.put, List.setIfInBounds_toArray, List.set_cons_zero, List.set_cons_succ]
            refine T_done (by kernel_rfl) ?_ _
            refine NoPanic.normal ?_
            go_wp2_with fail
            go_meet
            exact ⟨_, rfl, HLA, HBB⟩
      · try go_simp
        replace HL := Lib.hid (HL.out.allocX ⟨fr, ba, te, xl, xh⟩)
        refine hK.out _ _ (fun _ => HL.out.b) (fun hS => ?_)
        replace hS := hS (by decide)
        clear hK K
        try simp only [Act.put, List.setIfInBounds_toArray, List.set_cons_zero, List.set_cons_succ]
        generalize hwv35 : (wv0).alloc (.cells #[.int .i64 (fr), .int .i64 (ba), .int .i64 (te), .int .i64 (xl), .int .i64 (xh)] 56) = wv35 at *
        generalize hwq35 : (wv0).heap.size = wq35 at *
        clear hwv35 hwq35
        refine T_ready (rs := [2, 27]) (by kernel_rfl) (by simp) ?_
        refine TReady.cons rfl (fun K hK => ?_) (TReady.cons rfl (fun K hK => ?_) TReady.nil)
        · try go_simp
          replace HL := Lib.hid HL.out.allocE
          refine hK.out _ _ (fun _ => HL.out.b) (fun hS => ?_)
          replace hS := hS (by decide)
          clear hK K
          try simp only [Act.put, List.setIfInBounds_toArray, List.set_cons_zero, List.set_cons_succ]
          generalize hwv36 : (wv35).alloc (.cells #[] 56) = wv36 at *
          generalize hwq36 : (wv35).heap.size = wq36 at *
          clear hwv36 hwq36
          refine T_ready (rs := [5, 27]) (by kernel_rfl) (by simp) ?_
          refine TReady.cons rfl (fun K hK => ?_) (TReady.cons rfl (fun K hK => ?_) TReady.nil)
          · refine step_words (.tmp 59) (.tmp 61) rfl rfl wr _ _ [] ws ws _ _ A ws.length c rfl rfl rfl rfl HL (Wds.src (HW.out.step HL.out.b)) (by decide) (by omega) ?_
            intro Aw37 cw37 wv37 HL2
            clear HL
            have HL := HL2
            clear HL2
            refine hK.out _ _ (fun _ => HL.out.b) (fun hS => ?_)
            replace hS := hS (by decide)
            clear hK K
            try simp only [Act.put, List.setIfInBounds_toArray, List.set_cons_zero, List.set_cons_succ]
            refine T_ready (rs := [25, 27]) (by kernel_rfl) (by simp) ?_
            refine TReady.cons rfl (fun K hK => ?_) (TReady.cons rfl (fun K hK => ?_) TReady.nil)
            · refine step_words (.tmp 62) (.tmp 81) rfl rfl wr _ _ ws [⟨fr, ba, te, xl, xh⟩] zs _ _ (some ⟨wq35, 0, none⟩) 1 1 rfl HZS.out rfl rfl HL HL.out.src (by omega) (by simp) ?_
              intro Aw38 cw38 wv38 HL2
              clear HL
              have HL := HL2
              clear HL2
              refine hK.out _ _ (fun _ => HL.out.b) (fun hS => ?_)
              replace hS := hS (by decide)
              clear hK K
              try simp only [Act.put, List.setIfInBounds_toArray, List.set_cons_zero, List.set_cons_succ]
              refine' T_take (i := 26) (v := _) rfl (by kernel_rfl) (by kernel_rfl) (by kernel_rfl) (by kernel_rfl) (fun _ _ _ h => h) (by rfl) hS ?_ ?_
              rotate_left 1
              · intro Wv hW
                have l0 := cell_of_ans hW k0
                have l1 := cell_of_ans hW k1
                have l2 := cell_of_ans hW c1
                have l3 := cell_of_ans hW c2
                go_simp
                first | done | with_reducible rfl
              try simp only [Act.put, List.setIfInBounds_toArray, List.set_cons_zero, List.set_cons_succ]
              refine T_ready (rs := [27]) (by kernel_rfl) (by simp) ?_
              refine TReady.cons rfl (fun K hK => ?_) TReady.nil
              try go_simp
              replace HL := Lib.hid HL.out.allocG
              refine hK.out _ _ (fun _ => HL.out.b) (fun hS => ?_)
              replace hS := hS (by decide)
              clear hK K
              try simp only [Act.put, List.setIfInBounds_toArray, List.set_cons_zero, List.set_cons_succ]
              generalize hwv39 : (wv38).alloc (.cells #[.int .i64 0, .slice none 0 0] 24) = wv39 at *
              generalize hwq39 : (wv38).heap.size = wq39 at *
              clear hwv39 hwq39
              refine T_ready (rs := [28]) (by kernel_rfl) (by simp) ?_
              refine TReady.cons rfl (fun K hK => ?_) TReady.nil
              have z9 := HL.out.cells
              have z0 := z9.1
              have z1 := z9.2.1
              have z2 := z9.2.2.1
              have z3 := z9.2.2.2
              clear z9
              try go_simp
              have z9 := HL.out.fin (m : Int) rfl
              have HLA := z9.1
              have HBB := z9.2
              clear z9
              refine hK.out _ _ (fun _ => HBB) (fun hS => ?_)
              clear hK K hS
              try simp only [Act.put, List.setIfInBounds_toArray, List.set_cons_zero, List.set_cons_succ]
              refine T_done (by kernel_rfl) ?_ _
              refine NoPanic.normal ?_
              go_wp2_with fail
              go_meet
              exact ⟨_, rfl, HLA, HBB⟩
            · try go_simp
              replace HL := Lib.hid HL.out.allocG
              refine hK.out _ _ (fun _ => HL.out.b) (fun hS => ?_)
              replace hS := hS (by decide)
              clear hK K
              try simp only [Act.put, List.setIfInBounds_toArray, List.set_cons_zero, List.set_cons_succ]
              generalize hwv41 : (wv37).alloc (.cells #[.int .i64 0, .slice none 0 0] 24) = wv41 at *
              generalize hwq41 : (wv37).heap.size = wq41 at *
              clear hwv41 hwq41
              refine T_ready (rs := [25]) (by kernel_rfl) (by simp) ?_
              refine TReady.cons rfl (fun K hK => ?_) TReady.nil
              refine step_words (.tmp 62) (.tmp 81) rfl rfl wr _ _ ws [⟨fr, ba, te, xl, xh⟩] zs _ _ (some ⟨wq35, 0, none⟩) 1 1 rfl HZS.out rfl rfl HL HL.out.src (by omega) (by simp) ?_
              intro Aw42 cw42 wv42 HL2
              clear HL
              have HL := HL2
              clear HL2
              refine hK.out _ _ (fun _ => HL.out.b) (fun hS => ?_)
              replace hS := hS (by decide)
              clear hK K
              try simp only [Act.put, List.setIfInBounds_toArray, List.set_cons_zero, List.set_cons_succ]
              refine' T_take (i := 26) (v := _) rfl (by kernel_rfl) (by kernel_rfl) (by kernel_rfl) (by kernel_rfl) (fun _ _ _ h => h) (by rfl) hS ?_ ?_
              rotate_left 1
              · intro Wv hW
                have l0 := cell_of_ans hW k0
                have l1 := cell_of_ans hW k1
                have l2 := cell_of_ans hW c1
                have l3 := cell_of_ans hW c2
                go_simp
                first | done | with_reducible rfl
              try simp only [Act.put, List.setIfInBounds_toArray, List.set_cons_zero, List.set_cons_succ]
              refine T_ready (rs := [28]) (by kernel_rfl) (by simp) ?_
              refine TReady.cons rfl (fun K hK => ?_) TReady.nil
              have z9 := HL.out.cells
              have z0 := z9.1
              have z1 := z9.2.1
              have z2 := z9.2.2.1
              have z3 := z9.2.2.2
              clear z9
              try go_simp
              have z9 := HL.out.fin (m : Int) rfl
              have HLA := z9.1
              have HBB := z9.2
              clear z9
              refine hK.out _ _ (fun _ => HBB) (fun hS => ?_)
              clear hK K hS
              try simp only [Act.put, List.setIfInBounds_toArray, List.set_cons_zero, List.set_cons_succ]
              refine T_done (by kernel_rfl) ?_ _
              refine NoPanic.normal ?_
              go_wp2_with fail
              go_meet
              exact ⟨_, rfl, HLA, HBB⟩
          · try go_simp
            replace HL := Lib.hid HL.out.allocG
            refine hK.out _ _ (fun _ => HL.out.b) (fun hS => ?_)
            replace hS := hS (by decide)
            clear hK K
            try simp only [Act.put, List.setIfInBounds_toArray, List.set_cons_zero, List.set_cons_succ]
            generalize hwv44 : (wv36).alloc (.cells #[.int .i64 0, .slice none 0 0] 24) = wv44 at *
            generalize hwq44 : (wv36).heap.size = wq44 at *
            clear hwv44 hwq44
            refine T_ready (rs := [5]) (by kernel_rfl) (by simp) ?_
            refine TReady.cons rfl (fun K hK => ?_) TReady.nil
            refine step_words (.tmp 59) (.tmp 61) rfl rfl wr _ _ [] ws ws _ _ A ws.length c rfl rfl rfl rfl HL (Wds.src (HW.out.step HL.out.b)) (by decide) (by omega) ?_
            intro Aw45 cw45 wv45 HL2
            clear HL
            have HL := HL2
            clear HL2
            refine hK.out _ _ (fun _ => HL.out.b) (fun hS => ?_)
            replace hS := hS (by decide)
            clear hK K
            try simp only [Act.put, List.setIfInBounds_toArray, List.set_cons_zero, List.set_cons_succ]
            refine T_ready (rs := [25]) (by kernel_rfl) (by simp) ?_
            refine TReady.cons rfl (fun K hK => ?_) TReady.nil
            refine step_words (.tmp 62) (.tmp 81) rfl rfl wr _ _ ws [⟨fr, ba, te, xl, xh⟩] zs _ _ (some ⟨wq35, 0, none⟩) 1 1 rfl HZS.out rfl rfl HL HL.out.src (by omega) (by simp) ?_
            intro Aw46 cw46 wv46 HL2
            clear HL
            have HL := HL2
            clear HL2
            refine hK.out _ _ (fun _ => HL.out.b) (fun hS => ?_)
            replace hS := hS (by decide)
            clear hK K
            try simp only [Act.put, List.setIfInBounds_toArray, List.set_cons_zero, List.set_cons_succ]
            refine' T_take (i := 26) (v := _) rfl (by kernel_rfl) (by kernel_rfl) (by kernel_rfl) (by kernel_rfl) (fun _ _ _ h => h) (by rfl) hS ?_ ?_
            rotate_left 1
            · intro Wv hW
              have l0 := cell_of_ans hW k0
              have l1 := cell_of_ans hW k1
              have l2 := cell_of_ans hW c1
              have l3 := cell_of_ans hW c2
              go_simp
              first | done | with_reducible rfl
            try simp only [Act.put, List.setIfInBounds_toArray, List.set_cons_zero, List.set_cons_succ]
            refine T_ready (rs := [28]) (by kernel_rfl) (by simp) ?_
            refine TReady.cons rfl (fun K hK => ?_) TReady.nil
            have z9 := HL.out.cells
            have z0 := z9.1
            have z1 := z9.2.1
            have z2 := z9.2.2.1
            have z3 := z9.2.2.2
            clear z9
            try go_simp
            have z9 := HL.out.fin (m : Int) rfl
            have HLA := z9.1
            have HBB := z9.2
            clear z9
            refine hK.out _ _ (fun _ => HBB) (fun hS => ?_)
            clear hK K hS
            try simp only [Act.put, List.setIfInBounds_toArray, List.set_cons_zero, List.set_cons_succ]
            refine T_done (by kernel_rfl) ?_ _
            refine NoPanic.normal ?_
            go_wp2_with fail
            go_meet
            exact ⟨_, rfl, HLA, HBB⟩
        · try go_simp
          replace HL := Lib.hid HL.out.allocG
          refine hK.out _ _ (fun _ => HL.out.b) (fun hS => ?_)
          replace hS := hS (by decide)
          clear hK K
          try simp only [Act.put, List.setIfInBounds_toArray, List.set_cons_zero, List.set_cons_succ]
          generalize hwv48 : (wv35).alloc (.cells #[.int .i64 0, .slice none 0 0] 24) = wv48 at *
          generalize hwq48 : (wv35).heap.size = wq48 at *
          clear hwv48 hwq48
          refine T_ready (rs := [2]) (by kernel_rfl) (by simp) ?_
          refine TReady.cons rfl (fun K hK => ?_) TReady.nil
          try go_simp
          replace HL := Lib.hid HL.out.allocE
          refine hK.out _ _ (fun _ => HL.out.b) (fun hS => ?_)
          replace hS := hS (by decide)
          clear hK K
          try simp only [Act.put, List.setIfInBounds_toArray, List.set_cons_zero, List.set_cons_succ]
          generalize hwv49 : (wv48).alloc (.cells #[] 56) = wv49 at *
          generalize hwq49 : (wv48).heap.size = wq49 at *
          clear hwv49 hwq49
          refine T_ready (rs := [5]) (by kernel_rfl) (by simp) ?_
          refine TReady.cons rfl (fun K hK => ?_) TReady.nil
          refine step_words (.tmp 59) (.tmp 61) rfl rfl wr _ _ [] ws ws _ _ A ws.length c rfl rfl rfl rfl HL (Wds.src (HW.out.step HL.out.b)) (by decide) (by omega) ?_
          intro Aw50 cw50 wv50 HL2
          clear HL
          have HL := HL2
          clear HL2
          refine hK.out _ _ (fun _ => HL.out.b) (fun hS => ?_)
          replace hS := hS (by decide)
          clear hK K
          try simp only [Act.put, List.setIfInBounds_toArray, List.set_cons_zero, List.set_cons_succ]
          refine T_ready (rs := [25]) (by kernel_rfl) (by simp) ?_
          refine TReady.cons rfl (fun K hK => ?_) TReady.nil
          refine step_words (.tmp 62) (.tmp 81) rfl rfl wr _ _ ws [⟨fr, ba, te, xl, xh⟩] zs _ _ (some ⟨wq35, 0, none⟩) 1 1 rfl HZS.out rfl rfl HL HL.out.src (by omega) (by simp) ?_
          intro Aw51 cw51 wv51 HL2
          clear HL
          have HL := HL2
          clear HL2
          refine hK.out _ _ (fun _ => HL.out.b) (fun hS => ?_)
          replace hS := hS (by decide)
          clear hK K
          try simp only [Act.put, List.setIfInBounds_toArray, List.set_cons_zero, List.set_cons_succ]
          refine' T_take (i := 26) (v := _) rfl (by kernel_rfl) (by kernel_rfl) (by kernel_rfl) (by kernel_rfl) (fun _ _ _ h => h) (by rfl) hS ?_ ?_
          rotate_left 1
          · intro Wv hW
            have l0 := cell_of_ans hW k0
            have l1 := cell_of_ans hW k1
            have l2 := cell_of_ans hW c1
            have l3 := cell_of_ans hW c2
            go_simp
            first | done | with_reducible rfl
          try simp only [Act.put, List.setIfInBounds_toArray, List.set_cons_zero, List.set_cons_succ]
          refine T_ready (rs := [28]) (by kernel_rfl) (by simp) ?_
          refine TReady.cons rfl (fun K hK => ?_) TReady.nil
          have z9 := HL.out.cells
          have z0 := z9.1
          have z1 := z9.2.1
          have z2 := z9.2.2.1
          have z3 := z9.2.2.2
          clear z9
          try go_simp
          have z9 := HL.out.fin (m : Int) rfl
          have HLA := z9.1
          have HBB := z9.2
          clear z9
          refine hK.out _ _ (fun _ => HBB) (fun hS => ?_)
          clear hK K hS
          try simp only [Act.put, List.setIfInBounds_toArray, List.set_cons_zero, List.set_cons_succ]
          refine T_done (by kernel_rfl) ?_ _
          refine NoPanic.normal ?_
          go_wp2_with fail
          go_meet
          exact ⟨_, rfl, HLA, HBB⟩
      · try go_simp
        replace HL := Lib.hid HL.out.allocG
        refine hK.out _ _ (fun _ => HL.out.b) (fun hS => ?_)
        replace hS := hS (by decide)
        clear hK K
        try simp only [Act.put, List.setIfInBounds_toArray, List.set_cons_zero, List.set_cons_succ]
        generalize hwv53 : (wv0).alloc (.cells #[.int .i64 0, .slice none 0 0] 24) = wv53 at *
        generalize hwq53 : (wv0).heap.size = wq53 at *
        clear hwv53 hwq53
        refine T_ready (rs := [2, 24]) (by kernel_rfl) (by simp) ?_
        refine TReady.cons rfl (fun K hK => ?_) (TReady.cons rfl (fun K hK => ?_) TReady.nil)
        · try go_simp
          replace HL := Lib.hid HL.out.allocE
          refine hK.out _ _ (fun _ => HL.out.b) (fun hS => ?_)
          replace hS := hS (by decide)
          clear hK K
          try simp only [Act.put, List.setIfInBounds_toArray, List.set_cons_zero, List.set_cons_succ]
          generalize hwv54 : (wv53).alloc (.cells #[] 56) = wv54 at *
          generalize hwq54 : (wv53).heap.size = wq54 at *
          clear hwv54 hwq54
          refine T_ready (rs := [5, 24]) (by kernel_rfl) (by simp) ?_
          refine TReady.cons rfl (fun K hK => ?_) (TReady.cons rfl (fun K hK => ?_) TReady.nil)
          · refine step_words (.tmp 59) (.tmp 61) rfl rfl wr _ _ [] ws ws _ _ A ws.length c rfl rfl rfl rfl HL (Wds.src (HW.out.step HL.out.b)) (by decide) (by omega) ?_
            intro Aw55 cw55 wv55 HL2
            clear HL
            have HL := HL2
            clear HL2
            refine hK.out _ _ (fun _ => HL.out.b) (fun hS => ?_)
            replace hS := hS (by decide)
            clear hK K
            try simp only [Act.put, List.setIfInBounds_toArray, List.set_cons_zero, List.set_cons_succ]
            refine T_ready (rs := [24]) (by kernel_rfl) (by simp) ?_
            refine TReady.cons rfl (fun K hK => ?_) TReady.nil
            try go_simp
            replace HL := Lib.hid (HL.out.allocX ⟨fr, ba, te, xl, xh⟩)
            refine hK.out _ _ (fun _ => HL.out.b) (fun hS => ?_)
            replace hS := hS (by decide)
            clear hK K
            try simp only [Act.put, List.setIfInBounds_toArray, List.set_cons_zero, List.set_cons_succ]
            generalize hwv56 : (wv55).alloc (.cells #[.int .i64 (fr), .int .i64 (ba), .int .i64 (te), .int .i64 (xl), .int .i64 (xh)] 56) = wv56 at *
            generalize hwq56 : (wv55).heap.size = wq56 at *
            clear hwv56 hwq56
            refine T_ready (rs := [25]) (by kernel_rfl) (by simp) ?_
            refine TReady.cons rfl (fun K hK => ?_) TReady.nil
            refine step_words (.tmp 62) (.tmp 81) rfl rfl wr _ _ ws [⟨fr, ba, te, xl, xh⟩] zs _ _ (some ⟨wq56, 0, none⟩) 1 1 rfl HZS.out rfl rfl HL HL.out.src (by omega) (by simp) ?_
            intro Aw57 cw57 wv57 HL2
            clear HL
            have HL := HL2
            clear HL2
            refine hK.out _ _ (fun _ => HL.out.b) (fun hS => ?_)
            replace hS := hS (by decide)
            clear hK K
            try simp only [Act.put, List.setIfInBounds_toArray, List.set_cons_zero, List.set_cons_succ]
            refine' T_take (i := 26) (v := _) rfl (by kernel_rfl) (by kernel_rfl) (by kernel_rfl) (by kernel_rfl) (fun _ _ _ h => h) (by rfl) hS ?_ ?_
            rotate_left 1
            · intro Wv hW
              have l0 := cell_of_ans hW k0
              have l1 := cell_of_ans hW k1
              have l2 := cell_of_ans hW c1
              have l3 := cell_of_ans hW c2
              go_simp
              first | done | with_reducible rfl
            try simp only [Act.put, List.setIfInBounds_toArray, List.set_cons_zero, List.set_cons_succ]
            refine T_ready (rs := [28]) (by kernel_rfl) (by simp) ?_
            refine TReady.cons rfl (fun K hK => ?_) TReady.nil
            have z9 := HL.out.cells
            have z0 := z9.1
            have z1 := z9.2.1
            have z2 := z9.2.2.1
            have z3 := z9.2.2.2
            clear z9
            try go_simp
            have z9 := HL.out.fin (m : Int) rfl
            have HLA := z9.1
            have HBB := z9.2
            clear z9
            refine hK.out _ _ (fun _ => HBB) (fun hS => ?_)
            clear hK K hS
            try simp only [Act.put, List.setIfInBounds_toArray, List.set_cons_zero, List.set_cons_succ]
            refine T_done (by kernel_rfl) ?_ _
            refine NoPanic.normal ?_
            go_wp2_with fail
            go_meet
            exact ⟨_, rfl, HLA, HBB⟩
          · try go_simp
            replace HL := Lib.hid (HL.out.allocX ⟨fr, ba, te, xl, xh⟩)
            refine hK.out _ _ (fun _ => HL.out.b) (fun hS => ?_)
            replace hS := hS (by decide)
            clear hK K
            try simp only [Act.put, List.setIfInBounds_toArray, List.set_cons_zero, List.set_cons_succ]
            generalize hwv59 : (wv54).alloc (.cells #[.int .i64 (fr), .int .i64 (ba), .int .i64 (te), .int .i64 (xl), .int .i64 (xh)] 56) = wv59 at *
            generalize hwq59 : (wv54).heap.size = wq59 at *
            clear hwv59 hwq59
            refine T_ready (rs := [5]) (by kernel_rfl) (by simp) ?_
            refine TReady.cons rfl (fun K hK => ?_) TReady.nil
            refine step_words (.tmp 59) (.tmp 61) rfl rfl wr _ _ [] ws ws _ _ A ws.length c rfl rfl rfl rfl HL (Wds.src (HW.out.step HL.out.b)) (by decide) (by omega) ?_
            intro Aw60 cw60 wv60 HL2
            clear HL
            have HL := HL2
            clear HL2
            refine hK.out _ _ (fun _ => HL.out.b) (fun hS => ?_)
            replace hS := hS (by decide)
            clear hK K
            try simp only [Act.put, List.setIfInBounds_toArray, List.set_cons_zero, List.set_cons_succ]
            refine T_ready (rs := [25]) (by kernel_rfl) (by simp) ?_
            refine TReady.cons rfl (fun K hK => ?_) TReady.nil
            refine step_words (.tmp 62) (.tmp 81) rfl rfl wr _ _ ws [⟨fr, ba, te, xl, xh⟩] zs _ _ (some ⟨wq59, 0, none⟩) 1 1 rfl HZS.out rfl rfl HL HL.out.src (by omega) (by simp) ?_
            intro Aw61 cw61 wv61 HL2
            clear HL
            have HL := HL2
            clear HL2
            refine hK.out _ _ (fun _ => HL.out.b) (fun hS => ?_)
            replace hS := hS (by decide)
            clear hK K
            try simp only [Act.put, List.setIfInBounds_toArray, List.set_cons_zero, List.set_cons_succ]
            refine' T_take (i := 26) (v := _) rfl (by kernel_rfl) (by kernel_rfl) (by kernel_rfl) (by kernel_rfl) (fun _ _ _ h => h) (by rfl) hS ?_ ?_
            rotate_left 1
            · intro Wv hW
              have l0 := cell_of_ans hW k0
              have l1 := cell_of_ans hW k1
              have l2 := cell_of_ans hW c1
              have l3 := cell_of_ans hW c2
              go_simp
              first | done | with_reducible rfl
            try simp only [Act.put, List.setIfInBounds_toArray, List.set_cons_zero, List.set_cons_succ]
            refine T_ready (rs := [28]) (by kernel_rfl) (by simp) ?_
            refine TReady.cons rfl (fun K hK => ?_) TReady.nil
            have z9 := HL.out.cells
            have z0 := z9.1
            have z1 := z9.2.1
            have z2 := z9.2.2.1
            have z3 := z9.2.2.2
            clear z9
            try go_simp
            have z9 := HL.out.fin (m : Int) rfl
            have HLA := z9.1
            have HBB := z9.2
            clear z9
            refine hK.out _ _ (fun _ => HBB) (fun hS => ?_)
            clear hK K hS
            try simp only [Act.put, List.setIfInBounds_toArray, List.set_cons_zero, List.set_cons_succ]
            refine T_done (by kernel_rfl) ?_ _
            refine NoPanic.normal ?_
            go_wp2_with fail
            go_meet
            exact ⟨_, rfl, HLA, HBB⟩
        · try go_simp
          replace HL := Lib.hid (HL.out.allocX ⟨fr, ba, te, xl, xh⟩)
          refine hK.out _ _ (fun _ => HL.out.b) (fun hS => ?_)
          replace hS := hS (by decide)
          clear hK K
          try simp only [Act.put, List.setIfInBounds_toArray, List.set_cons_zero, List.set_cons_succ]
          generalize hwv63 : (wv53).alloc (.cells #[.int .i64 (fr), .int .i64 (ba), .int .i64 (te), .int .i64 (xl), .int .i64 (xh)] 56) = wv63 at *
          generalize hwq63 : (wv53).heap.size = wq63 at *
          clear hwv63 hwq63
          refine T_ready (rs := [2]) (by kernel_rfl) (by simp) ?_
          refine TReady.cons rfl (fun K hK => ?_) TReady.nil
          try go_simp
          replace HL := Lib.hid HL.out.allocE
          refine hK.out _ _ (fun _ => HL.out.b) (fun hS => ?_)
          replace hS := hS (by decide)
          clear hK K
          try simp only [Act.put, List.setIfInBounds_toArray, List.set_cons_zero, List.set_cons_succ]
          generalize hwv64 : (wv63).alloc (.cells #[] 56) = wv64 at *
          generalize hwq64 : (wv63).heap.size = wq64 at *
          clear hwv64 hwq64
          refine T_ready (rs := [5]) (by kernel_rfl) (by simp) ?_
          refine TReady.cons rfl (fun K hK => ?_) TReady.nil
          refine step_words (.tmp 59) (.tmp 61) rfl rfl wr _ _ [] ws ws _ _ A ws.length c rfl rfl rfl rfl HL (Wds.src (HW.out.step HL.out.b)) (by decide) (by omega) ?_
          intro Aw65 cw65 wv65 HL2
          clear HL
          have HL := HL2
          clear HL2
          refine hK.out _ _ (fun _ => HL.out.b) (fun hS => ?_)
          replace hS := hS (by decide)
          clear hK K
          try simp only [Act.put, List.setIfInBounds_toArray, List.set_cons_zero, List.set_cons_succ]
          refine T_ready (rs := [25]) (by kernel_rfl) (by simp) ?_
          refine TReady.cons rfl (fun K hK => ?_) TReady.nil
          refine step_words (.tmp 62) (.tmp 81) rfl rfl wr _ _ ws [⟨fr, ba, te, xl, xh⟩] zs _ _ (some ⟨wq63, 0, none⟩) 1 1 rfl HZS.out rfl rfl HL HL.out.src (by omega) (by simp) ?_
          intro Aw66 cw66 wv66 HL2
          clear HL
          have HL := HL2
          clear HL2
          refine hK.out _ _ (fun _ => HL.out.b) (fun hS => ?_)
          replace hS := hS (by decide)
          clear hK K
          try simp only [Act.put, List.setIfInBounds_toArray, List.set_cons_zero, List.set_cons_succ]
          refine' T_take (i := 26) (v := _) rfl (by kernel_rfl) (by kernel_rfl) (by kernel_rfl) (by kernel_rfl) (fun _ _ _ h => h) (by rfl) hS ?_ ?_
          rotate_left 1
          · intro Wv hW
            have l0 := cell_of_ans hW k0
            have l1 := cell_of_ans hW k1
            have l2 := cell_of_ans hW c1
            have l3 := cell_of_ans hW c2
            go_simp
            first | done | with_reducible rfl
          try simp only [Act.put, List.setIfInBounds_toArray, List.set_cons_zero, List.set_cons_succ]
          refine T_ready (rs := [28]) (by kernel_rfl) (by simp) ?_
          refine TReady.cons rfl (fun K hK => ?_) TReady.nil
          have z9 := HL.out.cells
          have z0 := z9.1
          have z1 := z9.2.1
          have z2 := z9.2.2.1
          have z3 := z9.2.2.2
          clear z9
          try go_simp
          have z9 := HL.out.fin (m : Int) rfl
          have HLA := z9.1
          have HBB := z9.2
          clear z9
          refine hK.out _ _ (fun _ => HBB) (fun hS => ?_)
          clear hK K hS
          try simp only [Act.put, List.setIfInBounds_toArray, List.set_cons_zero, List.set_cons_succ]
          refine T_done (by kernel_rfl) ?_ _
          refine NoPanic.normal ?_
          go_wp2_with fail
          go_meet
          exact ⟨_, rfl, HLA, HBB⟩
    case rest =>
      obtain ⟨gq, rfl, ⟨Az, cz, z0, z1, hcz, hz⟩, hb⟩ := hcut
      obtain ⟨wd, rfl⟩ : ∃ wd : World, wd = wc := ⟨_, rfl⟩
      have HZ := Lib.hid hz
      clear hz
      replace HW := Lib.hid (HW.out.step hb)
      replace k0 := cell_of_ans hb k0
      replace k1 := cell_of_ans hb k1
      replace p0 := cell_of_ans hb p0
      replace p1 := cell_of_ans hb p1
      replace p2 := cell_of_ans hb p2
      replace p3 := cell_of_ans hb p3
      replace p4 := cell_of_ans hb p4
      replace HCA := Lib.hid (HCA.out.step hb)
      replace HG := Lib.hid (HG.out.step hb)
      replace u0 := cell_of_ans hb u0
      replace u1 := cell_of_ans hb u1
      replace HB := Lib.hid (HB.out.trans (hb.mono HB.out.size))
      clear hb
      go_wp2_with fail
      refine (narrower_c Az A AcA zs ws fa cz c ccA m _ HZ.out HW.out HCA.out hcz hc ⟨hcA, hccA⟩ hfl HEZ.out HEA.out HN1.out).mono ?_
      rintro e y19 ⟨rfl, hb⟩
      replace HW := Lib.hid (HW.out.step hb)
      replace k0 := cell_of_ans hb k0
      replace k1 := cell_of_ans hb k1
      replace p0 := cell_of_ans hb p0
      replace p1 := cell_of_ans hb p1
      replace p2 := cell_of_ans hb p2
      replace p3 := cell_of_ans hb p3
      replace p4 := cell_of_ans hb p4
      replace HCA := Lib.hid (HCA.out.step hb)
      replace HG := Lib.hid (HG.out.step hb)
      replace u0 := cell_of_ans hb u0
      replace u1 := cell_of_ans hb u1
      replace HZ := Lib.hid (HZ.out.step hb)
      replace z0 := cell_of_ans hb z0
      replace z1 := cell_of_ans hb z1
      replace HB := Lib.hid (HB.out.trans (hb.mono HB.out.size))
      clear hb
      go_wp2_with fail
      refine (narrower_c A Az AcA ws zs fa c cz ccA m _ HW.out HZ.out HCA.out hc hcz ⟨hcA, hccA⟩ hfl HEA.out HEZ.out HN2.out).mono ?_
      rintro e y20 ⟨rfl, hb⟩
      replace HW := Lib.hid (HW.out.step hb)
      replace k0 := cell_of_ans hb k0
      replace k1 := cell_of_ans hb k1
      replace p0 := cell_of_ans hb p0
      replace p1 := cell_of_ans hb p1
      replace p2 := cell_of_ans hb p2
      replace p3 := cell_of_ans hb p3
      replace p4 := cell_of_ans hb p4
      replace HCA := Lib.hid (HCA.out.step hb)
      replace HG := Lib.hid (HG.out.step hb)
      replace u0 := cell_of_ans hb u0
      replace u1 := cell_of_ans hb u1
      replace HZ := Lib.hid (HZ.out.step hb)
      replace z0 := cell_of_ans hb z0
      replace z1 := cell_of_ans hb z1
      replace HB := Lib.hid (HB.out.trans (hb.mono HB.out.size))
      clear hb
      clear HZ z0 z1
      go_upto_region 13 with fail
      generalize hwr : y20 = wr at HW k0 k1 p0 p1 p2 p3 p4 HG HCA u0 u1 HB ⊢
      clear hwr
      obtain ⟨ys, hys⟩ : ∃ ys : List Wd, ys = ws ++ [⟨pf, pb, pt, plo, phi⟩] := ⟨_, rfl⟩
      have HYS := Lib.hid hys
      clear hys
      have hyl : ys.length ≤ 1000000 := by rw [HYS.out]; simp; omega
      have HNY : Hid (Nar m ys ws (offT fa)) := nar_sub (fun x hx => by rw [HYS.out]; exact List.mem_append_left _ hx) _
      go_cut [15] (fun s15 wx => ∃ gq : Nat, s15 = .pointer (some ⟨gq, 0, none⟩) ∧ LaneAt wx.heap.size wx gq (m : Int) ys ∧ Below wr.heap.size wr wx)
      case first =>
        try clear HB
        try clear HG
        try clear HCA
        try clear HEA
        try clear HRG
        try clear HXX
        try clear HRL
        try clear HRBD
        try clear HNR
        try clear HLE
        try clear HOK
        try clear HRA
        try clear hkk
        try clear hkm
        try clear hm0
        try clear h2m
        try clear hrp
        try clear HWK
        try clear u0
        try clear u1
        try clear HLZ
        try clear HN1
        try clear HN2
        try clear HEZ
        try clear HPX
        try clear HFR
        try clear HBA
        try clear HTE
        try clear hb2
        try clear HZ
        try clear z0
        try clear z1
        try clear HNY
        try clear c1
        try clear c2
        try clear z0
        try clear z1
        try clear HZ
        try clear hzl
        try clear HZS
        refine wp_region_noPanic ?_
        have hS : (fun w' : World => Below wr.heap.size wr w') wr.drew := (Below.refl _ _).drew
        refine wp_region_any (by kernel_rfl) (wpAny_of_T (S := fun w' : World => Below wr.heap.size wr w') (m := 12) _ _ _ _ ?_)
        have HL : Hid (LSt wr wr.drew none none none) := LSt.start hS
        change wpAnyT _ _ _ _ _ _ _ _ _ wr.drew
        generalize hwv0 : wr.drew = wv0 at *
        clear hwv0
        refine' T_take (i := 0) (v := _) rfl (by kernel_rfl) (by kernel_rfl) (by kernel_rfl) (by kernel_rfl) (fun _ _ _ h => h) (by rfl) hS ?_ ?_
        rotate_left 1
        · intro Wv hW
          have l0 := cell_of_ans hW k0
          have l1 := cell_of_ans hW k1
          have l2 := cell_of_ans hW p0
          have l3 := cell_of_ans hW p1
          have l4 := cell_of_ans hW p2
          have l5 := cell_of_ans hW p3
          have l6 := cell_of_ans hW p4
          go_simp
          first | done | with_reducible rfl
        try simp only [Act.put, List.setIfInBounds_toArray, List.set_cons_zero, List.set_cons_succ]
        refine' T_take (i := 1) (v := _) rfl (by kernel_rfl) (by kernel_rfl) (by kernel_rfl) (by kernel_rfl) (fun _ _ _ h => h) (by rfl) hS ?_ ?_
        rotate_left 1
        · intro Wv hW
          have l0 := cell_of_ans hW k0
          have l1 := cell_of_ans hW k1
          have l2 := cell_of_ans hW p0
          have l3 := cell_of_ans hW p1
          have l4 := cell_of_ans hW p2
          have l5 := cell_of_ans hW p3
          have l6 := cell_of_ans hW p4
          go_simp
          first | done | with_reducible rfl
        try simp only [Act.put, List.setIfInBounds_toArray, List.set_cons_zero, List.set_cons_succ]
        refine' T_take (i := 3) (v := _) rfl (by kernel_rfl) (by kernel_rfl) (by kernel_rfl) (by kernel_rfl) (fun _ _ _ h => h) (by rfl) hS ?_ ?_
        rotate_left 1
        · intro Wv hW
          have l0 := cell_of_ans hW k0
          have l1 := cell_of_ans hW k1
          have l2 := cell_of_ans hW p0
          have l3 := cell_of_ans hW p1
          have l4 := cell_of_ans hW p2
          have l5 := cell_of_ans hW p3
          have l6 := cell_of_ans hW p4
          go_simp
          first | done | with_reducible rfl
        try simp only [Act.put, List.setIfInBounds_toArray, List.set_cons_zero, List.set_cons_succ]
        refine' T_take (i := 4) (v := _) rfl (by kernel_rfl) (by kernel_rfl) (by kernel_rfl) (by kernel_rfl) (fun _ _ _ h => h) (by rfl) hS ?_ ?_
        rotate_left 1
        · intro Wv hW
          have l0 := cell_of_ans hW k0
          have l1 := cell_of_ans hW k1
          have l2 := cell_of_ans hW p0
          have l3 := cell_of_ans hW p1
          have l4 := cell_of_ans hW p2
          have l5 := cell_of_ans hW p3
          have l6 := cell_of_ans hW p4
          go_simp
          first | done | with_reducible rfl
        try simp only [Act.put, List.setIfInBounds_toArray, List.set_cons_zero, List.set_cons_succ]
        refine' T_take (i := 6) (v := _) rfl (by kernel_rfl) (by kernel_rfl) (by kernel_rfl) (by kernel_rfl) (fun _ _ _ h => h) (by rfl) hS ?_ ?_
        rotate_left 1
        · intro Wv hW
          have l0 := cell_of_ans hW k0
          have l1 := cell_of_ans hW k1
          have l2 := cell_of_ans hW p0
          have l3 := cell_of_ans hW p1
          have l4 := cell_of_ans hW p2
          have l5 := cell_of_ans hW p3
          have l6 := cell_of_ans hW p4
          go_simp
          first | done | with_reducible rfl
        try simp only [Act.put, List.setIfInBounds_toArray, List.set_cons_zero, List.set_cons_succ]
        refine T_ready (rs := [2, 7, 10]) (by kernel_rfl) (by simp) ?_
        refine TReady.cons rfl (fun K hK => ?_) (TReady.cons rfl (fun K hK => ?_) (TReady.cons rfl (fun K hK => ?_) TReady.nil))
        · try go_simp
          replace HL := Lib.hid HL.out.allocE
          refine hK.out _ _ (fun _ => HL.out.b) (fun hS => ?_)
          replace hS := hS (by decide)
          clear hK K
          try simp only [Act.put, List.setIfInBounds_toArray, List.set_cons_zero, List.set_cons_succ]
          generalize hwv1 : (wv0).alloc (.cells #[] 56) = wv1 at *
          generalize hwq1 : (wv0).heap.size = wq1 at *
          clear hwv1 hwq1
          refine T_ready (rs := [5, 7, 10]) (by kernel_rfl) (by simp) ?_
          refine TReady.cons rfl (fun K hK => ?_) (TReady.cons rfl (fun K hK => ?_) (TReady.cons rfl (fun K hK => ?_) TReady.nil))
          · refine step_words (.tmp 98) (.tmp 100) rfl rfl wr _ _ [] ws ws _ _ A ws.length c rfl rfl rfl rfl HL (Wds.src (HW.out.step HL.out.b)) (by decide) (by omega) ?_
            intro Aw2 cw2 wv2 HL2
            clear HL
            have HL := HL2
            clear HL2
            refine hK.out _ _ (fun _ => HL.out.b) (fun hS => ?_)
            replace hS := hS (by decide)
            clear hK K
            try simp only [Act.put, List.setIfInBounds_toArray, List.set_cons_zero, List.set_cons_succ]
            refine T_ready (rs := [7, 10]) (by kernel_rfl) (by simp) ?_
            refine TReady.cons rfl (fun K hK => ?_) (TReady.cons rfl (fun K hK => ?_) TReady.nil)
            · try go_simp
              replace HL := Lib.hid (HL.out.allocX ⟨pf, pb, pt, plo, phi⟩)
              refine hK.out _ _ (fun _ => HL.out.b) (fun hS => ?_)
              replace hS := hS (by decide)
              clear hK K
              try simp only [Act.put, List.setIfInBounds_toArray, List.set_cons_zero, List.set_cons_succ]
              generalize hwv3 : (wv2).alloc (.cells #[.int .i64 (pf), .int .i64 (pb), .int .i64 (pt), .int .i64 (plo), .int .i64 (phi)] 56) = wv3 at *
              generalize hwq3 : (wv2).heap.size = wq3 at *
              clear hwv3 hwq3
              refine T_ready (rs := [8, 10]) (by kernel_rfl) (by simp) ?_
              refine TReady.cons rfl (fun K hK => ?_) (TReady.cons rfl (fun K hK => ?_) TReady.nil)
              · refine step_words (.tmp 101) (.tmp 103) rfl rfl wr _ _ ws [⟨pf, pb, pt, plo, phi⟩] ys _ _ (some ⟨wq3, 0, none⟩) 1 1 rfl HYS.out rfl rfl HL HL.out.src (by omega) (by simp) ?_
                intro Aw4 cw4 wv4 HL2
                clear HL
                have HL := HL2
                clear HL2
                refine hK.out _ _ (fun _ => HL.out.b) (fun hS => ?_)
                replace hS := hS (by decide)
                clear hK K
                try simp only [Act.put, List.setIfInBounds_toArray, List.set_cons_zero, List.set_cons_succ]
                refine' T_take (i := 9) (v := _) rfl (by kernel_rfl) (by kernel_rfl) (by kernel_rfl) (by kernel_rfl) (fun _ _ _ h => h) (by rfl) hS ?_ ?_
                rotate_left 1
                · intro Wv hW
                  have l0 := cell_of_ans hW k0
                  have l1 := cell_of_ans hW k1
                  have l2 := cell_of_ans hW p0
                  have l3 := cell_of_ans hW p1
                  have l4 := cell_of_ans hW p2
                  have l5 := cell_of_ans hW p3
                  have l6 := cell_of_ans hW p4
                  go_simp
                  first | done | with_reducible rfl
                try simp only [Act.put, List.setIfInBounds_toArray, List.set_cons_zero, List.set_cons_succ]
                refine T_ready (rs := [10]) (by kernel_rfl) (by simp) ?_
                refine TReady.cons rfl (fun K hK => ?_) TReady.nil
                try go_simp
                replace HL := Lib.hid HL.out.allocG
                refine hK.out _ _ (fun _ => HL.out.b) (fun hS => ?_)
                replace hS := hS (by decide)
                clear hK K
                try simp only [Act.put, List.setIfInBounds_toArray, List.set_cons_zero, List.set_cons_succ]
                generalize hwv5 : (wv4).alloc (.cells #[.int .i64 0, .slice none 0 0] 24) = wv5 at *
                generalize hwq5 : (wv4).heap.size = wq5 at *
                clear hwv5 hwq5
                refine T_ready (rs := [11]) (by kernel_rfl) (by simp) ?_
                refine TReady.cons rfl (fun K hK => ?_) TReady.nil
                have z9 := HL.out.cells
                have z0 := z9.1
                have z1 := z9.2.1
                have z2 := z9.2.2.1
                have z3 := z9.2.2.2
                clear z9
                try go_simp
                have z9 := HL.out.fin (m : Int) rfl
                have HLA := z9.1
                have HBB := z9.2
                clear z9
                refine hK.out _ _ (fun _ => HBB) (fun hS => ?_)
                clear hK K hS
                try simp only [Act.put, List.setIfInBounds_toArray, List.set_cons_zero, List.set_cons_succ]
                refine T_done (by kernel_rfl) ?_ _
                refine NoPanic.normal ?_
                go_wp2_with fail
                go_meet
                exact ⟨_, rfl, HLA, HBB⟩
              · try go_simp
                replace HL := Lib.hid HL.out.allocG
                refine hK.out _ _ (fun _ => HL.out.b) (fun hS => ?_)
                replace hS := hS (by decide)
                clear hK K
                try simp only [Act.put, List.setIfInBounds_toArray, List.set_cons_zero, List.set_cons_succ]
                generalize hwv7 : (wv3).alloc (.cells #[.int .i64 0, .slice none 0 0] 24) = wv7 at *
                generalize hwq7 : (wv3).heap.size = wq7 at *
                clear hwv7 hwq7
                refine T_ready (rs := [8]) (by kernel_rfl) (by simp) ?_
                refine TReady.cons rfl (fun K hK => ?_) TReady.nil
                refine step_words (.tmp 101) (.tmp 103) rfl rfl wr _ _ ws [⟨pf, pb, pt, plo, phi⟩] ys _ _ (some ⟨wq3, 0, none⟩) 1 1 rfl HYS.out rfl rfl HL HL.out.src (by omega) (by simp) ?_
                intro Aw8 cw8 wv8 HL2
                clear HL
                have HL := HL2
                clear HL2
                refine hK.out _ _ (fun _ => HL.out.b) (fun hS => ?_)
                replace hS := hS (by decide)
                clear hK K
                try simp only [Act.put, List.setIfInBounds_toArray, List.set_cons_zero, List.set_cons_succ]
                refine' T_take (i := 9) (v := _) rfl (by kernel_rfl) (by kernel_rfl) (by kernel_rfl) (by kernel_rfl) (fun _ _ _ h => h) (by rfl) hS ?_ ?_
                rotate_left 1
                · intro Wv hW
                  have l0 := cell_of_ans hW k0
                  have l1 := cell_of_ans hW k1
                  have l2 := cell_of_ans hW p0
                  have l3 := cell_of_ans hW p1
                  have l4 := cell_of_ans hW p2
                  have l5 := cell_of_ans hW p3
                  have l6 := cell_of_ans hW p4
                  go_simp
                  first | done | with_reducible rfl
                try simp only [Act.put, List.setIfInBounds_toArray, List.set_cons_zero, List.set_cons_succ]
                refine T_ready (rs := [11]) (by kernel_rfl) (by simp) ?_
                refine TReady.cons rfl (fun K hK => ?_) TReady.nil
                have z9 := HL.out.cells
                have z0 := z9.1
                have z1 := z9.2.1
                have z2 := z9.2.2.1
                have z3 := z9.2.2.2
                clear z9
                try go_simp
                have z9 := HL.out.fin (m : Int) rfl
                have HLA := z9.1
                have HBB := z9.2
                clear z9
                refine hK.out _ _ (fun _ => HBB) (fun hS => ?_)
                clear hK K hS
                try simp only [Act.put, List.setIfInBounds_toArray, List.set_cons_zero, List.set_cons_succ]
                refine T_done (by kernel_rfl) ?_ _
                refine NoPanic.normal ?_
                go_wp2_with fail
                go_meet
                exact ⟨_, rfl, HLA, HBB⟩
            · try go_simp
              replace HL := Lib.hid HL.out.allocG
              refine hK.out _ _ (fun _ => HL.out.b) (fun hS => ?_)
              replace hS := hS (by decide)
              clear hK K
              try simp only [Act.put, List.setIfInBounds_toArray, List.set_cons_zero, List.set_cons_succ]
              generalize hwv10 : (wv2).alloc (.cells #[.int .i64 0, .slice none 0 0] 24) = wv10 at *
              generalize hwq10 : (wv2).heap.size = wq10 at *
              clear hwv10 hwq10
              refine T_ready (rs := [7]) (by kernel_rfl) (by simp) ?_
              refine TReady.cons rfl (fun K hK => ?_) TReady.nil
              try go_simp
              replace HL := Lib.hid (HL.out.allocX ⟨pf, pb, pt, plo, phi⟩)
              refine hK.out _ _ (fun _ => HL.out.b) (fun hS => ?_)
              replace hS := hS (by decide)
              clear hK K
              try simp only [Act.put, List.setIfInBounds_toArray, List.set_cons_zero, List.set_cons_succ]
              generalize hwv11 : (wv10).alloc (.cells #[.int .i64 (pf), .int .i64 (pb), .int .i64 (pt), .int .i64 (plo), .int .i64 (phi)] 56) = wv11 at *
              generalize hwq11 : (wv10).heap.size = wq11 at *
              clear hwv11 hwq11
              refine T_ready (rs := [8]) (by kernel_rfl) (by simp) ?_
              refine TReady.cons rfl (fun K hK => ?_) TReady.nil
              refine step_words (.tmp 101) (.tmp 103) rfl rfl wr _ _ ws [⟨pf, pb, pt, plo, phi⟩] ys _ _ (some ⟨wq11, 0, none⟩) 1 1 rfl HYS.out rfl rfl HL HL.out.src (by omega) (by simp) ?_
              intro Aw12 cw12 wv12 HL2
              clear HL
              have HL := HL2
              clear HL2
              refine hK.out _ _ (fun _ => HL.out.b) (fun hS => ?_)
              replace hS := hS (by decide)
              clear hK K
              try simp only [Act.put, List.setIfInBounds_toArray, List.set_cons_zero, List.set_cons_succ]
              refine' T_take (i := 9) (v := _) rfl (by kernel_rfl) (by kernel_rfl) (by kernel_rfl) (by kernel_rfl) (fun _ _ _ h => h) (by rfl) hS ?_ ?_
              rotate_left 1
              · intro Wv hW
                have l0 := cell_of_ans hW k0
                have l1 := cell_of_ans hW k1
                have l2 := cell_of_ans hW p0
                have l3 := cell_of_ans hW p1
                have l4 := cell_of_ans hW p2
                have l5 := cell_of_ans hW p3
                have l6 := cell_of_ans hW p4
                go_simp
                first | done | with_reducible rfl
              try simp only [Act.put, List.setIfInBounds_toArray, List.set_cons_zero, List.set_cons_succ]
              refine T_ready (rs := [11]) (by kernel_rfl) (by simp) ?_
              refine TReady.cons rfl (fun K hK => ?_) TReady.nil
              have z9 := HL.out.cells
              have z0 := z9.1
              have z1 := z9.2.1
              have z2 := z9.2.2.1
              have z3 := z9.2.2.2
              clear z9
              try go_simp
              have z9 := HL.out.fin (m : Int) rfl
              have HLA := z9.1
              have HBB := z9.2
              clear z9
              refine hK.out _ _ (fun _ => HBB) (fun hS => ?_)
              clear hK K hS
              try simp only [Act.put, List.setIfInBounds_toArray, List.set_cons_zero, List.set_cons_succ]
              refine T_done (by kernel_rfl) ?_ _
              refine NoPanic.normal ?_
              go_wp2_with fail
              go_meet
              exact ⟨_, rfl, HLA, HBB⟩
          · try go_simp
            replace HL := Lib.hid (HL.out.allocX ⟨pf, pb, pt, plo, phi⟩)
            refine hK.out _ _ (fun _ => HL.out.b) (fun hS => ?_)
            replace hS := hS (by decide)
            clear hK K
            try simp only [Act.put, List.setIfInBounds_toArray, List.set_cons_zero, List.set_cons_succ]
            generalize hwv14 : (wv1).alloc (.cells #[.int .i64 (pf), .int .i64 (pb), .int .i64 (pt), .int .i64 (plo), .int .i64 (phi)] 56) = wv14 at *
            generalize hwq14 : (wv1).heap.size = wq14 at *
            clear hwv14 hwq14
            refine T_ready (rs := [5, 10]) (by kernel_rfl) (by simp) ?_
            refine TReady.cons rfl (fun K hK => ?_) (TReady.cons rfl (fun K hK => ?_) TReady.nil)
            · refine step_words (.tmp 98) (.tmp 100) rfl rfl wr _ _ [] ws ws _ _ A ws.length c rfl rfl rfl rfl HL (Wds.src (HW.out.step HL.out.b)) (by decide) (by omega) ?_
              intro Aw15 cw15 wv15 HL2
              clear HL
              have HL := HL2
              clear HL2
              refine hK.out _ _ (fun _ => HL.out.b) (fun hS => ?_)
              replace hS := hS (by decide)
              clear hK K
              try simp only [Act.put, List.setIfInBounds_toArray, List.set_cons_zero, List.set_cons_succ]
              refine T_ready (rs := [8, 10]) (by kernel_rfl) (by simp) ?_
              refine TReady.cons rfl (fun K hK => ?_) (TReady.cons rfl (fun K hK => ?_) TReady.nil)
              · refine step_words (.tmp 101) (.tmp 103) rfl rfl wr _ _ ws [⟨pf, pb, pt, plo, phi⟩] ys _ _ (some ⟨wq14, 0, none⟩) 1 1 rfl HYS.out rfl rfl HL HL.out.src (by omega) (by simp) ?_
                intro Aw16 cw16 wv16 HL2
                clear HL
                have HL := HL2
                clear HL2
                refine hK.out _ _ (fun _ => HL.out.b) (fun hS => ?_)
                replace hS := hS (by decide)
                clear hK K
                try simp only [Act.put, List.setIfInBounds_toArray, List.set_cons_zero, List.set_cons_succ]
                refine' T_take (i := 9) (v := _) rfl (by kernel_rfl) (by kernel_rfl) (by kernel_rfl) (by kernel_rfl) (fun _ _ _ h => h) (by rfl) hS ?_ ?_
                rotate_left 1
                · intro Wv hW
                  have l0 := cell_of_ans hW k0
                  have l1 := cell_of_ans hW k1
                  have l2 := cell_of_ans hW p0
                  have l3 := cell_of_ans hW p1
                  have l4 := cell_of_ans hW p2
                  have l5 := cell_of_ans hW p3
                  have l6 := cell_of_ans hW p4
                  go_simp
                  first | done | with_reducible rfl
                try simp only [Act.put, List.setIfInBounds_toArray, List.set_cons_zero, List.set_cons_succ]
                refine T_ready (rs := [10]) (by kernel_rfl) (by simp) ?_
                refine TReady.cons rfl (fun K hK => ?_) TReady.nil
                try go_simp
                replace HL := Lib.hid HL.out.allocG
                refine hK.out _ _ (fun _ => HL.out.b) (fun hS => ?_)
                replace hS := hS (by decide)
                clear hK K
                try simp only [Act.put, List.setIfInBounds_toArray, List.set_cons_zero, List.set_cons_succ]
                generalize hwv17 : (wv16).alloc (.cells #[.int .i64 0, .slice none 0 0] 24) = wv17 at *
                generalize hwq17 : (wv16).heap.size = wq17 at *
                clear hwv17 hwq17
                refine T_ready (rs := [11]) (by kernel_rfl) (by simp) ?_
                refine TReady.cons rfl (fun K hK => ?_) TReady.nil
                have z9 := HL.out.cells
                have z0 := z9.1
                have z1 := z9.2.1
                have z2 := z9.2.2.1
                have z3 := z9.2.2.2
                clear z9
                try go_simp
                have z9 := HL.out.fin (m : Int) rfl
                have HLA := z9.1
                have HBB := z9.2
                clear z9
                refine hK.out _ _ (fun _ => HBB) (fun hS => ?_)
                clear hK K hS
                try simp only [Act.put, List.setIfInBounds_toArray, List.set_cons_zero, List.set_cons_succ]
                refine T_done (by kernel_rfl) ?_ _
                refine NoPanic.normal ?_
                go_wp2_with fail
                go_meet
                exact ⟨_, rfl, HLA, HBB⟩
              · try go_simp
                replace HL := Lib.hid HL.out.allocG
                refine hK.out _ _ (fun _ => HL.out.b) (fun hS => ?_)
                replace hS := hS (by decide)
                clear hK K
                try simp only [Act.put, List.setIfInBounds_toArray, List.set_cons_zero, List.set_cons_succ]
                generalize hwv19 : (wv15).alloc (.cells #[.int .i64 0, .slice none 0 0] 24) = wv19 at *
                generalize hwq19 : (wv15).heap.size = wq19 at *
                clear hwv19 hwq19
                refine T_ready (rs := [8]) (by kernel_rfl) (by simp) ?_
                refine TReady.cons rfl (fun K hK => ?_) TReady.nil
                refine step_words (.tmp 101) (.tmp 103) rfl rfl wr _ _ ws [⟨pf, pb, pt, plo, phi⟩] ys _ _ (some ⟨wq14, 0, none⟩) 1 1 rfl HYS.out rfl rfl HL HL.out.src (by omega) (by simp) ?_
                intro Aw20 cw20 wv20 HL2
                clear HL
                have HL := HL2
                clear HL2
                refine hK.out _ _ (fun _ => HL.out.b) (fun hS => ?_)
                replace hS := hS (by decide)
                clear hK K
                try simp only [Act.put, List.setIfInBounds_toArray, List.set_cons_zero, List.set_cons_succ]
                refine' T_take (i := 9) (v := _) rfl (by kernel_rfl) (by kernel_rfl) (by kernel_rfl) (by kernel_rfl) (fun _ _ _ h => h) (by rfl) hS ?_ ?_
                rotate_left 1
                · intro Wv hW
                  have l0 := cell_of_ans hW k0
                  have l1 := cell_of_ans hW k1
                  have l2 := cell_of_ans hW p0
                  have l3 := cell_of_ans hW p1
                  have l4 := cell_of_ans hW p2
                  have l5 := cell_of_ans hW p3
                  have l6 := cell_of_ans hW p4
                  go_simp
                  first | done | with_reducible rfl
                try simp only [Act.put, List.setIfInBounds_toArray, List.set_cons_zero, List.set_cons_succ]
                refine T_ready (rs := [11]) (by kernel_rfl) (by simp) ?_
                refine TReady.cons rfl (fun K hK => ?_) TReady.nil
                have z9 := HL.out.cells
                have z0 := z9.1
                have z1 := z9.2.1
                have z2 := z9.2.2.1
                have z3 := z9.2.2.2
                clear z9
                try go_simp
                have z9 := HL.out.fin (m : Int) rfl
                have HLA := z9.1
                have HBB := z9.2
                clear z9
                refine hK.out _ _ (fun _ => HBB) (fun hS => ?_)
                clear hK K hS
                try simp only [Act.put, List.setIfInBounds_toArray, List.set_cons_zero, List.set_cons_succ]
                refine T_done (by kernel_rfl) ?_ _
                refine NoPanic.normal ?_
                go_wp2_with fail
                go_meet
                exact ⟨_, rfl, HLA, HBB⟩
            · try go_simp
              replace HL := Lib.hid HL.out.allocG
              refine hK.out _ _ (fun _ => HL.out.b) (fun hS => ?_)
              replace hS := hS (by decide)
              clear hK K
              try simp only [Act.put, List.setIfInBounds_toArray, List.set_cons_zero, List.set_cons_succ]
              generalize hwv22 : (wv14).alloc (.cells #[.int .i64 0, .slice none 0 0] 24) = wv22 at *
              generalize hwq22 : (wv14).heap.size = wq22 at *
              clear hwv22 hwq22
              refine T_ready (rs := [5]) (by kernel_rfl) (by simp) ?_
              refine TReady.cons rfl (fun K hK => ?_) TReady.nil
              refine step_words (.tmp 98) (.tmp 100) rfl rfl wr _ _ [] ws ws _ _ A ws.length c rfl rfl rfl rfl HL (Wds.src (HW.out.step HL.out.b)) (by decide) (by omega) ?_
              intro Aw23 cw23 wv23 HL2
              clear HL
              have HL := HL2
              clear HL2
              refine hK.out _ _ (fun _ => HL.out.b) (fun hS => ?_)
              replace hS := hS (by decide)
              clear hK K
              try simp only [Act.put, List.setIfInBounds_toArray, List.set_cons_zero, List.set_cons_succ]
              refine T_ready (rs := [8]) (by kernel_rfl) (by simp) ?_
              refine TReady.cons rfl (fun K hK => ?_) TReady.nil
              refine step_words (.tmp 101) (.tmp 103) rfl rfl wr _ _ ws [⟨pf, pb, pt, plo, phi⟩] ys _ _ (some ⟨wq14, 0, none⟩) 1 1 rfl HYS.out rfl rfl HL HL.out.src (by omega) (by simp) ?_
              intro Aw24 cw24 wv24 HL2
              clear HL
              have HL := HL2
              clear HL2
              refine hK.out _ _ (fun _ => HL.out.b) (fun hS => ?_)
              replace hS := hS (by decide)
              clear hK K
              try simp only [Act.put, List.setIfInBounds_toArray, List.set_cons_zero, List.set_cons_succ]
              refine' T_take (i := 9) (v := _) rfl (by kernel_rfl) (by kernel_rfl) (by kernel_rfl) (by kernel_rfl) (fun _ _ _ h => h) (by rfl) hS ?_ ?_
              rotate_left 1
              · intro Wv hW
                have l0 := cell_of_ans hW k0
                have l1 := cell_of_ans hW k1
                have l2 := cell_of_ans hW p0
                have l3 := cell_of_ans hW p1
                have l4 := cell_of_ans hW p2
                have l5 := cell_of_ans hW p3
                have l6 := cell_of_ans hW p4
                go_simp
                first | done | with_reducible rfl
              try simp only [Act.put, List.setIfInBounds_toArray, List.set_cons_zero, List.set_cons_succ]
              refine T_ready (rs := [11]) (by kernel_rfl) (by simp) ?_
              refine TReady.cons rfl (fun K hK => ?_) TReady.nil
              have z9 := HL.out.cells
              have z0 := z9.1
              have z1 := z9.2.1
              have z2 := z9.2.2.1
              have z3 := z9.2.2.2
              clear z9
              try go_simp
              have z9 := HL.out.fin (m : Int) rfl
              have HLA := z9.1
              have HBB := z9.2
              clear z9
              refine hK.out _ _ (fun _ => HBB) (fun hS => ?_)
              clear hK K hS
              try simp only [Act.put, List.setIfInBounds_toArray, List.set_cons_zero, List.set_cons_succ]
              refine T_done (by kernel_rfl) ?_ _
              refine NoPanic.normal ?_
              go_wp2_with fail
              go_meet
              exact ⟨_, rfl, HLA, HBB⟩
          · try go_simp
            replace HL := Lib.hid HL.out.allocG
            refine hK.out _ _ (fun _ => HL.out.b) (fun hS => ?_)
            replace hS := hS (by decide)
            clear hK K
            try simp only [Act.put, List.setIfInBounds_toArray, List.set_cons_zero, List.set_cons_succ]
            generalize hwv26 : (wv1).alloc (.cells #[.int .i64 0, .slice none 0 0] 24) = wv26 at *
            generalize hwq26 : (wv1).heap.size = wq26 at *
            clear hwv26 hwq26
            refine T_ready (rs := [5, 7]) (by kernel_rfl) (by simp) ?_
            refine TReady.cons rfl (fun K hK => ?_) (TReady.cons rfl (fun K hK => ?_) TReady.nil)
            · refine step_words (.tmp 98) (.tmp 100) rfl rfl wr _ _ [] ws ws _ _ A ws.length c rfl rfl rfl rfl HL (Wds.src (HW.out.step HL.out.b)) (by decide) (by omega) ?_
              intro Aw27 cw27 wv27 HL2
              clear HL
              have HL := HL2
              clear HL2
              refine hK.out _ _ (fun _ => HL.out.b) (fun hS => ?_)
              replace hS := hS (by decide)
              clear hK K
              try simp only [Act.put, List.setIfInBounds_toArray, List.set_cons_zero, List.set_cons_succ]
              refine T_ready (rs := [7]) (by kernel_rfl) (by simp) ?_
              refine TReady.cons rfl (fun K hK => ?_) TReady.nil
              try go_simp
              replace HL := Lib.hid (HL.out.allocX ⟨pf, pb, pt, plo, phi⟩)
              refine hK.out _ _ (fun _ => HL.out.b) (fun hS => ?_)
              replace hS := hS (by decide)
              clear hK K
              try simp only [Act.put, List.setIfInBounds_toArray, List.set_cons_zero, List.set_cons_succ]
              generalize hwv28 : (wv27).alloc (.cells #[.int .i64 (pf), .int .i64 (pb), .int .i64 (pt), .int .i64 (plo), .int .i64 (phi)] 56) = wv28 at *
              generalize hwq28 : (wv27).heap.size = wq28 at *
              clear hwv28 hwq28
              refine T_ready (rs := [8]) (by kernel_rfl) (by simp) ?_
              refine TReady.cons rfl (fun K hK => ?_) TReady.nil
              refine step_words (.tmp 101) (.tmp 103) rfl rfl wr _ _ ws [⟨pf, pb, pt, plo, phi⟩] ys _ _ (some ⟨wq28, 0, none⟩) 1 1 rfl HYS.out rfl rfl HL HL.out.src (by omega) (by simp) ?_
              intro Aw29 cw29 wv29 HL2
              clear HL
              have HL := HL2
              clear HL2
              refine hK.out _ _ (fun _ => HL.out.b) (fun hS => ?_)
              replace hS := hS (by decide)
              clear hK K
              try simp only [Act.put, List.setIfInBounds_toArray, List.set_cons_zero, List.set_cons_succ]
              refine' T_take (i := 9) (v := _) rfl (by kernel_rfl) (by kernel_rfl) (by kernel_rfl) (by kernel_rfl) (fun _ _ _ h => h) (by rfl) hS ?_ ?_
              rotate_left 1
              · intro Wv hW
                have l0 := cell_of_ans hW k0
                have l1 := cell_of_ans hW k1
                have l2 := cell_of_ans hW p0
                have l3 := cell_of_ans hW p1
                have l4 := cell_of_ans hW p2
                have l5 := cell_of_ans hW p3
                have l6 := cell_of_ans hW p4
                go_simp
                first | done | with_reducible rfl
              try simp only [Act.put, List.setIfInBounds_toArray, List.set_cons_zero, List.set_cons_succ]
              refine T_ready (rs := [11]) (by kernel_rfl) (by simp) ?_
              refine TReady.cons rfl (fun K hK => ?_) TReady.nil
              have z9 := HL.out.cells
              have z0 := z9.1
              have z1 := z9.2.1
              have z2 := z9.2.2.1
              have z3 := z9.2.2.2
              clear z9
              try go_simp
              have z9 := HL.out.fin (m : Int) rfl
              have HLA := z9.1
              have HBB := z9.2
              clear z9
              refine hK.out _ _ (fun _ => HBB) (fun hS => ?_)
              clear hK K hS
              try simp only [Act.put, List.setIfInBounds_toArray, List.set_cons_zero, List.set_cons_succ]
              refine T_done (by kernel_rfl) ?_ _
              refine NoPanic.normal ?_
              go_wp2_with fail
              go_meet
              exact ⟨_, rfl, HLA, HBB⟩
            · try go_simp
              replace HL := Lib.hid (HL.out.allocX ⟨pf, pb, pt, plo, phi⟩)
              refine hK.out _ _ (fun _ => HL.out.b) (fun hS => ?_)
              replace hS := hS (by decide)
              clear hK K
              try simp only [Act.put, List.setIfInBounds_toArray, List.set_cons_zero, List.set_cons_succ]
              generalize hwv31 : (wv26).alloc (.cells #[.int .i64 (pf), .int .i64 (pb), .int .i64 (pt), .int .i64 (plo), .int .i64 (phi)] 56) = wv31 at *
              generalize hwq31 : (wv26).heap.size = wq31 at *
              clear hwv31 hwq31
              refine T_ready (rs := [5]) (by kernel_rfl) (by simp) ?_
              refine TReady.cons rfl (fun K hK => ?_) TReady.nil
              refine step_words (.tmp 98) (.tmp 100) rfl rfl wr _ _ [] ws ws _ _ A ws.length c rfl rfl rfl rfl HL (Wds.src (HW.out.step HL.out.b)) (by decide) (by omega) ?_
              intro Aw32 cw32 wv32 HL2
              clear HL
              have HL := HL2
              clear HL2
              refine hK.out _ _ (fun _ => HL.out.b) (fun hS => ?_)
              replace hS := hS (by decide)
              clear hK K
              try simp only [Act.put, List.setIfInBounds_toArray, List.set_cons_zero, List.set_cons_succ]
              refine T_ready (rs := [8]) (by kernel_rfl) (by simp) ?_
              refine TReady.cons rfl (fun K hK => ?_) TReady.nil
              refine step_words (.tmp 101) (.tmp 103) rfl rfl wr _ _ ws [⟨pf, pb, pt, plo, phi⟩] ys _ _ (some ⟨wq31, 0, none⟩) 1 1 rfl HYS.out rfl rfl HL HL.out.src (by omega) (by simp) ?_
              intro Aw33 cw33 wv33 HL2
              clear HL
              have HL := HL2
              clear HL2
              refine hK.out _ _ (fun _ => HL.out.b) (fun hS => ?_)
              replace hS := hS (by decide)
              clear hK K
              try simp only [Act.put, List.setIfInBounds_toArray, List.set_cons_zero, List.set_cons_succ]
              refine' T_take (i := 9) (v := _) rfl (by kernel_rfl) (by kernel_rfl) (by kernel_rfl) (by kernel_rfl) (fun _ _ _ h => h) (by rfl) hS ?_ ?_
              rotate_left 1
              · intro Wv hW
                have l0 := cell_of_ans hW k0
                have l1 := cell_of_ans hW k1
                have l2 := cell_of_ans hW p0
                have l3 := cell_of_ans hW p1
                have l4 := cell_of_ans hW p2
                have l5 := cell_of_ans hW p3
                have l6 := cell_of_ans hW p4
                go_simp
                first | done | with_reducible rfl
              try simp only [Act.put, List.setIfInBounds_toArray, List.set_cons_zero, List.set_cons_succ]
              refine T_ready (rs := [11]) (by kernel_rfl) (by simp) ?_
              refine TReady.cons rfl (fun K hK => ?_) TReady.nil
              have z9 := HL.out.cells
              have z0 := z9.1
              have z1 := z9.2.1
              have z2 := z9.2.2.1
              have z3 := z9.2.2.2
              clear z9
              try go_simp
              have z9 := HL.out.fin (m : Int) rfl
              have HLA := z9.1
              have HBB := z9.2
              clear z9
              refine hK.out _ _ (fun _ => HBB) (fun hS => ?_)
              clear hK K hS
              try simp only [Act.put, List.setIfInBounds_toArray, List.set_cons_zero, List.set_cons_succ]
              refine T_done (by kernel_rfl) ?_ _
              refine NoPanic.normal ?_
              go_wp2_with fail
              go_meet
              exact ⟨_, rfl, HLA, HBB⟩
        · try go_simp
          replace HL := Lib.hid (HL.out.allocX ⟨pf, pb, pt, plo, phi⟩)
          refine hK.out _ _ (fun _ => HL.out.b) (fun hS => ?_)
          replace hS := hS (by decide)
          clear hK K
          try simp only [Act.put, List.setIfInBounds_toArray, List.set_cons_zero, List.set_cons_succ]
          generalize hwv35 : (wv0).alloc (.cells #[.int .i64 (pf), .int .i64 (pb), .int .i64 (pt), .int .i64 (plo), .int .i64 (phi)] 56) = wv35 at *
          generalize hwq35 : (wv0).heap.size = wq35 at *
          clear hwv35 hwq35
          refine T_ready (rs := [2, 10]) (by kernel_rfl) (by simp) ?_
          refine TReady.cons rfl (fun K hK => ?_) (TReady.cons rfl (fun K hK => ?_) TReady.nil)
          · try go_simp
            replace HL := Lib.hid HL.out.allocE
            refine hK.out _ _ (fun _ => HL.out.b) (fun hS => ?_)
            replace hS := hS (by decide)
            clear hK K
            try simp only [Act.put, List.setIfInBounds_toArray, List.set_cons_zero, List.set_cons_succ]
            generalize hwv36 : (wv35).alloc (.cells #[] 56) = wv36 at *
            generalize hwq36 : (wv35).heap.size = wq36 at *
            clear hwv36 hwq36
            refine T_ready (rs := [5, 10]) (by kernel_rfl) (by simp) ?_
            refine TReady.cons rfl (fun K hK => ?_) (TReady.cons rfl (fun K hK => ?_) TReady.nil)
            · refine step_words (.tmp 98) (.tmp 100) rfl rfl wr _ _ [] ws ws _ _ A ws.length c rfl rfl rfl rfl HL (Wds.src (HW.out.step HL.out.b)) (by decide) (by omega) ?_
              intro Aw37 cw37 wv37 HL2
              clear HL
              have HL := HL2
              clear HL2
              refine hK.out _ _ (fun _ => HL.out.b) (fun hS => ?_)
              replace hS := hS (by decide)
              clear hK K
              try simp only [Act.put, List.setIfInBounds_toArray, List.set_cons_zero, List.set_cons_succ]
              refine T_ready (rs := [8, 10]) (by kernel_rfl) (by simp) ?_
              refine TReady.cons rfl (fun K hK => ?_) (TReady.cons rfl (fun K hK => ?_) TReady.nil)
              · refine step_words (.tmp 101) (.tmp 103) rfl rfl wr _ _ ws [⟨pf, pb, pt, plo, phi⟩] ys _ _ (some ⟨wq35, 0, none⟩) 1 1 rfl HYS.out rfl rfl HL HL.out.src (by omega) (by simp) ?_
                intro Aw38 cw38 wv38 HL2
                clear HL
                have HL := HL2
                clear HL2
                refine hK.out _ _ (fun _ => HL.out.b) (fun hS => ?_)
                replace hS := hS (by decide)
                clear hK K
                try simp only [Act.put, List.setIfInBounds_toArray, List.set_cons_zero, List.set_cons_succ]
                refine' T_take (i := 9) (v := _) rfl (by kernel_rfl) (by kernel_rfl) (by kernel_rfl) (by kernel_rfl) (fun _ _ _ h => h) (by rfl) hS ?_ ?_
                rotate_left 1
                · intro Wv hW
                  have l0 := cell_of_ans hW k0
                  have l1 := cell_of_ans hW k1
                  have l2 := cell_of_ans hW p0
                  have l3 := cell_of_ans hW p1
                  have l4 := cell_of_ans hW p2
                  have l5 := cell_of_ans hW p3
                  have l6 := cell_of_ans hW p4
                  go_simp
                  first | done | with_reducible rfl
                try simp only [Act.put, List.setIfInBounds_toArray, List.set_cons_zero, List.set_cons_succ]
                refine T_ready (rs := [10]) (by kernel_rfl) (by simp) ?_
                refine TReady.cons rfl (fun K hK => ?_) TReady.nil
                try go_simp
                replace HL := Lib.hid HL.out.allocG
                refine hK.out _ _ (fun _ => HL.out.b) (fun hS => ?_)
                replace hS := hS (by decide)
                clear hK K
                try simp only [Act.put, List.setIfInBounds_toArray, List.set_cons_zero, List.set_cons_succ]
                generalize hwv39 : (wv38).alloc (.cells #[.int .i64 0, .slice none 0 0] 24) = wv39 at *
                generalize hwq39 : (wv38).heap.size = wq39 at *
                clear hwv39 hwq39
                refine T_ready (rs := [11]) (by kernel_rfl) (by simp) ?_
                refine TReady.cons rfl (fun K hK => ?_) TReady.nil
                have z9 := HL.out.cells
                have z0 := z9.1
                have z1 := z9.2.1
                have z2 := z9.2.2.1
                have z3 := z9.2.2.2
                clear z9
                try go_simp
                have z9 := HL.out.fin (m : Int) rfl
                have HLA := z9.1
                have HBB := z9.2
                clear z9
                refine hK.out _ _ (fun _ => HBB) (fun hS => ?_)
                clear hK K hS
                try simp only [Act.put, List.setIfInBounds_toArray, List.set_cons_zero, List.set_cons_succ]
                refine T_done (by kernel_rfl) ?_ _
                refine NoPanic.normal ?_
                go_wp2_with fail
                go_meet
                exact ⟨_, rfl, HLA, HBB⟩
              · try go_simp
                replace HL := Lib.hid HL.out.allocG
                refine hK.out _ _ (fun _ => HL.out.b) (fun hS => ?_)
                replace hS := hS (by decide)
                clear hK K
                try simp only [Act.put, List.setIfInBounds_toArray, List.set_cons_zero, List.set_cons_succ]
                generalize hwv41 : (wv37).alloc (.cells #[.int .i64 0, .slice none 0 0] 24) = wv41 at *
                generalize hwq41 : (wv37).heap.size = wq41 at *
                clear hwv41 hwq41
                refine T_ready (rs := [8]) (by kernel_rfl) (by simp) ?_
                refine TReady.cons rfl (fun K hK => ?_) TReady.nil
                refine step_words (.tmp 101) (.tmp 103) rfl rfl wr _ _ ws [⟨pf, pb, pt, plo, phi⟩] ys _ _ (some ⟨wq35, 0, none⟩) 1 1 rfl HYS.out rfl rfl HL HL.out.src (by omega) (by simp) ?_
                intro Aw42 cw42 wv42 HL2
                clear HL
                have HL := HL2
                clear HL2
                refine hK.out _ _ (fun _ => HL.out.b) (fun hS => ?_)
                replace hS := hS (by decide)
                clear hK K
                try simp only [Act.put, List.setIfInBounds_toArray, List.set_cons_zero, List.set_cons_succ]
                refine' T_take (i := 9) (v := _) rfl (by kernel_rfl) (by kernel_rfl) (by kernel_rfl) (by kernel_rfl) (fun _ _ _ h => h) (by rfl) hS ?_ ?_
                rotate_left 1
                · intro Wv hW
                  have l0 := cell_of_ans hW k0
                  have l1 := cell_of_ans hW k1
                  have l2 := cell_of_ans hW p0
                  have l3 := cell_of_ans hW p1
                  have l4 := cell_of_ans hW p2
                  have l5 := cell_of_ans hW p3
                  have l6 := cell_of_ans hW p4
                  go_simp
                  first | done | with_reducible rfl
                try simp only [Act.put, List.setIfInBounds_toArray, List.set_cons_zero, List.set_cons_succ]
                refine T_ready (rs := [11]) (by kernel_rfl) (by simp) ?_
                refine TReady.cons rfl (fun K hK => ?_) TReady.nil
                have z9 := HL.out.cells
                have z0 := z9.1
                have z1 := z9.2.1
                have z2 := z9.2.2.1
                have z3 := z9.2.2.2
                clear z9
                try go_simp
                have z9 := HL.out.fin (m : Int) rfl
                have HLA := z9.1
                have HBB := z9.2
                clear z9
                refine hK.out _ _ (fun _ => HBB) (fun hS => ?_)
                clear hK K hS
                try simp only [Act.put, List.setIfInBounds_toArray, List.set_cons_zero, List.set_cons_succ]
                refine T_done (by kernel_rfl) ?_ _
                refine NoPanic.normal ?_
                go_wp2_with fail
                go_meet
                exact ⟨_, rfl, HLA, HBB⟩
            · try go_simp
              replace HL := Lib.hid HL.out.allocG
              refine hK.out _ _ (fun _ => HL.out.b) (fun hS => ?_)
              replace hS := hS (by decide)
              clear hK K
              try simp only [Act.put, List.setIfInBounds_toArray, List.set_cons_zero, List.set_cons_succ]
              generalize hwv44 : (wv36).alloc (.cells #[.int .i64 0, .slice none 0 0] 24) = wv44 at *
              generalize hwq44 : (wv36).heap.size = wq44 at *
              clear hwv44 hwq44
              refine T_ready (rs := [5]) (by kernel_rfl) (by simp) ?_
              refine TReady.cons rfl (fun K hK => ?_) TReady.nil
              refine step_words (.tmp 98) (.tmp 100) rfl rfl wr _ _ [] ws ws _ _ A ws.length c rfl rfl rfl rfl HL (Wds.src (HW.out.step HL.out.b)) (by decide) (by omega) ?_
              intro Aw45 cw45 wv45 HL2
              clear HL
              have HL := HL2
              clear HL2
              refine hK.out _ _ (fun _ => HL.out.b) (fun hS => ?_)
              replace hS := hS (by decide)
              clear hK K
              try simp only [Act.put, List.setIfInBounds_toArray, List.set_cons_zero, List.set_cons_succ]
              refine T_ready (rs := [8]) (by kernel_rfl) (by simp) ?_
              refine TReady.cons rfl (fun K hK => ?_) TReady.nil
              refine step_words (.tmp 101) (.tmp 103) rfl rfl wr _ _ ws [⟨pf, pb, pt, plo, phi⟩] ys _ _ (some ⟨wq35, 0, none⟩) 1 1 rfl HYS.out rfl rfl HL HL.out.src (by omega) (by simp) ?_
              intro Aw46 cw46 wv46 HL2
              clear HL
              have HL := HL2
              clear HL2
              refine hK.out _ _ (fun _ => HL.out.b) (fun hS => ?_)
              replace hS := hS (by decide)
              clear hK K
              try simp only [Act.put, List.setIfInBounds_toArray, List.set_cons_zero, List.set_cons_succ]
              refine' T_take (i := 9) (v := _) rfl (by kernel_rfl) (by kernel_rfl) (by kernel_rfl) (by kernel_rfl) (fun _ _ _ h => h) (by rfl) hS ?_ ?_
              rotate_left 1
              · intro Wv hW
                have l0 := cell_of_ans hW k0
                have l1 := cell_of_ans hW k1
                have l2 := cell_of_ans hW p0
                have l3 := cell_of_ans hW p1
                have l4 := cell_of_ans hW p2
                have l5 := cell_of_ans hW p3
                have l6 := cell_of_ans hW p4
                go_simp
                first | done | with_reducible rfl
              try simp only [Act.put, List.setIfInBounds_toArray, List.set_cons_zero, List.set_cons_succ]
              refine T_ready (rs := [11]) (by kernel_rfl) (by simp) ?_
              refine TReady.cons rfl (fun K hK => ?_) TReady.nil
              have z9 := HL.out.cells
              have z0 := z9.1
              have z1 := z9.2.1
              have z2 := z9.2.2.1
              have z3 := z9.2.2.2
              clear z9
              try go_simp
              have z9 := HL.out.fin (m : Int) rfl
              have HLA := z9.1
              have HBB := z9.2
              clear z9
              refine hK.out _ _ (fun _ => HBB) (fun hS => ?_)
              clear hK K hS
              try simp only [Act.put, List.setIfInBounds_toArray, List.set_cons_zero, List.set_cons_succ]
              refine T_done (by kernel_rfl) ?_ _
              refine NoPanic.normal ?_
              go_wp2_with fail
              go_meet
              exact ⟨_, rfl, HLA, HBB⟩
          · try go_simp
            replace HL := Lib.hid HL.out.allocG
            refine hK.out _ _ (fun _ => HL.out.b) (fun hS => ?_)
            replace hS := hS (by decide)
            clear hK K
            try simp only [Act.put, List.setIfInBounds_toArray, List.set_cons_zero, List.set_cons_succ]
            generalize hwv48 : (wv35).alloc (.cells #[.int .i64 0, .slice none 0 0] 24) = wv48 at *
            generalize hwq48 : (wv35).heap.size = wq48 at *
            clear hwv48 hwq48
            refine T_ready (rs := [2]) (by kernel_rfl) (by simp) ?_
            refine TReady.cons rfl (fun K hK => ?_) TReady.nil
            try go_simp
            replace HL := Lib.hid HL.out.allocE
            refine hK.out _ _ (fun _ => HL.out.b) (fun hS => ?_)
            replace hS := hS (by decide)
            clear hK K
            try simp only [Act.put, List.setIfInBounds_toArray, List.set_cons_zero, List.set_cons_succ]
            generalize hwv49 : (wv48).alloc (.cells #[] 56) = wv49 at *
            generalize hwq49 : (wv48).heap.size = wq49 at *
            clear hwv49 hwq49
            refine T_ready (rs := [5]) (by kernel_rfl) (by simp) ?_
            refine TReady.cons rfl (fun K hK => ?_) TReady.nil
            refine step_words (.tmp 98) (.tmp 100) rfl rfl wr _ _ [] ws ws _ _ A ws.length c rfl rfl rfl rfl HL (Wds.src (HW.out.step HL.out.b)) (by decide) (by omega) ?_
            intro Aw50 cw50 wv50 HL2
            clear HL
            have HL := HL2
            clear HL2
            refine hK.out _ _ (fun _ => HL.out.b) (fun hS => ?_)
            replace hS := hS (by decide)
            clear hK K
            try simp only [Act.put, List.setIfInBounds_toArray, List.set_cons_zero, List.set_cons_succ]
            refine T_ready (rs := [8]) (by kernel_rfl) (by simp) ?_
            refine TReady.cons rfl (fun K hK => ?_) TReady.nil
            refine step_words (.tmp 101) (.tmp 103) rfl rfl wr _ _ ws [⟨pf, pb, pt, plo, phi⟩] ys _ _ (some ⟨wq35, 0, none⟩) 1 1 rfl HYS.out rfl rfl HL HL.out.src (by omega) (by simp) ?_
            intro Aw51 cw51 wv51 HL2
            clear HL
            have HL := HL2
            clear HL2
            refine hK.out _ _ (fun _ => HL.out.b) (fun hS => ?_)
            replace hS := hS (by decide)
            clear hK K
            try simp only [Act.put, List.setIfInBounds_toArray, List.set_cons_zero, List.set_cons_succ]
            refine' T_take (i := 9) (v := _) rfl (by kernel_rfl) (by kernel_rfl) (by kernel_rfl) (by kernel_rfl) (fun _ _ _ h => h) (by rfl) hS ?_ ?_
            rotate_left 1
            · intro Wv hW
              have l0 := cell_of_ans hW k0
              have l1 := cell_of_ans hW k1
              have l2 := cell_of_ans hW p0
              have l3 := cell_of_ans hW p1
              have l4 := cell_of_ans hW p2
              have l5 := cell_of_ans hW p3
              have l6 := cell_of_ans hW p4
              go_simp
              first | done | with_reducible rfl
            try simp only [Act.put, List.setIfInBounds_toArray, List.set_cons_zero, List.set_cons_succ]
            refine T_ready (rs := [11]) (by kernel_rfl) (by simp) ?_
            refine TReady.cons rfl (fun K hK => ?_) TReady.nil
            have z9 := HL.out.cells
            have z0 := z9.1
            have z1 := z9.2.1
            have z2 := z9.2.2.1
            have z3 := z9.2.2.2
            clear z9
            try go_simp
            have z9 := HL.out.fin (m : Int) rfl
            have HLA := z9.1
            have HBB := z9.2
            clear z9
            refine hK.out _ _ (fun _ => HBB) (fun hS => ?_)
            clear hK K hS
            try simp only [Act.put, List.setIfInBounds_toArray, List.set_cons_zero, List.set_cons_succ]
            refine T_done (by kernel_rfl) ?_ _
            refine NoPanic.normal ?_
            go_wp2_with fail
            go_meet
            exact ⟨_, rfl, HLA, HBB⟩
        · try go_simp
          replace HL := Lib.hid HL.out.allocG
          refine hK.out _ _ (fun _ => HL.out.b) (fun hS => ?_)
          replace hS := hS (by decide)
          clear hK K
          try simp only [Act.put, List.setIfInBounds_toArray, List.set_cons_zero, List.set_cons_succ]
          generalize hwv53 : (wv0).alloc (.cells #[.int .i64 0, .slice none 0 0] 24) = wv53 at *
          generalize hwq53 : (wv0).heap.size = wq53 at *
          clear hwv53 hwq53
          refine T_ready (rs := [2, 7]) (by kernel_rfl) (by simp) ?_
          refine TReady.cons rfl (fun K hK => ?_) (TReady.cons rfl (fun K hK => ?_) TReady.nil)
          · try go_simp
            replace HL := Lib.hid HL.out.allocE
            refine hK.out _ _ (fun _ => HL.out.b) (fun hS => ?_)
            replace hS := hS (by decide)
            clear hK K
            try simp only [Act.put, List.setIfInBounds_toArray, List.set_cons_zero, List.set_cons_succ]
            generalize hwv54 : (wv53).alloc (.cells #[] 56) = wv54 at *
            generalize hwq54 : (wv53).heap.size = wq54 at *
            clear hwv54 hwq54
            refine T_ready (rs := [5, 7]) (by kernel_rfl) (by simp) ?_
            refine TReady.cons rfl (fun K hK => ?_) (TReady.cons rfl (fun K hK => ?_) TReady.nil)
            · refine step_words (.tmp 98) (.tmp 100) rfl rfl wr _ _ [] ws ws _ _ A ws.length c rfl rfl rfl rfl HL (Wds.src (HW.out.step HL.out.b)) (by decide) (by omega) ?_
              intro Aw55 cw55 wv55 HL2
              clear HL
              have HL := HL2
              clear HL2
              refine hK.out _ _ (fun _ => HL.out.b) (fun hS => ?_)
              replace hS := hS (by decide)
              clear hK K
              try simp only [Act.put, List.setIfInBounds_toArray, List.set_cons_zero, List.set_cons_succ]
              refine T_ready (rs := [7]) (by kernel_rfl) (by simp) ?_
              refine TReady.cons rfl (fun K hK => ?_) TReady.nil
              try go_simp
              replace HL := Lib.hid (HL.out.allocX ⟨pf, pb, pt, plo, phi⟩)
              refine hK.out _ _ (fun _ => HL.out.b) (fun hS => ?_)
              replace hS := hS (by decide)
              clear hK K
              try simp only [Act.put, List.setIfInBounds_toArray, List.set_cons_zero, List.set_cons_succ]
              generalize hwv56 : (wv55).alloc (.cells #[.int .i64 (pf), .int .i64 (pb), .int .i64 (pt), .int .i64 (plo), .int .i64 (phi)] 56) = wv56 at *
              generalize hwq56 : (wv55).heap.size = wq56 at *
              clear hwv56 hwq56
              refine T_ready (rs := [8]) (by kernel_rfl) (by simp) ?_
              refine TReady.cons rfl (fun K hK => ?_) TReady.nil
              refine step_words (.tmp 101) (.tmp 103) rfl rfl wr _ _ ws [⟨pf, pb, pt, plo, phi⟩] ys _ _ (some ⟨wq56, 0, none⟩) 1 1 rfl HYS.out rfl rfl HL HL.out.src (by omega) (by simp) ?_
              intro Aw57 cw57 wv57 HL2
              clear HL
              have HL := HL2
              clear HL2
              refine hK.out _ _ (fun _ => HL.out.b) (fun hS => ?_)
              replace hS := hS (by decide)
              clear hK K
              try simp only [Act.put, List.setIfInBounds_toArray, List.set_cons_zero, List.set_cons_succ]
              refine' T_take (i := 9) (v := _) rfl (by kernel_rfl) (by kernel_rfl) (by kernel_rfl) (by kernel_rfl) (fun _ _ _ h => h) (by rfl) hS ?_ ?_
              rotate_left 1
              · intro Wv hW
                have l0 := cell_of_ans hW k0
                have l1 := cell_of_ans hW k1
                have l2 := cell_of_ans hW p0
                have l3 := cell_of_ans hW p1
                have l4 := cell_of_ans hW p2
                have l5 := cell_of_ans hW p3
                have l6 := cell_of_ans hW p4
                go_simp
                first | done | with_reducible rfl
              try simp only [Act.put, List.setIfInBounds_toArray, List.set_cons_zero, List.set_cons_succ]
              refine T_ready (rs := [11]) (by kernel_rfl) (by simp) ?_
              refine TReady.cons rfl (fun K hK => ?_) TReady.nil
              have z9 := HL.out.cells
              have z0 := z9.1
              have z1 := z9.2.1
              have z2 := z9.2.2.1
              have z3 := z9.2.2.2
              clear z9
              try go_simp
              have z9 := HL.out.fin (m : Int) rfl
              have HLA := z9.1
              have HBB := z9.2
              clear z9
              refine hK.out _ _ (fun _ => HBB) (fun hS => ?_)
              clear hK K hS
              try simp only [Act.put, List.setIfInBounds_toArray, List.set_cons_zero, List.set_cons_succ]
              refine T_done (by kernel_rfl) ?_ _
              refine NoPanic.normal ?_
              go_wp2_with fail
              go_meet
              exact ⟨_, rfl, HLA, HBB⟩
            · try go_simp
              replace HL := Lib.hid (HL.out.allocX ⟨pf, pb, pt, plo, phi⟩)
              refine hK.out _ _ (fun _ => HL.out.b) (fun hS => ?_)
              replace hS := hS (by decide)
              clear hK K
              try simp only [Act.put, List.setIfInBounds_toArray, List.set_cons_zero, List.set_cons_succ]
              generalize hwv59 : (wv54).alloc (.cells #[.int .i64 (pf), .int .i64 (pb), .int .i64 (pt), .int .i64 (plo), .int .i64 (phi)] 56) = wv59 at *
              generalize hwq59 : (wv54).heap.size = wq59 at *
              clear hwv59 hwq59
              refine T_ready (rs := [5]) (by kernel_rfl) (by simp) ?_
              refine TReady.cons rfl (fun K hK => ?_) TReady.nil
              refine step_words (.tmp 98) (.tmp 100) rfl rfl wr _ _ [] ws ws _ _ A ws.length c rfl rfl rfl rfl HL (Wds.src (HW.out.step HL.out.b)) (by decide) (by omega) ?_
              intro Aw60 cw60 wv60 HL2
              clear HL
              have HL := HL2
              clear HL2
              refine hK.out _ _ (fun _ => HL.out.b) (fun hS => ?_)
              replace hS := hS (by decide)
              clear hK K
              try simp only [Act.put, List.setIfInBounds_toArray, List.set_cons_zero, List.set_cons_succ]
              refine T_ready (rs := [8]) (by kernel_rfl) (by simp) ?_
              refine TReady.cons rfl (fun K hK => ?_) TReady.nil
              refine step_words (.tmp 101) (.tmp 103) rfl rfl wr _ _ ws [⟨pf, pb, pt, plo, phi⟩] ys _ _ (some ⟨wq59, 0, none⟩) 1 1 rfl HYS.out rfl rfl HL HL.out.src (by omega) (by simp) ?_
              intro Aw61 cw61 wv61 HL2
              clear HL
              have HL := HL2
              clear HL2
              refine hK.out _ _ (fun _ => HL.out.b) (fun hS => ?_)
              replace hS := hS (by decide)
              clear hK K
              try simp only [Act.put, List.setIfInBounds_toArray, List.set_cons_zero, List.set_cons_succ]
              refine' T_take (i := 9) (v := _) rfl (by kernel_rfl) (by kernel_rfl) (by kernel_rfl) (by kernel_rfl) (fun _ _ _ h => h) (by rfl) hS ?_ ?_
              rotate_left 1
              · intro Wv hW
                have l0 := cell_of_ans hW k0
                have l1 := cell_of_ans hW k1
                have l2 := cell_of_ans hW p0
                have l3 := cell_of_ans hW p1
                have l4 := cell_of_ans hW p2
                have l5 := cell_of_ans hW p3
                have l6 := cell_of_ans hW p4
                go_simp
                first | done | with_reducible rfl
              try simp only [Act.put, List.setIfInBounds_toArray, List.set_cons_zero, List.set_cons_succ]
              refine T_ready (rs := [11]) (by kernel_rfl) (by simp) ?_
              refine TReady.cons rfl (fun K hK => ?_) TReady.nil
              have z9 := HL.out.cells
              have z0 := z9.1
              have z1 := z9.2.1
              have z2 := z9.2.2.1
              have z3 := z9.2.2.2
              clear z9
              try go_simp
              have z9 := HL.out.fin (m : Int) rfl
              have HLA := z9.1
              have HBB := z9.2
              clear z9
              refine hK.out _ _ (fun _ => HBB) (fun hS => ?_)
              clear hK K hS
              try simp only [Act.put, List.setIfInBounds_toArray, List.set_cons_zero, List.set_cons_succ]
              refine T_done (by kernel_rfl) ?_ _
              refine NoPanic.normal ?_
              go_wp2_with fail
              go_meet
              exact ⟨_, rfl, HLA, HBB⟩
          · try go_simp
            replace HL := Lib.hid (HL.out.allocX ⟨pf, pb, pt, plo, phi⟩)
            refine hK.out _ _ (fun _ => HL.out.b) (fun hS => ?_)
            replace hS := hS (by decide)
            clear hK K
            try simp only [Act.put, List.setIfInBounds_toArray, List.set_cons_zero, List.set_cons_succ]
            generalize hwv63 : (wv53).alloc (.cells #[.int .i64 (pf), .int .i64 (pb), .int .i64 (pt), .int .i64 (plo), .int .i64 (phi)] 56) = wv63 at *
            generalize hwq63 : (wv53).heap.size = wq63 at *
            clear hwv63 hwq63
            refine T_ready (rs := [2]) (by kernel_rfl) (by simp) ?_
            refine TReady.cons rfl (fun K hK => ?_) TReady.nil
            try go_simp
            replace HL := Lib.hid HL.out.allocE
            refine hK.out _ _ (fun _ => HL.out.b) (fun hS => ?_)
            replace hS := hS (by decide)
            clear hK K
            try simp only [Act.put, List.setIfInBounds_toArray, List.set_cons_zero, List.set_cons_succ]
            generalize hwv64 : (wv63).alloc (.cells #[] 56) = wv64 at *
            generalize hwq64 : (wv63).heap.size = wq64 at *
            clear hwv64 hwq64
            refine T_ready (rs := [5]) (by kernel_rfl) (by simp) ?_
            refine TReady.cons rfl (fun K hK => ?_) TReady.nil
            refine step_words (.tmp 98) (.tmp 100) rfl rfl wr _ _ [] ws ws _ _ A ws.length c rfl rfl rfl rfl HL (Wds.src (HW.out.step HL.out.b)) (by decide) (by omega) ?_
            intro Aw65 cw65 wv65 HL2
            clear HL
            have HL := HL2
            clear HL2
            refine hK.out _ _ (fun _ => HL.out.b) (fun hS => ?_)
            replace hS := hS (by decide)
            clear hK K
            try simp only [Act.put, List.setIfInBounds_toArray, List.set_cons_zero, List.set_cons_succ]
            refine T_ready (rs := [8]) (by kernel_rfl) (by simp) ?_
            refine TReady.cons rfl (fun K hK => ?_) TReady.nil
            refine step_words (.tmp 101) (.tmp 103) rfl rfl wr _ _ ws [⟨pf, pb, pt, plo, phi⟩] ys _ _ (some ⟨wq63, 0, none⟩) 1 1 rfl HYS.out rfl rfl HL HL.out.src (by omega) (by simp) ?_
            intro Aw66 cw66 wv66 HL2
            clear HL
            have HL := HL2
            clear HL2
            refine hK.out _ _ (fun _ => HL.out.b) (fun hS => ?_)
            replace hS := hS (by decide)
            clear hK K
            try simp only [Act.put, List.setIfInBounds_toArray, List.set_cons_zero, List.set_cons_succ]
            refine' T_take (i := 9) (v := _) rfl (by kernel_rfl) (by kernel_rfl) (by kernel_rfl) (by kernel_rfl) (fun _ _ _ h => h) (by rfl) hS ?_ ?_
            rotate_left 1
            · intro Wv hW
              have l0 := cell_of_ans hW k0
              have l1 := cell_of_ans hW k1
              have l2 := cell_of_ans hW p0
              have l3 := cell_of_ans hW p1
              have l4 := cell_of_ans hW p2
              have l5 := cell_of_ans hW p3
              have l6 := cell_of_ans hW p4
              go_simp
              first | done | with_reducible rfl
            try simp only [Act.put, List.setIfInBounds_toArray, List.set_cons_zero, List.set_cons_succ]
            refine T_ready (rs := [11]) (by kernel_rfl) (by simp) ?_
            refine TReady.cons rfl (fun K hK => ?_) TReady.nil
            have z9 := HL.out.cells
            have z0 := z9.1
            have z1 := z9.2.1
            have z2 := z9.2.2.1
            have z3 := z9.2.2.2
            clear z9
            try go_simp
            have z9 := HL.out.fin (m : Int) rfl
            have HLA := z9.1
            have HBB := z9.2
            clear z9
            refine hK.out _ _ (fun _ => HBB) (fun hS => ?_)
            clear hK K hS
            try simp only [Act.put, List.setIfInBounds_toArray, List.set_cons_zero, List.set_cons_succ]
            refine T_done (by kernel_rfl) ?_ _
            refine NoPanic.normal ?_
            go_wp2_with fail
            go_meet
            exact ⟨_, rfl, HLA, HBB⟩
      case rest =>
        obtain ⟨gy, rfl, ⟨Ay, cy, y0', y1', hcy, hy⟩, hb⟩ := hcut
        obtain ⟨wd2, rfl⟩ : ∃ wd : World, wd = wc := ⟨_, rfl⟩
        have HY := Lib.hid hy
        clear hy
        replace HW := Lib.hid (HW.out.step hb)
        replace k0 := cell_of_ans hb k0
        replace k1 := cell_of_ans hb k1
        replace p0 := cell_of_ans hb p0
        replace p1 := cell_of_ans hb p1
        replace p2 := cell_of_ans hb p2
        replace p3 := cell_of_ans hb p3
        replace p4 := cell_of_ans hb p4
        replace HCA := Lib.hid (HCA.out.step hb)
        replace HG := Lib.hid (HG.out.step hb)
        replace u0 := cell_of_ans hb u0
        replace u1 := cell_of_ans hb u1
        replace HB := Lib.hid (HB.out.trans (hb.mono HB.out.size))
        clear hb
        have HRy := Lib.hid (fun W (h : Wds W.heap.size W Ay ys) => ready_c Ay ys cy (m : Int) W h hcy)
        cases hry : decide (laneErr (m : Int) ys = 0)
        · rw [hry] at HRy
          clear hry
          go_wp2_with fail
          refine (HRy.out _ HY.out).mono ?_
          rintro e y21 ⟨rfl, hb⟩
          replace HW := Lib.hid (HW.out.step hb)
          replace k0 := cell_of_ans hb k0
          replace k1 := cell_of_ans hb k1
          replace p0 := cell_of_ans hb p0
          replace p1 := cell_of_ans hb p1
          replace p2 := cell_of_ans hb p2
          replace p3 := cell_of_ans hb p3
          replace p4 := cell_of_ans hb p4
          replace HCA := Lib.hid (HCA.out.step hb)
          replace HG := Lib.hid (HG.out.step hb)
          replace u0 := cell_of_ans hb u0
          replace u1 := cell_of_ans hb u1
          replace HY := Lib.hid (HY.out.step hb)
          replace y0' := cell_of_ans hb y0'
          replace y1' := cell_of_ans hb y1'
          replace HB := Lib.hid (HB.out.trans (hb.mono HB.out.size))
          clear hb
          go_wp2_with fail
          refine (HWK.out _).mono ?_
          rintro e y22 ⟨rfl, hb⟩
          replace HW := Lib.hid (HW.out.step hb)
          replace k0 := cell_of_ans hb k0
          replace k1 := cell_of_ans hb k1
          replace p0 := cell_of_ans hb p0
          replace p1 := cell_of_ans hb p1
          replace p2 := cell_of_ans hb p2
          replace p3 := cell_of_ans hb p3
          replace p4 := cell_of_ans hb p4
          replace HCA := Lib.hid (HCA.out.step hb)
          replace HG := Lib.hid (HG.out.step hb)
          replace u0 := cell_of_ans hb u0
          replace u1 := cell_of_ans hb u1
          replace HY := Lib.hid (HY.out.step hb)
          replace y0' := cell_of_ans hb y0'
          replace y1' := cell_of_ans hb y1'
          replace HB := Lib.hid (HB.out.trans (hb.mono HB.out.size))
          clear hb
          go_wp2_with fail
          go_ret
          exact ⟨rfl, HB.out⟩
        · rw [hry] at HRy
          have hly0 : laneErr (m : Int) ys = 0 := of_decide_eq_true hry
          have HLY := Lib.hid hly0
          clear hry hly0
          go_wp2_with fail
          refine (HRy.out _ HY.out).mono ?_
          rintro e y23 ⟨rfl, hb⟩
          replace HW := Lib.hid (HW.out.step hb)
          replace k0 := cell_of_ans hb k0
          replace k1 := cell_of_ans hb k1
          replace p0 := cell_of_ans hb p0
          replace p1 := cell_of_ans hb p1
          replace p2 := cell_of_ans hb p2
          replace p3 := cell_of_ans hb p3
          replace p4 := cell_of_ans hb p4
          replace HCA := Lib.hid (HCA.out.step hb)
          replace HG := Lib.hid (HG.out.step hb)
          replace u0 := cell_of_ans hb u0
          replace u1 := cell_of_ans hb u1
          replace HY := Lib.hid (HY.out.step hb)
          replace y0' := cell_of_ans hb y0'
          replace y1' := cell_of_ans hb y1'
          replace HB := Lib.hid (HB.out.trans (hb.mono HB.out.size))
          clear hb
          go_wp2_with fail
          refine (lane_c Ay ys cy (m : Int) _ HY.out hcy hyl).mono ?_
          rintro e y25 ⟨Al24, cl24, rfl, hO24, hb⟩
          replace HW := Lib.hid (HW.out.step hb)
          replace k0 := cell_of_ans hb k0
          replace k1 := cell_of_ans hb k1
          replace p0 := cell_of_ans hb p0
          replace p1 := cell_of_ans hb p1
          replace p2 := cell_of_ans hb p2
          replace p3 := cell_of_ans hb p3
          replace p4 := cell_of_ans hb p4
          replace HCA := Lib.hid (HCA.out.step hb)
          replace HG := Lib.hid (HG.out.step hb)
          replace u0 := cell_of_ans hb u0
          replace u1 := cell_of_ans hb u1
          replace HY := Lib.hid (HY.out.step hb)
          replace y0' := cell_of_ans hb y0'
          replace y1' := cell_of_ans hb y1'
          replace HB := Lib.hid (HB.out.trans (hb.mono HB.out.size))
          clear hb
          obtain ⟨hq24, hqq24, hO24⟩ := hO24.wds
          have HL24 := Lib.hid hO24
          clear hO24
          go_wp2_with fail
          refine (list_c AcA fa ccA _ HCA.out (Nat.le_refl _) (by omega)).mono ?_
          rintro e y27 ⟨At26, ct26, rfl, hO26, hb⟩
          replace HW := Lib.hid (HW.out.step hb)
          replace k0 := cell_of_ans hb k0
          replace k1 := cell_of_ans hb k1
          replace p0 := cell_of_ans hb p0
          replace p1 := cell_of_ans hb p1
          replace p2 := cell_of_ans hb p2
          replace p3 := cell_of_ans hb p3
          replace p4 := cell_of_ans hb p4
          replace HCA := Lib.hid (HCA.out.step hb)
          replace HG := Lib.hid (HG.out.step hb)
          replace u0 := cell_of_ans hb u0
          replace u1 := cell_of_ans hb u1
          replace HY := Lib.hid (HY.out.step hb)
          replace y0' := cell_of_ans hb y0'
          replace y1' := cell_of_ans hb y1'
          replace HL24 := Lib.hid (HL24.out.step hb)
          replace HB := Lib.hid (HB.out.trans (hb.mono HB.out.size))
          clear hb
          obtain ⟨hq26, hqq26, hO26⟩ := isInts_parts (ownsRow_isInts hO26)
          have HT26 := Lib.hid hO26
          clear hO26
          go_wp2_with fail
          refine (explains_z (ws := ys) Al24 At26 cl24 ct26 _ HL24.out HT26.out ⟨hq24, hqq24⟩ ⟨hq26, hqq26⟩ HLY.out HRA.out).mono ?_
          rintro e y28 ⟨rfl, hb⟩
          replace HW := Lib.hid (HW.out.step hb)
          replace k0 := cell_of_ans hb k0
          replace k1 := cell_of_ans hb k1
          replace p0 := cell_of_ans hb p0
          replace p1 := cell_of_ans hb p1
          replace p2 := cell_of_ans hb p2
          replace p3 := cell_of_ans hb p3
          replace p4 := cell_of_ans hb p4
          replace HCA := Lib.hid (HCA.out.step hb)
          replace HG := Lib.hid (HG.out.step hb)
          replace u0 := cell_of_ans hb u0
          replace u1 := cell_of_ans hb u1
          replace HY := Lib.hid (HY.out.step hb)
          replace y0' := cell_of_ans hb y0'
          replace y1' := cell_of_ans hb y1'
          replace HL24 := Lib.hid (HL24.out.step hb)
          replace HT26 := Lib.hid (HT26.out.step hb)
          replace HB := Lib.hid (HB.out.trans (hb.mono HB.out.size))
          clear hb
          clear HL24 HT26
          cases hxy : explB (m : Int) ys (offT fa)
          · go_wp2_with fail
            refine (HWK.out _).mono ?_
            rintro e y29 ⟨rfl, hb⟩
            replace HW := Lib.hid (HW.out.step hb)
            replace k0 := cell_of_ans hb k0
            replace k1 := cell_of_ans hb k1
            replace p0 := cell_of_ans hb p0
            replace p1 := cell_of_ans hb p1
            replace p2 := cell_of_ans hb p2
            replace p3 := cell_of_ans hb p3
            replace p4 := cell_of_ans hb p4
            replace HCA := Lib.hid (HCA.out.step hb)
            replace HG := Lib.hid (HG.out.step hb)
            replace u0 := cell_of_ans hb u0
            replace u1 := cell_of_ans hb u1
            replace HY := Lib.hid (HY.out.step hb)
            replace y0' := cell_of_ans hb y0'
            replace y1' := cell_of_ans hb y1'
            replace HB := Lib.hid (HB.out.trans (hb.mono HB.out.size))
            clear hb
            go_wp2_with fail
            go_ret
            exact ⟨rfl, HB.out⟩
          · have HEY := Lib.hid (ex_zero HLY.out HRA.out hxy)
            clear hxy
            go_wp2_with fail
            refine (narrower_c Ay A AcA ys ws fa cy c ccA m _ HY.out HW.out HCA.out hcy hc ⟨hcA, hccA⟩ hfl HEY.out HEA.out HNY.out).mono ?_
            rintro e y30 ⟨rfl, hb⟩
            replace HW := Lib.hid (HW.out.step hb)
            replace k0 := cell_of_ans hb k0
            replace k1 := cell_of_ans hb k1
            replace p0 := cell_of_ans hb p0
            replace p1 := cell_of_ans hb p1
            replace p2 := cell_of_ans hb p2
            replace p3 := cell_of_ans hb p3
            replace p4 := cell_of_ans hb p4
            replace HCA := Lib.hid (HCA.out.step hb)
            replace HG := Lib.hid (HG.out.step hb)
            replace u0 := cell_of_ans hb u0
            replace u1 := cell_of_ans hb u1
            replace HY := Lib.hid (HY.out.step hb)
            replace y0' := cell_of_ans hb y0'
            replace y1' := cell_of_ans hb y1'
            replace HB := Lib.hid (HB.out.trans (hb.mono HB.out.size))
            clear hb
            go_wp2_with fail
            refine (HWK.out _).mono ?_
            rintro e y31 ⟨rfl, hb⟩
            replace HW := Lib.hid (HW.out.step hb)
            replace k0 := cell_of_ans hb k0
            replace k1 := cell_of_ans hb k1
            replace p0 := cell_of_ans hb p0
            replace p1 := cell_of_ans hb p1
            replace p2 := cell_of_ans hb p2
            replace p3 := cell_of_ans hb p3
            replace p4 := cell_of_ans hb p4
            replace HCA := Lib.hid (HCA.out.step hb)
            replace HG := Lib.hid (HG.out.step hb)
            replace u0 := cell_of_ans hb u0
            replace u1 := cell_of_ans hb u1
            replace HY := Lib.hid (HY.out.step hb)
            replace y0' := cell_of_ans hb y0'
            replace y1' := cell_of_ans hb y1'
            replace HB := Lib.hid (HB.out.trans (hb.mono HB.out.size))
            clear hb
            go_wp2_with fail
            go_ret
            exact ⟨rfl, HB.out⟩
end Go.Proofs.Ytadjkinpimmhkaa
