/-
  The walk of the law SeenEach.
-/
import Derived.Test.YtadjkinpimmhkaaFewerW
import Derived.Test.YtadjkinpimmhkaaMoreM
import Derived.Test.YtadjkinpimmhkaaRegW
import Derived.Test.YtadjkinpimmhkaaEq41
namespace Go.Proofs.Ytadjkinpimmhkaa
open Go.RowKit
set_option linter.unusedSimpArgs false
set_option linter.unusedVariables false

theorem chTo_full {b : Nat} (h : ∀ j, j < 4 → b.testBit j = true) : (chTo b 4).length = 4 := by
  rw [chTo_yes (h 3 (by omega)), chTo_yes (h 2 (by omega)), chTo_yes (h 1 (by omega)), chTo_yes (h 0 (by omega))]
  rfl
theorem hasB_ch (b j : Nat) (hj : j < 4) : hasB (chTo b 4) (j : Int) = offT (chTo b 4) j := by
  rw [hasB_offT (by omega), Int.toNat_natCast]
def TelP (fa : List Int) (j T : Nat) : Prop := T ≤ 3 ∧ ((∀ x, j ≤ x → x < 4 → offT fa x = true) ∨ offT fa T = false)
def BelE (y w : World) : Prop := Below y.heap.size y w
theorem BelE.step {y w w' : World} (h : BelE y w) (hb : Below w.heap.size w w') : BelE y w' := Below.trans h (hb.mono (Below.size h))
def DEach (m k : Nat) (te : Nat) : Prop := k < 2 * m ∧ te ≤ 3

set_option maxRecDepth 100000 in
set_option maxHeartbeats 16000000 in
theorem seenEach_c (A : Option Addr) (ws : List Wd) (c : Nat) (frn : Int) (bi pl : Nat) (w : World) (hw : Wds w.heap.size w A ws) (hc : ws.length ≤ c ∧ c ≤ 9223372036854775807) (hbi : bi < 256) (hpl : pl < 256) :
    Calls Try.prog 8 #[.agg #[.int .i64 frn, .slice A ws.length c], .int .u8 (bi : Int), .int .u8 (pl : Int)] w (Ans w (.bool true)) := by
  have hb0 : Below w.heap.size w (w.alloc (.cells #[.int .i64 frn, .slice A ws.length c] 24)) := (Below.refl _ _).alloc (Nat.le_refl _) _
  have k0 : (w.alloc (.cells #[.int .i64 frn, .slice A ws.length c] 24)).cell? ⟨w.heap.size, 0, none⟩ = some (.int .i64 frn) := by simp
  have k1 : (w.alloc (.cells #[.int .i64 frn, .slice A ws.length c] 24)).cell? ⟨w.heap.size, 1, none⟩ = some (.slice A ws.length c) := by simp
  have HB := Lib.hid hb0
  have HW := Lib.hid (hw.step hb0)
  have HWK := Lib.hid wakes_c
  clear hb0 hw
  go_enter Try.func8, Try.ntmps8
  go_wp2_with fail
  generalize (w.alloc (.cells #[.int .i64 frn, .slice A ws.length c] 24)) = W0 at *
  have HRd := Lib.hid (ready_c A ws c frn W0 HW.out hc)
  cases hrd : decide (laneErr frn ws = 0)
  · rw [hrd] at HRd
    clear hrd
    refine (HRd.out).mono ?_
    rintro e y1 ⟨rfl, hb⟩
    replace HW := Lib.hid (HW.out.step hb)
    replace k0 := cell_of_ans hb k0
    replace k1 := cell_of_ans hb k1
    replace HB := Lib.hid (HB.out.trans (hb.mono HB.out.size))
    clear hb
    go_wp2_with fail
    refine (HWK.out _).mono ?_
    rintro e y2 ⟨rfl, hb⟩
    replace HW := Lib.hid (HW.out.step hb)
    replace k0 := cell_of_ans hb k0
    replace k1 := cell_of_ans hb k1
    replace HB := Lib.hid (HB.out.trans (hb.mono HB.out.size))
    clear hb
    go_wp2_with fail
    go_ret
    exact ⟨rfl, HB.out⟩
  · rw [hrd] at HRd
    have hle : laneErr frn ws = 0 := of_decide_eq_true hrd
    obtain ⟨h30, hf1, hf5, hok⟩ := laneOk hle
    obtain ⟨m, rfl⟩ : ∃ m : Nat, frn = (m : Int) := ⟨frn.toNat, by omega⟩
    have HLE := Lib.hid hle
    have HOK := Lib.hid hok
    have hm5 : m ≤ 5 := by omega
    have hm1 : 1 ≤ m := by omega
    clear hrd hle hok
    refine (HRd.out).mono ?_
    rintro e y3 ⟨rfl, hb⟩
    replace HW := Lib.hid (HW.out.step hb)
    replace k0 := cell_of_ans hb k0
    replace k1 := cell_of_ans hb k1
    replace HB := Lib.hid (HB.out.trans (hb.mono HB.out.size))
    clear hb
    by_cases h29 : (ws.length : Int) > 29
    · go_wp2_with fail
      refine (HWK.out _).mono ?_
      rintro e y4 ⟨rfl, hb⟩
      replace HW := Lib.hid (HW.out.step hb)
      replace k0 := cell_of_ans hb k0
      replace k1 := cell_of_ans hb k1
      replace HB := Lib.hid (HB.out.trans (hb.mono HB.out.size))
      clear hb
      go_wp2_with fail
      go_ret
      exact ⟨rfl, HB.out⟩
    have h29b : decide ((29 : Int) < (ws.length : Int)) = false := decide_eq_false (by omega)
    go_wp2_with fail
    refine (chosen_c bi hbi _).mono ?_
    rintro e y5 ⟨AcA, ccA, rfl, hO, hb⟩
    replace HW := Lib.hid (HW.out.step hb)
    replace k0 := cell_of_ans hb k0
    replace k1 := cell_of_ans hb k1
    replace HB := Lib.hid (HB.out.trans (hb.mono HB.out.size))
    clear hb
    obtain ⟨hcA, hccA, hO⟩ := isInts_parts (ownsRow_isInts hO)
    have HCA := Lib.hid hO
    clear hO
    have hlA := chTo_len (bi) 4
    have HRA := Lib.hid (chTo_rise bi)
    have HFU : Hid (∀ x : Nat, x < 4 → hasB (chTo bi 4) (x : Int) = offT (chTo bi 4) x) := fun x hx => hasB_ch bi x hx
    have HF4 : Hid ((∀ x, x < 4 → offT (chTo bi 4) x = true) → (chTo bi 4).length = 4) := fun h => chTo_full fun j hj => by rw [← chTo_off bi j hj]; exact h j hj
    generalize chTo bi 4 = fa at *
    by_cases h4 : fa.length = 4
    · have h4b : ((fa.length : Int) == 4) = true := by simp [h4]; try omega
      clear h4
      go_wp2_with fail
      refine (HWK.out _).mono ?_
      rintro e y6 ⟨rfl, hb⟩
      replace HW := Lib.hid (HW.out.step hb)
      replace k0 := cell_of_ans hb k0
      replace k1 := cell_of_ans hb k1
      replace HCA := Lib.hid (HCA.out.step hb)
      replace HB := Lib.hid (HB.out.trans (hb.mono HB.out.size))
      clear hb
      go_wp2_with fail
      go_ret
      exact ⟨rfl, HB.out⟩
    have h4b : ((fa.length : Int) == 4) = false := by simp; omega
    have H4 := Lib.hid h4
    clear h4
    go_wp2_with fail
    go_loopw [9, 8] (fun i v wr => ∃ j T : Nat, j ≤ 4 ∧ i = .int .i64 ((j : Int) - 1) ∧ v = .int .i64 (T : Nat) ∧ TelP fa j T ∧ wr = y5) (fun i _ _ => (intOf i + 1).toNat)
    case atStart => exact ⟨4, 0, by omega, rfl, rfl, ⟨by omega, .inl fun x h1 h2 => by omega⟩, rfl⟩
    case round =>
      obtain ⟨j, T, hj, rfl, rfl, hT, rfl⟩ := hrel
      have HTP := Lib.hid hT
      clear hT
      by_cases hj0 : 1 ≤ j
      · have hji : (j : Int) - 1 ≥ 0 := by omega
        have HU := HFU.out (j - 1) (by omega)
        have hjc : ((j - 1 : Nat) : Int) = (j : Int) - 1 := by omega
        rw [hjc] at HU
        have HHC := Lib.hid (has_c (B := wr.heap.size) AcA fa ccA ((j : Int) - 1) wr HCA.out ⟨hcA, hccA⟩)
        rw [HU] at HHC
        have hjm : IntKind.i64.wrap ((j : Int) - 1 - 1) = (j : Int) - 1 - 1 := IntWalk.i64_in _ (by omega)
        cases ho : offT fa (j - 1)
        · rw [ho] at HHC
          have HO := Lib.hid ho
          clear ho HU hjc
          go_wp2_with fail
          refine HHC.out.mono ?_
          rintro e w9 ⟨rfl, rfl⟩
          go_wp2_with fail
          go_roundw
          case rel => exact ⟨j - 1, j - 1, by omega, by congr 1; omega, by congr 1; omega, ⟨by omega, .inr HO.out⟩, by trivial⟩
          case measure => simp [intOf]; omega
        · rw [ho] at HHC
          have HO := Lib.hid ho
          clear ho HU hjc
          go_wp2_with fail
          refine HHC.out.mono ?_
          rintro e w9 ⟨rfl, rfl⟩
          go_wp2_with fail
          go_roundw
          case rel =>
            refine ⟨j - 1, T, by omega, by congr 1; omega, rfl, ⟨HTP.out.1, ?_⟩, by trivial⟩
            rcases HTP.out.2 with h5 | h5
            · refine .inl fun x h6 h7 => ?_
              by_cases e : x = j - 1
              · subst e; exact HO.out
              · exact h5 x (by omega) h7
            · exact .inr h5
          case measure => simp [intOf]; omega
      · have hji : ¬ (j : Int) - 1 ≥ 0 := by omega
        obtain rfl : j = 0 := by omega
        have HTO : Hid (offT fa T = false) := by
          rcases HTP.out.2 with h5 | h5
          · exact absurd (HF4.out fun x hx => h5 x (by omega) hx) H4.out
          · exact h5
        have hT3 := HTP.out.1
        clear HTP HF4 HFU h4b
        cases hx : explB (m : Int) ws (offT fa)
        · have hx9 : exErr (m : Int) ws fa = 9 := by simp [exErr, ask_zero HLE.out HRA.out, hx]
          have HX9 := Lib.hid hx9
          clear hx hx9
          go_wp2_with fail
          refine (lane_c A ws c (m : Int) _ HW.out hc (by omega)).mono ?_
          rintro e y8 ⟨Al7, cl7, rfl, hO7, hb⟩
          replace HW := Lib.hid (HW.out.step hb)
          replace k0 := cell_of_ans hb k0
          replace k1 := cell_of_ans hb k1
          replace HCA := Lib.hid (HCA.out.step hb)
          replace HB := Lib.hid (HB.out.trans (hb.mono HB.out.size))
          clear hb
          obtain ⟨hq7, hqq7, hO7⟩ := hO7.wds
          have HL7 := Lib.hid hO7
          clear hO7
          go_wp2_with fail
          refine (list_c AcA fa ccA _ HCA.out (Nat.le_refl _) (by omega)).mono ?_
          rintro e y10 ⟨At9, ct9, rfl, hO9, hb⟩
          replace HW := Lib.hid (HW.out.step hb)
          replace k0 := cell_of_ans hb k0
          replace k1 := cell_of_ans hb k1
          replace HCA := Lib.hid (HCA.out.step hb)
          replace HL7 := Lib.hid (HL7.out.step hb)
          replace HB := Lib.hid (HB.out.trans (hb.mono HB.out.size))
          clear hb
          obtain ⟨hq9, hqq9, hO9⟩ := isInts_parts (ownsRow_isInts hO9)
          have HT9 := Lib.hid hO9
          clear hO9
          go_wp2_with fail
          refine (ranges_bad Al7 At9 ws fa cl7 ct9 (m : Int) _ HL7.out HT9.out ⟨hq7, hqq7⟩ ⟨hq9, hqq9⟩ (by rw [HX9.out]; decide)).mono ?_
          rintro e y11 ⟨rfl, hb⟩
          replace HW := Lib.hid (HW.out.step hb)
          replace k0 := cell_of_ans hb k0
          replace k1 := cell_of_ans hb k1
          replace HCA := Lib.hid (HCA.out.step hb)
          replace HL7 := Lib.hid (HL7.out.step hb)
          replace HT9 := Lib.hid (HT9.out.step hb)
          replace HB := Lib.hid (HB.out.trans (hb.mono HB.out.size))
          clear hb
          clear HL7 HT9
          rw [HX9.out]
          go_upto_region 13 with fail
          have hb : Below y11.heap.size y11 (y11.alloc (.cells #[.int .i64 0, .int .i64 0] 41)) := (Below.refl _ _).alloc (Nat.le_refl _) _
          have u0 : (y11.alloc (.cells #[.int .i64 0, .int .i64 0] 41)).cell? ⟨y11.heap.size, 0, none⟩ = some (.int .i64 0) := by simp
          have u1 : (y11.alloc (.cells #[.int .i64 0, .int .i64 0] 41)).cell? ⟨y11.heap.size, 1, none⟩ = some (.int .i64 0) := by simp
          replace HW := Lib.hid (HW.out.step hb)
          replace k0 := cell_of_ans hb k0
          replace k1 := cell_of_ans hb k1
          replace HCA := Lib.hid (HCA.out.step hb)
          replace HB := Lib.hid (HB.out.trans (hb.mono HB.out.size))
          clear hb
          generalize (y11.alloc (.cells #[.int .i64 0, .int .i64 0] 41)) = y12 at *
          generalize y11.heap.size = qy12 at *
          go_wp2_with fail
          refine (HWK.out _).mono ?_
          rintro e y13 ⟨rfl, hb⟩
          replace HW := Lib.hid (HW.out.step hb)
          replace k0 := cell_of_ans hb k0
          replace k1 := cell_of_ans hb k1
          replace HCA := Lib.hid (HCA.out.step hb)
          replace u0 := cell_of_ans hb u0
          replace u1 := cell_of_ans hb u1
          replace HB := Lib.hid (HB.out.trans (hb.mono HB.out.size))
          clear hb
          go_wp2_with fail
          go_ret
          exact ⟨rfl, HB.out⟩
        have HEA := Lib.hid (ex_zero HLE.out HRA.out hx)
        have HONE : Hid (∀ k, k < 2 * m → ∀ n : Nat, explB (m : Int) (ws ++ [⟨((k / 2 : Nat) : Int), ((k % 2 : Nat) : Int), (T : Int), (n : Int), (n : Int)⟩]) (offT fa) = (decide ((rgAt ws (offT fa) m k).1 ≤ (n : Int)) && decide ((n : Int) ≤ (rgAt ws (offT fa) m k).2))) := fun k hk n => one_more hk hx HTO.out n
        have HRL := Lib.hid (rangesL_len ws (offT fa) m)
        clear hx
        go_wp2_with fail
        refine (lane_c A ws c (m : Int) _ HW.out hc (by omega)).mono ?_
        rintro e y15 ⟨Al14, cl14, rfl, hO14, hb⟩
        replace HW := Lib.hid (HW.out.step hb)
        replace k0 := cell_of_ans hb k0
        replace k1 := cell_of_ans hb k1
        replace HCA := Lib.hid (HCA.out.step hb)
        replace HB := Lib.hid (HB.out.trans (hb.mono HB.out.size))
        clear hb
        obtain ⟨hq14, hqq14, hO14⟩ := hO14.wds
        have HL14 := Lib.hid hO14
        clear hO14
        go_wp2_with fail
        refine (list_c AcA fa ccA _ HCA.out (Nat.le_refl _) (by omega)).mono ?_
        rintro e y17 ⟨At16, ct16, rfl, hO16, hb⟩
        replace HW := Lib.hid (HW.out.step hb)
        replace k0 := cell_of_ans hb k0
        replace k1 := cell_of_ans hb k1
        replace HCA := Lib.hid (HCA.out.step hb)
        replace HL14 := Lib.hid (HL14.out.step hb)
        replace HB := Lib.hid (HB.out.trans (hb.mono HB.out.size))
        clear hb
        obtain ⟨hq16, hqq16, hO16⟩ := isInts_parts (ownsRow_isInts hO16)
        have HT16 := Lib.hid hO16
        clear hO16
        go_wp2_with fail
        refine (ranges_ok Al14 At16 ws fa cl14 ct16 (m : Int) _ HL14.out HT16.out ⟨hq14, hqq14⟩ ⟨hq16, hqq16⟩ HEA.out).mono ?_
        rintro e y18 ⟨Ar, cr, rfl, hcr, hR, hb⟩
        replace HW := Lib.hid (HW.out.step hb)
        replace k0 := cell_of_ans hb k0
        replace k1 := cell_of_ans hb k1
        replace HCA := Lib.hid (HCA.out.step hb)
        replace HL14 := Lib.hid (HL14.out.step hb)
        replace HT16 := Lib.hid (HT16.out.step hb)
        replace HB := Lib.hid (HB.out.trans (hb.mono HB.out.size))
        clear hb
        clear HL14 HT16
        have HG := Lib.hid hR
        clear hR
        rw [Int.toNat_natCast] at *
        have HRG : Hid (∀ k, rgAt ws (offT fa) m k = px (rangesL ws (offT fa) m) k) := fun _ => rfl
        generalize rangesL ws (offT fa) m = r at *
        generalize cntLo ws (offT fa) m = lo at *
        generalize cntHi ws (offT fa) m = hi at *
        go_upto_region 13 with fail
        have hb : Below y18.heap.size y18 (y18.alloc (.cells #[.int .i64 lo, .int .i64 hi] 41)) := (Below.refl _ _).alloc (Nat.le_refl _) _
        have u0 : (y18.alloc (.cells #[.int .i64 lo, .int .i64 hi] 41)).cell? ⟨y18.heap.size, 0, none⟩ = some (.int .i64 lo) := by simp
        have u1 : (y18.alloc (.cells #[.int .i64 lo, .int .i64 hi] 41)).cell? ⟨y18.heap.size, 1, none⟩ = some (.int .i64 hi) := by simp
        replace HW := Lib.hid (HW.out.step hb)
        replace k0 := cell_of_ans hb k0
        replace k1 := cell_of_ans hb k1
        replace HCA := Lib.hid (HCA.out.step hb)
        replace HG := Lib.hid (HG.out.step hb)
        replace HB := Lib.hid (HB.out.trans (hb.mono HB.out.size))
        clear hb
        generalize (y18.alloc (.cells #[.int .i64 lo, .int .i64 hi] 41)) = y19 at *
        generalize y18.heap.size = qy19 at *
        have hrl : r.length = 2 * m := HRL.out
        have h2m : ((r.length : Int) != 2 * (m : Int)) = false := bne_eq_false_iff_eq.2 (by omega)
        have hm0 : ((r.length : Int) == 0) = false := beq_eq_false_iff_ne.2 (by omega)
        have hrp : 0 < (r.length : Int) := by omega
        have hk1 := Int.emod_nonneg (pl : Int) (b := (r.length : Int)) (by omega)
        have hk2 := Int.emod_lt_of_pos (pl : Int) (b := (r.length : Int)) (by omega)
        obtain ⟨kk, hkk⟩ : ∃ kk : Nat, (pl : Int) % (r.length : Int) = (kk : Int) := ⟨((pl : Int) % (r.length : Int)).toNat, by omega⟩
        have hkm : kk < 2 * m := by omega
        have hkr : (kk : Int) < (r.length : Int) := by omega
        have hkrn : kk < r.length := by omega
        have HRLL := Lib.hid hrl
        clear hrl hk1 hk2
        go_wp2_with fail
        rw [hkk]
        go_loopw [14] (fun i wr => ∃ n : Nat, n ≤ 11 ∧ i = .int .i64 n ∧ BelE y19 wr) (fun i _ => 11 - (intOf i).toNat)
        case atStart => exact ⟨0, by omega, rfl, Below.refl _ _⟩
        case round =>
          obtain ⟨n, hn, rfl, hb⟩ := hrel
          have hb : Below y19.heap.size y19 wr := hb
          have HYR := Lib.hid hb
          obtain ⟨b2, o2, hA2, hb2', hc2⟩ := HG.out (Nat.lt_of_le_of_lt (Nat.zero_le _) hkrn)
          subst hA2
          replace HW := Lib.hid (HW.out.step hb)
          replace k0 := cell_of_ans hb k0
          replace k1 := cell_of_ans hb k1
          replace HCA := Lib.hid (HCA.out.step hb)
          replace HG := Lib.hid (HG.out.step hb)
          replace u0 := cell_of_ans hb u0
          replace u1 := cell_of_ans hb u1
          replace HB := Lib.hid (HB.out.trans (hb.mono HB.out.size))
          clear hb
          by_cases h1 : n ≤ 10
          · have h1i : (n : Int) ≤ 10 := by omega
            obtain ⟨fr, hfr⟩ : ∃ fr : Int, fr = ((kk / 2 : Nat) : Int) := ⟨_, rfl⟩
            obtain ⟨ba, hba⟩ : ∃ ba : Int, ba = ((kk % 2 : Nat) : Int) := ⟨_, rfl⟩
            have HFR := Lib.hid hfr
            have HBA := Lib.hid hba
            have q1 : (kk : Int).tdiv 2 = fr := by rw [hfr]; exact Int.tdiv_eq_ediv_of_nonneg (by omega)
            have q2 : (kk : Int).tmod 2 = ba := by rw [hba]; exact Int.tmod_eq_emod_of_nonneg (by omega)
            have q3 : IntKind.i64.wrap fr = fr := IntWalk.i64_in _ (by omega)
            have q4 : (kk : Int) / 2 = fr := by omega
            have q5 : (kk : Int) % 2 = ba := by omega
            obtain ⟨zs, hzs⟩ : ∃ zs : List Wd, zs = ws ++ [⟨fr, ba, (T : Int), (n : Int), (n : Int)⟩] := ⟨_, rfl⟩
            have HZS := Lib.hid hzs
            clear hzs hfr hba
            have HLZ : Hid (laneErr (m : Int) zs = 0) := by
              show _ = _
              rw [HZS.out, HFR.out, HBA.out]
              refine lane_mk hm1 hm5 (by simp; omega) fun x hx => ?_
              rcases List.mem_append.1 hx with hx | hx
              · exact lane_word HLE.out x hx
              · simp only [List.mem_singleton] at hx
                subst hx
                exact wordB_mk (by omega) (by omega) (by omega) (by omega) (by omega) (by omega)
            have HEV : Hid (explB (m : Int) zs (offT fa) = (decide ((px r kk).1 ≤ (n : Int)) && decide ((n : Int) ≤ (px r kk).2))) := by
              show _ = _
              rw [HZS.out, HFR.out, HBA.out, HONE.out kk hkm n, HRG.out]
            have hzl : zs.length ≤ 1000000 := by rw [HZS.out]; simp; omega
            go_upto_region 21 with fail
            go_cut [15] (fun s15 wx => ∃ gq : Nat, s15 = .pointer (some ⟨gq, 0, none⟩) ∧ LaneAt wx.heap.size wx gq (m : Int) zs ∧ Below wr.heap.size wr wx)
            case first =>
              try clear HB
              try clear HG
              try clear HCA
              try clear HEA
              try clear HONE
              try clear HRG
              try clear HYR
              try clear hc2
              try clear HTO
              try clear HLE
              try clear HOK
              try clear HRA
              try clear hkk
              try clear hkm
              try clear hm0
              try clear h2m
              try clear hrp
              try clear HRLL
              try clear HRL
              try clear HWK
              try clear H4
              try clear u0
              try clear u1
              try clear hb2
              refine wp_region_noPanic ?_
              have hS : (fun w' : World => Below wr.heap.size wr w') wr.drew := (Below.refl _ _).drew
              refine wp_region_any (by kernel_rfl) (wpAny_of_T (S := fun w' : World => Below wr.heap.size wr w') (m := 19) _ _ _ _ ?_)
              have HL : Hid (LSt wr wr.drew none none none) := LSt.start hS
              change wpAnyT _ _ _ _ _ _ _ _ _ wr.drew
              generalize hwv0 : wr.drew = wv0 at *
              clear hwv0
              refine' T_take (i := 0) (v := _) rfl (by kernel_rfl) (by kernel_rfl) (by kernel_rfl) (by kernel_rfl) (fun _ _ _ h => h) (by rfl) hS ?_ ?_
              rotate_left 1
              · intro Wv hW
                have l0 := cell_of_ans hW k0
                have l1 := cell_of_ans hW k1
                go_simp
                first | done | with_reducible rfl
              try simp only [Act.put, List.setIfInBounds_toArray, List.set_cons_zero, List.set_cons_succ]
              refine' T_take (i := 1) (v := _) rfl (by kernel_rfl) (by kernel_rfl) (by kernel_rfl) (by kernel_rfl) (fun _ _ _ h => h) (by rfl) hS ?_ ?_
              rotate_left 1
              · intro Wv hW
                have l0 := cell_of_ans hW k0
                have l1 := cell_of_ans hW k1
                go_simp
                first | done | with_reducible rfl
              try simp only [Act.put, List.setIfInBounds_toArray, List.set_cons_zero, List.set_cons_succ]
              refine' T_take (i := 3) (v := _) rfl (by kernel_rfl) (by kernel_rfl) (by kernel_rfl) (by kernel_rfl) (fun _ _ _ h => h) (by rfl) hS ?_ ?_
              rotate_left 1
              · intro Wv hW
                have l0 := cell_of_ans hW k0
                have l1 := cell_of_ans hW k1
                go_simp
                first | done | with_reducible rfl
              try simp only [Act.put, List.setIfInBounds_toArray, List.set_cons_zero, List.set_cons_succ]
              refine' T_take (i := 4) (v := _) rfl (by kernel_rfl) (by kernel_rfl) (by kernel_rfl) (by kernel_rfl) (fun _ _ _ h => h) (by rfl) hS ?_ ?_
              rotate_left 1
              · intro Wv hW
                have l0 := cell_of_ans hW k0
                have l1 := cell_of_ans hW k1
                go_simp
                first | done | with_reducible rfl
              try simp only [Act.put, List.setIfInBounds_toArray, List.set_cons_zero, List.set_cons_succ]
              refine' T_take (i := 6) (v := _) rfl (by kernel_rfl) (by kernel_rfl) (by kernel_rfl) (by kernel_rfl) (fun _ _ _ h => h) (by rfl) hS ?_ ?_
              rotate_left 1
              · intro Wv hW
                have l0 := cell_of_ans hW k0
                have l1 := cell_of_ans hW k1
                go_simp
                first | done | with_reducible rfl
              try simp only [Act.put, List.setIfInBounds_toArray, List.set_cons_zero, List.set_cons_succ]
              refine' T_take (i := 7) (v := _) rfl (by kernel_rfl) (by kernel_rfl) (by kernel_rfl) (by kernel_rfl) (fun _ _ _ h => h) (by rfl) hS ?_ ?_
              rotate_left 1
              · intro Wv hW
                have l0 := cell_of_ans hW k0
                have l1 := cell_of_ans hW k1
                go_simp
                first | done | with_reducible rfl
              try simp only [Act.put, List.setIfInBounds_toArray, List.set_cons_zero, List.set_cons_succ]
              refine' T_take (i := 8) (v := _) rfl (by kernel_rfl) (by kernel_rfl) (by kernel_rfl) (by kernel_rfl) (fun _ _ _ h => h) (by rfl) hS ?_ ?_
              rotate_left 1
              · intro Wv hW
                have l0 := cell_of_ans hW k0
                have l1 := cell_of_ans hW k1
                go_simp
                first | done | with_reducible rfl
              try simp only [Act.put, List.setIfInBounds_toArray, List.set_cons_zero, List.set_cons_succ]
              refine' T_take (i := 9) (v := _) rfl (by kernel_rfl) (by kernel_rfl) (by kernel_rfl) (by kernel_rfl) (fun _ _ _ h => h) (by rfl) hS ?_ ?_
              rotate_left 1
              · intro Wv hW
                have l0 := cell_of_ans hW k0
                have l1 := cell_of_ans hW k1
                go_simp
                first | done | with_reducible rfl
              try simp only [Act.put, List.setIfInBounds_toArray, List.set_cons_zero, List.set_cons_succ]
              refine' T_take (i := 10) (v := _) rfl (by kernel_rfl) (by kernel_rfl) (by kernel_rfl) (by kernel_rfl) (fun _ _ _ h => h) (by rfl) hS ?_ ?_
              rotate_left 1
              · intro Wv hW
                have l0 := cell_of_ans hW k0
                have l1 := cell_of_ans hW k1
                go_simp
                first | done | with_reducible rfl
              try simp only [Act.put, List.setIfInBounds_toArray, List.set_cons_zero, List.set_cons_succ]
              refine' T_take (i := 11) (v := _) rfl (by kernel_rfl) (by kernel_rfl) (by kernel_rfl) (by kernel_rfl) (fun _ _ _ h => h) (by rfl) hS ?_ ?_
              rotate_left 1
              · intro Wv hW
                have l0 := cell_of_ans hW k0
                have l1 := cell_of_ans hW k1
                go_simp
                first | done | with_reducible rfl
              try simp only [Act.put, List.setIfInBounds_toArray, List.set_cons_zero, List.set_cons_succ]
              refine' T_take (i := 12) (v := _) rfl (by kernel_rfl) (by kernel_rfl) (by kernel_rfl) (by kernel_rfl) (fun _ _ _ h => h) (by rfl) hS ?_ ?_
              rotate_left 1
              · intro Wv hW
                have l0 := cell_of_ans hW k0
                have l1 := cell_of_ans hW k1
                go_simp
                first | done | with_reducible rfl
              try simp only [Act.put, List.setIfInBounds_toArray, List.set_cons_zero, List.set_cons_succ]
              refine' T_take (i := 13) (v := _) rfl (by kernel_rfl) (by kernel_rfl) (by kernel_rfl) (by kernel_rfl) (fun _ _ _ h => h) (by rfl) hS ?_ ?_
              rotate_left 1
              · intro Wv hW
                have l0 := cell_of_ans hW k0
                have l1 := cell_of_ans hW k1
                go_simp
                first | done | with_reducible rfl
              try simp only [Act.put, List.setIfInBounds_toArray, List.set_cons_zero, List.set_cons_succ]
              refine T_ready (rs := [2, 14, 17]) (by kernel_rfl) (by simp) ?_
              refine TReady.cons rfl (fun K hK => ?_) (TReady.cons rfl (fun K hK => ?_) (TReady.cons rfl (fun K hK => ?_) TReady.nil))
              · try go_simp
                replace HL := Lib.hid HL.out.allocE
                refine hK.out _ _ (fun _ => HL.out.b) (fun hS => ?_)
                replace hS := hS (by decide)
                clear hK K
                try simp only [Act.put, List.setIfInBounds_toArray, List.set_cons_zero, List.set_cons_succ]
                generalize hwv1 : (wv0).alloc (.cells #[] 56) = wv1 at *
                generalize hwq1 : (wv0).heap.size = wq1 at *
                clear hwv1 hwq1
                refine T_ready (rs := [5, 14, 17]) (by kernel_rfl) (by simp) ?_
                refine TReady.cons rfl (fun K hK => ?_) (TReady.cons rfl (fun K hK => ?_) (TReady.cons rfl (fun K hK => ?_) TReady.nil))
                · refine step_words (.tmp 76) (.tmp 78) rfl rfl wr _ _ [] ws ws _ _ A ws.length c rfl rfl rfl rfl HL (Wds.src (HW.out.step HL.out.b)) (by decide) (by omega) ?_
                  intro Aw2 cw2 wv2 HL2
                  clear HL
                  have HL := HL2
                  clear HL2
                  refine hK.out _ _ (fun _ => HL.out.b) (fun hS => ?_)
                  replace hS := hS (by decide)
                  clear hK K
                  try simp only [Act.put, List.setIfInBounds_toArray, List.set_cons_zero, List.set_cons_succ]
                  refine T_ready (rs := [14, 17]) (by kernel_rfl) (by simp) ?_
                  refine TReady.cons rfl (fun K hK => ?_) (TReady.cons rfl (fun K hK => ?_) TReady.nil)
                  · try go_simp
                    replace HL := Lib.hid (HL.out.allocX ⟨fr, ba, T, n, n⟩)
                    refine hK.out _ _ (fun _ => HL.out.b) (fun hS => ?_)
                    replace hS := hS (by decide)
                    clear hK K
                    try simp only [Act.put, List.setIfInBounds_toArray, List.set_cons_zero, List.set_cons_succ]
                    generalize hwv3 : (wv2).alloc (.cells #[.int .i64 (fr), .int .i64 (ba), .int .i64 (T), .int .i64 (n), .int .i64 (n)] 56) = wv3 at *
                    generalize hwq3 : (wv2).heap.size = wq3 at *
                    clear hwv3 hwq3
                    refine T_ready (rs := [15, 17]) (by kernel_rfl) (by simp) ?_
                    refine TReady.cons rfl (fun K hK => ?_) (TReady.cons rfl (fun K hK => ?_) TReady.nil)
                    · refine step_words (.tmp 79) (.tmp 88) rfl rfl wr _ _ ws [⟨fr, ba, (T : Int), (n : Int), (n : Int)⟩] zs _ _ (some ⟨wq3, 0, none⟩) 1 1 rfl HZS.out rfl rfl HL HL.out.src (by omega) (by simp) ?_
                      intro Aw4 cw4 wv4 HL2
                      clear HL
                      have HL := HL2
                      clear HL2
                      refine hK.out _ _ (fun _ => HL.out.b) (fun hS => ?_)
                      replace hS := hS (by decide)
                      clear hK K
                      try simp only [Act.put, List.setIfInBounds_toArray, List.set_cons_zero, List.set_cons_succ]
                      refine' T_take (i := 16) (v := _) rfl (by kernel_rfl) (by kernel_rfl) (by kernel_rfl) (by kernel_rfl) (fun _ _ _ h => h) (by rfl) hS ?_ ?_
                      rotate_left 1
                      · intro Wv hW
                        have l0 := cell_of_ans hW k0
                        have l1 := cell_of_ans hW k1
                        go_simp
                        first | done | with_reducible rfl
                      try simp only [Act.put, List.setIfInBounds_toArray, List.set_cons_zero, List.set_cons_succ]
                      refine T_ready (rs := [17]) (by kernel_rfl) (by simp) ?_
                      refine TReady.cons rfl (fun K hK => ?_) TReady.nil
                      try go_simp
                      replace HL := Lib.hid HL.out.allocG
                      refine hK.out _ _ (fun _ => HL.out.b) (fun hS => ?_)
                      replace hS := hS (by decide)
                      clear hK K
                      try simp only [Act.put, List.setIfInBounds_toArray, List.set_cons_zero, List.set_cons_succ]
                      generalize hwv5 : (wv4).alloc (.cells #[.int .i64 0, .slice none 0 0] 24) = wv5 at *
                      generalize hwq5 : (wv4).heap.size = wq5 at *
                      clear hwv5 hwq5
                      refine T_ready (rs := [18]) (by kernel_rfl) (by simp) ?_
                      refine TReady.cons rfl (fun K hK => ?_) TReady.nil
                      have z9 := HL.out.cells
                      have z0 := z9.1
                      have z1 := z9.2.1
                      have z2 := z9.2.2.1
                      have z3 := z9.2.2.2
                      clear z9
                      try go_simp
                      have z9 := HL.out.fin (m : Int) rfl
                      have HLA := z9.1
                      have HBB := z9.2
                      clear z9
                      refine hK.out _ _ (fun _ => HBB) (fun hS => ?_)
                      clear hK K hS
                      try simp only [Act.put, List.setIfInBounds_toArray, List.set_cons_zero, List.set_cons_succ]
                      refine T_done (by kernel_rfl) ?_ _
                      refine NoPanic.normal ?_
                      go_wp2_with fail
                      go_meet
                      exact ⟨_, rfl, HLA, HBB⟩
                    · try go_simp
                      replace HL := Lib.hid HL.out.allocG
                      refine hK.out _ _ (fun _ => HL.out.b) (fun hS => ?_)
                      replace hS := hS (by decide)
                      clear hK K
                      try simp only [Act.put, List.setIfInBounds_toArray, List.set_cons_zero, List.set_cons_succ]
                      generalize hwv7 : (wv3).alloc (.cells #[.int .i64 0, .slice none 0 0] 24) = wv7 at *
                      generalize hwq7 : (wv3).heap.size = wq7 at *
                      clear hwv7 hwq7
                      refine T_ready (rs := [15]) (by kernel_rfl) (by simp) ?_
                      refine TReady.cons rfl (fun K hK => ?_) TReady.nil
                      refine step_words (.tmp 79) (.tmp 88) rfl rfl wr _ _ ws [⟨fr, ba, (T : Int), (n : Int), (n : Int)⟩] zs _ _ (some ⟨wq3, 0, none⟩) 1 1 rfl HZS.out rfl rfl HL HL.out.src (by omega) (by simp) ?_
                      intro Aw8 cw8 wv8 HL2
                      clear HL
                      have HL := HL2
                      clear HL2
                      refine hK.out _ _ (fun _ => HL.out.b) (fun hS => ?_)
                      replace hS := hS (by decide)
                      clear hK K
                      try simp only [Act.put, List.setIfInBounds_toArray, List.set_cons_zero, List.set_cons_succ]
                      refine' T_take (i := 16) (v := _) rfl (by kernel_rfl) (by kernel_rfl) (by kernel_rfl) (by kernel_rfl) (fun _ _ _ h => h) (by rfl) hS ?_ ?_
                      rotate_left 1
                      · intro Wv hW
                        have l0 := cell_of_ans hW k0
                        have l1 := cell_of_ans hW k1
                        go_simp
                        first | done | with_reducible rfl
                      try simp only [Act.put, List.setIfInBounds_toArray, List.set_cons_zero, List.set_cons_succ]
                      refine T_ready (rs := [18]) (by kernel_rfl) (by simp) ?_
                      refine TReady.cons rfl (fun K hK => ?_) TReady.nil
                      have z9 := HL.out.cells
                      have z0 := z9.1
                      have z1 := z9.2.1
                      have z2 := z9.2.2.1
                      have z3 := z9.2.2.2
                      clear z9
                      try go_simp
                      have z9 := HL.out.fin (m : Int) rfl
                      have HLA := z9.1
                      have HBB := z9.2
                      clear z9
                      refine hK.out _ _ (fun _ => HBB) (fun hS => ?_)
                      clear hK K hS
                      try simp only [Act.put, List.setIfInBounds_toArray, List.set_cons_zero, List.set_cons_succ]
                      refine T_done (by kernel_rfl) ?_ _
                      refine NoPanic.normal ?_
                      go_wp2_with fail
                      go_meet
                      exact ⟨_, rfl, HLA, HBB⟩
                  · try go_simp
                    replace HL := Lib.hid HL.out.allocG
                    refine hK.out _ _ (fun _ => HL.out.b) (fun hS => ?_)
                    replace hS := hS (by decide)
                    clear hK K
                    try simp only [Act.put, List.setIfInBounds_toArray, List.set_cons_zero, List.set_cons_succ]
                    generalize hwv10 : (wv2).alloc (.cells #[.int .i64 0, .slice none 0 0] 24) = wv10 at *
                    generalize hwq10 : (wv2).heap.size = wq10 at *
                    clear hwv10 hwq10
                    refine T_ready (rs := [14]) (by kernel_rfl) (by simp) ?_
                    refine TReady.cons rfl (fun K hK => ?_) TReady.nil
                    try go_simp
                    replace HL := Lib.hid (HL.out.allocX ⟨fr, ba, T, n, n⟩)
                    refine hK.out _ _ (fun _ => HL.out.b) (fun hS => ?_)
                    replace hS := hS (by decide)
                    clear hK K
                    try simp only [Act.put, List.setIfInBounds_toArray, List.set_cons_zero, List.set_cons_succ]
                    generalize hwv11 : (wv10).alloc (.cells #[.int .i64 (fr), .int .i64 (ba), .int .i64 (T), .int .i64 (n), .int .i64 (n)] 56) = wv11 at *
                    generalize hwq11 : (wv10).heap.size = wq11 at *
                    clear hwv11 hwq11
                    refine T_ready (rs := [15]) (by kernel_rfl) (by simp) ?_
                    refine TReady.cons rfl (fun K hK => ?_) TReady.nil
                    refine step_words (.tmp 79) (.tmp 88) rfl rfl wr _ _ ws [⟨fr, ba, (T : Int), (n : Int), (n : Int)⟩] zs _ _ (some ⟨wq11, 0, none⟩) 1 1 rfl HZS.out rfl rfl HL HL.out.src (by omega) (by simp) ?_
                    intro Aw12 cw12 wv12 HL2
                    clear HL
                    have HL := HL2
                    clear HL2
                    refine hK.out _ _ (fun _ => HL.out.b) (fun hS => ?_)
                    replace hS := hS (by decide)
                    clear hK K
                    try simp only [Act.put, List.setIfInBounds_toArray, List.set_cons_zero, List.set_cons_succ]
                    refine' T_take (i := 16) (v := _) rfl (by kernel_rfl) (by kernel_rfl) (by kernel_rfl) (by kernel_rfl) (fun _ _ _ h => h) (by rfl) hS ?_ ?_
                    rotate_left 1
                    · intro Wv hW
                      have l0 := cell_of_ans hW k0
                      have l1 := cell_of_ans hW k1
                      go_simp
                      first | done | with_reducible rfl
                    try simp only [Act.put, List.setIfInBounds_toArray, List.set_cons_zero, List.set_cons_succ]
                    refine T_ready (rs := [18]) (by kernel_rfl) (by simp) ?_
                    refine TReady.cons rfl (fun K hK => ?_) TReady.nil
                    have z9 := HL.out.cells
                    have z0 := z9.1
                    have z1 := z9.2.1
                    have z2 := z9.2.2.1
                    have z3 := z9.2.2.2
                    clear z9
                    try go_simp
                    have z9 := HL.out.fin (m : Int) rfl
                    have HLA := z9.1
                    have HBB := z9.2
                    clear z9
                    refine hK.out _ _ (fun _ => HBB) (fun hS => ?_)
                    clear hK K hS
                    try simp only [Act.put, List.setIfInBounds_toArray, List.set_cons_zero, List.set_cons_succ]
                    refine T_done (by kernel_rfl) ?_ _
                    refine NoPanic.normal ?_
                    go_wp2_with fail
                    go_meet
                    exact ⟨_, rfl, HLA, HBB⟩
                · try go_simp
                  replace HL := Lib.hid (HL.out.allocX ⟨fr, ba, T, n, n⟩)
                  refine hK.out _ _ (fun _ => HL.out.b) (fun hS => ?_)
                  replace hS := hS (by decide)
                  clear hK K
                  try simp only [Act.put, List.setIfInBounds_toArray, List.set_cons_zero, List.set_cons_succ]
                  generalize hwv14 : (wv1).alloc (.cells #[.int .i64 (fr), .int .i64 (ba), .int .i64 (T), .int .i64 (n), .int .i64 (n)] 56) = wv14 at *
                  generalize hwq14 : (wv1).heap.size = wq14 at *
                  clear hwv14 hwq14
                  refine T_ready (rs := [5, 17]) (by kernel_rfl) (by simp) ?_
                  refine TReady.cons rfl (fun K hK => ?_) (TReady.cons rfl (fun K hK => ?_) TReady.nil)
                  · refine step_words (.tmp 76) (.tmp 78) rfl rfl wr _ _ [] ws ws _ _ A ws.length c rfl rfl rfl rfl HL (Wds.src (HW.out.step HL.out.b)) (by decide) (by omega) ?_
                    intro Aw15 cw15 wv15 HL2
                    clear HL
                    have HL := HL2
                    clear HL2
                    refine hK.out _ _ (fun _ => HL.out.b) (fun hS => ?_)
                    replace hS := hS (by decide)
                    clear hK K
                    try simp only [Act.put, List.setIfInBounds_toArray, List.set_cons_zero, List.set_cons_succ]
                    refine T_ready (rs := [15, 17]) (by kernel_rfl) (by simp) ?_
                    refine TReady.cons rfl (fun K hK => ?_) (TReady.cons rfl (fun K hK => ?_) TReady.nil)
                    · refine step_words (.tmp 79) (.tmp 88) rfl rfl wr _ _ ws [⟨fr, ba, (T : Int), (n : Int), (n : Int)⟩] zs _ _ (some ⟨wq14, 0, none⟩) 1 1 rfl HZS.out rfl rfl HL HL.out.src (by omega) (by simp) ?_
                      intro Aw16 cw16 wv16 HL2
                      clear HL
                      have HL := HL2
                      clear HL2
                      refine hK.out _ _ (fun _ => HL.out.b) (fun hS => ?_)
                      replace hS := hS (by decide)
                      clear hK K
                      try simp only [Act.put, List.setIfInBounds_toArray, List.set_cons_zero, List.set_cons_succ]
                      refine' T_take (i := 16) (v := _) rfl (by kernel_rfl) (by kernel_rfl) (by kernel_rfl) (by kernel_rfl) (fun _ _ _ h => h) (by rfl) hS ?_ ?_
                      rotate_left 1
                      · intro Wv hW
                        have l0 := cell_of_ans hW k0
                        have l1 := cell_of_ans hW k1
                        go_simp
                        first | done | with_reducible rfl
                      try simp only [Act.put, List.setIfInBounds_toArray, List.set_cons_zero, List.set_cons_succ]
                      refine T_ready (rs := [17]) (by kernel_rfl) (by simp) ?_
                      refine TReady.cons rfl (fun K hK => ?_) TReady.nil
                      try go_simp
                      replace HL := Lib.hid HL.out.allocG
                      refine hK.out _ _ (fun _ => HL.out.b) (fun hS => ?_)
                      replace hS := hS (by decide)
                      clear hK K
                      try simp only [Act.put, List.setIfInBounds_toArray, List.set_cons_zero, List.set_cons_succ]
                      generalize hwv17 : (wv16).alloc (.cells #[.int .i64 0, .slice none 0 0] 24) = wv17 at *
                      generalize hwq17 : (wv16).heap.size = wq17 at *
                      clear hwv17 hwq17
                      refine T_ready (rs := [18]) (by kernel_rfl) (by simp) ?_
                      refine TReady.cons rfl (fun K hK => ?_) TReady.nil
                      have z9 := HL.out.cells
                      have z0 := z9.1
                      have z1 := z9.2.1
                      have z2 := z9.2.2.1
                      have z3 := z9.2.2.2
                      clear z9
                      try go_simp
                      have z9 := HL.out.fin (m : Int) rfl
                      have HLA := z9.1
                      have HBB := z9.2
                      clear z9
                      refine hK.out _ _ (fun _ => HBB) (fun hS => ?_)
                      clear hK K hS
                      try simp only [Act.put, List.setIfInBounds_toArray, List.set_cons_zero, List.set_cons_succ]
                      refine T_done (by kernel_rfl) ?_ _
                      refine NoPanic.normal ?_
                      go_wp2_with fail
                      go_meet
                      exact ⟨_, rfl, HLA, HBB⟩
                    · try go_simp
                      replace HL := Lib.hid HL.out.allocG
                      refine hK.out _ _ (fun _ => HL.out.b) (fun hS => ?_)
                      replace hS := hS (by decide)
                      clear hK K
                      try simp only [Act.put, List.setIfInBounds_toArray, List.set_cons_zero, List.set_cons_succ]
                      generalize hwv19 : (wv15).alloc (.cells #[.int .i64 0, .slice none 0 0] 24) = wv19 at *
                      generalize hwq19 : (wv15).heap.size = wq19 at *
                      clear hwv19 hwq19
                      refine T_ready (rs := [15]) (by kernel_rfl) (by simp) ?_
                      refine TReady.cons rfl (fun K hK => ?_) TReady.nil
                      refine step_words (.tmp 79) (.tmp 88) rfl rfl wr _ _ ws [⟨fr, ba, (T : Int), (n : Int), (n : Int)⟩] zs _ _ (some ⟨wq14, 0, none⟩) 1 1 rfl HZS.out rfl rfl HL HL.out.src (by omega) (by simp) ?_
                      intro Aw20 cw20 wv20 HL2
                      clear HL
                      have HL := HL2
                      clear HL2
                      refine hK.out _ _ (fun _ => HL.out.b) (fun hS => ?_)
                      replace hS := hS (by decide)
                      clear hK K
                      try simp only [Act.put, List.setIfInBounds_toArray, List.set_cons_zero, List.set_cons_succ]
                      refine' T_take (i := 16) (v := _) rfl (by kernel_rfl) (by kernel_rfl) (by kernel_rfl) (by kernel_rfl) (fun _ _ _ h => h) (by rfl) hS ?_ ?_
                      rotate_left 1
                      · intro Wv hW
                        have l0 := cell_of_ans hW k0
                        have l1 := cell_of_ans hW k1
                        go_simp
                        first | done | with_reducible rfl
                      try simp only [Act.put, List.setIfInBounds_toArray, List.set_cons_zero, List.set_cons_succ]
                      refine T_ready (rs := [18]) (by kernel_rfl) (by simp) ?_
                      refine TReady.cons rfl (fun K hK => ?_) TReady.nil
                      have z9 := HL.out.cells
                      have z0 := z9.1
                      have z1 := z9.2.1
                      have z2 := z9.2.2.1
                      have z3 := z9.2.2.2
                      clear z9
                      try go_simp
                      have z9 := HL.out.fin (m : Int) rfl
                      have HLA := z9.1
                      have HBB := z9.2
                      clear z9
                      refine hK.out _ _ (fun _ => HBB) (fun hS => ?_)
                      clear hK K hS
                      try simp only [Act.put, List.setIfInBounds_toArray, List.set_cons_zero, List.set_cons_succ]
                      refine T_done (by kernel_rfl) ?_ _
                      refine NoPanic.normal ?_
                      go_wp2_with fail
                      go_meet
                      exact ⟨_, rfl, HLA, HBB⟩
                  · try go_simp
                    replace HL := Lib.hid HL.out.allocG
                    refine hK.out _ _ (fun _ => HL.out.b) (fun hS => ?_)
                    replace hS := hS (by decide)
                    clear hK K
                    try simp only [Act.put, List.setIfInBounds_toArray, List.set_cons_zero, List.set_cons_succ]
                    generalize hwv22 : (wv14).alloc (.cells #[.int .i64 0, .slice none 0 0] 24) = wv22 at *
                    generalize hwq22 : (wv14).heap.size = wq22 at *
                    clear hwv22 hwq22
                    refine T_ready (rs := [5]) (by kernel_rfl) (by simp) ?_
                    refine TReady.cons rfl (fun K hK => ?_) TReady.nil
                    refine step_words (.tmp 76) (.tmp 78) rfl rfl wr _ _ [] ws ws _ _ A ws.length c rfl rfl rfl rfl HL (Wds.src (HW.out.step HL.out.b)) (by decide) (by omega) ?_
                    intro Aw23 cw23 wv23 HL2
                    clear HL
                    have HL := HL2
                    clear HL2
                    refine hK.out _ _ (fun _ => HL.out.b) (fun hS => ?_)
                    replace hS := hS (by decide)
                    clear hK K
                    try simp only [Act.put, List.setIfInBounds_toArray, List.set_cons_zero, List.set_cons_succ]
                    refine T_ready (rs := [15]) (by kernel_rfl) (by simp) ?_
                    refine TReady.cons rfl (fun K hK => ?_) TReady.nil
                    refine step_words (.tmp 79) (.tmp 88) rfl rfl wr _ _ ws [⟨fr, ba, (T : Int), (n : Int), (n : Int)⟩] zs _ _ (some ⟨wq14, 0, none⟩) 1 1 rfl HZS.out rfl rfl HL HL.out.src (by omega) (by simp) ?_
                    intro Aw24 cw24 wv24 HL2
                    clear HL
                    have HL := HL2
                    clear HL2
                    refine hK.out _ _ (fun _ => HL.out.b) (fun hS => ?_)
                    replace hS := hS (by decide)
                    clear hK K
                    try simp only [Act.put, List.setIfInBounds_toArray, List.set_cons_zero, List.set_cons_succ]
                    refine' T_take (i := 16) (v := _) rfl (by kernel_rfl) (by kernel_rfl) (by kernel_rfl) (by kernel_rfl) (fun _ _ _ h => h) (by rfl) hS ?_ ?_
                    rotate_left 1
                    · intro Wv hW
                      have l0 := cell_of_ans hW k0
                      have l1 := cell_of_ans hW k1
                      go_simp
                      first | done | with_reducible rfl
                    try simp only [Act.put, List.setIfInBounds_toArray, List.set_cons_zero, List.set_cons_succ]
                    refine T_ready (rs := [18]) (by kernel_rfl) (by simp) ?_
                    refine TReady.cons rfl (fun K hK => ?_) TReady.nil
                    have z9 := HL.out.cells
                    have z0 := z9.1
                    have z1 := z9.2.1
                    have z2 := z9.2.2.1
                    have z3 := z9.2.2.2
                    clear z9
                    try go_simp
                    have z9 := HL.out.fin (m : Int) rfl
                    have HLA := z9.1
                    have HBB := z9.2
                    clear z9
                    refine hK.out _ _ (fun _ => HBB) (fun hS => ?_)
                    clear hK K hS
                    try simp only [Act.put, List.setIfInBounds_toArray, List.set_cons_zero, List.set_cons_succ]
                    refine T_done (by kernel_rfl) ?_ _
                    refine NoPanic.normal ?_
                    go_wp2_with fail
                    go_meet
                    exact ⟨_, rfl, HLA, HBB⟩
                · try go_simp
                  replace HL := Lib.hid HL.out.allocG
                  refine hK.out _ _ (fun _ => HL.out.b) (fun hS => ?_)
                  replace hS := hS (by decide)
                  clear hK K
                  try simp only [Act.put, List.setIfInBounds_toArray, List.set_cons_zero, List.set_cons_succ]
                  generalize hwv26 : (wv1).alloc (.cells #[.int .i64 0, .slice none 0 0] 24) = wv26 at *
                  generalize hwq26 : (wv1).heap.size = wq26 at *
                  clear hwv26 hwq26
                  refine T_ready (rs := [5, 14]) (by kernel_rfl) (by simp) ?_
                  refine TReady.cons rfl (fun K hK => ?_) (TReady.cons rfl (fun K hK => ?_) TReady.nil)
                  · refine step_words (.tmp 76) (.tmp 78) rfl rfl wr _ _ [] ws ws _ _ A ws.length c rfl rfl rfl rfl HL (Wds.src (HW.out.step HL.out.b)) (by decide) (by omega) ?_
                    intro Aw27 cw27 wv27 HL2
                    clear HL
                    have HL := HL2
                    clear HL2
                    refine hK.out _ _ (fun _ => HL.out.b) (fun hS => ?_)
                    replace hS := hS (by decide)
                    clear hK K
                    try simp only [Act.put, List.setIfInBounds_toArray, List.set_cons_zero, List.set_cons_succ]
                    refine T_ready (rs := [14]) (by kernel_rfl) (by simp) ?_
                    refine TReady.cons rfl (fun K hK => ?_) TReady.nil
                    try go_simp
                    replace HL := Lib.hid (HL.out.allocX ⟨fr, ba, T, n, n⟩)
                    refine hK.out _ _ (fun _ => HL.out.b) (fun hS => ?_)
                    replace hS := hS (by decide)
                    clear hK K
                    try simp only [Act.put, List.setIfInBounds_toArray, List.set_cons_zero, List.set_cons_succ]
                    generalize hwv28 : (wv27).alloc (.cells #[.int .i64 (fr), .int .i64 (ba), .int .i64 (T), .int .i64 (n), .int .i64 (n)] 56) = wv28 at *
                    generalize hwq28 : (wv27).heap.size = wq28 at *
                    clear hwv28 hwq28
                    refine T_ready (rs := [15]) (by kernel_rfl) (by simp) ?_
                    refine TReady.cons rfl (fun K hK => ?_) TReady.nil
                    refine step_words (.tmp 79) (.tmp 88) rfl rfl wr _ _ ws [⟨fr, ba, (T : Int), (n : Int), (n : Int)⟩] zs _ _ (some ⟨wq28, 0, none⟩) 1 1 rfl HZS.out rfl rfl HL HL.out.src (by omega) (by simp) ?_
                    intro Aw29 cw29 wv29 HL2
                    clear HL
                    have HL := HL2
                    clear HL2
                    refine hK.out _ _ (fun _ => HL.out.b) (fun hS => ?_)
                    replace hS := hS (by decide)
                    clear hK K
                    try simp only [Act.put, List.setIfInBounds_toArray, List.set_cons_zero, List.set_cons_succ]
                    refine' T_take (i := 16) (v := _) rfl (by kernel_rfl) (by kernel_rfl) (by kernel_rfl) (by kernel_rfl) (fun _ _ _ h => h) (by rfl) hS ?_ ?_
                    rotate_left 1
                    · intro Wv hW
                      have l0 := cell_of_ans hW k0
                      have l1 := cell_of_ans hW k1
                      go_simp
                      first | done | with_reducible rfl
                    try simp only [Act.put, List.setIfInBounds_toArray, List.set_cons_zero, List.set_cons_succ]
                    refine T_ready (rs := [18]) (by kernel_rfl) (by simp) ?_
                    refine TReady.cons rfl (fun K hK => ?_) TReady.nil
                    have z9 := HL.out.cells
                    have z0 := z9.1
                    have z1 := z9.2.1
                    have z2 := z9.2.2.1
                    have z3 := z9.2.2.2
                    clear z9
                    try go_simp
                    have z9 := HL.out.fin (m : Int) rfl
                    have HLA := z9.1
                    have HBB := z9.2
                    clear z9
                    refine hK.out _ _ (fun _ => HBB) (fun hS => ?_)
                    clear hK K hS
                    try simp only [Act.put, List.setIfInBounds_toArray, List.set_cons_zero, List.set_cons_succ]
                    refine T_done (by kernel_rfl) ?_ _
                    refine NoPanic.normal ?_
                    go_wp2_with fail
                    go_meet
                    exact ⟨_, rfl, HLA, HBB⟩
                  · try go_simp
                    replace HL := Lib.hid (HL.out.allocX ⟨fr, ba, T, n, n⟩)
                    refine hK.out _ _ (fun _ => HL.out.b) (fun hS => ?_)
                    replace hS := hS (by decide)
                    clear hK K
                    try simp only [Act.put, List.setIfInBounds_toArray, List.set_cons_zero, List.set_cons_succ]
                    generalize hwv31 : (wv26).alloc (.cells #[.int .i64 (fr), .int .i64 (ba), .int .i64 (T), .int .i64 (n), .int .i64 (n)] 56) = wv31 at *
                    generalize hwq31 : (wv26).heap.size = wq31 at *
                    clear hwv31 hwq31
                    refine T_ready (rs := [5]) (by kernel_rfl) (by simp) ?_
                    refine TReady.cons rfl (fun K hK => ?_) TReady.nil
                    refine step_words (.tmp 76) (.tmp 78) rfl rfl wr _ _ [] ws ws _ _ A ws.length c rfl rfl rfl rfl HL (Wds.src (HW.out.step HL.out.b)) (by decide) (by omega) ?_
                    intro Aw32 cw32 wv32 HL2
                    clear HL
                    have HL := HL2
                    clear HL2
                    refine hK.out _ _ (fun _ => HL.out.b) (fun hS => ?_)
                    replace hS := hS (by decide)
                    clear hK K
                    try simp only [Act.put, List.setIfInBounds_toArray, List.set_cons_zero, List.set_cons_succ]
                    refine T_ready (rs := [15]) (by kernel_rfl) (by simp) ?_
                    refine TReady.cons rfl (fun K hK => ?_) TReady.nil
                    refine step_words (.tmp 79) (.tmp 88) rfl rfl wr _ _ ws [⟨fr, ba, (T : Int), (n : Int), (n : Int)⟩] zs _ _ (some ⟨wq31, 0, none⟩) 1 1 rfl HZS.out rfl rfl HL HL.out.src (by omega) (by simp) ?_
                    intro Aw33 cw33 wv33 HL2
                    clear HL
                    have HL := HL2
                    clear HL2
                    refine hK.out _ _ (fun _ => HL.out.b) (fun hS => ?_)
                    replace hS := hS (by decide)
                    clear hK K
                    try simp only [Act.put, List.setIfInBounds_toArray, List.set_cons_zero, List.set_cons_succ]
                    refine' T_take (i := 16) (v := _) rfl (by kernel_rfl) (by kernel_rfl) (by kernel_rfl) (by kernel_rfl) (fun _ _ _ h => h) (by rfl) hS ?_ ?_
                    rotate_left 1
                    · intro Wv hW
                      have l0 := cell_of_ans hW k0
                      have l1 := cell_of_ans hW k1
                      go_simp
                      first | done | with_reducible rfl
                    try simp only [Act.put, List.setIfInBounds_toArray, List.set_cons_zero, List.set_cons_succ]
                    refine T_ready (rs := [18]) (by kernel_rfl) (by simp) ?_
                    refine TReady.cons rfl (fun K hK => ?_) TReady.nil
                    have z9 := HL.out.cells
                    have z0 := z9.1
                    have z1 := z9.2.1
                    have z2 := z9.2.2.1
                    have z3 := z9.2.2.2
                    clear z9
                    try go_simp
                    have z9 := HL.out.fin (m : Int) rfl
                    have HLA := z9.1
                    have HBB := z9.2
                    clear z9
                    refine hK.out _ _ (fun _ => HBB) (fun hS => ?_)
                    clear hK K hS
                    try simp only [Act.put, List.setIfInBounds_toArray, List.set_cons_zero, List.set_cons_succ]
                    refine T_done (by kernel_rfl) ?_ _
                    refine NoPanic.normal ?_
                    go_wp2_with fail
                    go_meet
                    exact ⟨_, rfl, HLA, HBB⟩
              · try go_simp
                replace HL := Lib.hid (HL.out.allocX ⟨fr, ba, T, n, n⟩)
                refine hK.out _ _ (fun _ => HL.out.b) (fun hS => ?_)
                replace hS := hS (by decide)
                clear hK K
                try simp only [Act.put, List.setIfInBounds_toArray, List.set_cons_zero, List.set_cons_succ]
                generalize hwv35 : (wv0).alloc (.cells #[.int .i64 (fr), .int .i64 (ba), .int .i64 (T), .int .i64 (n), .int .i64 (n)] 56) = wv35 at *
                generalize hwq35 : (wv0).heap.size = wq35 at *
                clear hwv35 hwq35
                refine T_ready (rs := [2, 17]) (by kernel_rfl) (by simp) ?_
                refine TReady.cons rfl (fun K hK => ?_) (TReady.cons rfl (fun K hK => ?_) TReady.nil)
                · try go_simp
                  replace HL := Lib.hid HL.out.allocE
                  refine hK.out _ _ (fun _ => HL.out.b) (fun hS => ?_)
                  replace hS := hS (by decide)
                  clear hK K
                  try simp only [Act.put, List.setIfInBounds_toArray, List.set_cons_zero, List.set_cons_succ]
                  generalize hwv36 : (wv35).alloc (.cells #[] 56) = wv36 at *
                  generalize hwq36 : (wv35).heap.size = wq36 at *
                  clear hwv36 hwq36
                  refine T_ready (rs := [5, 17]) (by kernel_rfl) (by simp) ?_
                  refine TReady.cons rfl (fun K hK => ?_) (TReady.cons rfl (fun K hK => ?_) TReady.nil)
                  · refine step_words (.tmp 76) (.tmp 78) rfl rfl wr _ _ [] ws ws _ _ A ws.length c rfl rfl rfl rfl HL (Wds.src (HW.out.step HL.out.b)) (by decide) (by omega) ?_
                    intro Aw37 cw37 wv37 HL2
                    clear HL
                    have HL := HL2
                    clear HL2
                    refine hK.out _ _ (fun _ => HL.out.b) (fun hS => ?_)
                    replace hS := hS (by decide)
                    clear hK K
                    try simp only [Act.put, List.setIfInBounds_toArray, List.set_cons_zero, List.set_cons_succ]
                    refine T_ready (rs := [15, 17]) (by kernel_rfl) (by simp) ?_
                    refine TReady.cons rfl (fun K hK => ?_) (TReady.cons rfl (fun K hK => ?_) TReady.nil)
                    · refine step_words (.tmp 79) (.tmp 88) rfl rfl wr _ _ ws [⟨fr, ba, (T : Int), (n : Int), (n : Int)⟩] zs _ _ (some ⟨wq35, 0, none⟩) 1 1 rfl HZS.out rfl rfl HL HL.out.src (by omega) (by simp) ?_
                      intro Aw38 cw38 wv38 HL2
                      clear HL
                      have HL := HL2
                      clear HL2
                      refine hK.out _ _ (fun _ => HL.out.b) (fun hS => ?_)
                      replace hS := hS (by decide)
                      clear hK K
                      try simp only [Act.put, List.setIfInBounds_toArray, List.set_cons_zero, List.set_cons_succ]
                      refine' T_take (i := 16) (v := _) rfl (by kernel_rfl) (by kernel_rfl) (by kernel_rfl) (by kernel_rfl) (fun _ _ _ h => h) (by rfl) hS ?_ ?_
                      rotate_left 1
                      · intro Wv hW
                        have l0 := cell_of_ans hW k0
                        have l1 := cell_of_ans hW k1
                        go_simp
                        first | done | with_reducible rfl
                      try simp only [Act.put, List.setIfInBounds_toArray, List.set_cons_zero, List.set_cons_succ]
                      refine T_ready (rs := [17]) (by kernel_rfl) (by simp) ?_
                      refine TReady.cons rfl (fun K hK => ?_) TReady.nil
                      try go_simp
                      replace HL := Lib.hid HL.out.allocG
                      refine hK.out _ _ (fun _ => HL.out.b) (fun hS => ?_)
                      replace hS := hS (by decide)
                      clear hK K
                      try simp only [Act.put, List.setIfInBounds_toArray, List.set_cons_zero, List.set_cons_succ]
                      generalize hwv39 : (wv38).alloc (.cells #[.int .i64 0, .slice none 0 0] 24) = wv39 at *
                      generalize hwq39 : (wv38).heap.size = wq39 at *
                      clear hwv39 hwq39
                      refine T_ready (rs := [18]) (by kernel_rfl) (by simp) ?_
                      refine TReady.cons rfl (fun K hK => ?_) TReady.nil
                      have z9 := HL.out.cells
                      have z0 := z9.1
                      have z1 := z9.2.1
                      have z2 := z9.2.2.1
                      have z3 := z9.2.2.2
                      clear z9
                      try go_simp
                      have z9 := HL.out.fin (m : Int) rfl
                      have HLA := z9.1
                      have HBB := z9.2
                      clear z9
                      refine hK.out _ _ (fun _ => HBB) (fun hS => ?_)
                      clear hK K hS
                      try simp only [Act.put, List.setIfInBounds_toArray, List.set_cons_zero, List.set_cons_succ]
                      refine T_done (by kernel_rfl) ?_ _
                      refine NoPanic.normal ?_
                      go_wp2_with fail
                      go_meet
                      exact ⟨_, rfl, HLA, HBB⟩
                    · try go_simp
                      replace HL := Lib.hid HL.out.allocG
                      refine hK.out _ _ (fun _ => HL.out.b) (fun hS => ?_)
                      replace hS := hS (by decide)
                      clear hK K
                      try simp only [Act.put, List.setIfInBounds_toArray, List.set_cons_zero, List.set_cons_succ]
                      generalize hwv41 : (wv37).alloc (.cells #[.int .i64 0, .slice none 0 0] 24) = wv41 at *
                      generalize hwq41 : (wv37).heap.size = wq41 at *
                      clear hwv41 hwq41
                      refine T_ready (rs := [15]) (by kernel_rfl) (by simp) ?_
                      refine TReady.cons rfl (fun K hK => ?_) TReady.nil
                      refine step_words (.tmp 79) (.tmp 88) rfl rfl wr _ _ ws [⟨fr, ba, (T : Int), (n : Int), (n : Int)⟩] zs _ _ (some ⟨wq35, 0, none⟩) 1 1 rfl HZS.out rfl rfl HL HL.out.src (by omega) (by simp) ?_
                      intro Aw42 cw42 wv42 HL2
                      clear HL
                      have HL := HL2
                      clear HL2
                      refine hK.out _ _ (fun _ => HL.out.b) (fun hS => ?_)
                      replace hS := hS (by decide)
                      clear hK K
                      try simp only [Act.put, List.setIfInBounds_toArray, List.set_cons_zero, List.set_cons_succ]
                      refine' T_take (i := 16) (v := _) rfl (by kernel_rfl) (by kernel_rfl) (by kernel_rfl) (by kernel_rfl) (fun _ _ _ h => h) (by rfl) hS ?_ ?_
                      rotate_left 1
                      · intro Wv hW
                        have l0 := cell_of_ans hW k0
                        have l1 := cell_of_ans hW k1
                        go_simp
                        first | done | with_reducible rfl
                      try simp only [Act.put, List.setIfInBounds_toArray, List.set_cons_zero, List.set_cons_succ]
                      refine T_ready (rs := [18]) (by kernel_rfl) (by simp) ?_
                      refine TReady.cons rfl (fun K hK => ?_) TReady.nil
                      have z9 := HL.out.cells
                      have z0 := z9.1
                      have z1 := z9.2.1
                      have z2 := z9.2.2.1
                      have z3 := z9.2.2.2
                      clear z9
                      try go_simp
                      have z9 := HL.out.fin (m : Int) rfl
                      have HLA := z9.1
                      have HBB := z9.2
                      clear z9
                      refine hK.out _ _ (fun _ => HBB) (fun hS => ?_)
                      clear hK K hS
                      try simp only [Act.put, List.setIfInBounds_toArray, List.set_cons_zero, List.set_cons_succ]
                      refine T_done (by kernel_rfl) ?_ _
                      refine NoPanic.normal ?_
                      go_wp2_with fail
                      go_meet
                      exact ⟨_, rfl, HLA, HBB⟩
                  · try go_simp
                    replace HL := Lib.hid HL.out.allocG
                    refine hK.out _ _ (fun _ => HL.out.b) (fun hS => ?_)
                    replace hS := hS (by decide)
                    clear hK K
                    try simp only [Act.put, List.setIfInBounds_toArray, List.set_cons_zero, List.set_cons_succ]
                    generalize hwv44 : (wv36).alloc (.cells #[.int .i64 0, .slice none 0 0] 24) = wv44 at *
                    generalize hwq44 : (wv36).heap.size = wq44 at *
                    clear hwv44 hwq44
                    refine T_ready (rs := [5]) (by kernel_rfl) (by simp) ?_
                    refine TReady.cons rfl (fun K hK => ?_) TReady.nil
                    refine step_words (.tmp 76) (.tmp 78) rfl rfl wr _ _ [] ws ws _ _ A ws.length c rfl rfl rfl rfl HL (Wds.src (HW.out.step HL.out.b)) (by decide) (by omega) ?_
                    intro Aw45 cw45 wv45 HL2
                    clear HL
                    have HL := HL2
                    clear HL2
                    refine hK.out _ _ (fun _ => HL.out.b) (fun hS => ?_)
                    replace hS := hS (by decide)
                    clear hK K
                    try simp only [Act.put, List.setIfInBounds_toArray, List.set_cons_zero, List.set_cons_succ]
                    refine T_ready (rs := [15]) (by kernel_rfl) (by simp) ?_
                    refine TReady.cons rfl (fun K hK => ?_) TReady.nil
                    refine step_words (.tmp 79) (.tmp 88) rfl rfl wr _ _ ws [⟨fr, ba, (T : Int), (n : Int), (n : Int)⟩] zs _ _ (some ⟨wq35, 0, none⟩) 1 1 rfl HZS.out rfl rfl HL HL.out.src (by omega) (by simp) ?_
                    intro Aw46 cw46 wv46 HL2
                    clear HL
                    have HL := HL2
                    clear HL2
                    refine hK.out _ _ (fun _ => HL.out.b) (fun hS => ?_)
                    replace hS := hS (by decide)
                    clear hK K
                    try simp only [Act.put, List.setIfInBounds_toArray, List.set_cons_zero, List.set_cons_succ]
                    refine' T_take (i := 16) (v := _) rfl (by kernel_rfl) (by kernel_rfl) (by kernel_rfl) (by kernel_rfl) (fun _ _ _ h => h) (by rfl) hS ?_ ?_
                    rotate_left 1
                    · intro Wv hW
                      have l0 := cell_of_ans hW k0
                      have l1 := cell_of_ans hW k1
                      go_simp
                      first | done | with_reducible rfl
                    try simp only [Act.put, List.setIfInBounds_toArray, List.set_cons_zero, List.set_cons_succ]
                    refine T_ready (rs := [18]) (by kernel_rfl) (by simp) ?_
                    refine TReady.cons rfl (fun K hK => ?_) TReady.nil
                    have z9 := HL.out.cells
                    have z0 := z9.1
                    have z1 := z9.2.1
                    have z2 := z9.2.2.1
                    have z3 := z9.2.2.2
                    clear z9
                    try go_simp
                    have z9 := HL.out.fin (m : Int) rfl
                    have HLA := z9.1
                    have HBB := z9.2
                    clear z9
                    refine hK.out _ _ (fun _ => HBB) (fun hS => ?_)
                    clear hK K hS
                    try simp only [Act.put, List.setIfInBounds_toArray, List.set_cons_zero, List.set_cons_succ]
                    refine T_done (by kernel_rfl) ?_ _
                    refine NoPanic.normal ?_
                    go_wp2_with fail
                    go_meet
                    exact ⟨_, rfl, HLA, HBB⟩
                · try go_simp
                  replace HL := Lib.hid HL.out.allocG
                  refine hK.out _ _ (fun _ => HL.out.b) (fun hS => ?_)
                  replace hS := hS (by decide)
                  clear hK K
                  try simp only [Act.put, List.setIfInBounds_toArray, List.set_cons_zero, List.set_cons_succ]
                  generalize hwv48 : (wv35).alloc (.cells #[.int .i64 0, .slice none 0 0] 24) = wv48 at *
                  generalize hwq48 : (wv35).heap.size = wq48 at *
                  clear hwv48 hwq48
                  refine T_ready (rs := [2]) (by kernel_rfl) (by simp) ?_
                  refine TReady.cons rfl (fun K hK => ?_) TReady.nil
                  try go_simp
                  replace HL := Lib.hid HL.out.allocE
                  refine hK.out _ _ (fun _ => HL.out.b) (fun hS => ?_)
                  replace hS := hS (by decide)
                  clear hK K
                  try simp only [Act.put, List.setIfInBounds_toArray, List.set_cons_zero, List.set_cons_succ]
                  generalize hwv49 : (wv48).alloc (.cells #[] 56) = wv49 at *
                  generalize hwq49 : (wv48).heap.size = wq49 at *
                  clear hwv49 hwq49
                  refine T_ready (rs := [5]) (by kernel_rfl) (by simp) ?_
                  refine TReady.cons rfl (fun K hK => ?_) TReady.nil
                  refine step_words (.tmp 76) (.tmp 78) rfl rfl wr _ _ [] ws ws _ _ A ws.length c rfl rfl rfl rfl HL (Wds.src (HW.out.step HL.out.b)) (by decide) (by omega) ?_
                  intro Aw50 cw50 wv50 HL2
                  clear HL
                  have HL := HL2
                  clear HL2
                  refine hK.out _ _ (fun _ => HL.out.b) (fun hS => ?_)
                  replace hS := hS (by decide)
                  clear hK K
                  try simp only [Act.put, List.setIfInBounds_toArray, List.set_cons_zero, List.set_cons_succ]
                  refine T_ready (rs := [15]) (by kernel_rfl) (by simp) ?_
                  refine TReady.cons rfl (fun K hK => ?_) TReady.nil
                  refine step_words (.tmp 79) (.tmp 88) rfl rfl wr _ _ ws [⟨fr, ba, (T : Int), (n : Int), (n : Int)⟩] zs _ _ (some ⟨wq35, 0, none⟩) 1 1 rfl HZS.out rfl rfl HL HL.out.src (by omega) (by simp) ?_
                  intro Aw51 cw51 wv51 HL2
                  clear HL
                  have HL := HL2
                  clear HL2
                  refine hK.out _ _ (fun _ => HL.out.b) (fun hS => ?_)
                  replace hS := hS (by decide)
                  clear hK K
                  try simp only [Act.put, List.setIfInBounds_toArray, List.set_cons_zero, List.set_cons_succ]
                  refine' T_take (i := 16) (v := _) rfl (by kernel_rfl) (by kernel_rfl) (by kernel_rfl) (by kernel_rfl) (fun _ _ _ h => h) (by rfl) hS ?_ ?_
                  rotate_left 1
                  · intro Wv hW
                    have l0 := cell_of_ans hW k0
                    have l1 := cell_of_ans hW k1
                    go_simp
                    first | done | with_reducible rfl
                  try simp only [Act.put, List.setIfInBounds_toArray, List.set_cons_zero, List.set_cons_succ]
                  refine T_ready (rs := [18]) (by kernel_rfl) (by simp) ?_
                  refine TReady.cons rfl (fun K hK => ?_) TReady.nil
                  have z9 := HL.out.cells
                  have z0 := z9.1
                  have z1 := z9.2.1
                  have z2 := z9.2.2.1
                  have z3 := z9.2.2.2
                  clear z9
                  try go_simp
                  have z9 := HL.out.fin (m : Int) rfl
                  have HLA := z9.1
                  have HBB := z9.2
                  clear z9
                  refine hK.out _ _ (fun _ => HBB) (fun hS => ?_)
                  clear hK K hS
                  try simp only [Act.put, List.setIfInBounds_toArray, List.set_cons_zero, List.set_cons_succ]
                  refine T_done (by kernel_rfl) ?_ _
                  refine NoPanic.normal ?_
                  go_wp2_with fail
                  go_meet
                  exact ⟨_, rfl, HLA, HBB⟩
              · try go_simp
                replace HL := Lib.hid HL.out.allocG
                refine hK.out _ _ (fun _ => HL.out.b) (fun hS => ?_)
                replace hS := hS (by decide)
                clear hK K
                try simp only [Act.put, List.setIfInBounds_toArray, List.set_cons_zero, List.set_cons_succ]
                generalize hwv53 : (wv0).alloc (.cells #[.int .i64 0, .slice none 0 0] 24) = wv53 at *
                generalize hwq53 : (wv0).heap.size = wq53 at *
                clear hwv53 hwq53
                refine T_ready (rs := [2, 14]) (by kernel_rfl) (by simp) ?_
                refine TReady.cons rfl (fun K hK => ?_) (TReady.cons rfl (fun K hK => ?_) TReady.nil)
                · try go_simp
                  replace HL := Lib.hid HL.out.allocE
                  refine hK.out _ _ (fun _ => HL.out.b) (fun hS => ?_)
                  replace hS := hS (by decide)
                  clear hK K
                  try simp only [Act.put, List.setIfInBounds_toArray, List.set_cons_zero, List.set_cons_succ]
                  generalize hwv54 : (wv53).alloc (.cells #[] 56) = wv54 at *
                  generalize hwq54 : (wv53).heap.size = wq54 at *
                  clear hwv54 hwq54
                  refine T_ready (rs := [5, 14]) (by kernel_rfl) (by simp) ?_
                  refine TReady.cons rfl (fun K hK => ?_) (TReady.cons rfl (fun K hK => ?_) TReady.nil)
                  · refine step_words (.tmp 76) (.tmp 78) rfl rfl wr _ _ [] ws ws _ _ A ws.length c rfl rfl rfl rfl HL (Wds.src (HW.out.step HL.out.b)) (by decide) (by omega) ?_
                    intro Aw55 cw55 wv55 HL2
                    clear HL
                    have HL := HL2
                    clear HL2
                    refine hK.out _ _ (fun _ => HL.out.b) (fun hS => ?_)
                    replace hS := hS (by decide)
                    clear hK K
                    try simp only [Act.put, List.setIfInBounds_toArray, List.set_cons_zero, List.set_cons_succ]
                    refine T_ready (rs := [14]) (by kernel_rfl) (by simp) ?_
                    refine TReady.cons rfl (fun K hK => ?_) TReady.nil
                    try go_simp
                    replace HL := Lib.hid (HL.out.allocX ⟨fr, ba, T, n, n⟩)
                    refine hK.out _ _ (fun _ => HL.out.b) (fun hS => ?_)
                    replace hS := hS (by decide)
                    clear hK K
                    try simp only [Act.put, List.setIfInBounds_toArray, List.set_cons_zero, List.set_cons_succ]
                    generalize hwv56 : (wv55).alloc (.cells #[.int .i64 (fr), .int .i64 (ba), .int .i64 (T), .int .i64 (n), .int .i64 (n)] 56) = wv56 at *
                    generalize hwq56 : (wv55).heap.size = wq56 at *
                    clear hwv56 hwq56
                    refine T_ready (rs := [15]) (by kernel_rfl) (by simp) ?_
                    refine TReady.cons rfl (fun K hK => ?_) TReady.nil
                    refine step_words (.tmp 79) (.tmp 88) rfl rfl wr _ _ ws [⟨fr, ba, (T : Int), (n : Int), (n : Int)⟩] zs _ _ (some ⟨wq56, 0, none⟩) 1 1 rfl HZS.out rfl rfl HL HL.out.src (by omega) (by simp) ?_
                    intro Aw57 cw57 wv57 HL2
                    clear HL
                    have HL := HL2
                    clear HL2
                    refine hK.out _ _ (fun _ => HL.out.b) (fun hS => ?_)
                    replace hS := hS (by decide)
                    clear hK K
                    try simp only [Act.put, List.setIfInBounds_toArray, List.set_cons_zero, List.set_cons_succ]
                    refine' T_take (i := 16) (v := _) rfl (by kernel_rfl) (by kernel_rfl) (by kernel_rfl) (by kernel_rfl) (fun _ _ _ h => h) (by rfl) hS ?_ ?_
                    rotate_left 1
                    · intro Wv hW
                      have l0 := cell_of_ans hW k0
                      have l1 := cell_of_ans hW k1
                      go_simp
                      first | done | with_reducible rfl
                    try simp only [Act.put, List.setIfInBounds_toArray, List.set_cons_zero, List.set_cons_succ]
                    refine T_ready (rs := [18]) (by kernel_rfl) (by simp) ?_
                    refine TReady.cons rfl (fun K hK => ?_) TReady.nil
                    have z9 := HL.out.cells
                    have z0 := z9.1
                    have z1 := z9.2.1
                    have z2 := z9.2.2.1
                    have z3 := z9.2.2.2
                    clear z9
                    try go_simp
                    have z9 := HL.out.fin (m : Int) rfl
                    have HLA := z9.1
                    have HBB := z9.2
                    clear z9
                    refine hK.out _ _ (fun _ => HBB) (fun hS => ?_)
                    clear hK K hS
                    try simp only [Act.put, List.setIfInBounds_toArray, List.set_cons_zero, List.set_cons_succ]
                    refine T_done (by kernel_rfl) ?_ _
                    refine NoPanic.normal ?_
                    go_wp2_with fail
                    go_meet
                    exact ⟨_, rfl, HLA, HBB⟩
                  · try go_simp
                    replace HL := Lib.hid (HL.out.allocX ⟨fr, ba, T, n, n⟩)
                    refine hK.out _ _ (fun _ => HL.out.b) (fun hS => ?_)
                    replace hS := hS (by decide)
                    clear hK K
                    try simp only [Act.put, List.setIfInBounds_toArray, List.set_cons_zero, List.set_cons_succ]
                    generalize hwv59 : (wv54).alloc (.cells #[.int .i64 (fr), .int .i64 (ba), .int .i64 (T), .int .i64 (n), .int .i64 (n)] 56) = wv59 at *
                    generalize hwq59 : (wv54).heap.size = wq59 at *
                    clear hwv59 hwq59
                    refine T_ready (rs := [5]) (by kernel_rfl) (by simp) ?_
                    refine TReady.cons rfl (fun K hK => ?_) TReady.nil
                    refine step_words (.tmp 76) (.tmp 78) rfl rfl wr _ _ [] ws ws _ _ A ws.length c rfl rfl rfl rfl HL (Wds.src (HW.out.step HL.out.b)) (by decide) (by omega) ?_
                    intro Aw60 cw60 wv60 HL2
                    clear HL
                    have HL := HL2
                    clear HL2
                    refine hK.out _ _ (fun _ => HL.out.b) (fun hS => ?_)
                    replace hS := hS (by decide)
                    clear hK K
                    try simp only [Act.put, List.setIfInBounds_toArray, List.set_cons_zero, List.set_cons_succ]
                    refine T_ready (rs := [15]) (by kernel_rfl) (by simp) ?_
                    refine TReady.cons rfl (fun K hK => ?_) TReady.nil
                    refine step_words (.tmp 79) (.tmp 88) rfl rfl wr _ _ ws [⟨fr, ba, (T : Int), (n : Int), (n : Int)⟩] zs _ _ (some ⟨wq59, 0, none⟩) 1 1 rfl HZS.out rfl rfl HL HL.out.src (by omega) (by simp) ?_
                    intro Aw61 cw61 wv61 HL2
                    clear HL
                    have HL := HL2
                    clear HL2
                    refine hK.out _ _ (fun _ => HL.out.b) (fun hS => ?_)
                    replace hS := hS (by decide)
                    clear hK K
                    try simp only [Act.put, List.setIfInBounds_toArray, List.set_cons_zero, List.set_cons_succ]
                    refine' T_take (i := 16) (v := _) rfl (by kernel_rfl) (by kernel_rfl) (by kernel_rfl) (by kernel_rfl) (fun _ _ _ h => h) (by rfl) hS ?_ ?_
                    rotate_left 1
                    · intro Wv hW
                      have l0 := cell_of_ans hW k0
                      have l1 := cell_of_ans hW k1
                      go_simp
                      first | done | with_reducible rfl
                    try simp only [Act.put, List.setIfInBounds_toArray, List.set_cons_zero, List.set_cons_succ]
                    refine T_ready (rs := [18]) (by kernel_rfl) (by simp) ?_
                    refine TReady.cons rfl (fun K hK => ?_) TReady.nil
                    have z9 := HL.out.cells
                    have z0 := z9.1
                    have z1 := z9.2.1
                    have z2 := z9.2.2.1
                    have z3 := z9.2.2.2
                    clear z9
                    try go_simp
                    have z9 := HL.out.fin (m : Int) rfl
                    have HLA := z9.1
                    have HBB := z9.2
                    clear z9
                    refine hK.out _ _ (fun _ => HBB) (fun hS => ?_)
                    clear hK K hS
                    try simp only [Act.put, List.setIfInBounds_toArray, List.set_cons_zero, List.set_cons_succ]
                    refine T_done (by kernel_rfl) ?_ _
                    refine NoPanic.normal ?_
                    go_wp2_with fail
                    go_meet
                    exact ⟨_, rfl, HLA, HBB⟩
                · try go_simp
                  replace HL := Lib.hid (HL.out.allocX ⟨fr, ba, T, n, n⟩)
                  refine hK.out _ _ (fun _ => HL.out.b) (fun hS => ?_)
                  replace hS := hS (by decide)
                  clear hK K
                  try simp only [Act.put, List.setIfInBounds_toArray, List.set_cons_zero, List.set_cons_succ]
                  generalize hwv63 : (wv53).alloc (.cells #[.int .i64 (fr), .int .i64 (ba), .int .i64 (T), .int .i64 (n), .int .i64 (n)] 56) = wv63 at *
                  generalize hwq63 : (wv53).heap.size = wq63 at *
                  clear hwv63 hwq63
                  refine T_ready (rs := [2]) (by kernel_rfl) (by simp) ?_
                  refine TReady.cons rfl (fun K hK => ?_) TReady.nil
                  try go_simp
                  replace HL := Lib.hid HL.out.allocE
                  refine hK.out _ _ (fun _ => HL.out.b) (fun hS => ?_)
                  replace hS := hS (by decide)
                  clear hK K
                  try simp only [Act.put, List.setIfInBounds_toArray, List.set_cons_zero, List.set_cons_succ]
                  generalize hwv64 : (wv63).alloc (.cells #[] 56) = wv64 at *
                  generalize hwq64 : (wv63).heap.size = wq64 at *
                  clear hwv64 hwq64
                  refine T_ready (rs := [5]) (by kernel_rfl) (by simp) ?_
                  refine TReady.cons rfl (fun K hK => ?_) TReady.nil
                  refine step_words (.tmp 76) (.tmp 78) rfl rfl wr _ _ [] ws ws _ _ A ws.length c rfl rfl rfl rfl HL (Wds.src (HW.out.step HL.out.b)) (by decide) (by omega) ?_
                  intro Aw65 cw65 wv65 HL2
                  clear HL
                  have HL := HL2
                  clear HL2
                  refine hK.out _ _ (fun _ => HL.out.b) (fun hS => ?_)
                  replace hS := hS (by decide)
                  clear hK K
                  try simp only [Act.put, List.setIfInBounds_toArray, List.set_cons_zero, List.set_cons_succ]
                  refine T_ready (rs := [15]) (by kernel_rfl) (by simp) ?_
                  refine TReady.cons rfl (fun K hK => ?_) TReady.nil
                  refine step_words (.tmp 79) (.tmp 88) rfl rfl wr _ _ ws [⟨fr, ba, (T : Int), (n : Int), (n : Int)⟩] zs _ _ (some ⟨wq63, 0, none⟩) 1 1 rfl HZS.out rfl rfl HL HL.out.src (by omega) (by simp) ?_
                  intro Aw66 cw66 wv66 HL2
                  clear HL
                  have HL := HL2
                  clear HL2
                  refine hK.out _ _ (fun _ => HL.out.b) (fun hS => ?_)
                  replace hS := hS (by decide)
                  clear hK K
                  try simp only [Act.put, List.setIfInBounds_toArray, List.set_cons_zero, List.set_cons_succ]
                  refine' T_take (i := 16) (v := _) rfl (by kernel_rfl) (by kernel_rfl) (by kernel_rfl) (by kernel_rfl) (fun _ _ _ h => h) (by rfl) hS ?_ ?_
                  rotate_left 1
                  · intro Wv hW
                    have l0 := cell_of_ans hW k0
                    have l1 := cell_of_ans hW k1
                    go_simp
                    first | done | with_reducible rfl
                  try simp only [Act.put, List.setIfInBounds_toArray, List.set_cons_zero, List.set_cons_succ]
                  refine T_ready (rs := [18]) (by kernel_rfl) (by simp) ?_
                  refine TReady.cons rfl (fun K hK => ?_) TReady.nil
                  have z9 := HL.out.cells
                  have z0 := z9.1
                  have z1 := z9.2.1
                  have z2 := z9.2.2.1
                  have z3 := z9.2.2.2
                  clear z9
                  try go_simp
                  have z9 := HL.out.fin (m : Int) rfl
                  have HLA := z9.1
                  have HBB := z9.2
                  clear z9
                  refine hK.out _ _ (fun _ => HBB) (fun hS => ?_)
                  clear hK K hS
                  try simp only [Act.put, List.setIfInBounds_toArray, List.set_cons_zero, List.set_cons_succ]
                  refine T_done (by kernel_rfl) ?_ _
                  refine NoPanic.normal ?_
                  go_wp2_with fail
                  go_meet
                  exact ⟨_, rfl, HLA, HBB⟩
            case rest =>
              obtain ⟨gq, rfl, ⟨Az, cz, z0, z1, hcz, hz⟩, hb⟩ := hcut
              have HYC : Hid (BelE y19 wc) := HYR.out.trans (hb.mono HYR.out.size)
              have HZ := Lib.hid hz
              clear hz HYR
              replace HW := Lib.hid (HW.out.step hb)
              replace k0 := cell_of_ans hb k0
              replace k1 := cell_of_ans hb k1
              replace HCA := Lib.hid (HCA.out.step hb)
              replace HG := Lib.hid (HG.out.step hb)
              replace u0 := cell_of_ans hb u0
              replace u1 := cell_of_ans hb u1
              replace HB := Lib.hid (HB.out.trans (hb.mono HB.out.size))
              clear hb
              go_wp2_with fail
              refine (lane_c Az zs cz (m : Int) _ HZ.out hcz hzl).mono ?_
              rintro e y21 ⟨Al20, cl20, rfl, hO20, hb⟩
              replace HW := Lib.hid (HW.out.step hb)
              replace k0 := cell_of_ans hb k0
              replace k1 := cell_of_ans hb k1
              replace HCA := Lib.hid (HCA.out.step hb)
              replace HG := Lib.hid (HG.out.step hb)
              replace u0 := cell_of_ans hb u0
              replace u1 := cell_of_ans hb u1
              replace HZ := Lib.hid (HZ.out.step hb)
              replace HYC := Lib.hid (HYC.out.step hb)
              replace z0 := cell_of_ans hb z0
              replace z1 := cell_of_ans hb z1
              replace HB := Lib.hid (HB.out.trans (hb.mono HB.out.size))
              clear hb
              obtain ⟨hq20, hqq20, hO20⟩ := hO20.wds
              have HL20 := Lib.hid hO20
              clear hO20
              go_wp2_with fail
              refine (list_c AcA fa ccA _ HCA.out (Nat.le_refl _) (by omega)).mono ?_
              rintro e y23 ⟨At22, ct22, rfl, hO22, hb⟩
              replace HW := Lib.hid (HW.out.step hb)
              replace k0 := cell_of_ans hb k0
              replace k1 := cell_of_ans hb k1
              replace HCA := Lib.hid (HCA.out.step hb)
              replace HG := Lib.hid (HG.out.step hb)
              replace u0 := cell_of_ans hb u0
              replace u1 := cell_of_ans hb u1
              replace HZ := Lib.hid (HZ.out.step hb)
              replace HYC := Lib.hid (HYC.out.step hb)
              replace z0 := cell_of_ans hb z0
              replace z1 := cell_of_ans hb z1
              replace HL20 := Lib.hid (HL20.out.step hb)
              replace HB := Lib.hid (HB.out.trans (hb.mono HB.out.size))
              clear hb
              obtain ⟨hq22, hqq22, hO22⟩ := isInts_parts (ownsRow_isInts hO22)
              have HT22 := Lib.hid hO22
              clear hO22
              go_wp2_with fail
              refine (explains_z (ws := zs) Al20 At22 cl20 ct22 _ HL20.out HT22.out ⟨hq20, hqq20⟩ ⟨hq22, hqq22⟩ HLZ.out HRA.out).mono ?_
              rintro e y24 ⟨rfl, hb⟩
              replace HW := Lib.hid (HW.out.step hb)
              replace k0 := cell_of_ans hb k0
              replace k1 := cell_of_ans hb k1
              replace HCA := Lib.hid (HCA.out.step hb)
              replace HG := Lib.hid (HG.out.step hb)
              replace u0 := cell_of_ans hb u0
              replace u1 := cell_of_ans hb u1
              replace HZ := Lib.hid (HZ.out.step hb)
              replace HYC := Lib.hid (HYC.out.step hb)
              replace z0 := cell_of_ans hb z0
              replace z1 := cell_of_ans hb z1
              replace HL20 := Lib.hid (HL20.out.step hb)
              replace HT22 := Lib.hid (HT22.out.step hb)
              replace HB := Lib.hid (HB.out.trans (hb.mono HB.out.size))
              clear hb
              clear HL20 HT22
              rw [HEV.out]
              obtain ⟨b3, o3, hA3, hb3', hc3⟩ := HG.out (Nat.lt_of_le_of_lt (Nat.zero_le _) hkrn)
              injection hA3 with hA3
              injection hA3 with hA4 hA5
              subst hA4 hA5
              obtain ⟨c1, c2⟩ := hc3 kk hkrn
              generalize px r kk = pa at *
              obtain ⟨pl1, ph1⟩ := pa
              dsimp only at c1 c2
              clear hc3
              have HYE := Lib.hid (show Below _ _ _ from HYC.out)
              by_cases t1 : pl1 ≤ (n : Int)
              · have t1b : decide ((n : Int) ≥ pl1) = true := decide_eq_true t1
                by_cases t2 : (n : Int) ≤ ph1
                · rw [decide_eq_true t1, decide_eq_true t2]
                  have t2b : decide ((n : Int) ≤ ph1) = true := decide_eq_true t2
                  go_wp2_with fail
                  go_roundw
                  case rel => exact ⟨n + 1, by omega, by go_num, HYC.out⟩
                  case measure => simp [intOf]; omega
                · rw [decide_eq_true t1, decide_eq_false t2]
                  have t2b : decide ((n : Int) ≤ ph1) = false := decide_eq_false t2
                  go_wp2_with fail
                  go_roundw
                  case rel => exact ⟨n + 1, by omega, by go_num, HYC.out⟩
                  case measure => simp [intOf]; omega
              · rw [decide_eq_false t1]
                have t1b : decide ((n : Int) ≥ pl1) = false := decide_eq_false t1
                generalize decide ((n : Int) ≤ ph1) = t2 at *
                go_wp2_with fail
                go_roundw
                case rel => exact ⟨n + 1, by omega, by go_num, HYC.out⟩
                case measure => simp [intOf]; omega
          · have h1i : ¬ (n : Int) ≤ 10 := by omega
            go_wp2_with fail
            refine (HWK.out _).mono ?_
            rintro e y25 ⟨rfl, hb⟩
            replace HW := Lib.hid (HW.out.step hb)
            replace k0 := cell_of_ans hb k0
            replace k1 := cell_of_ans hb k1
            replace HCA := Lib.hid (HCA.out.step hb)
            replace HG := Lib.hid (HG.out.step hb)
            replace u0 := cell_of_ans hb u0
            replace u1 := cell_of_ans hb u1
            replace HB := Lib.hid (HB.out.trans (hb.mono HB.out.size))
            clear hb
            go_wp2_with fail
            go_ret
            exact ⟨rfl, HB.out⟩
end Go.Proofs.Ytadjkinpimmhkaa
