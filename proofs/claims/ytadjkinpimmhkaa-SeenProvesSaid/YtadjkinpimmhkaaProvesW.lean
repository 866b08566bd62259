/-
  The walk of the law SeenProves.
-/
import Derived.Test.YtadjkinpimmhkaaProvesM
import Derived.Test.YtadjkinpimmhkaaExplainsW
import Derived.Test.YtadjkinpimmhkaaCopies
namespace Go.Proofs.Ytadjkinpimmhkaa
open Go.RowKit
set_option linter.unusedSimpArgs false
set_option linter.unusedVariables false

set_option maxRecDepth 100000 in
set_option maxHeartbeats 32000000 in
theorem seenProves_c (A At Ag : Option Addr) (ws : List Wd) (ts : List Int) (game : List (List Int)) (c ct cg : Nat) (frn : Int) (w : World) (hw : Wds w.heap.size w A ws) (ht : Ints w.heap.size w At ts) (hgm : Grd w.heap.size w Ag game) (hc : ws.length ≤ c ∧ c ≤ 9223372036854775807) (hct : ts.length ≤ ct ∧ ct ≤ 9223372036854775807) (hcg : game.length ≤ cg ∧ cg ≤ 9223372036854775807) :
    Calls Try.prog 14 #[.agg #[.int .i64 frn, .slice A ws.length c], .slice At ts.length ct, .slice Ag game.length cg] w (Ans w (.bool true)) := by
  have hb0 : Below w.heap.size w (w.alloc (.cells #[.int .i64 frn, .slice A ws.length c] 24)) := (Below.refl _ _).alloc (Nat.le_refl _) _
  have k0 : (w.alloc (.cells #[.int .i64 frn, .slice A ws.length c] 24)).cell? ⟨w.heap.size, 0, none⟩ = some (.int .i64 frn) := by simp
  have k1 : (w.alloc (.cells #[.int .i64 frn, .slice A ws.length c] 24)).cell? ⟨w.heap.size, 1, none⟩ = some (.slice A ws.length c) := by simp
  have HB := Lib.hid hb0
  have HW := Lib.hid (hw.step hb0)
  have HT := Lib.hid (ht.step hb0)
  have HGM := Lib.hid (hgm.step hb0)
  have HWK := Lib.hid wakes_c
  clear hb0 hw ht hgm
  go_enter Try.func14, Try.ntmps14
  go_wp2_with fail
  generalize (w.alloc (.cells #[.int .i64 frn, .slice A ws.length c] 24)) = W0 at *
  have HTh := Lib.hid (thin_c A At ws ts c ct frn W0)
  cases hth : thinB ws ts
  · rw [hth] at HTh
    clear hth
    refine (HTh.out).mono ?_
    rintro e y1 ⟨rfl, hb⟩
    replace HW := Lib.hid (HW.out.step hb)
    replace HT := Lib.hid (HT.out.step hb)
    replace HGM := Lib.hid (HGM.out.step hb)
    replace k0 := cell_of_ans hb k0
    replace k1 := cell_of_ans hb k1
    replace HB := Lib.hid (HB.out.trans (hb.mono HB.out.size))
    clear hb
    go_wp2_with fail
    refine (HWK.out _).mono ?_
    rintro e y2 ⟨rfl, hb⟩
    replace HW := Lib.hid (HW.out.step hb)
    replace HT := Lib.hid (HT.out.step hb)
    replace HGM := Lib.hid (HGM.out.step hb)
    replace k0 := cell_of_ans hb k0
    replace k1 := cell_of_ans hb k1
    replace HB := Lib.hid (HB.out.trans (hb.mono HB.out.size))
    clear hb
    go_wp2_with fail
    go_ret
    exact ⟨rfl, HB.out⟩
  · rw [hth] at HTh
    obtain ⟨h35, h8⟩ := thin_wakes ws ts hth
    clear hth
    refine (HTh.out).mono ?_
    rintro e y3 ⟨rfl, hb⟩
    replace HW := Lib.hid (HW.out.step hb)
    replace HT := Lib.hid (HT.out.step hb)
    replace HGM := Lib.hid (HGM.out.step hb)
    replace k0 := cell_of_ans hb k0
    replace k1 := cell_of_ans hb k1
    replace HB := Lib.hid (HB.out.trans (hb.mono HB.out.size))
    clear hb
    by_cases h8g : (game.length : Int) > 8
    · go_wp2_with fail
      refine (HWK.out _).mono ?_
      rintro e y4 ⟨rfl, hb⟩
      replace HW := Lib.hid (HW.out.step hb)
      replace HT := Lib.hid (HT.out.step hb)
      replace HGM := Lib.hid (HGM.out.step hb)
      replace k0 := cell_of_ans hb k0
      replace k1 := cell_of_ans hb k1
      replace HB := Lib.hid (HB.out.trans (hb.mono HB.out.size))
      clear hb
      go_wp2_with fail
      go_ret
      exact ⟨rfl, HB.out⟩
    have h8gb : decide ((8 : Int) < (game.length : Int)) = false := decide_eq_false (by omega)
    go_wp2_with fail
    obtain ⟨wd, hwd⟩ : ∃ wd : World, wd = y3 := ⟨_, rfl⟩
    rw [← hwd] at HW HT HGM HB k0 k1 ⊢
    clear hwd
    go_loopw [7] (fun i wr => ∃ k : Nat, k ≤ game.length ∧ i = .int .i64 k ∧ (∀ f, f < k → (rx game f).length ≤ 5) ∧ wr = wd) (fun i _ => game.length - (intOf i).toNat)
    case atStart => exact ⟨0, by omega, rfl, fun f hf => by omega, rfl⟩
    case round =>
      obtain ⟨k, hk, rfl, hall, hwr⟩ := hrel
      have HAL := Lib.hid hall
      subst hwr
      clear hall
      by_cases h1 : k < game.length
      · have h1i : (k : Int) < (game.length : Int) := by omega
        obtain ⟨bg, og, Ax, cx, hA, _, hc0, hcx, hcx2, hi⟩ := HGM.out.at_ h1
        clear hi
        subst hA
        by_cases h5 : (rx game k).length ≤ 5
        · have h5i : ¬ ((rx game k).length : Int) > 5 := by omega
          have H5 := Lib.hid h5
          generalize hn : (rx game k).length = n at *
          have HN := Lib.hid hn
          clear h5 hn
          go_wp2_with fail
          go_roundw
          case rel =>
            refine ⟨k + 1, by omega, by go_num, fun f hf => ?_, by trivial⟩
            by_cases e : f = k
            · subst e; rw [HN.out]; exact H5.out
            · exact HAL.out f (by omega)
          case measure => simp [intOf]; omega
        · have h5i : ((rx game k).length : Int) > 5 := by omega
          generalize (rx game k).length = n at *
          clear h5
          go_wp2_with fail
          refine (HWK.out _).mono ?_
          rintro e w9 ⟨rfl, hb⟩
          go_wp2_with fail
          go_ret
          exact ⟨rfl, HB.out.trans (hb.mono HB.out.size)⟩
      · obtain rfl : k = game.length := by omega
        have h1i : ¬ (game.length : Int) < (game.length : Int) := by omega
        clear h1 hk
        go_wp2_with fail
        refine (asked24_c A At ws ts c ct frn _ HW.out HT.out hc hct).mono ?_
        rintro e y5 ⟨rfl, hb⟩
        replace HW := Lib.hid (HW.out.step hb)
        replace HT := Lib.hid (HT.out.step hb)
        replace HGM := Lib.hid (HGM.out.step hb)
        replace k0 := cell_of_ans hb k0
        replace k1 := cell_of_ans hb k1
        replace HB := Lib.hid (HB.out.trans (hb.mono HB.out.size))
        clear hb
        by_cases hk0 : askErr frn ws ts = 0
        · obtain ⟨h30, hf1, hf5, hok⟩ := laneOk (askOk hk0).1
          obtain ⟨m, rfl⟩ : ∃ m : Nat, frn = (m : Int) := ⟨frn.toNat, by omega⟩
          have HK0 := Lib.hid hk0
          have HOK := Lib.hid hok
          rw [hk0]
          clear hk0 hok
          have HGC := Lib.hid (fun W (h : Grd W.heap.size W Ag game) => isGame_c A Ag ws.length c cg m game W h hcg)
          cases hig : isG m game
          · have HPN : Hid (proveB m ws (offT ts) game = false) := proves_no hig
            rw [hig] at HGC
            clear hig
            go_wp2_with fail
            refine (HGC.out _ HGM.out).mono ?_
            rintro e y6 ⟨rfl, hb⟩
            replace HW := Lib.hid (HW.out.step hb)
            replace HT := Lib.hid (HT.out.step hb)
            replace HGM := Lib.hid (HGM.out.step hb)
            replace k0 := cell_of_ans hb k0
            replace k1 := cell_of_ans hb k1
            replace HB := Lib.hid (HB.out.trans (hb.mono HB.out.size))
            clear hb
            go_wp2_with fail
            refine (lane_c A ws c (m : Int) _ HW.out hc (by omega)).mono ?_
            rintro e y8 ⟨Al7, cl7, rfl, hO7, hb⟩
            replace HW := Lib.hid (HW.out.step hb)
            replace HT := Lib.hid (HT.out.step hb)
            replace HGM := Lib.hid (HGM.out.step hb)
            replace k0 := cell_of_ans hb k0
            replace k1 := cell_of_ans hb k1
            replace HB := Lib.hid (HB.out.trans (hb.mono HB.out.size))
            clear hb
            obtain ⟨hq7, hqq7, hO7⟩ := hO7.wds
            have HL7 := Lib.hid hO7
            clear hO7
            go_wp2_with fail
            refine (list_c At ts ct _ HT.out (Nat.le_refl _) (by omega)).mono ?_
            rintro e y10 ⟨At9, ct9, rfl, hO9, hb⟩
            replace HW := Lib.hid (HW.out.step hb)
            replace HT := Lib.hid (HT.out.step hb)
            replace HGM := Lib.hid (HGM.out.step hb)
            replace k0 := cell_of_ans hb k0
            replace k1 := cell_of_ans hb k1
            replace HL7 := Lib.hid (HL7.out.step hb)
            replace HB := Lib.hid (HB.out.trans (hb.mono HB.out.size))
            clear hb
            obtain ⟨hq9, hqq9, hO9⟩ := isInts_parts (ownsRow_isInts hO9)
            have HT9 := Lib.hid hO9
            clear hO9
            go_wp2_with fail
            refine (rows_c Ag game cg _ HGM.out (by omega) (fun f hf => by have := HAL.out f hf; omega)).mono ?_
            rintro e y11 ⟨Agr, cgr, vgr, rfl, hR, hb⟩
            replace HW := Lib.hid (HW.out.step hb)
            replace HT := Lib.hid (HT.out.step hb)
            replace HGM := Lib.hid (HGM.out.step hb)
            replace k0 := cell_of_ans hb k0
            replace k1 := cell_of_ans hb k1
            replace HL7 := Lib.hid (HL7.out.step hb)
            replace HT9 := Lib.hid (HT9.out.step hb)
            replace HB := Lib.hid (HB.out.trans (hb.mono HB.out.size))
            clear hb
            obtain ⟨hcg1, hcg2, hgr⟩ := grd_of hR.grd
            have HGR := Lib.hid hgr
            clear hR hgr
            go_wp2_with fail
            refine (prove_ok Al7 At9 Agr ws ts game cl7 ct9 cgr m _ HL7.out HT9.out HGR.out ⟨hq7, hqq7⟩ ⟨hq9, hqq9⟩ ⟨hcg1, hcg2⟩ HK0.out).mono ?_
            rintro e y12 ⟨rfl, hb⟩
            replace HW := Lib.hid (HW.out.step hb)
            replace HT := Lib.hid (HT.out.step hb)
            replace HGM := Lib.hid (HGM.out.step hb)
            replace k0 := cell_of_ans hb k0
            replace k1 := cell_of_ans hb k1
            replace HL7 := Lib.hid (HL7.out.step hb)
            replace HT9 := Lib.hid (HT9.out.step hb)
            replace HB := Lib.hid (HB.out.trans (hb.mono HB.out.size))
            clear hb
            clear HL7 HT9
            rw [HPN.out]
            go_wp2_with fail
            refine (HWK.out _).mono ?_
            rintro e y13 ⟨rfl, hb⟩
            replace HW := Lib.hid (HW.out.step hb)
            replace HT := Lib.hid (HT.out.step hb)
            replace HGM := Lib.hid (HGM.out.step hb)
            replace k0 := cell_of_ans hb k0
            replace k1 := cell_of_ans hb k1
            replace HB := Lib.hid (HB.out.trans (hb.mono HB.out.size))
            clear hb
            go_wp2_with fail
            go_ret
            exact ⟨rfl, HB.out⟩
          · have HPE : Hid (proveB m ws (offT ts) game = fitG ws ts game) := proves_eq HOK.out hig
            obtain ⟨hgl, hgr0⟩ := isG_iff.1 hig
            rw [hig] at HGC
            have HGL := Lib.hid hgl
            have HGR0 := Lib.hid hgr0
            clear hig hgl hgr0
            have HFI := Lib.hid (fun W (h1 : Wds W.heap.size W A ws) (h2 : Ints W.heap.size W At ts) (h3 : Grd W.heap.size W Ag game) => fits45_c A At Ag ws ts game c ct cg (m : Int) W h1 h2 h3 hc hct hcg (fun k hk => by have hw := HOK.out k hk; simp only [wordB, Bool.and_eq_true, inB_eq, decide_eq_true_eq] at hw; have := HGL.out; omega) (fun f hf => is_vals (HGR0.out f hf)))
            go_wp2_with fail
            refine (HGC.out _ HGM.out).mono ?_
            rintro e y14 ⟨rfl, hb⟩
            replace HW := Lib.hid (HW.out.step hb)
            replace HT := Lib.hid (HT.out.step hb)
            replace HGM := Lib.hid (HGM.out.step hb)
            replace k0 := cell_of_ans hb k0
            replace k1 := cell_of_ans hb k1
            replace HB := Lib.hid (HB.out.trans (hb.mono HB.out.size))
            clear hb
            go_wp2_with fail
            refine (HFI.out _ HW.out HT.out HGM.out).mono ?_
            rintro e y15 ⟨rfl, hb⟩
            replace HW := Lib.hid (HW.out.step hb)
            replace HT := Lib.hid (HT.out.step hb)
            replace HGM := Lib.hid (HGM.out.step hb)
            replace k0 := cell_of_ans hb k0
            replace k1 := cell_of_ans hb k1
            replace HB := Lib.hid (HB.out.trans (hb.mono HB.out.size))
            clear hb
            go_wp2_with fail
            refine (lane_c A ws c (m : Int) _ HW.out hc (by omega)).mono ?_
            rintro e y17 ⟨Al16, cl16, rfl, hO16, hb⟩
            replace HW := Lib.hid (HW.out.step hb)
            replace HT := Lib.hid (HT.out.step hb)
            replace HGM := Lib.hid (HGM.out.step hb)
            replace k0 := cell_of_ans hb k0
            replace k1 := cell_of_ans hb k1
            replace HB := Lib.hid (HB.out.trans (hb.mono HB.out.size))
            clear hb
            obtain ⟨hq16, hqq16, hO16⟩ := hO16.wds
            have HL16 := Lib.hid hO16
            clear hO16
            go_wp2_with fail
            refine (list_c At ts ct _ HT.out (Nat.le_refl _) (by omega)).mono ?_
            rintro e y19 ⟨At18, ct18, rfl, hO18, hb⟩
            replace HW := Lib.hid (HW.out.step hb)
            replace HT := Lib.hid (HT.out.step hb)
            replace HGM := Lib.hid (HGM.out.step hb)
            replace k0 := cell_of_ans hb k0
            replace k1 := cell_of_ans hb k1
            replace HL16 := Lib.hid (HL16.out.step hb)
            replace HB := Lib.hid (HB.out.trans (hb.mono HB.out.size))
            clear hb
            obtain ⟨hq18, hqq18, hO18⟩ := isInts_parts (ownsRow_isInts hO18)
            have HT18 := Lib.hid hO18
            clear hO18
            go_wp2_with fail
            refine (rows_c Ag game cg _ HGM.out (by omega) (fun f hf => by have := HAL.out f hf; omega)).mono ?_
            rintro e y20 ⟨Agr, cgr, vgr, rfl, hR, hb⟩
            replace HW := Lib.hid (HW.out.step hb)
            replace HT := Lib.hid (HT.out.step hb)
            replace HGM := Lib.hid (HGM.out.step hb)
            replace k0 := cell_of_ans hb k0
            replace k1 := cell_of_ans hb k1
            replace HL16 := Lib.hid (HL16.out.step hb)
            replace HT18 := Lib.hid (HT18.out.step hb)
            replace HB := Lib.hid (HB.out.trans (hb.mono HB.out.size))
            clear hb
            obtain ⟨hcg1, hcg2, hgr⟩ := grd_of hR.grd
            have HGR := Lib.hid hgr
            clear hR hgr
            go_wp2_with fail
            refine (prove_ok Al16 At18 Agr ws ts game cl16 ct18 cgr m _ HL16.out HT18.out HGR.out ⟨hq16, hqq16⟩ ⟨hq18, hqq18⟩ ⟨hcg1, hcg2⟩ HK0.out).mono ?_
            rintro e y21 ⟨rfl, hb⟩
            replace HW := Lib.hid (HW.out.step hb)
            replace HT := Lib.hid (HT.out.step hb)
            replace HGM := Lib.hid (HGM.out.step hb)
            replace k0 := cell_of_ans hb k0
            replace k1 := cell_of_ans hb k1
            replace HL16 := Lib.hid (HL16.out.step hb)
            replace HT18 := Lib.hid (HT18.out.step hb)
            replace HB := Lib.hid (HB.out.trans (hb.mono HB.out.size))
            clear hb
            clear HL16 HT18
            rw [HPE.out]
            generalize fitG ws ts game = fg at *
            have hff : (fg == fg) = true := by simp
            go_wp2_with fail
            refine (HWK.out _).mono ?_
            rintro e y22 ⟨rfl, hb⟩
            replace HW := Lib.hid (HW.out.step hb)
            replace HT := Lib.hid (HT.out.step hb)
            replace HGM := Lib.hid (HGM.out.step hb)
            replace k0 := cell_of_ans hb k0
            replace k1 := cell_of_ans hb k1
            replace HB := Lib.hid (HB.out.trans (hb.mono HB.out.size))
            clear hb
            go_wp2_with fail
            go_ret
            exact ⟨rfl, HB.out⟩
        · have HK0 := Lib.hid hk0
          have hk0b : (askErr frn ws ts == 0) = false := beq_eq_false_iff_ne.2 hk0
          have HPB := fun (Al At2 : Option Addr) (cl ct2 : Nat) (v : Value) (W : World) (h1 : Wds W.heap.size W Al ws) (h2 : Ints W.heap.size W At2 ts) (h3 : ws.length ≤ cl ∧ cl ≤ 9223372036854775807) (h4 : ts.length ≤ ct2 ∧ ct2 ≤ 9223372036854775807) => prove_bad Al At2 ws ts cl ct2 frn v W h1 h2 h3 h4 hk0
          replace HPB := Lib.hid HPB
          generalize askErr frn ws ts = er at *
          clear hk0 HK0
          go_wp2_with fail
          refine (lane_c A ws c frn _ HW.out hc (by omega)).mono ?_
          rintro e y24 ⟨Al23, cl23, rfl, hO23, hb⟩
          replace HW := Lib.hid (HW.out.step hb)
          replace HT := Lib.hid (HT.out.step hb)
          replace HGM := Lib.hid (HGM.out.step hb)
          replace k0 := cell_of_ans hb k0
          replace k1 := cell_of_ans hb k1
          replace HB := Lib.hid (HB.out.trans (hb.mono HB.out.size))
          clear hb
          obtain ⟨hq23, hqq23, hO23⟩ := hO23.wds
          have HL23 := Lib.hid hO23
          clear hO23
          go_wp2_with fail
          refine (list_c At ts ct _ HT.out (Nat.le_refl _) (by omega)).mono ?_
          rintro e y26 ⟨At25, ct25, rfl, hO25, hb⟩
          replace HW := Lib.hid (HW.out.step hb)
          replace HT := Lib.hid (HT.out.step hb)
          replace HGM := Lib.hid (HGM.out.step hb)
          replace k0 := cell_of_ans hb k0
          replace k1 := cell_of_ans hb k1
          replace HL23 := Lib.hid (HL23.out.step hb)
          replace HB := Lib.hid (HB.out.trans (hb.mono HB.out.size))
          clear hb
          obtain ⟨hq25, hqq25, hO25⟩ := isInts_parts (ownsRow_isInts hO25)
          have HT25 := Lib.hid hO25
          clear hO25
          go_wp2_with fail
          refine (rows_c Ag game cg _ HGM.out (by omega) (fun f hf => by have := HAL.out f hf; omega)).mono ?_
          rintro e y27 ⟨Agr, cgr, vgr, rfl, hR, hb⟩
          replace HW := Lib.hid (HW.out.step hb)
          replace HT := Lib.hid (HT.out.step hb)
          replace HGM := Lib.hid (HGM.out.step hb)
          replace k0 := cell_of_ans hb k0
          replace k1 := cell_of_ans hb k1
          replace HL23 := Lib.hid (HL23.out.step hb)
          replace HT25 := Lib.hid (HT25.out.step hb)
          replace HB := Lib.hid (HB.out.trans (hb.mono HB.out.size))
          clear hb
          obtain ⟨hcg1, hcg2, hgr⟩ := grd_of hR.grd
          have HGR := Lib.hid hgr
          clear hR hgr
          go_wp2_with fail
          refine (HPB.out Al23 At25 cl23 ct25 _ _ HL23.out HT25.out ⟨hq23, hqq23⟩ ⟨hq25, hqq25⟩).mono ?_
          rintro e y28 ⟨rfl, hb⟩
          replace HW := Lib.hid (HW.out.step hb)
          replace HT := Lib.hid (HT.out.step hb)
          replace HGM := Lib.hid (HGM.out.step hb)
          replace k0 := cell_of_ans hb k0
          replace k1 := cell_of_ans hb k1
          replace HL23 := Lib.hid (HL23.out.step hb)
          replace HT25 := Lib.hid (HT25.out.step hb)
          replace HB := Lib.hid (HB.out.trans (hb.mono HB.out.size))
          clear hb
          clear HL23 HT25
          go_wp2_with fail
          refine (HWK.out _).mono ?_
          rintro e y29 ⟨rfl, hb⟩
          replace HW := Lib.hid (HW.out.step hb)
          replace HT := Lib.hid (HT.out.step hb)
          replace HGM := Lib.hid (HGM.out.step hb)
          replace k0 := cell_of_ans hb k0
          replace k1 := cell_of_ans hb k1
          replace HB := Lib.hid (HB.out.trans (hb.mono HB.out.size))
          clear hb
          go_wp2_with fail
          go_ret
          exact ⟨rfl, HB.out⟩
end Go.Proofs.Ytadjkinpimmhkaa
