/-
  OilFewest: the walk.
-/
import Derived.Test.YtgnonfomlgkpcaaPlA
import Derived.Test.YtgnonfomlgkpcaaFewestM
namespace Go.Proofs.Ytgnonfomlgkpcaa
open Go.RowKit
set_option linter.unusedSimpArgs false
set_option linter.unusedVariables false

theorem lessA_c (A A' : Option Addr) (xs ys : List Int) (c c' : Nat) (w : World) (hx : Ints w.heap.size w A xs) (hy : Ints w.heap.size w A' ys) (hc : xs.length ≤ c ∧ c ≤ 9223372036854775807) (hc' : ys.length ≤ c' ∧ c' ≤ 9223372036854775807) :
    Calls Try.prog 50 #[.slice A xs.length c, .slice A' ys.length c'] w (Ans w (.bool (lessI xs ys))) := (less_c A A' xs ys c c' w hx hy hc hc').mono fun _ _ h => h.ans

set_option maxRecDepth 100000 in
set_option maxHeartbeats 16000000 in
theorem oilFewest_c (A A' Ap : Option Addr) (xss : List (List Int)) (ls : Lines) (plan : List Int) (c c' cp : Nat) (lo hi ca : Int) (w : World) (hx : Grd w.heap.size w A xss) (hl : Lns w.heap.size w A' ls) (hp : Ints w.heap.size w Ap plan) (hc : xss.length ≤ c ∧ c ≤ 9223372036854775807) (hc' : ls.length ≤ c' ∧ c' ≤ 9223372036854775807) (hcp : plan.length ≤ cp ∧ cp ≤ 9223372036854775807) :
    Calls Try.prog 13 #[.agg #[.slice A xss.length c, .int .i64 lo, .int .i64 hi, .int .i64 ca], .slice A' ls.length c', .slice Ap plan.length cp] w (Ans w (.bool true)) := by
  have hb0 : Below w.heap.size w (w.alloc (.cells #[.slice A xss.length c, .int .i64 lo, .int .i64 hi, .int .i64 ca] 26)) := (Below.refl _ _).alloc (Nat.le_refl _) _
  have k0 : (w.alloc (.cells #[.slice A xss.length c, .int .i64 lo, .int .i64 hi, .int .i64 ca] 26)).cell? ⟨w.heap.size, 0, none⟩ = some (.slice A xss.length c) := by simp
  have k1 : (w.alloc (.cells #[.slice A xss.length c, .int .i64 lo, .int .i64 hi, .int .i64 ca] 26)).cell? ⟨w.heap.size, 1, none⟩ = some (.int .i64 lo) := by simp
  have k2 : (w.alloc (.cells #[.slice A xss.length c, .int .i64 lo, .int .i64 hi, .int .i64 ca] 26)).cell? ⟨w.heap.size, 2, none⟩ = some (.int .i64 hi) := by simp
  have k3 : (w.alloc (.cells #[.slice A xss.length c, .int .i64 lo, .int .i64 hi, .int .i64 ca] 26)).cell? ⟨w.heap.size, 3, none⟩ = some (.int .i64 ca) := by simp
  have HX := Lib.hid (hx.step hb0)
  have HL := Lib.hid (hl.step hb0)
  have HP := Lib.hid (hp.step hb0)
  have HB := Lib.hid hb0
  clear hb0 hx hl hp
  go_enter Try.func13, Try.ntmps13
  go_wp2_with fail
  generalize (w.alloc (.cells #[.slice A xss.length c, .int .i64 lo, .int .i64 hi, .int .i64 ca] 26)) = W0 at k0 k1 k2 k3 HX HL HP HB ⊢
  cases hT : shortB 12 xss && shortB 25 []
  · have HT := Lib.hid hT
    clear hT
    refine (thin_c A none xss [] c 0 lo hi ca _ (Nat.le_refl _) HX.out (grd_nil _ _) hc ⟨by simp, by omega⟩).mono ?_
    rw [HT.out]
    rintro e w1 ⟨rfl, hb⟩
    replace HX := Lib.hid (HX.out.step hb)
    replace HL := Lib.hid (HL.out.step hb)
    replace HP := Lib.hid (HP.out.step hb)
    replace k0 := cell_of_ans hb k0
    replace k1 := cell_of_ans hb k1
    replace k2 := cell_of_ans hb k2
    replace k3 := cell_of_ans hb k3
    replace HB := Lib.hid (HB.out.trans (hb.mono HB.out.size))
    clear hb
    go_wp2_with fail
    refine (awake_c _).mono ?_
    rintro e w9 ⟨rfl, hb⟩
    replace HX := Lib.hid (HX.out.step hb)
    replace HL := Lib.hid (HL.out.step hb)
    replace HP := Lib.hid (HP.out.step hb)
    replace k0 := cell_of_ans hb k0
    replace k1 := cell_of_ans hb k1
    replace k2 := cell_of_ans hb k2
    replace k3 := cell_of_ans hb k3
    replace HB := Lib.hid (HB.out.trans (hb.mono HB.out.size))
    clear hb
    go_wp2_with fail
    go_ret
    exact ⟨rfl, HB.out⟩
  · have HT := Lib.hid hT
    have HS1 : Hid (shortB 12 xss = true) := (Bool.and_eq_true_iff.1 hT).1
    clear hT
    refine (thin_c A none xss [] c 0 lo hi ca _ (Nat.le_refl _) HX.out (grd_nil _ _) hc ⟨by simp, by omega⟩).mono ?_
    rw [HT.out]
    rintro e w1 ⟨rfl, hb⟩
    replace HX := Lib.hid (HX.out.step hb)
    replace HL := Lib.hid (HL.out.step hb)
    replace HP := Lib.hid (HP.out.step hb)
    replace k0 := cell_of_ans hb k0
    replace k1 := cell_of_ans hb k1
    replace k2 := cell_of_ans hb k2
    replace k3 := cell_of_ans hb k3
    replace HB := Lib.hid (HB.out.trans (hb.mono HB.out.size))
    clear hb
    cases hF : fewB ls
    · have HF := Lib.hid hF
      clear hF
      go_wp2_with fail
      refine (fewA_c A' ls c' _ HL.out hc').mono ?_
      rw [HF.out]
      rintro e w2 ⟨rfl, hb⟩
      replace HX := Lib.hid (HX.out.step hb)
      replace HL := Lib.hid (HL.out.step hb)
      replace HP := Lib.hid (HP.out.step hb)
      replace k0 := cell_of_ans hb k0
      replace k1 := cell_of_ans hb k1
      replace k2 := cell_of_ans hb k2
      replace k3 := cell_of_ans hb k3
      replace HB := Lib.hid (HB.out.trans (hb.mono HB.out.size))
      clear hb
      go_wp2_with fail
      refine (awake_c _).mono ?_
      rintro e w9 ⟨rfl, hb⟩
      replace HX := Lib.hid (HX.out.step hb)
      replace HL := Lib.hid (HL.out.step hb)
      replace HP := Lib.hid (HP.out.step hb)
      replace k0 := cell_of_ans hb k0
      replace k1 := cell_of_ans hb k1
      replace k2 := cell_of_ans hb k2
      replace k3 := cell_of_ans hb k3
      replace HB := Lib.hid (HB.out.trans (hb.mono HB.out.size))
      clear hb
      go_wp2_with fail
      go_ret
      exact ⟨rfl, HB.out⟩
    · have HF := Lib.hid hF
      have h25 : ls.length ≤ 25 := (fewB_le hF).1
      clear hF
      go_wp2_with fail
      refine (fewA_c A' ls c' _ HL.out hc').mono ?_
      rw [HF.out]
      rintro e w2 ⟨rfl, hb⟩
      replace HX := Lib.hid (HX.out.step hb)
      replace HL := Lib.hid (HL.out.step hb)
      replace HP := Lib.hid (HP.out.step hb)
      replace k0 := cell_of_ans hb k0
      replace k1 := cell_of_ans hb k1
      replace k2 := cell_of_ans hb k2
      replace k3 := cell_of_ans hb k3
      replace HB := Lib.hid (HB.out.trans (hb.mono HB.out.size))
      clear hb
      by_cases h30 : plan.length ≤ 30
      · have h30i : decide ((30 : Int) < (plan.length : Int)) = false := decide_eq_false (by omega)
        go_wp2_with fail
        refine (blocked_c A A' xss ls c c' lo hi ca _ HX.out HL.out hc hc').mono ?_
        rintro e w3 ⟨rfl, hb⟩
        replace HX := Lib.hid (HX.out.step hb)
        replace HL := Lib.hid (HL.out.step hb)
        replace HP := Lib.hid (HP.out.step hb)
        replace k0 := cell_of_ans hb k0
        replace k1 := cell_of_ans hb k1
        replace k2 := cell_of_ans hb k2
        replace k3 := cell_of_ans hb k3
        replace HB := Lib.hid (HB.out.trans (hb.mono HB.out.size))
        clear hb
        by_cases hbe : blockErr xss lo hi ca ls = 0
        · have HBE := Lib.hid hbe
          rw [hbe]
          cases hpl : planB xss lo hi ca ls with
          | none =>
            have HP1 := Lib.hid (fewest_none hbe hpl plan)
            have HP2 := Lib.hid (fewest_none hbe hpl (evF 1 (ls.length - 1)))
            have HPL := Lib.hid hpl
            clear hpl hbe
            go_wp2_with fail
            refine (lane_c A xss c lo hi ca _ (Nat.le_refl _) HX.out (shortB_big (by omega) HS1.out).1 (shortB_big (by omega) HS1.out).2).mono ?_
            rintro e w4 ⟨A5, c5, rfl, hc5, g5, hb⟩
            replace HX := Lib.hid (HX.out.step hb)
            replace HL := Lib.hid (HL.out.step hb)
            replace HP := Lib.hid (HP.out.step hb)
            replace k0 := cell_of_ans hb k0
            replace k1 := cell_of_ans hb k1
            replace k2 := cell_of_ans hb k2
            replace k3 := cell_of_ans hb k3
            replace HB := Lib.hid (HB.out.trans (hb.mono HB.out.size))
            clear hb
            have Hg5 := Lib.hid g5
            clear g5
            go_wp2_with fail
            refine (block42_c A' ls c' _ HL.out HF.out hc').mono ?_
            rintro e w5 ⟨A6, c6, rfl, hc6, g6, hb⟩
            replace HX := Lib.hid (HX.out.step hb)
            replace HL := Lib.hid (HL.out.step hb)
            replace HP := Lib.hid (HP.out.step hb)
            replace k0 := cell_of_ans hb k0
            replace k1 := cell_of_ans hb k1
            replace k2 := cell_of_ans hb k2
            replace k3 := cell_of_ans hb k3
            replace Hg5 := Lib.hid (Hg5.out.step hb)
            replace HB := Lib.hid (HB.out.trans (hb.mono HB.out.size))
            clear hb
            have Hg6 := Lib.hid g6
            clear g6
            go_wp2_with fail
            refine (plan_none_c A5 A6 xss ls c5 c6 lo hi ca _ Hg5.out Hg6.out hc5 hc6 HBE.out HPL.out).mono ?_
            rintro e w6 ⟨rfl, hb⟩
            replace HX := Lib.hid (HX.out.step hb)
            replace HL := Lib.hid (HL.out.step hb)
            replace HP := Lib.hid (HP.out.step hb)
            replace k0 := cell_of_ans hb k0
            replace k1 := cell_of_ans hb k1
            replace k2 := cell_of_ans hb k2
            replace k3 := cell_of_ans hb k3
            replace Hg5 := Lib.hid (Hg5.out.step hb)
            replace Hg6 := Lib.hid (Hg6.out.step hb)
            replace HB := Lib.hid (HB.out.trans (hb.mono HB.out.size))
            clear hb
            clear Hg5 Hg6
            clear hc5 hc6
            go_wp2_with fail
            go_loopw [9, 10] (fun v i wr => ∃ (k : Nat) (Av : Option Addr) (cv : Nat), 1 ≤ k ∧ k ≤ max 1 ls.length ∧ i = .int .i64 (k : Int) ∧ v = .slice Av (evF 1 (k - 1)).length cv ∧ OwnI w6.heap.size wr (.slice Av (evF 1 (k - 1)).length cv) (evF 1 (k - 1)) ∧ Below w6.heap.size w6 wr) (fun _ i _ => 30 - (intOf i).toNat)
            case atStart => exact ⟨1, none, 0, by omega, by omega, rfl, rfl, OwnI.nil _ _, Below.refl _ _⟩
            case round =>
              obtain ⟨k, Av, cv, hk1, hkn, rfl, rfl, ho, hbk⟩ := hrel
              have HO := Lib.hid ho
              have HBK := Lib.hid hbk
              have hzk := hbk.size
              have HSN := Lib.hid (evF_snoc (k - 1) 1)
              have HEL := Lib.hid (evF_len (k - 1) 1)
              clear ho hbk
              by_cases h2 : k < ls.length
              · have h2i : (k : Int) < (ls.length : Int) := by omega
                have hw1 : IntKind.i64.wrap ((k : Int) + 1) = (k : Int) + 1 := IntWalk.i64_in _ (by omega)
                have hlen : (evF 1 (k - 1)).length ≤ 1000000 := by rw [HEL.out]; omega
                have HX2 : Hid (evF 1 (k + 1 - 1) = evF 1 (k - 1) ++ [(k : Int)]) := by
                  show _ = _
                  rw [show k + 1 - 1 = (k - 1) + 1 by omega, HSN.out, show 1 + (k - 1) = k by omega]
                clear HSN HEL
                generalize evF 1 (k - 1) = xs at *
                go_wp2_with (at_builtin; refine wpList_app_int (.tmp 47) (.tmp 49) rfl rfl w6.heap.size wr _ xs (k : Int) rfl rfl HO hlen hzk ?_; intro As cs w3 HO3 HB3)
                go_roundw
                case rel => exact ⟨k + 1, As, cs, by omega, by omega, by go_num, by rw [HX2.out, List.length_append]; rfl, by rw [HX2.out, List.length_append]; exact HO3.out, HBK.out.trans HB3.out⟩
                case measure => simp [intOf]; omega
              · have h2i : ¬ (k : Int) < (ls.length : Int) := by omega
                have hkk : k - 1 = ls.length - 1 := by omega
                have hlen : (evF 1 (k - 1)).length ≤ 100 := by rw [HEL.out]; omega
                rw [hkk] at HO hlen ⊢
                clear HSN HEL hkk
                generalize evF 1 (ls.length - 1) = xs at *
                obtain ⟨hcv, g8⟩ := own_parts HO.out
                have Hg8 := Lib.hid g8
                have hb := HBK.out
                clear g8 HBK HO
                replace HX := Lib.hid (HX.out.step hb)
                replace HL := Lib.hid (HL.out.step hb)
                replace HP := Lib.hid (HP.out.step hb)
                replace k0 := cell_of_ans hb k0
                replace k1 := cell_of_ans hb k1
                replace k2 := cell_of_ans hb k2
                replace k3 := cell_of_ans hb k3
                replace HB := Lib.hid (HB.out.trans (hb.mono HB.out.size))
                clear hb
                go_wp2_with fail
                refine (lane_c A xss c lo hi ca _ (Nat.le_refl _) HX.out (shortB_big (by omega) HS1.out).1 (shortB_big (by omega) HS1.out).2).mono ?_
                rintro e w9 ⟨A9, c9, rfl, hc9, g9, hb⟩
                replace HX := Lib.hid (HX.out.step hb)
                replace HL := Lib.hid (HL.out.step hb)
                replace HP := Lib.hid (HP.out.step hb)
                replace k0 := cell_of_ans hb k0
                replace k1 := cell_of_ans hb k1
                replace k2 := cell_of_ans hb k2
                replace k3 := cell_of_ans hb k3
                replace Hg8 := Lib.hid (Hg8.out.step hb)
                replace HB := Lib.hid (HB.out.trans (hb.mono HB.out.size))
                clear hb
                have Hg9 := Lib.hid g9
                clear g9
                go_wp2_with fail
                refine (block42_c A' ls c' _ HL.out HF.out hc').mono ?_
                rintro e w10 ⟨A10, c10, rfl, hc10, g10, hb⟩
                replace HX := Lib.hid (HX.out.step hb)
                replace HL := Lib.hid (HL.out.step hb)
                replace HP := Lib.hid (HP.out.step hb)
                replace k0 := cell_of_ans hb k0
                replace k1 := cell_of_ans hb k1
                replace k2 := cell_of_ans hb k2
                replace k3 := cell_of_ans hb k3
                replace Hg8 := Lib.hid (Hg8.out.step hb)
                replace Hg9 := Lib.hid (Hg9.out.step hb)
                replace HB := Lib.hid (HB.out.trans (hb.mono HB.out.size))
                clear hb
                have Hg10 := Lib.hid g10
                clear g10
                go_wp2_with fail
                refine (listI_c Ap plan cp _ HP.out (by omega)).mono ?_
                rintro e w11 ⟨A11, c11, rfl, hc11, g11, hb⟩
                replace HX := Lib.hid (HX.out.step hb)
                replace HL := Lib.hid (HL.out.step hb)
                replace HP := Lib.hid (HP.out.step hb)
                replace k0 := cell_of_ans hb k0
                replace k1 := cell_of_ans hb k1
                replace k2 := cell_of_ans hb k2
                replace k3 := cell_of_ans hb k3
                replace Hg8 := Lib.hid (Hg8.out.step hb)
                replace Hg9 := Lib.hid (Hg9.out.step hb)
                replace Hg10 := Lib.hid (Hg10.out.step hb)
                replace HB := Lib.hid (HB.out.trans (hb.mono HB.out.size))
                clear hb
                have Hg11 := Lib.hid g11
                clear g11
                go_wp2_with fail
                refine (provePlan_c A9 A10 A11 xss ls plan c9 c10 c11 lo hi ca _ Hg9.out Hg10.out Hg11.out hc9 hc10 hc11 (by omega)).mono ?_
                rw [HP1.out]
                rintro e w12 ⟨rfl, hb⟩
                replace HX := Lib.hid (HX.out.step hb)
                replace HL := Lib.hid (HL.out.step hb)
                replace HP := Lib.hid (HP.out.step hb)
                replace k0 := cell_of_ans hb k0
                replace k1 := cell_of_ans hb k1
                replace k2 := cell_of_ans hb k2
                replace k3 := cell_of_ans hb k3
                replace Hg8 := Lib.hid (Hg8.out.step hb)
                replace Hg9 := Lib.hid (Hg9.out.step hb)
                replace Hg10 := Lib.hid (Hg10.out.step hb)
                replace Hg11 := Lib.hid (Hg11.out.step hb)
                replace HB := Lib.hid (HB.out.trans (hb.mono HB.out.size))
                clear hb
                clear Hg9 Hg10 Hg11
                clear hc9 hc10 hc11
                go_wp2_with fail
                refine (lane_c A xss c lo hi ca _ (Nat.le_refl _) HX.out (shortB_big (by omega) HS1.out).1 (shortB_big (by omega) HS1.out).2).mono ?_
                rintro e w13 ⟨A12, c12, rfl, hc12, g12, hb⟩
                replace HX := Lib.hid (HX.out.step hb)
                replace HL := Lib.hid (HL.out.step hb)
                replace HP := Lib.hid (HP.out.step hb)
                replace k0 := cell_of_ans hb k0
                replace k1 := cell_of_ans hb k1
                replace k2 := cell_of_ans hb k2
                replace k3 := cell_of_ans hb k3
                replace Hg8 := Lib.hid (Hg8.out.step hb)
                replace HB := Lib.hid (HB.out.trans (hb.mono HB.out.size))
                clear hb
                have Hg12 := Lib.hid g12
                clear g12
                go_wp2_with fail
                refine (block42_c A' ls c' _ HL.out HF.out hc').mono ?_
                rintro e w14 ⟨A13, c13, rfl, hc13, g13, hb⟩
                replace HX := Lib.hid (HX.out.step hb)
                replace HL := Lib.hid (HL.out.step hb)
                replace HP := Lib.hid (HP.out.step hb)
                replace k0 := cell_of_ans hb k0
                replace k1 := cell_of_ans hb k1
                replace k2 := cell_of_ans hb k2
                replace k3 := cell_of_ans hb k3
                replace Hg8 := Lib.hid (Hg8.out.step hb)
                replace Hg12 := Lib.hid (Hg12.out.step hb)
                replace HB := Lib.hid (HB.out.trans (hb.mono HB.out.size))
                clear hb
                have Hg13 := Lib.hid g13
                clear g13
                go_wp2_with fail
                refine (provePlan_c A12 A13 Av xss ls xs c12 c13 cv lo hi ca _ Hg12.out Hg13.out Hg8.out hc12 hc13 hcv (by omega)).mono ?_
                rw [HP2.out]
                rintro e w15 ⟨rfl, hb⟩
                replace HX := Lib.hid (HX.out.step hb)
                replace HL := Lib.hid (HL.out.step hb)
                replace HP := Lib.hid (HP.out.step hb)
                replace k0 := cell_of_ans hb k0
                replace k1 := cell_of_ans hb k1
                replace k2 := cell_of_ans hb k2
                replace k3 := cell_of_ans hb k3
                replace Hg8 := Lib.hid (Hg8.out.step hb)
                replace Hg12 := Lib.hid (Hg12.out.step hb)
                replace Hg13 := Lib.hid (Hg13.out.step hb)
                replace HB := Lib.hid (HB.out.trans (hb.mono HB.out.size))
                clear hb
                clear Hg12 Hg13
                clear hc12 hc13
                go_wp2_with fail
                refine (awake_c _).mono ?_
                rintro e w16 ⟨rfl, hb⟩
                replace HX := Lib.hid (HX.out.step hb)
                replace HL := Lib.hid (HL.out.step hb)
                replace HP := Lib.hid (HP.out.step hb)
                replace k0 := cell_of_ans hb k0
                replace k1 := cell_of_ans hb k1
                replace k2 := cell_of_ans hb k2
                replace k3 := cell_of_ans hb k3
                replace Hg8 := Lib.hid (Hg8.out.step hb)
                replace HB := Lib.hid (HB.out.trans (hb.mono HB.out.size))
                clear hb
                go_wp2_with fail
                go_ret
                exact ⟨rfl, HB.out⟩
          | some q =>
            have HP2 := Lib.hid (fewest_every hbe hpl)
            have HP3 := Lib.hid (fewest_right hbe hpl)
            have HLE : Hid (provePlan xss lo hi ca ls plan = true → lessI plan q = false) := fun h => fewest_least hbe hpl h
            have hql : q.length ≤ 100000 := by have := RP.len (Nat.zero_le _) ((prove_RP hbe q).1 (fewest_right hbe hpl)); omega
            have HPL := Lib.hid hpl
            clear hpl hbe
            go_wp2_with fail
            refine (lane_c A xss c lo hi ca _ (Nat.le_refl _) HX.out (shortB_big (by omega) HS1.out).1 (shortB_big (by omega) HS1.out).2).mono ?_
            rintro e w4 ⟨A5, c5, rfl, hc5, g5, hb⟩
            replace HX := Lib.hid (HX.out.step hb)
            replace HL := Lib.hid (HL.out.step hb)
            replace HP := Lib.hid (HP.out.step hb)
            replace k0 := cell_of_ans hb k0
            replace k1 := cell_of_ans hb k1
            replace k2 := cell_of_ans hb k2
            replace k3 := cell_of_ans hb k3
            replace HB := Lib.hid (HB.out.trans (hb.mono HB.out.size))
            clear hb
            have Hg5 := Lib.hid g5
            clear g5
            go_wp2_with fail
            refine (block42_c A' ls c' _ HL.out HF.out hc').mono ?_
            rintro e w5 ⟨A6, c6, rfl, hc6, g6, hb⟩
            replace HX := Lib.hid (HX.out.step hb)
            replace HL := Lib.hid (HL.out.step hb)
            replace HP := Lib.hid (HP.out.step hb)
            replace k0 := cell_of_ans hb k0
            replace k1 := cell_of_ans hb k1
            replace k2 := cell_of_ans hb k2
            replace k3 := cell_of_ans hb k3
            replace Hg5 := Lib.hid (Hg5.out.step hb)
            replace HB := Lib.hid (HB.out.trans (hb.mono HB.out.size))
            clear hb
            have Hg6 := Lib.hid g6
            clear g6
            go_wp2_with fail
            refine (plan_some A5 A6 xss ls c5 c6 lo hi ca _ Hg5.out Hg6.out hc5 hc6 HBE.out HPL.out).mono ?_
            rintro e w6 ⟨A7, c7, rfl, hc7, g7, hb⟩
            replace HX := Lib.hid (HX.out.step hb)
            replace HL := Lib.hid (HL.out.step hb)
            replace HP := Lib.hid (HP.out.step hb)
            replace k0 := cell_of_ans hb k0
            replace k1 := cell_of_ans hb k1
            replace k2 := cell_of_ans hb k2
            replace k3 := cell_of_ans hb k3
            replace Hg5 := Lib.hid (Hg5.out.step hb)
            replace Hg6 := Lib.hid (Hg6.out.step hb)
            replace HB := Lib.hid (HB.out.trans (hb.mono HB.out.size))
            clear hb
            have Hg7 := Lib.hid g7
            clear g7
            clear Hg5 Hg6
            clear hc5 hc6
            go_wp2_with fail
            go_loopw [9, 10] (fun v i wr => ∃ (k : Nat) (Av : Option Addr) (cv : Nat), 1 ≤ k ∧ k ≤ max 1 ls.length ∧ i = .int .i64 (k : Int) ∧ v = .slice Av (evF 1 (k - 1)).length cv ∧ OwnI w6.heap.size wr (.slice Av (evF 1 (k - 1)).length cv) (evF 1 (k - 1)) ∧ Below w6.heap.size w6 wr) (fun _ i _ => 30 - (intOf i).toNat)
            case atStart => exact ⟨1, none, 0, by omega, by omega, rfl, rfl, OwnI.nil _ _, Below.refl _ _⟩
            case round =>
              obtain ⟨k, Av, cv, hk1, hkn, rfl, rfl, ho, hbk⟩ := hrel
              have HO := Lib.hid ho
              have HBK := Lib.hid hbk
              have hzk := hbk.size
              have HSN := Lib.hid (evF_snoc (k - 1) 1)
              have HEL := Lib.hid (evF_len (k - 1) 1)
              clear ho hbk
              by_cases h2 : k < ls.length
              · have h2i : (k : Int) < (ls.length : Int) := by omega
                have hw1 : IntKind.i64.wrap ((k : Int) + 1) = (k : Int) + 1 := IntWalk.i64_in _ (by omega)
                have hlen : (evF 1 (k - 1)).length ≤ 1000000 := by rw [HEL.out]; omega
                have HX2 : Hid (evF 1 (k + 1 - 1) = evF 1 (k - 1) ++ [(k : Int)]) := by
                  show _ = _
                  rw [show k + 1 - 1 = (k - 1) + 1 by omega, HSN.out, show 1 + (k - 1) = k by omega]
                clear HSN HEL
                generalize evF 1 (k - 1) = xs at *
                go_wp2_with (at_builtin; refine wpList_app_int (.tmp 47) (.tmp 49) rfl rfl w6.heap.size wr _ xs (k : Int) rfl rfl HO hlen hzk ?_; intro As cs w3 HO3 HB3)
                go_roundw
                case rel => exact ⟨k + 1, As, cs, by omega, by omega, by go_num, by rw [HX2.out, List.length_append]; rfl, by rw [HX2.out, List.length_append]; exact HO3.out, HBK.out.trans HB3.out⟩
                case measure => simp [intOf]; omega
              · have h2i : ¬ (k : Int) < (ls.length : Int) := by omega
                have hkk : k - 1 = ls.length - 1 := by omega
                have hlen : (evF 1 (k - 1)).length ≤ 100 := by rw [HEL.out]; omega
                rw [hkk] at HO hlen ⊢
                clear HSN HEL hkk
                generalize evF 1 (ls.length - 1) = xs at *
                obtain ⟨hcv, g8⟩ := own_parts HO.out
                have Hg8 := Lib.hid g8
                have hb := HBK.out
                clear g8 HBK HO
                replace HX := Lib.hid (HX.out.step hb)
                replace HL := Lib.hid (HL.out.step hb)
                replace HP := Lib.hid (HP.out.step hb)
                replace k0 := cell_of_ans hb k0
                replace k1 := cell_of_ans hb k1
                replace k2 := cell_of_ans hb k2
                replace k3 := cell_of_ans hb k3
                replace Hg7 := Lib.hid (Hg7.out.step hb)
                replace HB := Lib.hid (HB.out.trans (hb.mono HB.out.size))
                clear hb
                cases hpp : provePlan xss lo hi ca ls plan
                · have HP1 := Lib.hid hpp
                  clear hpp HLE
                  go_wp2_with fail
                  refine (lane_c A xss c lo hi ca _ (Nat.le_refl _) HX.out (shortB_big (by omega) HS1.out).1 (shortB_big (by omega) HS1.out).2).mono ?_
                  rintro e w9 ⟨A9, c9, rfl, hc9, g9, hb⟩
                  replace HX := Lib.hid (HX.out.step hb)
                  replace HL := Lib.hid (HL.out.step hb)
                  replace HP := Lib.hid (HP.out.step hb)
                  replace k0 := cell_of_ans hb k0
                  replace k1 := cell_of_ans hb k1
                  replace k2 := cell_of_ans hb k2
                  replace k3 := cell_of_ans hb k3
                  replace Hg7 := Lib.hid (Hg7.out.step hb)
                  replace Hg8 := Lib.hid (Hg8.out.step hb)
                  replace HB := Lib.hid (HB.out.trans (hb.mono HB.out.size))
                  clear hb
                  have Hg9 := Lib.hid g9
                  clear g9
                  go_wp2_with fail
                  refine (block42_c A' ls c' _ HL.out HF.out hc').mono ?_
                  rintro e w10 ⟨A10, c10, rfl, hc10, g10, hb⟩
                  replace HX := Lib.hid (HX.out.step hb)
                  replace HL := Lib.hid (HL.out.step hb)
                  replace HP := Lib.hid (HP.out.step hb)
                  replace k0 := cell_of_ans hb k0
                  replace k1 := cell_of_ans hb k1
                  replace k2 := cell_of_ans hb k2
                  replace k3 := cell_of_ans hb k3
                  replace Hg7 := Lib.hid (Hg7.out.step hb)
                  replace Hg8 := Lib.hid (Hg8.out.step hb)
                  replace Hg9 := Lib.hid (Hg9.out.step hb)
                  replace HB := Lib.hid (HB.out.trans (hb.mono HB.out.size))
                  clear hb
                  have Hg10 := Lib.hid g10
                  clear g10
                  go_wp2_with fail
                  refine (listI_c Ap plan cp _ HP.out (by omega)).mono ?_
                  rintro e w11 ⟨A11, c11, rfl, hc11, g11, hb⟩
                  replace HX := Lib.hid (HX.out.step hb)
                  replace HL := Lib.hid (HL.out.step hb)
                  replace HP := Lib.hid (HP.out.step hb)
                  replace k0 := cell_of_ans hb k0
                  replace k1 := cell_of_ans hb k1
                  replace k2 := cell_of_ans hb k2
                  replace k3 := cell_of_ans hb k3
                  replace Hg7 := Lib.hid (Hg7.out.step hb)
                  replace Hg8 := Lib.hid (Hg8.out.step hb)
                  replace Hg9 := Lib.hid (Hg9.out.step hb)
                  replace Hg10 := Lib.hid (Hg10.out.step hb)
                  replace HB := Lib.hid (HB.out.trans (hb.mono HB.out.size))
                  clear hb
                  have Hg11 := Lib.hid g11
                  clear g11
                  go_wp2_with fail
                  refine (provePlan_c A9 A10 A11 xss ls plan c9 c10 c11 lo hi ca _ Hg9.out Hg10.out Hg11.out hc9 hc10 hc11 (by omega)).mono ?_
                  rw [HP1.out]
                  rintro e w12 ⟨rfl, hb⟩
                  replace HX := Lib.hid (HX.out.step hb)
                  replace HL := Lib.hid (HL.out.step hb)
                  replace HP := Lib.hid (HP.out.step hb)
                  replace k0 := cell_of_ans hb k0
                  replace k1 := cell_of_ans hb k1
                  replace k2 := cell_of_ans hb k2
                  replace k3 := cell_of_ans hb k3
                  replace Hg7 := Lib.hid (Hg7.out.step hb)
                  replace Hg8 := Lib.hid (Hg8.out.step hb)
                  replace Hg9 := Lib.hid (Hg9.out.step hb)
                  replace Hg10 := Lib.hid (Hg10.out.step hb)
                  replace Hg11 := Lib.hid (Hg11.out.step hb)
                  replace HB := Lib.hid (HB.out.trans (hb.mono HB.out.size))
                  clear hb
                  clear Hg9 Hg10 Hg11
                  clear hc9 hc10 hc11
                  go_wp2_with fail
                  refine (lane_c A xss c lo hi ca _ (Nat.le_refl _) HX.out (shortB_big (by omega) HS1.out).1 (shortB_big (by omega) HS1.out).2).mono ?_
                  rintro e w13 ⟨A12, c12, rfl, hc12, g12, hb⟩
                  replace HX := Lib.hid (HX.out.step hb)
                  replace HL := Lib.hid (HL.out.step hb)
                  replace HP := Lib.hid (HP.out.step hb)
                  replace k0 := cell_of_ans hb k0
                  replace k1 := cell_of_ans hb k1
                  replace k2 := cell_of_ans hb k2
                  replace k3 := cell_of_ans hb k3
                  replace Hg7 := Lib.hid (Hg7.out.step hb)
                  replace Hg8 := Lib.hid (Hg8.out.step hb)
                  replace HB := Lib.hid (HB.out.trans (hb.mono HB.out.size))
                  clear hb
                  have Hg12 := Lib.hid g12
                  clear g12
                  go_wp2_with fail
                  refine (block42_c A' ls c' _ HL.out HF.out hc').mono ?_
                  rintro e w14 ⟨A13, c13, rfl, hc13, g13, hb⟩
                  replace HX := Lib.hid (HX.out.step hb)
                  replace HL := Lib.hid (HL.out.step hb)
                  replace HP := Lib.hid (HP.out.step hb)
                  replace k0 := cell_of_ans hb k0
                  replace k1 := cell_of_ans hb k1
                  replace k2 := cell_of_ans hb k2
                  replace k3 := cell_of_ans hb k3
                  replace Hg7 := Lib.hid (Hg7.out.step hb)
                  replace Hg8 := Lib.hid (Hg8.out.step hb)
                  replace Hg12 := Lib.hid (Hg12.out.step hb)
                  replace HB := Lib.hid (HB.out.trans (hb.mono HB.out.size))
                  clear hb
                  have Hg13 := Lib.hid g13
                  clear g13
                  go_wp2_with fail
                  refine (provePlan_c A12 A13 Av xss ls xs c12 c13 cv lo hi ca _ Hg12.out Hg13.out Hg8.out hc12 hc13 hcv (by omega)).mono ?_
                  rw [HP2.out]
                  rintro e w15 ⟨rfl, hb⟩
                  replace HX := Lib.hid (HX.out.step hb)
                  replace HL := Lib.hid (HL.out.step hb)
                  replace HP := Lib.hid (HP.out.step hb)
                  replace k0 := cell_of_ans hb k0
                  replace k1 := cell_of_ans hb k1
                  replace k2 := cell_of_ans hb k2
                  replace k3 := cell_of_ans hb k3
                  replace Hg7 := Lib.hid (Hg7.out.step hb)
                  replace Hg8 := Lib.hid (Hg8.out.step hb)
                  replace Hg12 := Lib.hid (Hg12.out.step hb)
                  replace Hg13 := Lib.hid (Hg13.out.step hb)
                  replace HB := Lib.hid (HB.out.trans (hb.mono HB.out.size))
                  clear hb
                  clear Hg12 Hg13
                  clear hc12 hc13
                  go_wp2_with fail
                  refine (lane_c A xss c lo hi ca _ (Nat.le_refl _) HX.out (shortB_big (by omega) HS1.out).1 (shortB_big (by omega) HS1.out).2).mono ?_
                  rintro e w16 ⟨A14, c14, rfl, hc14, g14, hb⟩
                  replace HX := Lib.hid (HX.out.step hb)
                  replace HL := Lib.hid (HL.out.step hb)
                  replace HP := Lib.hid (HP.out.step hb)
                  replace k0 := cell_of_ans hb k0
                  replace k1 := cell_of_ans hb k1
                  replace k2 := cell_of_ans hb k2
                  replace k3 := cell_of_ans hb k3
                  replace Hg7 := Lib.hid (Hg7.out.step hb)
                  replace Hg8 := Lib.hid (Hg8.out.step hb)
                  replace HB := Lib.hid (HB.out.trans (hb.mono HB.out.size))
                  clear hb
                  have Hg14 := Lib.hid g14
                  clear g14
                  go_wp2_with fail
                  refine (block42_c A' ls c' _ HL.out HF.out hc').mono ?_
                  rintro e w17 ⟨A15, c15, rfl, hc15, g15, hb⟩
                  replace HX := Lib.hid (HX.out.step hb)
                  replace HL := Lib.hid (HL.out.step hb)
                  replace HP := Lib.hid (HP.out.step hb)
                  replace k0 := cell_of_ans hb k0
                  replace k1 := cell_of_ans hb k1
                  replace k2 := cell_of_ans hb k2
                  replace k3 := cell_of_ans hb k3
                  replace Hg7 := Lib.hid (Hg7.out.step hb)
                  replace Hg8 := Lib.hid (Hg8.out.step hb)
                  replace Hg14 := Lib.hid (Hg14.out.step hb)
                  replace HB := Lib.hid (HB.out.trans (hb.mono HB.out.size))
                  clear hb
                  have Hg15 := Lib.hid g15
                  clear g15
                  go_wp2_with fail
                  refine (listI_c A7 q c7 _ Hg7.out (by omega)).mono ?_
                  rintro e w18 ⟨A16, c16, rfl, hc16, g16, hb⟩
                  replace HX := Lib.hid (HX.out.step hb)
                  replace HL := Lib.hid (HL.out.step hb)
                  replace HP := Lib.hid (HP.out.step hb)
                  replace k0 := cell_of_ans hb k0
                  replace k1 := cell_of_ans hb k1
                  replace k2 := cell_of_ans hb k2
                  replace k3 := cell_of_ans hb k3
                  replace Hg7 := Lib.hid (Hg7.out.step hb)
                  replace Hg8 := Lib.hid (Hg8.out.step hb)
                  replace Hg14 := Lib.hid (Hg14.out.step hb)
                  replace Hg15 := Lib.hid (Hg15.out.step hb)
                  replace HB := Lib.hid (HB.out.trans (hb.mono HB.out.size))
                  clear hb
                  have Hg16 := Lib.hid g16
                  clear g16
                  go_wp2_with fail
                  refine (provePlan_c A14 A15 A16 xss ls q c14 c15 c16 lo hi ca _ Hg14.out Hg15.out Hg16.out hc14 hc15 hc16 (by omega)).mono ?_
                  rw [HP3.out]
                  rintro e w19 ⟨rfl, hb⟩
                  replace HX := Lib.hid (HX.out.step hb)
                  replace HL := Lib.hid (HL.out.step hb)
                  replace HP := Lib.hid (HP.out.step hb)
                  replace k0 := cell_of_ans hb k0
                  replace k1 := cell_of_ans hb k1
                  replace k2 := cell_of_ans hb k2
                  replace k3 := cell_of_ans hb k3
                  replace Hg7 := Lib.hid (Hg7.out.step hb)
                  replace Hg8 := Lib.hid (Hg8.out.step hb)
                  replace Hg14 := Lib.hid (Hg14.out.step hb)
                  replace Hg15 := Lib.hid (Hg15.out.step hb)
                  replace Hg16 := Lib.hid (Hg16.out.step hb)
                  replace HB := Lib.hid (HB.out.trans (hb.mono HB.out.size))
                  clear hb
                  clear Hg14 Hg15 Hg16
                  clear hc14 hc15 hc16
                  go_wp2_with fail
                  refine (awake_c _).mono ?_
                  rintro e w21 ⟨rfl, hb⟩
                  replace HX := Lib.hid (HX.out.step hb)
                  replace HL := Lib.hid (HL.out.step hb)
                  replace HP := Lib.hid (HP.out.step hb)
                  replace k0 := cell_of_ans hb k0
                  replace k1 := cell_of_ans hb k1
                  replace k2 := cell_of_ans hb k2
                  replace k3 := cell_of_ans hb k3
                  replace Hg7 := Lib.hid (Hg7.out.step hb)
                  replace Hg8 := Lib.hid (Hg8.out.step hb)
                  replace HB := Lib.hid (HB.out.trans (hb.mono HB.out.size))
                  clear hb
                  go_wp2_with fail
                  go_ret
                  exact ⟨rfl, HB.out⟩
                · have HP1 := Lib.hid hpp
                  have HLS := Lib.hid (HLE.out hpp)
                  clear hpp HLE
                  go_wp2_with fail
                  refine (lane_c A xss c lo hi ca _ (Nat.le_refl _) HX.out (shortB_big (by omega) HS1.out).1 (shortB_big (by omega) HS1.out).2).mono ?_
                  rintro e w9 ⟨A9, c9, rfl, hc9, g9, hb⟩
                  replace HX := Lib.hid (HX.out.step hb)
                  replace HL := Lib.hid (HL.out.step hb)
                  replace HP := Lib.hid (HP.out.step hb)
                  replace k0 := cell_of_ans hb k0
                  replace k1 := cell_of_ans hb k1
                  replace k2 := cell_of_ans hb k2
                  replace k3 := cell_of_ans hb k3
                  replace Hg7 := Lib.hid (Hg7.out.step hb)
                  replace Hg8 := Lib.hid (Hg8.out.step hb)
                  replace HB := Lib.hid (HB.out.trans (hb.mono HB.out.size))
                  clear hb
                  have Hg9 := Lib.hid g9
                  clear g9
                  go_wp2_with fail
                  refine (block42_c A' ls c' _ HL.out HF.out hc').mono ?_
                  rintro e w10 ⟨A10, c10, rfl, hc10, g10, hb⟩
                  replace HX := Lib.hid (HX.out.step hb)
                  replace HL := Lib.hid (HL.out.step hb)
                  replace HP := Lib.hid (HP.out.step hb)
                  replace k0 := cell_of_ans hb k0
                  replace k1 := cell_of_ans hb k1
                  replace k2 := cell_of_ans hb k2
                  replace k3 := cell_of_ans hb k3
                  replace Hg7 := Lib.hid (Hg7.out.step hb)
                  replace Hg8 := Lib.hid (Hg8.out.step hb)
                  replace Hg9 := Lib.hid (Hg9.out.step hb)
                  replace HB := Lib.hid (HB.out.trans (hb.mono HB.out.size))
                  clear hb
                  have Hg10 := Lib.hid g10
                  clear g10
                  go_wp2_with fail
                  refine (listI_c Ap plan cp _ HP.out (by omega)).mono ?_
                  rintro e w11 ⟨A11, c11, rfl, hc11, g11, hb⟩
                  replace HX := Lib.hid (HX.out.step hb)
                  replace HL := Lib.hid (HL.out.step hb)
                  replace HP := Lib.hid (HP.out.step hb)
                  replace k0 := cell_of_ans hb k0
                  replace k1 := cell_of_ans hb k1
                  replace k2 := cell_of_ans hb k2
                  replace k3 := cell_of_ans hb k3
                  replace Hg7 := Lib.hid (Hg7.out.step hb)
                  replace Hg8 := Lib.hid (Hg8.out.step hb)
                  replace Hg9 := Lib.hid (Hg9.out.step hb)
                  replace Hg10 := Lib.hid (Hg10.out.step hb)
                  replace HB := Lib.hid (HB.out.trans (hb.mono HB.out.size))
                  clear hb
                  have Hg11 := Lib.hid g11
                  clear g11
                  go_wp2_with fail
                  refine (provePlan_c A9 A10 A11 xss ls plan c9 c10 c11 lo hi ca _ Hg9.out Hg10.out Hg11.out hc9 hc10 hc11 (by omega)).mono ?_
                  rw [HP1.out]
                  rintro e w12 ⟨rfl, hb⟩
                  replace HX := Lib.hid (HX.out.step hb)
                  replace HL := Lib.hid (HL.out.step hb)
                  replace HP := Lib.hid (HP.out.step hb)
                  replace k0 := cell_of_ans hb k0
                  replace k1 := cell_of_ans hb k1
                  replace k2 := cell_of_ans hb k2
                  replace k3 := cell_of_ans hb k3
                  replace Hg7 := Lib.hid (Hg7.out.step hb)
                  replace Hg8 := Lib.hid (Hg8.out.step hb)
                  replace Hg9 := Lib.hid (Hg9.out.step hb)
                  replace Hg10 := Lib.hid (Hg10.out.step hb)
                  replace Hg11 := Lib.hid (Hg11.out.step hb)
                  replace HB := Lib.hid (HB.out.trans (hb.mono HB.out.size))
                  clear hb
                  clear Hg9 Hg10 Hg11
                  clear hc9 hc10 hc11
                  go_wp2_with fail
                  refine (lane_c A xss c lo hi ca _ (Nat.le_refl _) HX.out (shortB_big (by omega) HS1.out).1 (shortB_big (by omega) HS1.out).2).mono ?_
                  rintro e w13 ⟨A12, c12, rfl, hc12, g12, hb⟩
                  replace HX := Lib.hid (HX.out.step hb)
                  replace HL := Lib.hid (HL.out.step hb)
                  replace HP := Lib.hid (HP.out.step hb)
                  replace k0 := cell_of_ans hb k0
                  replace k1 := cell_of_ans hb k1
                  replace k2 := cell_of_ans hb k2
                  replace k3 := cell_of_ans hb k3
                  replace Hg7 := Lib.hid (Hg7.out.step hb)
                  replace Hg8 := Lib.hid (Hg8.out.step hb)
                  replace HB := Lib.hid (HB.out.trans (hb.mono HB.out.size))
                  clear hb
                  have Hg12 := Lib.hid g12
                  clear g12
                  go_wp2_with fail
                  refine (block42_c A' ls c' _ HL.out HF.out hc').mono ?_
                  rintro e w14 ⟨A13, c13, rfl, hc13, g13, hb⟩
                  replace HX := Lib.hid (HX.out.step hb)
                  replace HL := Lib.hid (HL.out.step hb)
                  replace HP := Lib.hid (HP.out.step hb)
                  replace k0 := cell_of_ans hb k0
                  replace k1 := cell_of_ans hb k1
                  replace k2 := cell_of_ans hb k2
                  replace k3 := cell_of_ans hb k3
                  replace Hg7 := Lib.hid (Hg7.out.step hb)
                  replace Hg8 := Lib.hid (Hg8.out.step hb)
                  replace Hg12 := Lib.hid (Hg12.out.step hb)
                  replace HB := Lib.hid (HB.out.trans (hb.mono HB.out.size))
                  clear hb
                  have Hg13 := Lib.hid g13
                  clear g13
                  go_wp2_with fail
                  refine (provePlan_c A12 A13 Av xss ls xs c12 c13 cv lo hi ca _ Hg12.out Hg13.out Hg8.out hc12 hc13 hcv (by omega)).mono ?_
                  rw [HP2.out]
                  rintro e w15 ⟨rfl, hb⟩
                  replace HX := Lib.hid (HX.out.step hb)
                  replace HL := Lib.hid (HL.out.step hb)
                  replace HP := Lib.hid (HP.out.step hb)
                  replace k0 := cell_of_ans hb k0
                  replace k1 := cell_of_ans hb k1
                  replace k2 := cell_of_ans hb k2
                  replace k3 := cell_of_ans hb k3
                  replace Hg7 := Lib.hid (Hg7.out.step hb)
                  replace Hg8 := Lib.hid (Hg8.out.step hb)
                  replace Hg12 := Lib.hid (Hg12.out.step hb)
                  replace Hg13 := Lib.hid (Hg13.out.step hb)
                  replace HB := Lib.hid (HB.out.trans (hb.mono HB.out.size))
                  clear hb
                  clear Hg12 Hg13
                  clear hc12 hc13
                  go_wp2_with fail
                  refine (lane_c A xss c lo hi ca _ (Nat.le_refl _) HX.out (shortB_big (by omega) HS1.out).1 (shortB_big (by omega) HS1.out).2).mono ?_
                  rintro e w16 ⟨A14, c14, rfl, hc14, g14, hb⟩
                  replace HX := Lib.hid (HX.out.step hb)
                  replace HL := Lib.hid (HL.out.step hb)
                  replace HP := Lib.hid (HP.out.step hb)
                  replace k0 := cell_of_ans hb k0
                  replace k1 := cell_of_ans hb k1
                  replace k2 := cell_of_ans hb k2
                  replace k3 := cell_of_ans hb k3
                  replace Hg7 := Lib.hid (Hg7.out.step hb)
                  replace Hg8 := Lib.hid (Hg8.out.step hb)
                  replace HB := Lib.hid (HB.out.trans (hb.mono HB.out.size))
                  clear hb
                  have Hg14 := Lib.hid g14
                  clear g14
                  go_wp2_with fail
                  refine (block42_c A' ls c' _ HL.out HF.out hc').mono ?_
                  rintro e w17 ⟨A15, c15, rfl, hc15, g15, hb⟩
                  replace HX := Lib.hid (HX.out.step hb)
                  replace HL := Lib.hid (HL.out.step hb)
                  replace HP := Lib.hid (HP.out.step hb)
                  replace k0 := cell_of_ans hb k0
                  replace k1 := cell_of_ans hb k1
                  replace k2 := cell_of_ans hb k2
                  replace k3 := cell_of_ans hb k3
                  replace Hg7 := Lib.hid (Hg7.out.step hb)
                  replace Hg8 := Lib.hid (Hg8.out.step hb)
                  replace Hg14 := Lib.hid (Hg14.out.step hb)
                  replace HB := Lib.hid (HB.out.trans (hb.mono HB.out.size))
                  clear hb
                  have Hg15 := Lib.hid g15
                  clear g15
                  go_wp2_with fail
                  refine (listI_c A7 q c7 _ Hg7.out (by omega)).mono ?_
                  rintro e w18 ⟨A16, c16, rfl, hc16, g16, hb⟩
                  replace HX := Lib.hid (HX.out.step hb)
                  replace HL := Lib.hid (HL.out.step hb)
                  replace HP := Lib.hid (HP.out.step hb)
                  replace k0 := cell_of_ans hb k0
                  replace k1 := cell_of_ans hb k1
                  replace k2 := cell_of_ans hb k2
                  replace k3 := cell_of_ans hb k3
                  replace Hg7 := Lib.hid (Hg7.out.step hb)
                  replace Hg8 := Lib.hid (Hg8.out.step hb)
                  replace Hg14 := Lib.hid (Hg14.out.step hb)
                  replace Hg15 := Lib.hid (Hg15.out.step hb)
                  replace HB := Lib.hid (HB.out.trans (hb.mono HB.out.size))
                  clear hb
                  have Hg16 := Lib.hid g16
                  clear g16
                  go_wp2_with fail
                  refine (provePlan_c A14 A15 A16 xss ls q c14 c15 c16 lo hi ca _ Hg14.out Hg15.out Hg16.out hc14 hc15 hc16 (by omega)).mono ?_
                  rw [HP3.out]
                  rintro e w19 ⟨rfl, hb⟩
                  replace HX := Lib.hid (HX.out.step hb)
                  replace HL := Lib.hid (HL.out.step hb)
                  replace HP := Lib.hid (HP.out.step hb)
                  replace k0 := cell_of_ans hb k0
                  replace k1 := cell_of_ans hb k1
                  replace k2 := cell_of_ans hb k2
                  replace k3 := cell_of_ans hb k3
                  replace Hg7 := Lib.hid (Hg7.out.step hb)
                  replace Hg8 := Lib.hid (Hg8.out.step hb)
                  replace Hg14 := Lib.hid (Hg14.out.step hb)
                  replace Hg15 := Lib.hid (Hg15.out.step hb)
                  replace Hg16 := Lib.hid (Hg16.out.step hb)
                  replace HB := Lib.hid (HB.out.trans (hb.mono HB.out.size))
                  clear hb
                  clear Hg14 Hg15 Hg16
                  clear hc14 hc15 hc16
                  go_wp2_with fail
                  refine (lessA_c Ap A7 plan q cp c7 _ HP.out Hg7.out hcp hc7).mono ?_
                  rw [HLS.out]
                  rintro e w20 ⟨rfl, hb⟩
                  replace HX := Lib.hid (HX.out.step hb)
                  replace HL := Lib.hid (HL.out.step hb)
                  replace HP := Lib.hid (HP.out.step hb)
                  replace k0 := cell_of_ans hb k0
                  replace k1 := cell_of_ans hb k1
                  replace k2 := cell_of_ans hb k2
                  replace k3 := cell_of_ans hb k3
                  replace Hg7 := Lib.hid (Hg7.out.step hb)
                  replace Hg8 := Lib.hid (Hg8.out.step hb)
                  replace HB := Lib.hid (HB.out.trans (hb.mono HB.out.size))
                  clear hb
                  go_wp2_with fail
                  refine (awake_c _).mono ?_
                  rintro e w21 ⟨rfl, hb⟩
                  replace HX := Lib.hid (HX.out.step hb)
                  replace HL := Lib.hid (HL.out.step hb)
                  replace HP := Lib.hid (HP.out.step hb)
                  replace k0 := cell_of_ans hb k0
                  replace k1 := cell_of_ans hb k1
                  replace k2 := cell_of_ans hb k2
                  replace k3 := cell_of_ans hb k3
                  replace Hg7 := Lib.hid (Hg7.out.step hb)
                  replace Hg8 := Lib.hid (Hg8.out.step hb)
                  replace HB := Lib.hid (HB.out.trans (hb.mono HB.out.size))
                  clear hb
                  go_wp2_with fail
                  go_ret
                  exact ⟨rfl, HB.out⟩
        · have z1 : (blockErr xss lo hi ca ls != 0) = true := by simp [hbe]
          clear hbe
          go_wp2_with fail
          refine (awake_c _).mono ?_
          rintro e w9 ⟨rfl, hb⟩
          replace HX := Lib.hid (HX.out.step hb)
          replace HL := Lib.hid (HL.out.step hb)
          replace HP := Lib.hid (HP.out.step hb)
          replace k0 := cell_of_ans hb k0
          replace k1 := cell_of_ans hb k1
          replace k2 := cell_of_ans hb k2
          replace k3 := cell_of_ans hb k3
          replace HB := Lib.hid (HB.out.trans (hb.mono HB.out.size))
          clear hb
          go_wp2_with fail
          go_ret
          exact ⟨rfl, HB.out⟩
      · have h30i : decide ((30 : Int) < (plan.length : Int)) = true := decide_eq_true (by omega)
        go_wp2_with fail
        refine (awake_c _).mono ?_
        rintro e w9 ⟨rfl, hb⟩
        replace HX := Lib.hid (HX.out.step hb)
        replace HL := Lib.hid (HL.out.step hb)
        replace HP := Lib.hid (HP.out.step hb)
        replace k0 := cell_of_ans hb k0
        replace k1 := cell_of_ans hb k1
        replace k2 := cell_of_ans hb k2
        replace k3 := cell_of_ans hb k3
        replace HB := Lib.hid (HB.out.trans (hb.mono HB.out.size))
        clear hb
        go_wp2_with fail
        go_ret
        exact ⟨rfl, HB.out⟩
end Go.Proofs.Ytgnonfomlgkpcaa
