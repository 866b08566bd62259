/-
  The walk of LeagueGives.
-/
import Derived.Test.YtjokbffdepcpkaaGivesM
namespace Go.Proofs.Ytjokbffdepcpkaa
open Go.RowKit
set_option linter.unusedSimpArgs false
set_option linter.unusedVariables false

attribute [local go_sem] Oper.semAt_some
set_option maxRecDepth 100000 in
set_option maxHeartbeats 8000000 in
theorem gives7_c (l : Lg) (A Aw : Option Addr) (c cw : Nat) (ws : List Int) (w : World) (hl : Gms w.heap.size w A l.games) (hc : l.games.length ≤ c ∧ c ≤ 9223372036854775807) (hws : Wds w.heap.size w Aw ws) (hcw : ws.length ≤ cw ∧ cw ≤ 9223372036854775807) :
    Calls Try.prog 7 #[.agg #[.int .i64 l.teams, .slice A l.games.length c], .slice Aw ws.length cw] w (Ans w (.bool true)) := by
  have hb : Below w.heap.size w (w.alloc (.cells #[.int .i64 l.teams, .slice A l.games.length c] 24)) := (Below.refl _ _).alloc (Nat.le_refl _) _
  have HB := Lib.hid hb
  have HL := Lib.hid (hl.step hb)
  have HW := Lib.hid (hws.step hb)
  have HRD := Lib.hid (fun (W : World) (h : Gms W.heap.size W A l.games) => ready34_c l A c W h hc)
  have k0 : (w.alloc (.cells #[.int .i64 l.teams, .slice A l.games.length c] 24)).cell? ⟨w.heap.size, 0, none⟩ = some (.int .i64 l.teams) := by simp
  have k1 : (w.alloc (.cells #[.int .i64 l.teams, .slice A l.games.length c] 24)).cell? ⟨w.heap.size, 1, none⟩ = some (.slice A l.games.length c) := by simp
  clear hb hl hws
  cases hrd : (thinG l.games.length && decide (faultL l = 0))
  · rw [hrd] at HRD
    clear hrd
    go_enter Try.func7, Try.ntmps7
    go_wp2_with fail
    generalize (w.alloc (.cells #[.int .i64 l.teams, .slice A l.games.length c] 24)) = x1 at *
    refine (HRD.out _ HL.out).mono ?_
    rintro e x2 ⟨rfl, hb⟩
    replace HB := Lib.hid (HB.out.trans (hb.mono HB.out.size))
    clear hb
    go_wp2_with fail
    refine (awake16_c _).mono ?_
    rintro e x3 ⟨rfl, hb⟩
    replace HB := Lib.hid (HB.out.trans (hb.mono HB.out.size))
    clear hb
    go_wp2_with fail
    go_ret
    exact ⟨rfl, HB.out⟩
  · rw [hrd] at HRD
    rw [Bool.and_eq_true, decide_eq_true_eq] at hrd
    have hv := valid_iff.1 hrd.2
    have hn : l.games.length ≤ 1000 := by have := hv.len; omega
    have HLG := Lib.hid (fun (W : World) (h : Gms W.heap.size W A l.games) => league18_c l A c W h hc hn)
    have HEN := Lib.hid (fun (W : World) (h : Gms W.heap.size W A l.games) (h2 : Wds W.heap.size W Aw ws) => ended36_c l A Aw c cw ws W h hc hn h2 hcw)
    have hol := opens_len l.games
    have hro := endL_rng ws (opensL l.games).length
    have hoo : outsB l (endL ws (opensL l.games).length) = true := outs_ok (endL_len _ _) (fun k hk => hro k (by rwa [endL_len] at hk))
    obtain ⟨ha1, ha2⟩ := af_ok hv hoo
    have HAF := Lib.hid (fun (A1 A2 : Option Addr) (c1 c2 : Nat) (W : World) (h1 : Gms W.heap.size W A1 l.games) h2 (h3 : Byts W.heap.size W A2 (endL ws (opensL l.games).length)) h4 => after25_c l A1 A2 c1 c2 (endL ws (opensL l.games).length) W h1 h2 h3 h4 (by rw [endL_len]; omega))
    rw [ha1, ha2] at HAF
    have hT2 := hv.t2
    have hT6 := hv.t6
    obtain ⟨T, hT⟩ : ∃ T : Nat, l.teams.toNat = T := ⟨_, rfl⟩
    have HTI : Hid (l.teams = (T : Int)) := by show _ = _; omega
    have HGL : Hid (sumT (aftF l (endL ws (opensL l.games).length)) T = 2 * (l.games.length : Int)) := by
      show _ = _
      rw [← hT]
      exact gives_law hv _ (endL_len _ _)
    have HFR := Lib.hid (fun t => aftF_rng hv (os := endL ws (opensL l.games).length) (endL_len _ _) (fun k hk => hro k (by rwa [endL_len] at hk)) t)
    have HRO := Lib.hid hro
    rw [hT] at HAF
    have hl20 := hv.len
    clear hrd hv hoo ha1 ha2 hro hT
    generalize aftF l (endL ws (opensL l.games).length) = F at *
    go_enter Try.func7, Try.ntmps7
    go_wp2_with fail
    generalize (w.alloc (.cells #[.int .i64 l.teams, .slice A l.games.length c] 24)) = x0 at *
    refine (HRD.out _ HL.out).mono ?_
    rintro e x1 ⟨rfl, hb⟩
    replace HB := Lib.hid (HB.out.trans (hb.mono HB.out.size))
    replace HL := Lib.hid (HL.out.step hb)
    replace HW := Lib.hid (HW.out.step hb)
    replace k0 := cell_of_ans hb k0
    replace k1 := cell_of_ans hb k1
    clear hb
    go_upto_region 3 with fail
    refine wp_region_noPanic ?_
    have hS : (fun W' : World => Below x1.heap.size x1 W') x1.drew := (Below.refl _ _).drew
    refine wp_region_any (by kernel_rfl) (wpAny_of_T (S := fun W' : World => Below x1.heap.size x1 W') (m := 11) _ _ _ _ ?_)
    refine' T_take (i := 0) (v := _) rfl (by kernel_rfl) (by kernel_rfl) (by kernel_rfl) (by kernel_rfl) (fun _ _ _ h => h) (by kernel_rfl) hS ?_ ?_
    rotate_left 1
    · intro Wv hW
      have g0 := cell_of_ans hW k0
      have g1 := cell_of_ans hW k1
      go_simp
      first | done | with_reducible rfl | omega
    try simp only [Act.put, List.setIfInBounds_toArray, List.set_cons_zero, List.set_cons_succ]
    refine' T_take (i := 2) (v := _) rfl (by kernel_rfl) (by kernel_rfl) (by kernel_rfl) (by kernel_rfl) (fun _ _ _ h => h) (by kernel_rfl) hS ?_ ?_
    rotate_left 1
    · intro Wv hW
      have g0 := cell_of_ans hW k0
      have g1 := cell_of_ans hW k1
      go_simp
      first | done | with_reducible rfl | omega
    try simp only [Act.put, List.setIfInBounds_toArray, List.set_cons_zero, List.set_cons_succ]
    refine' T_take (i := 3) (v := _) rfl (by kernel_rfl) (by kernel_rfl) (by kernel_rfl) (by kernel_rfl) (fun _ _ _ h => h) (by kernel_rfl) hS ?_ ?_
    rotate_left 1
    · intro Wv hW
      have g0 := cell_of_ans hW k0
      have g1 := cell_of_ans hW k1
      go_simp
      first | done | with_reducible rfl | omega
    try simp only [Act.put, List.setIfInBounds_toArray, List.set_cons_zero, List.set_cons_succ]
    refine T_ready (rs := [1]) (by kernel_rfl) (by simp) ?_
    refine TReady.cons rfl (fun K hK => ?_) TReady.nil
    try go_simp
    refine (HLG.out _ (HL.out.step hS)).mono ?_
    rintro e y1 ⟨A1, c1, rfl, ⟨hg1, hc11, hc12⟩, hb⟩
    have HG1 := Lib.hid hg1
    have hS2 : Below x1.heap.size x1 y1 := hS.trans (hb.mono hS.size)
    clear hb hg1
    try go_simp
    refine hK.out _ _ (fun _ => hS2) (fun _ => ?_)
    clear hK K hS
    have hS := hS2
    clear hS2
    try simp only [Act.put, List.setIfInBounds_toArray, List.set_cons_zero, List.set_cons_succ]
    refine T_ready (rs := [4]) (by kernel_rfl) (by simp) ?_
    refine TReady.cons rfl (fun K hK => ?_) TReady.nil
    try go_simp
    refine (HEN.out _ (HL.out.step hS) (HW.out.step hS)).mono ?_
    rintro e y2 ⟨A2, c2, rfl, ho2, hb⟩
    obtain ⟨hb1, hb2, hby⟩ := ho2.parts (fun k hk => by have := HRO.out k (by rw [endL_len] at hk; exact hk); omega)
    have HBY := Lib.hid hby
    replace HG1 := Lib.hid (HG1.out.step hb)
    have hS2 : Below x1.heap.size x1 y2 := hS.trans (hb.mono hS.size)
    clear hb hby ho2
    try go_simp
    refine hK.out _ _ (fun _ => hS2) (fun _ => ?_)
    clear hK K hS
    have hS := hS2
    clear hS2
    try simp only [Act.put, List.setIfInBounds_toArray, List.set_cons_zero, List.set_cons_succ]
    refine T_ready (rs := [5]) (by kernel_rfl) (by simp) ?_
    refine TReady.cons rfl (fun K hK => ?_) TReady.nil
    try go_simp
    refine (HAF.out A1 A2 c1 c2 y2 HG1.out ⟨hc11, hc12⟩ HBY.out ⟨hb1, hb2⟩).mono ?_
    rintro e y3 ⟨A3, c3, rfl, ⟨hi3, hc31, hc32⟩, hb⟩
    have HI3 := Lib.hid hi3
    have hS2 : Below x1.heap.size x1 y3 := hS.trans (hb.mono hS.size)
    clear hb hi3
    try go_simp
    refine hK.out _ _ (fun _ => hS2) (fun _ => ?_)
    clear hK K hS
    have hS := hS2
    clear hS2
    try simp only [Act.put, List.setIfInBounds_toArray, List.set_cons_zero, List.set_cons_succ]
    refine' T_take (i := 6) (v := _) rfl (by kernel_rfl) (by kernel_rfl) (by kernel_rfl) (by kernel_rfl) (fun _ _ _ h => h) (by kernel_rfl) hS ?_ ?_
    rotate_left 1
    · intro Wv hW
      have g0 := cell_of_ans hW k0
      have g1 := cell_of_ans hW k1
      go_simp
      first | done | with_reducible rfl | omega
    try simp only [Act.put, List.setIfInBounds_toArray, List.set_cons_zero, List.set_cons_succ]
    refine' T_take (i := 7) (v := _) rfl (by kernel_rfl) (by kernel_rfl) (by kernel_rfl) (by kernel_rfl) (fun _ _ _ h => h) (by kernel_rfl) hS ?_ ?_
    rotate_left 1
    · intro Wv hW
      have g0 := cell_of_ans hW k0
      have g1 := cell_of_ans hW k1
      go_simp
      first | done | with_reducible rfl | omega
    try simp only [Act.put, List.setIfInBounds_toArray, List.set_cons_zero, List.set_cons_succ]
    refine' T_take (i := 8) (v := _) rfl (by kernel_rfl) (by kernel_rfl) (by kernel_rfl) (by kernel_rfl) (fun _ _ _ h => h) (by kernel_rfl) hS ?_ ?_
    rotate_left 1
    · intro Wv hW
      have g0 := cell_of_ans hW k0
      have g1 := cell_of_ans hW k1
      go_simp
      first | done | with_reducible rfl | omega
    try simp only [Act.put, List.setIfInBounds_toArray, List.set_cons_zero, List.set_cons_succ]
    refine' T_take (i := 9) (v := _) rfl (by kernel_rfl) (by kernel_rfl) (by kernel_rfl) (by kernel_rfl) (fun _ _ _ h => h) (by kernel_rfl) hS ?_ ?_
    rotate_left 1
    · intro Wv hW
      have g0 := cell_of_ans hW k0
      have g1 := cell_of_ans hW k1
      go_simp
      first | done | with_reducible rfl | omega
    try simp only [Act.put, List.setIfInBounds_toArray, List.set_cons_zero, List.set_cons_succ]
    refine' T_take (i := 10) (v := _) rfl (by kernel_rfl) (by kernel_rfl) (by kernel_rfl) (by kernel_rfl) (fun _ _ _ h => h) (by kernel_rfl) hS ?_ ?_
    rotate_left 1
    · intro Wv hW
      have g0 := cell_of_ans hW k0
      have g1 := cell_of_ans hW k1
      go_simp
      first | done | with_reducible rfl | omega
    try simp only [Act.put, List.setIfInBounds_toArray, List.set_cons_zero, List.set_cons_succ]
    refine T_done (by kernel_rfl) ?_ _
    refine NoPanic.normal ?_
    try go_simp
    have HLN : Hid (((List.range T).map F).length = T) := by show _ = _; simp
    replace k0 := cell_of_ans hS k0
    replace k1 := cell_of_ans hS k1
    replace HB := Lib.hid (HB.out.trans (hS.mono HB.out.size))
    have HIX : Hid (∀ k, k < T → ix ((List.range T).map F) k = F k) := fun k hk => ix_mapR F hk
    clear hS HG1 HBY HL HW
    generalize (List.range T).map F = xs at *
    go_wp2_with fail
    go_loop [7, 8] (fun s i => ∃ k : Nat, k ≤ T ∧ i = .int .i64 k ∧ s = .int .i64 (sumT F k) ∧ 0 ≤ sumT F k ∧ sumT F k ≤ 60080 * (k : Int)) (fun _ i => T - (intOf i).toNat)
    case atStart => exact ⟨0, by omega, rfl, rfl, by simp [sumT], by simp [sumT]⟩
    case round =>
      obtain ⟨k, hk, rfl, rfl, hs0, hs1⟩ := hrel
      by_cases h1 : k < T
      · have h1i : (k : Int) < (T : Int) := by omega
        have ht6 := HTI.out
        obtain ⟨b, off, rfl, hb0, d0⟩ := HI3.out.at_ (k := k) (by rw [HLN.out]; exact h1)
        rw [HIX.out k (by omega)] at d0
        have hf := HFR.out k
        have HSU : Hid (sumT F (k + 1) = sumT F k + F k) := rfl
        have hnn : ¬ F k < 0 := by omega
        generalize F k = fk at *
        generalize sumT F k = sk at *
        have hwk : IntKind.i64.wrap ((k : Int) + 1) = (k : Int) + 1 := IntWalk.i64_in _ (by omega)
        have hws : IntKind.i64.wrap (sk + fk) = sk + fk := IntWalk.i64_in _ (by omega)
        clear ht6
        go_wp2_with fail
        go_round
        case rel => exact ⟨k + 1, by omega, by go_num, by rw [HSU.out], by rw [HSU.out]; omega, by rw [HSU.out]; omega⟩
        case measure => simp [intOf]; omega
      · obtain rfl : k = T := by omega
        have h1i : ¬ (k : Int) < (k : Int) := by omega
        have hT1 : ((k : Int) == l.teams) = true := by simp; have := HTI.out; omega
        have hw2 : IntKind.i64.wrap (2 * (l.games.length : Int)) = 2 * (l.games.length : Int) := IntWalk.i64_in _ (by omega)
        have hsum : (sumT F k == 2 * (l.games.length : Int)) = true := by rw [HGL.out]; simp
        clear hs0 hs1
        generalize sumT F k = sk at *
        go_wp2_with fail
        refine (awake16_c _).mono ?_
        rintro e x3 ⟨rfl, hb⟩
        have HBF : Hid (Below w.heap.size w x3) := HB.out.trans (hb.mono HB.out.size)
        clear hb
        go_wp2_with fail
        go_ret
        exact ⟨rfl, HBF.out⟩
end Go.Proofs.Ytjokbffdepcpkaa
