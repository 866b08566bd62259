/-
  The walk of LeagueRules.
-/
import Derived.Test.YtjokbffdepcpkaaRulesM
import Derived.Deep.QuietTactic
import Derived.BigQuiet
namespace Go.Proofs.Ytjokbffdepcpkaa
open Go.RowKit
set_option linter.unusedSimpArgs false
set_option linter.unusedVariables false

attribute [local go_sem] Oper.semAt_some
set_option maxRecDepth 100000 in
set_option maxHeartbeats 16000000 in
theorem rules6_c (l : Lg) (A Au : Option Addr) (c cu : Nat) (rules : List Int) (s : Int) (w : World) (hl : Gms w.heap.size w A l.games) (hc : l.games.length ≤ c ∧ c ≤ 9223372036854775807) (hu : Byts w.heap.size w Au rules) (hcu : rules.length ≤ cu ∧ cu ≤ 9223372036854775807) (hs : 0 ≤ s ∧ s ≤ 255) :
    Calls Try.prog 6 #[.agg #[.int .i64 l.teams, .slice A l.games.length c], .slice Au rules.length cu, .int .u8 s] w (Ans w (.bool true)) := by
  have HL := Lib.hid hl
  have HU := Lib.hid hu
  clear hl hu
  have HB := Lib.hid (Below.refl w.heap.size w)
  have hb : Below w.heap.size w (w.alloc (.cells #[.int .i64 l.teams, .slice A l.games.length c] 24)) := (Below.refl _ _).alloc (Nat.le_refl _) _
  have k0 : (w.alloc (.cells #[.int .i64 l.teams, .slice A l.games.length c] 24)).cell? ⟨w.heap.size, 0, none⟩ = some (.int .i64 l.teams) := by simp
  have k1 : (w.alloc (.cells #[.int .i64 l.teams, .slice A l.games.length c] 24)).cell? ⟨w.heap.size, 1, none⟩ = some (.slice A l.games.length c) := by simp
  replace HL := Lib.hid (HL.out.step hb)
  replace HU := Lib.hid (HU.out.step hb)
  replace HB := Lib.hid (HB.out.trans (hb.mono HB.out.size))
  clear hb
  have HRY := Lib.hid (fun (W : World) (h : Gms W.heap.size W A l.games) => ready34_c l A c W h hc)
  cases ht : (thinG l.games.length && decide (faultL l = 0))
  · rw [ht] at HRY
    clear ht
    go_enter Try.func6, Try.ntmps6
    go_wp2_with fail
    generalize (w.alloc (.cells #[.int .i64 l.teams, .slice A l.games.length c] 24)) = x1 at *
    refine (HRY.out _ HL.out).mono ?_
    rintro e x1 ⟨rfl, hb⟩
    replace HL := Lib.hid (HL.out.step hb)
    replace HU := Lib.hid (HU.out.step hb)
    replace k0 := cell_of_ans hb k0
    replace k1 := cell_of_ans hb k1
    replace HB := Lib.hid (HB.out.trans (hb.mono HB.out.size))
    clear hb
    go_wp2_with fail
    refine (awake16_c _).mono ?_
    rintro e x2 ⟨rfl, hb⟩
    replace HL := Lib.hid (HL.out.step hb)
    replace HU := Lib.hid (HU.out.step hb)
    replace k0 := cell_of_ans hb k0
    replace k1 := cell_of_ans hb k1
    replace HB := Lib.hid (HB.out.trans (hb.mono HB.out.size))
    clear hb
    go_wp2_with fail
    go_ret
    exact ⟨rfl, HB.out⟩
  · rw [ht] at HRY
    rw [Bool.and_eq_true, decide_eq_true_eq] at ht
    have hf := ht.2
    have hv := valid_iff.1 hf
    clear ht
    have hn : l.games.length ≤ 1000 := by have := hv.len; omega
    by_cases h5 : 5 < rules.length
    · have h5i : (5 : Int) < (rules.length : Int) := by omega
      clear hf hv
      go_enter Try.func6, Try.ntmps6
      go_wp2_with fail
      generalize (w.alloc (.cells #[.int .i64 l.teams, .slice A l.games.length c] 24)) = x1 at *
      refine (HRY.out _ HL.out).mono ?_
      rintro e x3 ⟨rfl, hb⟩
      replace HL := Lib.hid (HL.out.step hb)
      replace HU := Lib.hid (HU.out.step hb)
      replace k0 := cell_of_ans hb k0
      replace k1 := cell_of_ans hb k1
      replace HB := Lib.hid (HB.out.trans (hb.mono HB.out.size))
      clear hb
      go_wp2_with fail
      refine (awake16_c _).mono ?_
      rintro e x4 ⟨rfl, hb⟩
      replace HL := Lib.hid (HL.out.step hb)
      replace HU := Lib.hid (HU.out.step hb)
      replace k0 := cell_of_ans hb k0
      replace k1 := cell_of_ans hb k1
      replace HB := Lib.hid (HB.out.trans (hb.mono HB.out.size))
      clear hb
      go_wp2_with fail
      go_ret
      exact ⟨rfl, HB.out⟩
    · have h5i : decide ((5 : Int) < (rules.length : Int)) = false := decide_eq_false (by omega)
      have HLI := Lib.hid (fun (W : World) (h : Byts W.heap.size W Au rules) => listed22_c Au cu rules 4 W h (by omega))
      cases h3 : (allB rules.length fun k => inB (ix rules k) 1 4)
      · rw [h3] at HLI
        clear h3 hf hv
        go_enter Try.func6, Try.ntmps6
        go_wp2_with fail
        generalize (w.alloc (.cells #[.int .i64 l.teams, .slice A l.games.length c] 24)) = x1 at *
        refine (HRY.out _ HL.out).mono ?_
        rintro e x5 ⟨rfl, hb⟩
        replace HL := Lib.hid (HL.out.step hb)
        replace HU := Lib.hid (HU.out.step hb)
        replace k0 := cell_of_ans hb k0
        replace k1 := cell_of_ans hb k1
        replace HB := Lib.hid (HB.out.trans (hb.mono HB.out.size))
        clear hb
        go_wp2_with fail
        refine ((HLI.out _ HU.out).mono (fun _ _ h => h.ans)).mono ?_
        rintro e x6 ⟨rfl, hb⟩
        replace HL := Lib.hid (HL.out.step hb)
        replace HU := Lib.hid (HU.out.step hb)
        replace k0 := cell_of_ans hb k0
        replace k1 := cell_of_ans hb k1
        replace HB := Lib.hid (HB.out.trans (hb.mono HB.out.size))
        clear hb
        go_wp2_with fail
        refine (awake16_c _).mono ?_
        rintro e x7 ⟨rfl, hb⟩
        replace HL := Lib.hid (HL.out.step hb)
        replace HU := Lib.hid (HU.out.step hb)
        replace k0 := cell_of_ans hb k0
        replace k1 := cell_of_ans hb k1
        replace HB := Lib.hid (HB.out.trans (hb.mono HB.out.size))
        clear hb
        go_wp2_with fail
        go_ret
        exact ⟨rfl, HB.out⟩
      · rw [h3] at HLI
        have hcode : ∀ k, k < rules.length → Code4 (ix rules k) := fun k hk => by
          have := (inB_eq _ _ _).1 (allB_iff.1 h3 k hk)
          unfold Code4
          omega
        obtain ⟨m, hm⟩ : ∃ m, s % 4 = m := ⟨_, rfl⟩
        have hm1 : s.tmod 4 = m := by rw [Int.tmod_eq_emod_of_nonneg hs.1]; exact hm
        have hm3 : IntKind.u8.wrap m = m := by simp [IntKind.wrap, IntKind.bits, IntKind.signed]; omega
        have hm4 : IntKind.u8.wrap (1 + m) = 1 + m := by simp [IntKind.wrap, IntKind.bits, IntKind.signed]; omega
        have hmr : 0 ≤ m ∧ m ≤ 3 := by omega
        have he : rankErr l rules = 0 := by unfold rankErr; rw [if_pos hf, if_neg (by omega), h3]; rfl
        have hll : (rules ++ [1 + m]).length = rules.length + 1 := by simp
        have hixm : ∀ k, k < rules.length + 1 → ix (rules ++ [1 + m]) k = if k < rules.length then ix rules k else 1 + m := fun k hk => by
          rw [ix_lt (by rw [hll]; exact hk)]
          by_cases h : k < rules.length
          · rw [if_pos h, ix_lt h, List.getElem_append_left]
          · rw [if_neg h]
            obtain rfl : k = rules.length := by omega
            simp
        have he2 : rankErr l (rules ++ [1 + m]) = 0 := by
          unfold rankErr
          rw [if_pos hf, hll, if_neg (by omega), if_pos]
          refine allB_iff.2 fun k hk => ?_
          rw [hixm k hk]
          split
          · next h => exact allB_iff.1 h3 k h
          · rw [inB_eq]; omega
        have HLG := Lib.hid (fun (W : World) (h : Gms W.heap.size W A l.games) => league18_c l A c W h hc hn)
        have HCO := Lib.hid (fun (W : World) (h : Byts W.heap.size W Au rules) => codes20_c Au rules cu W h (by omega))
        have HN35 := Lib.hid (fun (k : Nat) (hk : k < rules.length) (tm : Int) (W : World) (h : Gms W.heap.size W A l.games) => number35_c l A c (ix rules k) (hcode k hk) tm none 0 [] W hv h hc (fun hp => by simp at hp) ⟨by simp, by omega⟩)
        have HRK : Hid (∀ (A1 A2 : Option Addr) (c1 c2 : Nat) (W : World), Gms W.heap.size W A1 l.games → (l.games.length ≤ c1 ∧ c1 ≤ 9223372036854775807) → Byts W.heap.size W A2 rules → (rules.length ≤ c2 ∧ c2 ≤ 9223372036854775807) → Calls Try.prog 19 #[.agg #[.int .i64 l.teams, .slice A1 l.games.length c1], .slice A2 rules.length c2] W (ListE W (rankL l rules) 0)) := fun A1 A2 c1 c2 W h1 h2 h3 h4 => by
          have h := rank19_c l A1 A2 c1 c2 rules W h1 h2 h3 h4 (by omega)
          rw [he] at h
          exact h
        have HRK2 : Hid (∀ (A1 A2 : Option Addr) (c1 c2 : Nat) (W : World), Gms W.heap.size W A1 l.games → (l.games.length ≤ c1 ∧ c1 ≤ 9223372036854775807) → Byts W.heap.size W A2 (rules ++ [1 + m]) → ((rules ++ [1 + m]).length ≤ c2 ∧ c2 ≤ 9223372036854775807) → Calls Try.prog 19 #[.agg #[.int .i64 l.teams, .slice A1 l.games.length c1], .slice A2 (rules.length + 1) c2] W (ListE W (rankL l (rules ++ [1 + m])) 0)) := fun A1 A2 c1 c2 W h1 h2 h3 h4 => by
          have h := rank19_c l A1 A2 c1 c2 (rules ++ [1 + m]) W h1 h2 h3 h4 (by rw [hll]; omega)
          rw [he2, hll] at h
          exact h
        have HRU := Lib.hid (rules_facts hv he he2)
        have HUR := Lib.hid (fun k hk => (HU.out.rng) k hk)
        have HUR2 : Hid (∀ k, k < (rules ++ [1 + m]).length → 0 ≤ ix (rules ++ [1 + m]) k ∧ ix (rules ++ [1 + m]) k ≤ 255) := fun k hk => by
          rw [hll] at hk
          rw [hixm k hk]
          split
          · next h => exact HUR.out k h
          · omega
        have hT2 := hv.t2
        have hT6 := hv.t6
        have hrl : rules.length ≤ 5 := by omega
        clear hf hv h3 h5 he he2 hixm hm hcode
        generalize rankL l rules = R1 at *
        generalize rankL l (rules ++ [1 + m]) = R2 at *
        obtain ⟨T, hT⟩ : ∃ T : Nat, l.teams.toNat = T := ⟨_, rfl⟩
        have HTT : Hid (l.teams = (T : Int)) := by show _ = _; omega
        have HF1 := HRU.out.lt
        have HF2 := HRU.out.eq
        have HF3 := HRU.out.cnt
        have hl1 := HRU.out.l1
        have hl2 := HRU.out.l2
        rw [hT] at HF1 HF2 HF3 hl1 hl2
        replace HF1 := Lib.hid HF1
        replace HF2 := Lib.hid HF2
        replace HF3 := Lib.hid HF3
        have q1 : ((R1.length : Int) != l.teams) = false := by simp [bne]; omega
        have q2 : ((R2.length : Int) != l.teams) = false := by simp [bne]; omega
        have hTp : 2 ≤ T ∧ T ≤ 6 := by omega
        have HL1 := Lib.hid hl1
        have HL2 := Lib.hid hl2
        clear hl1 hl2 HRU hT hT2 hT6
        go_enter Try.func6, Try.ntmps6
        go_wp2_with fail
        generalize (w.alloc (.cells #[.int .i64 l.teams, .slice A l.games.length c] 24)) = x1 at *
        refine (HRY.out _ HL.out).mono ?_
        rintro e x8 ⟨rfl, hb⟩
        replace HL := Lib.hid (HL.out.step hb)
        replace HU := Lib.hid (HU.out.step hb)
        replace k0 := cell_of_ans hb k0
        replace k1 := cell_of_ans hb k1
        replace HB := Lib.hid (HB.out.trans (hb.mono HB.out.size))
        clear hb
        go_wp2_with fail
        refine ((HLI.out _ HU.out).mono (fun _ _ h => h.ans)).mono ?_
        rintro e x9 ⟨rfl, hb⟩
        replace HL := Lib.hid (HL.out.step hb)
        replace HU := Lib.hid (HU.out.step hb)
        replace k0 := cell_of_ans hb k0
        replace k1 := cell_of_ans hb k1
        replace HB := Lib.hid (HB.out.trans (hb.mono HB.out.size))
        clear hb
        go_wp2_with fail
        refine (HLG.out _ HL.out).mono ?_
        rintro e x10 ⟨A1, c1, rfl, ⟨hg1, hc11, hc12⟩, hb⟩
        replace HL := Lib.hid (HL.out.step hb)
        replace HU := Lib.hid (HU.out.step hb)
        replace k0 := cell_of_ans hb k0
        replace k1 := cell_of_ans hb k1
        replace HB := Lib.hid (HB.out.trans (hb.mono HB.out.size))
        clear hb
        have Hhg1 := Lib.hid hg1
        clear hg1
        go_wp2_with fail
        refine (HCO.out _ HU.out).mono ?_
        rintro e x11 ⟨A3, c3, rfl, ho3, hb⟩
        replace HL := Lib.hid (HL.out.step hb)
        replace HU := Lib.hid (HU.out.step hb)
        replace k0 := cell_of_ans hb k0
        replace k1 := cell_of_ans hb k1
        replace Hhg1 := Lib.hid (Hhg1.out.step hb)
        replace HB := Lib.hid (HB.out.trans (hb.mono HB.out.size))
        clear hb
        obtain ⟨hu1, hu2, hby⟩ := ho3.parts HUR.out
        have Hhby := Lib.hid hby
        clear hby ho3
        go_wp2_with fail
        refine (HRK.out A1 A3 c1 c3 _ Hhg1.out ⟨hc11, hc12⟩ Hhby.out ⟨hu1, hu2⟩).mono ?_
        rintro e x12 ⟨A4, c4, rfl, ⟨hi4, hc41, hc42⟩, hb⟩
        replace HL := Lib.hid (HL.out.step hb)
        replace HU := Lib.hid (HU.out.step hb)
        replace k0 := cell_of_ans hb k0
        replace k1 := cell_of_ans hb k1
        replace Hhg1 := Lib.hid (Hhg1.out.step hb)
        replace Hhby := Lib.hid (Hhby.out.step hb)
        replace HB := Lib.hid (HB.out.trans (hb.mono HB.out.size))
        clear hb
        have Hhi4 := Lib.hid hi4
        clear hi4
        clear Hhg1 Hhby
        go_wp2_with fail
        refine (HLG.out _ HL.out).mono ?_
        rintro e x13 ⟨A5, c5, rfl, ⟨hg5, hc51, hc52⟩, hb⟩
        replace HL := Lib.hid (HL.out.step hb)
        replace HU := Lib.hid (HU.out.step hb)
        replace k0 := cell_of_ans hb k0
        replace k1 := cell_of_ans hb k1
        replace Hhi4 := Lib.hid (Hhi4.out.step hb)
        replace HB := Lib.hid (HB.out.trans (hb.mono HB.out.size))
        clear hb
        have Hhg5 := Lib.hid hg5
        clear hg5
        go_wp2_with fail
        refine (HCO.out _ HU.out).mono ?_
        rintro e y1 ⟨A6, c6, rfl, ho6, hb6⟩
        have HO6 := Lib.hid ho6
        have HB6 := Lib.hid hb6
        clear ho6 hb6
        have hzz : x13.heap.size ≤ y1.heap.size := HB6.out.size
        have hlr : rules.length ≤ 1000000 := by omega
        go_wp2_with (at_builtin; refine wpList_app_byt (.tmp 41) (.tmp 45) rfl rfl x13.heap.size y1 _ rules (1 + m) rfl rfl HO6 hlr hzz ?_; intro A9 c9 y2 HO9 HB9)
        obtain ⟨hu3, hu4, hby⟩ := HO9.out.parts HUR2.out
        have hb : Below x13.heap.size x13 y2 := HB6.out.trans HB9.out
        replace HL := Lib.hid (HL.out.step hb)
        replace HU := Lib.hid (HU.out.step hb)
        replace k0 := cell_of_ans hb k0
        replace k1 := cell_of_ans hb k1
        replace Hhi4 := Lib.hid (Hhi4.out.step hb)
        replace Hhg5 := Lib.hid (Hhg5.out.step hb)
        replace HB := Lib.hid (HB.out.trans (hb.mono HB.out.size))
        clear hb
        have Hhby := Lib.hid hby
        clear hby HO6 HO9 HB6 HB9 hzz
        refine (HRK2.out A5 A9 c5 c9 _ Hhg5.out ⟨hc51, hc52⟩ Hhby.out ⟨hu3, hu4⟩).mono ?_
        rintro e x14 ⟨A7, c7, rfl, ⟨hi7, hc71, hc72⟩, hb⟩
        replace HL := Lib.hid (HL.out.step hb)
        replace HU := Lib.hid (HU.out.step hb)
        replace k0 := cell_of_ans hb k0
        replace k1 := cell_of_ans hb k1
        replace Hhi4 := Lib.hid (Hhi4.out.step hb)
        replace Hhg5 := Lib.hid (Hhg5.out.step hb)
        replace Hhby := Lib.hid (Hhby.out.step hb)
        replace HB := Lib.hid (HB.out.trans (hb.mono HB.out.size))
        clear hb
        have Hhi7 := Lib.hid hi7
        clear hi7
        clear Hhg5 Hhby
        clear HRK HRK2 HCO HLG HLI HRY HUR HUR2
        have hl1 := HL1.out
        have hl2 := HL2.out
        obtain ⟨b1, o1, rfl, hb1, hc1⟩ := Hhi4.out (by omega)
        have HC1 := Lib.hid hc1
        obtain ⟨b2, o2, rfl, hb2, hc2⟩ := Hhi7.out (by omega)
        have HC2 := Lib.hid hc2
        clear hc1 hc2 hb1 hb2 Hhi4 Hhi7 hl1 hl2
        go_wp2_with fail
        go_loopw [11] (fun i wr => ∃ t : Nat, t ≤ T ∧ i = .int .i64 t ∧ Below x14.heap.size x14 wr) (fun i _ => T - (intOf i).toNat)
        case atStart => exact ⟨0, by omega, rfl, Below.refl _ _⟩
        case round =>
          obtain ⟨t, ht, rfl, hb⟩ := hrel
          replace k0 := cell_of_ans hb k0
          replace k1 := cell_of_ans hb k1
          have HBR := Lib.hid hb
          by_cases ht1 : t < T
          · have hti : (t : Int) < l.teams := by have := HTT.out; omega
            have hta : (t : Int) < (R1.length : Int) := by have := HL1.out; have := HL2.out; omega
            have htb : (t : Int) < (R2.length : Int) := by have := HL1.out; have := HL2.out; omega
            have a1 := cell_of_ans hb (HC1.out t (by have := HL1.out; have := HL2.out; omega))
            have a2 := cell_of_ans hb (HC2.out t (by have := HL1.out; have := HL2.out; omega))
            have HF1t := Lib.hid (fun o ho => HF1.out o t ho ht1)
            have HF2t := Lib.hid (fun o ho => HF2.out o t ho ht1)
            have HF3t := Lib.hid (HF3.out t ht1)
            clear hb HF1 HF2 HF3
            generalize ix R1 t = s1 at *
            generalize ix R2 t = s2 at *
            go_wp2_with fail
            generalize wr = wt at *
            go_loopw [12, 13] (fun cn i wr => ∃ o : Nat, o ≤ T ∧ i = .int .i64 o ∧ cn = .int .i64 (cntF (ix R2) s2 o) ∧ Below wt.heap.size wt wr) (fun _ i _ => T - (intOf i).toNat)
            case atStart => exact ⟨0, by omega, rfl, rfl, Below.refl _ _⟩
            case round =>
              obtain ⟨o, ho, rfl, rfl, hb⟩ := hrel
              have i0 := cell_of_ans hb k0
              have i1 := cell_of_ans hb k1
              replace a1 := cell_of_ans hb a1
              replace a2 := cell_of_ans hb a2
              have HWR := Lib.hid hb
              by_cases ho1 : o < T
              · have hoi : (o : Int) < l.teams := by have := HTT.out; omega
                have hoa : (o : Int) < (R1.length : Int) := by have := HL1.out; have := HL2.out; omega
                have hob : (o : Int) < (R2.length : Int) := by have := HL1.out; have := HL2.out; omega
                have hxb : Below x14.heap.size x14 wr := HBR.out.trans (hb.mono HBR.out.size)
                have d1 := cell_of_ans hxb (HC1.out o (by have := HL1.out; have := HL2.out; omega))
                have d2 := cell_of_ans hxb (HC2.out o (by have := HL1.out; have := HL2.out; omega))
                have hf1 := HF1t.out o ho1
                have HF2o := Lib.hid (HF2t.out o ho1)
                have HCN : Hid (cntF (ix R2) s2 (o + 1) = if ix R2 o < s2 then cntF (ix R2) s2 o + 1 else cntF (ix R2) s2 o) := rfl
                have hcr := cntF_rng (ix R2) s2 o
                clear hb hxb HF1t HF2t HF3t k0 k1
                generalize cntF (ix R2) s2 o = cn at *
                generalize ix R1 o = p1 at *
                generalize ix R2 o = p2 at *
                have hwc : IntKind.i64.wrap (cn + 1) = cn + 1 := IntWalk.i64_in _ (by omega)
                by_cases hp2 : p2 < s2
                · by_cases hp1 : p1 < s1
                  · have g2 : ¬ s2 ≤ p2 := by omega
                    clear hf1
                    go_upto_region 14 with fail
                    go_quiet (fail)
                    have hbq : Below wr.heap.size wr (wr.drewN nq) := below_drewN (Below.refl _ _) nq
                    replace i0 := cell_of_ans hbq i0
                    replace i1 := cell_of_ans hbq i1
                    replace a1 := cell_of_ans hbq a1
                    replace a2 := cell_of_ans hbq a2
                    replace d1 := cell_of_ans hbq d1
                    replace d2 := cell_of_ans hbq d2
                    replace HWR := Lib.hid (HWR.out.trans (hbq.mono HWR.out.size))
                    clear hbq
                    generalize wr.drewN nq = wq at *
                    go_upto_region 16 with fail
                    go_quiet (fail)
                    have hbq : Below wq.heap.size wq (wq.drewN nq) := below_drewN (Below.refl _ _) nq
                    replace i0 := cell_of_ans hbq i0
                    replace i1 := cell_of_ans hbq i1
                    replace a1 := cell_of_ans hbq a1
                    replace a2 := cell_of_ans hbq a2
                    replace d1 := cell_of_ans hbq d1
                    replace d2 := cell_of_ans hbq d2
                    replace HWR := Lib.hid (HWR.out.trans (hbq.mono HWR.out.size))
                    clear hbq
                    generalize wq.drewN nq = wr at *
                    have HXZ : Hid (Below x14.heap.size x14 wr) := HBR.out.trans (HWR.out.mono HBR.out.size)
                    have HWZ := Lib.hid HWR.out
                    clear HWR a2 d2
                    go_wp2_with fail
                    generalize wr = wz at *
                    go_loopw [14] (fun i wr => ∃ j : Nat, j ≤ rules.length ∧ i = .int .i64 j ∧ Below wz.heap.size wz wr) (fun i _ => rules.length - (intOf i).toNat)
                    case atStart => exact ⟨0, by omega, rfl, Below.refl _ _⟩
                    case round =>
                      obtain ⟨j, hj, rfl, hb⟩ := hrel
                      by_cases hj1 : j < rules.length
                      · have hji : (j : Int) < (rules.length : Int) := by omega
                        have hxw : Below x14.heap.size x14 wr := HXZ.out.trans (hb.mono HXZ.out.size)
                        obtain ⟨b, off, rfl, hbl, r0, r1, r2⟩ := HU.out.at_ hj1
                        replace r0 := cell_of_ans hxw r0
                        replace i0 := cell_of_ans hb i0
                        replace i1 := cell_of_ans hb i1
                        replace a1 := cell_of_ans hb a1
                        replace d1 := cell_of_ans hb d1
                        have HNo := Lib.hid (fun (W : World) (h : Below wr.heap.size wr W) => HN35.out j hj1 (o : Int) W (HL.out.step (hxw.trans (h.mono hxw.size))))
                        have HNt := Lib.hid (fun (W : World) (h : Below wr.heap.size wr W) => HN35.out j hj1 (t : Int) W (HL.out.step (hxw.trans (h.mono hxw.size))))
                        have HBJ := Lib.hid hb
                        have HEQ := Lib.hid (fun h => HF2o.out h j hj1)
                        clear hb hxw HN35 HL HU HF2o HC1 HC2
                        generalize ix rules j = cd at *
                        generalize numS cd (hasI []) (o : Int) l.games = no at *
                        generalize numS cd (hasI []) (t : Int) l.games = nt at *
                        by_cases hcd : cd = 3
                        · have e3 : (cd != 3) = false := by simp [hcd]
                          clear hcd HEQ
                          go_upto_region 21 with fail
                          refine wp_region_noPanic ?_
                          have hS : (fun W' : World => Below wr.heap.size wr W') wr.drew := (Below.refl _ _).drew
                          refine wp_region_any (by kernel_rfl) (wpAny_of_T (S := fun W' : World => Below wr.heap.size wr W') (m := 33) _ _ _ _ ?_)
                          refine' T_take (i := 0) (v := _) rfl (by kernel_rfl) (by kernel_rfl) (by kernel_rfl) (by kernel_rfl) (fun _ _ _ h => h) (by kernel_rfl) hS ?_ ?_
                          rotate_left 1
                          · intro Wv hW
                            replace i0 := cell_of_ans hW i0
                            replace i1 := cell_of_ans hW i1
                            replace a1 := cell_of_ans hW a1
                            replace d1 := cell_of_ans hW d1
                            replace r0 := cell_of_ans hW r0
                            go_simp
                            first | done | with_reducible rfl | omega
                          try simp only [Act.put, List.getElem_toArray, List.getElem_cons_zero, List.getElem_cons_succ, List.setIfInBounds_toArray, List.set_cons_zero, List.set_cons_succ]
                          refine' T_take (i := 1) (v := _) rfl (by kernel_rfl) (by kernel_rfl) (by kernel_rfl) (by kernel_rfl) (fun _ _ _ h => h) (by kernel_rfl) hS ?_ ?_
                          rotate_left 1
                          · intro Wv hW
                            replace i0 := cell_of_ans hW i0
                            replace i1 := cell_of_ans hW i1
                            replace a1 := cell_of_ans hW a1
                            replace d1 := cell_of_ans hW d1
                            replace r0 := cell_of_ans hW r0
                            go_simp
                            first | done | with_reducible rfl | omega
                          try simp only [Act.put, List.getElem_toArray, List.getElem_cons_zero, List.getElem_cons_succ, List.setIfInBounds_toArray, List.set_cons_zero, List.set_cons_succ]
                          refine' T_take (i := 2) (v := _) rfl (by kernel_rfl) (by kernel_rfl) (by kernel_rfl) (by kernel_rfl) (fun _ _ _ h => h) (by kernel_rfl) hS ?_ ?_
                          rotate_left 1
                          · intro Wv hW
                            replace i0 := cell_of_ans hW i0
                            replace i1 := cell_of_ans hW i1
                            replace a1 := cell_of_ans hW a1
                            replace d1 := cell_of_ans hW d1
                            replace r0 := cell_of_ans hW r0
                            go_simp
                            first | done | with_reducible rfl | omega
                          try simp only [Act.put, List.getElem_toArray, List.getElem_cons_zero, List.getElem_cons_succ, List.setIfInBounds_toArray, List.set_cons_zero, List.set_cons_succ]
                          refine' T_take (i := 3) (v := _) rfl (by kernel_rfl) (by kernel_rfl) (by kernel_rfl) (by kernel_rfl) (fun _ _ _ h => h) (by kernel_rfl) hS ?_ ?_
                          rotate_left 1
                          · intro Wv hW
                            replace i0 := cell_of_ans hW i0
                            replace i1 := cell_of_ans hW i1
                            replace a1 := cell_of_ans hW a1
                            replace d1 := cell_of_ans hW d1
                            replace r0 := cell_of_ans hW r0
                            go_simp
                            first | done | with_reducible rfl | omega
                          try simp only [Act.put, List.getElem_toArray, List.getElem_cons_zero, List.getElem_cons_succ, List.setIfInBounds_toArray, List.set_cons_zero, List.set_cons_succ]
                          refine' T_take (i := 4) (v := _) rfl (by kernel_rfl) (by kernel_rfl) (by kernel_rfl) (by kernel_rfl) (fun _ _ _ h => h) (by kernel_rfl) hS ?_ ?_
                          rotate_left 1
                          · intro Wv hW
                            replace i0 := cell_of_ans hW i0
                            replace i1 := cell_of_ans hW i1
                            replace a1 := cell_of_ans hW a1
                            replace d1 := cell_of_ans hW d1
                            replace r0 := cell_of_ans hW r0
                            go_simp
                            first | done | with_reducible rfl | omega
                          try simp only [Act.put, List.getElem_toArray, List.getElem_cons_zero, List.getElem_cons_succ, List.setIfInBounds_toArray, List.set_cons_zero, List.set_cons_succ]
                          refine' T_take (i := 5) (v := .bool false) rfl (by kernel_rfl) (by kernel_rfl) (by kernel_rfl) (by kernel_rfl) (fun _ _ _ h => h) (by kernel_rfl) hS ?_ ?_
                          skip
                          · intro Wv hW
                            replace i0 := cell_of_ans hW i0
                            replace i1 := cell_of_ans hW i1
                            replace a1 := cell_of_ans hW a1
                            replace d1 := cell_of_ans hW d1
                            replace r0 := cell_of_ans hW r0
                            go_simp
                            first | done | with_reducible rfl | omega
                          try simp only [Act.put, List.getElem_toArray, List.getElem_cons_zero, List.getElem_cons_succ, List.setIfInBounds_toArray, List.set_cons_zero, List.set_cons_succ]
                          refine' T_skip (i := 6) rfl (by kernel_rfl) (by kernel_rfl) (by kernel_rfl) (by kernel_rfl) (fun _ _ _ h => h) (by kernel_rfl) hS ?_
                          try simp only [Act.put, List.getElem_toArray, List.getElem_cons_zero, List.getElem_cons_succ, List.setIfInBounds_toArray, List.set_cons_zero, List.set_cons_succ]
                          refine' T_skip (i := 7) rfl (by kernel_rfl) (by kernel_rfl) (by kernel_rfl) (by kernel_rfl) (fun _ _ _ h => h) (by kernel_rfl) hS ?_
                          try simp only [Act.put, List.getElem_toArray, List.getElem_cons_zero, List.getElem_cons_succ, List.setIfInBounds_toArray, List.set_cons_zero, List.set_cons_succ]
                          refine' T_skip (i := 8) rfl (by kernel_rfl) (by kernel_rfl) (by kernel_rfl) (by kernel_rfl) (fun _ _ _ h => h) (by kernel_rfl) hS ?_
                          try simp only [Act.put, List.getElem_toArray, List.getElem_cons_zero, List.getElem_cons_succ, List.setIfInBounds_toArray, List.set_cons_zero, List.set_cons_succ]
                          refine' T_skip (i := 9) rfl (by kernel_rfl) (by kernel_rfl) (by kernel_rfl) (by kernel_rfl) (fun _ _ _ h => h) (by kernel_rfl) hS ?_
                          try simp only [Act.put, List.getElem_toArray, List.getElem_cons_zero, List.getElem_cons_succ, List.setIfInBounds_toArray, List.set_cons_zero, List.set_cons_succ]
                          refine' T_skip (i := 10) rfl (by kernel_rfl) (by kernel_rfl) (by kernel_rfl) (by kernel_rfl) (fun _ _ _ h => h) (by kernel_rfl) hS ?_
                          try simp only [Act.put, List.getElem_toArray, List.getElem_cons_zero, List.getElem_cons_succ, List.setIfInBounds_toArray, List.set_cons_zero, List.set_cons_succ]
                          refine' T_skip (i := 11) rfl (by kernel_rfl) (by kernel_rfl) (by kernel_rfl) (by kernel_rfl) (fun _ _ _ h => h) (by kernel_rfl) hS ?_
                          try simp only [Act.put, List.getElem_toArray, List.getElem_cons_zero, List.getElem_cons_succ, List.setIfInBounds_toArray, List.set_cons_zero, List.set_cons_succ]
                          refine' T_skip (i := 12) rfl (by kernel_rfl) (by kernel_rfl) (by kernel_rfl) (by kernel_rfl) (fun _ _ _ h => h) (by kernel_rfl) hS ?_
                          try simp only [Act.put, List.getElem_toArray, List.getElem_cons_zero, List.getElem_cons_succ, List.setIfInBounds_toArray, List.set_cons_zero, List.set_cons_succ]
                          refine' T_skip (i := 13) rfl (by kernel_rfl) (by kernel_rfl) (by kernel_rfl) (by kernel_rfl) (fun _ _ _ h => h) (by kernel_rfl) hS ?_
                          try simp only [Act.put, List.getElem_toArray, List.getElem_cons_zero, List.getElem_cons_succ, List.setIfInBounds_toArray, List.set_cons_zero, List.set_cons_succ]
                          refine' T_skip (i := 14) rfl (by kernel_rfl) (by kernel_rfl) (by kernel_rfl) (by kernel_rfl) (fun _ _ _ h => h) (by kernel_rfl) hS ?_
                          try simp only [Act.put, List.getElem_toArray, List.getElem_cons_zero, List.getElem_cons_succ, List.setIfInBounds_toArray, List.set_cons_zero, List.set_cons_succ]
                          refine' T_take (i := 15) (v := _) rfl (by kernel_rfl) (by kernel_rfl) (by kernel_rfl) (by kernel_rfl) (fun _ _ _ h => h) (by kernel_rfl) hS ?_ ?_
                          rotate_left 1
                          · intro Wv hW
                            replace i0 := cell_of_ans hW i0
                            replace i1 := cell_of_ans hW i1
                            replace a1 := cell_of_ans hW a1
                            replace d1 := cell_of_ans hW d1
                            replace r0 := cell_of_ans hW r0
                            go_simp
                            first | done | with_reducible rfl | omega
                          try simp only [Act.put, List.getElem_toArray, List.getElem_cons_zero, List.getElem_cons_succ, List.setIfInBounds_toArray, List.set_cons_zero, List.set_cons_succ]
                          refine' T_take (i := 16) (v := .bool false) rfl (by kernel_rfl) (by kernel_rfl) (by kernel_rfl) (by kernel_rfl) (fun _ _ _ h => h) (by kernel_rfl) hS ?_ ?_
                          skip
                          · intro Wv hW
                            replace i0 := cell_of_ans hW i0
                            replace i1 := cell_of_ans hW i1
                            replace a1 := cell_of_ans hW a1
                            replace d1 := cell_of_ans hW d1
                            replace r0 := cell_of_ans hW r0
                            go_simp
                            first | done | with_reducible rfl | omega
                          try simp only [Act.put, List.getElem_toArray, List.getElem_cons_zero, List.getElem_cons_succ, List.setIfInBounds_toArray, List.set_cons_zero, List.set_cons_succ]
                          refine' T_skip (i := 17) rfl (by kernel_rfl) (by kernel_rfl) (by kernel_rfl) (by kernel_rfl) (fun _ _ _ h => h) (by kernel_rfl) hS ?_
                          try simp only [Act.put, List.getElem_toArray, List.getElem_cons_zero, List.getElem_cons_succ, List.setIfInBounds_toArray, List.set_cons_zero, List.set_cons_succ]
                          refine' T_skip (i := 18) rfl (by kernel_rfl) (by kernel_rfl) (by kernel_rfl) (by kernel_rfl) (fun _ _ _ h => h) (by kernel_rfl) hS ?_
                          try simp only [Act.put, List.getElem_toArray, List.getElem_cons_zero, List.getElem_cons_succ, List.setIfInBounds_toArray, List.set_cons_zero, List.set_cons_succ]
                          refine' T_skip (i := 19) rfl (by kernel_rfl) (by kernel_rfl) (by kernel_rfl) (by kernel_rfl) (fun _ _ _ h => h) (by kernel_rfl) hS ?_
                          try simp only [Act.put, List.getElem_toArray, List.getElem_cons_zero, List.getElem_cons_succ, List.setIfInBounds_toArray, List.set_cons_zero, List.set_cons_succ]
                          refine' T_skip (i := 20) rfl (by kernel_rfl) (by kernel_rfl) (by kernel_rfl) (by kernel_rfl) (fun _ _ _ h => h) (by kernel_rfl) hS ?_
                          try simp only [Act.put, List.getElem_toArray, List.getElem_cons_zero, List.getElem_cons_succ, List.setIfInBounds_toArray, List.set_cons_zero, List.set_cons_succ]
                          refine' T_skip (i := 21) rfl (by kernel_rfl) (by kernel_rfl) (by kernel_rfl) (by kernel_rfl) (fun _ _ _ h => h) (by kernel_rfl) hS ?_
                          try simp only [Act.put, List.getElem_toArray, List.getElem_cons_zero, List.getElem_cons_succ, List.setIfInBounds_toArray, List.set_cons_zero, List.set_cons_succ]
                          refine' T_skip (i := 22) rfl (by kernel_rfl) (by kernel_rfl) (by kernel_rfl) (by kernel_rfl) (fun _ _ _ h => h) (by kernel_rfl) hS ?_
                          try simp only [Act.put, List.getElem_toArray, List.getElem_cons_zero, List.getElem_cons_succ, List.setIfInBounds_toArray, List.set_cons_zero, List.set_cons_succ]
                          refine' T_skip (i := 23) rfl (by kernel_rfl) (by kernel_rfl) (by kernel_rfl) (by kernel_rfl) (fun _ _ _ h => h) (by kernel_rfl) hS ?_
                          try simp only [Act.put, List.getElem_toArray, List.getElem_cons_zero, List.getElem_cons_succ, List.setIfInBounds_toArray, List.set_cons_zero, List.set_cons_succ]
                          refine' T_skip (i := 24) rfl (by kernel_rfl) (by kernel_rfl) (by kernel_rfl) (by kernel_rfl) (fun _ _ _ h => h) (by kernel_rfl) hS ?_
                          try simp only [Act.put, List.getElem_toArray, List.getElem_cons_zero, List.getElem_cons_succ, List.setIfInBounds_toArray, List.set_cons_zero, List.set_cons_succ]
                          refine' T_skip (i := 25) rfl (by kernel_rfl) (by kernel_rfl) (by kernel_rfl) (by kernel_rfl) (fun _ _ _ h => h) (by kernel_rfl) hS ?_
                          try simp only [Act.put, List.getElem_toArray, List.getElem_cons_zero, List.getElem_cons_succ, List.setIfInBounds_toArray, List.set_cons_zero, List.set_cons_succ]
                          refine' T_skip (i := 26) rfl (by kernel_rfl) (by kernel_rfl) (by kernel_rfl) (by kernel_rfl) (fun _ _ _ h => h) (by kernel_rfl) hS ?_
                          try simp only [Act.put, List.getElem_toArray, List.getElem_cons_zero, List.getElem_cons_succ, List.setIfInBounds_toArray, List.set_cons_zero, List.set_cons_succ]
                          refine' T_skip (i := 27) rfl (by kernel_rfl) (by kernel_rfl) (by kernel_rfl) (by kernel_rfl) (fun _ _ _ h => h) (by kernel_rfl) hS ?_
                          try simp only [Act.put, List.getElem_toArray, List.getElem_cons_zero, List.getElem_cons_succ, List.setIfInBounds_toArray, List.set_cons_zero, List.set_cons_succ]
                          refine' T_skip (i := 28) rfl (by kernel_rfl) (by kernel_rfl) (by kernel_rfl) (by kernel_rfl) (fun _ _ _ h => h) (by kernel_rfl) hS ?_
                          try simp only [Act.put, List.getElem_toArray, List.getElem_cons_zero, List.getElem_cons_succ, List.setIfInBounds_toArray, List.set_cons_zero, List.set_cons_succ]
                          refine' T_skip (i := 29) rfl (by kernel_rfl) (by kernel_rfl) (by kernel_rfl) (by kernel_rfl) (fun _ _ _ h => h) (by kernel_rfl) hS ?_
                          try simp only [Act.put, List.getElem_toArray, List.getElem_cons_zero, List.getElem_cons_succ, List.setIfInBounds_toArray, List.set_cons_zero, List.set_cons_succ]
                          refine' T_skip (i := 30) rfl (by kernel_rfl) (by kernel_rfl) (by kernel_rfl) (by kernel_rfl) (fun _ _ _ h => h) (by kernel_rfl) hS ?_
                          try simp only [Act.put, List.getElem_toArray, List.getElem_cons_zero, List.getElem_cons_succ, List.setIfInBounds_toArray, List.set_cons_zero, List.set_cons_succ]
                          refine' T_skip (i := 31) rfl (by kernel_rfl) (by kernel_rfl) (by kernel_rfl) (by kernel_rfl) (fun _ _ _ h => h) (by kernel_rfl) hS ?_
                          try simp only [Act.put, List.getElem_toArray, List.getElem_cons_zero, List.getElem_cons_succ, List.setIfInBounds_toArray, List.set_cons_zero, List.set_cons_succ]
                          refine' T_take (i := 32) (v := _) rfl (by kernel_rfl) (by kernel_rfl) (by kernel_rfl) (by kernel_rfl) (fun _ _ _ h => h) (by kernel_rfl) hS ?_ ?_
                          rotate_left 1
                          · intro Wv hW
                            replace i0 := cell_of_ans hW i0
                            replace i1 := cell_of_ans hW i1
                            replace a1 := cell_of_ans hW a1
                            replace d1 := cell_of_ans hW d1
                            replace r0 := cell_of_ans hW r0
                            go_simp
                            first | done | with_reducible rfl | omega
                          try simp only [Act.put, List.getElem_toArray, List.getElem_cons_zero, List.getElem_cons_succ, List.setIfInBounds_toArray, List.set_cons_zero, List.set_cons_succ]
                          refine T_done (by kernel_rfl) ?_ _
                          refine NoPanic.normal ?_
                          try go_simp
                          have HBF := Lib.hid (HBJ.out.trans (hS.mono HBJ.out.size))
                          clear hS
                          go_wp2_with fail
                          go_roundw
                          case rel => exact ⟨j + 1, by omega, by go_num, HBF.out⟩
                          case measure => simp [intOf]; omega
                        · have e3 : (cd != 3) = true := by simp [hcd]
                          by_cases hpq : p1 = s1
                          · have e4 : (p1 == s1) = true := by simp [hpq]
                            have e5 : (no != nt) = false := by rw [HEQ.out hpq hcd]; simp
                            clear hcd hpq HEQ
                            go_upto_region 21 with fail
                            refine wp_region_noPanic ?_
                            have hS : (fun W' : World => Below wr.heap.size wr W') wr.drew := (Below.refl _ _).drew
                            refine wp_region_any (by kernel_rfl) (wpAny_of_T (S := fun W' : World => Below wr.heap.size wr W') (m := 33) _ _ _ _ ?_)
                            refine' T_take (i := 0) (v := _) rfl (by kernel_rfl) (by kernel_rfl) (by kernel_rfl) (by kernel_rfl) (fun _ _ _ h => h) (by kernel_rfl) hS ?_ ?_
                            rotate_left 1
                            · intro Wv hW
                              replace i0 := cell_of_ans hW i0
                              replace i1 := cell_of_ans hW i1
                              replace a1 := cell_of_ans hW a1
                              replace d1 := cell_of_ans hW d1
                              replace r0 := cell_of_ans hW r0
                              go_simp
                              first | done | with_reducible rfl | omega
                            try simp only [Act.put, List.getElem_toArray, List.getElem_cons_zero, List.getElem_cons_succ, List.setIfInBounds_toArray, List.set_cons_zero, List.set_cons_succ]
                            refine' T_take (i := 1) (v := _) rfl (by kernel_rfl) (by kernel_rfl) (by kernel_rfl) (by kernel_rfl) (fun _ _ _ h => h) (by kernel_rfl) hS ?_ ?_
                            rotate_left 1
                            · intro Wv hW
                              replace i0 := cell_of_ans hW i0
                              replace i1 := cell_of_ans hW i1
                              replace a1 := cell_of_ans hW a1
                              replace d1 := cell_of_ans hW d1
                              replace r0 := cell_of_ans hW r0
                              go_simp
                              first | done | with_reducible rfl | omega
                            try simp only [Act.put, List.getElem_toArray, List.getElem_cons_zero, List.getElem_cons_succ, List.setIfInBounds_toArray, List.set_cons_zero, List.set_cons_succ]
                            refine' T_take (i := 2) (v := _) rfl (by kernel_rfl) (by kernel_rfl) (by kernel_rfl) (by kernel_rfl) (fun _ _ _ h => h) (by kernel_rfl) hS ?_ ?_
                            rotate_left 1
                            · intro Wv hW
                              replace i0 := cell_of_ans hW i0
                              replace i1 := cell_of_ans hW i1
                              replace a1 := cell_of_ans hW a1
                              replace d1 := cell_of_ans hW d1
                              replace r0 := cell_of_ans hW r0
                              go_simp
                              first | done | with_reducible rfl | omega
                            try simp only [Act.put, List.getElem_toArray, List.getElem_cons_zero, List.getElem_cons_succ, List.setIfInBounds_toArray, List.set_cons_zero, List.set_cons_succ]
                            refine' T_take (i := 3) (v := _) rfl (by kernel_rfl) (by kernel_rfl) (by kernel_rfl) (by kernel_rfl) (fun _ _ _ h => h) (by kernel_rfl) hS ?_ ?_
                            rotate_left 1
                            · intro Wv hW
                              replace i0 := cell_of_ans hW i0
                              replace i1 := cell_of_ans hW i1
                              replace a1 := cell_of_ans hW a1
                              replace d1 := cell_of_ans hW d1
                              replace r0 := cell_of_ans hW r0
                              go_simp
                              first | done | with_reducible rfl | omega
                            try simp only [Act.put, List.getElem_toArray, List.getElem_cons_zero, List.getElem_cons_succ, List.setIfInBounds_toArray, List.set_cons_zero, List.set_cons_succ]
                            refine' T_take (i := 4) (v := _) rfl (by kernel_rfl) (by kernel_rfl) (by kernel_rfl) (by kernel_rfl) (fun _ _ _ h => h) (by kernel_rfl) hS ?_ ?_
                            rotate_left 1
                            · intro Wv hW
                              replace i0 := cell_of_ans hW i0
                              replace i1 := cell_of_ans hW i1
                              replace a1 := cell_of_ans hW a1
                              replace d1 := cell_of_ans hW d1
                              replace r0 := cell_of_ans hW r0
                              go_simp
                              first | done | with_reducible rfl | omega
                            try simp only [Act.put, List.getElem_toArray, List.getElem_cons_zero, List.getElem_cons_succ, List.setIfInBounds_toArray, List.set_cons_zero, List.set_cons_succ]
                            refine' T_take (i := 5) (v := .bool true) rfl (by kernel_rfl) (by kernel_rfl) (by kernel_rfl) (by kernel_rfl) (fun _ _ _ h => h) (by kernel_rfl) hS ?_ ?_
                            skip
                            · intro Wv hW
                              replace i0 := cell_of_ans hW i0
                              replace i1 := cell_of_ans hW i1
                              replace a1 := cell_of_ans hW a1
                              replace d1 := cell_of_ans hW d1
                              replace r0 := cell_of_ans hW r0
                              go_simp
                              first | done | with_reducible rfl | omega
                            try simp only [Act.put, List.getElem_toArray, List.getElem_cons_zero, List.getElem_cons_succ, List.setIfInBounds_toArray, List.set_cons_zero, List.set_cons_succ]
                            refine' T_take (i := 6) (v := _) rfl (by kernel_rfl) (by kernel_rfl) (by kernel_rfl) (by kernel_rfl) (fun _ _ _ h => h) (by kernel_rfl) hS ?_ ?_
                            rotate_left 1
                            · intro Wv hW
                              replace i0 := cell_of_ans hW i0
                              replace i1 := cell_of_ans hW i1
                              replace a1 := cell_of_ans hW a1
                              replace d1 := cell_of_ans hW d1
                              replace r0 := cell_of_ans hW r0
                              go_simp
                              first | done | with_reducible rfl | omega
                            try simp only [Act.put, List.getElem_toArray, List.getElem_cons_zero, List.getElem_cons_succ, List.setIfInBounds_toArray, List.set_cons_zero, List.set_cons_succ]
                            refine' T_take (i := 7) (v := _) rfl (by kernel_rfl) (by kernel_rfl) (by kernel_rfl) (by kernel_rfl) (fun _ _ _ h => h) (by kernel_rfl) hS ?_ ?_
                            rotate_left 1
                            · intro Wv hW
                              replace i0 := cell_of_ans hW i0
                              replace i1 := cell_of_ans hW i1
                              replace a1 := cell_of_ans hW a1
                              replace d1 := cell_of_ans hW d1
                              replace r0 := cell_of_ans hW r0
                              go_simp
                              first | done | with_reducible rfl | omega
                            try simp only [Act.put, List.getElem_toArray, List.getElem_cons_zero, List.getElem_cons_succ, List.setIfInBounds_toArray, List.set_cons_zero, List.set_cons_succ]
                            refine' T_take (i := 8) (v := _) rfl (by kernel_rfl) (by kernel_rfl) (by kernel_rfl) (by kernel_rfl) (fun _ _ _ h => h) (by kernel_rfl) hS ?_ ?_
                            rotate_left 1
                            · intro Wv hW
                              replace i0 := cell_of_ans hW i0
                              replace i1 := cell_of_ans hW i1
                              replace a1 := cell_of_ans hW a1
                              replace d1 := cell_of_ans hW d1
                              replace r0 := cell_of_ans hW r0
                              go_simp
                              first | done | with_reducible rfl | omega
                            try simp only [Act.put, List.getElem_toArray, List.getElem_cons_zero, List.getElem_cons_succ, List.setIfInBounds_toArray, List.set_cons_zero, List.set_cons_succ]
                            refine' T_take (i := 9) (v := _) rfl (by kernel_rfl) (by kernel_rfl) (by kernel_rfl) (by kernel_rfl) (fun _ _ _ h => h) (by kernel_rfl) hS ?_ ?_
                            rotate_left 1
                            · intro Wv hW
                              replace i0 := cell_of_ans hW i0
                              replace i1 := cell_of_ans hW i1
                              replace a1 := cell_of_ans hW a1
                              replace d1 := cell_of_ans hW d1
                              replace r0 := cell_of_ans hW r0
                              go_simp
                              first | done | with_reducible rfl | omega
                            try simp only [Act.put, List.getElem_toArray, List.getElem_cons_zero, List.getElem_cons_succ, List.setIfInBounds_toArray, List.set_cons_zero, List.set_cons_succ]
                            refine' T_take (i := 10) (v := _) rfl (by kernel_rfl) (by kernel_rfl) (by kernel_rfl) (by kernel_rfl) (fun _ _ _ h => h) (by kernel_rfl) hS ?_ ?_
                            rotate_left 1
                            · intro Wv hW
                              replace i0 := cell_of_ans hW i0
                              replace i1 := cell_of_ans hW i1
                              replace a1 := cell_of_ans hW a1
                              replace d1 := cell_of_ans hW d1
                              replace r0 := cell_of_ans hW r0
                              go_simp
                              first | done | with_reducible rfl | omega
                            try simp only [Act.put, List.getElem_toArray, List.getElem_cons_zero, List.getElem_cons_succ, List.setIfInBounds_toArray, List.set_cons_zero, List.set_cons_succ]
                            refine' T_take (i := 11) (v := _) rfl (by kernel_rfl) (by kernel_rfl) (by kernel_rfl) (by kernel_rfl) (fun _ _ _ h => h) (by kernel_rfl) hS ?_ ?_
                            rotate_left 1
                            · intro Wv hW
                              replace i0 := cell_of_ans hW i0
                              replace i1 := cell_of_ans hW i1
                              replace a1 := cell_of_ans hW a1
                              replace d1 := cell_of_ans hW d1
                              replace r0 := cell_of_ans hW r0
                              go_simp
                              first | done | with_reducible rfl | omega
                            try simp only [Act.put, List.getElem_toArray, List.getElem_cons_zero, List.getElem_cons_succ, List.setIfInBounds_toArray, List.set_cons_zero, List.set_cons_succ]
                            refine' T_take (i := 12) (v := _) rfl (by kernel_rfl) (by kernel_rfl) (by kernel_rfl) (by kernel_rfl) (fun _ _ _ h => h) (by kernel_rfl) hS ?_ ?_
                            rotate_left 1
                            · intro Wv hW
                              replace i0 := cell_of_ans hW i0
                              replace i1 := cell_of_ans hW i1
                              replace a1 := cell_of_ans hW a1
                              replace d1 := cell_of_ans hW d1
                              replace r0 := cell_of_ans hW r0
                              go_simp
                              first | done | with_reducible rfl | omega
                            try simp only [Act.put, List.getElem_toArray, List.getElem_cons_zero, List.getElem_cons_succ, List.setIfInBounds_toArray, List.set_cons_zero, List.set_cons_succ]
                            refine' T_take (i := 13) (v := _) rfl (by kernel_rfl) (by kernel_rfl) (by kernel_rfl) (by kernel_rfl) (fun _ _ _ h => h) (by kernel_rfl) hS ?_ ?_
                            rotate_left 1
                            · intro Wv hW
                              replace i0 := cell_of_ans hW i0
                              replace i1 := cell_of_ans hW i1
                              replace a1 := cell_of_ans hW a1
                              replace d1 := cell_of_ans hW d1
                              replace r0 := cell_of_ans hW r0
                              go_simp
                              first | done | with_reducible rfl | omega
                            try simp only [Act.put, List.getElem_toArray, List.getElem_cons_zero, List.getElem_cons_succ, List.setIfInBounds_toArray, List.set_cons_zero, List.set_cons_succ]
                            refine' T_take (i := 14) (v := _) rfl (by kernel_rfl) (by kernel_rfl) (by kernel_rfl) (by kernel_rfl) (fun _ _ _ h => h) (by kernel_rfl) hS ?_ ?_
                            rotate_left 1
                            · intro Wv hW
                              replace i0 := cell_of_ans hW i0
                              replace i1 := cell_of_ans hW i1
                              replace a1 := cell_of_ans hW a1
                              replace d1 := cell_of_ans hW d1
                              replace r0 := cell_of_ans hW r0
                              go_simp
                              first | done | with_reducible rfl | omega
                            try simp only [Act.put, List.getElem_toArray, List.getElem_cons_zero, List.getElem_cons_succ, List.setIfInBounds_toArray, List.set_cons_zero, List.set_cons_succ]
                            refine' T_take (i := 15) (v := _) rfl (by kernel_rfl) (by kernel_rfl) (by kernel_rfl) (by kernel_rfl) (fun _ _ _ h => h) (by kernel_rfl) hS ?_ ?_
                            rotate_left 1
                            · intro Wv hW
                              replace i0 := cell_of_ans hW i0
                              replace i1 := cell_of_ans hW i1
                              replace a1 := cell_of_ans hW a1
                              replace d1 := cell_of_ans hW d1
                              replace r0 := cell_of_ans hW r0
                              go_simp
                              first | done | with_reducible rfl | omega
                            try simp only [Act.put, List.getElem_toArray, List.getElem_cons_zero, List.getElem_cons_succ, List.setIfInBounds_toArray, List.set_cons_zero, List.set_cons_succ]
                            refine' T_take (i := 16) (v := .bool true) rfl (by kernel_rfl) (by kernel_rfl) (by kernel_rfl) (by kernel_rfl) (fun _ _ _ h => h) (by kernel_rfl) hS ?_ ?_
                            skip
                            · intro Wv hW
                              replace i0 := cell_of_ans hW i0
                              replace i1 := cell_of_ans hW i1
                              replace a1 := cell_of_ans hW a1
                              replace d1 := cell_of_ans hW d1
                              replace r0 := cell_of_ans hW r0
                              go_simp
                              first | done | with_reducible rfl | omega
                            try simp only [Act.put, List.getElem_toArray, List.getElem_cons_zero, List.getElem_cons_succ, List.setIfInBounds_toArray, List.set_cons_zero, List.set_cons_succ]
                            refine' T_take (i := 17) (v := _) rfl (by kernel_rfl) (by kernel_rfl) (by kernel_rfl) (by kernel_rfl) (fun _ _ _ h => h) (by kernel_rfl) hS ?_ ?_
                            rotate_left 1
                            · intro Wv hW
                              replace i0 := cell_of_ans hW i0
                              replace i1 := cell_of_ans hW i1
                              replace a1 := cell_of_ans hW a1
                              replace d1 := cell_of_ans hW d1
                              replace r0 := cell_of_ans hW r0
                              go_simp
                              first | done | with_reducible rfl | omega
                            try simp only [Act.put, List.getElem_toArray, List.getElem_cons_zero, List.getElem_cons_succ, List.setIfInBounds_toArray, List.set_cons_zero, List.set_cons_succ]
                            refine' T_take (i := 18) (v := _) rfl (by kernel_rfl) (by kernel_rfl) (by kernel_rfl) (by kernel_rfl) (fun _ _ _ h => h) (by kernel_rfl) hS ?_ ?_
                            rotate_left 1
                            · intro Wv hW
                              replace i0 := cell_of_ans hW i0
                              replace i1 := cell_of_ans hW i1
                              replace a1 := cell_of_ans hW a1
                              replace d1 := cell_of_ans hW d1
                              replace r0 := cell_of_ans hW r0
                              go_simp
                              first | done | with_reducible rfl | omega
                            try simp only [Act.put, List.getElem_toArray, List.getElem_cons_zero, List.getElem_cons_succ, List.setIfInBounds_toArray, List.set_cons_zero, List.set_cons_succ]
                            refine' T_take (i := 19) (v := _) rfl (by kernel_rfl) (by kernel_rfl) (by kernel_rfl) (by kernel_rfl) (fun _ _ _ h => h) (by kernel_rfl) hS ?_ ?_
                            rotate_left 1
                            · intro Wv hW
                              replace i0 := cell_of_ans hW i0
                              replace i1 := cell_of_ans hW i1
                              replace a1 := cell_of_ans hW a1
                              replace d1 := cell_of_ans hW d1
                              replace r0 := cell_of_ans hW r0
                              go_simp
                              first | done | with_reducible rfl | omega
                            try simp only [Act.put, List.getElem_toArray, List.getElem_cons_zero, List.getElem_cons_succ, List.setIfInBounds_toArray, List.set_cons_zero, List.set_cons_succ]
                            refine' T_take (i := 20) (v := _) rfl (by kernel_rfl) (by kernel_rfl) (by kernel_rfl) (by kernel_rfl) (fun _ _ _ h => h) (by kernel_rfl) hS ?_ ?_
                            rotate_left 1
                            · intro Wv hW
                              replace i0 := cell_of_ans hW i0
                              replace i1 := cell_of_ans hW i1
                              replace a1 := cell_of_ans hW a1
                              replace d1 := cell_of_ans hW d1
                              replace r0 := cell_of_ans hW r0
                              go_simp
                              first | done | with_reducible rfl | omega
                            try simp only [Act.put, List.getElem_toArray, List.getElem_cons_zero, List.getElem_cons_succ, List.setIfInBounds_toArray, List.set_cons_zero, List.set_cons_succ]
                            refine' T_take (i := 21) (v := _) rfl (by kernel_rfl) (by kernel_rfl) (by kernel_rfl) (by kernel_rfl) (fun _ _ _ h => h) (by kernel_rfl) hS ?_ ?_
                            rotate_left 1
                            · intro Wv hW
                              replace i0 := cell_of_ans hW i0
                              replace i1 := cell_of_ans hW i1
                              replace a1 := cell_of_ans hW a1
                              replace d1 := cell_of_ans hW d1
                              replace r0 := cell_of_ans hW r0
                              go_simp
                              first | done | with_reducible rfl | omega
                            try simp only [Act.put, List.getElem_toArray, List.getElem_cons_zero, List.getElem_cons_succ, List.setIfInBounds_toArray, List.set_cons_zero, List.set_cons_succ]
                            refine' T_take (i := 22) (v := _) rfl (by kernel_rfl) (by kernel_rfl) (by kernel_rfl) (by kernel_rfl) (fun _ _ _ h => h) (by kernel_rfl) hS ?_ ?_
                            rotate_left 1
                            · intro Wv hW
                              replace i0 := cell_of_ans hW i0
                              replace i1 := cell_of_ans hW i1
                              replace a1 := cell_of_ans hW a1
                              replace d1 := cell_of_ans hW d1
                              replace r0 := cell_of_ans hW r0
                              go_simp
                              first | done | with_reducible rfl | omega
                            try simp only [Act.put, List.getElem_toArray, List.getElem_cons_zero, List.getElem_cons_succ, List.setIfInBounds_toArray, List.set_cons_zero, List.set_cons_succ]
                            refine' T_take (i := 24) (v := _) rfl (by kernel_rfl) (by kernel_rfl) (by kernel_rfl) (by kernel_rfl) (fun _ _ _ h => h) (by kernel_rfl) hS ?_ ?_
                            rotate_left 1
                            · intro Wv hW
                              replace i0 := cell_of_ans hW i0
                              replace i1 := cell_of_ans hW i1
                              replace a1 := cell_of_ans hW a1
                              replace d1 := cell_of_ans hW d1
                              replace r0 := cell_of_ans hW r0
                              go_simp
                              first | done | with_reducible rfl | omega
                            try simp only [Act.put, List.getElem_toArray, List.getElem_cons_zero, List.getElem_cons_succ, List.setIfInBounds_toArray, List.set_cons_zero, List.set_cons_succ]
                            refine' T_take (i := 25) (v := _) rfl (by kernel_rfl) (by kernel_rfl) (by kernel_rfl) (by kernel_rfl) (fun _ _ _ h => h) (by kernel_rfl) hS ?_ ?_
                            rotate_left 1
                            · intro Wv hW
                              replace i0 := cell_of_ans hW i0
                              replace i1 := cell_of_ans hW i1
                              replace a1 := cell_of_ans hW a1
                              replace d1 := cell_of_ans hW d1
                              replace r0 := cell_of_ans hW r0
                              go_simp
                              first | done | with_reducible rfl | omega
                            try simp only [Act.put, List.getElem_toArray, List.getElem_cons_zero, List.getElem_cons_succ, List.setIfInBounds_toArray, List.set_cons_zero, List.set_cons_succ]
                            refine' T_take (i := 26) (v := _) rfl (by kernel_rfl) (by kernel_rfl) (by kernel_rfl) (by kernel_rfl) (fun _ _ _ h => h) (by kernel_rfl) hS ?_ ?_
                            rotate_left 1
                            · intro Wv hW
                              replace i0 := cell_of_ans hW i0
                              replace i1 := cell_of_ans hW i1
                              replace a1 := cell_of_ans hW a1
                              replace d1 := cell_of_ans hW d1
                              replace r0 := cell_of_ans hW r0
                              go_simp
                              first | done | with_reducible rfl | omega
                            try simp only [Act.put, List.getElem_toArray, List.getElem_cons_zero, List.getElem_cons_succ, List.setIfInBounds_toArray, List.set_cons_zero, List.set_cons_succ]
                            refine' T_take (i := 27) (v := _) rfl (by kernel_rfl) (by kernel_rfl) (by kernel_rfl) (by kernel_rfl) (fun _ _ _ h => h) (by kernel_rfl) hS ?_ ?_
                            rotate_left 1
                            · intro Wv hW
                              replace i0 := cell_of_ans hW i0
                              replace i1 := cell_of_ans hW i1
                              replace a1 := cell_of_ans hW a1
                              replace d1 := cell_of_ans hW d1
                              replace r0 := cell_of_ans hW r0
                              go_simp
                              first | done | with_reducible rfl | omega
                            try simp only [Act.put, List.getElem_toArray, List.getElem_cons_zero, List.getElem_cons_succ, List.setIfInBounds_toArray, List.set_cons_zero, List.set_cons_succ]
                            refine' T_take (i := 28) (v := _) rfl (by kernel_rfl) (by kernel_rfl) (by kernel_rfl) (by kernel_rfl) (fun _ _ _ h => h) (by kernel_rfl) hS ?_ ?_
                            rotate_left 1
                            · intro Wv hW
                              replace i0 := cell_of_ans hW i0
                              replace i1 := cell_of_ans hW i1
                              replace a1 := cell_of_ans hW a1
                              replace d1 := cell_of_ans hW d1
                              replace r0 := cell_of_ans hW r0
                              go_simp
                              first | done | with_reducible rfl | omega
                            try simp only [Act.put, List.getElem_toArray, List.getElem_cons_zero, List.getElem_cons_succ, List.setIfInBounds_toArray, List.set_cons_zero, List.set_cons_succ]
                            refine' T_take (i := 29) (v := _) rfl (by kernel_rfl) (by kernel_rfl) (by kernel_rfl) (by kernel_rfl) (fun _ _ _ h => h) (by kernel_rfl) hS ?_ ?_
                            rotate_left 1
                            · intro Wv hW
                              replace i0 := cell_of_ans hW i0
                              replace i1 := cell_of_ans hW i1
                              replace a1 := cell_of_ans hW a1
                              replace d1 := cell_of_ans hW d1
                              replace r0 := cell_of_ans hW r0
                              go_simp
                              first | done | with_reducible rfl | omega
                            try simp only [Act.put, List.getElem_toArray, List.getElem_cons_zero, List.getElem_cons_succ, List.setIfInBounds_toArray, List.set_cons_zero, List.set_cons_succ]
                            refine T_ready (rs := [23]) (by kernel_rfl) (by simp) ?_
                            refine TReady.cons rfl (fun K hK => ?_) TReady.nil
                            try go_simp
                            refine ((HNo.out _ hS)).mono ?_
                            rintro e vo ⟨rfl, hb⟩
                            have hS2 : Below wr.heap.size wr vo := below_cat hb hS
                            try go_simp
                            refine hK.out _ _ (fun _ => hS2) (fun _ => ?_)
                            clear hK K hS hb
                            replace hS := hS2
                            clear hS2
                            try simp only [Act.put, List.getElem_toArray, List.getElem_cons_zero, List.getElem_cons_succ, List.setIfInBounds_toArray, List.set_cons_zero, List.set_cons_succ]
                            refine T_ready (rs := [30]) (by kernel_rfl) (by simp) ?_
                            refine TReady.cons rfl (fun K hK => ?_) TReady.nil
                            try go_simp
                            refine ((HNt.out _ hS)).mono ?_
                            rintro e vt ⟨rfl, hb⟩
                            have hS2 : Below wr.heap.size wr vt := below_cat hb hS
                            try go_simp
                            refine hK.out _ _ (fun _ => hS2) (fun _ => ?_)
                            clear hK K hS hb
                            replace hS := hS2
                            clear hS2
                            try simp only [Act.put, List.getElem_toArray, List.getElem_cons_zero, List.getElem_cons_succ, List.setIfInBounds_toArray, List.set_cons_zero, List.set_cons_succ]
                            refine' T_take (i := 31) (v := _) rfl (by kernel_rfl) (by kernel_rfl) (by kernel_rfl) (by kernel_rfl) (fun _ _ _ h => h) (by kernel_rfl) hS ?_ ?_
                            rotate_left 1
                            · intro Wv hW
                              replace i0 := cell_of_ans hW i0
                              replace i1 := cell_of_ans hW i1
                              replace a1 := cell_of_ans hW a1
                              replace d1 := cell_of_ans hW d1
                              replace r0 := cell_of_ans hW r0
                              go_simp
                              first | done | with_reducible rfl | omega
                            try simp only [Act.put, List.getElem_toArray, List.getElem_cons_zero, List.getElem_cons_succ, List.setIfInBounds_toArray, List.set_cons_zero, List.set_cons_succ]
                            refine' T_take (i := 32) (v := _) rfl (by kernel_rfl) (by kernel_rfl) (by kernel_rfl) (by kernel_rfl) (fun _ _ _ h => h) (by kernel_rfl) hS ?_ ?_
                            rotate_left 1
                            · intro Wv hW
                              replace i0 := cell_of_ans hW i0
                              replace i1 := cell_of_ans hW i1
                              replace a1 := cell_of_ans hW a1
                              replace d1 := cell_of_ans hW d1
                              replace r0 := cell_of_ans hW r0
                              go_simp
                              first | done | with_reducible rfl | omega
                            try simp only [Act.put, List.getElem_toArray, List.getElem_cons_zero, List.getElem_cons_succ, List.setIfInBounds_toArray, List.set_cons_zero, List.set_cons_succ]
                            refine T_done (by kernel_rfl) ?_ _
                            refine NoPanic.normal ?_
                            try go_simp
                            have HBF := Lib.hid (HBJ.out.trans (hS.mono HBJ.out.size))
                            clear hS
                            go_wp2_with fail
                            go_roundw
                            case rel => exact ⟨j + 1, by omega, by go_num, HBF.out⟩
                            case measure => simp [intOf]; omega
                          · have e4 : (p1 == s1) = false := by simp [hpq]
                            clear hcd hpq HEQ
                            go_upto_region 21 with fail
                            refine wp_region_noPanic ?_
                            have hS : (fun W' : World => Below wr.heap.size wr W') wr.drew := (Below.refl _ _).drew
                            refine wp_region_any (by kernel_rfl) (wpAny_of_T (S := fun W' : World => Below wr.heap.size wr W') (m := 33) _ _ _ _ ?_)
                            refine' T_take (i := 0) (v := _) rfl (by kernel_rfl) (by kernel_rfl) (by kernel_rfl) (by kernel_rfl) (fun _ _ _ h => h) (by kernel_rfl) hS ?_ ?_
                            rotate_left 1
                            · intro Wv hW
                              replace i0 := cell_of_ans hW i0
                              replace i1 := cell_of_ans hW i1
                              replace a1 := cell_of_ans hW a1
                              replace d1 := cell_of_ans hW d1
                              replace r0 := cell_of_ans hW r0
                              go_simp
                              first | done | with_reducible rfl | omega
                            try simp only [Act.put, List.getElem_toArray, List.getElem_cons_zero, List.getElem_cons_succ, List.setIfInBounds_toArray, List.set_cons_zero, List.set_cons_succ]
                            refine' T_take (i := 1) (v := _) rfl (by kernel_rfl) (by kernel_rfl) (by kernel_rfl) (by kernel_rfl) (fun _ _ _ h => h) (by kernel_rfl) hS ?_ ?_
                            rotate_left 1
                            · intro Wv hW
                              replace i0 := cell_of_ans hW i0
                              replace i1 := cell_of_ans hW i1
                              replace a1 := cell_of_ans hW a1
                              replace d1 := cell_of_ans hW d1
                              replace r0 := cell_of_ans hW r0
                              go_simp
                              first | done | with_reducible rfl | omega
                            try simp only [Act.put, List.getElem_toArray, List.getElem_cons_zero, List.getElem_cons_succ, List.setIfInBounds_toArray, List.set_cons_zero, List.set_cons_succ]
                            refine' T_take (i := 2) (v := _) rfl (by kernel_rfl) (by kernel_rfl) (by kernel_rfl) (by kernel_rfl) (fun _ _ _ h => h) (by kernel_rfl) hS ?_ ?_
                            rotate_left 1
                            · intro Wv hW
                              replace i0 := cell_of_ans hW i0
                              replace i1 := cell_of_ans hW i1
                              replace a1 := cell_of_ans hW a1
                              replace d1 := cell_of_ans hW d1
                              replace r0 := cell_of_ans hW r0
                              go_simp
                              first | done | with_reducible rfl | omega
                            try simp only [Act.put, List.getElem_toArray, List.getElem_cons_zero, List.getElem_cons_succ, List.setIfInBounds_toArray, List.set_cons_zero, List.set_cons_succ]
                            refine' T_take (i := 3) (v := _) rfl (by kernel_rfl) (by kernel_rfl) (by kernel_rfl) (by kernel_rfl) (fun _ _ _ h => h) (by kernel_rfl) hS ?_ ?_
                            rotate_left 1
                            · intro Wv hW
                              replace i0 := cell_of_ans hW i0
                              replace i1 := cell_of_ans hW i1
                              replace a1 := cell_of_ans hW a1
                              replace d1 := cell_of_ans hW d1
                              replace r0 := cell_of_ans hW r0
                              go_simp
                              first | done | with_reducible rfl | omega
                            try simp only [Act.put, List.getElem_toArray, List.getElem_cons_zero, List.getElem_cons_succ, List.setIfInBounds_toArray, List.set_cons_zero, List.set_cons_succ]
                            refine' T_take (i := 4) (v := _) rfl (by kernel_rfl) (by kernel_rfl) (by kernel_rfl) (by kernel_rfl) (fun _ _ _ h => h) (by kernel_rfl) hS ?_ ?_
                            rotate_left 1
                            · intro Wv hW
                              replace i0 := cell_of_ans hW i0
                              replace i1 := cell_of_ans hW i1
                              replace a1 := cell_of_ans hW a1
                              replace d1 := cell_of_ans hW d1
                              replace r0 := cell_of_ans hW r0
                              go_simp
                              first | done | with_reducible rfl | omega
                            try simp only [Act.put, List.getElem_toArray, List.getElem_cons_zero, List.getElem_cons_succ, List.setIfInBounds_toArray, List.set_cons_zero, List.set_cons_succ]
                            refine' T_take (i := 5) (v := .bool true) rfl (by kernel_rfl) (by kernel_rfl) (by kernel_rfl) (by kernel_rfl) (fun _ _ _ h => h) (by kernel_rfl) hS ?_ ?_
                            skip
                            · intro Wv hW
                              replace i0 := cell_of_ans hW i0
                              replace i1 := cell_of_ans hW i1
                              replace a1 := cell_of_ans hW a1
                              replace d1 := cell_of_ans hW d1
                              replace r0 := cell_of_ans hW r0
                              go_simp
                              first | done | with_reducible rfl | omega
                            try simp only [Act.put, List.getElem_toArray, List.getElem_cons_zero, List.getElem_cons_succ, List.setIfInBounds_toArray, List.set_cons_zero, List.set_cons_succ]
                            refine' T_take (i := 6) (v := _) rfl (by kernel_rfl) (by kernel_rfl) (by kernel_rfl) (by kernel_rfl) (fun _ _ _ h => h) (by kernel_rfl) hS ?_ ?_
                            rotate_left 1
                            · intro Wv hW
                              replace i0 := cell_of_ans hW i0
                              replace i1 := cell_of_ans hW i1
                              replace a1 := cell_of_ans hW a1
                              replace d1 := cell_of_ans hW d1
                              replace r0 := cell_of_ans hW r0
                              go_simp
                              first | done | with_reducible rfl | omega
                            try simp only [Act.put, List.getElem_toArray, List.getElem_cons_zero, List.getElem_cons_succ, List.setIfInBounds_toArray, List.set_cons_zero, List.set_cons_succ]
                            refine' T_take (i := 7) (v := _) rfl (by kernel_rfl) (by kernel_rfl) (by kernel_rfl) (by kernel_rfl) (fun _ _ _ h => h) (by kernel_rfl) hS ?_ ?_
                            rotate_left 1
                            · intro Wv hW
                              replace i0 := cell_of_ans hW i0
                              replace i1 := cell_of_ans hW i1
                              replace a1 := cell_of_ans hW a1
                              replace d1 := cell_of_ans hW d1
                              replace r0 := cell_of_ans hW r0
                              go_simp
                              first | done | with_reducible rfl | omega
                            try simp only [Act.put, List.getElem_toArray, List.getElem_cons_zero, List.getElem_cons_succ, List.setIfInBounds_toArray, List.set_cons_zero, List.set_cons_succ]
                            refine' T_take (i := 8) (v := _) rfl (by kernel_rfl) (by kernel_rfl) (by kernel_rfl) (by kernel_rfl) (fun _ _ _ h => h) (by kernel_rfl) hS ?_ ?_
                            rotate_left 1
                            · intro Wv hW
                              replace i0 := cell_of_ans hW i0
                              replace i1 := cell_of_ans hW i1
                              replace a1 := cell_of_ans hW a1
                              replace d1 := cell_of_ans hW d1
                              replace r0 := cell_of_ans hW r0
                              go_simp
                              first | done | with_reducible rfl | omega
                            try simp only [Act.put, List.getElem_toArray, List.getElem_cons_zero, List.getElem_cons_succ, List.setIfInBounds_toArray, List.set_cons_zero, List.set_cons_succ]
                            refine' T_take (i := 9) (v := _) rfl (by kernel_rfl) (by kernel_rfl) (by kernel_rfl) (by kernel_rfl) (fun _ _ _ h => h) (by kernel_rfl) hS ?_ ?_
                            rotate_left 1
                            · intro Wv hW
                              replace i0 := cell_of_ans hW i0
                              replace i1 := cell_of_ans hW i1
                              replace a1 := cell_of_ans hW a1
                              replace d1 := cell_of_ans hW d1
                              replace r0 := cell_of_ans hW r0
                              go_simp
                              first | done | with_reducible rfl | omega
                            try simp only [Act.put, List.getElem_toArray, List.getElem_cons_zero, List.getElem_cons_succ, List.setIfInBounds_toArray, List.set_cons_zero, List.set_cons_succ]
                            refine' T_take (i := 10) (v := _) rfl (by kernel_rfl) (by kernel_rfl) (by kernel_rfl) (by kernel_rfl) (fun _ _ _ h => h) (by kernel_rfl) hS ?_ ?_
                            rotate_left 1
                            · intro Wv hW
                              replace i0 := cell_of_ans hW i0
                              replace i1 := cell_of_ans hW i1
                              replace a1 := cell_of_ans hW a1
                              replace d1 := cell_of_ans hW d1
                              replace r0 := cell_of_ans hW r0
                              go_simp
                              first | done | with_reducible rfl | omega
                            try simp only [Act.put, List.getElem_toArray, List.getElem_cons_zero, List.getElem_cons_succ, List.setIfInBounds_toArray, List.set_cons_zero, List.set_cons_succ]
                            refine' T_take (i := 11) (v := _) rfl (by kernel_rfl) (by kernel_rfl) (by kernel_rfl) (by kernel_rfl) (fun _ _ _ h => h) (by kernel_rfl) hS ?_ ?_
                            rotate_left 1
                            · intro Wv hW
                              replace i0 := cell_of_ans hW i0
                              replace i1 := cell_of_ans hW i1
                              replace a1 := cell_of_ans hW a1
                              replace d1 := cell_of_ans hW d1
                              replace r0 := cell_of_ans hW r0
                              go_simp
                              first | done | with_reducible rfl | omega
                            try simp only [Act.put, List.getElem_toArray, List.getElem_cons_zero, List.getElem_cons_succ, List.setIfInBounds_toArray, List.set_cons_zero, List.set_cons_succ]
                            refine' T_take (i := 12) (v := _) rfl (by kernel_rfl) (by kernel_rfl) (by kernel_rfl) (by kernel_rfl) (fun _ _ _ h => h) (by kernel_rfl) hS ?_ ?_
                            rotate_left 1
                            · intro Wv hW
                              replace i0 := cell_of_ans hW i0
                              replace i1 := cell_of_ans hW i1
                              replace a1 := cell_of_ans hW a1
                              replace d1 := cell_of_ans hW d1
                              replace r0 := cell_of_ans hW r0
                              go_simp
                              first | done | with_reducible rfl | omega
                            try simp only [Act.put, List.getElem_toArray, List.getElem_cons_zero, List.getElem_cons_succ, List.setIfInBounds_toArray, List.set_cons_zero, List.set_cons_succ]
                            refine' T_take (i := 13) (v := _) rfl (by kernel_rfl) (by kernel_rfl) (by kernel_rfl) (by kernel_rfl) (fun _ _ _ h => h) (by kernel_rfl) hS ?_ ?_
                            rotate_left 1
                            · intro Wv hW
                              replace i0 := cell_of_ans hW i0
                              replace i1 := cell_of_ans hW i1
                              replace a1 := cell_of_ans hW a1
                              replace d1 := cell_of_ans hW d1
                              replace r0 := cell_of_ans hW r0
                              go_simp
                              first | done | with_reducible rfl | omega
                            try simp only [Act.put, List.getElem_toArray, List.getElem_cons_zero, List.getElem_cons_succ, List.setIfInBounds_toArray, List.set_cons_zero, List.set_cons_succ]
                            refine' T_take (i := 14) (v := _) rfl (by kernel_rfl) (by kernel_rfl) (by kernel_rfl) (by kernel_rfl) (fun _ _ _ h => h) (by kernel_rfl) hS ?_ ?_
                            rotate_left 1
                            · intro Wv hW
                              replace i0 := cell_of_ans hW i0
                              replace i1 := cell_of_ans hW i1
                              replace a1 := cell_of_ans hW a1
                              replace d1 := cell_of_ans hW d1
                              replace r0 := cell_of_ans hW r0
                              go_simp
                              first | done | with_reducible rfl | omega
                            try simp only [Act.put, List.getElem_toArray, List.getElem_cons_zero, List.getElem_cons_succ, List.setIfInBounds_toArray, List.set_cons_zero, List.set_cons_succ]
                            refine' T_take (i := 15) (v := _) rfl (by kernel_rfl) (by kernel_rfl) (by kernel_rfl) (by kernel_rfl) (fun _ _ _ h => h) (by kernel_rfl) hS ?_ ?_
                            rotate_left 1
                            · intro Wv hW
                              replace i0 := cell_of_ans hW i0
                              replace i1 := cell_of_ans hW i1
                              replace a1 := cell_of_ans hW a1
                              replace d1 := cell_of_ans hW d1
                              replace r0 := cell_of_ans hW r0
                              go_simp
                              first | done | with_reducible rfl | omega
                            try simp only [Act.put, List.getElem_toArray, List.getElem_cons_zero, List.getElem_cons_succ, List.setIfInBounds_toArray, List.set_cons_zero, List.set_cons_succ]
                            refine' T_take (i := 16) (v := .bool false) rfl (by kernel_rfl) (by kernel_rfl) (by kernel_rfl) (by kernel_rfl) (fun _ _ _ h => h) (by kernel_rfl) hS ?_ ?_
                            skip
                            · intro Wv hW
                              replace i0 := cell_of_ans hW i0
                              replace i1 := cell_of_ans hW i1
                              replace a1 := cell_of_ans hW a1
                              replace d1 := cell_of_ans hW d1
                              replace r0 := cell_of_ans hW r0
                              go_simp
                              first | done | with_reducible rfl | omega
                            try simp only [Act.put, List.getElem_toArray, List.getElem_cons_zero, List.getElem_cons_succ, List.setIfInBounds_toArray, List.set_cons_zero, List.set_cons_succ]
                            refine' T_skip (i := 17) rfl (by kernel_rfl) (by kernel_rfl) (by kernel_rfl) (by kernel_rfl) (fun _ _ _ h => h) (by kernel_rfl) hS ?_
                            try simp only [Act.put, List.getElem_toArray, List.getElem_cons_zero, List.getElem_cons_succ, List.setIfInBounds_toArray, List.set_cons_zero, List.set_cons_succ]
                            refine' T_skip (i := 18) rfl (by kernel_rfl) (by kernel_rfl) (by kernel_rfl) (by kernel_rfl) (fun _ _ _ h => h) (by kernel_rfl) hS ?_
                            try simp only [Act.put, List.getElem_toArray, List.getElem_cons_zero, List.getElem_cons_succ, List.setIfInBounds_toArray, List.set_cons_zero, List.set_cons_succ]
                            refine' T_skip (i := 19) rfl (by kernel_rfl) (by kernel_rfl) (by kernel_rfl) (by kernel_rfl) (fun _ _ _ h => h) (by kernel_rfl) hS ?_
                            try simp only [Act.put, List.getElem_toArray, List.getElem_cons_zero, List.getElem_cons_succ, List.setIfInBounds_toArray, List.set_cons_zero, List.set_cons_succ]
                            refine' T_skip (i := 20) rfl (by kernel_rfl) (by kernel_rfl) (by kernel_rfl) (by kernel_rfl) (fun _ _ _ h => h) (by kernel_rfl) hS ?_
                            try simp only [Act.put, List.getElem_toArray, List.getElem_cons_zero, List.getElem_cons_succ, List.setIfInBounds_toArray, List.set_cons_zero, List.set_cons_succ]
                            refine' T_skip (i := 21) rfl (by kernel_rfl) (by kernel_rfl) (by kernel_rfl) (by kernel_rfl) (fun _ _ _ h => h) (by kernel_rfl) hS ?_
                            try simp only [Act.put, List.getElem_toArray, List.getElem_cons_zero, List.getElem_cons_succ, List.setIfInBounds_toArray, List.set_cons_zero, List.set_cons_succ]
                            refine' T_skip (i := 22) rfl (by kernel_rfl) (by kernel_rfl) (by kernel_rfl) (by kernel_rfl) (fun _ _ _ h => h) (by kernel_rfl) hS ?_
                            try simp only [Act.put, List.getElem_toArray, List.getElem_cons_zero, List.getElem_cons_succ, List.setIfInBounds_toArray, List.set_cons_zero, List.set_cons_succ]
                            refine' T_skip (i := 23) rfl (by kernel_rfl) (by kernel_rfl) (by kernel_rfl) (by kernel_rfl) (fun _ _ _ h => h) (by kernel_rfl) hS ?_
                            try simp only [Act.put, List.getElem_toArray, List.getElem_cons_zero, List.getElem_cons_succ, List.setIfInBounds_toArray, List.set_cons_zero, List.set_cons_succ]
                            refine' T_skip (i := 24) rfl (by kernel_rfl) (by kernel_rfl) (by kernel_rfl) (by kernel_rfl) (fun _ _ _ h => h) (by kernel_rfl) hS ?_
                            try simp only [Act.put, List.getElem_toArray, List.getElem_cons_zero, List.getElem_cons_succ, List.setIfInBounds_toArray, List.set_cons_zero, List.set_cons_succ]
                            refine' T_skip (i := 25) rfl (by kernel_rfl) (by kernel_rfl) (by kernel_rfl) (by kernel_rfl) (fun _ _ _ h => h) (by kernel_rfl) hS ?_
                            try simp only [Act.put, List.getElem_toArray, List.getElem_cons_zero, List.getElem_cons_succ, List.setIfInBounds_toArray, List.set_cons_zero, List.set_cons_succ]
                            refine' T_skip (i := 26) rfl (by kernel_rfl) (by kernel_rfl) (by kernel_rfl) (by kernel_rfl) (fun _ _ _ h => h) (by kernel_rfl) hS ?_
                            try simp only [Act.put, List.getElem_toArray, List.getElem_cons_zero, List.getElem_cons_succ, List.setIfInBounds_toArray, List.set_cons_zero, List.set_cons_succ]
                            refine' T_skip (i := 27) rfl (by kernel_rfl) (by kernel_rfl) (by kernel_rfl) (by kernel_rfl) (fun _ _ _ h => h) (by kernel_rfl) hS ?_
                            try simp only [Act.put, List.getElem_toArray, List.getElem_cons_zero, List.getElem_cons_succ, List.setIfInBounds_toArray, List.set_cons_zero, List.set_cons_succ]
                            refine' T_skip (i := 28) rfl (by kernel_rfl) (by kernel_rfl) (by kernel_rfl) (by kernel_rfl) (fun _ _ _ h => h) (by kernel_rfl) hS ?_
                            try simp only [Act.put, List.getElem_toArray, List.getElem_cons_zero, List.getElem_cons_succ, List.setIfInBounds_toArray, List.set_cons_zero, List.set_cons_succ]
                            refine' T_skip (i := 29) rfl (by kernel_rfl) (by kernel_rfl) (by kernel_rfl) (by kernel_rfl) (fun _ _ _ h => h) (by kernel_rfl) hS ?_
                            try simp only [Act.put, List.getElem_toArray, List.getElem_cons_zero, List.getElem_cons_succ, List.setIfInBounds_toArray, List.set_cons_zero, List.set_cons_succ]
                            refine' T_skip (i := 30) rfl (by kernel_rfl) (by kernel_rfl) (by kernel_rfl) (by kernel_rfl) (fun _ _ _ h => h) (by kernel_rfl) hS ?_
                            try simp only [Act.put, List.getElem_toArray, List.getElem_cons_zero, List.getElem_cons_succ, List.setIfInBounds_toArray, List.set_cons_zero, List.set_cons_succ]
                            refine' T_skip (i := 31) rfl (by kernel_rfl) (by kernel_rfl) (by kernel_rfl) (by kernel_rfl) (fun _ _ _ h => h) (by kernel_rfl) hS ?_
                            try simp only [Act.put, List.getElem_toArray, List.getElem_cons_zero, List.getElem_cons_succ, List.setIfInBounds_toArray, List.set_cons_zero, List.set_cons_succ]
                            refine' T_take (i := 32) (v := _) rfl (by kernel_rfl) (by kernel_rfl) (by kernel_rfl) (by kernel_rfl) (fun _ _ _ h => h) (by kernel_rfl) hS ?_ ?_
                            rotate_left 1
                            · intro Wv hW
                              replace i0 := cell_of_ans hW i0
                              replace i1 := cell_of_ans hW i1
                              replace a1 := cell_of_ans hW a1
                              replace d1 := cell_of_ans hW d1
                              replace r0 := cell_of_ans hW r0
                              go_simp
                              first | done | with_reducible rfl | omega
                            try simp only [Act.put, List.getElem_toArray, List.getElem_cons_zero, List.getElem_cons_succ, List.setIfInBounds_toArray, List.set_cons_zero, List.set_cons_succ]
                            refine T_done (by kernel_rfl) ?_ _
                            refine NoPanic.normal ?_
                            try go_simp
                            have HBF := Lib.hid (HBJ.out.trans (hS.mono HBJ.out.size))
                            clear hS
                            go_wp2_with fail
                            go_roundw
                            case rel => exact ⟨j + 1, by omega, by go_num, HBF.out⟩
                            case measure => simp [intOf]; omega
                      · obtain rfl : j = rules.length := by omega
                        have hji : ¬ (rules.length : Int) < (rules.length : Int) := by omega
                        have HBF := Lib.hid (HWZ.out.trans (hb.mono HWZ.out.size))
                        clear hb
                        go_wp2_with fail
                        go_roundw
                        case rel => exact ⟨o + 1, by omega, by go_num, by rw [HCN.out, if_pos hp2], HBF.out⟩
                        case measure => simp [intOf]; omega
                  · have g2 : ¬ s2 ≤ p2 := by omega
                    clear hf1
                    go_upto_region 14 with fail
                    go_quiet (fail)
                    have hbq : Below wr.heap.size wr (wr.drewN nq) := below_drewN (Below.refl _ _) nq
                    replace i0 := cell_of_ans hbq i0
                    replace i1 := cell_of_ans hbq i1
                    replace a1 := cell_of_ans hbq a1
                    replace a2 := cell_of_ans hbq a2
                    replace d1 := cell_of_ans hbq d1
                    replace d2 := cell_of_ans hbq d2
                    replace HWR := Lib.hid (HWR.out.trans (hbq.mono HWR.out.size))
                    clear hbq
                    generalize wr.drewN nq = wq at *
                    go_upto_region 16 with fail
                    go_quiet (fail)
                    have hbq : Below wq.heap.size wq (wq.drewN nq) := below_drewN (Below.refl _ _) nq
                    replace i0 := cell_of_ans hbq i0
                    replace i1 := cell_of_ans hbq i1
                    replace a1 := cell_of_ans hbq a1
                    replace a2 := cell_of_ans hbq a2
                    replace d1 := cell_of_ans hbq d1
                    replace d2 := cell_of_ans hbq d2
                    replace HWR := Lib.hid (HWR.out.trans (hbq.mono HWR.out.size))
                    clear hbq
                    generalize wq.drewN nq = wr at *
                    have HXZ : Hid (Below x14.heap.size x14 wr) := HBR.out.trans (HWR.out.mono HBR.out.size)
                    have HWZ := Lib.hid HWR.out
                    clear HWR a2 d2
                    go_wp2_with fail
                    generalize wr = wz at *
                    go_loopw [14] (fun i wr => ∃ j : Nat, j ≤ rules.length ∧ i = .int .i64 j ∧ Below wz.heap.size wz wr) (fun i _ => rules.length - (intOf i).toNat)
                    case atStart => exact ⟨0, by omega, rfl, Below.refl _ _⟩
                    case round =>
                      obtain ⟨j, hj, rfl, hb⟩ := hrel
                      by_cases hj1 : j < rules.length
                      · have hji : (j : Int) < (rules.length : Int) := by omega
                        have hxw : Below x14.heap.size x14 wr := HXZ.out.trans (hb.mono HXZ.out.size)
                        obtain ⟨b, off, rfl, hbl, r0, r1, r2⟩ := HU.out.at_ hj1
                        replace r0 := cell_of_ans hxw r0
                        replace i0 := cell_of_ans hb i0
                        replace i1 := cell_of_ans hb i1
                        replace a1 := cell_of_ans hb a1
                        replace d1 := cell_of_ans hb d1
                        have HNo := Lib.hid (fun (W : World) (h : Below wr.heap.size wr W) => HN35.out j hj1 (o : Int) W (HL.out.step (hxw.trans (h.mono hxw.size))))
                        have HNt := Lib.hid (fun (W : World) (h : Below wr.heap.size wr W) => HN35.out j hj1 (t : Int) W (HL.out.step (hxw.trans (h.mono hxw.size))))
                        have HBJ := Lib.hid hb
                        have HEQ := Lib.hid (fun h => HF2o.out h j hj1)
                        clear hb hxw HN35 HL HU HF2o HC1 HC2
                        generalize ix rules j = cd at *
                        generalize numS cd (hasI []) (o : Int) l.games = no at *
                        generalize numS cd (hasI []) (t : Int) l.games = nt at *
                        by_cases hcd : cd = 3
                        · have e3 : (cd != 3) = false := by simp [hcd]
                          clear hcd HEQ
                          go_upto_region 21 with fail
                          refine wp_region_noPanic ?_
                          have hS : (fun W' : World => Below wr.heap.size wr W') wr.drew := (Below.refl _ _).drew
                          refine wp_region_any (by kernel_rfl) (wpAny_of_T (S := fun W' : World => Below wr.heap.size wr W') (m := 33) _ _ _ _ ?_)
                          refine' T_take (i := 0) (v := _) rfl (by kernel_rfl) (by kernel_rfl) (by kernel_rfl) (by kernel_rfl) (fun _ _ _ h => h) (by kernel_rfl) hS ?_ ?_
                          rotate_left 1
                          · intro Wv hW
                            replace i0 := cell_of_ans hW i0
                            replace i1 := cell_of_ans hW i1
                            replace a1 := cell_of_ans hW a1
                            replace d1 := cell_of_ans hW d1
                            replace r0 := cell_of_ans hW r0
                            go_simp
                            first | done | with_reducible rfl | omega
                          try simp only [Act.put, List.getElem_toArray, List.getElem_cons_zero, List.getElem_cons_succ, List.setIfInBounds_toArray, List.set_cons_zero, List.set_cons_succ]
                          refine' T_take (i := 1) (v := _) rfl (by kernel_rfl) (by kernel_rfl) (by kernel_rfl) (by kernel_rfl) (fun _ _ _ h => h) (by kernel_rfl) hS ?_ ?_
                          rotate_left 1
                          · intro Wv hW
                            replace i0 := cell_of_ans hW i0
                            replace i1 := cell_of_ans hW i1
                            replace a1 := cell_of_ans hW a1
                            replace d1 := cell_of_ans hW d1
                            replace r0 := cell_of_ans hW r0
                            go_simp
                            first | done | with_reducible rfl | omega
                          try simp only [Act.put, List.getElem_toArray, List.getElem_cons_zero, List.getElem_cons_succ, List.setIfInBounds_toArray, List.set_cons_zero, List.set_cons_succ]
                          refine' T_take (i := 2) (v := _) rfl (by kernel_rfl) (by kernel_rfl) (by kernel_rfl) (by kernel_rfl) (fun _ _ _ h => h) (by kernel_rfl) hS ?_ ?_
                          rotate_left 1
                          · intro Wv hW
                            replace i0 := cell_of_ans hW i0
                            replace i1 := cell_of_ans hW i1
                            replace a1 := cell_of_ans hW a1
                            replace d1 := cell_of_ans hW d1
                            replace r0 := cell_of_ans hW r0
                            go_simp
                            first | done | with_reducible rfl | omega
                          try simp only [Act.put, List.getElem_toArray, List.getElem_cons_zero, List.getElem_cons_succ, List.setIfInBounds_toArray, List.set_cons_zero, List.set_cons_succ]
                          refine' T_take (i := 3) (v := _) rfl (by kernel_rfl) (by kernel_rfl) (by kernel_rfl) (by kernel_rfl) (fun _ _ _ h => h) (by kernel_rfl) hS ?_ ?_
                          rotate_left 1
                          · intro Wv hW
                            replace i0 := cell_of_ans hW i0
                            replace i1 := cell_of_ans hW i1
                            replace a1 := cell_of_ans hW a1
                            replace d1 := cell_of_ans hW d1
                            replace r0 := cell_of_ans hW r0
                            go_simp
                            first | done | with_reducible rfl | omega
                          try simp only [Act.put, List.getElem_toArray, List.getElem_cons_zero, List.getElem_cons_succ, List.setIfInBounds_toArray, List.set_cons_zero, List.set_cons_succ]
                          refine' T_take (i := 4) (v := _) rfl (by kernel_rfl) (by kernel_rfl) (by kernel_rfl) (by kernel_rfl) (fun _ _ _ h => h) (by kernel_rfl) hS ?_ ?_
                          rotate_left 1
                          · intro Wv hW
                            replace i0 := cell_of_ans hW i0
                            replace i1 := cell_of_ans hW i1
                            replace a1 := cell_of_ans hW a1
                            replace d1 := cell_of_ans hW d1
                            replace r0 := cell_of_ans hW r0
                            go_simp
                            first | done | with_reducible rfl | omega
                          try simp only [Act.put, List.getElem_toArray, List.getElem_cons_zero, List.getElem_cons_succ, List.setIfInBounds_toArray, List.set_cons_zero, List.set_cons_succ]
                          refine' T_take (i := 5) (v := .bool false) rfl (by kernel_rfl) (by kernel_rfl) (by kernel_rfl) (by kernel_rfl) (fun _ _ _ h => h) (by kernel_rfl) hS ?_ ?_
                          skip
                          · intro Wv hW
                            replace i0 := cell_of_ans hW i0
                            replace i1 := cell_of_ans hW i1
                            replace a1 := cell_of_ans hW a1
                            replace d1 := cell_of_ans hW d1
                            replace r0 := cell_of_ans hW r0
                            go_simp
                            first | done | with_reducible rfl | omega
                          try simp only [Act.put, List.getElem_toArray, List.getElem_cons_zero, List.getElem_cons_succ, List.setIfInBounds_toArray, List.set_cons_zero, List.set_cons_succ]
                          refine' T_skip (i := 6) rfl (by kernel_rfl) (by kernel_rfl) (by kernel_rfl) (by kernel_rfl) (fun _ _ _ h => h) (by kernel_rfl) hS ?_
                          try simp only [Act.put, List.getElem_toArray, List.getElem_cons_zero, List.getElem_cons_succ, List.setIfInBounds_toArray, List.set_cons_zero, List.set_cons_succ]
                          refine' T_skip (i := 7) rfl (by kernel_rfl) (by kernel_rfl) (by kernel_rfl) (by kernel_rfl) (fun _ _ _ h => h) (by kernel_rfl) hS ?_
                          try simp only [Act.put, List.getElem_toArray, List.getElem_cons_zero, List.getElem_cons_succ, List.setIfInBounds_toArray, List.set_cons_zero, List.set_cons_succ]
                          refine' T_skip (i := 8) rfl (by kernel_rfl) (by kernel_rfl) (by kernel_rfl) (by kernel_rfl) (fun _ _ _ h => h) (by kernel_rfl) hS ?_
                          try simp only [Act.put, List.getElem_toArray, List.getElem_cons_zero, List.getElem_cons_succ, List.setIfInBounds_toArray, List.set_cons_zero, List.set_cons_succ]
                          refine' T_skip (i := 9) rfl (by kernel_rfl) (by kernel_rfl) (by kernel_rfl) (by kernel_rfl) (fun _ _ _ h => h) (by kernel_rfl) hS ?_
                          try simp only [Act.put, List.getElem_toArray, List.getElem_cons_zero, List.getElem_cons_succ, List.setIfInBounds_toArray, List.set_cons_zero, List.set_cons_succ]
                          refine' T_skip (i := 10) rfl (by kernel_rfl) (by kernel_rfl) (by kernel_rfl) (by kernel_rfl) (fun _ _ _ h => h) (by kernel_rfl) hS ?_
                          try simp only [Act.put, List.getElem_toArray, List.getElem_cons_zero, List.getElem_cons_succ, List.setIfInBounds_toArray, List.set_cons_zero, List.set_cons_succ]
                          refine' T_skip (i := 11) rfl (by kernel_rfl) (by kernel_rfl) (by kernel_rfl) (by kernel_rfl) (fun _ _ _ h => h) (by kernel_rfl) hS ?_
                          try simp only [Act.put, List.getElem_toArray, List.getElem_cons_zero, List.getElem_cons_succ, List.setIfInBounds_toArray, List.set_cons_zero, List.set_cons_succ]
                          refine' T_skip (i := 12) rfl (by kernel_rfl) (by kernel_rfl) (by kernel_rfl) (by kernel_rfl) (fun _ _ _ h => h) (by kernel_rfl) hS ?_
                          try simp only [Act.put, List.getElem_toArray, List.getElem_cons_zero, List.getElem_cons_succ, List.setIfInBounds_toArray, List.set_cons_zero, List.set_cons_succ]
                          refine' T_skip (i := 13) rfl (by kernel_rfl) (by kernel_rfl) (by kernel_rfl) (by kernel_rfl) (fun _ _ _ h => h) (by kernel_rfl) hS ?_
                          try simp only [Act.put, List.getElem_toArray, List.getElem_cons_zero, List.getElem_cons_succ, List.setIfInBounds_toArray, List.set_cons_zero, List.set_cons_succ]
                          refine' T_skip (i := 14) rfl (by kernel_rfl) (by kernel_rfl) (by kernel_rfl) (by kernel_rfl) (fun _ _ _ h => h) (by kernel_rfl) hS ?_
                          try simp only [Act.put, List.getElem_toArray, List.getElem_cons_zero, List.getElem_cons_succ, List.setIfInBounds_toArray, List.set_cons_zero, List.set_cons_succ]
                          refine' T_take (i := 15) (v := _) rfl (by kernel_rfl) (by kernel_rfl) (by kernel_rfl) (by kernel_rfl) (fun _ _ _ h => h) (by kernel_rfl) hS ?_ ?_
                          rotate_left 1
                          · intro Wv hW
                            replace i0 := cell_of_ans hW i0
                            replace i1 := cell_of_ans hW i1
                            replace a1 := cell_of_ans hW a1
                            replace d1 := cell_of_ans hW d1
                            replace r0 := cell_of_ans hW r0
                            go_simp
                            first | done | with_reducible rfl | omega
                          try simp only [Act.put, List.getElem_toArray, List.getElem_cons_zero, List.getElem_cons_succ, List.setIfInBounds_toArray, List.set_cons_zero, List.set_cons_succ]
                          refine' T_take (i := 16) (v := .bool false) rfl (by kernel_rfl) (by kernel_rfl) (by kernel_rfl) (by kernel_rfl) (fun _ _ _ h => h) (by kernel_rfl) hS ?_ ?_
                          skip
                          · intro Wv hW
                            replace i0 := cell_of_ans hW i0
                            replace i1 := cell_of_ans hW i1
                            replace a1 := cell_of_ans hW a1
                            replace d1 := cell_of_ans hW d1
                            replace r0 := cell_of_ans hW r0
                            go_simp
                            first | done | with_reducible rfl | omega
                          try simp only [Act.put, List.getElem_toArray, List.getElem_cons_zero, List.getElem_cons_succ, List.setIfInBounds_toArray, List.set_cons_zero, List.set_cons_succ]
                          refine' T_skip (i := 17) rfl (by kernel_rfl) (by kernel_rfl) (by kernel_rfl) (by kernel_rfl) (fun _ _ _ h => h) (by kernel_rfl) hS ?_
                          try simp only [Act.put, List.getElem_toArray, List.getElem_cons_zero, List.getElem_cons_succ, List.setIfInBounds_toArray, List.set_cons_zero, List.set_cons_succ]
                          refine' T_skip (i := 18) rfl (by kernel_rfl) (by kernel_rfl) (by kernel_rfl) (by kernel_rfl) (fun _ _ _ h => h) (by kernel_rfl) hS ?_
                          try simp only [Act.put, List.getElem_toArray, List.getElem_cons_zero, List.getElem_cons_succ, List.setIfInBounds_toArray, List.set_cons_zero, List.set_cons_succ]
                          refine' T_skip (i := 19) rfl (by kernel_rfl) (by kernel_rfl) (by kernel_rfl) (by kernel_rfl) (fun _ _ _ h => h) (by kernel_rfl) hS ?_
                          try simp only [Act.put, List.getElem_toArray, List.getElem_cons_zero, List.getElem_cons_succ, List.setIfInBounds_toArray, List.set_cons_zero, List.set_cons_succ]
                          refine' T_skip (i := 20) rfl (by kernel_rfl) (by kernel_rfl) (by kernel_rfl) (by kernel_rfl) (fun _ _ _ h => h) (by kernel_rfl) hS ?_
                          try simp only [Act.put, List.getElem_toArray, List.getElem_cons_zero, List.getElem_cons_succ, List.setIfInBounds_toArray, List.set_cons_zero, List.set_cons_succ]
                          refine' T_skip (i := 21) rfl (by kernel_rfl) (by kernel_rfl) (by kernel_rfl) (by kernel_rfl) (fun _ _ _ h => h) (by kernel_rfl) hS ?_
                          try simp only [Act.put, List.getElem_toArray, List.getElem_cons_zero, List.getElem_cons_succ, List.setIfInBounds_toArray, List.set_cons_zero, List.set_cons_succ]
                          refine' T_skip (i := 22) rfl (by kernel_rfl) (by kernel_rfl) (by kernel_rfl) (by kernel_rfl) (fun _ _ _ h => h) (by kernel_rfl) hS ?_
                          try simp only [Act.put, List.getElem_toArray, List.getElem_cons_zero, List.getElem_cons_succ, List.setIfInBounds_toArray, List.set_cons_zero, List.set_cons_succ]
                          refine' T_skip (i := 23) rfl (by kernel_rfl) (by kernel_rfl) (by kernel_rfl) (by kernel_rfl) (fun _ _ _ h => h) (by kernel_rfl) hS ?_
                          try simp only [Act.put, List.getElem_toArray, List.getElem_cons_zero, List.getElem_cons_succ, List.setIfInBounds_toArray, List.set_cons_zero, List.set_cons_succ]
                          refine' T_skip (i := 24) rfl (by kernel_rfl) (by kernel_rfl) (by kernel_rfl) (by kernel_rfl) (fun _ _ _ h => h) (by kernel_rfl) hS ?_
                          try simp only [Act.put, List.getElem_toArray, List.getElem_cons_zero, List.getElem_cons_succ, List.setIfInBounds_toArray, List.set_cons_zero, List.set_cons_succ]
                          refine' T_skip (i := 25) rfl (by kernel_rfl) (by kernel_rfl) (by kernel_rfl) (by kernel_rfl) (fun _ _ _ h => h) (by kernel_rfl) hS ?_
                          try simp only [Act.put, List.getElem_toArray, List.getElem_cons_zero, List.getElem_cons_succ, List.setIfInBounds_toArray, List.set_cons_zero, List.set_cons_succ]
                          refine' T_skip (i := 26) rfl (by kernel_rfl) (by kernel_rfl) (by kernel_rfl) (by kernel_rfl) (fun _ _ _ h => h) (by kernel_rfl) hS ?_
                          try simp only [Act.put, List.getElem_toArray, List.getElem_cons_zero, List.getElem_cons_succ, List.setIfInBounds_toArray, List.set_cons_zero, List.set_cons_succ]
                          refine' T_skip (i := 27) rfl (by kernel_rfl) (by kernel_rfl) (by kernel_rfl) (by kernel_rfl) (fun _ _ _ h => h) (by kernel_rfl) hS ?_
                          try simp only [Act.put, List.getElem_toArray, List.getElem_cons_zero, List.getElem_cons_succ, List.setIfInBounds_toArray, List.set_cons_zero, List.set_cons_succ]
                          refine' T_skip (i := 28) rfl (by kernel_rfl) (by kernel_rfl) (by kernel_rfl) (by kernel_rfl) (fun _ _ _ h => h) (by kernel_rfl) hS ?_
                          try simp only [Act.put, List.getElem_toArray, List.getElem_cons_zero, List.getElem_cons_succ, List.setIfInBounds_toArray, List.set_cons_zero, List.set_cons_succ]
                          refine' T_skip (i := 29) rfl (by kernel_rfl) (by kernel_rfl) (by kernel_rfl) (by kernel_rfl) (fun _ _ _ h => h) (by kernel_rfl) hS ?_
                          try simp only [Act.put, List.getElem_toArray, List.getElem_cons_zero, List.getElem_cons_succ, List.setIfInBounds_toArray, List.set_cons_zero, List.set_cons_succ]
                          refine' T_skip (i := 30) rfl (by kernel_rfl) (by kernel_rfl) (by kernel_rfl) (by kernel_rfl) (fun _ _ _ h => h) (by kernel_rfl) hS ?_
                          try simp only [Act.put, List.getElem_toArray, List.getElem_cons_zero, List.getElem_cons_succ, List.setIfInBounds_toArray, List.set_cons_zero, List.set_cons_succ]
                          refine' T_skip (i := 31) rfl (by kernel_rfl) (by kernel_rfl) (by kernel_rfl) (by kernel_rfl) (fun _ _ _ h => h) (by kernel_rfl) hS ?_
                          try simp only [Act.put, List.getElem_toArray, List.getElem_cons_zero, List.getElem_cons_succ, List.setIfInBounds_toArray, List.set_cons_zero, List.set_cons_succ]
                          refine' T_take (i := 32) (v := _) rfl (by kernel_rfl) (by kernel_rfl) (by kernel_rfl) (by kernel_rfl) (fun _ _ _ h => h) (by kernel_rfl) hS ?_ ?_
                          rotate_left 1
                          · intro Wv hW
                            replace i0 := cell_of_ans hW i0
                            replace i1 := cell_of_ans hW i1
                            replace a1 := cell_of_ans hW a1
                            replace d1 := cell_of_ans hW d1
                            replace r0 := cell_of_ans hW r0
                            go_simp
                            first | done | with_reducible rfl | omega
                          try simp only [Act.put, List.getElem_toArray, List.getElem_cons_zero, List.getElem_cons_succ, List.setIfInBounds_toArray, List.set_cons_zero, List.set_cons_succ]
                          refine T_done (by kernel_rfl) ?_ _
                          refine NoPanic.normal ?_
                          try go_simp
                          have HBF := Lib.hid (HBJ.out.trans (hS.mono HBJ.out.size))
                          clear hS
                          go_wp2_with fail
                          go_roundw
                          case rel => exact ⟨j + 1, by omega, by go_num, HBF.out⟩
                          case measure => simp [intOf]; omega
                        · have e3 : (cd != 3) = true := by simp [hcd]
                          by_cases hpq : p1 = s1
                          · have e4 : (p1 == s1) = true := by simp [hpq]
                            have e5 : (no != nt) = false := by rw [HEQ.out hpq hcd]; simp
                            clear hcd hpq HEQ
                            go_upto_region 21 with fail
                            refine wp_region_noPanic ?_
                            have hS : (fun W' : World => Below wr.heap.size wr W') wr.drew := (Below.refl _ _).drew
                            refine wp_region_any (by kernel_rfl) (wpAny_of_T (S := fun W' : World => Below wr.heap.size wr W') (m := 33) _ _ _ _ ?_)
                            refine' T_take (i := 0) (v := _) rfl (by kernel_rfl) (by kernel_rfl) (by kernel_rfl) (by kernel_rfl) (fun _ _ _ h => h) (by kernel_rfl) hS ?_ ?_
                            rotate_left 1
                            · intro Wv hW
                              replace i0 := cell_of_ans hW i0
                              replace i1 := cell_of_ans hW i1
                              replace a1 := cell_of_ans hW a1
                              replace d1 := cell_of_ans hW d1
                              replace r0 := cell_of_ans hW r0
                              go_simp
                              first | done | with_reducible rfl | omega
                            try simp only [Act.put, List.getElem_toArray, List.getElem_cons_zero, List.getElem_cons_succ, List.setIfInBounds_toArray, List.set_cons_zero, List.set_cons_succ]
                            refine' T_take (i := 1) (v := _) rfl (by kernel_rfl) (by kernel_rfl) (by kernel_rfl) (by kernel_rfl) (fun _ _ _ h => h) (by kernel_rfl) hS ?_ ?_
                            rotate_left 1
                            · intro Wv hW
                              replace i0 := cell_of_ans hW i0
                              replace i1 := cell_of_ans hW i1
                              replace a1 := cell_of_ans hW a1
                              replace d1 := cell_of_ans hW d1
                              replace r0 := cell_of_ans hW r0
                              go_simp
                              first | done | with_reducible rfl | omega
                            try simp only [Act.put, List.getElem_toArray, List.getElem_cons_zero, List.getElem_cons_succ, List.setIfInBounds_toArray, List.set_cons_zero, List.set_cons_succ]
                            refine' T_take (i := 2) (v := _) rfl (by kernel_rfl) (by kernel_rfl) (by kernel_rfl) (by kernel_rfl) (fun _ _ _ h => h) (by kernel_rfl) hS ?_ ?_
                            rotate_left 1
                            · intro Wv hW
                              replace i0 := cell_of_ans hW i0
                              replace i1 := cell_of_ans hW i1
                              replace a1 := cell_of_ans hW a1
                              replace d1 := cell_of_ans hW d1
                              replace r0 := cell_of_ans hW r0
                              go_simp
                              first | done | with_reducible rfl | omega
                            try simp only [Act.put, List.getElem_toArray, List.getElem_cons_zero, List.getElem_cons_succ, List.setIfInBounds_toArray, List.set_cons_zero, List.set_cons_succ]
                            refine' T_take (i := 3) (v := _) rfl (by kernel_rfl) (by kernel_rfl) (by kernel_rfl) (by kernel_rfl) (fun _ _ _ h => h) (by kernel_rfl) hS ?_ ?_
                            rotate_left 1
                            · intro Wv hW
                              replace i0 := cell_of_ans hW i0
                              replace i1 := cell_of_ans hW i1
                              replace a1 := cell_of_ans hW a1
                              replace d1 := cell_of_ans hW d1
                              replace r0 := cell_of_ans hW r0
                              go_simp
                              first | done | with_reducible rfl | omega
                            try simp only [Act.put, List.getElem_toArray, List.getElem_cons_zero, List.getElem_cons_succ, List.setIfInBounds_toArray, List.set_cons_zero, List.set_cons_succ]
                            refine' T_take (i := 4) (v := _) rfl (by kernel_rfl) (by kernel_rfl) (by kernel_rfl) (by kernel_rfl) (fun _ _ _ h => h) (by kernel_rfl) hS ?_ ?_
                            rotate_left 1
                            · intro Wv hW
                              replace i0 := cell_of_ans hW i0
                              replace i1 := cell_of_ans hW i1
                              replace a1 := cell_of_ans hW a1
                              replace d1 := cell_of_ans hW d1
                              replace r0 := cell_of_ans hW r0
                              go_simp
                              first | done | with_reducible rfl | omega
                            try simp only [Act.put, List.getElem_toArray, List.getElem_cons_zero, List.getElem_cons_succ, List.setIfInBounds_toArray, List.set_cons_zero, List.set_cons_succ]
                            refine' T_take (i := 5) (v := .bool true) rfl (by kernel_rfl) (by kernel_rfl) (by kernel_rfl) (by kernel_rfl) (fun _ _ _ h => h) (by kernel_rfl) hS ?_ ?_
                            skip
                            · intro Wv hW
                              replace i0 := cell_of_ans hW i0
                              replace i1 := cell_of_ans hW i1
                              replace a1 := cell_of_ans hW a1
                              replace d1 := cell_of_ans hW d1
                              replace r0 := cell_of_ans hW r0
                              go_simp
                              first | done | with_reducible rfl | omega
                            try simp only [Act.put, List.getElem_toArray, List.getElem_cons_zero, List.getElem_cons_succ, List.setIfInBounds_toArray, List.set_cons_zero, List.set_cons_succ]
                            refine' T_take (i := 6) (v := _) rfl (by kernel_rfl) (by kernel_rfl) (by kernel_rfl) (by kernel_rfl) (fun _ _ _ h => h) (by kernel_rfl) hS ?_ ?_
                            rotate_left 1
                            · intro Wv hW
                              replace i0 := cell_of_ans hW i0
                              replace i1 := cell_of_ans hW i1
                              replace a1 := cell_of_ans hW a1
                              replace d1 := cell_of_ans hW d1
                              replace r0 := cell_of_ans hW r0
                              go_simp
                              first | done | with_reducible rfl | omega
                            try simp only [Act.put, List.getElem_toArray, List.getElem_cons_zero, List.getElem_cons_succ, List.setIfInBounds_toArray, List.set_cons_zero, List.set_cons_succ]
                            refine' T_take (i := 7) (v := _) rfl (by kernel_rfl) (by kernel_rfl) (by kernel_rfl) (by kernel_rfl) (fun _ _ _ h => h) (by kernel_rfl) hS ?_ ?_
                            rotate_left 1
                            · intro Wv hW
                              replace i0 := cell_of_ans hW i0
                              replace i1 := cell_of_ans hW i1
                              replace a1 := cell_of_ans hW a1
                              replace d1 := cell_of_ans hW d1
                              replace r0 := cell_of_ans hW r0
                              go_simp
                              first | done | with_reducible rfl | omega
                            try simp only [Act.put, List.getElem_toArray, List.getElem_cons_zero, List.getElem_cons_succ, List.setIfInBounds_toArray, List.set_cons_zero, List.set_cons_succ]
                            refine' T_take (i := 8) (v := _) rfl (by kernel_rfl) (by kernel_rfl) (by kernel_rfl) (by kernel_rfl) (fun _ _ _ h => h) (by kernel_rfl) hS ?_ ?_
                            rotate_left 1
                            · intro Wv hW
                              replace i0 := cell_of_ans hW i0
                              replace i1 := cell_of_ans hW i1
                              replace a1 := cell_of_ans hW a1
                              replace d1 := cell_of_ans hW d1
                              replace r0 := cell_of_ans hW r0
                              go_simp
                              first | done | with_reducible rfl | omega
                            try simp only [Act.put, List.getElem_toArray, List.getElem_cons_zero, List.getElem_cons_succ, List.setIfInBounds_toArray, List.set_cons_zero, List.set_cons_succ]
                            refine' T_take (i := 9) (v := _) rfl (by kernel_rfl) (by kernel_rfl) (by kernel_rfl) (by kernel_rfl) (fun _ _ _ h => h) (by kernel_rfl) hS ?_ ?_
                            rotate_left 1
                            · intro Wv hW
                              replace i0 := cell_of_ans hW i0
                              replace i1 := cell_of_ans hW i1
                              replace a1 := cell_of_ans hW a1
                              replace d1 := cell_of_ans hW d1
                              replace r0 := cell_of_ans hW r0
                              go_simp
                              first | done | with_reducible rfl | omega
                            try simp only [Act.put, List.getElem_toArray, List.getElem_cons_zero, List.getElem_cons_succ, List.setIfInBounds_toArray, List.set_cons_zero, List.set_cons_succ]
                            refine' T_take (i := 10) (v := _) rfl (by kernel_rfl) (by kernel_rfl) (by kernel_rfl) (by kernel_rfl) (fun _ _ _ h => h) (by kernel_rfl) hS ?_ ?_
                            rotate_left 1
                            · intro Wv hW
                              replace i0 := cell_of_ans hW i0
                              replace i1 := cell_of_ans hW i1
                              replace a1 := cell_of_ans hW a1
                              replace d1 := cell_of_ans hW d1
                              replace r0 := cell_of_ans hW r0
                              go_simp
                              first | done | with_reducible rfl | omega
                            try simp only [Act.put, List.getElem_toArray, List.getElem_cons_zero, List.getElem_cons_succ, List.setIfInBounds_toArray, List.set_cons_zero, List.set_cons_succ]
                            refine' T_take (i := 11) (v := _) rfl (by kernel_rfl) (by kernel_rfl) (by kernel_rfl) (by kernel_rfl) (fun _ _ _ h => h) (by kernel_rfl) hS ?_ ?_
                            rotate_left 1
                            · intro Wv hW
                              replace i0 := cell_of_ans hW i0
                              replace i1 := cell_of_ans hW i1
                              replace a1 := cell_of_ans hW a1
                              replace d1 := cell_of_ans hW d1
                              replace r0 := cell_of_ans hW r0
                              go_simp
                              first | done | with_reducible rfl | omega
                            try simp only [Act.put, List.getElem_toArray, List.getElem_cons_zero, List.getElem_cons_succ, List.setIfInBounds_toArray, List.set_cons_zero, List.set_cons_succ]
                            refine' T_take (i := 12) (v := _) rfl (by kernel_rfl) (by kernel_rfl) (by kernel_rfl) (by kernel_rfl) (fun _ _ _ h => h) (by kernel_rfl) hS ?_ ?_
                            rotate_left 1
                            · intro Wv hW
                              replace i0 := cell_of_ans hW i0
                              replace i1 := cell_of_ans hW i1
                              replace a1 := cell_of_ans hW a1
                              replace d1 := cell_of_ans hW d1
                              replace r0 := cell_of_ans hW r0
                              go_simp
                              first | done | with_reducible rfl | omega
                            try simp only [Act.put, List.getElem_toArray, List.getElem_cons_zero, List.getElem_cons_succ, List.setIfInBounds_toArray, List.set_cons_zero, List.set_cons_succ]
                            refine' T_take (i := 13) (v := _) rfl (by kernel_rfl) (by kernel_rfl) (by kernel_rfl) (by kernel_rfl) (fun _ _ _ h => h) (by kernel_rfl) hS ?_ ?_
                            rotate_left 1
                            · intro Wv hW
                              replace i0 := cell_of_ans hW i0
                              replace i1 := cell_of_ans hW i1
                              replace a1 := cell_of_ans hW a1
                              replace d1 := cell_of_ans hW d1
                              replace r0 := cell_of_ans hW r0
                              go_simp
                              first | done | with_reducible rfl | omega
                            try simp only [Act.put, List.getElem_toArray, List.getElem_cons_zero, List.getElem_cons_succ, List.setIfInBounds_toArray, List.set_cons_zero, List.set_cons_succ]
                            refine' T_take (i := 14) (v := _) rfl (by kernel_rfl) (by kernel_rfl) (by kernel_rfl) (by kernel_rfl) (fun _ _ _ h => h) (by kernel_rfl) hS ?_ ?_
                            rotate_left 1
                            · intro Wv hW
                              replace i0 := cell_of_ans hW i0
                              replace i1 := cell_of_ans hW i1
                              replace a1 := cell_of_ans hW a1
                              replace d1 := cell_of_ans hW d1
                              replace r0 := cell_of_ans hW r0
                              go_simp
                              first | done | with_reducible rfl | omega
                            try simp only [Act.put, List.getElem_toArray, List.getElem_cons_zero, List.getElem_cons_succ, List.setIfInBounds_toArray, List.set_cons_zero, List.set_cons_succ]
                            refine' T_take (i := 15) (v := _) rfl (by kernel_rfl) (by kernel_rfl) (by kernel_rfl) (by kernel_rfl) (fun _ _ _ h => h) (by kernel_rfl) hS ?_ ?_
                            rotate_left 1
                            · intro Wv hW
                              replace i0 := cell_of_ans hW i0
                              replace i1 := cell_of_ans hW i1
                              replace a1 := cell_of_ans hW a1
                              replace d1 := cell_of_ans hW d1
                              replace r0 := cell_of_ans hW r0
                              go_simp
                              first | done | with_reducible rfl | omega
                            try simp only [Act.put, List.getElem_toArray, List.getElem_cons_zero, List.getElem_cons_succ, List.setIfInBounds_toArray, List.set_cons_zero, List.set_cons_succ]
                            refine' T_take (i := 16) (v := .bool true) rfl (by kernel_rfl) (by kernel_rfl) (by kernel_rfl) (by kernel_rfl) (fun _ _ _ h => h) (by kernel_rfl) hS ?_ ?_
                            skip
                            · intro Wv hW
                              replace i0 := cell_of_ans hW i0
                              replace i1 := cell_of_ans hW i1
                              replace a1 := cell_of_ans hW a1
                              replace d1 := cell_of_ans hW d1
                              replace r0 := cell_of_ans hW r0
                              go_simp
                              first | done | with_reducible rfl | omega
                            try simp only [Act.put, List.getElem_toArray, List.getElem_cons_zero, List.getElem_cons_succ, List.setIfInBounds_toArray, List.set_cons_zero, List.set_cons_succ]
                            refine' T_take (i := 17) (v := _) rfl (by kernel_rfl) (by kernel_rfl) (by kernel_rfl) (by kernel_rfl) (fun _ _ _ h => h) (by kernel_rfl) hS ?_ ?_
                            rotate_left 1
                            · intro Wv hW
                              replace i0 := cell_of_ans hW i0
                              replace i1 := cell_of_ans hW i1
                              replace a1 := cell_of_ans hW a1
                              replace d1 := cell_of_ans hW d1
                              replace r0 := cell_of_ans hW r0
                              go_simp
                              first | done | with_reducible rfl | omega
                            try simp only [Act.put, List.getElem_toArray, List.getElem_cons_zero, List.getElem_cons_succ, List.setIfInBounds_toArray, List.set_cons_zero, List.set_cons_succ]
                            refine' T_take (i := 18) (v := _) rfl (by kernel_rfl) (by kernel_rfl) (by kernel_rfl) (by kernel_rfl) (fun _ _ _ h => h) (by kernel_rfl) hS ?_ ?_
                            rotate_left 1
                            · intro Wv hW
                              replace i0 := cell_of_ans hW i0
                              replace i1 := cell_of_ans hW i1
                              replace a1 := cell_of_ans hW a1
                              replace d1 := cell_of_ans hW d1
                              replace r0 := cell_of_ans hW r0
                              go_simp
                              first | done | with_reducible rfl | omega
                            try simp only [Act.put, List.getElem_toArray, List.getElem_cons_zero, List.getElem_cons_succ, List.setIfInBounds_toArray, List.set_cons_zero, List.set_cons_succ]
                            refine' T_take (i := 19) (v := _) rfl (by kernel_rfl) (by kernel_rfl) (by kernel_rfl) (by kernel_rfl) (fun _ _ _ h => h) (by kernel_rfl) hS ?_ ?_
                            rotate_left 1
                            · intro Wv hW
                              replace i0 := cell_of_ans hW i0
                              replace i1 := cell_of_ans hW i1
                              replace a1 := cell_of_ans hW a1
                              replace d1 := cell_of_ans hW d1
                              replace r0 := cell_of_ans hW r0
                              go_simp
                              first | done | with_reducible rfl | omega
                            try simp only [Act.put, List.getElem_toArray, List.getElem_cons_zero, List.getElem_cons_succ, List.setIfInBounds_toArray, List.set_cons_zero, List.set_cons_succ]
                            refine' T_take (i := 20) (v := _) rfl (by kernel_rfl) (by kernel_rfl) (by kernel_rfl) (by kernel_rfl) (fun _ _ _ h => h) (by kernel_rfl) hS ?_ ?_
                            rotate_left 1
                            · intro Wv hW
                              replace i0 := cell_of_ans hW i0
                              replace i1 := cell_of_ans hW i1
                              replace a1 := cell_of_ans hW a1
                              replace d1 := cell_of_ans hW d1
                              replace r0 := cell_of_ans hW r0
                              go_simp
                              first | done | with_reducible rfl | omega
                            try simp only [Act.put, List.getElem_toArray, List.getElem_cons_zero, List.getElem_cons_succ, List.setIfInBounds_toArray, List.set_cons_zero, List.set_cons_succ]
                            refine' T_take (i := 21) (v := _) rfl (by kernel_rfl) (by kernel_rfl) (by kernel_rfl) (by kernel_rfl) (fun _ _ _ h => h) (by kernel_rfl) hS ?_ ?_
                            rotate_left 1
                            · intro Wv hW
                              replace i0 := cell_of_ans hW i0
                              replace i1 := cell_of_ans hW i1
                              replace a1 := cell_of_ans hW a1
                              replace d1 := cell_of_ans hW d1
                              replace r0 := cell_of_ans hW r0
                              go_simp
                              first | done | with_reducible rfl | omega
                            try simp only [Act.put, List.getElem_toArray, List.getElem_cons_zero, List.getElem_cons_succ, List.setIfInBounds_toArray, List.set_cons_zero, List.set_cons_succ]
                            refine' T_take (i := 22) (v := _) rfl (by kernel_rfl) (by kernel_rfl) (by kernel_rfl) (by kernel_rfl) (fun _ _ _ h => h) (by kernel_rfl) hS ?_ ?_
                            rotate_left 1
                            · intro Wv hW
                              replace i0 := cell_of_ans hW i0
                              replace i1 := cell_of_ans hW i1
                              replace a1 := cell_of_ans hW a1
                              replace d1 := cell_of_ans hW d1
                              replace r0 := cell_of_ans hW r0
                              go_simp
                              first | done | with_reducible rfl | omega
                            try simp only [Act.put, List.getElem_toArray, List.getElem_cons_zero, List.getElem_cons_succ, List.setIfInBounds_toArray, List.set_cons_zero, List.set_cons_succ]
                            refine' T_take (i := 24) (v := _) rfl (by kernel_rfl) (by kernel_rfl) (by kernel_rfl) (by kernel_rfl) (fun _ _ _ h => h) (by kernel_rfl) hS ?_ ?_
                            rotate_left 1
                            · intro Wv hW
                              replace i0 := cell_of_ans hW i0
                              replace i1 := cell_of_ans hW i1
                              replace a1 := cell_of_ans hW a1
                              replace d1 := cell_of_ans hW d1
                              replace r0 := cell_of_ans hW r0
                              go_simp
                              first | done | with_reducible rfl | omega
                            try simp only [Act.put, List.getElem_toArray, List.getElem_cons_zero, List.getElem_cons_succ, List.setIfInBounds_toArray, List.set_cons_zero, List.set_cons_succ]
                            refine' T_take (i := 25) (v := _) rfl (by kernel_rfl) (by kernel_rfl) (by kernel_rfl) (by kernel_rfl) (fun _ _ _ h => h) (by kernel_rfl) hS ?_ ?_
                            rotate_left 1
                            · intro Wv hW
                              replace i0 := cell_of_ans hW i0
                              replace i1 := cell_of_ans hW i1
                              replace a1 := cell_of_ans hW a1
                              replace d1 := cell_of_ans hW d1
                              replace r0 := cell_of_ans hW r0
                              go_simp
                              first | done | with_reducible rfl | omega
                            try simp only [Act.put, List.getElem_toArray, List.getElem_cons_zero, List.getElem_cons_succ, List.setIfInBounds_toArray, List.set_cons_zero, List.set_cons_succ]
                            refine' T_take (i := 26) (v := _) rfl (by kernel_rfl) (by kernel_rfl) (by kernel_rfl) (by kernel_rfl) (fun _ _ _ h => h) (by kernel_rfl) hS ?_ ?_
                            rotate_left 1
                            · intro Wv hW
                              replace i0 := cell_of_ans hW i0
                              replace i1 := cell_of_ans hW i1
                              replace a1 := cell_of_ans hW a1
                              replace d1 := cell_of_ans hW d1
                              replace r0 := cell_of_ans hW r0
                              go_simp
                              first | done | with_reducible rfl | omega
                            try simp only [Act.put, List.getElem_toArray, List.getElem_cons_zero, List.getElem_cons_succ, List.setIfInBounds_toArray, List.set_cons_zero, List.set_cons_succ]
                            refine' T_take (i := 27) (v := _) rfl (by kernel_rfl) (by kernel_rfl) (by kernel_rfl) (by kernel_rfl) (fun _ _ _ h => h) (by kernel_rfl) hS ?_ ?_
                            rotate_left 1
                            · intro Wv hW
                              replace i0 := cell_of_ans hW i0
                              replace i1 := cell_of_ans hW i1
                              replace a1 := cell_of_ans hW a1
                              replace d1 := cell_of_ans hW d1
                              replace r0 := cell_of_ans hW r0
                              go_simp
                              first | done | with_reducible rfl | omega
                            try simp only [Act.put, List.getElem_toArray, List.getElem_cons_zero, List.getElem_cons_succ, List.setIfInBounds_toArray, List.set_cons_zero, List.set_cons_succ]
                            refine' T_take (i := 28) (v := _) rfl (by kernel_rfl) (by kernel_rfl) (by kernel_rfl) (by kernel_rfl) (fun _ _ _ h => h) (by kernel_rfl) hS ?_ ?_
                            rotate_left 1
                            · intro Wv hW
                              replace i0 := cell_of_ans hW i0
                              replace i1 := cell_of_ans hW i1
                              replace a1 := cell_of_ans hW a1
                              replace d1 := cell_of_ans hW d1
                              replace r0 := cell_of_ans hW r0
                              go_simp
                              first | done | with_reducible rfl | omega
                            try simp only [Act.put, List.getElem_toArray, List.getElem_cons_zero, List.getElem_cons_succ, List.setIfInBounds_toArray, List.set_cons_zero, List.set_cons_succ]
                            refine' T_take (i := 29) (v := _) rfl (by kernel_rfl) (by kernel_rfl) (by kernel_rfl) (by kernel_rfl) (fun _ _ _ h => h) (by kernel_rfl) hS ?_ ?_
                            rotate_left 1
                            · intro Wv hW
                              replace i0 := cell_of_ans hW i0
                              replace i1 := cell_of_ans hW i1
                              replace a1 := cell_of_ans hW a1
                              replace d1 := cell_of_ans hW d1
                              replace r0 := cell_of_ans hW r0
                              go_simp
                              first | done | with_reducible rfl | omega
                            try simp only [Act.put, List.getElem_toArray, List.getElem_cons_zero, List.getElem_cons_succ, List.setIfInBounds_toArray, List.set_cons_zero, List.set_cons_succ]
                            refine T_ready (rs := [23]) (by kernel_rfl) (by simp) ?_
                            refine TReady.cons rfl (fun K hK => ?_) TReady.nil
                            try go_simp
                            refine ((HNo.out _ hS)).mono ?_
                            rintro e vo ⟨rfl, hb⟩
                            have hS2 : Below wr.heap.size wr vo := below_cat hb hS
                            try go_simp
                            refine hK.out _ _ (fun _ => hS2) (fun _ => ?_)
                            clear hK K hS hb
                            replace hS := hS2
                            clear hS2
                            try simp only [Act.put, List.getElem_toArray, List.getElem_cons_zero, List.getElem_cons_succ, List.setIfInBounds_toArray, List.set_cons_zero, List.set_cons_succ]
                            refine T_ready (rs := [30]) (by kernel_rfl) (by simp) ?_
                            refine TReady.cons rfl (fun K hK => ?_) TReady.nil
                            try go_simp
                            refine ((HNt.out _ hS)).mono ?_
                            rintro e vt ⟨rfl, hb⟩
                            have hS2 : Below wr.heap.size wr vt := below_cat hb hS
                            try go_simp
                            refine hK.out _ _ (fun _ => hS2) (fun _ => ?_)
                            clear hK K hS hb
                            replace hS := hS2
                            clear hS2
                            try simp only [Act.put, List.getElem_toArray, List.getElem_cons_zero, List.getElem_cons_succ, List.setIfInBounds_toArray, List.set_cons_zero, List.set_cons_succ]
                            refine' T_take (i := 31) (v := _) rfl (by kernel_rfl) (by kernel_rfl) (by kernel_rfl) (by kernel_rfl) (fun _ _ _ h => h) (by kernel_rfl) hS ?_ ?_
                            rotate_left 1
                            · intro Wv hW
                              replace i0 := cell_of_ans hW i0
                              replace i1 := cell_of_ans hW i1
                              replace a1 := cell_of_ans hW a1
                              replace d1 := cell_of_ans hW d1
                              replace r0 := cell_of_ans hW r0
                              go_simp
                              first | done | with_reducible rfl | omega
                            try simp only [Act.put, List.getElem_toArray, List.getElem_cons_zero, List.getElem_cons_succ, List.setIfInBounds_toArray, List.set_cons_zero, List.set_cons_succ]
                            refine' T_take (i := 32) (v := _) rfl (by kernel_rfl) (by kernel_rfl) (by kernel_rfl) (by kernel_rfl) (fun _ _ _ h => h) (by kernel_rfl) hS ?_ ?_
                            rotate_left 1
                            · intro Wv hW
                              replace i0 := cell_of_ans hW i0
                              replace i1 := cell_of_ans hW i1
                              replace a1 := cell_of_ans hW a1
                              replace d1 := cell_of_ans hW d1
                              replace r0 := cell_of_ans hW r0
                              go_simp
                              first | done | with_reducible rfl | omega
                            try simp only [Act.put, List.getElem_toArray, List.getElem_cons_zero, List.getElem_cons_succ, List.setIfInBounds_toArray, List.set_cons_zero, List.set_cons_succ]
                            refine T_done (by kernel_rfl) ?_ _
                            refine NoPanic.normal ?_
                            try go_simp
                            have HBF := Lib.hid (HBJ.out.trans (hS.mono HBJ.out.size))
                            clear hS
                            go_wp2_with fail
                            go_roundw
                            case rel => exact ⟨j + 1, by omega, by go_num, HBF.out⟩
                            case measure => simp [intOf]; omega
                          · have e4 : (p1 == s1) = false := by simp [hpq]
                            clear hcd hpq HEQ
                            go_upto_region 21 with fail
                            refine wp_region_noPanic ?_
                            have hS : (fun W' : World => Below wr.heap.size wr W') wr.drew := (Below.refl _ _).drew
                            refine wp_region_any (by kernel_rfl) (wpAny_of_T (S := fun W' : World => Below wr.heap.size wr W') (m := 33) _ _ _ _ ?_)
                            refine' T_take (i := 0) (v := _) rfl (by kernel_rfl) (by kernel_rfl) (by kernel_rfl) (by kernel_rfl) (fun _ _ _ h => h) (by kernel_rfl) hS ?_ ?_
                            rotate_left 1
                            · intro Wv hW
                              replace i0 := cell_of_ans hW i0
                              replace i1 := cell_of_ans hW i1
                              replace a1 := cell_of_ans hW a1
                              replace d1 := cell_of_ans hW d1
                              replace r0 := cell_of_ans hW r0
                              go_simp
                              first | done | with_reducible rfl | omega
                            try simp only [Act.put, List.getElem_toArray, List.getElem_cons_zero, List.getElem_cons_succ, List.setIfInBounds_toArray, List.set_cons_zero, List.set_cons_succ]
                            refine' T_take (i := 1) (v := _) rfl (by kernel_rfl) (by kernel_rfl) (by kernel_rfl) (by kernel_rfl) (fun _ _ _ h => h) (by kernel_rfl) hS ?_ ?_
                            rotate_left 1
                            · intro Wv hW
                              replace i0 := cell_of_ans hW i0
                              replace i1 := cell_of_ans hW i1
                              replace a1 := cell_of_ans hW a1
                              replace d1 := cell_of_ans hW d1
                              replace r0 := cell_of_ans hW r0
                              go_simp
                              first | done | with_reducible rfl | omega
                            try simp only [Act.put, List.getElem_toArray, List.getElem_cons_zero, List.getElem_cons_succ, List.setIfInBounds_toArray, List.set_cons_zero, List.set_cons_succ]
                            refine' T_take (i := 2) (v := _) rfl (by kernel_rfl) (by kernel_rfl) (by kernel_rfl) (by kernel_rfl) (fun _ _ _ h => h) (by kernel_rfl) hS ?_ ?_
                            rotate_left 1
                            · intro Wv hW
                              replace i0 := cell_of_ans hW i0
                              replace i1 := cell_of_ans hW i1
                              replace a1 := cell_of_ans hW a1
                              replace d1 := cell_of_ans hW d1
                              replace r0 := cell_of_ans hW r0
                              go_simp
                              first | done | with_reducible rfl | omega
                            try simp only [Act.put, List.getElem_toArray, List.getElem_cons_zero, List.getElem_cons_succ, List.setIfInBounds_toArray, List.set_cons_zero, List.set_cons_succ]
                            refine' T_take (i := 3) (v := _) rfl (by kernel_rfl) (by kernel_rfl) (by kernel_rfl) (by kernel_rfl) (fun _ _ _ h => h) (by kernel_rfl) hS ?_ ?_
                            rotate_left 1
                            · intro Wv hW
                              replace i0 := cell_of_ans hW i0
                              replace i1 := cell_of_ans hW i1
                              replace a1 := cell_of_ans hW a1
                              replace d1 := cell_of_ans hW d1
                              replace r0 := cell_of_ans hW r0
                              go_simp
                              first | done | with_reducible rfl | omega
                            try simp only [Act.put, List.getElem_toArray, List.getElem_cons_zero, List.getElem_cons_succ, List.setIfInBounds_toArray, List.set_cons_zero, List.set_cons_succ]
                            refine' T_take (i := 4) (v := _) rfl (by kernel_rfl) (by kernel_rfl) (by kernel_rfl) (by kernel_rfl) (fun _ _ _ h => h) (by kernel_rfl) hS ?_ ?_
                            rotate_left 1
                            · intro Wv hW
                              replace i0 := cell_of_ans hW i0
                              replace i1 := cell_of_ans hW i1
                              replace a1 := cell_of_ans hW a1
                              replace d1 := cell_of_ans hW d1
                              replace r0 := cell_of_ans hW r0
                              go_simp
                              first | done | with_reducible rfl | omega
                            try simp only [Act.put, List.getElem_toArray, List.getElem_cons_zero, List.getElem_cons_succ, List.setIfInBounds_toArray, List.set_cons_zero, List.set_cons_succ]
                            refine' T_take (i := 5) (v := .bool true) rfl (by kernel_rfl) (by kernel_rfl) (by kernel_rfl) (by kernel_rfl) (fun _ _ _ h => h) (by kernel_rfl) hS ?_ ?_
                            skip
                            · intro Wv hW
                              replace i0 := cell_of_ans hW i0
                              replace i1 := cell_of_ans hW i1
                              replace a1 := cell_of_ans hW a1
                              replace d1 := cell_of_ans hW d1
                              replace r0 := cell_of_ans hW r0
                              go_simp
                              first | done | with_reducible rfl | omega
                            try simp only [Act.put, List.getElem_toArray, List.getElem_cons_zero, List.getElem_cons_succ, List.setIfInBounds_toArray, List.set_cons_zero, List.set_cons_succ]
                            refine' T_take (i := 6) (v := _) rfl (by kernel_rfl) (by kernel_rfl) (by kernel_rfl) (by kernel_rfl) (fun _ _ _ h => h) (by kernel_rfl) hS ?_ ?_
                            rotate_left 1
                            · intro Wv hW
                              replace i0 := cell_of_ans hW i0
                              replace i1 := cell_of_ans hW i1
                              replace a1 := cell_of_ans hW a1
                              replace d1 := cell_of_ans hW d1
                              replace r0 := cell_of_ans hW r0
                              go_simp
                              first | done | with_reducible rfl | omega
                            try simp only [Act.put, List.getElem_toArray, List.getElem_cons_zero, List.getElem_cons_succ, List.setIfInBounds_toArray, List.set_cons_zero, List.set_cons_succ]
                            refine' T_take (i := 7) (v := _) rfl (by kernel_rfl) (by kernel_rfl) (by kernel_rfl) (by kernel_rfl) (fun _ _ _ h => h) (by kernel_rfl) hS ?_ ?_
                            rotate_left 1
                            · intro Wv hW
                              replace i0 := cell_of_ans hW i0
                              replace i1 := cell_of_ans hW i1
                              replace a1 := cell_of_ans hW a1
                              replace d1 := cell_of_ans hW d1
                              replace r0 := cell_of_ans hW r0
                              go_simp
                              first | done | with_reducible rfl | omega
                            try simp only [Act.put, List.getElem_toArray, List.getElem_cons_zero, List.getElem_cons_succ, List.setIfInBounds_toArray, List.set_cons_zero, List.set_cons_succ]
                            refine' T_take (i := 8) (v := _) rfl (by kernel_rfl) (by kernel_rfl) (by kernel_rfl) (by kernel_rfl) (fun _ _ _ h => h) (by kernel_rfl) hS ?_ ?_
                            rotate_left 1
                            · intro Wv hW
                              replace i0 := cell_of_ans hW i0
                              replace i1 := cell_of_ans hW i1
                              replace a1 := cell_of_ans hW a1
                              replace d1 := cell_of_ans hW d1
                              replace r0 := cell_of_ans hW r0
                              go_simp
                              first | done | with_reducible rfl | omega
                            try simp only [Act.put, List.getElem_toArray, List.getElem_cons_zero, List.getElem_cons_succ, List.setIfInBounds_toArray, List.set_cons_zero, List.set_cons_succ]
                            refine' T_take (i := 9) (v := _) rfl (by kernel_rfl) (by kernel_rfl) (by kernel_rfl) (by kernel_rfl) (fun _ _ _ h => h) (by kernel_rfl) hS ?_ ?_
                            rotate_left 1
                            · intro Wv hW
                              replace i0 := cell_of_ans hW i0
                              replace i1 := cell_of_ans hW i1
                              replace a1 := cell_of_ans hW a1
                              replace d1 := cell_of_ans hW d1
                              replace r0 := cell_of_ans hW r0
                              go_simp
                              first | done | with_reducible rfl | omega
                            try simp only [Act.put, List.getElem_toArray, List.getElem_cons_zero, List.getElem_cons_succ, List.setIfInBounds_toArray, List.set_cons_zero, List.set_cons_succ]
                            refine' T_take (i := 10) (v := _) rfl (by kernel_rfl) (by kernel_rfl) (by kernel_rfl) (by kernel_rfl) (fun _ _ _ h => h) (by kernel_rfl) hS ?_ ?_
                            rotate_left 1
                            · intro Wv hW
                              replace i0 := cell_of_ans hW i0
                              replace i1 := cell_of_ans hW i1
                              replace a1 := cell_of_ans hW a1
                              replace d1 := cell_of_ans hW d1
                              replace r0 := cell_of_ans hW r0
                              go_simp
                              first | done | with_reducible rfl | omega
                            try simp only [Act.put, List.getElem_toArray, List.getElem_cons_zero, List.getElem_cons_succ, List.setIfInBounds_toArray, List.set_cons_zero, List.set_cons_succ]
                            refine' T_take (i := 11) (v := _) rfl (by kernel_rfl) (by kernel_rfl) (by kernel_rfl) (by kernel_rfl) (fun _ _ _ h => h) (by kernel_rfl) hS ?_ ?_
                            rotate_left 1
                            · intro Wv hW
                              replace i0 := cell_of_ans hW i0
                              replace i1 := cell_of_ans hW i1
                              replace a1 := cell_of_ans hW a1
                              replace d1 := cell_of_ans hW d1
                              replace r0 := cell_of_ans hW r0
                              go_simp
                              first | done | with_reducible rfl | omega
                            try simp only [Act.put, List.getElem_toArray, List.getElem_cons_zero, List.getElem_cons_succ, List.setIfInBounds_toArray, List.set_cons_zero, List.set_cons_succ]
                            refine' T_take (i := 12) (v := _) rfl (by kernel_rfl) (by kernel_rfl) (by kernel_rfl) (by kernel_rfl) (fun _ _ _ h => h) (by kernel_rfl) hS ?_ ?_
                            rotate_left 1
                            · intro Wv hW
                              replace i0 := cell_of_ans hW i0
                              replace i1 := cell_of_ans hW i1
                              replace a1 := cell_of_ans hW a1
                              replace d1 := cell_of_ans hW d1
                              replace r0 := cell_of_ans hW r0
                              go_simp
                              first | done | with_reducible rfl | omega
                            try simp only [Act.put, List.getElem_toArray, List.getElem_cons_zero, List.getElem_cons_succ, List.setIfInBounds_toArray, List.set_cons_zero, List.set_cons_succ]
                            refine' T_take (i := 13) (v := _) rfl (by kernel_rfl) (by kernel_rfl) (by kernel_rfl) (by kernel_rfl) (fun _ _ _ h => h) (by kernel_rfl) hS ?_ ?_
                            rotate_left 1
                            · intro Wv hW
                              replace i0 := cell_of_ans hW i0
                              replace i1 := cell_of_ans hW i1
                              replace a1 := cell_of_ans hW a1
                              replace d1 := cell_of_ans hW d1
                              replace r0 := cell_of_ans hW r0
                              go_simp
                              first | done | with_reducible rfl | omega
                            try simp only [Act.put, List.getElem_toArray, List.getElem_cons_zero, List.getElem_cons_succ, List.setIfInBounds_toArray, List.set_cons_zero, List.set_cons_succ]
                            refine' T_take (i := 14) (v := _) rfl (by kernel_rfl) (by kernel_rfl) (by kernel_rfl) (by kernel_rfl) (fun _ _ _ h => h) (by kernel_rfl) hS ?_ ?_
                            rotate_left 1
                            · intro Wv hW
                              replace i0 := cell_of_ans hW i0
                              replace i1 := cell_of_ans hW i1
                              replace a1 := cell_of_ans hW a1
                              replace d1 := cell_of_ans hW d1
                              replace r0 := cell_of_ans hW r0
                              go_simp
                              first | done | with_reducible rfl | omega
                            try simp only [Act.put, List.getElem_toArray, List.getElem_cons_zero, List.getElem_cons_succ, List.setIfInBounds_toArray, List.set_cons_zero, List.set_cons_succ]
                            refine' T_take (i := 15) (v := _) rfl (by kernel_rfl) (by kernel_rfl) (by kernel_rfl) (by kernel_rfl) (fun _ _ _ h => h) (by kernel_rfl) hS ?_ ?_
                            rotate_left 1
                            · intro Wv hW
                              replace i0 := cell_of_ans hW i0
                              replace i1 := cell_of_ans hW i1
                              replace a1 := cell_of_ans hW a1
                              replace d1 := cell_of_ans hW d1
                              replace r0 := cell_of_ans hW r0
                              go_simp
                              first | done | with_reducible rfl | omega
                            try simp only [Act.put, List.getElem_toArray, List.getElem_cons_zero, List.getElem_cons_succ, List.setIfInBounds_toArray, List.set_cons_zero, List.set_cons_succ]
                            refine' T_take (i := 16) (v := .bool false) rfl (by kernel_rfl) (by kernel_rfl) (by kernel_rfl) (by kernel_rfl) (fun _ _ _ h => h) (by kernel_rfl) hS ?_ ?_
                            skip
                            · intro Wv hW
                              replace i0 := cell_of_ans hW i0
                              replace i1 := cell_of_ans hW i1
                              replace a1 := cell_of_ans hW a1
                              replace d1 := cell_of_ans hW d1
                              replace r0 := cell_of_ans hW r0
                              go_simp
                              first | done | with_reducible rfl | omega
                            try simp only [Act.put, List.getElem_toArray, List.getElem_cons_zero, List.getElem_cons_succ, List.setIfInBounds_toArray, List.set_cons_zero, List.set_cons_succ]
                            refine' T_skip (i := 17) rfl (by kernel_rfl) (by kernel_rfl) (by kernel_rfl) (by kernel_rfl) (fun _ _ _ h => h) (by kernel_rfl) hS ?_
                            try simp only [Act.put, List.getElem_toArray, List.getElem_cons_zero, List.getElem_cons_succ, List.setIfInBounds_toArray, List.set_cons_zero, List.set_cons_succ]
                            refine' T_skip (i := 18) rfl (by kernel_rfl) (by kernel_rfl) (by kernel_rfl) (by kernel_rfl) (fun _ _ _ h => h) (by kernel_rfl) hS ?_
                            try simp only [Act.put, List.getElem_toArray, List.getElem_cons_zero, List.getElem_cons_succ, List.setIfInBounds_toArray, List.set_cons_zero, List.set_cons_succ]
                            refine' T_skip (i := 19) rfl (by kernel_rfl) (by kernel_rfl) (by kernel_rfl) (by kernel_rfl) (fun _ _ _ h => h) (by kernel_rfl) hS ?_
                            try simp only [Act.put, List.getElem_toArray, List.getElem_cons_zero, List.getElem_cons_succ, List.setIfInBounds_toArray, List.set_cons_zero, List.set_cons_succ]
                            refine' T_skip (i := 20) rfl (by kernel_rfl) (by kernel_rfl) (by kernel_rfl) (by kernel_rfl) (fun _ _ _ h => h) (by kernel_rfl) hS ?_
                            try simp only [Act.put, List.getElem_toArray, List.getElem_cons_zero, List.getElem_cons_succ, List.setIfInBounds_toArray, List.set_cons_zero, List.set_cons_succ]
                            refine' T_skip (i := 21) rfl (by kernel_rfl) (by kernel_rfl) (by kernel_rfl) (by kernel_rfl) (fun _ _ _ h => h) (by kernel_rfl) hS ?_
                            try simp only [Act.put, List.getElem_toArray, List.getElem_cons_zero, List.getElem_cons_succ, List.setIfInBounds_toArray, List.set_cons_zero, List.set_cons_succ]
                            refine' T_skip (i := 22) rfl (by kernel_rfl) (by kernel_rfl) (by kernel_rfl) (by kernel_rfl) (fun _ _ _ h => h) (by kernel_rfl) hS ?_
                            try simp only [Act.put, List.getElem_toArray, List.getElem_cons_zero, List.getElem_cons_succ, List.setIfInBounds_toArray, List.set_cons_zero, List.set_cons_succ]
                            refine' T_skip (i := 23) rfl (by kernel_rfl) (by kernel_rfl) (by kernel_rfl) (by kernel_rfl) (fun _ _ _ h => h) (by kernel_rfl) hS ?_
                            try simp only [Act.put, List.getElem_toArray, List.getElem_cons_zero, List.getElem_cons_succ, List.setIfInBounds_toArray, List.set_cons_zero, List.set_cons_succ]
                            refine' T_skip (i := 24) rfl (by kernel_rfl) (by kernel_rfl) (by kernel_rfl) (by kernel_rfl) (fun _ _ _ h => h) (by kernel_rfl) hS ?_
                            try simp only [Act.put, List.getElem_toArray, List.getElem_cons_zero, List.getElem_cons_succ, List.setIfInBounds_toArray, List.set_cons_zero, List.set_cons_succ]
                            refine' T_skip (i := 25) rfl (by kernel_rfl) (by kernel_rfl) (by kernel_rfl) (by kernel_rfl) (fun _ _ _ h => h) (by kernel_rfl) hS ?_
                            try simp only [Act.put, List.getElem_toArray, List.getElem_cons_zero, List.getElem_cons_succ, List.setIfInBounds_toArray, List.set_cons_zero, List.set_cons_succ]
                            refine' T_skip (i := 26) rfl (by kernel_rfl) (by kernel_rfl) (by kernel_rfl) (by kernel_rfl) (fun _ _ _ h => h) (by kernel_rfl) hS ?_
                            try simp only [Act.put, List.getElem_toArray, List.getElem_cons_zero, List.getElem_cons_succ, List.setIfInBounds_toArray, List.set_cons_zero, List.set_cons_succ]
                            refine' T_skip (i := 27) rfl (by kernel_rfl) (by kernel_rfl) (by kernel_rfl) (by kernel_rfl) (fun _ _ _ h => h) (by kernel_rfl) hS ?_
                            try simp only [Act.put, List.getElem_toArray, List.getElem_cons_zero, List.getElem_cons_succ, List.setIfInBounds_toArray, List.set_cons_zero, List.set_cons_succ]
                            refine' T_skip (i := 28) rfl (by kernel_rfl) (by kernel_rfl) (by kernel_rfl) (by kernel_rfl) (fun _ _ _ h => h) (by kernel_rfl) hS ?_
                            try simp only [Act.put, List.getElem_toArray, List.getElem_cons_zero, List.getElem_cons_succ, List.setIfInBounds_toArray, List.set_cons_zero, List.set_cons_succ]
                            refine' T_skip (i := 29) rfl (by kernel_rfl) (by kernel_rfl) (by kernel_rfl) (by kernel_rfl) (fun _ _ _ h => h) (by kernel_rfl) hS ?_
                            try simp only [Act.put, List.getElem_toArray, List.getElem_cons_zero, List.getElem_cons_succ, List.setIfInBounds_toArray, List.set_cons_zero, List.set_cons_succ]
                            refine' T_skip (i := 30) rfl (by kernel_rfl) (by kernel_rfl) (by kernel_rfl) (by kernel_rfl) (fun _ _ _ h => h) (by kernel_rfl) hS ?_
                            try simp only [Act.put, List.getElem_toArray, List.getElem_cons_zero, List.getElem_cons_succ, List.setIfInBounds_toArray, List.set_cons_zero, List.set_cons_succ]
                            refine' T_skip (i := 31) rfl (by kernel_rfl) (by kernel_rfl) (by kernel_rfl) (by kernel_rfl) (fun _ _ _ h => h) (by kernel_rfl) hS ?_
                            try simp only [Act.put, List.getElem_toArray, List.getElem_cons_zero, List.getElem_cons_succ, List.setIfInBounds_toArray, List.set_cons_zero, List.set_cons_succ]
                            refine' T_take (i := 32) (v := _) rfl (by kernel_rfl) (by kernel_rfl) (by kernel_rfl) (by kernel_rfl) (fun _ _ _ h => h) (by kernel_rfl) hS ?_ ?_
                            rotate_left 1
                            · intro Wv hW
                              replace i0 := cell_of_ans hW i0
                              replace i1 := cell_of_ans hW i1
                              replace a1 := cell_of_ans hW a1
                              replace d1 := cell_of_ans hW d1
                              replace r0 := cell_of_ans hW r0
                              go_simp
                              first | done | with_reducible rfl | omega
                            try simp only [Act.put, List.getElem_toArray, List.getElem_cons_zero, List.getElem_cons_succ, List.setIfInBounds_toArray, List.set_cons_zero, List.set_cons_succ]
                            refine T_done (by kernel_rfl) ?_ _
                            refine NoPanic.normal ?_
                            try go_simp
                            have HBF := Lib.hid (HBJ.out.trans (hS.mono HBJ.out.size))
                            clear hS
                            go_wp2_with fail
                            go_roundw
                            case rel => exact ⟨j + 1, by omega, by go_num, HBF.out⟩
                            case measure => simp [intOf]; omega
                      · obtain rfl : j = rules.length := by omega
                        have hji : ¬ (rules.length : Int) < (rules.length : Int) := by omega
                        have HBF := Lib.hid (HWZ.out.trans (hb.mono HWZ.out.size))
                        clear hb
                        go_wp2_with fail
                        go_roundw
                        case rel => exact ⟨o + 1, by omega, by go_num, by rw [HCN.out, if_pos hp2], HBF.out⟩
                        case measure => simp [intOf]; omega
                · have hp1 : ¬ p1 < s1 := fun h => hp2 (hf1 h)
                  have g2 : s2 ≤ p2 := by omega
                  clear hf1
                  go_upto_region 14 with fail
                  go_quiet (fail)
                  have hbq : Below wr.heap.size wr (wr.drewN nq) := below_drewN (Below.refl _ _) nq
                  replace i0 := cell_of_ans hbq i0
                  replace i1 := cell_of_ans hbq i1
                  replace a1 := cell_of_ans hbq a1
                  replace a2 := cell_of_ans hbq a2
                  replace d1 := cell_of_ans hbq d1
                  replace d2 := cell_of_ans hbq d2
                  replace HWR := Lib.hid (HWR.out.trans (hbq.mono HWR.out.size))
                  clear hbq
                  generalize wr.drewN nq = wq at *
                  go_upto_region 16 with fail
                  go_quiet (fail)
                  have hbq : Below wq.heap.size wq (wq.drewN nq) := below_drewN (Below.refl _ _) nq
                  replace i0 := cell_of_ans hbq i0
                  replace i1 := cell_of_ans hbq i1
                  replace a1 := cell_of_ans hbq a1
                  replace a2 := cell_of_ans hbq a2
                  replace d1 := cell_of_ans hbq d1
                  replace d2 := cell_of_ans hbq d2
                  replace HWR := Lib.hid (HWR.out.trans (hbq.mono HWR.out.size))
                  clear hbq
                  generalize wq.drewN nq = wr at *
                  have HXZ : Hid (Below x14.heap.size x14 wr) := HBR.out.trans (HWR.out.mono HBR.out.size)
                  have HWZ := Lib.hid HWR.out
                  clear HWR a2 d2
                  go_wp2_with fail
                  generalize wr = wz at *
                  go_loopw [14] (fun i wr => ∃ j : Nat, j ≤ rules.length ∧ i = .int .i64 j ∧ Below wz.heap.size wz wr) (fun i _ => rules.length - (intOf i).toNat)
                  case atStart => exact ⟨0, by omega, rfl, Below.refl _ _⟩
                  case round =>
                    obtain ⟨j, hj, rfl, hb⟩ := hrel
                    by_cases hj1 : j < rules.length
                    · have hji : (j : Int) < (rules.length : Int) := by omega
                      have hxw : Below x14.heap.size x14 wr := HXZ.out.trans (hb.mono HXZ.out.size)
                      obtain ⟨b, off, rfl, hbl, r0, r1, r2⟩ := HU.out.at_ hj1
                      replace r0 := cell_of_ans hxw r0
                      replace i0 := cell_of_ans hb i0
                      replace i1 := cell_of_ans hb i1
                      replace a1 := cell_of_ans hb a1
                      replace d1 := cell_of_ans hb d1
                      have HNo := Lib.hid (fun (W : World) (h : Below wr.heap.size wr W) => HN35.out j hj1 (o : Int) W (HL.out.step (hxw.trans (h.mono hxw.size))))
                      have HNt := Lib.hid (fun (W : World) (h : Below wr.heap.size wr W) => HN35.out j hj1 (t : Int) W (HL.out.step (hxw.trans (h.mono hxw.size))))
                      have HBJ := Lib.hid hb
                      have HEQ := Lib.hid (fun h => HF2o.out h j hj1)
                      clear hb hxw HN35 HL HU HF2o HC1 HC2
                      generalize ix rules j = cd at *
                      generalize numS cd (hasI []) (o : Int) l.games = no at *
                      generalize numS cd (hasI []) (t : Int) l.games = nt at *
                      by_cases hcd : cd = 3
                      · have e3 : (cd != 3) = false := by simp [hcd]
                        clear hcd HEQ
                        go_upto_region 21 with fail
                        refine wp_region_noPanic ?_
                        have hS : (fun W' : World => Below wr.heap.size wr W') wr.drew := (Below.refl _ _).drew
                        refine wp_region_any (by kernel_rfl) (wpAny_of_T (S := fun W' : World => Below wr.heap.size wr W') (m := 33) _ _ _ _ ?_)
                        refine' T_take (i := 0) (v := _) rfl (by kernel_rfl) (by kernel_rfl) (by kernel_rfl) (by kernel_rfl) (fun _ _ _ h => h) (by kernel_rfl) hS ?_ ?_
                        rotate_left 1
                        · intro Wv hW
                          replace i0 := cell_of_ans hW i0
                          replace i1 := cell_of_ans hW i1
                          replace a1 := cell_of_ans hW a1
                          replace d1 := cell_of_ans hW d1
                          replace r0 := cell_of_ans hW r0
                          go_simp
                          first | done | with_reducible rfl | omega
                        try simp only [Act.put, List.getElem_toArray, List.getElem_cons_zero, List.getElem_cons_succ, List.setIfInBounds_toArray, List.set_cons_zero, List.set_cons_succ]
                        refine' T_take (i := 1) (v := _) rfl (by kernel_rfl) (by kernel_rfl) (by kernel_rfl) (by kernel_rfl) (fun _ _ _ h => h) (by kernel_rfl) hS ?_ ?_
                        rotate_left 1
                        · intro Wv hW
                          replace i0 := cell_of_ans hW i0
                          replace i1 := cell_of_ans hW i1
                          replace a1 := cell_of_ans hW a1
                          replace d1 := cell_of_ans hW d1
                          replace r0 := cell_of_ans hW r0
                          go_simp
                          first | done | with_reducible rfl | omega
                        try simp only [Act.put, List.getElem_toArray, List.getElem_cons_zero, List.getElem_cons_succ, List.setIfInBounds_toArray, List.set_cons_zero, List.set_cons_succ]
                        refine' T_take (i := 2) (v := _) rfl (by kernel_rfl) (by kernel_rfl) (by kernel_rfl) (by kernel_rfl) (fun _ _ _ h => h) (by kernel_rfl) hS ?_ ?_
                        rotate_left 1
                        · intro Wv hW
                          replace i0 := cell_of_ans hW i0
                          replace i1 := cell_of_ans hW i1
                          replace a1 := cell_of_ans hW a1
                          replace d1 := cell_of_ans hW d1
                          replace r0 := cell_of_ans hW r0
                          go_simp
                          first | done | with_reducible rfl | omega
                        try simp only [Act.put, List.getElem_toArray, List.getElem_cons_zero, List.getElem_cons_succ, List.setIfInBounds_toArray, List.set_cons_zero, List.set_cons_succ]
                        refine' T_take (i := 3) (v := _) rfl (by kernel_rfl) (by kernel_rfl) (by kernel_rfl) (by kernel_rfl) (fun _ _ _ h => h) (by kernel_rfl) hS ?_ ?_
                        rotate_left 1
                        · intro Wv hW
                          replace i0 := cell_of_ans hW i0
                          replace i1 := cell_of_ans hW i1
                          replace a1 := cell_of_ans hW a1
                          replace d1 := cell_of_ans hW d1
                          replace r0 := cell_of_ans hW r0
                          go_simp
                          first | done | with_reducible rfl | omega
                        try simp only [Act.put, List.getElem_toArray, List.getElem_cons_zero, List.getElem_cons_succ, List.setIfInBounds_toArray, List.set_cons_zero, List.set_cons_succ]
                        refine' T_take (i := 4) (v := _) rfl (by kernel_rfl) (by kernel_rfl) (by kernel_rfl) (by kernel_rfl) (fun _ _ _ h => h) (by kernel_rfl) hS ?_ ?_
                        rotate_left 1
                        · intro Wv hW
                          replace i0 := cell_of_ans hW i0
                          replace i1 := cell_of_ans hW i1
                          replace a1 := cell_of_ans hW a1
                          replace d1 := cell_of_ans hW d1
                          replace r0 := cell_of_ans hW r0
                          go_simp
                          first | done | with_reducible rfl | omega
                        try simp only [Act.put, List.getElem_toArray, List.getElem_cons_zero, List.getElem_cons_succ, List.setIfInBounds_toArray, List.set_cons_zero, List.set_cons_succ]
                        refine' T_take (i := 5) (v := .bool false) rfl (by kernel_rfl) (by kernel_rfl) (by kernel_rfl) (by kernel_rfl) (fun _ _ _ h => h) (by kernel_rfl) hS ?_ ?_
                        skip
                        · intro Wv hW
                          replace i0 := cell_of_ans hW i0
                          replace i1 := cell_of_ans hW i1
                          replace a1 := cell_of_ans hW a1
                          replace d1 := cell_of_ans hW d1
                          replace r0 := cell_of_ans hW r0
                          go_simp
                          first | done | with_reducible rfl | omega
                        try simp only [Act.put, List.getElem_toArray, List.getElem_cons_zero, List.getElem_cons_succ, List.setIfInBounds_toArray, List.set_cons_zero, List.set_cons_succ]
                        refine' T_skip (i := 6) rfl (by kernel_rfl) (by kernel_rfl) (by kernel_rfl) (by kernel_rfl) (fun _ _ _ h => h) (by kernel_rfl) hS ?_
                        try simp only [Act.put, List.getElem_toArray, List.getElem_cons_zero, List.getElem_cons_succ, List.setIfInBounds_toArray, List.set_cons_zero, List.set_cons_succ]
                        refine' T_skip (i := 7) rfl (by kernel_rfl) (by kernel_rfl) (by kernel_rfl) (by kernel_rfl) (fun _ _ _ h => h) (by kernel_rfl) hS ?_
                        try simp only [Act.put, List.getElem_toArray, List.getElem_cons_zero, List.getElem_cons_succ, List.setIfInBounds_toArray, List.set_cons_zero, List.set_cons_succ]
                        refine' T_skip (i := 8) rfl (by kernel_rfl) (by kernel_rfl) (by kernel_rfl) (by kernel_rfl) (fun _ _ _ h => h) (by kernel_rfl) hS ?_
                        try simp only [Act.put, List.getElem_toArray, List.getElem_cons_zero, List.getElem_cons_succ, List.setIfInBounds_toArray, List.set_cons_zero, List.set_cons_succ]
                        refine' T_skip (i := 9) rfl (by kernel_rfl) (by kernel_rfl) (by kernel_rfl) (by kernel_rfl) (fun _ _ _ h => h) (by kernel_rfl) hS ?_
                        try simp only [Act.put, List.getElem_toArray, List.getElem_cons_zero, List.getElem_cons_succ, List.setIfInBounds_toArray, List.set_cons_zero, List.set_cons_succ]
                        refine' T_skip (i := 10) rfl (by kernel_rfl) (by kernel_rfl) (by kernel_rfl) (by kernel_rfl) (fun _ _ _ h => h) (by kernel_rfl) hS ?_
                        try simp only [Act.put, List.getElem_toArray, List.getElem_cons_zero, List.getElem_cons_succ, List.setIfInBounds_toArray, List.set_cons_zero, List.set_cons_succ]
                        refine' T_skip (i := 11) rfl (by kernel_rfl) (by kernel_rfl) (by kernel_rfl) (by kernel_rfl) (fun _ _ _ h => h) (by kernel_rfl) hS ?_
                        try simp only [Act.put, List.getElem_toArray, List.getElem_cons_zero, List.getElem_cons_succ, List.setIfInBounds_toArray, List.set_cons_zero, List.set_cons_succ]
                        refine' T_skip (i := 12) rfl (by kernel_rfl) (by kernel_rfl) (by kernel_rfl) (by kernel_rfl) (fun _ _ _ h => h) (by kernel_rfl) hS ?_
                        try simp only [Act.put, List.getElem_toArray, List.getElem_cons_zero, List.getElem_cons_succ, List.setIfInBounds_toArray, List.set_cons_zero, List.set_cons_succ]
                        refine' T_skip (i := 13) rfl (by kernel_rfl) (by kernel_rfl) (by kernel_rfl) (by kernel_rfl) (fun _ _ _ h => h) (by kernel_rfl) hS ?_
                        try simp only [Act.put, List.getElem_toArray, List.getElem_cons_zero, List.getElem_cons_succ, List.setIfInBounds_toArray, List.set_cons_zero, List.set_cons_succ]
                        refine' T_skip (i := 14) rfl (by kernel_rfl) (by kernel_rfl) (by kernel_rfl) (by kernel_rfl) (fun _ _ _ h => h) (by kernel_rfl) hS ?_
                        try simp only [Act.put, List.getElem_toArray, List.getElem_cons_zero, List.getElem_cons_succ, List.setIfInBounds_toArray, List.set_cons_zero, List.set_cons_succ]
                        refine' T_take (i := 15) (v := _) rfl (by kernel_rfl) (by kernel_rfl) (by kernel_rfl) (by kernel_rfl) (fun _ _ _ h => h) (by kernel_rfl) hS ?_ ?_
                        rotate_left 1
                        · intro Wv hW
                          replace i0 := cell_of_ans hW i0
                          replace i1 := cell_of_ans hW i1
                          replace a1 := cell_of_ans hW a1
                          replace d1 := cell_of_ans hW d1
                          replace r0 := cell_of_ans hW r0
                          go_simp
                          first | done | with_reducible rfl | omega
                        try simp only [Act.put, List.getElem_toArray, List.getElem_cons_zero, List.getElem_cons_succ, List.setIfInBounds_toArray, List.set_cons_zero, List.set_cons_succ]
                        refine' T_take (i := 16) (v := .bool false) rfl (by kernel_rfl) (by kernel_rfl) (by kernel_rfl) (by kernel_rfl) (fun _ _ _ h => h) (by kernel_rfl) hS ?_ ?_
                        skip
                        · intro Wv hW
                          replace i0 := cell_of_ans hW i0
                          replace i1 := cell_of_ans hW i1
                          replace a1 := cell_of_ans hW a1
                          replace d1 := cell_of_ans hW d1
                          replace r0 := cell_of_ans hW r0
                          go_simp
                          first | done | with_reducible rfl | omega
                        try simp only [Act.put, List.getElem_toArray, List.getElem_cons_zero, List.getElem_cons_succ, List.setIfInBounds_toArray, List.set_cons_zero, List.set_cons_succ]
                        refine' T_skip (i := 17) rfl (by kernel_rfl) (by kernel_rfl) (by kernel_rfl) (by kernel_rfl) (fun _ _ _ h => h) (by kernel_rfl) hS ?_
                        try simp only [Act.put, List.getElem_toArray, List.getElem_cons_zero, List.getElem_cons_succ, List.setIfInBounds_toArray, List.set_cons_zero, List.set_cons_succ]
                        refine' T_skip (i := 18) rfl (by kernel_rfl) (by kernel_rfl) (by kernel_rfl) (by kernel_rfl) (fun _ _ _ h => h) (by kernel_rfl) hS ?_
                        try simp only [Act.put, List.getElem_toArray, List.getElem_cons_zero, List.getElem_cons_succ, List.setIfInBounds_toArray, List.set_cons_zero, List.set_cons_succ]
                        refine' T_skip (i := 19) rfl (by kernel_rfl) (by kernel_rfl) (by kernel_rfl) (by kernel_rfl) (fun _ _ _ h => h) (by kernel_rfl) hS ?_
                        try simp only [Act.put, List.getElem_toArray, List.getElem_cons_zero, List.getElem_cons_succ, List.setIfInBounds_toArray, List.set_cons_zero, List.set_cons_succ]
                        refine' T_skip (i := 20) rfl (by kernel_rfl) (by kernel_rfl) (by kernel_rfl) (by kernel_rfl) (fun _ _ _ h => h) (by kernel_rfl) hS ?_
                        try simp only [Act.put, List.getElem_toArray, List.getElem_cons_zero, List.getElem_cons_succ, List.setIfInBounds_toArray, List.set_cons_zero, List.set_cons_succ]
                        refine' T_skip (i := 21) rfl (by kernel_rfl) (by kernel_rfl) (by kernel_rfl) (by kernel_rfl) (fun _ _ _ h => h) (by kernel_rfl) hS ?_
                        try simp only [Act.put, List.getElem_toArray, List.getElem_cons_zero, List.getElem_cons_succ, List.setIfInBounds_toArray, List.set_cons_zero, List.set_cons_succ]
                        refine' T_skip (i := 22) rfl (by kernel_rfl) (by kernel_rfl) (by kernel_rfl) (by kernel_rfl) (fun _ _ _ h => h) (by kernel_rfl) hS ?_
                        try simp only [Act.put, List.getElem_toArray, List.getElem_cons_zero, List.getElem_cons_succ, List.setIfInBounds_toArray, List.set_cons_zero, List.set_cons_succ]
                        refine' T_skip (i := 23) rfl (by kernel_rfl) (by kernel_rfl) (by kernel_rfl) (by kernel_rfl) (fun _ _ _ h => h) (by kernel_rfl) hS ?_
                        try simp only [Act.put, List.getElem_toArray, List.getElem_cons_zero, List.getElem_cons_succ, List.setIfInBounds_toArray, List.set_cons_zero, List.set_cons_succ]
                        refine' T_skip (i := 24) rfl (by kernel_rfl) (by kernel_rfl) (by kernel_rfl) (by kernel_rfl) (fun _ _ _ h => h) (by kernel_rfl) hS ?_
                        try simp only [Act.put, List.getElem_toArray, List.getElem_cons_zero, List.getElem_cons_succ, List.setIfInBounds_toArray, List.set_cons_zero, List.set_cons_succ]
                        refine' T_skip (i := 25) rfl (by kernel_rfl) (by kernel_rfl) (by kernel_rfl) (by kernel_rfl) (fun _ _ _ h => h) (by kernel_rfl) hS ?_
                        try simp only [Act.put, List.getElem_toArray, List.getElem_cons_zero, List.getElem_cons_succ, List.setIfInBounds_toArray, List.set_cons_zero, List.set_cons_succ]
                        refine' T_skip (i := 26) rfl (by kernel_rfl) (by kernel_rfl) (by kernel_rfl) (by kernel_rfl) (fun _ _ _ h => h) (by kernel_rfl) hS ?_
                        try simp only [Act.put, List.getElem_toArray, List.getElem_cons_zero, List.getElem_cons_succ, List.setIfInBounds_toArray, List.set_cons_zero, List.set_cons_succ]
                        refine' T_skip (i := 27) rfl (by kernel_rfl) (by kernel_rfl) (by kernel_rfl) (by kernel_rfl) (fun _ _ _ h => h) (by kernel_rfl) hS ?_
                        try simp only [Act.put, List.getElem_toArray, List.getElem_cons_zero, List.getElem_cons_succ, List.setIfInBounds_toArray, List.set_cons_zero, List.set_cons_succ]
                        refine' T_skip (i := 28) rfl (by kernel_rfl) (by kernel_rfl) (by kernel_rfl) (by kernel_rfl) (fun _ _ _ h => h) (by kernel_rfl) hS ?_
                        try simp only [Act.put, List.getElem_toArray, List.getElem_cons_zero, List.getElem_cons_succ, List.setIfInBounds_toArray, List.set_cons_zero, List.set_cons_succ]
                        refine' T_skip (i := 29) rfl (by kernel_rfl) (by kernel_rfl) (by kernel_rfl) (by kernel_rfl) (fun _ _ _ h => h) (by kernel_rfl) hS ?_
                        try simp only [Act.put, List.getElem_toArray, List.getElem_cons_zero, List.getElem_cons_succ, List.setIfInBounds_toArray, List.set_cons_zero, List.set_cons_succ]
                        refine' T_skip (i := 30) rfl (by kernel_rfl) (by kernel_rfl) (by kernel_rfl) (by kernel_rfl) (fun _ _ _ h => h) (by kernel_rfl) hS ?_
                        try simp only [Act.put, List.getElem_toArray, List.getElem_cons_zero, List.getElem_cons_succ, List.setIfInBounds_toArray, List.set_cons_zero, List.set_cons_succ]
                        refine' T_skip (i := 31) rfl (by kernel_rfl) (by kernel_rfl) (by kernel_rfl) (by kernel_rfl) (fun _ _ _ h => h) (by kernel_rfl) hS ?_
                        try simp only [Act.put, List.getElem_toArray, List.getElem_cons_zero, List.getElem_cons_succ, List.setIfInBounds_toArray, List.set_cons_zero, List.set_cons_succ]
                        refine' T_take (i := 32) (v := _) rfl (by kernel_rfl) (by kernel_rfl) (by kernel_rfl) (by kernel_rfl) (fun _ _ _ h => h) (by kernel_rfl) hS ?_ ?_
                        rotate_left 1
                        · intro Wv hW
                          replace i0 := cell_of_ans hW i0
                          replace i1 := cell_of_ans hW i1
                          replace a1 := cell_of_ans hW a1
                          replace d1 := cell_of_ans hW d1
                          replace r0 := cell_of_ans hW r0
                          go_simp
                          first | done | with_reducible rfl | omega
                        try simp only [Act.put, List.getElem_toArray, List.getElem_cons_zero, List.getElem_cons_succ, List.setIfInBounds_toArray, List.set_cons_zero, List.set_cons_succ]
                        refine T_done (by kernel_rfl) ?_ _
                        refine NoPanic.normal ?_
                        try go_simp
                        have HBF := Lib.hid (HBJ.out.trans (hS.mono HBJ.out.size))
                        clear hS
                        go_wp2_with fail
                        go_roundw
                        case rel => exact ⟨j + 1, by omega, by go_num, HBF.out⟩
                        case measure => simp [intOf]; omega
                      · have e3 : (cd != 3) = true := by simp [hcd]
                        by_cases hpq : p1 = s1
                        · have e4 : (p1 == s1) = true := by simp [hpq]
                          have e5 : (no != nt) = false := by rw [HEQ.out hpq hcd]; simp
                          clear hcd hpq HEQ
                          go_upto_region 21 with fail
                          refine wp_region_noPanic ?_
                          have hS : (fun W' : World => Below wr.heap.size wr W') wr.drew := (Below.refl _ _).drew
                          refine wp_region_any (by kernel_rfl) (wpAny_of_T (S := fun W' : World => Below wr.heap.size wr W') (m := 33) _ _ _ _ ?_)
                          refine' T_take (i := 0) (v := _) rfl (by kernel_rfl) (by kernel_rfl) (by kernel_rfl) (by kernel_rfl) (fun _ _ _ h => h) (by kernel_rfl) hS ?_ ?_
                          rotate_left 1
                          · intro Wv hW
                            replace i0 := cell_of_ans hW i0
                            replace i1 := cell_of_ans hW i1
                            replace a1 := cell_of_ans hW a1
                            replace d1 := cell_of_ans hW d1
                            replace r0 := cell_of_ans hW r0
                            go_simp
                            first | done | with_reducible rfl | omega
                          try simp only [Act.put, List.getElem_toArray, List.getElem_cons_zero, List.getElem_cons_succ, List.setIfInBounds_toArray, List.set_cons_zero, List.set_cons_succ]
                          refine' T_take (i := 1) (v := _) rfl (by kernel_rfl) (by kernel_rfl) (by kernel_rfl) (by kernel_rfl) (fun _ _ _ h => h) (by kernel_rfl) hS ?_ ?_
                          rotate_left 1
                          · intro Wv hW
                            replace i0 := cell_of_ans hW i0
                            replace i1 := cell_of_ans hW i1
                            replace a1 := cell_of_ans hW a1
                            replace d1 := cell_of_ans hW d1
                            replace r0 := cell_of_ans hW r0
                            go_simp
                            first | done | with_reducible rfl | omega
                          try simp only [Act.put, List.getElem_toArray, List.getElem_cons_zero, List.getElem_cons_succ, List.setIfInBounds_toArray, List.set_cons_zero, List.set_cons_succ]
                          refine' T_take (i := 2) (v := _) rfl (by kernel_rfl) (by kernel_rfl) (by kernel_rfl) (by kernel_rfl) (fun _ _ _ h => h) (by kernel_rfl) hS ?_ ?_
                          rotate_left 1
                          · intro Wv hW
                            replace i0 := cell_of_ans hW i0
                            replace i1 := cell_of_ans hW i1
                            replace a1 := cell_of_ans hW a1
                            replace d1 := cell_of_ans hW d1
                            replace r0 := cell_of_ans hW r0
                            go_simp
                            first | done | with_reducible rfl | omega
                          try simp only [Act.put, List.getElem_toArray, List.getElem_cons_zero, List.getElem_cons_succ, List.setIfInBounds_toArray, List.set_cons_zero, List.set_cons_succ]
                          refine' T_take (i := 3) (v := _) rfl (by kernel_rfl) (by kernel_rfl) (by kernel_rfl) (by kernel_rfl) (fun _ _ _ h => h) (by kernel_rfl) hS ?_ ?_
                          rotate_left 1
                          · intro Wv hW
                            replace i0 := cell_of_ans hW i0
                            replace i1 := cell_of_ans hW i1
                            replace a1 := cell_of_ans hW a1
                            replace d1 := cell_of_ans hW d1
                            replace r0 := cell_of_ans hW r0
                            go_simp
                            first | done | with_reducible rfl | omega
                          try simp only [Act.put, List.getElem_toArray, List.getElem_cons_zero, List.getElem_cons_succ, List.setIfInBounds_toArray, List.set_cons_zero, List.set_cons_succ]
                          refine' T_take (i := 4) (v := _) rfl (by kernel_rfl) (by kernel_rfl) (by kernel_rfl) (by kernel_rfl) (fun _ _ _ h => h) (by kernel_rfl) hS ?_ ?_
                          rotate_left 1
                          · intro Wv hW
                            replace i0 := cell_of_ans hW i0
                            replace i1 := cell_of_ans hW i1
                            replace a1 := cell_of_ans hW a1
                            replace d1 := cell_of_ans hW d1
                            replace r0 := cell_of_ans hW r0
                            go_simp
                            first | done | with_reducible rfl | omega
                          try simp only [Act.put, List.getElem_toArray, List.getElem_cons_zero, List.getElem_cons_succ, List.setIfInBounds_toArray, List.set_cons_zero, List.set_cons_succ]
                          refine' T_take (i := 5) (v := .bool true) rfl (by kernel_rfl) (by kernel_rfl) (by kernel_rfl) (by kernel_rfl) (fun _ _ _ h => h) (by kernel_rfl) hS ?_ ?_
                          skip
                          · intro Wv hW
                            replace i0 := cell_of_ans hW i0
                            replace i1 := cell_of_ans hW i1
                            replace a1 := cell_of_ans hW a1
                            replace d1 := cell_of_ans hW d1
                            replace r0 := cell_of_ans hW r0
                            go_simp
                            first | done | with_reducible rfl | omega
                          try simp only [Act.put, List.getElem_toArray, List.getElem_cons_zero, List.getElem_cons_succ, List.setIfInBounds_toArray, List.set_cons_zero, List.set_cons_succ]
                          refine' T_take (i := 6) (v := _) rfl (by kernel_rfl) (by kernel_rfl) (by kernel_rfl) (by kernel_rfl) (fun _ _ _ h => h) (by kernel_rfl) hS ?_ ?_
                          rotate_left 1
                          · intro Wv hW
                            replace i0 := cell_of_ans hW i0
                            replace i1 := cell_of_ans hW i1
                            replace a1 := cell_of_ans hW a1
                            replace d1 := cell_of_ans hW d1
                            replace r0 := cell_of_ans hW r0
                            go_simp
                            first | done | with_reducible rfl | omega
                          try simp only [Act.put, List.getElem_toArray, List.getElem_cons_zero, List.getElem_cons_succ, List.setIfInBounds_toArray, List.set_cons_zero, List.set_cons_succ]
                          refine' T_take (i := 7) (v := _) rfl (by kernel_rfl) (by kernel_rfl) (by kernel_rfl) (by kernel_rfl) (fun _ _ _ h => h) (by kernel_rfl) hS ?_ ?_
                          rotate_left 1
                          · intro Wv hW
                            replace i0 := cell_of_ans hW i0
                            replace i1 := cell_of_ans hW i1
                            replace a1 := cell_of_ans hW a1
                            replace d1 := cell_of_ans hW d1
                            replace r0 := cell_of_ans hW r0
                            go_simp
                            first | done | with_reducible rfl | omega
                          try simp only [Act.put, List.getElem_toArray, List.getElem_cons_zero, List.getElem_cons_succ, List.setIfInBounds_toArray, List.set_cons_zero, List.set_cons_succ]
                          refine' T_take (i := 8) (v := _) rfl (by kernel_rfl) (by kernel_rfl) (by kernel_rfl) (by kernel_rfl) (fun _ _ _ h => h) (by kernel_rfl) hS ?_ ?_
                          rotate_left 1
                          · intro Wv hW
                            replace i0 := cell_of_ans hW i0
                            replace i1 := cell_of_ans hW i1
                            replace a1 := cell_of_ans hW a1
                            replace d1 := cell_of_ans hW d1
                            replace r0 := cell_of_ans hW r0
                            go_simp
                            first | done | with_reducible rfl | omega
                          try simp only [Act.put, List.getElem_toArray, List.getElem_cons_zero, List.getElem_cons_succ, List.setIfInBounds_toArray, List.set_cons_zero, List.set_cons_succ]
                          refine' T_take (i := 9) (v := _) rfl (by kernel_rfl) (by kernel_rfl) (by kernel_rfl) (by kernel_rfl) (fun _ _ _ h => h) (by kernel_rfl) hS ?_ ?_
                          rotate_left 1
                          · intro Wv hW
                            replace i0 := cell_of_ans hW i0
                            replace i1 := cell_of_ans hW i1
                            replace a1 := cell_of_ans hW a1
                            replace d1 := cell_of_ans hW d1
                            replace r0 := cell_of_ans hW r0
                            go_simp
                            first | done | with_reducible rfl | omega
                          try simp only [Act.put, List.getElem_toArray, List.getElem_cons_zero, List.getElem_cons_succ, List.setIfInBounds_toArray, List.set_cons_zero, List.set_cons_succ]
                          refine' T_take (i := 10) (v := _) rfl (by kernel_rfl) (by kernel_rfl) (by kernel_rfl) (by kernel_rfl) (fun _ _ _ h => h) (by kernel_rfl) hS ?_ ?_
                          rotate_left 1
                          · intro Wv hW
                            replace i0 := cell_of_ans hW i0
                            replace i1 := cell_of_ans hW i1
                            replace a1 := cell_of_ans hW a1
                            replace d1 := cell_of_ans hW d1
                            replace r0 := cell_of_ans hW r0
                            go_simp
                            first | done | with_reducible rfl | omega
                          try simp only [Act.put, List.getElem_toArray, List.getElem_cons_zero, List.getElem_cons_succ, List.setIfInBounds_toArray, List.set_cons_zero, List.set_cons_succ]
                          refine' T_take (i := 11) (v := _) rfl (by kernel_rfl) (by kernel_rfl) (by kernel_rfl) (by kernel_rfl) (fun _ _ _ h => h) (by kernel_rfl) hS ?_ ?_
                          rotate_left 1
                          · intro Wv hW
                            replace i0 := cell_of_ans hW i0
                            replace i1 := cell_of_ans hW i1
                            replace a1 := cell_of_ans hW a1
                            replace d1 := cell_of_ans hW d1
                            replace r0 := cell_of_ans hW r0
                            go_simp
                            first | done | with_reducible rfl | omega
                          try simp only [Act.put, List.getElem_toArray, List.getElem_cons_zero, List.getElem_cons_succ, List.setIfInBounds_toArray, List.set_cons_zero, List.set_cons_succ]
                          refine' T_take (i := 12) (v := _) rfl (by kernel_rfl) (by kernel_rfl) (by kernel_rfl) (by kernel_rfl) (fun _ _ _ h => h) (by kernel_rfl) hS ?_ ?_
                          rotate_left 1
                          · intro Wv hW
                            replace i0 := cell_of_ans hW i0
                            replace i1 := cell_of_ans hW i1
                            replace a1 := cell_of_ans hW a1
                            replace d1 := cell_of_ans hW d1
                            replace r0 := cell_of_ans hW r0
                            go_simp
                            first | done | with_reducible rfl | omega
                          try simp only [Act.put, List.getElem_toArray, List.getElem_cons_zero, List.getElem_cons_succ, List.setIfInBounds_toArray, List.set_cons_zero, List.set_cons_succ]
                          refine' T_take (i := 13) (v := _) rfl (by kernel_rfl) (by kernel_rfl) (by kernel_rfl) (by kernel_rfl) (fun _ _ _ h => h) (by kernel_rfl) hS ?_ ?_
                          rotate_left 1
                          · intro Wv hW
                            replace i0 := cell_of_ans hW i0
                            replace i1 := cell_of_ans hW i1
                            replace a1 := cell_of_ans hW a1
                            replace d1 := cell_of_ans hW d1
                            replace r0 := cell_of_ans hW r0
                            go_simp
                            first | done | with_reducible rfl | omega
                          try simp only [Act.put, List.getElem_toArray, List.getElem_cons_zero, List.getElem_cons_succ, List.setIfInBounds_toArray, List.set_cons_zero, List.set_cons_succ]
                          refine' T_take (i := 14) (v := _) rfl (by kernel_rfl) (by kernel_rfl) (by kernel_rfl) (by kernel_rfl) (fun _ _ _ h => h) (by kernel_rfl) hS ?_ ?_
                          rotate_left 1
                          · intro Wv hW
                            replace i0 := cell_of_ans hW i0
                            replace i1 := cell_of_ans hW i1
                            replace a1 := cell_of_ans hW a1
                            replace d1 := cell_of_ans hW d1
                            replace r0 := cell_of_ans hW r0
                            go_simp
                            first | done | with_reducible rfl | omega
                          try simp only [Act.put, List.getElem_toArray, List.getElem_cons_zero, List.getElem_cons_succ, List.setIfInBounds_toArray, List.set_cons_zero, List.set_cons_succ]
                          refine' T_take (i := 15) (v := _) rfl (by kernel_rfl) (by kernel_rfl) (by kernel_rfl) (by kernel_rfl) (fun _ _ _ h => h) (by kernel_rfl) hS ?_ ?_
                          rotate_left 1
                          · intro Wv hW
                            replace i0 := cell_of_ans hW i0
                            replace i1 := cell_of_ans hW i1
                            replace a1 := cell_of_ans hW a1
                            replace d1 := cell_of_ans hW d1
                            replace r0 := cell_of_ans hW r0
                            go_simp
                            first | done | with_reducible rfl | omega
                          try simp only [Act.put, List.getElem_toArray, List.getElem_cons_zero, List.getElem_cons_succ, List.setIfInBounds_toArray, List.set_cons_zero, List.set_cons_succ]
                          refine' T_take (i := 16) (v := .bool true) rfl (by kernel_rfl) (by kernel_rfl) (by kernel_rfl) (by kernel_rfl) (fun _ _ _ h => h) (by kernel_rfl) hS ?_ ?_
                          skip
                          · intro Wv hW
                            replace i0 := cell_of_ans hW i0
                            replace i1 := cell_of_ans hW i1
                            replace a1 := cell_of_ans hW a1
                            replace d1 := cell_of_ans hW d1
                            replace r0 := cell_of_ans hW r0
                            go_simp
                            first | done | with_reducible rfl | omega
                          try simp only [Act.put, List.getElem_toArray, List.getElem_cons_zero, List.getElem_cons_succ, List.setIfInBounds_toArray, List.set_cons_zero, List.set_cons_succ]
                          refine' T_take (i := 17) (v := _) rfl (by kernel_rfl) (by kernel_rfl) (by kernel_rfl) (by kernel_rfl) (fun _ _ _ h => h) (by kernel_rfl) hS ?_ ?_
                          rotate_left 1
                          · intro Wv hW
                            replace i0 := cell_of_ans hW i0
                            replace i1 := cell_of_ans hW i1
                            replace a1 := cell_of_ans hW a1
                            replace d1 := cell_of_ans hW d1
                            replace r0 := cell_of_ans hW r0
                            go_simp
                            first | done | with_reducible rfl | omega
                          try simp only [Act.put, List.getElem_toArray, List.getElem_cons_zero, List.getElem_cons_succ, List.setIfInBounds_toArray, List.set_cons_zero, List.set_cons_succ]
                          refine' T_take (i := 18) (v := _) rfl (by kernel_rfl) (by kernel_rfl) (by kernel_rfl) (by kernel_rfl) (fun _ _ _ h => h) (by kernel_rfl) hS ?_ ?_
                          rotate_left 1
                          · intro Wv hW
                            replace i0 := cell_of_ans hW i0
                            replace i1 := cell_of_ans hW i1
                            replace a1 := cell_of_ans hW a1
                            replace d1 := cell_of_ans hW d1
                            replace r0 := cell_of_ans hW r0
                            go_simp
                            first | done | with_reducible rfl | omega
                          try simp only [Act.put, List.getElem_toArray, List.getElem_cons_zero, List.getElem_cons_succ, List.setIfInBounds_toArray, List.set_cons_zero, List.set_cons_succ]
                          refine' T_take (i := 19) (v := _) rfl (by kernel_rfl) (by kernel_rfl) (by kernel_rfl) (by kernel_rfl) (fun _ _ _ h => h) (by kernel_rfl) hS ?_ ?_
                          rotate_left 1
                          · intro Wv hW
                            replace i0 := cell_of_ans hW i0
                            replace i1 := cell_of_ans hW i1
                            replace a1 := cell_of_ans hW a1
                            replace d1 := cell_of_ans hW d1
                            replace r0 := cell_of_ans hW r0
                            go_simp
                            first | done | with_reducible rfl | omega
                          try simp only [Act.put, List.getElem_toArray, List.getElem_cons_zero, List.getElem_cons_succ, List.setIfInBounds_toArray, List.set_cons_zero, List.set_cons_succ]
                          refine' T_take (i := 20) (v := _) rfl (by kernel_rfl) (by kernel_rfl) (by kernel_rfl) (by kernel_rfl) (fun _ _ _ h => h) (by kernel_rfl) hS ?_ ?_
                          rotate_left 1
                          · intro Wv hW
                            replace i0 := cell_of_ans hW i0
                            replace i1 := cell_of_ans hW i1
                            replace a1 := cell_of_ans hW a1
                            replace d1 := cell_of_ans hW d1
                            replace r0 := cell_of_ans hW r0
                            go_simp
                            first | done | with_reducible rfl | omega
                          try simp only [Act.put, List.getElem_toArray, List.getElem_cons_zero, List.getElem_cons_succ, List.setIfInBounds_toArray, List.set_cons_zero, List.set_cons_succ]
                          refine' T_take (i := 21) (v := _) rfl (by kernel_rfl) (by kernel_rfl) (by kernel_rfl) (by kernel_rfl) (fun _ _ _ h => h) (by kernel_rfl) hS ?_ ?_
                          rotate_left 1
                          · intro Wv hW
                            replace i0 := cell_of_ans hW i0
                            replace i1 := cell_of_ans hW i1
                            replace a1 := cell_of_ans hW a1
                            replace d1 := cell_of_ans hW d1
                            replace r0 := cell_of_ans hW r0
                            go_simp
                            first | done | with_reducible rfl | omega
                          try simp only [Act.put, List.getElem_toArray, List.getElem_cons_zero, List.getElem_cons_succ, List.setIfInBounds_toArray, List.set_cons_zero, List.set_cons_succ]
                          refine' T_take (i := 22) (v := _) rfl (by kernel_rfl) (by kernel_rfl) (by kernel_rfl) (by kernel_rfl) (fun _ _ _ h => h) (by kernel_rfl) hS ?_ ?_
                          rotate_left 1
                          · intro Wv hW
                            replace i0 := cell_of_ans hW i0
                            replace i1 := cell_of_ans hW i1
                            replace a1 := cell_of_ans hW a1
                            replace d1 := cell_of_ans hW d1
                            replace r0 := cell_of_ans hW r0
                            go_simp
                            first | done | with_reducible rfl | omega
                          try simp only [Act.put, List.getElem_toArray, List.getElem_cons_zero, List.getElem_cons_succ, List.setIfInBounds_toArray, List.set_cons_zero, List.set_cons_succ]
                          refine' T_take (i := 24) (v := _) rfl (by kernel_rfl) (by kernel_rfl) (by kernel_rfl) (by kernel_rfl) (fun _ _ _ h => h) (by kernel_rfl) hS ?_ ?_
                          rotate_left 1
                          · intro Wv hW
                            replace i0 := cell_of_ans hW i0
                            replace i1 := cell_of_ans hW i1
                            replace a1 := cell_of_ans hW a1
                            replace d1 := cell_of_ans hW d1
                            replace r0 := cell_of_ans hW r0
                            go_simp
                            first | done | with_reducible rfl | omega
                          try simp only [Act.put, List.getElem_toArray, List.getElem_cons_zero, List.getElem_cons_succ, List.setIfInBounds_toArray, List.set_cons_zero, List.set_cons_succ]
                          refine' T_take (i := 25) (v := _) rfl (by kernel_rfl) (by kernel_rfl) (by kernel_rfl) (by kernel_rfl) (fun _ _ _ h => h) (by kernel_rfl) hS ?_ ?_
                          rotate_left 1
                          · intro Wv hW
                            replace i0 := cell_of_ans hW i0
                            replace i1 := cell_of_ans hW i1
                            replace a1 := cell_of_ans hW a1
                            replace d1 := cell_of_ans hW d1
                            replace r0 := cell_of_ans hW r0
                            go_simp
                            first | done | with_reducible rfl | omega
                          try simp only [Act.put, List.getElem_toArray, List.getElem_cons_zero, List.getElem_cons_succ, List.setIfInBounds_toArray, List.set_cons_zero, List.set_cons_succ]
                          refine' T_take (i := 26) (v := _) rfl (by kernel_rfl) (by kernel_rfl) (by kernel_rfl) (by kernel_rfl) (fun _ _ _ h => h) (by kernel_rfl) hS ?_ ?_
                          rotate_left 1
                          · intro Wv hW
                            replace i0 := cell_of_ans hW i0
                            replace i1 := cell_of_ans hW i1
                            replace a1 := cell_of_ans hW a1
                            replace d1 := cell_of_ans hW d1
                            replace r0 := cell_of_ans hW r0
                            go_simp
                            first | done | with_reducible rfl | omega
                          try simp only [Act.put, List.getElem_toArray, List.getElem_cons_zero, List.getElem_cons_succ, List.setIfInBounds_toArray, List.set_cons_zero, List.set_cons_succ]
                          refine' T_take (i := 27) (v := _) rfl (by kernel_rfl) (by kernel_rfl) (by kernel_rfl) (by kernel_rfl) (fun _ _ _ h => h) (by kernel_rfl) hS ?_ ?_
                          rotate_left 1
                          · intro Wv hW
                            replace i0 := cell_of_ans hW i0
                            replace i1 := cell_of_ans hW i1
                            replace a1 := cell_of_ans hW a1
                            replace d1 := cell_of_ans hW d1
                            replace r0 := cell_of_ans hW r0
                            go_simp
                            first | done | with_reducible rfl | omega
                          try simp only [Act.put, List.getElem_toArray, List.getElem_cons_zero, List.getElem_cons_succ, List.setIfInBounds_toArray, List.set_cons_zero, List.set_cons_succ]
                          refine' T_take (i := 28) (v := _) rfl (by kernel_rfl) (by kernel_rfl) (by kernel_rfl) (by kernel_rfl) (fun _ _ _ h => h) (by kernel_rfl) hS ?_ ?_
                          rotate_left 1
                          · intro Wv hW
                            replace i0 := cell_of_ans hW i0
                            replace i1 := cell_of_ans hW i1
                            replace a1 := cell_of_ans hW a1
                            replace d1 := cell_of_ans hW d1
                            replace r0 := cell_of_ans hW r0
                            go_simp
                            first | done | with_reducible rfl | omega
                          try simp only [Act.put, List.getElem_toArray, List.getElem_cons_zero, List.getElem_cons_succ, List.setIfInBounds_toArray, List.set_cons_zero, List.set_cons_succ]
                          refine' T_take (i := 29) (v := _) rfl (by kernel_rfl) (by kernel_rfl) (by kernel_rfl) (by kernel_rfl) (fun _ _ _ h => h) (by kernel_rfl) hS ?_ ?_
                          rotate_left 1
                          · intro Wv hW
                            replace i0 := cell_of_ans hW i0
                            replace i1 := cell_of_ans hW i1
                            replace a1 := cell_of_ans hW a1
                            replace d1 := cell_of_ans hW d1
                            replace r0 := cell_of_ans hW r0
                            go_simp
                            first | done | with_reducible rfl | omega
                          try simp only [Act.put, List.getElem_toArray, List.getElem_cons_zero, List.getElem_cons_succ, List.setIfInBounds_toArray, List.set_cons_zero, List.set_cons_succ]
                          refine T_ready (rs := [23]) (by kernel_rfl) (by simp) ?_
                          refine TReady.cons rfl (fun K hK => ?_) TReady.nil
                          try go_simp
                          refine ((HNo.out _ hS)).mono ?_
                          rintro e vo ⟨rfl, hb⟩
                          have hS2 : Below wr.heap.size wr vo := below_cat hb hS
                          try go_simp
                          refine hK.out _ _ (fun _ => hS2) (fun _ => ?_)
                          clear hK K hS hb
                          replace hS := hS2
                          clear hS2
                          try simp only [Act.put, List.getElem_toArray, List.getElem_cons_zero, List.getElem_cons_succ, List.setIfInBounds_toArray, List.set_cons_zero, List.set_cons_succ]
                          refine T_ready (rs := [30]) (by kernel_rfl) (by simp) ?_
                          refine TReady.cons rfl (fun K hK => ?_) TReady.nil
                          try go_simp
                          refine ((HNt.out _ hS)).mono ?_
                          rintro e vt ⟨rfl, hb⟩
                          have hS2 : Below wr.heap.size wr vt := below_cat hb hS
                          try go_simp
                          refine hK.out _ _ (fun _ => hS2) (fun _ => ?_)
                          clear hK K hS hb
                          replace hS := hS2
                          clear hS2
                          try simp only [Act.put, List.getElem_toArray, List.getElem_cons_zero, List.getElem_cons_succ, List.setIfInBounds_toArray, List.set_cons_zero, List.set_cons_succ]
                          refine' T_take (i := 31) (v := _) rfl (by kernel_rfl) (by kernel_rfl) (by kernel_rfl) (by kernel_rfl) (fun _ _ _ h => h) (by kernel_rfl) hS ?_ ?_
                          rotate_left 1
                          · intro Wv hW
                            replace i0 := cell_of_ans hW i0
                            replace i1 := cell_of_ans hW i1
                            replace a1 := cell_of_ans hW a1
                            replace d1 := cell_of_ans hW d1
                            replace r0 := cell_of_ans hW r0
                            go_simp
                            first | done | with_reducible rfl | omega
                          try simp only [Act.put, List.getElem_toArray, List.getElem_cons_zero, List.getElem_cons_succ, List.setIfInBounds_toArray, List.set_cons_zero, List.set_cons_succ]
                          refine' T_take (i := 32) (v := _) rfl (by kernel_rfl) (by kernel_rfl) (by kernel_rfl) (by kernel_rfl) (fun _ _ _ h => h) (by kernel_rfl) hS ?_ ?_
                          rotate_left 1
                          · intro Wv hW
                            replace i0 := cell_of_ans hW i0
                            replace i1 := cell_of_ans hW i1
                            replace a1 := cell_of_ans hW a1
                            replace d1 := cell_of_ans hW d1
                            replace r0 := cell_of_ans hW r0
                            go_simp
                            first | done | with_reducible rfl | omega
                          try simp only [Act.put, List.getElem_toArray, List.getElem_cons_zero, List.getElem_cons_succ, List.setIfInBounds_toArray, List.set_cons_zero, List.set_cons_succ]
                          refine T_done (by kernel_rfl) ?_ _
                          refine NoPanic.normal ?_
                          try go_simp
                          have HBF := Lib.hid (HBJ.out.trans (hS.mono HBJ.out.size))
                          clear hS
                          go_wp2_with fail
                          go_roundw
                          case rel => exact ⟨j + 1, by omega, by go_num, HBF.out⟩
                          case measure => simp [intOf]; omega
                        · have e4 : (p1 == s1) = false := by simp [hpq]
                          clear hcd hpq HEQ
                          go_upto_region 21 with fail
                          refine wp_region_noPanic ?_
                          have hS : (fun W' : World => Below wr.heap.size wr W') wr.drew := (Below.refl _ _).drew
                          refine wp_region_any (by kernel_rfl) (wpAny_of_T (S := fun W' : World => Below wr.heap.size wr W') (m := 33) _ _ _ _ ?_)
                          refine' T_take (i := 0) (v := _) rfl (by kernel_rfl) (by kernel_rfl) (by kernel_rfl) (by kernel_rfl) (fun _ _ _ h => h) (by kernel_rfl) hS ?_ ?_
                          rotate_left 1
                          · intro Wv hW
                            replace i0 := cell_of_ans hW i0
                            replace i1 := cell_of_ans hW i1
                            replace a1 := cell_of_ans hW a1
                            replace d1 := cell_of_ans hW d1
                            replace r0 := cell_of_ans hW r0
                            go_simp
                            first | done | with_reducible rfl | omega
                          try simp only [Act.put, List.getElem_toArray, List.getElem_cons_zero, List.getElem_cons_succ, List.setIfInBounds_toArray, List.set_cons_zero, List.set_cons_succ]
                          refine' T_take (i := 1) (v := _) rfl (by kernel_rfl) (by kernel_rfl) (by kernel_rfl) (by kernel_rfl) (fun _ _ _ h => h) (by kernel_rfl) hS ?_ ?_
                          rotate_left 1
                          · intro Wv hW
                            replace i0 := cell_of_ans hW i0
                            replace i1 := cell_of_ans hW i1
                            replace a1 := cell_of_ans hW a1
                            replace d1 := cell_of_ans hW d1
                            replace r0 := cell_of_ans hW r0
                            go_simp
                            first | done | with_reducible rfl | omega
                          try simp only [Act.put, List.getElem_toArray, List.getElem_cons_zero, List.getElem_cons_succ, List.setIfInBounds_toArray, List.set_cons_zero, List.set_cons_succ]
                          refine' T_take (i := 2) (v := _) rfl (by kernel_rfl) (by kernel_rfl) (by kernel_rfl) (by kernel_rfl) (fun _ _ _ h => h) (by kernel_rfl) hS ?_ ?_
                          rotate_left 1
                          · intro Wv hW
                            replace i0 := cell_of_ans hW i0
                            replace i1 := cell_of_ans hW i1
                            replace a1 := cell_of_ans hW a1
                            replace d1 := cell_of_ans hW d1
                            replace r0 := cell_of_ans hW r0
                            go_simp
                            first | done | with_reducible rfl | omega
                          try simp only [Act.put, List.getElem_toArray, List.getElem_cons_zero, List.getElem_cons_succ, List.setIfInBounds_toArray, List.set_cons_zero, List.set_cons_succ]
                          refine' T_take (i := 3) (v := _) rfl (by kernel_rfl) (by kernel_rfl) (by kernel_rfl) (by kernel_rfl) (fun _ _ _ h => h) (by kernel_rfl) hS ?_ ?_
                          rotate_left 1
                          · intro Wv hW
                            replace i0 := cell_of_ans hW i0
                            replace i1 := cell_of_ans hW i1
                            replace a1 := cell_of_ans hW a1
                            replace d1 := cell_of_ans hW d1
                            replace r0 := cell_of_ans hW r0
                            go_simp
                            first | done | with_reducible rfl | omega
                          try simp only [Act.put, List.getElem_toArray, List.getElem_cons_zero, List.getElem_cons_succ, List.setIfInBounds_toArray, List.set_cons_zero, List.set_cons_succ]
                          refine' T_take (i := 4) (v := _) rfl (by kernel_rfl) (by kernel_rfl) (by kernel_rfl) (by kernel_rfl) (fun _ _ _ h => h) (by kernel_rfl) hS ?_ ?_
                          rotate_left 1
                          · intro Wv hW
                            replace i0 := cell_of_ans hW i0
                            replace i1 := cell_of_ans hW i1
                            replace a1 := cell_of_ans hW a1
                            replace d1 := cell_of_ans hW d1
                            replace r0 := cell_of_ans hW r0
                            go_simp
                            first | done | with_reducible rfl | omega
                          try simp only [Act.put, List.getElem_toArray, List.getElem_cons_zero, List.getElem_cons_succ, List.setIfInBounds_toArray, List.set_cons_zero, List.set_cons_succ]
                          refine' T_take (i := 5) (v := .bool true) rfl (by kernel_rfl) (by kernel_rfl) (by kernel_rfl) (by kernel_rfl) (fun _ _ _ h => h) (by kernel_rfl) hS ?_ ?_
                          skip
                          · intro Wv hW
                            replace i0 := cell_of_ans hW i0
                            replace i1 := cell_of_ans hW i1
                            replace a1 := cell_of_ans hW a1
                            replace d1 := cell_of_ans hW d1
                            replace r0 := cell_of_ans hW r0
                            go_simp
                            first | done | with_reducible rfl | omega
                          try simp only [Act.put, List.getElem_toArray, List.getElem_cons_zero, List.getElem_cons_succ, List.setIfInBounds_toArray, List.set_cons_zero, List.set_cons_succ]
                          refine' T_take (i := 6) (v := _) rfl (by kernel_rfl) (by kernel_rfl) (by kernel_rfl) (by kernel_rfl) (fun _ _ _ h => h) (by kernel_rfl) hS ?_ ?_
                          rotate_left 1
                          · intro Wv hW
                            replace i0 := cell_of_ans hW i0
                            replace i1 := cell_of_ans hW i1
                            replace a1 := cell_of_ans hW a1
                            replace d1 := cell_of_ans hW d1
                            replace r0 := cell_of_ans hW r0
                            go_simp
                            first | done | with_reducible rfl | omega
                          try simp only [Act.put, List.getElem_toArray, List.getElem_cons_zero, List.getElem_cons_succ, List.setIfInBounds_toArray, List.set_cons_zero, List.set_cons_succ]
                          refine' T_take (i := 7) (v := _) rfl (by kernel_rfl) (by kernel_rfl) (by kernel_rfl) (by kernel_rfl) (fun _ _ _ h => h) (by kernel_rfl) hS ?_ ?_
                          rotate_left 1
                          · intro Wv hW
                            replace i0 := cell_of_ans hW i0
                            replace i1 := cell_of_ans hW i1
                            replace a1 := cell_of_ans hW a1
                            replace d1 := cell_of_ans hW d1
                            replace r0 := cell_of_ans hW r0
                            go_simp
                            first | done | with_reducible rfl | omega
                          try simp only [Act.put, List.getElem_toArray, List.getElem_cons_zero, List.getElem_cons_succ, List.setIfInBounds_toArray, List.set_cons_zero, List.set_cons_succ]
                          refine' T_take (i := 8) (v := _) rfl (by kernel_rfl) (by kernel_rfl) (by kernel_rfl) (by kernel_rfl) (fun _ _ _ h => h) (by kernel_rfl) hS ?_ ?_
                          rotate_left 1
                          · intro Wv hW
                            replace i0 := cell_of_ans hW i0
                            replace i1 := cell_of_ans hW i1
                            replace a1 := cell_of_ans hW a1
                            replace d1 := cell_of_ans hW d1
                            replace r0 := cell_of_ans hW r0
                            go_simp
                            first | done | with_reducible rfl | omega
                          try simp only [Act.put, List.getElem_toArray, List.getElem_cons_zero, List.getElem_cons_succ, List.setIfInBounds_toArray, List.set_cons_zero, List.set_cons_succ]
                          refine' T_take (i := 9) (v := _) rfl (by kernel_rfl) (by kernel_rfl) (by kernel_rfl) (by kernel_rfl) (fun _ _ _ h => h) (by kernel_rfl) hS ?_ ?_
                          rotate_left 1
                          · intro Wv hW
                            replace i0 := cell_of_ans hW i0
                            replace i1 := cell_of_ans hW i1
                            replace a1 := cell_of_ans hW a1
                            replace d1 := cell_of_ans hW d1
                            replace r0 := cell_of_ans hW r0
                            go_simp
                            first | done | with_reducible rfl | omega
                          try simp only [Act.put, List.getElem_toArray, List.getElem_cons_zero, List.getElem_cons_succ, List.setIfInBounds_toArray, List.set_cons_zero, List.set_cons_succ]
                          refine' T_take (i := 10) (v := _) rfl (by kernel_rfl) (by kernel_rfl) (by kernel_rfl) (by kernel_rfl) (fun _ _ _ h => h) (by kernel_rfl) hS ?_ ?_
                          rotate_left 1
                          · intro Wv hW
                            replace i0 := cell_of_ans hW i0
                            replace i1 := cell_of_ans hW i1
                            replace a1 := cell_of_ans hW a1
                            replace d1 := cell_of_ans hW d1
                            replace r0 := cell_of_ans hW r0
                            go_simp
                            first | done | with_reducible rfl | omega
                          try simp only [Act.put, List.getElem_toArray, List.getElem_cons_zero, List.getElem_cons_succ, List.setIfInBounds_toArray, List.set_cons_zero, List.set_cons_succ]
                          refine' T_take (i := 11) (v := _) rfl (by kernel_rfl) (by kernel_rfl) (by kernel_rfl) (by kernel_rfl) (fun _ _ _ h => h) (by kernel_rfl) hS ?_ ?_
                          rotate_left 1
                          · intro Wv hW
                            replace i0 := cell_of_ans hW i0
                            replace i1 := cell_of_ans hW i1
                            replace a1 := cell_of_ans hW a1
                            replace d1 := cell_of_ans hW d1
                            replace r0 := cell_of_ans hW r0
                            go_simp
                            first | done | with_reducible rfl | omega
                          try simp only [Act.put, List.getElem_toArray, List.getElem_cons_zero, List.getElem_cons_succ, List.setIfInBounds_toArray, List.set_cons_zero, List.set_cons_succ]
                          refine' T_take (i := 12) (v := _) rfl (by kernel_rfl) (by kernel_rfl) (by kernel_rfl) (by kernel_rfl) (fun _ _ _ h => h) (by kernel_rfl) hS ?_ ?_
                          rotate_left 1
                          · intro Wv hW
                            replace i0 := cell_of_ans hW i0
                            replace i1 := cell_of_ans hW i1
                            replace a1 := cell_of_ans hW a1
                            replace d1 := cell_of_ans hW d1
                            replace r0 := cell_of_ans hW r0
                            go_simp
                            first | done | with_reducible rfl | omega
                          try simp only [Act.put, List.getElem_toArray, List.getElem_cons_zero, List.getElem_cons_succ, List.setIfInBounds_toArray, List.set_cons_zero, List.set_cons_succ]
                          refine' T_take (i := 13) (v := _) rfl (by kernel_rfl) (by kernel_rfl) (by kernel_rfl) (by kernel_rfl) (fun _ _ _ h => h) (by kernel_rfl) hS ?_ ?_
                          rotate_left 1
                          · intro Wv hW
                            replace i0 := cell_of_ans hW i0
                            replace i1 := cell_of_ans hW i1
                            replace a1 := cell_of_ans hW a1
                            replace d1 := cell_of_ans hW d1
                            replace r0 := cell_of_ans hW r0
                            go_simp
                            first | done | with_reducible rfl | omega
                          try simp only [Act.put, List.getElem_toArray, List.getElem_cons_zero, List.getElem_cons_succ, List.setIfInBounds_toArray, List.set_cons_zero, List.set_cons_succ]
                          refine' T_take (i := 14) (v := _) rfl (by kernel_rfl) (by kernel_rfl) (by kernel_rfl) (by kernel_rfl) (fun _ _ _ h => h) (by kernel_rfl) hS ?_ ?_
                          rotate_left 1
                          · intro Wv hW
                            replace i0 := cell_of_ans hW i0
                            replace i1 := cell_of_ans hW i1
                            replace a1 := cell_of_ans hW a1
                            replace d1 := cell_of_ans hW d1
                            replace r0 := cell_of_ans hW r0
                            go_simp
                            first | done | with_reducible rfl | omega
                          try simp only [Act.put, List.getElem_toArray, List.getElem_cons_zero, List.getElem_cons_succ, List.setIfInBounds_toArray, List.set_cons_zero, List.set_cons_succ]
                          refine' T_take (i := 15) (v := _) rfl (by kernel_rfl) (by kernel_rfl) (by kernel_rfl) (by kernel_rfl) (fun _ _ _ h => h) (by kernel_rfl) hS ?_ ?_
                          rotate_left 1
                          · intro Wv hW
                            replace i0 := cell_of_ans hW i0
                            replace i1 := cell_of_ans hW i1
                            replace a1 := cell_of_ans hW a1
                            replace d1 := cell_of_ans hW d1
                            replace r0 := cell_of_ans hW r0
                            go_simp
                            first | done | with_reducible rfl | omega
                          try simp only [Act.put, List.getElem_toArray, List.getElem_cons_zero, List.getElem_cons_succ, List.setIfInBounds_toArray, List.set_cons_zero, List.set_cons_succ]
                          refine' T_take (i := 16) (v := .bool false) rfl (by kernel_rfl) (by kernel_rfl) (by kernel_rfl) (by kernel_rfl) (fun _ _ _ h => h) (by kernel_rfl) hS ?_ ?_
                          skip
                          · intro Wv hW
                            replace i0 := cell_of_ans hW i0
                            replace i1 := cell_of_ans hW i1
                            replace a1 := cell_of_ans hW a1
                            replace d1 := cell_of_ans hW d1
                            replace r0 := cell_of_ans hW r0
                            go_simp
                            first | done | with_reducible rfl | omega
                          try simp only [Act.put, List.getElem_toArray, List.getElem_cons_zero, List.getElem_cons_succ, List.setIfInBounds_toArray, List.set_cons_zero, List.set_cons_succ]
                          refine' T_skip (i := 17) rfl (by kernel_rfl) (by kernel_rfl) (by kernel_rfl) (by kernel_rfl) (fun _ _ _ h => h) (by kernel_rfl) hS ?_
                          try simp only [Act.put, List.getElem_toArray, List.getElem_cons_zero, List.getElem_cons_succ, List.setIfInBounds_toArray, List.set_cons_zero, List.set_cons_succ]
                          refine' T_skip (i := 18) rfl (by kernel_rfl) (by kernel_rfl) (by kernel_rfl) (by kernel_rfl) (fun _ _ _ h => h) (by kernel_rfl) hS ?_
                          try simp only [Act.put, List.getElem_toArray, List.getElem_cons_zero, List.getElem_cons_succ, List.setIfInBounds_toArray, List.set_cons_zero, List.set_cons_succ]
                          refine' T_skip (i := 19) rfl (by kernel_rfl) (by kernel_rfl) (by kernel_rfl) (by kernel_rfl) (fun _ _ _ h => h) (by kernel_rfl) hS ?_
                          try simp only [Act.put, List.getElem_toArray, List.getElem_cons_zero, List.getElem_cons_succ, List.setIfInBounds_toArray, List.set_cons_zero, List.set_cons_succ]
                          refine' T_skip (i := 20) rfl (by kernel_rfl) (by kernel_rfl) (by kernel_rfl) (by kernel_rfl) (fun _ _ _ h => h) (by kernel_rfl) hS ?_
                          try simp only [Act.put, List.getElem_toArray, List.getElem_cons_zero, List.getElem_cons_succ, List.setIfInBounds_toArray, List.set_cons_zero, List.set_cons_succ]
                          refine' T_skip (i := 21) rfl (by kernel_rfl) (by kernel_rfl) (by kernel_rfl) (by kernel_rfl) (fun _ _ _ h => h) (by kernel_rfl) hS ?_
                          try simp only [Act.put, List.getElem_toArray, List.getElem_cons_zero, List.getElem_cons_succ, List.setIfInBounds_toArray, List.set_cons_zero, List.set_cons_succ]
                          refine' T_skip (i := 22) rfl (by kernel_rfl) (by kernel_rfl) (by kernel_rfl) (by kernel_rfl) (fun _ _ _ h => h) (by kernel_rfl) hS ?_
                          try simp only [Act.put, List.getElem_toArray, List.getElem_cons_zero, List.getElem_cons_succ, List.setIfInBounds_toArray, List.set_cons_zero, List.set_cons_succ]
                          refine' T_skip (i := 23) rfl (by kernel_rfl) (by kernel_rfl) (by kernel_rfl) (by kernel_rfl) (fun _ _ _ h => h) (by kernel_rfl) hS ?_
                          try simp only [Act.put, List.getElem_toArray, List.getElem_cons_zero, List.getElem_cons_succ, List.setIfInBounds_toArray, List.set_cons_zero, List.set_cons_succ]
                          refine' T_skip (i := 24) rfl (by kernel_rfl) (by kernel_rfl) (by kernel_rfl) (by kernel_rfl) (fun _ _ _ h => h) (by kernel_rfl) hS ?_
                          try simp only [Act.put, List.getElem_toArray, List.getElem_cons_zero, List.getElem_cons_succ, List.setIfInBounds_toArray, List.set_cons_zero, List.set_cons_succ]
                          refine' T_skip (i := 25) rfl (by kernel_rfl) (by kernel_rfl) (by kernel_rfl) (by kernel_rfl) (fun _ _ _ h => h) (by kernel_rfl) hS ?_
                          try simp only [Act.put, List.getElem_toArray, List.getElem_cons_zero, List.getElem_cons_succ, List.setIfInBounds_toArray, List.set_cons_zero, List.set_cons_succ]
                          refine' T_skip (i := 26) rfl (by kernel_rfl) (by kernel_rfl) (by kernel_rfl) (by kernel_rfl) (fun _ _ _ h => h) (by kernel_rfl) hS ?_
                          try simp only [Act.put, List.getElem_toArray, List.getElem_cons_zero, List.getElem_cons_succ, List.setIfInBounds_toArray, List.set_cons_zero, List.set_cons_succ]
                          refine' T_skip (i := 27) rfl (by kernel_rfl) (by kernel_rfl) (by kernel_rfl) (by kernel_rfl) (fun _ _ _ h => h) (by kernel_rfl) hS ?_
                          try simp only [Act.put, List.getElem_toArray, List.getElem_cons_zero, List.getElem_cons_succ, List.setIfInBounds_toArray, List.set_cons_zero, List.set_cons_succ]
                          refine' T_skip (i := 28) rfl (by kernel_rfl) (by kernel_rfl) (by kernel_rfl) (by kernel_rfl) (fun _ _ _ h => h) (by kernel_rfl) hS ?_
                          try simp only [Act.put, List.getElem_toArray, List.getElem_cons_zero, List.getElem_cons_succ, List.setIfInBounds_toArray, List.set_cons_zero, List.set_cons_succ]
                          refine' T_skip (i := 29) rfl (by kernel_rfl) (by kernel_rfl) (by kernel_rfl) (by kernel_rfl) (fun _ _ _ h => h) (by kernel_rfl) hS ?_
                          try simp only [Act.put, List.getElem_toArray, List.getElem_cons_zero, List.getElem_cons_succ, List.setIfInBounds_toArray, List.set_cons_zero, List.set_cons_succ]
                          refine' T_skip (i := 30) rfl (by kernel_rfl) (by kernel_rfl) (by kernel_rfl) (by kernel_rfl) (fun _ _ _ h => h) (by kernel_rfl) hS ?_
                          try simp only [Act.put, List.getElem_toArray, List.getElem_cons_zero, List.getElem_cons_succ, List.setIfInBounds_toArray, List.set_cons_zero, List.set_cons_succ]
                          refine' T_skip (i := 31) rfl (by kernel_rfl) (by kernel_rfl) (by kernel_rfl) (by kernel_rfl) (fun _ _ _ h => h) (by kernel_rfl) hS ?_
                          try simp only [Act.put, List.getElem_toArray, List.getElem_cons_zero, List.getElem_cons_succ, List.setIfInBounds_toArray, List.set_cons_zero, List.set_cons_succ]
                          refine' T_take (i := 32) (v := _) rfl (by kernel_rfl) (by kernel_rfl) (by kernel_rfl) (by kernel_rfl) (fun _ _ _ h => h) (by kernel_rfl) hS ?_ ?_
                          rotate_left 1
                          · intro Wv hW
                            replace i0 := cell_of_ans hW i0
                            replace i1 := cell_of_ans hW i1
                            replace a1 := cell_of_ans hW a1
                            replace d1 := cell_of_ans hW d1
                            replace r0 := cell_of_ans hW r0
                            go_simp
                            first | done | with_reducible rfl | omega
                          try simp only [Act.put, List.getElem_toArray, List.getElem_cons_zero, List.getElem_cons_succ, List.setIfInBounds_toArray, List.set_cons_zero, List.set_cons_succ]
                          refine T_done (by kernel_rfl) ?_ _
                          refine NoPanic.normal ?_
                          try go_simp
                          have HBF := Lib.hid (HBJ.out.trans (hS.mono HBJ.out.size))
                          clear hS
                          go_wp2_with fail
                          go_roundw
                          case rel => exact ⟨j + 1, by omega, by go_num, HBF.out⟩
                          case measure => simp [intOf]; omega
                    · obtain rfl : j = rules.length := by omega
                      have hji : ¬ (rules.length : Int) < (rules.length : Int) := by omega
                      have HBF := Lib.hid (HWZ.out.trans (hb.mono HWZ.out.size))
                      clear hb
                      go_wp2_with fail
                      go_roundw
                      case rel => exact ⟨o + 1, by omega, by go_num, by rw [HCN.out, if_neg (by omega)], HBF.out⟩
                      case measure => simp [intOf]; omega
              · obtain rfl : o = T := by omega
                have hoi : ¬ (o : Int) < l.teams := by have := HTT.out; omega
                have e9 : (s2 != cntF (ix R2) s2 o) = false := by rw [← HF3t.out]; simp
                have HBF := Lib.hid (HBR.out.trans (HWR.out.mono HBR.out.size))
                clear hb HF3t
                generalize cntF (ix R2) s2 o = cn at *
                go_wp2_with fail
                go_roundw
                case rel => exact ⟨t + 1, by omega, by go_num, HBF.out⟩
                case measure => simp [intOf]; omega
          · obtain rfl : t = T := by omega
            have hti : ¬ (t : Int) < l.teams := by have := HTT.out; omega
            have HBF := Lib.hid (HB.out.trans (hb.mono HB.out.size))
            clear hb
            go_wp2_with fail
            refine (awake16_c _).mono ?_
            rintro e z1 ⟨rfl, hb⟩
            replace HBF := Lib.hid (HBF.out.trans (hb.mono HBF.out.size))
            clear hb
            go_wp2_with fail
            go_ret
            exact ⟨rfl, HBF.out⟩
end Go.Proofs.Ytjokbffdepcpkaa
