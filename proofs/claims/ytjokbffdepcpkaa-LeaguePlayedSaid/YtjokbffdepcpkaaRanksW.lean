/-
  The walk of LeagueRanks.
-/
import Derived.Test.YtjokbffdepcpkaaRefK
namespace Go.Proofs.Ytjokbffdepcpkaa
open Go.RowKit
set_option linter.unusedSimpArgs false
set_option linter.unusedVariables false

attribute [local go_sem] Oper.semAt_some
set_option maxRecDepth 100000 in
set_option maxHeartbeats 8000000 in
theorem ranks3_c (l : Lg) (A Au : Option Addr) (c cu : Nat) (rules : List Int) (w : World) (hl : Gms w.heap.size w A l.games) (hc : l.games.length ≤ c ∧ c ≤ 9223372036854775807) (hu : Byts w.heap.size w Au rules) (hcu : rules.length ≤ cu ∧ cu ≤ 9223372036854775807) :
    Calls Try.prog 3 #[.agg #[.int .i64 l.teams, .slice A l.games.length c], .slice Au rules.length cu] w (Ans w (.bool true)) := by
  have HL := Lib.hid hl
  have HU := Lib.hid hu
  clear hl hu
  have HB := Lib.hid (Below.refl w.heap.size w)
  have hb : Below w.heap.size w (w.alloc (.cells #[.int .i64 l.teams, .slice A l.games.length c] 24)) := (Below.refl _ _).alloc (Nat.le_refl _) _
  have k0 : (w.alloc (.cells #[.int .i64 l.teams, .slice A l.games.length c] 24)).cell? ⟨w.heap.size, 0, none⟩ = some (.int .i64 l.teams) := by simp
  have k1 : (w.alloc (.cells #[.int .i64 l.teams, .slice A l.games.length c] 24)).cell? ⟨w.heap.size, 1, none⟩ = some (.slice A l.games.length c) := by simp
  replace HL := Lib.hid (HL.out.step hb)
  replace HU := Lib.hid (HU.out.step hb)
  replace HB := Lib.hid (HB.out.trans (hb.mono HB.out.size))
  clear hb
  have HTH := Lib.hid (fun W => thin15_c l A c W)
  cases ht : thinG l.games.length
  · rw [ht] at HTH
    clear ht
    go_enter Try.func3, Try.ntmps3
    go_wp2_with fail
    generalize (w.alloc (.cells #[.int .i64 l.teams, .slice A l.games.length c] 24)) = x1 at *
    refine (HTH.out _).mono ?_
    rintro e x1 ⟨rfl, hb⟩
    replace HL := Lib.hid (HL.out.step hb)
    replace HU := Lib.hid (HU.out.step hb)
    replace k0 := cell_of_ans hb k0
    replace k1 := cell_of_ans hb k1
    replace HB := Lib.hid (HB.out.trans (hb.mono HB.out.size))
    clear hb
    go_wp2_with fail
    refine (awake16_c _).mono ?_
    rintro e x2 ⟨rfl, hb⟩
    replace HL := Lib.hid (HL.out.step hb)
    replace HU := Lib.hid (HU.out.step hb)
    replace k0 := cell_of_ans hb k0
    replace k1 := cell_of_ans hb k1
    replace HB := Lib.hid (HB.out.trans (hb.mono HB.out.size))
    clear hb
    go_wp2_with fail
    go_ret
    exact ⟨rfl, HB.out⟩
  · rw [ht] at HTH
    unfold thinG at ht
    have hl24 : l.games.length ≤ 24 := of_decide_eq_true ht
    clear ht
    have hn : l.games.length ≤ 1000 := by omega
    by_cases h9 : 9 < rules.length
    · have h9i : (9 : Int) < (rules.length : Int) := by omega
      go_enter Try.func3, Try.ntmps3
      go_wp2_with fail
      generalize (w.alloc (.cells #[.int .i64 l.teams, .slice A l.games.length c] 24)) = x1 at *
      refine (HTH.out _).mono ?_
      rintro e x3 ⟨rfl, hb⟩
      replace HL := Lib.hid (HL.out.step hb)
      replace HU := Lib.hid (HU.out.step hb)
      replace k0 := cell_of_ans hb k0
      replace k1 := cell_of_ans hb k1
      replace HB := Lib.hid (HB.out.trans (hb.mono HB.out.size))
      clear hb
      go_wp2_with fail
      refine (awake16_c _).mono ?_
      rintro e x4 ⟨rfl, hb⟩
      replace HL := Lib.hid (HL.out.step hb)
      replace HU := Lib.hid (HU.out.step hb)
      replace k0 := cell_of_ans hb k0
      replace k1 := cell_of_ans hb k1
      replace HB := Lib.hid (HB.out.trans (hb.mono HB.out.size))
      clear hb
      go_wp2_with fail
      go_ret
      exact ⟨rfl, HB.out⟩
    · have h9i : decide ((9 : Int) < (rules.length : Int)) = false := decide_eq_false (by omega)
      have hos1 : rules.length ≤ 1000 := by omega
      have HLG := Lib.hid (fun (W : World) (h : Gms W.heap.size W A l.games) => league18_c l A c W h hc hn)
      have HCK := Lib.hid (fun (A1 : Option Addr) (c1 : Nat) (W : World) (h : Gms W.heap.size W A1 l.games) h2 => check17_c l A1 c1 W h h2)
      have HCO := Lib.hid (fun (W : World) (h : Byts W.heap.size W Au rules) => codes20_c Au rules cu W h (by omega))
      have HFA := Lib.hid (fun (W : World) (h : Gms W.heap.size W A l.games) => fault21_c l A c W h hc)
      have HRK := Lib.hid (fun (A1 A2 : Option Addr) (c1 c2 : Nat) (W : World) (h1 : Gms W.heap.size W A1 l.games) h2 (h3 : Byts W.heap.size W A2 rules) h4 => rank19_c l A1 A2 c1 c2 rules W h1 h2 h3 h4 hos1)
      have HUR := Lib.hid (fun k hk => (HU.out.rng) k hk)
      by_cases hf : faultL l = 0
      rotate_left 1
      · have HE : Hid (rankErr l rules = faultL l) := by show _ = _; unfold rankErr; rw [if_neg hf]
        have HLS : Hid (rankL l rules = []) := by show _ = _; unfold rankL; rw [HE.out, if_neg hf]
        rw [HE.out, HLS.out] at HRK
        have q1 : (faultL l == 0) = false := by simp [hf]
        have q2 : (faultL l != 0) = true := by simp [hf]
        have q3 : (faultL l == faultL l) = true := by simp
        have q4 : (faultL l != faultL l) = false := by simp
        clear hf HE HLS
        generalize faultL l = fl at *
        go_enter Try.func3, Try.ntmps3
        go_wp2_with fail
        generalize (w.alloc (.cells #[.int .i64 l.teams, .slice A l.games.length c] 24)) = x1 at *
        refine (HTH.out _).mono ?_
        rintro e x5 ⟨rfl, hb⟩
        replace HL := Lib.hid (HL.out.step hb)
        replace HU := Lib.hid (HU.out.step hb)
        replace k0 := cell_of_ans hb k0
        replace k1 := cell_of_ans hb k1
        replace HB := Lib.hid (HB.out.trans (hb.mono HB.out.size))
        clear hb
        go_wp2_with fail
        refine (HLG.out _ HL.out).mono ?_
        rintro e x6 ⟨A1, c1, rfl, ⟨hg1, hc11, hc12⟩, hb⟩
        replace HL := Lib.hid (HL.out.step hb)
        replace HU := Lib.hid (HU.out.step hb)
        replace k0 := cell_of_ans hb k0
        replace k1 := cell_of_ans hb k1
        replace HB := Lib.hid (HB.out.trans (hb.mono HB.out.size))
        clear hb
        have Hhg1 := Lib.hid hg1
        clear hg1
        go_wp2_with fail
        refine (HCK.out A1 c1 _ Hhg1.out ⟨hc11, hc12⟩).mono ?_
        rintro e x7 ⟨rfl, hb⟩
        replace HL := Lib.hid (HL.out.step hb)
        replace HU := Lib.hid (HU.out.step hb)
        replace k0 := cell_of_ans hb k0
        replace k1 := cell_of_ans hb k1
        replace Hhg1 := Lib.hid (Hhg1.out.step hb)
        replace HB := Lib.hid (HB.out.trans (hb.mono HB.out.size))
        clear hb
        go_wp2_with fail
        refine (HLG.out _ HL.out).mono ?_
        rintro e x8 ⟨A2, c2, rfl, ⟨hg2, hc21, hc22⟩, hb⟩
        replace HL := Lib.hid (HL.out.step hb)
        replace HU := Lib.hid (HU.out.step hb)
        replace k0 := cell_of_ans hb k0
        replace k1 := cell_of_ans hb k1
        replace Hhg1 := Lib.hid (Hhg1.out.step hb)
        replace HB := Lib.hid (HB.out.trans (hb.mono HB.out.size))
        clear hb
        have Hhg2 := Lib.hid hg2
        clear hg2
        go_wp2_with fail
        refine (HCO.out _ HU.out).mono ?_
        rintro e x9 ⟨A3, c3, rfl, ho3, hb⟩
        replace HL := Lib.hid (HL.out.step hb)
        replace HU := Lib.hid (HU.out.step hb)
        replace k0 := cell_of_ans hb k0
        replace k1 := cell_of_ans hb k1
        replace Hhg1 := Lib.hid (Hhg1.out.step hb)
        replace Hhg2 := Lib.hid (Hhg2.out.step hb)
        replace HB := Lib.hid (HB.out.trans (hb.mono HB.out.size))
        clear hb
        obtain ⟨hu1, hu2, hby⟩ := ho3.parts HUR.out
        have Hhby := Lib.hid hby
        clear hby ho3
        go_wp2_with fail
        refine (HRK.out A2 A3 c2 c3 _ Hhg2.out ⟨hc21, hc22⟩ Hhby.out ⟨hu1, hu2⟩).mono ?_
        rintro e x10 ⟨A4, c4, rfl, ⟨hi4, hc41, hc42⟩, hb⟩
        replace HL := Lib.hid (HL.out.step hb)
        replace HU := Lib.hid (HU.out.step hb)
        replace k0 := cell_of_ans hb k0
        replace k1 := cell_of_ans hb k1
        replace Hhg1 := Lib.hid (Hhg1.out.step hb)
        replace Hhg2 := Lib.hid (Hhg2.out.step hb)
        replace Hhby := Lib.hid (Hhby.out.step hb)
        replace HB := Lib.hid (HB.out.trans (hb.mono HB.out.size))
        clear hb
        have Hhi4 := Lib.hid hi4
        clear hi4
        go_wp2_with fail
        refine (HFA.out _ HL.out).mono ?_
        rintro e x11 ⟨rfl, hb⟩
        replace HL := Lib.hid (HL.out.step hb)
        replace HU := Lib.hid (HU.out.step hb)
        replace k0 := cell_of_ans hb k0
        replace k1 := cell_of_ans hb k1
        replace Hhg1 := Lib.hid (Hhg1.out.step hb)
        replace Hhg2 := Lib.hid (Hhg2.out.step hb)
        replace Hhby := Lib.hid (Hhby.out.step hb)
        replace Hhi4 := Lib.hid (Hhi4.out.step hb)
        replace HB := Lib.hid (HB.out.trans (hb.mono HB.out.size))
        clear hb
        go_wp2_with fail
        refine (awake16_c _).mono ?_
        rintro e x12 ⟨rfl, hb⟩
        replace HL := Lib.hid (HL.out.step hb)
        replace HU := Lib.hid (HU.out.step hb)
        replace k0 := cell_of_ans hb k0
        replace k1 := cell_of_ans hb k1
        replace Hhg1 := Lib.hid (Hhg1.out.step hb)
        replace Hhg2 := Lib.hid (Hhg2.out.step hb)
        replace Hhby := Lib.hid (Hhby.out.step hb)
        replace Hhi4 := Lib.hid (Hhi4.out.step hb)
        replace HB := Lib.hid (HB.out.trans (hb.mono HB.out.size))
        clear hb
        go_wp2_with fail
        go_ret
        exact ⟨rfl, HB.out⟩
      · have hv := valid_iff.1 hf
        rw [hf] at HFA HCK
        have HLI := Lib.hid (fun (W : World) (h : Byts W.heap.size W Au rules) => listed22_c Au cu rules 4 W h (by omega))
        by_cases h6 : 6 < rules.length
        · have HE : Hid (rankErr l rules = 3) := by show _ = _; unfold rankErr; rw [if_pos hf, if_pos h6]
          have HLS : Hid (rankL l rules = []) := by show _ = _; unfold rankL; rw [HE.out, if_neg (by decide)]
          rw [HE.out, HLS.out] at HRK
          have q1 : (6 : Int) < (rules.length : Int) := by omega
          clear hf hv h6 HE HLS
          go_enter Try.func3, Try.ntmps3
          go_wp2_with fail
          generalize (w.alloc (.cells #[.int .i64 l.teams, .slice A l.games.length c] 24)) = x1 at *
          refine (HTH.out _).mono ?_
          rintro e x13 ⟨rfl, hb⟩
          replace HL := Lib.hid (HL.out.step hb)
          replace HU := Lib.hid (HU.out.step hb)
          replace k0 := cell_of_ans hb k0
          replace k1 := cell_of_ans hb k1
          replace HB := Lib.hid (HB.out.trans (hb.mono HB.out.size))
          clear hb
          go_wp2_with fail
          refine (HLG.out _ HL.out).mono ?_
          rintro e x14 ⟨A1, c1, rfl, ⟨hg1, hc11, hc12⟩, hb⟩
          replace HL := Lib.hid (HL.out.step hb)
          replace HU := Lib.hid (HU.out.step hb)
          replace k0 := cell_of_ans hb k0
          replace k1 := cell_of_ans hb k1
          replace HB := Lib.hid (HB.out.trans (hb.mono HB.out.size))
          clear hb
          have Hhg1 := Lib.hid hg1
          clear hg1
          go_wp2_with fail
          refine (HCK.out A1 c1 _ Hhg1.out ⟨hc11, hc12⟩).mono ?_
          rintro e x15 ⟨rfl, hb⟩
          replace HL := Lib.hid (HL.out.step hb)
          replace HU := Lib.hid (HU.out.step hb)
          replace k0 := cell_of_ans hb k0
          replace k1 := cell_of_ans hb k1
          replace Hhg1 := Lib.hid (Hhg1.out.step hb)
          replace HB := Lib.hid (HB.out.trans (hb.mono HB.out.size))
          clear hb
          go_wp2_with fail
          refine (HLG.out _ HL.out).mono ?_
          rintro e x16 ⟨A2, c2, rfl, ⟨hg2, hc21, hc22⟩, hb⟩
          replace HL := Lib.hid (HL.out.step hb)
          replace HU := Lib.hid (HU.out.step hb)
          replace k0 := cell_of_ans hb k0
          replace k1 := cell_of_ans hb k1
          replace Hhg1 := Lib.hid (Hhg1.out.step hb)
          replace HB := Lib.hid (HB.out.trans (hb.mono HB.out.size))
          clear hb
          have Hhg2 := Lib.hid hg2
          clear hg2
          go_wp2_with fail
          refine (HCO.out _ HU.out).mono ?_
          rintro e x17 ⟨A3, c3, rfl, ho3, hb⟩
          replace HL := Lib.hid (HL.out.step hb)
          replace HU := Lib.hid (HU.out.step hb)
          replace k0 := cell_of_ans hb k0
          replace k1 := cell_of_ans hb k1
          replace Hhg1 := Lib.hid (Hhg1.out.step hb)
          replace Hhg2 := Lib.hid (Hhg2.out.step hb)
          replace HB := Lib.hid (HB.out.trans (hb.mono HB.out.size))
          clear hb
          obtain ⟨hu1, hu2, hby⟩ := ho3.parts HUR.out
          have Hhby := Lib.hid hby
          clear hby ho3
          go_wp2_with fail
          refine (HRK.out A2 A3 c2 c3 _ Hhg2.out ⟨hc21, hc22⟩ Hhby.out ⟨hu1, hu2⟩).mono ?_
          rintro e x18 ⟨A4, c4, rfl, ⟨hi4, hc41, hc42⟩, hb⟩
          replace HL := Lib.hid (HL.out.step hb)
          replace HU := Lib.hid (HU.out.step hb)
          replace k0 := cell_of_ans hb k0
          replace k1 := cell_of_ans hb k1
          replace Hhg1 := Lib.hid (Hhg1.out.step hb)
          replace Hhg2 := Lib.hid (Hhg2.out.step hb)
          replace Hhby := Lib.hid (Hhby.out.step hb)
          replace HB := Lib.hid (HB.out.trans (hb.mono HB.out.size))
          clear hb
          have Hhi4 := Lib.hid hi4
          clear hi4
          go_wp2_with fail
          refine (HFA.out _ HL.out).mono ?_
          rintro e x19 ⟨rfl, hb⟩
          replace HL := Lib.hid (HL.out.step hb)
          replace HU := Lib.hid (HU.out.step hb)
          replace k0 := cell_of_ans hb k0
          replace k1 := cell_of_ans hb k1
          replace Hhg1 := Lib.hid (Hhg1.out.step hb)
          replace Hhg2 := Lib.hid (Hhg2.out.step hb)
          replace Hhby := Lib.hid (Hhby.out.step hb)
          replace Hhi4 := Lib.hid (Hhi4.out.step hb)
          replace HB := Lib.hid (HB.out.trans (hb.mono HB.out.size))
          clear hb
          go_wp2_with fail
          refine (awake16_c _).mono ?_
          rintro e x20 ⟨rfl, hb⟩
          replace HL := Lib.hid (HL.out.step hb)
          replace HU := Lib.hid (HU.out.step hb)
          replace k0 := cell_of_ans hb k0
          replace k1 := cell_of_ans hb k1
          replace Hhg1 := Lib.hid (Hhg1.out.step hb)
          replace Hhg2 := Lib.hid (Hhg2.out.step hb)
          replace Hhby := Lib.hid (Hhby.out.step hb)
          replace Hhi4 := Lib.hid (Hhi4.out.step hb)
          replace HB := Lib.hid (HB.out.trans (hb.mono HB.out.size))
          clear hb
          go_wp2_with fail
          go_ret
          exact ⟨rfl, HB.out⟩
        · have q1 : decide ((6 : Int) < (rules.length : Int)) = false := decide_eq_false (by omega)
          cases h3 : (allB rules.length fun k => inB (ix rules k) 1 4)
          · have HE : Hid (rankErr l rules = 2) := by show _ = _; unfold rankErr; rw [if_pos hf, if_neg h6, h3]; rfl
            have HLS : Hid (rankL l rules = []) := by show _ = _; unfold rankL; rw [HE.out, if_neg (by decide)]
            rw [HE.out, HLS.out] at HRK
            rw [h3] at HLI
            clear hf hv h3 h6 HE HLS
            go_enter Try.func3, Try.ntmps3
            go_wp2_with fail
            generalize (w.alloc (.cells #[.int .i64 l.teams, .slice A l.games.length c] 24)) = x1 at *
            refine (HTH.out _).mono ?_
            rintro e x21 ⟨rfl, hb⟩
            replace HL := Lib.hid (HL.out.step hb)
            replace HU := Lib.hid (HU.out.step hb)
            replace k0 := cell_of_ans hb k0
            replace k1 := cell_of_ans hb k1
            replace HB := Lib.hid (HB.out.trans (hb.mono HB.out.size))
            clear hb
            go_wp2_with fail
            refine (HLG.out _ HL.out).mono ?_
            rintro e x22 ⟨A1, c1, rfl, ⟨hg1, hc11, hc12⟩, hb⟩
            replace HL := Lib.hid (HL.out.step hb)
            replace HU := Lib.hid (HU.out.step hb)
            replace k0 := cell_of_ans hb k0
            replace k1 := cell_of_ans hb k1
            replace HB := Lib.hid (HB.out.trans (hb.mono HB.out.size))
            clear hb
            have Hhg1 := Lib.hid hg1
            clear hg1
            go_wp2_with fail
            refine (HCK.out A1 c1 _ Hhg1.out ⟨hc11, hc12⟩).mono ?_
            rintro e x23 ⟨rfl, hb⟩
            replace HL := Lib.hid (HL.out.step hb)
            replace HU := Lib.hid (HU.out.step hb)
            replace k0 := cell_of_ans hb k0
            replace k1 := cell_of_ans hb k1
            replace Hhg1 := Lib.hid (Hhg1.out.step hb)
            replace HB := Lib.hid (HB.out.trans (hb.mono HB.out.size))
            clear hb
            go_wp2_with fail
            refine (HLG.out _ HL.out).mono ?_
            rintro e x24 ⟨A2, c2, rfl, ⟨hg2, hc21, hc22⟩, hb⟩
            replace HL := Lib.hid (HL.out.step hb)
            replace HU := Lib.hid (HU.out.step hb)
            replace k0 := cell_of_ans hb k0
            replace k1 := cell_of_ans hb k1
            replace Hhg1 := Lib.hid (Hhg1.out.step hb)
            replace HB := Lib.hid (HB.out.trans (hb.mono HB.out.size))
            clear hb
            have Hhg2 := Lib.hid hg2
            clear hg2
            go_wp2_with fail
            refine (HCO.out _ HU.out).mono ?_
            rintro e x25 ⟨A3, c3, rfl, ho3, hb⟩
            replace HL := Lib.hid (HL.out.step hb)
            replace HU := Lib.hid (HU.out.step hb)
            replace k0 := cell_of_ans hb k0
            replace k1 := cell_of_ans hb k1
            replace Hhg1 := Lib.hid (Hhg1.out.step hb)
            replace Hhg2 := Lib.hid (Hhg2.out.step hb)
            replace HB := Lib.hid (HB.out.trans (hb.mono HB.out.size))
            clear hb
            obtain ⟨hu1, hu2, hby⟩ := ho3.parts HUR.out
            have Hhby := Lib.hid hby
            clear hby ho3
            go_wp2_with fail
            refine (HRK.out A2 A3 c2 c3 _ Hhg2.out ⟨hc21, hc22⟩ Hhby.out ⟨hu1, hu2⟩).mono ?_
            rintro e x26 ⟨A4, c4, rfl, ⟨hi4, hc41, hc42⟩, hb⟩
            replace HL := Lib.hid (HL.out.step hb)
            replace HU := Lib.hid (HU.out.step hb)
            replace k0 := cell_of_ans hb k0
            replace k1 := cell_of_ans hb k1
            replace Hhg1 := Lib.hid (Hhg1.out.step hb)
            replace Hhg2 := Lib.hid (Hhg2.out.step hb)
            replace Hhby := Lib.hid (Hhby.out.step hb)
            replace HB := Lib.hid (HB.out.trans (hb.mono HB.out.size))
            clear hb
            have Hhi4 := Lib.hid hi4
            clear hi4
            go_wp2_with fail
            refine (HFA.out _ HL.out).mono ?_
            rintro e x27 ⟨rfl, hb⟩
            replace HL := Lib.hid (HL.out.step hb)
            replace HU := Lib.hid (HU.out.step hb)
            replace k0 := cell_of_ans hb k0
            replace k1 := cell_of_ans hb k1
            replace Hhg1 := Lib.hid (Hhg1.out.step hb)
            replace Hhg2 := Lib.hid (Hhg2.out.step hb)
            replace Hhby := Lib.hid (Hhby.out.step hb)
            replace Hhi4 := Lib.hid (Hhi4.out.step hb)
            replace HB := Lib.hid (HB.out.trans (hb.mono HB.out.size))
            clear hb
            go_wp2_with fail
            refine ((HLI.out _ HU.out).mono (fun _ _ h => h.ans)).mono ?_
            rintro e x28 ⟨rfl, hb⟩
            replace HL := Lib.hid (HL.out.step hb)
            replace HU := Lib.hid (HU.out.step hb)
            replace k0 := cell_of_ans hb k0
            replace k1 := cell_of_ans hb k1
            replace Hhg1 := Lib.hid (Hhg1.out.step hb)
            replace Hhg2 := Lib.hid (Hhg2.out.step hb)
            replace Hhby := Lib.hid (Hhby.out.step hb)
            replace Hhi4 := Lib.hid (Hhi4.out.step hb)
            replace HB := Lib.hid (HB.out.trans (hb.mono HB.out.size))
            clear hb
            go_wp2_with fail
            refine (awake16_c _).mono ?_
            rintro e x29 ⟨rfl, hb⟩
            replace HL := Lib.hid (HL.out.step hb)
            replace HU := Lib.hid (HU.out.step hb)
            replace k0 := cell_of_ans hb k0
            replace k1 := cell_of_ans hb k1
            replace Hhg1 := Lib.hid (Hhg1.out.step hb)
            replace Hhg2 := Lib.hid (Hhg2.out.step hb)
            replace Hhby := Lib.hid (Hhby.out.step hb)
            replace Hhi4 := Lib.hid (Hhi4.out.step hb)
            replace HB := Lib.hid (HB.out.trans (hb.mono HB.out.size))
            clear hb
            go_wp2_with fail
            go_ret
            exact ⟨rfl, HB.out⟩
          · have he : rankErr l rules = 0 := by unfold rankErr; rw [if_pos hf, if_neg h6, h3]; rfl
            have hcode : ∀ k, k < rules.length → Code4 (ix rules k) := fun k hk => by
              have := (inB_eq _ _ _).1 (allB_iff.1 h3 k hk)
              unfold Code4
              omega
            rw [h3] at HLI
            rw [he] at HRK
            have HRF := Lib.hid (fun (W : World) (h : Gms W.heap.size W A l.games) (h' : Byts W.heap.size W Au rules) => rank24_c l A Au c cu rules W hv he h hc h' hcu (by omega) hcode)
            have hq : eqB (rankL l rules) (rankL l rules) = true := by unfold eqB; exact decide_eq_true rfl
            have HIN := Lib.hid (fun (W : World) (A1 A2 : Option Addr) (c1 c2 : Nat) (h1 : Ints W.heap.size W A1 (rankL l rules)) (h2 : Ints W.heap.size W A2 (rankL l rules)) h3 h4 => ints23_c A1 A2 (rankL l rules) (rankL l rules) c1 c2 W h1 h2 h3 h4)
            rw [hq] at HIN
            clear hf hv h3 h6 hcode he hq
            generalize rankL l rules = xs at *
            go_enter Try.func3, Try.ntmps3
            go_wp2_with fail
            generalize (w.alloc (.cells #[.int .i64 l.teams, .slice A l.games.length c] 24)) = x1 at *
            refine (HTH.out _).mono ?_
            rintro e x30 ⟨rfl, hb⟩
            replace HL := Lib.hid (HL.out.step hb)
            replace HU := Lib.hid (HU.out.step hb)
            replace k0 := cell_of_ans hb k0
            replace k1 := cell_of_ans hb k1
            replace HB := Lib.hid (HB.out.trans (hb.mono HB.out.size))
            clear hb
            go_wp2_with fail
            refine (HLG.out _ HL.out).mono ?_
            rintro e x31 ⟨A1, c1, rfl, ⟨hg1, hc11, hc12⟩, hb⟩
            replace HL := Lib.hid (HL.out.step hb)
            replace HU := Lib.hid (HU.out.step hb)
            replace k0 := cell_of_ans hb k0
            replace k1 := cell_of_ans hb k1
            replace HB := Lib.hid (HB.out.trans (hb.mono HB.out.size))
            clear hb
            have Hhg1 := Lib.hid hg1
            clear hg1
            go_wp2_with fail
            refine (HCK.out A1 c1 _ Hhg1.out ⟨hc11, hc12⟩).mono ?_
            rintro e x32 ⟨rfl, hb⟩
            replace HL := Lib.hid (HL.out.step hb)
            replace HU := Lib.hid (HU.out.step hb)
            replace k0 := cell_of_ans hb k0
            replace k1 := cell_of_ans hb k1
            replace Hhg1 := Lib.hid (Hhg1.out.step hb)
            replace HB := Lib.hid (HB.out.trans (hb.mono HB.out.size))
            clear hb
            go_wp2_with fail
            refine (HLG.out _ HL.out).mono ?_
            rintro e x33 ⟨A2, c2, rfl, ⟨hg2, hc21, hc22⟩, hb⟩
            replace HL := Lib.hid (HL.out.step hb)
            replace HU := Lib.hid (HU.out.step hb)
            replace k0 := cell_of_ans hb k0
            replace k1 := cell_of_ans hb k1
            replace Hhg1 := Lib.hid (Hhg1.out.step hb)
            replace HB := Lib.hid (HB.out.trans (hb.mono HB.out.size))
            clear hb
            have Hhg2 := Lib.hid hg2
            clear hg2
            go_wp2_with fail
            refine (HCO.out _ HU.out).mono ?_
            rintro e x34 ⟨A3, c3, rfl, ho3, hb⟩
            replace HL := Lib.hid (HL.out.step hb)
            replace HU := Lib.hid (HU.out.step hb)
            replace k0 := cell_of_ans hb k0
            replace k1 := cell_of_ans hb k1
            replace Hhg1 := Lib.hid (Hhg1.out.step hb)
            replace Hhg2 := Lib.hid (Hhg2.out.step hb)
            replace HB := Lib.hid (HB.out.trans (hb.mono HB.out.size))
            clear hb
            obtain ⟨hu1, hu2, hby⟩ := ho3.parts HUR.out
            have Hhby := Lib.hid hby
            clear hby ho3
            go_wp2_with fail
            refine (HRK.out A2 A3 c2 c3 _ Hhg2.out ⟨hc21, hc22⟩ Hhby.out ⟨hu1, hu2⟩).mono ?_
            rintro e x35 ⟨A4, c4, rfl, ⟨hi4, hc41, hc42⟩, hb⟩
            replace HL := Lib.hid (HL.out.step hb)
            replace HU := Lib.hid (HU.out.step hb)
            replace k0 := cell_of_ans hb k0
            replace k1 := cell_of_ans hb k1
            replace Hhg1 := Lib.hid (Hhg1.out.step hb)
            replace Hhg2 := Lib.hid (Hhg2.out.step hb)
            replace Hhby := Lib.hid (Hhby.out.step hb)
            replace HB := Lib.hid (HB.out.trans (hb.mono HB.out.size))
            clear hb
            have Hhi4 := Lib.hid hi4
            clear hi4
            go_wp2_with fail
            refine (HFA.out _ HL.out).mono ?_
            rintro e x36 ⟨rfl, hb⟩
            replace HL := Lib.hid (HL.out.step hb)
            replace HU := Lib.hid (HU.out.step hb)
            replace k0 := cell_of_ans hb k0
            replace k1 := cell_of_ans hb k1
            replace Hhg1 := Lib.hid (Hhg1.out.step hb)
            replace Hhg2 := Lib.hid (Hhg2.out.step hb)
            replace Hhby := Lib.hid (Hhby.out.step hb)
            replace Hhi4 := Lib.hid (Hhi4.out.step hb)
            replace HB := Lib.hid (HB.out.trans (hb.mono HB.out.size))
            clear hb
            go_wp2_with fail
            refine ((HLI.out _ HU.out).mono (fun _ _ h => h.ans)).mono ?_
            rintro e x37 ⟨rfl, hb⟩
            replace HL := Lib.hid (HL.out.step hb)
            replace HU := Lib.hid (HU.out.step hb)
            replace k0 := cell_of_ans hb k0
            replace k1 := cell_of_ans hb k1
            replace Hhg1 := Lib.hid (Hhg1.out.step hb)
            replace Hhg2 := Lib.hid (Hhg2.out.step hb)
            replace Hhby := Lib.hid (Hhby.out.step hb)
            replace Hhi4 := Lib.hid (Hhi4.out.step hb)
            replace HB := Lib.hid (HB.out.trans (hb.mono HB.out.size))
            clear hb
            go_wp2_with fail
            refine (HRF.out _ HL.out HU.out).mono ?_
            rintro e x38 ⟨A5, c5, rfl, ⟨hi5, hc51, hc52⟩, hb⟩
            replace HL := Lib.hid (HL.out.step hb)
            replace HU := Lib.hid (HU.out.step hb)
            replace k0 := cell_of_ans hb k0
            replace k1 := cell_of_ans hb k1
            replace Hhg1 := Lib.hid (Hhg1.out.step hb)
            replace Hhg2 := Lib.hid (Hhg2.out.step hb)
            replace Hhby := Lib.hid (Hhby.out.step hb)
            replace Hhi4 := Lib.hid (Hhi4.out.step hb)
            replace HB := Lib.hid (HB.out.trans (hb.mono HB.out.size))
            clear hb
            have Hhi5 := Lib.hid hi5
            clear hi5
            go_wp2_with fail
            refine ((HIN.out _ A4 A5 c4 c5 Hhi4.out Hhi5.out ⟨hc41, hc42⟩ ⟨hc51, hc52⟩).mono (fun _ _ h => h.ans)).mono ?_
            rintro e x39 ⟨rfl, hb⟩
            replace HL := Lib.hid (HL.out.step hb)
            replace HU := Lib.hid (HU.out.step hb)
            replace k0 := cell_of_ans hb k0
            replace k1 := cell_of_ans hb k1
            replace Hhg1 := Lib.hid (Hhg1.out.step hb)
            replace Hhg2 := Lib.hid (Hhg2.out.step hb)
            replace Hhby := Lib.hid (Hhby.out.step hb)
            replace Hhi4 := Lib.hid (Hhi4.out.step hb)
            replace Hhi5 := Lib.hid (Hhi5.out.step hb)
            replace HB := Lib.hid (HB.out.trans (hb.mono HB.out.size))
            clear hb
            go_wp2_with fail
            refine (awake16_c _).mono ?_
            rintro e x40 ⟨rfl, hb⟩
            replace HL := Lib.hid (HL.out.step hb)
            replace HU := Lib.hid (HU.out.step hb)
            replace k0 := cell_of_ans hb k0
            replace k1 := cell_of_ans hb k1
            replace Hhg1 := Lib.hid (Hhg1.out.step hb)
            replace Hhg2 := Lib.hid (Hhg2.out.step hb)
            replace Hhby := Lib.hid (Hhby.out.step hb)
            replace Hhi4 := Lib.hid (Hhi4.out.step hb)
            replace Hhi5 := Lib.hid (Hhi5.out.step hb)
            replace HB := Lib.hid (HB.out.trans (hb.mono HB.out.size))
            clear hb
            go_wp2_with fail
            go_ret
            exact ⟨rfl, HB.out⟩
end Go.Proofs.Ytjokbffdepcpkaa
