/-
  The walk of LeagueAfters.
-/
import Derived.Test.YtjokbffdepcpkaaRefA
namespace Go.Proofs.Ytjokbffdepcpkaa
open Go.RowKit
set_option linter.unusedSimpArgs false
set_option linter.unusedVariables false

attribute [local go_sem] Oper.semAt_some
theorem ans_same {w : World} {v : Value} {e : Ending} {w' : World} (h : Same w v e w') : e = .returned v ∧ Below w.heap.size w w' := h.ans
theorem ans_qt {w : World} {v : Value} {e : Ending} {w' : World} (h : Qt w v e w') : e = .returned v ∧ Below w.heap.size w w' := h.ans
set_option maxRecDepth 100000 in
set_option maxHeartbeats 8000000 in
theorem afters4_c (l : Lg) (A Au : Option Addr) (c cu : Nat) (os : List Int) (w : World) (hl : Gms w.heap.size w A l.games) (hc : l.games.length ≤ c ∧ c ≤ 9223372036854775807) (hu : Byts w.heap.size w Au os) (hcu : os.length ≤ cu ∧ cu ≤ 9223372036854775807) :
    Calls Try.prog 4 #[.agg #[.int .i64 l.teams, .slice A l.games.length c], .slice Au os.length cu] w (Ans w (.bool true)) := by
  have HL := Lib.hid hl
  have HU := Lib.hid hu
  clear hl hu
  have HB := Lib.hid (Below.refl w.heap.size w)
  have hb : Below w.heap.size w (w.alloc (.cells #[.int .i64 l.teams, .slice A l.games.length c] 24)) := (Below.refl _ _).alloc (Nat.le_refl _) _
  have k0 : (w.alloc (.cells #[.int .i64 l.teams, .slice A l.games.length c] 24)).cell? ⟨w.heap.size, 0, none⟩ = some (.int .i64 l.teams) := by simp
  have k1 : (w.alloc (.cells #[.int .i64 l.teams, .slice A l.games.length c] 24)).cell? ⟨w.heap.size, 1, none⟩ = some (.slice A l.games.length c) := by simp
  replace HL := Lib.hid (HL.out.step hb)
  replace HU := Lib.hid (HU.out.step hb)
  replace HB := Lib.hid (HB.out.trans (hb.mono HB.out.size))
  clear hb
  have HTH := Lib.hid (fun W => thin15_c l A c W)
  cases ht : thinG l.games.length
  · rw [ht] at HTH
    clear ht
    go_enter Try.func4, Try.ntmps4
    go_wp2_with fail
    generalize (w.alloc (.cells #[.int .i64 l.teams, .slice A l.games.length c] 24)) = x1 at *
    refine (HTH.out _).mono ?_
    rintro e x1 ⟨rfl, hb⟩
    replace HL := Lib.hid (HL.out.step hb)
    replace HU := Lib.hid (HU.out.step hb)
    replace k0 := cell_of_ans hb k0
    replace k1 := cell_of_ans hb k1
    replace HB := Lib.hid (HB.out.trans (hb.mono HB.out.size))
    clear hb
    go_wp2_with fail
    refine (awake16_c _).mono ?_
    rintro e x2 ⟨rfl, hb⟩
    replace HL := Lib.hid (HL.out.step hb)
    replace HU := Lib.hid (HU.out.step hb)
    replace k0 := cell_of_ans hb k0
    replace k1 := cell_of_ans hb k1
    replace HB := Lib.hid (HB.out.trans (hb.mono HB.out.size))
    clear hb
    go_wp2_with fail
    go_ret
    exact ⟨rfl, HB.out⟩
  · rw [ht] at HTH
    unfold thinG at ht
    have hl24 : l.games.length ≤ 24 := of_decide_eq_true ht
    clear ht
    have hn : l.games.length ≤ 1000 := by omega
    by_cases h30 : 30 < os.length
    · have h30i : (30 : Int) < (os.length : Int) := by omega
      go_enter Try.func4, Try.ntmps4
      go_wp2_with fail
      generalize (w.alloc (.cells #[.int .i64 l.teams, .slice A l.games.length c] 24)) = x1 at *
      refine (HTH.out _).mono ?_
      rintro e x3 ⟨rfl, hb⟩
      replace HL := Lib.hid (HL.out.step hb)
      replace HU := Lib.hid (HU.out.step hb)
      replace k0 := cell_of_ans hb k0
      replace k1 := cell_of_ans hb k1
      replace HB := Lib.hid (HB.out.trans (hb.mono HB.out.size))
      clear hb
      go_wp2_with fail
      refine (awake16_c _).mono ?_
      rintro e x4 ⟨rfl, hb⟩
      replace HL := Lib.hid (HL.out.step hb)
      replace HU := Lib.hid (HU.out.step hb)
      replace k0 := cell_of_ans hb k0
      replace k1 := cell_of_ans hb k1
      replace HB := Lib.hid (HB.out.trans (hb.mono HB.out.size))
      clear hb
      go_wp2_with fail
      go_ret
      exact ⟨rfl, HB.out⟩
    · have h30i : decide ((30 : Int) < (os.length : Int)) = false := decide_eq_false (by omega)
      have hos1 : os.length ≤ 1000 := by omega
      have HLG := Lib.hid (fun (W : World) (h : Gms W.heap.size W A l.games) => league18_c l A c W h hc hn)
      have HCO := Lib.hid (fun (W : World) (h : Byts W.heap.size W Au os) => codes20_c Au os cu W h (by omega))
      have HFA := Lib.hid (fun (W : World) (h : Gms W.heap.size W A l.games) => fault21_c l A c W h hc)
      have HAF := Lib.hid (fun (A1 A2 : Option Addr) (c1 c2 : Nat) (W : World) (h1 : Gms W.heap.size W A1 l.games) h2 (h3 : Byts W.heap.size W A2 os) h4 => after25_c l A1 A2 c1 c2 os W h1 h2 h3 h4 hos1)
      have HUR := Lib.hid (fun k hk => (HU.out.rng) k hk)
      by_cases hf : faultL l = 0
      rotate_left 1
      · have HE : Hid (afErr l os = faultL l) := by show _ = _; unfold afErr; rw [if_neg hf]
        have HLS : Hid (afL l os = []) := by show _ = _; unfold afL; rw [HE.out, if_neg hf]
        rw [HE.out, HLS.out] at HAF
        have q1 : (faultL l == 0) = false := by simp [hf]
        have q2 : (faultL l != 0) = true := by simp [hf]
        have q3 : (faultL l == faultL l) = true := by simp
        clear hf HE HLS
        generalize faultL l = fl at *
        go_enter Try.func4, Try.ntmps4
        go_wp2_with fail
        generalize (w.alloc (.cells #[.int .i64 l.teams, .slice A l.games.length c] 24)) = x1 at *
        refine (HTH.out _).mono ?_
        rintro e x5 ⟨rfl, hb⟩
        replace HL := Lib.hid (HL.out.step hb)
        replace HU := Lib.hid (HU.out.step hb)
        replace k0 := cell_of_ans hb k0
        replace k1 := cell_of_ans hb k1
        replace HB := Lib.hid (HB.out.trans (hb.mono HB.out.size))
        clear hb
        go_wp2_with fail
        refine (HLG.out _ HL.out).mono ?_
        rintro e x6 ⟨A1, c1, rfl, ⟨hg1, hc11, hc12⟩, hb⟩
        replace HL := Lib.hid (HL.out.step hb)
        replace HU := Lib.hid (HU.out.step hb)
        replace k0 := cell_of_ans hb k0
        replace k1 := cell_of_ans hb k1
        replace HB := Lib.hid (HB.out.trans (hb.mono HB.out.size))
        clear hb
        have Hhg1 := Lib.hid hg1
        clear hg1
        go_wp2_with fail
        refine (HCO.out _ HU.out).mono ?_
        rintro e x7 ⟨A2, c2, rfl, ho2, hb⟩
        replace HL := Lib.hid (HL.out.step hb)
        replace HU := Lib.hid (HU.out.step hb)
        replace k0 := cell_of_ans hb k0
        replace k1 := cell_of_ans hb k1
        replace Hhg1 := Lib.hid (Hhg1.out.step hb)
        replace HB := Lib.hid (HB.out.trans (hb.mono HB.out.size))
        clear hb
        obtain ⟨hu1, hu2, hby⟩ := ho2.parts HUR.out
        have Hhby := Lib.hid hby
        clear hby ho2
        go_wp2_with fail
        refine (HAF.out A1 A2 c1 c2 _ Hhg1.out ⟨hc11, hc12⟩ Hhby.out ⟨hu1, hu2⟩).mono ?_
        rintro e x8 ⟨A3, c3, rfl, ⟨hi3, hc31, hc32⟩, hb⟩
        replace HL := Lib.hid (HL.out.step hb)
        replace HU := Lib.hid (HU.out.step hb)
        replace k0 := cell_of_ans hb k0
        replace k1 := cell_of_ans hb k1
        replace Hhg1 := Lib.hid (Hhg1.out.step hb)
        replace Hhby := Lib.hid (Hhby.out.step hb)
        replace HB := Lib.hid (HB.out.trans (hb.mono HB.out.size))
        clear hb
        have Hhi3 := Lib.hid hi3
        clear hi3
        go_wp2_with fail
        refine (HFA.out _ HL.out).mono ?_
        rintro e x9 ⟨rfl, hb⟩
        replace HL := Lib.hid (HL.out.step hb)
        replace HU := Lib.hid (HU.out.step hb)
        replace k0 := cell_of_ans hb k0
        replace k1 := cell_of_ans hb k1
        replace Hhg1 := Lib.hid (Hhg1.out.step hb)
        replace Hhby := Lib.hid (Hhby.out.step hb)
        replace Hhi3 := Lib.hid (Hhi3.out.step hb)
        replace HB := Lib.hid (HB.out.trans (hb.mono HB.out.size))
        clear hb
        go_wp2_with fail
        refine (awake16_c _).mono ?_
        rintro e x10 ⟨rfl, hb⟩
        replace HL := Lib.hid (HL.out.step hb)
        replace HU := Lib.hid (HU.out.step hb)
        replace k0 := cell_of_ans hb k0
        replace k1 := cell_of_ans hb k1
        replace Hhg1 := Lib.hid (Hhg1.out.step hb)
        replace Hhby := Lib.hid (Hhby.out.step hb)
        replace Hhi3 := Lib.hid (Hhi3.out.step hb)
        replace HB := Lib.hid (HB.out.trans (hb.mono HB.out.size))
        clear hb
        go_wp2_with fail
        go_ret
        exact ⟨rfl, HB.out⟩
      · have hv := valid_iff.1 hf
        rw [hf] at HFA
        have HOP := Lib.hid (fun (W : World) (h : Gms W.heap.size W A l.games) => open26_c l A c W h hc hn)
        have HLI := Lib.hid (fun (W : World) (h : Byts W.heap.size W Au os) => listed22_c Au cu os 3 W h (by omega))
        by_cases h2 : os.length = (opensL l.games).length
        rotate_left 1
        · have HOB : Hid (outsB l os = false) := by show _ = _; unfold outsB; rw [decide_eq_false h2]; rfl
          have HE : Hid (afErr l os = 2) := by show _ = _; unfold afErr; rw [if_pos hf, HOB.out]; rfl
          have HLS : Hid (afL l os = []) := by show _ = _; unfold afL; rw [HE.out, if_neg (by decide)]
          rw [HE.out, HLS.out] at HAF
          have q1 : ((os.length : Int) != ((opensL l.games).length : Int)) = true := by simp [bne]; omega
          clear hf hv h2 HOB HE HLS
          go_enter Try.func4, Try.ntmps4
          go_wp2_with fail
          generalize (w.alloc (.cells #[.int .i64 l.teams, .slice A l.games.length c] 24)) = x1 at *
          refine (HTH.out _).mono ?_
          rintro e x11 ⟨rfl, hb⟩
          replace HL := Lib.hid (HL.out.step hb)
          replace HU := Lib.hid (HU.out.step hb)
          replace k0 := cell_of_ans hb k0
          replace k1 := cell_of_ans hb k1
          replace HB := Lib.hid (HB.out.trans (hb.mono HB.out.size))
          clear hb
          go_wp2_with fail
          refine (HLG.out _ HL.out).mono ?_
          rintro e x12 ⟨A1, c1, rfl, ⟨hg1, hc11, hc12⟩, hb⟩
          replace HL := Lib.hid (HL.out.step hb)
          replace HU := Lib.hid (HU.out.step hb)
          replace k0 := cell_of_ans hb k0
          replace k1 := cell_of_ans hb k1
          replace HB := Lib.hid (HB.out.trans (hb.mono HB.out.size))
          clear hb
          have Hhg1 := Lib.hid hg1
          clear hg1
          go_wp2_with fail
          refine (HCO.out _ HU.out).mono ?_
          rintro e x13 ⟨A2, c2, rfl, ho2, hb⟩
          replace HL := Lib.hid (HL.out.step hb)
          replace HU := Lib.hid (HU.out.step hb)
          replace k0 := cell_of_ans hb k0
          replace k1 := cell_of_ans hb k1
          replace Hhg1 := Lib.hid (Hhg1.out.step hb)
          replace HB := Lib.hid (HB.out.trans (hb.mono HB.out.size))
          clear hb
          obtain ⟨hu1, hu2, hby⟩ := ho2.parts HUR.out
          have Hhby := Lib.hid hby
          clear hby ho2
          go_wp2_with fail
          refine (HAF.out A1 A2 c1 c2 _ Hhg1.out ⟨hc11, hc12⟩ Hhby.out ⟨hu1, hu2⟩).mono ?_
          rintro e x14 ⟨A3, c3, rfl, ⟨hi3, hc31, hc32⟩, hb⟩
          replace HL := Lib.hid (HL.out.step hb)
          replace HU := Lib.hid (HU.out.step hb)
          replace k0 := cell_of_ans hb k0
          replace k1 := cell_of_ans hb k1
          replace Hhg1 := Lib.hid (Hhg1.out.step hb)
          replace Hhby := Lib.hid (Hhby.out.step hb)
          replace HB := Lib.hid (HB.out.trans (hb.mono HB.out.size))
          clear hb
          have Hhi3 := Lib.hid hi3
          clear hi3
          go_wp2_with fail
          refine (HFA.out _ HL.out).mono ?_
          rintro e x15 ⟨rfl, hb⟩
          replace HL := Lib.hid (HL.out.step hb)
          replace HU := Lib.hid (HU.out.step hb)
          replace k0 := cell_of_ans hb k0
          replace k1 := cell_of_ans hb k1
          replace Hhg1 := Lib.hid (Hhg1.out.step hb)
          replace Hhby := Lib.hid (Hhby.out.step hb)
          replace Hhi3 := Lib.hid (Hhi3.out.step hb)
          replace HB := Lib.hid (HB.out.trans (hb.mono HB.out.size))
          clear hb
          go_wp2_with fail
          refine (HOP.out _ HL.out).mono ?_
          rintro e x16 ⟨rfl, hb⟩
          replace HL := Lib.hid (HL.out.step hb)
          replace HU := Lib.hid (HU.out.step hb)
          replace k0 := cell_of_ans hb k0
          replace k1 := cell_of_ans hb k1
          replace Hhg1 := Lib.hid (Hhg1.out.step hb)
          replace Hhby := Lib.hid (Hhby.out.step hb)
          replace Hhi3 := Lib.hid (Hhi3.out.step hb)
          replace HB := Lib.hid (HB.out.trans (hb.mono HB.out.size))
          clear hb
          go_wp2_with fail
          refine (awake16_c _).mono ?_
          rintro e x17 ⟨rfl, hb⟩
          replace HL := Lib.hid (HL.out.step hb)
          replace HU := Lib.hid (HU.out.step hb)
          replace k0 := cell_of_ans hb k0
          replace k1 := cell_of_ans hb k1
          replace Hhg1 := Lib.hid (Hhg1.out.step hb)
          replace Hhby := Lib.hid (Hhby.out.step hb)
          replace Hhi3 := Lib.hid (Hhi3.out.step hb)
          replace HB := Lib.hid (HB.out.trans (hb.mono HB.out.size))
          clear hb
          go_wp2_with fail
          go_ret
          exact ⟨rfl, HB.out⟩
        · have q1 : ((os.length : Int) != ((opensL l.games).length : Int)) = false := by simp [h2]
          cases h3 : (allB os.length fun k => inB (ix os k) 1 3)
          · have HOB : Hid (outsB l os = false) := by show _ = _; unfold outsB; rw [h3, Bool.and_false]
            have HE : Hid (afErr l os = 2) := by show _ = _; unfold afErr; rw [if_pos hf, HOB.out]; rfl
            have HLS : Hid (afL l os = []) := by show _ = _; unfold afL; rw [HE.out, if_neg (by decide)]
            rw [HE.out, HLS.out] at HAF
            rw [h3] at HLI
            clear hf hv h2 h3 HOB HE HLS
            go_enter Try.func4, Try.ntmps4
            go_wp2_with fail
            generalize (w.alloc (.cells #[.int .i64 l.teams, .slice A l.games.length c] 24)) = x1 at *
            refine (HTH.out _).mono ?_
            rintro e x18 ⟨rfl, hb⟩
            replace HL := Lib.hid (HL.out.step hb)
            replace HU := Lib.hid (HU.out.step hb)
            replace k0 := cell_of_ans hb k0
            replace k1 := cell_of_ans hb k1
            replace HB := Lib.hid (HB.out.trans (hb.mono HB.out.size))
            clear hb
            go_wp2_with fail
            refine (HLG.out _ HL.out).mono ?_
            rintro e x19 ⟨A1, c1, rfl, ⟨hg1, hc11, hc12⟩, hb⟩
            replace HL := Lib.hid (HL.out.step hb)
            replace HU := Lib.hid (HU.out.step hb)
            replace k0 := cell_of_ans hb k0
            replace k1 := cell_of_ans hb k1
            replace HB := Lib.hid (HB.out.trans (hb.mono HB.out.size))
            clear hb
            have Hhg1 := Lib.hid hg1
            clear hg1
            go_wp2_with fail
            refine (HCO.out _ HU.out).mono ?_
            rintro e x20 ⟨A2, c2, rfl, ho2, hb⟩
            replace HL := Lib.hid (HL.out.step hb)
            replace HU := Lib.hid (HU.out.step hb)
            replace k0 := cell_of_ans hb k0
            replace k1 := cell_of_ans hb k1
            replace Hhg1 := Lib.hid (Hhg1.out.step hb)
            replace HB := Lib.hid (HB.out.trans (hb.mono HB.out.size))
            clear hb
            obtain ⟨hu1, hu2, hby⟩ := ho2.parts HUR.out
            have Hhby := Lib.hid hby
            clear hby ho2
            go_wp2_with fail
            refine (HAF.out A1 A2 c1 c2 _ Hhg1.out ⟨hc11, hc12⟩ Hhby.out ⟨hu1, hu2⟩).mono ?_
            rintro e x21 ⟨A3, c3, rfl, ⟨hi3, hc31, hc32⟩, hb⟩
            replace HL := Lib.hid (HL.out.step hb)
            replace HU := Lib.hid (HU.out.step hb)
            replace k0 := cell_of_ans hb k0
            replace k1 := cell_of_ans hb k1
            replace Hhg1 := Lib.hid (Hhg1.out.step hb)
            replace Hhby := Lib.hid (Hhby.out.step hb)
            replace HB := Lib.hid (HB.out.trans (hb.mono HB.out.size))
            clear hb
            have Hhi3 := Lib.hid hi3
            clear hi3
            go_wp2_with fail
            refine (HFA.out _ HL.out).mono ?_
            rintro e x22 ⟨rfl, hb⟩
            replace HL := Lib.hid (HL.out.step hb)
            replace HU := Lib.hid (HU.out.step hb)
            replace k0 := cell_of_ans hb k0
            replace k1 := cell_of_ans hb k1
            replace Hhg1 := Lib.hid (Hhg1.out.step hb)
            replace Hhby := Lib.hid (Hhby.out.step hb)
            replace Hhi3 := Lib.hid (Hhi3.out.step hb)
            replace HB := Lib.hid (HB.out.trans (hb.mono HB.out.size))
            clear hb
            go_wp2_with fail
            refine (HOP.out _ HL.out).mono ?_
            rintro e x23 ⟨rfl, hb⟩
            replace HL := Lib.hid (HL.out.step hb)
            replace HU := Lib.hid (HU.out.step hb)
            replace k0 := cell_of_ans hb k0
            replace k1 := cell_of_ans hb k1
            replace Hhg1 := Lib.hid (Hhg1.out.step hb)
            replace Hhby := Lib.hid (Hhby.out.step hb)
            replace Hhi3 := Lib.hid (Hhi3.out.step hb)
            replace HB := Lib.hid (HB.out.trans (hb.mono HB.out.size))
            clear hb
            go_wp2_with fail
            refine ((HLI.out _ HU.out).mono (fun _ _ h => h.ans)).mono ?_
            rintro e x24 ⟨rfl, hb⟩
            replace HL := Lib.hid (HL.out.step hb)
            replace HU := Lib.hid (HU.out.step hb)
            replace k0 := cell_of_ans hb k0
            replace k1 := cell_of_ans hb k1
            replace Hhg1 := Lib.hid (Hhg1.out.step hb)
            replace Hhby := Lib.hid (Hhby.out.step hb)
            replace Hhi3 := Lib.hid (Hhi3.out.step hb)
            replace HB := Lib.hid (HB.out.trans (hb.mono HB.out.size))
            clear hb
            go_wp2_with fail
            refine (awake16_c _).mono ?_
            rintro e x25 ⟨rfl, hb⟩
            replace HL := Lib.hid (HL.out.step hb)
            replace HU := Lib.hid (HU.out.step hb)
            replace k0 := cell_of_ans hb k0
            replace k1 := cell_of_ans hb k1
            replace Hhg1 := Lib.hid (Hhg1.out.step hb)
            replace Hhby := Lib.hid (Hhby.out.step hb)
            replace Hhi3 := Lib.hid (Hhi3.out.step hb)
            replace HB := Lib.hid (HB.out.trans (hb.mono HB.out.size))
            clear hb
            go_wp2_with fail
            go_ret
            exact ⟨rfl, HB.out⟩
          · rw [h3] at HLI
            have hor : ∀ k, k < os.length → 1 ≤ ix os k ∧ ix os k ≤ 3 := fun k hk => (inB_eq _ _ _).1 (allB_iff.1 h3 k hk)
            obtain ⟨ha1, ha2⟩ := af_ok hv (outs_ok h2 hor)
            rw [ha1, ha2] at HAF
            have HRA := Lib.hid (fun (W : World) (h : Gms W.heap.size W A l.games) (h' : Byts W.heap.size W Au os) => after27_c l A Au c cu os W hv h hc h' hcu h2 hor)
            have hq : eqB ((List.range l.teams.toNat).map (aftF l os)) ((List.range l.teams.toNat).map (aftF l os)) = true := by unfold eqB; exact decide_eq_true rfl
            have HIN := Lib.hid (fun (W : World) (A1 A2 : Option Addr) (c1 c2 : Nat) (h1 : Ints W.heap.size W A1 ((List.range l.teams.toNat).map (aftF l os))) (h2 : Ints W.heap.size W A2 ((List.range l.teams.toNat).map (aftF l os))) h3 h4 => ints23_c A1 A2 ((List.range l.teams.toNat).map (aftF l os)) ((List.range l.teams.toNat).map (aftF l os)) c1 c2 W h1 h2 h3 h4)
            rw [hq] at HIN
            clear hf hv h2 h3 hor ha1 ha2 hq
            generalize (List.range l.teams.toNat).map (aftF l os) = xs at *
            go_enter Try.func4, Try.ntmps4
            go_wp2_with fail
            generalize (w.alloc (.cells #[.int .i64 l.teams, .slice A l.games.length c] 24)) = x1 at *
            refine (HTH.out _).mono ?_
            rintro e x26 ⟨rfl, hb⟩
            replace HL := Lib.hid (HL.out.step hb)
            replace HU := Lib.hid (HU.out.step hb)
            replace k0 := cell_of_ans hb k0
            replace k1 := cell_of_ans hb k1
            replace HB := Lib.hid (HB.out.trans (hb.mono HB.out.size))
            clear hb
            go_wp2_with fail
            refine (HLG.out _ HL.out).mono ?_
            rintro e x27 ⟨A1, c1, rfl, ⟨hg1, hc11, hc12⟩, hb⟩
            replace HL := Lib.hid (HL.out.step hb)
            replace HU := Lib.hid (HU.out.step hb)
            replace k0 := cell_of_ans hb k0
            replace k1 := cell_of_ans hb k1
            replace HB := Lib.hid (HB.out.trans (hb.mono HB.out.size))
            clear hb
            have Hhg1 := Lib.hid hg1
            clear hg1
            go_wp2_with fail
            refine (HCO.out _ HU.out).mono ?_
            rintro e x28 ⟨A2, c2, rfl, ho2, hb⟩
            replace HL := Lib.hid (HL.out.step hb)
            replace HU := Lib.hid (HU.out.step hb)
            replace k0 := cell_of_ans hb k0
            replace k1 := cell_of_ans hb k1
            replace Hhg1 := Lib.hid (Hhg1.out.step hb)
            replace HB := Lib.hid (HB.out.trans (hb.mono HB.out.size))
            clear hb
            obtain ⟨hu1, hu2, hby⟩ := ho2.parts HUR.out
            have Hhby := Lib.hid hby
            clear hby ho2
            go_wp2_with fail
            refine (HAF.out A1 A2 c1 c2 _ Hhg1.out ⟨hc11, hc12⟩ Hhby.out ⟨hu1, hu2⟩).mono ?_
            rintro e x29 ⟨A3, c3, rfl, ⟨hi3, hc31, hc32⟩, hb⟩
            replace HL := Lib.hid (HL.out.step hb)
            replace HU := Lib.hid (HU.out.step hb)
            replace k0 := cell_of_ans hb k0
            replace k1 := cell_of_ans hb k1
            replace Hhg1 := Lib.hid (Hhg1.out.step hb)
            replace Hhby := Lib.hid (Hhby.out.step hb)
            replace HB := Lib.hid (HB.out.trans (hb.mono HB.out.size))
            clear hb
            have Hhi3 := Lib.hid hi3
            clear hi3
            go_wp2_with fail
            refine (HFA.out _ HL.out).mono ?_
            rintro e x30 ⟨rfl, hb⟩
            replace HL := Lib.hid (HL.out.step hb)
            replace HU := Lib.hid (HU.out.step hb)
            replace k0 := cell_of_ans hb k0
            replace k1 := cell_of_ans hb k1
            replace Hhg1 := Lib.hid (Hhg1.out.step hb)
            replace Hhby := Lib.hid (Hhby.out.step hb)
            replace Hhi3 := Lib.hid (Hhi3.out.step hb)
            replace HB := Lib.hid (HB.out.trans (hb.mono HB.out.size))
            clear hb
            go_wp2_with fail
            refine (HOP.out _ HL.out).mono ?_
            rintro e x31 ⟨rfl, hb⟩
            replace HL := Lib.hid (HL.out.step hb)
            replace HU := Lib.hid (HU.out.step hb)
            replace k0 := cell_of_ans hb k0
            replace k1 := cell_of_ans hb k1
            replace Hhg1 := Lib.hid (Hhg1.out.step hb)
            replace Hhby := Lib.hid (Hhby.out.step hb)
            replace Hhi3 := Lib.hid (Hhi3.out.step hb)
            replace HB := Lib.hid (HB.out.trans (hb.mono HB.out.size))
            clear hb
            go_wp2_with fail
            refine ((HLI.out _ HU.out).mono (fun _ _ h => h.ans)).mono ?_
            rintro e x32 ⟨rfl, hb⟩
            replace HL := Lib.hid (HL.out.step hb)
            replace HU := Lib.hid (HU.out.step hb)
            replace k0 := cell_of_ans hb k0
            replace k1 := cell_of_ans hb k1
            replace Hhg1 := Lib.hid (Hhg1.out.step hb)
            replace Hhby := Lib.hid (Hhby.out.step hb)
            replace Hhi3 := Lib.hid (Hhi3.out.step hb)
            replace HB := Lib.hid (HB.out.trans (hb.mono HB.out.size))
            clear hb
            go_wp2_with fail
            refine (HRA.out _ HL.out HU.out).mono ?_
            rintro e x33 ⟨A4, c4, rfl, ⟨hi4, hc41, hc42⟩, hb⟩
            replace HL := Lib.hid (HL.out.step hb)
            replace HU := Lib.hid (HU.out.step hb)
            replace k0 := cell_of_ans hb k0
            replace k1 := cell_of_ans hb k1
            replace Hhg1 := Lib.hid (Hhg1.out.step hb)
            replace Hhby := Lib.hid (Hhby.out.step hb)
            replace Hhi3 := Lib.hid (Hhi3.out.step hb)
            replace HB := Lib.hid (HB.out.trans (hb.mono HB.out.size))
            clear hb
            have Hhi4 := Lib.hid hi4
            clear hi4
            go_wp2_with fail
            refine ((HIN.out _ A3 A4 c3 c4 Hhi3.out Hhi4.out ⟨hc31, hc32⟩ ⟨hc41, hc42⟩).mono (fun _ _ h => h.ans)).mono ?_
            rintro e x34 ⟨rfl, hb⟩
            replace HL := Lib.hid (HL.out.step hb)
            replace HU := Lib.hid (HU.out.step hb)
            replace k0 := cell_of_ans hb k0
            replace k1 := cell_of_ans hb k1
            replace Hhg1 := Lib.hid (Hhg1.out.step hb)
            replace Hhby := Lib.hid (Hhby.out.step hb)
            replace Hhi3 := Lib.hid (Hhi3.out.step hb)
            replace Hhi4 := Lib.hid (Hhi4.out.step hb)
            replace HB := Lib.hid (HB.out.trans (hb.mono HB.out.size))
            clear hb
            go_wp2_with fail
            refine (awake16_c _).mono ?_
            rintro e x35 ⟨rfl, hb⟩
            replace HL := Lib.hid (HL.out.step hb)
            replace HU := Lib.hid (HU.out.step hb)
            replace k0 := cell_of_ans hb k0
            replace k1 := cell_of_ans hb k1
            replace Hhg1 := Lib.hid (Hhg1.out.step hb)
            replace Hhby := Lib.hid (Hhby.out.step hb)
            replace Hhi3 := Lib.hid (Hhi3.out.step hb)
            replace Hhi4 := Lib.hid (Hhi4.out.step hb)
            replace HB := Lib.hid (HB.out.trans (hb.mono HB.out.size))
            clear hb
            go_wp2_with fail
            go_ret
            exact ⟨rfl, HB.out⟩
end Go.Proofs.Ytjokbffdepcpkaa
