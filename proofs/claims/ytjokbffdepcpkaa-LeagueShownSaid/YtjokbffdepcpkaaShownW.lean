/-
  The walk of LeagueShown.
-/
import Derived.Test.YtjokbffdepcpkaaShownM
namespace Go.Proofs.Ytjokbffdepcpkaa
open Go.RowKit
set_option linter.unusedSimpArgs false
set_option linter.unusedVariables false

attribute [local go_sem] Oper.semAt_some
set_option maxRecDepth 100000 in
set_option maxHeartbeats 8000000 in
theorem shown13_c (l : Lg) (A Ax : Option Addr) (c cx : Nat) (xs : List Int) (w : World) (hl : Gms w.heap.size w A l.games) (hc : l.games.length ≤ c ∧ c ≤ 9223372036854775807) (hx : Ints w.heap.size w Ax xs) (hcx : xs.length ≤ cx ∧ cx ≤ 9223372036854775807) :
    Calls Try.prog 13 #[.agg #[.int .i64 l.teams, .slice A l.games.length c], .slice Ax xs.length cx] w (Ans w (.bool true)) := by
  have HL := Lib.hid hl
  have HX := Lib.hid hx
  clear hl hx
  have HB := Lib.hid (Below.refl w.heap.size w)
  have hb : Below w.heap.size w (w.alloc (.cells #[.int .i64 l.teams, .slice A l.games.length c] 24)) := (Below.refl _ _).alloc (Nat.le_refl _) _
  have k0 : (w.alloc (.cells #[.int .i64 l.teams, .slice A l.games.length c] 24)).cell? ⟨w.heap.size, 0, none⟩ = some (.int .i64 l.teams) := by simp
  have k1 : (w.alloc (.cells #[.int .i64 l.teams, .slice A l.games.length c] 24)).cell? ⟨w.heap.size, 1, none⟩ = some (.slice A l.games.length c) := by simp
  replace HL := Lib.hid (HL.out.step hb)
  replace HX := Lib.hid (HX.out.step hb)
  replace HB := Lib.hid (HB.out.trans (hb.mono HB.out.size))
  clear hb
  have HRD := Lib.hid (fun (W : World) (h : Gms W.heap.size W A l.games) => ready34_c l A c W h hc)
  cases hrd : (thinG l.games.length && decide (faultL l = 0))
  · rw [hrd] at HRD
    clear hrd
    go_enter Try.func13, Try.ntmps13
    go_wp2_with fail
    generalize (w.alloc (.cells #[.int .i64 l.teams, .slice A l.games.length c] 24)) = x1 at *
    refine (HRD.out _ HL.out).mono ?_
    rintro e x1 ⟨rfl, hb⟩
    replace HL := Lib.hid (HL.out.step hb)
    replace HX := Lib.hid (HX.out.step hb)
    replace k0 := cell_of_ans hb k0
    replace k1 := cell_of_ans hb k1
    replace HB := Lib.hid (HB.out.trans (hb.mono HB.out.size))
    clear hb
    go_wp2_with fail
    refine (awake16_c _).mono ?_
    rintro e x2 ⟨rfl, hb⟩
    replace HL := Lib.hid (HL.out.step hb)
    replace HX := Lib.hid (HX.out.step hb)
    replace k0 := cell_of_ans hb k0
    replace k1 := cell_of_ans hb k1
    replace HB := Lib.hid (HB.out.trans (hb.mono HB.out.size))
    clear hb
    go_wp2_with fail
    go_ret
    exact ⟨rfl, HB.out⟩
  · rw [hrd] at HRD
    by_cases h9 : 9 < xs.length
    · have h9i : (9 : Int) < (xs.length : Int) := by omega
      clear hrd
      go_enter Try.func13, Try.ntmps13
      go_wp2_with fail
      generalize (w.alloc (.cells #[.int .i64 l.teams, .slice A l.games.length c] 24)) = x1 at *
      refine (HRD.out _ HL.out).mono ?_
      rintro e x3 ⟨rfl, hb⟩
      replace HL := Lib.hid (HL.out.step hb)
      replace HX := Lib.hid (HX.out.step hb)
      replace k0 := cell_of_ans hb k0
      replace k1 := cell_of_ans hb k1
      replace HB := Lib.hid (HB.out.trans (hb.mono HB.out.size))
      clear hb
      go_wp2_with fail
      refine (awake16_c _).mono ?_
      rintro e x4 ⟨rfl, hb⟩
      replace HL := Lib.hid (HL.out.step hb)
      replace HX := Lib.hid (HX.out.step hb)
      replace k0 := cell_of_ans hb k0
      replace k1 := cell_of_ans hb k1
      replace HB := Lib.hid (HB.out.trans (hb.mono HB.out.size))
      clear hb
      go_wp2_with fail
      go_ret
      exact ⟨rfl, HB.out⟩
    · have h9i : decide ((9 : Int) < (xs.length : Int)) = false := decide_eq_false (by omega)
      rw [Bool.and_eq_true, decide_eq_true_eq] at hrd
      have hv := valid_iff.1 hrd.2
      have hl20 := hv.len
      have hn : l.games.length ≤ 1000 := by omega
      have hol := opens_len l.games
      have HLG := Lib.hid (fun (W : World) (h : Gms W.heap.size W A l.games) => league18_c l A c W h hc hn)
      have hT2 := hv.t2
      have hT6 := hv.t6
      obtain ⟨T, hT⟩ : ∃ T : Nat, l.teams.toNat = T := ⟨_, rfl⟩
      have HTI : Hid (l.teams = (T : Int)) := by show _ = _; omega
      have HSF := Lib.hid (fun (t : Nat) (ht : t < T) => shF hv xs (show (t : Int) < l.teams by have := HTI.out; omega))
      have HSH := Lib.hid (fun (t : Nat) (ha : askedL l (t : Int) = 0) (A1 : Option Addr) (c1 : Nat) (W : World) (h : Gms W.heap.size W A1 l.games) h2 => shows47_c l t A1 c1 W h h2 ha)
      have HRE := Lib.hid (fun (t : Int) (A1 : Option Addr) (c1 : Nat) (W : World) (h : Gms W.heap.size W A1 l.games) h2 => reason37_c l t A1 c1 W h h2)
      have HOU := Lib.hid (fun (t : Int) (A1 SA : Option Addr) (c1 sc : Nat) (ys : List Int) (W : World) (h : Gms W.heap.size W A1 l.games) h2 (h3 : Ints W.heap.size W SA ys) h4 h5 => rulesOut38_c l t A1 SA c1 sc ys W h h2 h3 h4 h5)
      have HXL := Lib.hid (fun (W : World) (h : Ints W.heap.size W Ax xs) => list39_c Ax xs cx W h (by omega))
      have HAF := Lib.hid (fun (os : List Int) (ho : outsB l os = true) (hol : os.length = (opensL l.games).length) (A1 A2 : Option Addr) (c1 c2 : Nat) (W : World) (h1 : Gms W.heap.size W A1 l.games) h2 (h3 : Byts W.heap.size W A2 os) h4 => by
        have h := after25_c l A1 A2 c1 c2 os W h1 h2 h3 h4 (by omega)
        obtain ⟨e1, e2⟩ := af_ok hv ho
        rw [e1, e2, hT] at h
        exact h)
      have hTp : 2 ≤ T ∧ T ≤ 6 := by omega
      clear hrd hv hT hT2 hT6
      go_enter Try.func13, Try.ntmps13
      go_wp2_with fail
      generalize (w.alloc (.cells #[.int .i64 l.teams, .slice A l.games.length c] 24)) = x1 at *
      refine (HRD.out _ HL.out).mono ?_
      rintro e x5 ⟨rfl, hb⟩
      replace HL := Lib.hid (HL.out.step hb)
      replace HX := Lib.hid (HX.out.step hb)
      replace k0 := cell_of_ans hb k0
      replace k1 := cell_of_ans hb k1
      replace HB := Lib.hid (HB.out.trans (hb.mono HB.out.size))
      clear hb
      go_wp2_with fail
      go_loopw [5] (fun i wr => ∃ t : Nat, t ≤ T ∧ i = .int .i64 t ∧ Below x5.heap.size x5 wr) (fun i _ => T - (intOf i).toNat)
      case atStart => exact ⟨0, by omega, rfl, Below.refl _ _⟩
      case round =>
        obtain ⟨t, ht, rfl, hb⟩ := hrel
        generalize wr = wt at *
        have HBR := Lib.hid (Below.refl x5.heap.size x5)
        replace HL := Lib.hid (HL.out.step hb)
        replace HX := Lib.hid (HX.out.step hb)
        replace k0 := cell_of_ans hb k0
        replace k1 := cell_of_ans hb k1
        replace HBR := Lib.hid (HBR.out.trans (hb.mono HBR.out.size))
        replace HB := Lib.hid (HB.out.trans (hb.mono HB.out.size))
        clear hb
        by_cases h1 : t < T
        · have hti : (t : Int) < l.teams := by have := HTI.out; omega
          have HG := Lib.hid (HSF.out t h1)
          have HAS : Hid (askedL l (t : Int) = 0) := HG.out.ask
          clear HSF
          cases hca : canB l t
          · have HCN := Lib.hid hca
            have HN1 := Lib.hid (HG.out.no hca).1
            have HN2 := Lib.hid (HG.out.no hca).2
            clear hca
            go_wp2_with fail
            refine (HLG.out _ HL.out).mono ?_
            rintro e x6 ⟨A4, c4, rfl, ⟨hg4, hc41, hc42⟩, hb⟩
            replace HL := Lib.hid (HL.out.step hb)
            replace HX := Lib.hid (HX.out.step hb)
            replace k0 := cell_of_ans hb k0
            replace k1 := cell_of_ans hb k1
            replace HBR := Lib.hid (HBR.out.trans (hb.mono HBR.out.size))
            replace HB := Lib.hid (HB.out.trans (hb.mono HB.out.size))
            clear hb
            have Hhg4 := Lib.hid hg4
            clear hg4
            go_wp2_with fail
            refine (HSH.out t HAS.out A4 c4 _ Hhg4.out ⟨hc41, hc42⟩).mono ?_
            rintro e y1 ⟨hb, hp⟩
            clear Hhg4
            replace HL := Lib.hid (HL.out.step hb)
            replace HX := Lib.hid (HX.out.step hb)
            replace k0 := cell_of_ans hb k0
            replace k1 := cell_of_ans hb k1
            replace HBR := Lib.hid (HBR.out.trans (hb.mono HBR.out.size))
            replace HB := Lib.hid (HB.out.trans (hb.mono HB.out.size))
            clear hb
            have he : e = .returned (.tuple #[.slice none 0 0, .int .i64 9]) := by
              rcases hp with ⟨h, -⟩ | ⟨s, A5, c5, -, h2, h3, -⟩
              · exact h
              · have := (HG.out.first s h2 h3).1
                rw [HCN.out] at this
                cases this
            subst he
            have hrl := HG.out.len
            clear hp HG HCN
            go_wp2_with fail
            refine (HLG.out _ HL.out).mono ?_
            rintro e x7 ⟨A6, c6, rfl, ⟨hg6, hc61, hc62⟩, hb⟩
            replace HL := Lib.hid (HL.out.step hb)
            replace HX := Lib.hid (HX.out.step hb)
            replace k0 := cell_of_ans hb k0
            replace k1 := cell_of_ans hb k1
            replace HBR := Lib.hid (HBR.out.trans (hb.mono HBR.out.size))
            replace HB := Lib.hid (HB.out.trans (hb.mono HB.out.size))
            clear hb
            have Hhg6 := Lib.hid hg6
            clear hg6
            go_wp2_with fail
            refine (HRE.out (t : Int) A6 c6 _ Hhg6.out ⟨hc61, hc62⟩).mono ?_
            rw [HN1.out]
            rintro e x8 ⟨A7, c7, rfl, ⟨hi7, hc71, hc72⟩, hb⟩
            replace HL := Lib.hid (HL.out.step hb)
            replace HX := Lib.hid (HX.out.step hb)
            replace k0 := cell_of_ans hb k0
            replace k1 := cell_of_ans hb k1
            replace HBR := Lib.hid (HBR.out.trans (hb.mono HBR.out.size))
            replace Hhg6 := Lib.hid (Hhg6.out.step hb)
            replace HB := Lib.hid (HB.out.trans (hb.mono HB.out.size))
            clear hb
            have Hhi7 := Lib.hid hi7
            clear hi7
            clear Hhg6
            generalize reasonL l (t : Int) = rs at *
            go_wp2_with fail
            refine (HLG.out _ HL.out).mono ?_
            rintro e x9 ⟨A8, c8, rfl, ⟨hg8, hc81, hc82⟩, hb⟩
            replace HL := Lib.hid (HL.out.step hb)
            replace HX := Lib.hid (HX.out.step hb)
            replace k0 := cell_of_ans hb k0
            replace k1 := cell_of_ans hb k1
            replace HBR := Lib.hid (HBR.out.trans (hb.mono HBR.out.size))
            replace Hhi7 := Lib.hid (Hhi7.out.step hb)
            replace HB := Lib.hid (HB.out.trans (hb.mono HB.out.size))
            clear hb
            have Hhg8 := Lib.hid hg8
            clear hg8
            go_wp2_with fail
            refine (list39_c A7 rs c7 _ Hhi7.out (by omega)).mono ?_
            rintro e x10 ⟨A9, c9, rfl, ho9, hb⟩
            replace HL := Lib.hid (HL.out.step hb)
            replace HX := Lib.hid (HX.out.step hb)
            replace k0 := cell_of_ans hb k0
            replace k1 := cell_of_ans hb k1
            replace HBR := Lib.hid (HBR.out.trans (hb.mono HBR.out.size))
            replace Hhi7 := Lib.hid (Hhi7.out.step hb)
            replace Hhg8 := Lib.hid (Hhg8.out.step hb)
            replace HB := Lib.hid (HB.out.trans (hb.mono HB.out.size))
            clear hb
            obtain ⟨A10, c10, e10, hi1, hi2, hi9⟩ := ho9.isInts
            injection e10 with e11 e12 e13
            subst e11 e13
            clear ho9 e12
            have Hhi9 := Lib.hid hi9
            clear hi9
            clear Hhi7
            go_wp2_with fail
            refine (HOU.out (t : Int) A8 A9 c8 c9 rs _ Hhg8.out ⟨hc81, hc82⟩ Hhi9.out ⟨hi1, hi2⟩ (by omega)).mono ?_
            rw [HN2.out]
            rintro e x11 ⟨rfl, hb⟩
            replace HL := Lib.hid (HL.out.step hb)
            replace HX := Lib.hid (HX.out.step hb)
            replace k0 := cell_of_ans hb k0
            replace k1 := cell_of_ans hb k1
            replace HBR := Lib.hid (HBR.out.trans (hb.mono HBR.out.size))
            replace Hhg8 := Lib.hid (Hhg8.out.step hb)
            replace Hhi9 := Lib.hid (Hhi9.out.step hb)
            replace HB := Lib.hid (HB.out.trans (hb.mono HB.out.size))
            clear hb
            go_wp2_with fail
            go_roundw
            case rel => exact ⟨t + 1, by omega, by go_num, HBR.out⟩
            case measure => simp [intOf]; omega
          · have HN1 := Lib.hid (HG.out.yes hca).1
            have HN2 := Lib.hid (HG.out.yes hca).2.1
            have HN3 := Lib.hid (HG.out.yes hca).2.2
            have HCN := Lib.hid hca
            clear hca
            go_wp2_with fail
            refine (HLG.out _ HL.out).mono ?_
            rintro e x12 ⟨A4, c4, rfl, ⟨hg4, hc41, hc42⟩, hb⟩
            replace HL := Lib.hid (HL.out.step hb)
            replace HX := Lib.hid (HX.out.step hb)
            replace k0 := cell_of_ans hb k0
            replace k1 := cell_of_ans hb k1
            replace HBR := Lib.hid (HBR.out.trans (hb.mono HBR.out.size))
            replace HB := Lib.hid (HB.out.trans (hb.mono HB.out.size))
            clear hb
            have Hhg4 := Lib.hid hg4
            clear hg4
            go_wp2_with fail
            refine (HSH.out t HAS.out A4 c4 _ Hhg4.out ⟨hc41, hc42⟩).mono ?_
            rintro e y1 ⟨hb, hp⟩
            clear Hhg4
            replace HL := Lib.hid (HL.out.step hb)
            replace HX := Lib.hid (HX.out.step hb)
            replace k0 := cell_of_ans hb k0
            replace k1 := cell_of_ans hb k1
            replace HBR := Lib.hid (HBR.out.trans (hb.mono HBR.out.size))
            replace HB := Lib.hid (HB.out.trans (hb.mono HB.out.size))
            clear hb
            obtain ⟨os, A5, c5, rfl, hol2, hob, hfi, ⟨hr5, hc5, hb5⟩⟩ : ∃ (os : List Int) (A5 : Option Addr) (c5 : Nat), e = .returned (.tuple #[.slice A5 (opensL l.games).length c5, .int .i64 0]) ∧ os.length = (opensL l.games).length ∧ outsB l os = true ∧ firstB ((List.range T).map (aftF l os)) t = true ∧ ((∀ k, k < os.length → 0 ≤ ix os k ∧ ix os k ≤ 255) ∧ ((opensL l.games).length ≤ c5 ∧ c5 ≤ 9223372036854775807) ∧ Byts y1.heap.size y1 A5 os) := by
              rcases hp with ⟨-, h⟩ | ⟨s, A5, c5, he, h2, h3, h4⟩
              · rw [HCN.out] at h
                cases h
              · obtain ⟨f1, f2, f3⟩ := HG.out.first s h2 h3
                have hTT : l.teams.toNat = T := by have := HTI.out; omega
                rw [hTT] at f3
                have hr : ∀ k, k < (outsF s (opensL l.games).length).length → 0 ≤ ix (outsF s (opensL l.games).length) k ∧ ix (outsF s (opensL l.games).length) k ≤ 255 := fun k hk => by
                  rw [outsF_len] at hk
                  rw [outsF_ix s hk]
                  have := h2.rg k hk
                  omega
                obtain ⟨p1, p2, p3⟩ := h4.parts hr
                rw [outsF_len] at p1
                exact ⟨_, A5, c5, he, outsF_len s _, f2, f3, hr, ⟨p1, p2⟩, p3⟩
            have HOL := Lib.hid hol2
            have HOB := Lib.hid hob
            have HFI := Lib.hid hfi
            have HR5 := Lib.hid hr5
            have HB5 := Lib.hid hb5
            have hos : (opensL l.games).length ≤ 20 := by omega
            clear hp hol2 hob hfi hr5 hb5 HCN HG HSH
            go_wp2_with fail
            refine (HLG.out _ HL.out).mono ?_
            rintro e x13 ⟨A6, c6, rfl, ⟨hg6, hc61, hc62⟩, hb⟩
            replace HL := Lib.hid (HL.out.step hb)
            replace HX := Lib.hid (HX.out.step hb)
            replace k0 := cell_of_ans hb k0
            replace k1 := cell_of_ans hb k1
            replace HBR := Lib.hid (HBR.out.trans (hb.mono HBR.out.size))
            replace HB5 := Lib.hid (HB5.out.step hb)
            replace HB := Lib.hid (HB.out.trans (hb.mono HB.out.size))
            clear hb
            have Hhg6 := Lib.hid hg6
            clear hg6
            go_wp2_with fail
            refine (HRE.out (t : Int) A6 c6 _ Hhg6.out ⟨hc61, hc62⟩).mono ?_
            rw [HN2.out]
            rintro e x14 ⟨A7, c7, rfl, ⟨hi7, hc71, hc72⟩, hb⟩
            replace HL := Lib.hid (HL.out.step hb)
            replace HX := Lib.hid (HX.out.step hb)
            replace k0 := cell_of_ans hb k0
            replace k1 := cell_of_ans hb k1
            replace HBR := Lib.hid (HBR.out.trans (hb.mono HBR.out.size))
            replace HB5 := Lib.hid (HB5.out.step hb)
            replace Hhg6 := Lib.hid (Hhg6.out.step hb)
            replace HB := Lib.hid (HB.out.trans (hb.mono HB.out.size))
            clear hb
            have Hhi7 := Lib.hid hi7
            clear hi7
            clear Hhg6
            generalize reasonL l (t : Int) = rs at *
            go_wp2_with fail
            refine (HLG.out _ HL.out).mono ?_
            rintro e x15 ⟨A8, c8, rfl, ⟨hg8, hc81, hc82⟩, hb⟩
            replace HL := Lib.hid (HL.out.step hb)
            replace HX := Lib.hid (HX.out.step hb)
            replace k0 := cell_of_ans hb k0
            replace k1 := cell_of_ans hb k1
            replace HBR := Lib.hid (HBR.out.trans (hb.mono HBR.out.size))
            replace HB5 := Lib.hid (HB5.out.step hb)
            replace Hhi7 := Lib.hid (Hhi7.out.step hb)
            replace HB := Lib.hid (HB.out.trans (hb.mono HB.out.size))
            clear hb
            have Hhg8 := Lib.hid hg8
            clear hg8
            have HCO : Hid (∀ W : World, Byts W.heap.size W A5 os → Calls Try.prog 20 #[.slice A5 (opensL l.games).length c5] W (NewU W os)) := fun W h => by
              have h := codes20_c A5 os c5 W h (by rw [HOL.out]; omega)
              rw [HOL.out] at h
              exact h
            go_wp2_with fail
            refine (HCO.out _ HB5.out).mono ?_
            rintro e x16 ⟨A9, c9, rfl, ho9, hb⟩
            replace HL := Lib.hid (HL.out.step hb)
            replace HX := Lib.hid (HX.out.step hb)
            replace k0 := cell_of_ans hb k0
            replace k1 := cell_of_ans hb k1
            replace HBR := Lib.hid (HBR.out.trans (hb.mono HBR.out.size))
            replace HB5 := Lib.hid (HB5.out.step hb)
            replace Hhi7 := Lib.hid (Hhi7.out.step hb)
            replace Hhg8 := Lib.hid (Hhg8.out.step hb)
            replace HB := Lib.hid (HB.out.trans (hb.mono HB.out.size))
            clear hb
            obtain ⟨hu1, hu2, hby⟩ := ho9.parts HR5.out
            have Hhby := Lib.hid hby
            clear hby ho9
            go_wp2_with fail
            refine (HAF.out os HOB.out HOL.out A8 A9 c8 c9 _ Hhg8.out ⟨hc81, hc82⟩ Hhby.out ⟨hu1, hu2⟩).mono ?_
            rintro e x17 ⟨A10, c10, rfl, ⟨hi10, hc101, hc102⟩, hb⟩
            replace HL := Lib.hid (HL.out.step hb)
            replace HX := Lib.hid (HX.out.step hb)
            replace k0 := cell_of_ans hb k0
            replace k1 := cell_of_ans hb k1
            replace HBR := Lib.hid (HBR.out.trans (hb.mono HBR.out.size))
            replace HB5 := Lib.hid (HB5.out.step hb)
            replace Hhi7 := Lib.hid (Hhi7.out.step hb)
            replace Hhg8 := Lib.hid (Hhg8.out.step hb)
            replace Hhby := Lib.hid (Hhby.out.step hb)
            replace HB := Lib.hid (HB.out.trans (hb.mono HB.out.size))
            clear hb
            have Hhi10 := Lib.hid hi10
            clear hi10
            clear Hhg8 Hhby
            have hpl : ((List.range T).map (aftF l os)).length = T := by simp
            have HPL := Lib.hid hpl
            have HF := Lib.hid (fun (W : World) (h : Ints W.heap.size W A10 ((List.range T).map (aftF l os))) => by
              have h := first45_c A10 ((List.range T).map (aftF l os)) c10 t W h ⟨hc101, hc102⟩ (by rw [HPL.out]; exact h1)
              rw [HFI.out] at h
              exact h)
            have q0 : ((((List.range T).map (aftF l os)).length : Int) != l.teams) = false := by rw [HPL.out]; simp [bne]; have := HTI.out; omega
            clear hpl HPL HFI HAF HOB
            generalize (List.range T).map (aftF l os) = ps at *
            go_wp2_with fail
            refine (HF.out _ Hhi10.out).mono ?_
            rintro e x18 ⟨rfl, hb⟩
            replace HL := Lib.hid (HL.out.step hb)
            replace HX := Lib.hid (HX.out.step hb)
            replace k0 := cell_of_ans hb k0
            replace k1 := cell_of_ans hb k1
            replace HBR := Lib.hid (HBR.out.trans (hb.mono HBR.out.size))
            replace HB5 := Lib.hid (HB5.out.step hb)
            replace Hhi7 := Lib.hid (Hhi7.out.step hb)
            replace Hhi10 := Lib.hid (Hhi10.out.step hb)
            replace HB := Lib.hid (HB.out.trans (hb.mono HB.out.size))
            clear hb
            clear Hhi10
            go_wp2_with fail
            refine (HLG.out _ HL.out).mono ?_
            rintro e x19 ⟨A11, c11, rfl, ⟨hg11, hc111, hc112⟩, hb⟩
            replace HL := Lib.hid (HL.out.step hb)
            replace HX := Lib.hid (HX.out.step hb)
            replace k0 := cell_of_ans hb k0
            replace k1 := cell_of_ans hb k1
            replace HBR := Lib.hid (HBR.out.trans (hb.mono HBR.out.size))
            replace HB5 := Lib.hid (HB5.out.step hb)
            replace Hhi7 := Lib.hid (Hhi7.out.step hb)
            replace HB := Lib.hid (HB.out.trans (hb.mono HB.out.size))
            clear hb
            have Hhg11 := Lib.hid hg11
            clear hg11
            go_wp2_with fail
            refine (HXL.out _ HX.out).mono ?_
            rintro e x20 ⟨A12, c12, rfl, ho12, hb⟩
            replace HL := Lib.hid (HL.out.step hb)
            replace HX := Lib.hid (HX.out.step hb)
            replace k0 := cell_of_ans hb k0
            replace k1 := cell_of_ans hb k1
            replace HBR := Lib.hid (HBR.out.trans (hb.mono HBR.out.size))
            replace HB5 := Lib.hid (HB5.out.step hb)
            replace Hhi7 := Lib.hid (Hhi7.out.step hb)
            replace Hhg11 := Lib.hid (Hhg11.out.step hb)
            replace HB := Lib.hid (HB.out.trans (hb.mono HB.out.size))
            clear hb
            obtain ⟨A13, c13, e10, hi1, hi2, hi9⟩ := ho12.isInts
            injection e10 with e11 e12 e13
            subst e11 e13
            clear ho12 e12
            have Hhi9 := Lib.hid hi9
            clear hi9
            go_wp2_with fail
            refine (HOU.out (t : Int) A11 A12 c11 c12 xs _ Hhg11.out ⟨hc111, hc112⟩ Hhi9.out ⟨hi1, hi2⟩ (by omega)).mono ?_
            rw [HN3.out]
            rintro e x21 ⟨rfl, hb⟩
            replace HL := Lib.hid (HL.out.step hb)
            replace HX := Lib.hid (HX.out.step hb)
            replace k0 := cell_of_ans hb k0
            replace k1 := cell_of_ans hb k1
            replace HBR := Lib.hid (HBR.out.trans (hb.mono HBR.out.size))
            replace HB5 := Lib.hid (HB5.out.step hb)
            replace Hhi7 := Lib.hid (Hhi7.out.step hb)
            replace Hhg11 := Lib.hid (Hhg11.out.step hb)
            replace Hhi9 := Lib.hid (Hhi9.out.step hb)
            replace HB := Lib.hid (HB.out.trans (hb.mono HB.out.size))
            clear hb
            go_wp2_with fail
            go_roundw
            case rel => exact ⟨t + 1, by omega, by go_num, HBR.out⟩
            case measure => simp [intOf]; omega
        · obtain rfl : t = T := by omega
          have hti : ¬ (t : Int) < l.teams := by have := HTI.out; omega
          go_wp2_with fail
          refine (awake16_c _).mono ?_
          rintro e x22 ⟨rfl, hb⟩
          replace HL := Lib.hid (HL.out.step hb)
          replace HX := Lib.hid (HX.out.step hb)
          replace k0 := cell_of_ans hb k0
          replace k1 := cell_of_ans hb k1
          replace HBR := Lib.hid (HBR.out.trans (hb.mono HBR.out.size))
          replace HB := Lib.hid (HB.out.trans (hb.mono HB.out.size))
          clear hb
          go_wp2_with fail
          go_ret
          exact ⟨rfl, HB.out⟩
end Go.Proofs.Ytjokbffdepcpkaa
