/-
  The walk of LeagueReasons.
-/
import Derived.Test.YtjokbffdepcpkaaReasonsM
namespace Go.Proofs.Ytjokbffdepcpkaa
open Go.RowKit
set_option linter.unusedSimpArgs false
set_option linter.unusedVariables false

attribute [local go_sem] Oper.semAt_some
set_option maxRecDepth 100000 in
set_option maxHeartbeats 8000000 in
theorem reasons8_c (l : Lg) (A Ax : Option Addr) (c cx : Nat) (tm : Int) (xs : List Int) (w : World) (hl : Gms w.heap.size w A l.games) (hc : l.games.length ≤ c ∧ c ≤ 9223372036854775807) (hx : Ints w.heap.size w Ax xs) (hcx : xs.length ≤ cx ∧ cx ≤ 9223372036854775807) :
    Calls Try.prog 8 #[.agg #[.int .i64 l.teams, .slice A l.games.length c], .int .i64 tm, .slice Ax xs.length cx] w (Ans w (.bool true)) := by
  have HL := Lib.hid hl
  have HX := Lib.hid hx
  clear hl hx
  have HB := Lib.hid (Below.refl w.heap.size w)
  have hb : Below w.heap.size w (w.alloc (.cells #[.int .i64 l.teams, .slice A l.games.length c] 24)) := (Below.refl _ _).alloc (Nat.le_refl _) _
  have k0 : (w.alloc (.cells #[.int .i64 l.teams, .slice A l.games.length c] 24)).cell? ⟨w.heap.size, 0, none⟩ = some (.int .i64 l.teams) := by simp
  have k1 : (w.alloc (.cells #[.int .i64 l.teams, .slice A l.games.length c] 24)).cell? ⟨w.heap.size, 1, none⟩ = some (.slice A l.games.length c) := by simp
  replace HL := Lib.hid (HL.out.step hb)
  replace HX := Lib.hid (HX.out.step hb)
  replace HB := Lib.hid (HB.out.trans (hb.mono HB.out.size))
  clear hb
  have HTH := Lib.hid (fun W => thin15_c l A c W)
  cases ht : thinG l.games.length
  · rw [ht] at HTH
    clear ht
    go_enter Try.func8, Try.ntmps8
    go_wp2_with fail
    generalize (w.alloc (.cells #[.int .i64 l.teams, .slice A l.games.length c] 24)) = x1 at *
    refine (HTH.out _).mono ?_
    rintro e x1 ⟨rfl, hb⟩
    replace HL := Lib.hid (HL.out.step hb)
    replace HX := Lib.hid (HX.out.step hb)
    replace k0 := cell_of_ans hb k0
    replace k1 := cell_of_ans hb k1
    replace HB := Lib.hid (HB.out.trans (hb.mono HB.out.size))
    clear hb
    go_wp2_with fail
    refine (awake16_c _).mono ?_
    rintro e x2 ⟨rfl, hb⟩
    replace HL := Lib.hid (HL.out.step hb)
    replace HX := Lib.hid (HX.out.step hb)
    replace k0 := cell_of_ans hb k0
    replace k1 := cell_of_ans hb k1
    replace HB := Lib.hid (HB.out.trans (hb.mono HB.out.size))
    clear hb
    go_wp2_with fail
    go_ret
    exact ⟨rfl, HB.out⟩
  · rw [ht] at HTH
    unfold thinG at ht
    have hl24 : l.games.length ≤ 24 := of_decide_eq_true ht
    clear ht
    have hn : l.games.length ≤ 1000 := by omega
    by_cases h9 : 9 < xs.length
    · have h9i : (9 : Int) < (xs.length : Int) := by omega
      go_enter Try.func8, Try.ntmps8
      go_wp2_with fail
      generalize (w.alloc (.cells #[.int .i64 l.teams, .slice A l.games.length c] 24)) = x1 at *
      refine (HTH.out _).mono ?_
      rintro e x3 ⟨rfl, hb⟩
      replace HL := Lib.hid (HL.out.step hb)
      replace HX := Lib.hid (HX.out.step hb)
      replace k0 := cell_of_ans hb k0
      replace k1 := cell_of_ans hb k1
      replace HB := Lib.hid (HB.out.trans (hb.mono HB.out.size))
      clear hb
      go_wp2_with fail
      refine (awake16_c _).mono ?_
      rintro e x4 ⟨rfl, hb⟩
      replace HL := Lib.hid (HL.out.step hb)
      replace HX := Lib.hid (HX.out.step hb)
      replace k0 := cell_of_ans hb k0
      replace k1 := cell_of_ans hb k1
      replace HB := Lib.hid (HB.out.trans (hb.mono HB.out.size))
      clear hb
      go_wp2_with fail
      go_ret
      exact ⟨rfl, HB.out⟩
    · have h9i : decide ((9 : Int) < (xs.length : Int)) = false := decide_eq_false (by omega)
      have HLG := Lib.hid (fun (W : World) (h : Gms W.heap.size W A l.games) => league18_c l A c W h hc hn)
      have HRE := Lib.hid (fun (A1 : Option Addr) (c1 : Nat) (W : World) (h : Gms W.heap.size W A1 l.games) h2 => reason37_c l tm A1 c1 W h h2)
      have HOU := Lib.hid (fun (A1 SA : Option Addr) (c1 sc : Nat) (W : World) (h : Gms W.heap.size W A1 l.games) h2 (h3 : Ints W.heap.size W SA xs) h4 => rulesOut38_c l tm A1 SA c1 sc xs W h h2 h3 h4 (by omega))
      have HXL := Lib.hid (fun (W : World) (h : Ints W.heap.size W Ax xs) => list39_c Ax xs cx W h (by omega))
      have HTM := Lib.hid (fun (W : World) (h : Gms W.heap.size W A l.games) => teamed40_c l tm A c W h hc)
      have HIN := Lib.hid (fun (rs : List Int) (W : World) (A1 A2 : Option Addr) (c1 c2 : Nat) (h1 : Ints W.heap.size W A1 rs) (h2 : Ints W.heap.size W A2 rs) h3 h4 => by
        have h := ints23_c A1 A2 rs rs c1 c2 W h1 h2 h3 h4
        rw [show eqB rs rs = true by unfold eqB; exact decide_eq_true rfl] at h
        exact h)
      by_cases ha : askedL l tm = 0
      rotate_left 1
      · have HC : Hid (outB l tm xs = false) := by show _ = _; unfold outB listB; simp [ha]
        have H1 : Hid (reasonE l tm = askedL l tm) := by show _ = _; unfold reasonE; rw [if_neg ha]
        have H2 : Hid (reasonL l tm = []) := by show _ = _; unfold reasonL; rw [if_neg ha]
        rw [HC.out] at HOU
        rw [H1.out, H2.out] at HRE
        have q1 : (askedL l tm == 0) = false := by simp [ha]
        have q2 : (askedL l tm == askedL l tm) = true := by simp
        clear HC H1 H2 ha
        generalize askedL l tm = fl at *
        go_enter Try.func8, Try.ntmps8
        go_wp2_with fail
        generalize (w.alloc (.cells #[.int .i64 l.teams, .slice A l.games.length c] 24)) = x1 at *
        refine (HTH.out _).mono ?_
        rintro e x5 ⟨rfl, hb⟩
        replace HL := Lib.hid (HL.out.step hb)
        replace HX := Lib.hid (HX.out.step hb)
        replace k0 := cell_of_ans hb k0
        replace k1 := cell_of_ans hb k1
        replace HB := Lib.hid (HB.out.trans (hb.mono HB.out.size))
        clear hb
        go_wp2_with fail
        refine (HLG.out _ HL.out).mono ?_
        rintro e x6 ⟨A4, c4, rfl, ⟨hg4, hc41, hc42⟩, hb⟩
        replace HL := Lib.hid (HL.out.step hb)
        replace HX := Lib.hid (HX.out.step hb)
        replace k0 := cell_of_ans hb k0
        replace k1 := cell_of_ans hb k1
        replace HB := Lib.hid (HB.out.trans (hb.mono HB.out.size))
        clear hb
        have Hhg4 := Lib.hid hg4
        clear hg4
        go_wp2_with fail
        refine (HRE.out A4 c4 _ Hhg4.out ⟨hc41, hc42⟩).mono ?_
        rintro e x7 ⟨A7, c7, rfl, ⟨hi7, hc71, hc72⟩, hb⟩
        replace HL := Lib.hid (HL.out.step hb)
        replace HX := Lib.hid (HX.out.step hb)
        replace k0 := cell_of_ans hb k0
        replace k1 := cell_of_ans hb k1
        replace Hhg4 := Lib.hid (Hhg4.out.step hb)
        replace HB := Lib.hid (HB.out.trans (hb.mono HB.out.size))
        clear hb
        have Hhi7 := Lib.hid hi7
        clear hi7
        clear Hhg4
        go_wp2_with fail
        refine (HLG.out _ HL.out).mono ?_
        rintro e x8 ⟨A8, c8, rfl, ⟨hg8, hc81, hc82⟩, hb⟩
        replace HL := Lib.hid (HL.out.step hb)
        replace HX := Lib.hid (HX.out.step hb)
        replace k0 := cell_of_ans hb k0
        replace k1 := cell_of_ans hb k1
        replace Hhi7 := Lib.hid (Hhi7.out.step hb)
        replace HB := Lib.hid (HB.out.trans (hb.mono HB.out.size))
        clear hb
        have Hhg8 := Lib.hid hg8
        clear hg8
        go_wp2_with fail
        refine (HXL.out _ HX.out).mono ?_
        rintro e x9 ⟨A12, c12, rfl, ho12, hb⟩
        replace HL := Lib.hid (HL.out.step hb)
        replace HX := Lib.hid (HX.out.step hb)
        replace k0 := cell_of_ans hb k0
        replace k1 := cell_of_ans hb k1
        replace Hhi7 := Lib.hid (Hhi7.out.step hb)
        replace Hhg8 := Lib.hid (Hhg8.out.step hb)
        replace HB := Lib.hid (HB.out.trans (hb.mono HB.out.size))
        clear hb
        obtain ⟨A13, c13, e10, hi1, hi2, hi9⟩ := ho12.isInts
        injection e10 with e11 e12 e13
        subst e11 e13
        clear ho12 e12
        have Hhi9 := Lib.hid hi9
        clear hi9
        go_wp2_with fail
        refine (HOU.out A8 A12 c8 c12 _ Hhg8.out ⟨hc81, hc82⟩ Hhi9.out ⟨hi1, hi2⟩).mono ?_
        rintro e x10 ⟨rfl, hb⟩
        replace HL := Lib.hid (HL.out.step hb)
        replace HX := Lib.hid (HX.out.step hb)
        replace k0 := cell_of_ans hb k0
        replace k1 := cell_of_ans hb k1
        replace Hhi7 := Lib.hid (Hhi7.out.step hb)
        replace Hhg8 := Lib.hid (Hhg8.out.step hb)
        replace Hhi9 := Lib.hid (Hhi9.out.step hb)
        replace HB := Lib.hid (HB.out.trans (hb.mono HB.out.size))
        clear hb
        clear Hhg8 Hhi9
        go_wp2_with fail
        refine (HTM.out _ HL.out).mono ?_
        rintro e x11 ⟨rfl, hb⟩
        replace HL := Lib.hid (HL.out.step hb)
        replace HX := Lib.hid (HX.out.step hb)
        replace k0 := cell_of_ans hb k0
        replace k1 := cell_of_ans hb k1
        replace Hhi7 := Lib.hid (Hhi7.out.step hb)
        replace HB := Lib.hid (HB.out.trans (hb.mono HB.out.size))
        clear hb
        go_wp2_with fail
        refine ((HIN.out [] _ A7 none c7 0 Hhi7.out (fun h => by simp at h) ⟨hc71, hc72⟩ ⟨by simp, by omega⟩).mono (fun _ _ h => h.ans)).mono ?_
        rintro e x12 ⟨rfl, hb⟩
        replace HL := Lib.hid (HL.out.step hb)
        replace HX := Lib.hid (HX.out.step hb)
        replace k0 := cell_of_ans hb k0
        replace k1 := cell_of_ans hb k1
        replace Hhi7 := Lib.hid (Hhi7.out.step hb)
        replace HB := Lib.hid (HB.out.trans (hb.mono HB.out.size))
        clear hb
        go_wp2_with fail
        refine (awake16_c _).mono ?_
        rintro e x13 ⟨rfl, hb⟩
        replace HL := Lib.hid (HL.out.step hb)
        replace HX := Lib.hid (HX.out.step hb)
        replace k0 := cell_of_ans hb k0
        replace k1 := cell_of_ans hb k1
        replace Hhi7 := Lib.hid (Hhi7.out.step hb)
        replace HB := Lib.hid (HB.out.trans (hb.mono HB.out.size))
        clear hb
        go_wp2_with fail
        go_ret
        exact ⟨rfl, HB.out⟩
      · obtain ⟨hv, p, rfl, hp⟩ := asked_zero ha
        have hT2 := hv.t2
        obtain ⟨T, hT⟩ : ∃ T : Nat, l.teams = (T : Int) := ⟨l.teams.toNat, by omega⟩
        obtain ⟨hr1, hr2⟩ := reason_ref hT hv hp
        have H4 := Lib.hid (fun (W : World) (h : Gms W.heap.size W A l.games) (h3 : Ints W.heap.size W Ax xs) => ref41_c l A Ax c cx (p : Int) xs W hv (by omega) h hc h3 hcx (by omega))
        have H5 : Hid (∀ (W : World), Gms W.heap.size W A l.games → Calls Try.prog 42 #[.agg #[.int .i64 l.teams, .slice A l.games.length c], .int .i64 (p : Int)] W (ListP W (reasonL l (p : Int)))) := fun W h => by
          have h := reason42_T l T hT A c (p : Int) W hv (by omega) h hc
          rw [hr1, ← hT] at h
          exact h
        have HC := Lib.hid (out_ref ha xs)
        have HR2 := Lib.hid hr2
        rw [HC.out] at HOU
        rw [ha] at HTM
        clear ha hv hr1 hr2 HC hT
        generalize ref41B l (p : Int) xs = rb at *
        generalize reasonL l (p : Int) = rs at *
        by_cases hz : rs.length = 0
        · have H6 : Hid (reasonE l (p : Int) = 7) := by show _ = _; rw [HR2.out, if_pos hz]
          have hzb : ((rs.length : Int) == 0) = true := by rw [beq_iff_eq]; omega
          rw [H6.out] at HRE
          clear H6 HR2 hz
          cases rb
          · go_enter Try.func8, Try.ntmps8
            go_wp2_with fail
            generalize (w.alloc (.cells #[.int .i64 l.teams, .slice A l.games.length c] 24)) = x1 at *
            refine (HTH.out _).mono ?_
            rintro e x14 ⟨rfl, hb⟩
            replace HL := Lib.hid (HL.out.step hb)
            replace HX := Lib.hid (HX.out.step hb)
            replace k0 := cell_of_ans hb k0
            replace k1 := cell_of_ans hb k1
            replace HB := Lib.hid (HB.out.trans (hb.mono HB.out.size))
            clear hb
            go_wp2_with fail
            refine (HLG.out _ HL.out).mono ?_
            rintro e x15 ⟨A4, c4, rfl, ⟨hg4, hc41, hc42⟩, hb⟩
            replace HL := Lib.hid (HL.out.step hb)
            replace HX := Lib.hid (HX.out.step hb)
            replace k0 := cell_of_ans hb k0
            replace k1 := cell_of_ans hb k1
            replace HB := Lib.hid (HB.out.trans (hb.mono HB.out.size))
            clear hb
            have Hhg4 := Lib.hid hg4
            clear hg4
            go_wp2_with fail
            refine (HRE.out A4 c4 _ Hhg4.out ⟨hc41, hc42⟩).mono ?_
            rintro e x16 ⟨A7, c7, rfl, ⟨hi7, hc71, hc72⟩, hb⟩
            replace HL := Lib.hid (HL.out.step hb)
            replace HX := Lib.hid (HX.out.step hb)
            replace k0 := cell_of_ans hb k0
            replace k1 := cell_of_ans hb k1
            replace Hhg4 := Lib.hid (Hhg4.out.step hb)
            replace HB := Lib.hid (HB.out.trans (hb.mono HB.out.size))
            clear hb
            have Hhi7 := Lib.hid hi7
            clear hi7
            clear Hhg4
            go_wp2_with fail
            refine (HLG.out _ HL.out).mono ?_
            rintro e x17 ⟨A8, c8, rfl, ⟨hg8, hc81, hc82⟩, hb⟩
            replace HL := Lib.hid (HL.out.step hb)
            replace HX := Lib.hid (HX.out.step hb)
            replace k0 := cell_of_ans hb k0
            replace k1 := cell_of_ans hb k1
            replace Hhi7 := Lib.hid (Hhi7.out.step hb)
            replace HB := Lib.hid (HB.out.trans (hb.mono HB.out.size))
            clear hb
            have Hhg8 := Lib.hid hg8
            clear hg8
            go_wp2_with fail
            refine (HXL.out _ HX.out).mono ?_
            rintro e x18 ⟨A12, c12, rfl, ho12, hb⟩
            replace HL := Lib.hid (HL.out.step hb)
            replace HX := Lib.hid (HX.out.step hb)
            replace k0 := cell_of_ans hb k0
            replace k1 := cell_of_ans hb k1
            replace Hhi7 := Lib.hid (Hhi7.out.step hb)
            replace Hhg8 := Lib.hid (Hhg8.out.step hb)
            replace HB := Lib.hid (HB.out.trans (hb.mono HB.out.size))
            clear hb
            obtain ⟨A13, c13, e10, hi1, hi2, hi9⟩ := ho12.isInts
            injection e10 with e11 e12 e13
            subst e11 e13
            clear ho12 e12
            have Hhi9 := Lib.hid hi9
            clear hi9
            go_wp2_with fail
            refine (HOU.out A8 A12 c8 c12 _ Hhg8.out ⟨hc81, hc82⟩ Hhi9.out ⟨hi1, hi2⟩).mono ?_
            rintro e x19 ⟨rfl, hb⟩
            replace HL := Lib.hid (HL.out.step hb)
            replace HX := Lib.hid (HX.out.step hb)
            replace k0 := cell_of_ans hb k0
            replace k1 := cell_of_ans hb k1
            replace Hhi7 := Lib.hid (Hhi7.out.step hb)
            replace Hhg8 := Lib.hid (Hhg8.out.step hb)
            replace Hhi9 := Lib.hid (Hhi9.out.step hb)
            replace HB := Lib.hid (HB.out.trans (hb.mono HB.out.size))
            clear hb
            clear Hhg8 Hhi9
            go_wp2_with fail
            refine (HTM.out _ HL.out).mono ?_
            rintro e x20 ⟨rfl, hb⟩
            replace HL := Lib.hid (HL.out.step hb)
            replace HX := Lib.hid (HX.out.step hb)
            replace k0 := cell_of_ans hb k0
            replace k1 := cell_of_ans hb k1
            replace Hhi7 := Lib.hid (Hhi7.out.step hb)
            replace HB := Lib.hid (HB.out.trans (hb.mono HB.out.size))
            clear hb
            go_wp2_with fail
            refine (H4.out _ HL.out HX.out).mono ?_
            rintro e x21 ⟨rfl, hb⟩
            replace HL := Lib.hid (HL.out.step hb)
            replace HX := Lib.hid (HX.out.step hb)
            replace k0 := cell_of_ans hb k0
            replace k1 := cell_of_ans hb k1
            replace Hhi7 := Lib.hid (Hhi7.out.step hb)
            replace HB := Lib.hid (HB.out.trans (hb.mono HB.out.size))
            clear hb
            go_wp2_with fail
            refine (H5.out _ HL.out).mono ?_
            rintro e x22 ⟨A14, c14, rfl, ⟨hi14, hc141, hc142⟩, hb⟩
            replace HL := Lib.hid (HL.out.step hb)
            replace HX := Lib.hid (HX.out.step hb)
            replace k0 := cell_of_ans hb k0
            replace k1 := cell_of_ans hb k1
            replace Hhi7 := Lib.hid (Hhi7.out.step hb)
            replace HB := Lib.hid (HB.out.trans (hb.mono HB.out.size))
            clear hb
            have Hhi14 := Lib.hid hi14
            clear hi14
            go_wp2_with fail
            refine ((HIN.out rs _ A7 A14 c7 c14 Hhi7.out Hhi14.out ⟨hc71, hc72⟩ ⟨hc141, hc142⟩).mono (fun _ _ h => h.ans)).mono ?_
            rintro e x23 ⟨rfl, hb⟩
            replace HL := Lib.hid (HL.out.step hb)
            replace HX := Lib.hid (HX.out.step hb)
            replace k0 := cell_of_ans hb k0
            replace k1 := cell_of_ans hb k1
            replace Hhi7 := Lib.hid (Hhi7.out.step hb)
            replace Hhi14 := Lib.hid (Hhi14.out.step hb)
            replace HB := Lib.hid (HB.out.trans (hb.mono HB.out.size))
            clear hb
            go_wp2_with fail
            refine (awake16_c _).mono ?_
            rintro e x24 ⟨rfl, hb⟩
            replace HL := Lib.hid (HL.out.step hb)
            replace HX := Lib.hid (HX.out.step hb)
            replace k0 := cell_of_ans hb k0
            replace k1 := cell_of_ans hb k1
            replace Hhi7 := Lib.hid (Hhi7.out.step hb)
            replace Hhi14 := Lib.hid (Hhi14.out.step hb)
            replace HB := Lib.hid (HB.out.trans (hb.mono HB.out.size))
            clear hb
            go_wp2_with fail
            go_ret
            exact ⟨rfl, HB.out⟩
          · go_enter Try.func8, Try.ntmps8
            go_wp2_with fail
            generalize (w.alloc (.cells #[.int .i64 l.teams, .slice A l.games.length c] 24)) = x1 at *
            refine (HTH.out _).mono ?_
            rintro e x25 ⟨rfl, hb⟩
            replace HL := Lib.hid (HL.out.step hb)
            replace HX := Lib.hid (HX.out.step hb)
            replace k0 := cell_of_ans hb k0
            replace k1 := cell_of_ans hb k1
            replace HB := Lib.hid (HB.out.trans (hb.mono HB.out.size))
            clear hb
            go_wp2_with fail
            refine (HLG.out _ HL.out).mono ?_
            rintro e x26 ⟨A4, c4, rfl, ⟨hg4, hc41, hc42⟩, hb⟩
            replace HL := Lib.hid (HL.out.step hb)
            replace HX := Lib.hid (HX.out.step hb)
            replace k0 := cell_of_ans hb k0
            replace k1 := cell_of_ans hb k1
            replace HB := Lib.hid (HB.out.trans (hb.mono HB.out.size))
            clear hb
            have Hhg4 := Lib.hid hg4
            clear hg4
            go_wp2_with fail
            refine (HRE.out A4 c4 _ Hhg4.out ⟨hc41, hc42⟩).mono ?_
            rintro e x27 ⟨A7, c7, rfl, ⟨hi7, hc71, hc72⟩, hb⟩
            replace HL := Lib.hid (HL.out.step hb)
            replace HX := Lib.hid (HX.out.step hb)
            replace k0 := cell_of_ans hb k0
            replace k1 := cell_of_ans hb k1
            replace Hhg4 := Lib.hid (Hhg4.out.step hb)
            replace HB := Lib.hid (HB.out.trans (hb.mono HB.out.size))
            clear hb
            have Hhi7 := Lib.hid hi7
            clear hi7
            clear Hhg4
            go_wp2_with fail
            refine (HLG.out _ HL.out).mono ?_
            rintro e x28 ⟨A8, c8, rfl, ⟨hg8, hc81, hc82⟩, hb⟩
            replace HL := Lib.hid (HL.out.step hb)
            replace HX := Lib.hid (HX.out.step hb)
            replace k0 := cell_of_ans hb k0
            replace k1 := cell_of_ans hb k1
            replace Hhi7 := Lib.hid (Hhi7.out.step hb)
            replace HB := Lib.hid (HB.out.trans (hb.mono HB.out.size))
            clear hb
            have Hhg8 := Lib.hid hg8
            clear hg8
            go_wp2_with fail
            refine (HXL.out _ HX.out).mono ?_
            rintro e x29 ⟨A12, c12, rfl, ho12, hb⟩
            replace HL := Lib.hid (HL.out.step hb)
            replace HX := Lib.hid (HX.out.step hb)
            replace k0 := cell_of_ans hb k0
            replace k1 := cell_of_ans hb k1
            replace Hhi7 := Lib.hid (Hhi7.out.step hb)
            replace Hhg8 := Lib.hid (Hhg8.out.step hb)
            replace HB := Lib.hid (HB.out.trans (hb.mono HB.out.size))
            clear hb
            obtain ⟨A13, c13, e10, hi1, hi2, hi9⟩ := ho12.isInts
            injection e10 with e11 e12 e13
            subst e11 e13
            clear ho12 e12
            have Hhi9 := Lib.hid hi9
            clear hi9
            go_wp2_with fail
            refine (HOU.out A8 A12 c8 c12 _ Hhg8.out ⟨hc81, hc82⟩ Hhi9.out ⟨hi1, hi2⟩).mono ?_
            rintro e x30 ⟨rfl, hb⟩
            replace HL := Lib.hid (HL.out.step hb)
            replace HX := Lib.hid (HX.out.step hb)
            replace k0 := cell_of_ans hb k0
            replace k1 := cell_of_ans hb k1
            replace Hhi7 := Lib.hid (Hhi7.out.step hb)
            replace Hhg8 := Lib.hid (Hhg8.out.step hb)
            replace Hhi9 := Lib.hid (Hhi9.out.step hb)
            replace HB := Lib.hid (HB.out.trans (hb.mono HB.out.size))
            clear hb
            clear Hhg8 Hhi9
            go_wp2_with fail
            refine (HTM.out _ HL.out).mono ?_
            rintro e x31 ⟨rfl, hb⟩
            replace HL := Lib.hid (HL.out.step hb)
            replace HX := Lib.hid (HX.out.step hb)
            replace k0 := cell_of_ans hb k0
            replace k1 := cell_of_ans hb k1
            replace Hhi7 := Lib.hid (Hhi7.out.step hb)
            replace HB := Lib.hid (HB.out.trans (hb.mono HB.out.size))
            clear hb
            go_wp2_with fail
            refine (H4.out _ HL.out HX.out).mono ?_
            rintro e x32 ⟨rfl, hb⟩
            replace HL := Lib.hid (HL.out.step hb)
            replace HX := Lib.hid (HX.out.step hb)
            replace k0 := cell_of_ans hb k0
            replace k1 := cell_of_ans hb k1
            replace Hhi7 := Lib.hid (Hhi7.out.step hb)
            replace HB := Lib.hid (HB.out.trans (hb.mono HB.out.size))
            clear hb
            go_wp2_with fail
            refine (H5.out _ HL.out).mono ?_
            rintro e x33 ⟨A14, c14, rfl, ⟨hi14, hc141, hc142⟩, hb⟩
            replace HL := Lib.hid (HL.out.step hb)
            replace HX := Lib.hid (HX.out.step hb)
            replace k0 := cell_of_ans hb k0
            replace k1 := cell_of_ans hb k1
            replace Hhi7 := Lib.hid (Hhi7.out.step hb)
            replace HB := Lib.hid (HB.out.trans (hb.mono HB.out.size))
            clear hb
            have Hhi14 := Lib.hid hi14
            clear hi14
            go_wp2_with fail
            refine ((HIN.out rs _ A7 A14 c7 c14 Hhi7.out Hhi14.out ⟨hc71, hc72⟩ ⟨hc141, hc142⟩).mono (fun _ _ h => h.ans)).mono ?_
            rintro e x34 ⟨rfl, hb⟩
            replace HL := Lib.hid (HL.out.step hb)
            replace HX := Lib.hid (HX.out.step hb)
            replace k0 := cell_of_ans hb k0
            replace k1 := cell_of_ans hb k1
            replace Hhi7 := Lib.hid (Hhi7.out.step hb)
            replace Hhi14 := Lib.hid (Hhi14.out.step hb)
            replace HB := Lib.hid (HB.out.trans (hb.mono HB.out.size))
            clear hb
            go_wp2_with fail
            refine (awake16_c _).mono ?_
            rintro e x35 ⟨rfl, hb⟩
            replace HL := Lib.hid (HL.out.step hb)
            replace HX := Lib.hid (HX.out.step hb)
            replace k0 := cell_of_ans hb k0
            replace k1 := cell_of_ans hb k1
            replace Hhi7 := Lib.hid (Hhi7.out.step hb)
            replace Hhi14 := Lib.hid (Hhi14.out.step hb)
            replace HB := Lib.hid (HB.out.trans (hb.mono HB.out.size))
            clear hb
            go_wp2_with fail
            go_ret
            exact ⟨rfl, HB.out⟩
        · have H6 : Hid (reasonE l (p : Int) = 0) := by show _ = _; rw [HR2.out, if_neg hz]
          have hzb : ((rs.length : Int) == 0) = false := by rw [beq_eq_false_iff_ne]; omega
          rw [H6.out] at HRE
          clear H6 HR2 hz
          cases rb
          · go_enter Try.func8, Try.ntmps8
            go_wp2_with fail
            generalize (w.alloc (.cells #[.int .i64 l.teams, .slice A l.games.length c] 24)) = x1 at *
            refine (HTH.out _).mono ?_
            rintro e x36 ⟨rfl, hb⟩
            replace HL := Lib.hid (HL.out.step hb)
            replace HX := Lib.hid (HX.out.step hb)
            replace k0 := cell_of_ans hb k0
            replace k1 := cell_of_ans hb k1
            replace HB := Lib.hid (HB.out.trans (hb.mono HB.out.size))
            clear hb
            go_wp2_with fail
            refine (HLG.out _ HL.out).mono ?_
            rintro e x37 ⟨A4, c4, rfl, ⟨hg4, hc41, hc42⟩, hb⟩
            replace HL := Lib.hid (HL.out.step hb)
            replace HX := Lib.hid (HX.out.step hb)
            replace k0 := cell_of_ans hb k0
            replace k1 := cell_of_ans hb k1
            replace HB := Lib.hid (HB.out.trans (hb.mono HB.out.size))
            clear hb
            have Hhg4 := Lib.hid hg4
            clear hg4
            go_wp2_with fail
            refine (HRE.out A4 c4 _ Hhg4.out ⟨hc41, hc42⟩).mono ?_
            rintro e x38 ⟨A7, c7, rfl, ⟨hi7, hc71, hc72⟩, hb⟩
            replace HL := Lib.hid (HL.out.step hb)
            replace HX := Lib.hid (HX.out.step hb)
            replace k0 := cell_of_ans hb k0
            replace k1 := cell_of_ans hb k1
            replace Hhg4 := Lib.hid (Hhg4.out.step hb)
            replace HB := Lib.hid (HB.out.trans (hb.mono HB.out.size))
            clear hb
            have Hhi7 := Lib.hid hi7
            clear hi7
            clear Hhg4
            go_wp2_with fail
            refine (HLG.out _ HL.out).mono ?_
            rintro e x39 ⟨A8, c8, rfl, ⟨hg8, hc81, hc82⟩, hb⟩
            replace HL := Lib.hid (HL.out.step hb)
            replace HX := Lib.hid (HX.out.step hb)
            replace k0 := cell_of_ans hb k0
            replace k1 := cell_of_ans hb k1
            replace Hhi7 := Lib.hid (Hhi7.out.step hb)
            replace HB := Lib.hid (HB.out.trans (hb.mono HB.out.size))
            clear hb
            have Hhg8 := Lib.hid hg8
            clear hg8
            go_wp2_with fail
            refine (HXL.out _ HX.out).mono ?_
            rintro e x40 ⟨A12, c12, rfl, ho12, hb⟩
            replace HL := Lib.hid (HL.out.step hb)
            replace HX := Lib.hid (HX.out.step hb)
            replace k0 := cell_of_ans hb k0
            replace k1 := cell_of_ans hb k1
            replace Hhi7 := Lib.hid (Hhi7.out.step hb)
            replace Hhg8 := Lib.hid (Hhg8.out.step hb)
            replace HB := Lib.hid (HB.out.trans (hb.mono HB.out.size))
            clear hb
            obtain ⟨A13, c13, e10, hi1, hi2, hi9⟩ := ho12.isInts
            injection e10 with e11 e12 e13
            subst e11 e13
            clear ho12 e12
            have Hhi9 := Lib.hid hi9
            clear hi9
            go_wp2_with fail
            refine (HOU.out A8 A12 c8 c12 _ Hhg8.out ⟨hc81, hc82⟩ Hhi9.out ⟨hi1, hi2⟩).mono ?_
            rintro e x41 ⟨rfl, hb⟩
            replace HL := Lib.hid (HL.out.step hb)
            replace HX := Lib.hid (HX.out.step hb)
            replace k0 := cell_of_ans hb k0
            replace k1 := cell_of_ans hb k1
            replace Hhi7 := Lib.hid (Hhi7.out.step hb)
            replace Hhg8 := Lib.hid (Hhg8.out.step hb)
            replace Hhi9 := Lib.hid (Hhi9.out.step hb)
            replace HB := Lib.hid (HB.out.trans (hb.mono HB.out.size))
            clear hb
            clear Hhg8 Hhi9
            go_wp2_with fail
            refine (HTM.out _ HL.out).mono ?_
            rintro e x42 ⟨rfl, hb⟩
            replace HL := Lib.hid (HL.out.step hb)
            replace HX := Lib.hid (HX.out.step hb)
            replace k0 := cell_of_ans hb k0
            replace k1 := cell_of_ans hb k1
            replace Hhi7 := Lib.hid (Hhi7.out.step hb)
            replace HB := Lib.hid (HB.out.trans (hb.mono HB.out.size))
            clear hb
            go_wp2_with fail
            refine (H4.out _ HL.out HX.out).mono ?_
            rintro e x43 ⟨rfl, hb⟩
            replace HL := Lib.hid (HL.out.step hb)
            replace HX := Lib.hid (HX.out.step hb)
            replace k0 := cell_of_ans hb k0
            replace k1 := cell_of_ans hb k1
            replace Hhi7 := Lib.hid (Hhi7.out.step hb)
            replace HB := Lib.hid (HB.out.trans (hb.mono HB.out.size))
            clear hb
            go_wp2_with fail
            refine (H5.out _ HL.out).mono ?_
            rintro e x44 ⟨A14, c14, rfl, ⟨hi14, hc141, hc142⟩, hb⟩
            replace HL := Lib.hid (HL.out.step hb)
            replace HX := Lib.hid (HX.out.step hb)
            replace k0 := cell_of_ans hb k0
            replace k1 := cell_of_ans hb k1
            replace Hhi7 := Lib.hid (Hhi7.out.step hb)
            replace HB := Lib.hid (HB.out.trans (hb.mono HB.out.size))
            clear hb
            have Hhi14 := Lib.hid hi14
            clear hi14
            go_wp2_with fail
            refine ((HIN.out rs _ A7 A14 c7 c14 Hhi7.out Hhi14.out ⟨hc71, hc72⟩ ⟨hc141, hc142⟩).mono (fun _ _ h => h.ans)).mono ?_
            rintro e x45 ⟨rfl, hb⟩
            replace HL := Lib.hid (HL.out.step hb)
            replace HX := Lib.hid (HX.out.step hb)
            replace k0 := cell_of_ans hb k0
            replace k1 := cell_of_ans hb k1
            replace Hhi7 := Lib.hid (Hhi7.out.step hb)
            replace Hhi14 := Lib.hid (Hhi14.out.step hb)
            replace HB := Lib.hid (HB.out.trans (hb.mono HB.out.size))
            clear hb
            go_wp2_with fail
            refine (awake16_c _).mono ?_
            rintro e x46 ⟨rfl, hb⟩
            replace HL := Lib.hid (HL.out.step hb)
            replace HX := Lib.hid (HX.out.step hb)
            replace k0 := cell_of_ans hb k0
            replace k1 := cell_of_ans hb k1
            replace Hhi7 := Lib.hid (Hhi7.out.step hb)
            replace Hhi14 := Lib.hid (Hhi14.out.step hb)
            replace HB := Lib.hid (HB.out.trans (hb.mono HB.out.size))
            clear hb
            go_wp2_with fail
            go_ret
            exact ⟨rfl, HB.out⟩
          · go_enter Try.func8, Try.ntmps8
            go_wp2_with fail
            generalize (w.alloc (.cells #[.int .i64 l.teams, .slice A l.games.length c] 24)) = x1 at *
            refine (HTH.out _).mono ?_
            rintro e x47 ⟨rfl, hb⟩
            replace HL := Lib.hid (HL.out.step hb)
            replace HX := Lib.hid (HX.out.step hb)
            replace k0 := cell_of_ans hb k0
            replace k1 := cell_of_ans hb k1
            replace HB := Lib.hid (HB.out.trans (hb.mono HB.out.size))
            clear hb
            go_wp2_with fail
            refine (HLG.out _ HL.out).mono ?_
            rintro e x48 ⟨A4, c4, rfl, ⟨hg4, hc41, hc42⟩, hb⟩
            replace HL := Lib.hid (HL.out.step hb)
            replace HX := Lib.hid (HX.out.step hb)
            replace k0 := cell_of_ans hb k0
            replace k1 := cell_of_ans hb k1
            replace HB := Lib.hid (HB.out.trans (hb.mono HB.out.size))
            clear hb
            have Hhg4 := Lib.hid hg4
            clear hg4
            go_wp2_with fail
            refine (HRE.out A4 c4 _ Hhg4.out ⟨hc41, hc42⟩).mono ?_
            rintro e x49 ⟨A7, c7, rfl, ⟨hi7, hc71, hc72⟩, hb⟩
            replace HL := Lib.hid (HL.out.step hb)
            replace HX := Lib.hid (HX.out.step hb)
            replace k0 := cell_of_ans hb k0
            replace k1 := cell_of_ans hb k1
            replace Hhg4 := Lib.hid (Hhg4.out.step hb)
            replace HB := Lib.hid (HB.out.trans (hb.mono HB.out.size))
            clear hb
            have Hhi7 := Lib.hid hi7
            clear hi7
            clear Hhg4
            go_wp2_with fail
            refine (HLG.out _ HL.out).mono ?_
            rintro e x50 ⟨A8, c8, rfl, ⟨hg8, hc81, hc82⟩, hb⟩
            replace HL := Lib.hid (HL.out.step hb)
            replace HX := Lib.hid (HX.out.step hb)
            replace k0 := cell_of_ans hb k0
            replace k1 := cell_of_ans hb k1
            replace Hhi7 := Lib.hid (Hhi7.out.step hb)
            replace HB := Lib.hid (HB.out.trans (hb.mono HB.out.size))
            clear hb
            have Hhg8 := Lib.hid hg8
            clear hg8
            go_wp2_with fail
            refine (HXL.out _ HX.out).mono ?_
            rintro e x51 ⟨A12, c12, rfl, ho12, hb⟩
            replace HL := Lib.hid (HL.out.step hb)
            replace HX := Lib.hid (HX.out.step hb)
            replace k0 := cell_of_ans hb k0
            replace k1 := cell_of_ans hb k1
            replace Hhi7 := Lib.hid (Hhi7.out.step hb)
            replace Hhg8 := Lib.hid (Hhg8.out.step hb)
            replace HB := Lib.hid (HB.out.trans (hb.mono HB.out.size))
            clear hb
            obtain ⟨A13, c13, e10, hi1, hi2, hi9⟩ := ho12.isInts
            injection e10 with e11 e12 e13
            subst e11 e13
            clear ho12 e12
            have Hhi9 := Lib.hid hi9
            clear hi9
            go_wp2_with fail
            refine (HOU.out A8 A12 c8 c12 _ Hhg8.out ⟨hc81, hc82⟩ Hhi9.out ⟨hi1, hi2⟩).mono ?_
            rintro e x52 ⟨rfl, hb⟩
            replace HL := Lib.hid (HL.out.step hb)
            replace HX := Lib.hid (HX.out.step hb)
            replace k0 := cell_of_ans hb k0
            replace k1 := cell_of_ans hb k1
            replace Hhi7 := Lib.hid (Hhi7.out.step hb)
            replace Hhg8 := Lib.hid (Hhg8.out.step hb)
            replace Hhi9 := Lib.hid (Hhi9.out.step hb)
            replace HB := Lib.hid (HB.out.trans (hb.mono HB.out.size))
            clear hb
            clear Hhg8 Hhi9
            go_wp2_with fail
            refine (HTM.out _ HL.out).mono ?_
            rintro e x53 ⟨rfl, hb⟩
            replace HL := Lib.hid (HL.out.step hb)
            replace HX := Lib.hid (HX.out.step hb)
            replace k0 := cell_of_ans hb k0
            replace k1 := cell_of_ans hb k1
            replace Hhi7 := Lib.hid (Hhi7.out.step hb)
            replace HB := Lib.hid (HB.out.trans (hb.mono HB.out.size))
            clear hb
            go_wp2_with fail
            refine (H4.out _ HL.out HX.out).mono ?_
            rintro e x54 ⟨rfl, hb⟩
            replace HL := Lib.hid (HL.out.step hb)
            replace HX := Lib.hid (HX.out.step hb)
            replace k0 := cell_of_ans hb k0
            replace k1 := cell_of_ans hb k1
            replace Hhi7 := Lib.hid (Hhi7.out.step hb)
            replace HB := Lib.hid (HB.out.trans (hb.mono HB.out.size))
            clear hb
            go_wp2_with fail
            refine (H5.out _ HL.out).mono ?_
            rintro e x55 ⟨A14, c14, rfl, ⟨hi14, hc141, hc142⟩, hb⟩
            replace HL := Lib.hid (HL.out.step hb)
            replace HX := Lib.hid (HX.out.step hb)
            replace k0 := cell_of_ans hb k0
            replace k1 := cell_of_ans hb k1
            replace Hhi7 := Lib.hid (Hhi7.out.step hb)
            replace HB := Lib.hid (HB.out.trans (hb.mono HB.out.size))
            clear hb
            have Hhi14 := Lib.hid hi14
            clear hi14
            go_wp2_with fail
            refine ((HIN.out rs _ A7 A14 c7 c14 Hhi7.out Hhi14.out ⟨hc71, hc72⟩ ⟨hc141, hc142⟩).mono (fun _ _ h => h.ans)).mono ?_
            rintro e x56 ⟨rfl, hb⟩
            replace HL := Lib.hid (HL.out.step hb)
            replace HX := Lib.hid (HX.out.step hb)
            replace k0 := cell_of_ans hb k0
            replace k1 := cell_of_ans hb k1
            replace Hhi7 := Lib.hid (Hhi7.out.step hb)
            replace Hhi14 := Lib.hid (Hhi14.out.step hb)
            replace HB := Lib.hid (HB.out.trans (hb.mono HB.out.size))
            clear hb
            go_wp2_with fail
            refine (awake16_c _).mono ?_
            rintro e x57 ⟨rfl, hb⟩
            replace HL := Lib.hid (HL.out.step hb)
            replace HX := Lib.hid (HX.out.step hb)
            replace k0 := cell_of_ans hb k0
            replace k1 := cell_of_ans hb k1
            replace Hhi7 := Lib.hid (Hhi7.out.step hb)
            replace Hhi14 := Lib.hid (Hhi14.out.step hb)
            replace HB := Lib.hid (HB.out.trans (hb.mono HB.out.size))
            clear hb
            go_wp2_with fail
            go_ret
            exact ⟨rfl, HB.out⟩
end Go.Proofs.Ytjokbffdepcpkaa
