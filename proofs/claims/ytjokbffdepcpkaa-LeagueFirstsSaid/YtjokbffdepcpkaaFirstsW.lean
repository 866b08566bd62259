/-
  The walk of LeagueFirsts.
-/
import Derived.Test.YtjokbffdepcpkaaFirstsM
namespace Go.Proofs.Ytjokbffdepcpkaa
open Go.RowKit
set_option linter.unusedSimpArgs false
set_option linter.unusedVariables false

attribute [local go_sem] Oper.semAt_some
/-- A list of lists of bytes that is only read. -/
def RowsU (w : World) (v : Value) (L : List (List Int)) : Prop := Rs RdU 25 0 0 w v L
theorem RowsU.step {w w' : World} {v : Value} {L : List (List Int)} (h : RowsU w v L) (hb : Below w.heap.size w w') : RowsU w' v L := Rs.kept rdU h hb
theorem RowsU.at_ {w : World} {A : Option Addr} {n c : Nat} {L : List (List Int)} (h : RowsU w (.slice A n c) L) {k : Nat} (hk : k < L.length) : ∃ g Ai ci, A = some ⟨g, 0, none⟩ ∧ w.cell? ⟨g, k, none⟩ = some (.slice Ai (L.getD k []).length ci) ∧ ((L.getD k []).length ≤ ci ∧ ci ≤ 9223372036854775807) ∧ Byts w.heap.size w Ai (L.getD k []) := by
  obtain ⟨g, c', u, e, h1, h2, hg, hc, ⟨Ai, ci, rfl, b1, b2, b3⟩⟩ := Rs.at_ h hk
  injection e with e1 e2 e3
  rw [show L.getD k [] = L[k] by rw [List.getD_eq_getElem?_getD, List.getElem?_eq_getElem hk]; rfl]
  exact ⟨g, Ai, ci, e1, hc, ⟨b1, b2⟩, b3⟩
set_option maxRecDepth 100000 in
set_option maxHeartbeats 16000000 in
theorem firsts12_c (l : Lg) (A : Option Addr) (c : Nat) (tm : Int) (w : World) (hl : Gms w.heap.size w A l.games) (hc : l.games.length ≤ c ∧ c ≤ 9223372036854775807) :
    Calls Try.prog 12 #[.agg #[.int .i64 l.teams, .slice A l.games.length c], .int .i64 tm] w (Ans w (.bool true)) := by
  have HL := Lib.hid hl
  clear hl
  have HB := Lib.hid (Below.refl w.heap.size w)
  have hb : Below w.heap.size w (w.alloc (.cells #[.int .i64 l.teams, .slice A l.games.length c] 24)) := (Below.refl _ _).alloc (Nat.le_refl _) _
  have k0 : (w.alloc (.cells #[.int .i64 l.teams, .slice A l.games.length c] 24)).cell? ⟨w.heap.size, 0, none⟩ = some (.int .i64 l.teams) := by simp
  have k1 : (w.alloc (.cells #[.int .i64 l.teams, .slice A l.games.length c] 24)).cell? ⟨w.heap.size, 1, none⟩ = some (.slice A l.games.length c) := by simp
  replace HL := Lib.hid (HL.out.step hb)
  replace HB := Lib.hid (HB.out.trans (hb.mono HB.out.size))
  clear hb
  have HTH := Lib.hid (fun W => thin15_c l A c W)
  cases ht : thinG l.games.length
  · rw [ht] at HTH
    clear ht
    go_enter Try.func12, Try.ntmps12
    go_wp2_with fail
    generalize (w.alloc (.cells #[.int .i64 l.teams, .slice A l.games.length c] 24)) = x1 at *
    refine (HTH.out _).mono ?_
    rintro e x1 ⟨rfl, hb⟩
    replace HL := Lib.hid (HL.out.step hb)
    replace k0 := cell_of_ans hb k0
    replace k1 := cell_of_ans hb k1
    replace HB := Lib.hid (HB.out.trans (hb.mono HB.out.size))
    clear hb
    go_wp2_with fail
    refine (awake16_c _).mono ?_
    rintro e x2 ⟨rfl, hb⟩
    replace HL := Lib.hid (HL.out.step hb)
    replace k0 := cell_of_ans hb k0
    replace k1 := cell_of_ans hb k1
    replace HB := Lib.hid (HB.out.trans (hb.mono HB.out.size))
    clear hb
    go_wp2_with fail
    go_ret
    exact ⟨rfl, HB.out⟩
  · rw [ht] at HTH
    unfold thinG at ht
    have hl24 : l.games.length ≤ 24 := of_decide_eq_true ht
    clear ht
    have hn : l.games.length ≤ 1000 := by omega
    have hol := opens_len l.games
    have HFA := Lib.hid (fun (W : World) (h : Gms W.heap.size W A l.games) => fault21_c l A c W h hc)
    have HOP := Lib.hid (fun (W : World) (h : Gms W.heap.size W A l.games) => open26_c l A c W h hc hn)
    have HLG := Lib.hid (fun (W : World) (h : Gms W.heap.size W A l.games) => league18_c l A c W h hc hn)
    have HCA := Lib.hid (fun (A1 : Option Addr) (c1 : Nat) (W : World) (h : Gms W.heap.size W A1 l.games) h2 => can43_c l tm A1 c1 W h h2)
    have HSU := Lib.hid (fun (A1 : Option Addr) (c1 : Nat) (W : World) (h : Gms W.heap.size W A1 l.games) h2 => sure44_c l tm A1 c1 W h h2)
    have HTM := Lib.hid (fun (W : World) (h : Gms W.heap.size W A l.games) => teamed40_c l tm A c W h hc)
    by_cases hf : faultL l = 0
    rotate_left 1
    · have ha : askedL l tm ≠ 0 := by unfold askedL; rw [if_neg hf]; exact hf
      have q1 : (faultL l == 0) = false := by simp [hf]
      clear hf
      generalize faultL l = ff at HFA q1
      have H1 : Hid (canL l tm = false) := by show _ = _; unfold canL; simp [ha]
      have H2 : Hid (sureL l tm = false) := by show _ = _; unfold sureL; simp [ha]
      have HSH := Lib.hid (fun (A1 : Option Addr) (c1 : Nat) (W : World) (h : Gms W.heap.size W A1 l.games) h2 => shows47_bad l tm A1 c1 W h h2 ha)
      rw [H1.out] at HCA
      rw [H2.out] at HSU
      have qa1 : (askedL l tm != 0) = true := by simp [ha]
      have qa2 : (askedL l tm == askedL l tm) = true := by simp
      clear H1 H2 ha
      generalize askedL l tm = fl at *
      go_enter Try.func12, Try.ntmps12
      go_wp2_with fail
      generalize (w.alloc (.cells #[.int .i64 l.teams, .slice A l.games.length c] 24)) = x1 at *
      refine (HTH.out _).mono ?_
      rintro e x3 ⟨rfl, hb⟩
      replace HL := Lib.hid (HL.out.step hb)
      replace k0 := cell_of_ans hb k0
      replace k1 := cell_of_ans hb k1
      replace HB := Lib.hid (HB.out.trans (hb.mono HB.out.size))
      clear hb
      go_wp2_with fail
      refine (HFA.out _ HL.out).mono ?_
      rintro e x4 ⟨rfl, hb⟩
      replace HL := Lib.hid (HL.out.step hb)
      replace k0 := cell_of_ans hb k0
      replace k1 := cell_of_ans hb k1
      replace HB := Lib.hid (HB.out.trans (hb.mono HB.out.size))
      clear hb
      go_wp2_with fail
      refine (HLG.out _ HL.out).mono ?_
      rintro e x5 ⟨A4, c4, rfl, ⟨hg4, hc41, hc42⟩, hb⟩
      replace HL := Lib.hid (HL.out.step hb)
      replace k0 := cell_of_ans hb k0
      replace k1 := cell_of_ans hb k1
      replace HB := Lib.hid (HB.out.trans (hb.mono HB.out.size))
      clear hb
      have Hhg4 := Lib.hid hg4
      clear hg4
      go_wp2_with fail
      refine (HCA.out A4 c4 _ Hhg4.out ⟨hc41, hc42⟩).mono ?_
      rintro e x6 ⟨rfl, hb⟩
      replace HL := Lib.hid (HL.out.step hb)
      replace k0 := cell_of_ans hb k0
      replace k1 := cell_of_ans hb k1
      replace Hhg4 := Lib.hid (Hhg4.out.step hb)
      replace HB := Lib.hid (HB.out.trans (hb.mono HB.out.size))
      clear hb
      clear Hhg4
      go_wp2_with fail
      refine (HLG.out _ HL.out).mono ?_
      rintro e x7 ⟨A5, c5, rfl, ⟨hg5, hc51, hc52⟩, hb⟩
      replace HL := Lib.hid (HL.out.step hb)
      replace k0 := cell_of_ans hb k0
      replace k1 := cell_of_ans hb k1
      replace HB := Lib.hid (HB.out.trans (hb.mono HB.out.size))
      clear hb
      have Hhg5 := Lib.hid hg5
      clear hg5
      go_wp2_with fail
      refine (HSU.out A5 c5 _ Hhg5.out ⟨hc51, hc52⟩).mono ?_
      rintro e x8 ⟨rfl, hb⟩
      replace HL := Lib.hid (HL.out.step hb)
      replace k0 := cell_of_ans hb k0
      replace k1 := cell_of_ans hb k1
      replace Hhg5 := Lib.hid (Hhg5.out.step hb)
      replace HB := Lib.hid (HB.out.trans (hb.mono HB.out.size))
      clear hb
      clear Hhg5
      go_wp2_with fail
      refine (HLG.out _ HL.out).mono ?_
      rintro e x9 ⟨A6, c6, rfl, ⟨hg6, hc61, hc62⟩, hb⟩
      replace HL := Lib.hid (HL.out.step hb)
      replace k0 := cell_of_ans hb k0
      replace k1 := cell_of_ans hb k1
      replace HB := Lib.hid (HB.out.trans (hb.mono HB.out.size))
      clear hb
      have Hhg6 := Lib.hid hg6
      clear hg6
      go_wp2_with fail
      refine (HSH.out A6 c6 _ Hhg6.out ⟨hc61, hc62⟩).mono ?_
      rintro e x10 ⟨rfl, hb⟩
      replace HL := Lib.hid (HL.out.step hb)
      replace k0 := cell_of_ans hb k0
      replace k1 := cell_of_ans hb k1
      replace Hhg6 := Lib.hid (Hhg6.out.step hb)
      replace HB := Lib.hid (HB.out.trans (hb.mono HB.out.size))
      clear hb
      clear Hhg6
      go_wp2_with fail
      refine (HTM.out _ HL.out).mono ?_
      rintro e x11 ⟨rfl, hb⟩
      replace HL := Lib.hid (HL.out.step hb)
      replace k0 := cell_of_ans hb k0
      replace k1 := cell_of_ans hb k1
      replace HB := Lib.hid (HB.out.trans (hb.mono HB.out.size))
      clear hb
      go_wp2_with fail
      refine (awake16_c _).mono ?_
      rintro e x12 ⟨rfl, hb⟩
      replace HL := Lib.hid (HL.out.step hb)
      replace k0 := cell_of_ans hb k0
      replace k1 := cell_of_ans hb k1
      replace HB := Lib.hid (HB.out.trans (hb.mono HB.out.size))
      clear hb
      go_wp2_with fail
      go_ret
      exact ⟨rfl, HB.out⟩
    · have hv := valid_iff.1 hf
      rw [hf] at HFA
      clear hf
      by_cases h6 : 6 < (opensL l.games).length
      · have h6i : (6 : Int) < ((opensL l.games).length : Int) := by omega
        clear hv
        go_enter Try.func12, Try.ntmps12
        go_wp2_with fail
        generalize (w.alloc (.cells #[.int .i64 l.teams, .slice A l.games.length c] 24)) = x1 at *
        refine (HTH.out _).mono ?_
        rintro e x13 ⟨rfl, hb⟩
        replace HL := Lib.hid (HL.out.step hb)
        replace k0 := cell_of_ans hb k0
        replace k1 := cell_of_ans hb k1
        replace HB := Lib.hid (HB.out.trans (hb.mono HB.out.size))
        clear hb
        go_wp2_with fail
        refine (HFA.out _ HL.out).mono ?_
        rintro e x14 ⟨rfl, hb⟩
        replace HL := Lib.hid (HL.out.step hb)
        replace k0 := cell_of_ans hb k0
        replace k1 := cell_of_ans hb k1
        replace HB := Lib.hid (HB.out.trans (hb.mono HB.out.size))
        clear hb
        go_wp2_with fail
        refine (HOP.out _ HL.out).mono ?_
        rintro e x15 ⟨rfl, hb⟩
        replace HL := Lib.hid (HL.out.step hb)
        replace k0 := cell_of_ans hb k0
        replace k1 := cell_of_ans hb k1
        replace HB := Lib.hid (HB.out.trans (hb.mono HB.out.size))
        clear hb
        go_wp2_with fail
        refine (awake16_c _).mono ?_
        rintro e x16 ⟨rfl, hb⟩
        replace HL := Lib.hid (HL.out.step hb)
        replace k0 := cell_of_ans hb k0
        replace k1 := cell_of_ans hb k1
        replace HB := Lib.hid (HB.out.trans (hb.mono HB.out.size))
        clear hb
        go_wp2_with fail
        go_ret
        exact ⟨rfl, HB.out⟩
      · have h6i : decide ((6 : Int) < ((opensL l.games).length : Int)) = false := decide_eq_false (by omega)
        by_cases ha : askedL l tm = 0
        rotate_left 1
        · clear hv
          have H1 : Hid (canL l tm = false) := by show _ = _; unfold canL; simp [ha]
          have H2 : Hid (sureL l tm = false) := by show _ = _; unfold sureL; simp [ha]
          have HSH := Lib.hid (fun (A1 : Option Addr) (c1 : Nat) (W : World) (h : Gms W.heap.size W A1 l.games) h2 => shows47_bad l tm A1 c1 W h h2 ha)
          rw [H1.out] at HCA
          rw [H2.out] at HSU
          have qa1 : (askedL l tm != 0) = true := by simp [ha]
          have qa2 : (askedL l tm == askedL l tm) = true := by simp
          clear H1 H2 ha
          generalize askedL l tm = fl at *
          go_enter Try.func12, Try.ntmps12
          go_wp2_with fail
          generalize (w.alloc (.cells #[.int .i64 l.teams, .slice A l.games.length c] 24)) = x1 at *
          refine (HTH.out _).mono ?_
          rintro e x17 ⟨rfl, hb⟩
          replace HL := Lib.hid (HL.out.step hb)
          replace k0 := cell_of_ans hb k0
          replace k1 := cell_of_ans hb k1
          replace HB := Lib.hid (HB.out.trans (hb.mono HB.out.size))
          clear hb
          go_wp2_with fail
          refine (HFA.out _ HL.out).mono ?_
          rintro e x18 ⟨rfl, hb⟩
          replace HL := Lib.hid (HL.out.step hb)
          replace k0 := cell_of_ans hb k0
          replace k1 := cell_of_ans hb k1
          replace HB := Lib.hid (HB.out.trans (hb.mono HB.out.size))
          clear hb
          go_wp2_with fail
          refine (HOP.out _ HL.out).mono ?_
          rintro e x19 ⟨rfl, hb⟩
          replace HL := Lib.hid (HL.out.step hb)
          replace k0 := cell_of_ans hb k0
          replace k1 := cell_of_ans hb k1
          replace HB := Lib.hid (HB.out.trans (hb.mono HB.out.size))
          clear hb
          go_wp2_with fail
          refine (HLG.out _ HL.out).mono ?_
          rintro e x20 ⟨A4, c4, rfl, ⟨hg4, hc41, hc42⟩, hb⟩
          replace HL := Lib.hid (HL.out.step hb)
          replace k0 := cell_of_ans hb k0
          replace k1 := cell_of_ans hb k1
          replace HB := Lib.hid (HB.out.trans (hb.mono HB.out.size))
          clear hb
          have Hhg4 := Lib.hid hg4
          clear hg4
          go_wp2_with fail
          refine (HCA.out A4 c4 _ Hhg4.out ⟨hc41, hc42⟩).mono ?_
          rintro e x21 ⟨rfl, hb⟩
          replace HL := Lib.hid (HL.out.step hb)
          replace k0 := cell_of_ans hb k0
          replace k1 := cell_of_ans hb k1
          replace Hhg4 := Lib.hid (Hhg4.out.step hb)
          replace HB := Lib.hid (HB.out.trans (hb.mono HB.out.size))
          clear hb
          clear Hhg4
          go_wp2_with fail
          refine (HLG.out _ HL.out).mono ?_
          rintro e x22 ⟨A5, c5, rfl, ⟨hg5, hc51, hc52⟩, hb⟩
          replace HL := Lib.hid (HL.out.step hb)
          replace k0 := cell_of_ans hb k0
          replace k1 := cell_of_ans hb k1
          replace HB := Lib.hid (HB.out.trans (hb.mono HB.out.size))
          clear hb
          have Hhg5 := Lib.hid hg5
          clear hg5
          go_wp2_with fail
          refine (HSU.out A5 c5 _ Hhg5.out ⟨hc51, hc52⟩).mono ?_
          rintro e x23 ⟨rfl, hb⟩
          replace HL := Lib.hid (HL.out.step hb)
          replace k0 := cell_of_ans hb k0
          replace k1 := cell_of_ans hb k1
          replace Hhg5 := Lib.hid (Hhg5.out.step hb)
          replace HB := Lib.hid (HB.out.trans (hb.mono HB.out.size))
          clear hb
          clear Hhg5
          go_wp2_with fail
          refine (HLG.out _ HL.out).mono ?_
          rintro e x24 ⟨A6, c6, rfl, ⟨hg6, hc61, hc62⟩, hb⟩
          replace HL := Lib.hid (HL.out.step hb)
          replace k0 := cell_of_ans hb k0
          replace k1 := cell_of_ans hb k1
          replace HB := Lib.hid (HB.out.trans (hb.mono HB.out.size))
          clear hb
          have Hhg6 := Lib.hid hg6
          clear hg6
          go_wp2_with fail
          refine (HSH.out A6 c6 _ Hhg6.out ⟨hc61, hc62⟩).mono ?_
          rintro e x25 ⟨rfl, hb⟩
          replace HL := Lib.hid (HL.out.step hb)
          replace k0 := cell_of_ans hb k0
          replace k1 := cell_of_ans hb k1
          replace Hhg6 := Lib.hid (Hhg6.out.step hb)
          replace HB := Lib.hid (HB.out.trans (hb.mono HB.out.size))
          clear hb
          clear Hhg6
          go_wp2_with fail
          refine (HTM.out _ HL.out).mono ?_
          rintro e x26 ⟨rfl, hb⟩
          replace HL := Lib.hid (HL.out.step hb)
          replace k0 := cell_of_ans hb k0
          replace k1 := cell_of_ans hb k1
          replace HB := Lib.hid (HB.out.trans (hb.mono HB.out.size))
          clear hb
          go_wp2_with fail
          refine (awake16_c _).mono ?_
          rintro e x27 ⟨rfl, hb⟩
          replace HL := Lib.hid (HL.out.step hb)
          replace k0 := cell_of_ans hb k0
          replace k1 := cell_of_ans hb k1
          replace HB := Lib.hid (HB.out.trans (hb.mono HB.out.size))
          clear hb
          go_wp2_with fail
          go_ret
          exact ⟨rfl, HB.out⟩
        · obtain ⟨-, p, rfl, hp⟩ := asked_zero ha
          have hT2 := hv.t2
          have hT6 := hv.t6
          have hl20 := hv.len
          have H1 : Hid (canL l (p : Int) = canB l p) := by show _ = _; unfold canL; rw [decide_eq_true ha, Bool.true_and, Int.toNat_natCast]
          have H2 : Hid (sureL l (p : Int) = sureB l p) := by show _ = _; unfold sureL; rw [decide_eq_true ha, Bool.true_and, Int.toNat_natCast]
          have HSH := Lib.hid (fun (A1 : Option Addr) (c1 : Nat) (W : World) (h : Gms W.heap.size W A1 l.games) h2 => shows47_c l p A1 c1 W h h2 ha)
          rw [H1.out, ha] at HCA
          rw [H2.out, ha] at HSU
          rw [ha] at HTM
          have HOU := Lib.hid (fun (W : World) => outs48_c (opensL l.games).length (by omega) (opensL l.games).length [] none 0 0 W (by simp) (Byts_nil _ _) ⟨by simp, by omega⟩ (fun b h => by cases h) (Nat.zero_le _) (fun k hk => by simp at hk))
          have H27 := Lib.hid (fun (os : List Int) (Ao : Option Addr) (co : Nat) (h1 : os.length = (opensL l.games).length) h2 (W : World) (h : Gms W.heap.size W A l.games) (hby : Byts W.heap.size W Ao os) h3 => after27_c l A Ao c co os W hv h hc hby h3 h1 h2)
          have H45 := Lib.hid (fun (os : List Int) (Ap : Option Addr) (cp : Nat) (W : World) (h : Ints W.heap.size W Ap ((List.range l.teams.toNat).map (aftF l os))) h2 => first45_c Ap ((List.range l.teams.toNat).map (aftF l os)) cp p W h h2 (by simp; omega))
          have HRC := Lib.hid (fun h => rows_can (p := p) hv hp h)
          have HRY := Lib.hid (fun (os : List Int) h1 h2 hf => rows_yes (l := l) (p := p) (os := os) h1 h2 hf)
          have HRSU := Lib.hid (rows_sure hv hp)
          have HFO := Lib.hid (fun (s : Fl) h1 h2 => outs_first (s := s) (p := p) hv h1 h2)
          have HISF := Lib.hid (fun (os : List Int) => (first_iff (l := l) (os := os) (show p < l.teams.toNat by omega)).2)
          have HCT := Lib.hid (fun (s : Fl) h1 h2 => can_true (s := s) (p := p) hv h1 h2)
          clear H1 H2 ha hv
          obtain ⟨cb, hcb⟩ : ∃ cb, canB l p = cb := ⟨_, rfl⟩
          obtain ⟨sb, hsb⟩ : ∃ sb, sureB l p = sb := ⟨_, rfl⟩
          rw [hcb] at HCA HRC HCT
          rw [hsb] at HSU HRSU
          have HCB := Lib.hid hcb
          clear hcb hsb
          go_enter Try.func12, Try.ntmps12
          go_wp2_with fail
          generalize (w.alloc (.cells #[.int .i64 l.teams, .slice A l.games.length c] 24)) = x1 at *
          refine (HTH.out _).mono ?_
          rintro e x28 ⟨rfl, hb⟩
          replace HL := Lib.hid (HL.out.step hb)
          replace k0 := cell_of_ans hb k0
          replace k1 := cell_of_ans hb k1
          replace HB := Lib.hid (HB.out.trans (hb.mono HB.out.size))
          clear hb
          go_wp2_with fail
          refine (HFA.out _ HL.out).mono ?_
          rintro e x29 ⟨rfl, hb⟩
          replace HL := Lib.hid (HL.out.step hb)
          replace k0 := cell_of_ans hb k0
          replace k1 := cell_of_ans hb k1
          replace HB := Lib.hid (HB.out.trans (hb.mono HB.out.size))
          clear hb
          go_wp2_with fail
          refine (HOP.out _ HL.out).mono ?_
          rintro e x30 ⟨rfl, hb⟩
          replace HL := Lib.hid (HL.out.step hb)
          replace k0 := cell_of_ans hb k0
          replace k1 := cell_of_ans hb k1
          replace HB := Lib.hid (HB.out.trans (hb.mono HB.out.size))
          clear hb
          go_wp2_with fail
          refine (HLG.out _ HL.out).mono ?_
          rintro e x31 ⟨A4, c4, rfl, ⟨hg4, hc41, hc42⟩, hb⟩
          replace HL := Lib.hid (HL.out.step hb)
          replace k0 := cell_of_ans hb k0
          replace k1 := cell_of_ans hb k1
          replace HB := Lib.hid (HB.out.trans (hb.mono HB.out.size))
          clear hb
          have Hhg4 := Lib.hid hg4
          clear hg4
          go_wp2_with fail
          refine (HCA.out A4 c4 _ Hhg4.out ⟨hc41, hc42⟩).mono ?_
          rintro e x32 ⟨rfl, hb⟩
          replace HL := Lib.hid (HL.out.step hb)
          replace k0 := cell_of_ans hb k0
          replace k1 := cell_of_ans hb k1
          replace Hhg4 := Lib.hid (Hhg4.out.step hb)
          replace HB := Lib.hid (HB.out.trans (hb.mono HB.out.size))
          clear hb
          clear Hhg4
          go_wp2_with fail
          refine (HLG.out _ HL.out).mono ?_
          rintro e x33 ⟨A5, c5, rfl, ⟨hg5, hc51, hc52⟩, hb⟩
          replace HL := Lib.hid (HL.out.step hb)
          replace k0 := cell_of_ans hb k0
          replace k1 := cell_of_ans hb k1
          replace HB := Lib.hid (HB.out.trans (hb.mono HB.out.size))
          clear hb
          have Hhg5 := Lib.hid hg5
          clear hg5
          go_wp2_with fail
          refine (HSU.out A5 c5 _ Hhg5.out ⟨hc51, hc52⟩).mono ?_
          rintro e x34 ⟨rfl, hb⟩
          replace HL := Lib.hid (HL.out.step hb)
          replace k0 := cell_of_ans hb k0
          replace k1 := cell_of_ans hb k1
          replace Hhg5 := Lib.hid (Hhg5.out.step hb)
          replace HB := Lib.hid (HB.out.trans (hb.mono HB.out.size))
          clear hb
          clear Hhg5
          go_wp2_with fail
          refine (HLG.out _ HL.out).mono ?_
          rintro e x35 ⟨A6, c6, rfl, ⟨hg6, hc61, hc62⟩, hb⟩
          replace HL := Lib.hid (HL.out.step hb)
          replace k0 := cell_of_ans hb k0
          replace k1 := cell_of_ans hb k1
          replace HB := Lib.hid (HB.out.trans (hb.mono HB.out.size))
          clear hb
          have Hhg6 := Lib.hid hg6
          clear hg6
          go_wp2_with fail
          refine (HSH.out A6 c6 _ Hhg6.out ⟨hc61, hc62⟩).mono ?_
          rintro e y1 ⟨hb, hp2⟩
          clear Hhg6
          replace HL := Lib.hid (HL.out.step hb)
          replace k0 := cell_of_ans hb k0
          replace k1 := cell_of_ans hb k1
          replace HB := Lib.hid (HB.out.trans (hb.mono HB.out.size))
          clear hb
          clear HCA HSU HSH HFA HTH
          rcases hp2 with ⟨rfl, hcf⟩ | ⟨s, A5, c5, rfl, h2, h3, h4⟩
          · have hcb0 : cb = false := by rw [← HCB.out]; exact hcf
            subst hcb0
            have HFLC := Lib.hid (HRC.out rfl)
            clear HRC HRY HFO HISF HCT HCB hcf
            go_wp2_with fail
            refine (HTM.out _ HL.out).mono ?_
            rintro e x36 ⟨rfl, hb⟩
            replace HL := Lib.hid (HL.out.step hb)
            replace k0 := cell_of_ans hb k0
            replace k1 := cell_of_ans hb k1
            replace HB := Lib.hid (HB.out.trans (hb.mono HB.out.size))
            clear hb
            go_wp2_with fail
            refine (HOP.out _ HL.out).mono ?_
            rintro e x37 ⟨rfl, hb⟩
            replace HL := Lib.hid (HL.out.step hb)
            replace k0 := cell_of_ans hb k0
            replace k1 := cell_of_ans hb k1
            replace HB := Lib.hid (HB.out.trans (hb.mono HB.out.size))
            clear hb
            go_wp2_with fail
            refine (HOU.out _).mono ?_
            rintro e x38 ⟨rA, rc, rfl, hrs, hb⟩
            replace HL := Lib.hid (HL.out.step hb)
            replace k0 := cell_of_ans hb k0
            replace k1 := cell_of_ans hb k1
            replace HB := Lib.hid (HB.out.trans (hb.mono HB.out.size))
            clear hb
            have HRW : Hid (RowsU x38 (.slice rA (ouL (opensL l.games).length []).length rc) (ouL (opensL l.games).length [])) := (hrs.lowBase (Nat.zero_le _))
            clear hrs HOU
            have HLE := Lib.hid (ouL_len (opensL l.games).length [])
            have hle : (ouL (opensL l.games).length []).length ≤ 729 := by rw [HLE.out]; exact Nat.le_trans (Nat.pow_le_pow_right (by omega) (show (opensL l.games).length ≤ 6 by omega)) (by decide)
            clear HLE
            have HME := Lib.hid (fun (k : Nat) (hk : k < (ouL (opensL l.games).length []).length) => mem_outs.1 (show (ouL (opensL l.games).length []).getD k [] ∈ ouL (opensL l.games).length [] by rw [List.getD_eq_getElem?_getD, List.getElem?_eq_getElem hk]; exact List.getElem_mem hk))
            obtain ⟨L, hL⟩ : ∃ L, ouL (opensL l.games).length [] = L := ⟨_, rfl⟩
            rw [hL] at HRW hle HME HFLC HRSU ⊢
            clear hL
            go_wp2_with fail
            go_loopw [13, 14, 15] (fun a b i wr => ∃ k : Nat, k ≤ L.length ∧ i = .int .i64 k ∧ a = .bool (exB (rowF l p L) k) ∧ b = .bool (alB (rowF l p L) k) ∧ Below x38.heap.size x38 wr) (fun _ _ i _ => L.length - (intOf i).toNat)
            case atStart => exact ⟨0, by omega, rfl, rfl, rfl, Below.refl _ _⟩
            case round =>
              obtain ⟨k, hk, rfl, rfl, rfl, hb⟩ := hrel
              have HBR := Lib.hid hb
              replace HL := Lib.hid (HL.out.step hb)
              replace k0 := cell_of_ans hb k0
              replace k1 := cell_of_ans hb k1
              replace HRW := Lib.hid (HRW.out.step hb)
              replace HB := Lib.hid (HB.out.trans (hb.mono HB.out.size))
              clear hb
              by_cases h1 : k < L.length
              · have h1i : (k : Int) < (L.length : Int) := by omega
                obtain ⟨gr, Ai, ci, rfl, d1, hci, hby⟩ := HRW.out.at_ h1
                obtain ⟨ho1, ho2⟩ := HME.out k h1
                have HBy := Lib.hid hby
                have HX1 : Hid (exB (rowF l p L) (k + 1) = (exB (rowF l p L) k || rowF l p L k)) := rfl
                have HX2 : Hid (alB (rowF l p L) (k + 1) = (alB (rowF l p L) k && rowF l p L k)) := rfl
                have HIF : Hid (firstB ((List.range l.teams.toNat).map (aftF l (L.getD k []))) p = rowF l p L k) := rfl
                clear hby HME HRW
                generalize L.getD k [] = os at *
                have HA27 := Lib.hid (H27.out os Ai ci ho1 ho2)
                have HF45 := Lib.hid (H45.out os)
                rw [HIF.out] at HF45
                clear H27 H45 HIF ho1 ho2
                generalize (List.range l.teams.toNat).map (aftF l os) = ps at *
                obtain ⟨rb, hrb⟩ : ∃ rb, rowF l p L k = rb := ⟨_, rfl⟩
                obtain ⟨xb, hxb⟩ : ∃ xb, exB (rowF l p L) k = xb := ⟨_, rfl⟩
                obtain ⟨ab, hab⟩ : ∃ ab, alB (rowF l p L) k = ab := ⟨_, rfl⟩
                rw [hrb] at HF45 HX1 HX2
                rw [hxb] at HX1 ⊢
                rw [hab] at HX2 ⊢
                clear hrb hxb hab HFLC HRSU
                go_upto_region 14 with fail
                refine wp_region_noPanic ?_
                have hS : (fun W' : World => Below wr.heap.size wr W') wr.drew := (Below.refl _ _).drew
                refine wp_region_any (by kernel_rfl) (wpAny_of_T (S := fun W' : World => Below wr.heap.size wr W') (m := 9) _ _ _ _ ?_)
                refine' T_take (i := 0) (v := _) rfl (by kernel_rfl) (by kernel_rfl) (by kernel_rfl) (by kernel_rfl) (fun _ _ _ h => h) (by kernel_rfl) hS ?_ ?_
                rotate_left 1
                · intro Wv hW
                  replace k0 := cell_of_ans hW k0
                  replace k1 := cell_of_ans hW k1
                  replace d1 := cell_of_ans hW d1
                  go_simp
                  first | done | with_reducible rfl | omega
                try simp only [Act.put, List.setIfInBounds_toArray, List.set_cons_zero, List.set_cons_succ]
                refine' T_take (i := 1) (v := _) rfl (by kernel_rfl) (by kernel_rfl) (by kernel_rfl) (by kernel_rfl) (fun _ _ _ h => h) (by kernel_rfl) hS ?_ ?_
                rotate_left 1
                · intro Wv hW
                  replace k0 := cell_of_ans hW k0
                  replace k1 := cell_of_ans hW k1
                  replace d1 := cell_of_ans hW d1
                  go_simp
                  first | done | with_reducible rfl | omega
                try simp only [Act.put, List.setIfInBounds_toArray, List.set_cons_zero, List.set_cons_succ]
                refine' T_take (i := 2) (v := _) rfl (by kernel_rfl) (by kernel_rfl) (by kernel_rfl) (by kernel_rfl) (fun _ _ _ h => h) (by kernel_rfl) hS ?_ ?_
                rotate_left 1
                · intro Wv hW
                  replace k0 := cell_of_ans hW k0
                  replace k1 := cell_of_ans hW k1
                  replace d1 := cell_of_ans hW d1
                  go_simp
                  first | done | with_reducible rfl | omega
                try simp only [Act.put, List.setIfInBounds_toArray, List.set_cons_zero, List.set_cons_succ]
                refine' T_take (i := 3) (v := _) rfl (by kernel_rfl) (by kernel_rfl) (by kernel_rfl) (by kernel_rfl) (fun _ _ _ h => h) (by kernel_rfl) hS ?_ ?_
                rotate_left 1
                · intro Wv hW
                  replace k0 := cell_of_ans hW k0
                  replace k1 := cell_of_ans hW k1
                  replace d1 := cell_of_ans hW d1
                  go_simp
                  first | done | with_reducible rfl | omega
                try simp only [Act.put, List.setIfInBounds_toArray, List.set_cons_zero, List.set_cons_succ]
                refine' T_take (i := 4) (v := _) rfl (by kernel_rfl) (by kernel_rfl) (by kernel_rfl) (by kernel_rfl) (fun _ _ _ h => h) (by kernel_rfl) hS ?_ ?_
                rotate_left 1
                · intro Wv hW
                  replace k0 := cell_of_ans hW k0
                  replace k1 := cell_of_ans hW k1
                  replace d1 := cell_of_ans hW d1
                  go_simp
                  first | done | with_reducible rfl | omega
                try simp only [Act.put, List.setIfInBounds_toArray, List.set_cons_zero, List.set_cons_succ]
                refine' T_take (i := 6) (v := _) rfl (by kernel_rfl) (by kernel_rfl) (by kernel_rfl) (by kernel_rfl) (fun _ _ _ h => h) (by kernel_rfl) hS ?_ ?_
                rotate_left 1
                · intro Wv hW
                  replace k0 := cell_of_ans hW k0
                  replace k1 := cell_of_ans hW k1
                  replace d1 := cell_of_ans hW d1
                  go_simp
                  first | done | with_reducible rfl | omega
                try simp only [Act.put, List.setIfInBounds_toArray, List.set_cons_zero, List.set_cons_succ]
                refine T_ready (rs := [5]) (by kernel_rfl) (by simp) ?_
                refine TReady.cons rfl (fun K hK => ?_) TReady.nil
                try go_simp
                refine ((HA27.out _ (HL.out.step hS) (HBy.out.step hS) hci)).mono ?_
                rintro e v1 ⟨A5x, c5x, rfl, ⟨hi5, hc51, hc52⟩, hb⟩
                have hS2 : Below wr.heap.size wr v1 := below_cat hb hS
                have HI5 := Lib.hid hi5
                clear hi5
                try go_simp
                refine hK.out _ _ (fun _ => hS2) (fun _ => ?_)
                clear hK K hS hb
                replace hS := hS2
                clear hS2
                try simp only [Act.put, List.setIfInBounds_toArray, List.set_cons_zero, List.set_cons_succ]
                refine T_ready (rs := [7]) (by kernel_rfl) (by simp) ?_
                refine TReady.cons rfl (fun K hK => ?_) TReady.nil
                try go_simp
                refine ((HF45.out A5x c5x _ HI5.out ⟨hc51, hc52⟩)).mono ?_
                rintro e v2 ⟨rfl, hb⟩
                have hS2 : Below wr.heap.size wr v2 := below_cat hb hS
                try go_simp
                refine hK.out _ _ (fun _ => hS2) (fun _ => ?_)
                clear hK K hS hb
                replace hS := hS2
                clear hS2
                try simp only [Act.put, List.setIfInBounds_toArray, List.set_cons_zero, List.set_cons_succ]
                refine' T_take (i := 8) (v := _) rfl (by kernel_rfl) (by kernel_rfl) (by kernel_rfl) (by kernel_rfl) (fun _ _ _ h => h) (by kernel_rfl) hS ?_ ?_
                rotate_left 1
                · intro Wv hW
                  replace k0 := cell_of_ans hW k0
                  replace k1 := cell_of_ans hW k1
                  replace d1 := cell_of_ans hW d1
                  go_simp
                  first | done | with_reducible rfl | omega
                try simp only [Act.put, List.setIfInBounds_toArray, List.set_cons_zero, List.set_cons_succ]
                refine T_done (by kernel_rfl) ?_ _
                refine NoPanic.normal ?_
                try go_simp
                replace HBR := Lib.hid (HBR.out.trans (hS.mono HBR.out.size))
                clear hS
                cases xb
                · cases ab
                  · cases rb
                    · go_wp2_with fail
                      go_roundw
                      case rel => exact ⟨k + 1, by omega, by go_num, by rw [HX1.out]; first | done | rfl, by rw [HX2.out]; first | done | rfl, HBR.out⟩
                      case measure => simp [intOf]; omega
                    · go_wp2_with fail
                      go_roundw
                      case rel => exact ⟨k + 1, by omega, by go_num, by rw [HX1.out]; first | done | rfl, by rw [HX2.out]; first | done | rfl, HBR.out⟩
                      case measure => simp [intOf]; omega
                  · cases rb
                    · go_wp2_with fail
                      go_roundw
                      case rel => exact ⟨k + 1, by omega, by go_num, by rw [HX1.out]; first | done | rfl, by rw [HX2.out]; first | done | rfl, HBR.out⟩
                      case measure => simp [intOf]; omega
                    · go_wp2_with fail
                      go_roundw
                      case rel => exact ⟨k + 1, by omega, by go_num, by rw [HX1.out]; first | done | rfl, by rw [HX2.out]; first | done | rfl, HBR.out⟩
                      case measure => simp [intOf]; omega
                · cases ab
                  · cases rb
                    · go_wp2_with fail
                      go_roundw
                      case rel => exact ⟨k + 1, by omega, by go_num, by rw [HX1.out]; first | done | rfl, by rw [HX2.out]; first | done | rfl, HBR.out⟩
                      case measure => simp [intOf]; omega
                    · go_wp2_with fail
                      go_roundw
                      case rel => exact ⟨k + 1, by omega, by go_num, by rw [HX1.out]; first | done | rfl, by rw [HX2.out]; first | done | rfl, HBR.out⟩
                      case measure => simp [intOf]; omega
                  · cases rb
                    · go_wp2_with fail
                      go_roundw
                      case rel => exact ⟨k + 1, by omega, by go_num, by rw [HX1.out]; first | done | rfl, by rw [HX2.out]; first | done | rfl, HBR.out⟩
                      case measure => simp [intOf]; omega
                    · go_wp2_with fail
                      go_roundw
                      case rel => exact ⟨k + 1, by omega, by go_num, by rw [HX1.out]; first | done | rfl, by rw [HX2.out]; first | done | rfl, HBR.out⟩
                      case measure => simp [intOf]; omega
              · obtain rfl : k = L.length := by omega
                have h1i : ¬ (L.length : Int) < (L.length : Int) := by omega
                rw [HFLC.out, HRSU.out]
                clear HFLC HRSU HRW HME
                cases sb
                · go_wp2_with fail
                  refine (awake16_c _).mono ?_
                  rintro e x39 ⟨rfl, hb⟩
                  replace HL := Lib.hid (HL.out.step hb)
                  replace k0 := cell_of_ans hb k0
                  replace k1 := cell_of_ans hb k1
                  replace HB := Lib.hid (HB.out.trans (hb.mono HB.out.size))
                  clear hb
                  go_wp2_with fail
                  go_ret
                  exact ⟨rfl, HB.out⟩
                · go_wp2_with fail
                  refine (awake16_c _).mono ?_
                  rintro e x40 ⟨rfl, hb⟩
                  replace HL := Lib.hid (HL.out.step hb)
                  replace k0 := cell_of_ans hb k0
                  replace k1 := cell_of_ans hb k1
                  replace HB := Lib.hid (HB.out.trans (hb.mono HB.out.size))
                  clear hb
                  go_wp2_with fail
                  go_ret
                  exact ⟨rfl, HB.out⟩
          · have hcb0 : cb = true := HCT.out s h2 h3
            subst hcb0
            obtain ⟨f1, f2⟩ := HFO.out s h2 h3
            have hoL : (outsF s (opensL l.games).length).length = (opensL l.games).length := outsF_len s _
            have hif : isF l p (outsF s (opensL l.games).length) = true := HISF.out _ (fun u hu => f2 u (by omega))
            have HFLC := Lib.hid (HRY.out _ hoL f1 hif)
            obtain ⟨p1, p2, p3⟩ := h4.parts (fun k hk => by have := f1 k hk; omega)
            rw [outsF_len] at p1
            have HB5 := Lib.hid p3
            have HLI : Hid (∀ W : World, Byts W.heap.size W A5 (outsF s (opensL l.games).length) → Calls Try.prog 22 #[.slice A5 (opensL l.games).length c5, .int .u8 3] W (Same W (.bool true))) := fun W h => by
              have h' := listed22_c A5 c5 (outsF s (opensL l.games).length) 3 W h (by rw [outsF_len]; omega)
              rw [outsF_len, show (allB (opensL l.games).length fun k => inB (ix (outsF s (opensL l.games).length) k) 1 3) = true from allB_true fun k hk => by rw [inB_eq]; exact f1 k (by rw [outsF_len]; exact hk)] at h'
              exact h'
            have HA5 : Hid (∀ W : World, Gms W.heap.size W A l.games → Byts W.heap.size W A5 (outsF s (opensL l.games).length) → Calls Try.prog 27 #[.agg #[.int .i64 l.teams, .slice A l.games.length c], .slice A5 (opensL l.games).length c5] W (ListP W ((List.range l.teams.toNat).map (aftF l (outsF s (opensL l.games).length))))) := fun W h h' => by
              have h9 := H27.out (outsF s (opensL l.games).length) A5 c5 hoL f1 W h h' ⟨by rw [outsF_len]; exact p1, p2⟩
              rw [outsF_len] at h9
              exact h9
            have HF5 : Hid (∀ (Ap : Option Addr) (cp : Nat) (W : World), Ints W.heap.size W Ap ((List.range l.teams.toNat).map (aftF l (outsF s (opensL l.games).length))) → (((List.range l.teams.toNat).map (aftF l (outsF s (opensL l.games).length))).length ≤ cp ∧ cp ≤ 9223372036854775807) → Calls Try.prog 45 #[.slice Ap ((List.range l.teams.toNat).map (aftF l (outsF s (opensL l.games).length))).length cp, .int .i64 (p : Int)] W (Ans W (.bool true))) := fun Ap cp W h h' => by
              have h9 := H45.out (outsF s (opensL l.games).length) Ap cp W h h'
              rw [show firstB ((List.range l.teams.toNat).map (aftF l (outsF s (opensL l.games).length))) p = true from hif] at h9
              exact h9
            clear HRC HRY HFO HISF HCT HCB f1 f2 hif hoL p1 p2 p3 h2 h3 h4
            generalize outsF s (opensL l.games).length = o5 at HB5 HLI HA5 HF5
            generalize (List.range l.teams.toNat).map (aftF l o5) = ps5 at HA5 HF5
            go_wp2_with fail
            refine (HTM.out _ HL.out).mono ?_
            rintro e x41 ⟨rfl, hb⟩
            replace HL := Lib.hid (HL.out.step hb)
            replace k0 := cell_of_ans hb k0
            replace k1 := cell_of_ans hb k1
            replace HB5 := Lib.hid (HB5.out.step hb)
            replace HB := Lib.hid (HB.out.trans (hb.mono HB.out.size))
            clear hb
            go_wp2_with fail
            refine (HOP.out _ HL.out).mono ?_
            rintro e x42 ⟨rfl, hb⟩
            replace HL := Lib.hid (HL.out.step hb)
            replace k0 := cell_of_ans hb k0
            replace k1 := cell_of_ans hb k1
            replace HB5 := Lib.hid (HB5.out.step hb)
            replace HB := Lib.hid (HB.out.trans (hb.mono HB.out.size))
            clear hb
            go_wp2_with fail
            refine (HOU.out _).mono ?_
            rintro e x43 ⟨rA, rc, rfl, hrs, hb⟩
            replace HL := Lib.hid (HL.out.step hb)
            replace k0 := cell_of_ans hb k0
            replace k1 := cell_of_ans hb k1
            replace HB5 := Lib.hid (HB5.out.step hb)
            replace HB := Lib.hid (HB.out.trans (hb.mono HB.out.size))
            clear hb
            have HRW : Hid (RowsU x43 (.slice rA (ouL (opensL l.games).length []).length rc) (ouL (opensL l.games).length [])) := (hrs.lowBase (Nat.zero_le _))
            clear hrs HOU
            have HLE := Lib.hid (ouL_len (opensL l.games).length [])
            have hle : (ouL (opensL l.games).length []).length ≤ 729 := by rw [HLE.out]; exact Nat.le_trans (Nat.pow_le_pow_right (by omega) (show (opensL l.games).length ≤ 6 by omega)) (by decide)
            clear HLE
            have HME := Lib.hid (fun (k : Nat) (hk : k < (ouL (opensL l.games).length []).length) => mem_outs.1 (show (ouL (opensL l.games).length []).getD k [] ∈ ouL (opensL l.games).length [] by rw [List.getD_eq_getElem?_getD, List.getElem?_eq_getElem hk]; exact List.getElem_mem hk))
            obtain ⟨L, hL⟩ : ∃ L, ouL (opensL l.games).length [] = L := ⟨_, rfl⟩
            rw [hL] at HRW hle HME HFLC HRSU ⊢
            clear hL
            go_wp2_with fail
            go_loopw [13, 14, 15] (fun a b i wr => ∃ k : Nat, k ≤ L.length ∧ i = .int .i64 k ∧ a = .bool (exB (rowF l p L) k) ∧ b = .bool (alB (rowF l p L) k) ∧ Below x43.heap.size x43 wr) (fun _ _ i _ => L.length - (intOf i).toNat)
            case atStart => exact ⟨0, by omega, rfl, rfl, rfl, Below.refl _ _⟩
            case round =>
              obtain ⟨k, hk, rfl, rfl, rfl, hb⟩ := hrel
              have HBR := Lib.hid hb
              replace HL := Lib.hid (HL.out.step hb)
              replace k0 := cell_of_ans hb k0
              replace k1 := cell_of_ans hb k1
              replace HB5 := Lib.hid (HB5.out.step hb)
              replace HRW := Lib.hid (HRW.out.step hb)
              replace HB := Lib.hid (HB.out.trans (hb.mono HB.out.size))
              clear hb
              by_cases h1 : k < L.length
              · have h1i : (k : Int) < (L.length : Int) := by omega
                obtain ⟨gr, Ai, ci, rfl, d1, hci, hby⟩ := HRW.out.at_ h1
                obtain ⟨ho1, ho2⟩ := HME.out k h1
                have HBy := Lib.hid hby
                have HX1 : Hid (exB (rowF l p L) (k + 1) = (exB (rowF l p L) k || rowF l p L k)) := rfl
                have HX2 : Hid (alB (rowF l p L) (k + 1) = (alB (rowF l p L) k && rowF l p L k)) := rfl
                have HIF : Hid (firstB ((List.range l.teams.toNat).map (aftF l (L.getD k []))) p = rowF l p L k) := rfl
                clear hby HME HRW
                generalize L.getD k [] = os at *
                have HA27 := Lib.hid (H27.out os Ai ci ho1 ho2)
                have HF45 := Lib.hid (H45.out os)
                rw [HIF.out] at HF45
                clear H27 H45 HIF ho1 ho2
                generalize (List.range l.teams.toNat).map (aftF l os) = ps at *
                obtain ⟨rb, hrb⟩ : ∃ rb, rowF l p L k = rb := ⟨_, rfl⟩
                obtain ⟨xb, hxb⟩ : ∃ xb, exB (rowF l p L) k = xb := ⟨_, rfl⟩
                obtain ⟨ab, hab⟩ : ∃ ab, alB (rowF l p L) k = ab := ⟨_, rfl⟩
                rw [hrb] at HF45 HX1 HX2
                rw [hxb] at HX1 ⊢
                rw [hab] at HX2 ⊢
                clear hrb hxb hab HFLC HRSU
                go_upto_region 14 with fail
                refine wp_region_noPanic ?_
                have hS : (fun W' : World => Below wr.heap.size wr W') wr.drew := (Below.refl _ _).drew
                refine wp_region_any (by kernel_rfl) (wpAny_of_T (S := fun W' : World => Below wr.heap.size wr W') (m := 9) _ _ _ _ ?_)
                refine' T_take (i := 0) (v := _) rfl (by kernel_rfl) (by kernel_rfl) (by kernel_rfl) (by kernel_rfl) (fun _ _ _ h => h) (by kernel_rfl) hS ?_ ?_
                rotate_left 1
                · intro Wv hW
                  replace k0 := cell_of_ans hW k0
                  replace k1 := cell_of_ans hW k1
                  replace d1 := cell_of_ans hW d1
                  go_simp
                  first | done | with_reducible rfl | omega
                try simp only [Act.put, List.setIfInBounds_toArray, List.set_cons_zero, List.set_cons_succ]
                refine' T_take (i := 1) (v := _) rfl (by kernel_rfl) (by kernel_rfl) (by kernel_rfl) (by kernel_rfl) (fun _ _ _ h => h) (by kernel_rfl) hS ?_ ?_
                rotate_left 1
                · intro Wv hW
                  replace k0 := cell_of_ans hW k0
                  replace k1 := cell_of_ans hW k1
                  replace d1 := cell_of_ans hW d1
                  go_simp
                  first | done | with_reducible rfl | omega
                try simp only [Act.put, List.setIfInBounds_toArray, List.set_cons_zero, List.set_cons_succ]
                refine' T_take (i := 2) (v := _) rfl (by kernel_rfl) (by kernel_rfl) (by kernel_rfl) (by kernel_rfl) (fun _ _ _ h => h) (by kernel_rfl) hS ?_ ?_
                rotate_left 1
                · intro Wv hW
                  replace k0 := cell_of_ans hW k0
                  replace k1 := cell_of_ans hW k1
                  replace d1 := cell_of_ans hW d1
                  go_simp
                  first | done | with_reducible rfl | omega
                try simp only [Act.put, List.setIfInBounds_toArray, List.set_cons_zero, List.set_cons_succ]
                refine' T_take (i := 3) (v := _) rfl (by kernel_rfl) (by kernel_rfl) (by kernel_rfl) (by kernel_rfl) (fun _ _ _ h => h) (by kernel_rfl) hS ?_ ?_
                rotate_left 1
                · intro Wv hW
                  replace k0 := cell_of_ans hW k0
                  replace k1 := cell_of_ans hW k1
                  replace d1 := cell_of_ans hW d1
                  go_simp
                  first | done | with_reducible rfl | omega
                try simp only [Act.put, List.setIfInBounds_toArray, List.set_cons_zero, List.set_cons_succ]
                refine' T_take (i := 4) (v := _) rfl (by kernel_rfl) (by kernel_rfl) (by kernel_rfl) (by kernel_rfl) (fun _ _ _ h => h) (by kernel_rfl) hS ?_ ?_
                rotate_left 1
                · intro Wv hW
                  replace k0 := cell_of_ans hW k0
                  replace k1 := cell_of_ans hW k1
                  replace d1 := cell_of_ans hW d1
                  go_simp
                  first | done | with_reducible rfl | omega
                try simp only [Act.put, List.setIfInBounds_toArray, List.set_cons_zero, List.set_cons_succ]
                refine' T_take (i := 6) (v := _) rfl (by kernel_rfl) (by kernel_rfl) (by kernel_rfl) (by kernel_rfl) (fun _ _ _ h => h) (by kernel_rfl) hS ?_ ?_
                rotate_left 1
                · intro Wv hW
                  replace k0 := cell_of_ans hW k0
                  replace k1 := cell_of_ans hW k1
                  replace d1 := cell_of_ans hW d1
                  go_simp
                  first | done | with_reducible rfl | omega
                try simp only [Act.put, List.setIfInBounds_toArray, List.set_cons_zero, List.set_cons_succ]
                refine T_ready (rs := [5]) (by kernel_rfl) (by simp) ?_
                refine TReady.cons rfl (fun K hK => ?_) TReady.nil
                try go_simp
                refine ((HA27.out _ (HL.out.step hS) (HBy.out.step hS) hci)).mono ?_
                rintro e v1 ⟨A5x, c5x, rfl, ⟨hi5, hc51, hc52⟩, hb⟩
                have hS2 : Below wr.heap.size wr v1 := below_cat hb hS
                have HI5 := Lib.hid hi5
                clear hi5
                try go_simp
                refine hK.out _ _ (fun _ => hS2) (fun _ => ?_)
                clear hK K hS hb
                replace hS := hS2
                clear hS2
                try simp only [Act.put, List.setIfInBounds_toArray, List.set_cons_zero, List.set_cons_succ]
                refine T_ready (rs := [7]) (by kernel_rfl) (by simp) ?_
                refine TReady.cons rfl (fun K hK => ?_) TReady.nil
                try go_simp
                refine ((HF45.out A5x c5x _ HI5.out ⟨hc51, hc52⟩)).mono ?_
                rintro e v2 ⟨rfl, hb⟩
                have hS2 : Below wr.heap.size wr v2 := below_cat hb hS
                try go_simp
                refine hK.out _ _ (fun _ => hS2) (fun _ => ?_)
                clear hK K hS hb
                replace hS := hS2
                clear hS2
                try simp only [Act.put, List.setIfInBounds_toArray, List.set_cons_zero, List.set_cons_succ]
                refine' T_take (i := 8) (v := _) rfl (by kernel_rfl) (by kernel_rfl) (by kernel_rfl) (by kernel_rfl) (fun _ _ _ h => h) (by kernel_rfl) hS ?_ ?_
                rotate_left 1
                · intro Wv hW
                  replace k0 := cell_of_ans hW k0
                  replace k1 := cell_of_ans hW k1
                  replace d1 := cell_of_ans hW d1
                  go_simp
                  first | done | with_reducible rfl | omega
                try simp only [Act.put, List.setIfInBounds_toArray, List.set_cons_zero, List.set_cons_succ]
                refine T_done (by kernel_rfl) ?_ _
                refine NoPanic.normal ?_
                try go_simp
                replace HBR := Lib.hid (HBR.out.trans (hS.mono HBR.out.size))
                clear hS
                cases xb
                · cases ab
                  · cases rb
                    · go_wp2_with fail
                      go_roundw
                      case rel => exact ⟨k + 1, by omega, by go_num, by rw [HX1.out]; first | done | rfl, by rw [HX2.out]; first | done | rfl, HBR.out⟩
                      case measure => simp [intOf]; omega
                    · go_wp2_with fail
                      go_roundw
                      case rel => exact ⟨k + 1, by omega, by go_num, by rw [HX1.out]; first | done | rfl, by rw [HX2.out]; first | done | rfl, HBR.out⟩
                      case measure => simp [intOf]; omega
                  · cases rb
                    · go_wp2_with fail
                      go_roundw
                      case rel => exact ⟨k + 1, by omega, by go_num, by rw [HX1.out]; first | done | rfl, by rw [HX2.out]; first | done | rfl, HBR.out⟩
                      case measure => simp [intOf]; omega
                    · go_wp2_with fail
                      go_roundw
                      case rel => exact ⟨k + 1, by omega, by go_num, by rw [HX1.out]; first | done | rfl, by rw [HX2.out]; first | done | rfl, HBR.out⟩
                      case measure => simp [intOf]; omega
                · cases ab
                  · cases rb
                    · go_wp2_with fail
                      go_roundw
                      case rel => exact ⟨k + 1, by omega, by go_num, by rw [HX1.out]; first | done | rfl, by rw [HX2.out]; first | done | rfl, HBR.out⟩
                      case measure => simp [intOf]; omega
                    · go_wp2_with fail
                      go_roundw
                      case rel => exact ⟨k + 1, by omega, by go_num, by rw [HX1.out]; first | done | rfl, by rw [HX2.out]; first | done | rfl, HBR.out⟩
                      case measure => simp [intOf]; omega
                  · cases rb
                    · go_wp2_with fail
                      go_roundw
                      case rel => exact ⟨k + 1, by omega, by go_num, by rw [HX1.out]; first | done | rfl, by rw [HX2.out]; first | done | rfl, HBR.out⟩
                      case measure => simp [intOf]; omega
                    · go_wp2_with fail
                      go_roundw
                      case rel => exact ⟨k + 1, by omega, by go_num, by rw [HX1.out]; first | done | rfl, by rw [HX2.out]; first | done | rfl, HBR.out⟩
                      case measure => simp [intOf]; omega
              · obtain rfl : k = L.length := by omega
                have h1i : ¬ (L.length : Int) < (L.length : Int) := by omega
                rw [HFLC.out, HRSU.out]
                clear HFLC HRSU HRW HME
                cases sb
                · go_wp2_with fail
                  refine (HOP.out _ HL.out).mono ?_
                  rintro e x44 ⟨rfl, hb⟩
                  replace HL := Lib.hid (HL.out.step hb)
                  replace k0 := cell_of_ans hb k0
                  replace k1 := cell_of_ans hb k1
                  replace HB5 := Lib.hid (HB5.out.step hb)
                  replace HB := Lib.hid (HB.out.trans (hb.mono HB.out.size))
                  clear hb
                  go_wp2_with fail
                  refine ((HLI.out _ HB5.out).mono (fun _ _ h => h.ans)).mono ?_
                  rintro e x45 ⟨rfl, hb⟩
                  replace HL := Lib.hid (HL.out.step hb)
                  replace k0 := cell_of_ans hb k0
                  replace k1 := cell_of_ans hb k1
                  replace HB5 := Lib.hid (HB5.out.step hb)
                  replace HB := Lib.hid (HB.out.trans (hb.mono HB.out.size))
                  clear hb
                  go_wp2_with fail
                  refine (HA5.out _ HL.out HB5.out).mono ?_
                  rintro e x46 ⟨A9, c9, rfl, ⟨hi9, hc91, hc92⟩, hb⟩
                  replace HL := Lib.hid (HL.out.step hb)
                  replace k0 := cell_of_ans hb k0
                  replace k1 := cell_of_ans hb k1
                  replace HB5 := Lib.hid (HB5.out.step hb)
                  replace HB := Lib.hid (HB.out.trans (hb.mono HB.out.size))
                  clear hb
                  have Hhi9 := Lib.hid hi9
                  clear hi9
                  go_wp2_with fail
                  refine (HF5.out A9 c9 _ Hhi9.out ⟨hc91, hc92⟩).mono ?_
                  rintro e x47 ⟨rfl, hb⟩
                  replace HL := Lib.hid (HL.out.step hb)
                  replace k0 := cell_of_ans hb k0
                  replace k1 := cell_of_ans hb k1
                  replace HB5 := Lib.hid (HB5.out.step hb)
                  replace Hhi9 := Lib.hid (Hhi9.out.step hb)
                  replace HB := Lib.hid (HB.out.trans (hb.mono HB.out.size))
                  clear hb
                  go_wp2_with fail
                  refine (awake16_c _).mono ?_
                  rintro e x48 ⟨rfl, hb⟩
                  replace HL := Lib.hid (HL.out.step hb)
                  replace k0 := cell_of_ans hb k0
                  replace k1 := cell_of_ans hb k1
                  replace HB5 := Lib.hid (HB5.out.step hb)
                  replace Hhi9 := Lib.hid (Hhi9.out.step hb)
                  replace HB := Lib.hid (HB.out.trans (hb.mono HB.out.size))
                  clear hb
                  go_wp2_with fail
                  go_ret
                  exact ⟨rfl, HB.out⟩
                · go_wp2_with fail
                  refine (HOP.out _ HL.out).mono ?_
                  rintro e x49 ⟨rfl, hb⟩
                  replace HL := Lib.hid (HL.out.step hb)
                  replace k0 := cell_of_ans hb k0
                  replace k1 := cell_of_ans hb k1
                  replace HB5 := Lib.hid (HB5.out.step hb)
                  replace HB := Lib.hid (HB.out.trans (hb.mono HB.out.size))
                  clear hb
                  go_wp2_with fail
                  refine ((HLI.out _ HB5.out).mono (fun _ _ h => h.ans)).mono ?_
                  rintro e x50 ⟨rfl, hb⟩
                  replace HL := Lib.hid (HL.out.step hb)
                  replace k0 := cell_of_ans hb k0
                  replace k1 := cell_of_ans hb k1
                  replace HB5 := Lib.hid (HB5.out.step hb)
                  replace HB := Lib.hid (HB.out.trans (hb.mono HB.out.size))
                  clear hb
                  go_wp2_with fail
                  refine (HA5.out _ HL.out HB5.out).mono ?_
                  rintro e x51 ⟨A9, c9, rfl, ⟨hi9, hc91, hc92⟩, hb⟩
                  replace HL := Lib.hid (HL.out.step hb)
                  replace k0 := cell_of_ans hb k0
                  replace k1 := cell_of_ans hb k1
                  replace HB5 := Lib.hid (HB5.out.step hb)
                  replace HB := Lib.hid (HB.out.trans (hb.mono HB.out.size))
                  clear hb
                  have Hhi9 := Lib.hid hi9
                  clear hi9
                  go_wp2_with fail
                  refine (HF5.out A9 c9 _ Hhi9.out ⟨hc91, hc92⟩).mono ?_
                  rintro e x52 ⟨rfl, hb⟩
                  replace HL := Lib.hid (HL.out.step hb)
                  replace k0 := cell_of_ans hb k0
                  replace k1 := cell_of_ans hb k1
                  replace HB5 := Lib.hid (HB5.out.step hb)
                  replace Hhi9 := Lib.hid (Hhi9.out.step hb)
                  replace HB := Lib.hid (HB.out.trans (hb.mono HB.out.size))
                  clear hb
                  go_wp2_with fail
                  refine (awake16_c _).mono ?_
                  rintro e x53 ⟨rfl, hb⟩
                  replace HL := Lib.hid (HL.out.step hb)
                  replace k0 := cell_of_ans hb k0
                  replace k1 := cell_of_ans hb k1
                  replace HB5 := Lib.hid (HB5.out.step hb)
                  replace Hhi9 := Lib.hid (Hhi9.out.step hb)
                  replace HB := Lib.hid (HB.out.trans (hb.mono HB.out.size))
                  clear hb
                  go_wp2_with fail
                  go_ret
                  exact ⟨rfl, HB.out⟩
end Go.Proofs.Ytjokbffdepcpkaa
