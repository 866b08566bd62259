/-
  The walk of LeaguePlayed.
-/
import Derived.Test.YtjokbffdepcpkaaPlayedM
import Derived.Test.YtjokbffdepcpkaaRanksW
namespace Go.Proofs.Ytjokbffdepcpkaa
open Go.RowKit
set_option linter.unusedSimpArgs false
set_option linter.unusedVariables false

attribute [local go_sem] Oper.semAt_some
theorem OwnM.some_ {e : TypeId} {base : Nat} {w : World} {A : Option Addr} {n c : Nat} {ls : List Gm} (h : OwnM e base w (.slice A n c) ls) (hp : 0 < ls.length) : ∃ g, A = some ⟨g, 0, none⟩ ∧ base ≤ g ∧ g < w.heap.size := by
  rcases h.2 with ⟨e, h0⟩ | ⟨g, cap, cur, e, hb, hg, hn, hm, hs, ht⟩
  · injection e with e1 e2 e3
    omega
  · injection e with e1 e2 e3
    exact ⟨g, e1, hb, (Array.getElem?_eq_some_iff.1 hg).1⟩
theorem OwnM.elem {e : TypeId} {base : Nat} {w : World} {g n c : Nat} {ls : List Gm} (h : OwnM e base w (.slice (some ⟨g, 0, none⟩) n c) ls) {k : Nat} (hk : k < ls.length) : W5 w g (k * 5) (gmx ls k) ∧ ∀ i, w.frozen? ⟨g, i, none⟩ = false := by
  have hf := h.form
  obtain ⟨A, c', e'⟩ := hf
  have hn : n = ls.length := by injection e'
  subst hn
  obtain ⟨h1, h2, h3⟩ := h.parts
  obtain ⟨b, off, e1, hb, hc⟩ := h3.at_ hk
  injection e1 with e1
  injection e1 with e1 e2
  subst e1 e2
  refine ⟨by simpa using hc, fun i => ?_⟩
  rcases h.2 with ⟨e, h0⟩ | ⟨g', cap, cur, e, hb, hg, hn, hm, hs, ht⟩
  · cases e
  · injection e with e1 e2 e3
    injection e1 with e1
    injection e1 with e1
    subst e1
    simp [World.frozen?, hg]
/-- The statements' League, and who can be first, of a league by its parts. -/
def LgQ (w : World) (tm : Int) (xs : List Gm) (e : Ending) (w' : World) : Prop := ∃ A c, e = .returned (.agg #[.int .i64 tm, .slice A xs.length c]) ∧ (Gms w'.heap.size w' A xs ∧ xs.length ≤ c ∧ c ≤ 9223372036854775807) ∧ Below w.heap.size w w'
set_option maxRecDepth 100000 in
set_option maxHeartbeats 16000000 in
theorem played11_c (l : Lg) (A : Option Addr) (c : Nat) (s a b : Int) (w : World) (hl : Gms w.heap.size w A l.games) (hc : l.games.length ≤ c ∧ c ≤ 9223372036854775807) (hs : 0 ≤ s ∧ s ≤ 255) (ha : 0 ≤ a ∧ a ≤ 65535) (hbb : 0 ≤ b ∧ b ≤ 65535) :
    Calls Try.prog 11 #[.agg #[.int .i64 l.teams, .slice A l.games.length c], .int .u8 s, .int .u16 a, .int .u16 b] w (Ans w (.bool true)) := by
  have hb : Below w.heap.size w (w.alloc (.cells #[.int .i64 l.teams, .slice A l.games.length c] 24)) := (Below.refl _ _).alloc (Nat.le_refl _) _
  have HB := Lib.hid hb
  have HL := Lib.hid (hl.step hb)
  have HRD := Lib.hid (fun (W : World) (h : Gms W.heap.size W A l.games) => ready34_c l A c W h hc)
  have k0 : (w.alloc (.cells #[.int .i64 l.teams, .slice A l.games.length c] 24)).cell? ⟨w.heap.size, 0, none⟩ = some (.int .i64 l.teams) := by simp
  have k1 : (w.alloc (.cells #[.int .i64 l.teams, .slice A l.games.length c] 24)).cell? ⟨w.heap.size, 1, none⟩ = some (.slice A l.games.length c) := by simp
  clear hb hl
  cases hrd : (thinG l.games.length && decide (faultL l = 0))
  · rw [hrd] at HRD
    clear hrd
    go_enter Try.func11, Try.ntmps11
    go_wp2_with fail
    generalize (w.alloc (.cells #[.int .i64 l.teams, .slice A l.games.length c] 24)) = x1 at *
    refine (HRD.out _ HL.out).mono ?_
    rintro e x2 ⟨rfl, hb⟩
    replace HB := Lib.hid (HB.out.trans (hb.mono HB.out.size))
    clear hb
    go_wp2_with fail
    refine (awake16_c _).mono ?_
    rintro e x3 ⟨rfl, hb⟩
    replace HB := Lib.hid (HB.out.trans (hb.mono HB.out.size))
    clear hb
    go_wp2_with fail
    go_ret
    exact ⟨rfl, HB.out⟩
  · rw [hrd] at HRD
    rw [Bool.and_eq_true, decide_eq_true_eq] at hrd
    have hv := valid_iff.1 hrd.2
    have hn : l.games.length ≤ 1000 := by have := hv.len; omega
    have HLG := Lib.hid (fun (W : World) (h : Gms W.heap.size W A l.games) => league18_c l A c W h hc hn)
    have HOP := Lib.hid (fun (W : World) (h : Gms W.heap.size W A l.games) => open26_c l A c W h hc hn)
    have HRK : Hid (∀ (A1 A2 : Option Addr) (c1 : Nat) (W : World), Gms W.heap.size W A1 l.games → (l.games.length ≤ c1 ∧ c1 ≤ 9223372036854775807) → Byts W.heap.size W A2 [1] → Calls Try.prog 19 #[.agg #[.int .i64 l.teams, .slice A1 l.games.length c1], .slice A2 1 1] W (ListE W (rankL l [1]) 0)) := fun A1 A2 c1 W h1 h2 h3 => by
      have h := rank19_c l A1 A2 c1 1 [1] W h1 h2 h3 ⟨by simp, by omega⟩ (by simp)
      rw [show rankErr l [1] = 0 from rank1_ok hv] at h
      exact h
    have HCA := Lib.hid (fun (t : Int) (A1 : Option Addr) (c1 : Nat) (W : World) (h : Gms W.heap.size W A1 l.games) h2 => can43_c l t A1 c1 W h h2)
    have HSU := Lib.hid (fun (t : Int) (A1 : Option Addr) (c1 : Nat) (W : World) (h : Gms W.heap.size W A1 l.games) h2 => sure44_c l t A1 c1 W h h2)
    have HXC : Hid (∀ (xs : List Gm), xs.length = l.games.length → ∀ (A1 : Option Addr) (c1 : Nat) (W : World), Gms W.heap.size W A1 xs → (l.games.length ≤ c1 ∧ c1 ≤ 9223372036854775807) → Calls Try.prog 18 #[.agg #[.int .i64 l.teams, .slice A1 l.games.length c1]] W (LgQ W l.teams xs)) := fun xs hx A1 c1 W h1 h2 => by
      have h := league18_c ⟨l.teams, xs⟩ A1 c1 W h1 (by show xs.length ≤ c1 ∧ _; rw [hx]; exact h2) (by show xs.length ≤ 1000; omega)
      dsimp only at h
      rw [hx] at h
      exact h
    have hT2 := hv.t2
    have hT6 := hv.t6
    have hl20 := hv.len
    obtain ⟨T, hT⟩ : ∃ T : Nat, l.teams.toNat = T := ⟨_, rfl⟩
    have HTI : Hid (l.teams = (T : Int)) := by show _ = _; omega
    have HPF := Lib.hid (fun (xs : List Gm) (h : PlL l.games xs) (t : Nat) (ht : t < T) => plF hv h (show (t : Int) < l.teams by have := HTI.out; omega))
    have HRL : Hid ((rankL l [1]).length = T) := by show _ = _; rw [← hT]; exact rank1_len hv
    have hTp : 2 ≤ T ∧ T ≤ 6 := by omega
    have hol := opens_len l.games
    clear hrd hv hT hT2 hT6
    obtain ⟨rk, hrk⟩ : ∃ rk, rankL l [1] = rk := ⟨_, rfl⟩
    have HRKE := Lib.hid hrk
    rw [hrk] at HRL HRK
    clear hrk
    go_enter Try.func11, Try.ntmps11
    go_wp2_with fail
    generalize (w.alloc (.cells #[.int .i64 l.teams, .slice A l.games.length c] 24)) = x0 at *
    refine (HRD.out _ HL.out).mono ?_
    rintro e x1 ⟨rfl, hb⟩
    replace HB := Lib.hid (HB.out.trans (hb.mono HB.out.size))
    replace HL := Lib.hid (HL.out.step hb)
    replace k0 := cell_of_ans hb k0
    replace k1 := cell_of_ans hb k1
    clear hb
    go_upto_region 3 with fail
    go_upto_region 4 with fail
    obtain ⟨hu0, i0, hi, hz0, hz1, hz2⟩ := tyM (t := 22) (e := 70) (.inr ⟨rfl, rfl⟩)
    have HL1 := HL
    have HB1 := HB
    have k0x := k0
    have k1x := k1
    have ltq := World.block_lt_of_cell? _ _ k1
    dsimp only at ltq
    have hb : Below x1.heap.size x1 (x1.alloc (.cells #[.int .i64 l.teams, .slice A l.games.length c] 24)) := (Below.refl _ _).alloc (Nat.le_refl _) _
    have HQ : Hid (At2 (x1.alloc (.cells #[.int .i64 l.teams, .slice A l.games.length c] 24)) x1.heap.size 24 (.int .i64 l.teams) (.slice A l.games.length c)) := World.alloc_heap_new _ _
    have HQL : Hid (x1.heap.size < (x1.alloc (.cells #[.int .i64 l.teams, .slice A l.games.length c] 24)).heap.size) := by show _ < _; simp
    have HBX := Lib.hid hb
    replace HB := Lib.hid (HB.out.trans (hb.mono HB.out.size))
    replace HL := Lib.hid (HL.out.step hb)
    replace k0 := cell_of_ans hb k0
    replace k1 := cell_of_ans hb k1
    clear hb
    generalize (x1.alloc (.cells #[.int .i64 l.teams, .slice A l.games.length c] 24)) = x2 at *
    generalize x1.heap.size = q at *
    have hs2 := Lib.hid ((HL.out.below ((Below.refl x2.heap.size x2).alloc (Nat.le_refl _) (.cells #[] 70))).isrc)
    have ho : Hid ((x2.alloc (.cells #[] 70)).ownsRow x2.heap.size 70 5 (.slice (some ⟨x2.heap.size, 0, none⟩) 0 0) 0 []) := World.ownsRow_lit x2 #[] 0 (Nat.le_refl _) (by simp [maxLen]) (by simp)
    have h63 : Hid (0 + l.games.length ≤ maxLen) := by show _ ≤ _; unfold maxLen; omega
    have hby : Hid ((0 + l.games.length) * 40 ≤ 140737488355328) := by show _ ≤ _; omega
    have hl63 : l.games.length ≤ 1000 := by omega
    have ltk := World.block_lt_of_cell? _ _ k1
    dsimp only at ltk
    go_upto_region 5 with (at_builtin; refine wpList_append_src rfl (.tmp 29) (.tmp 31) 22 rfl x2.heap.size 70 i0 _ 5 40 hu0 hi hz0 hz1 hz2 rfl (by decide) (.slice (some ⟨x2.heap.size, 0, none⟩) 0 0) 0 [] rfl ho.out A l.games.length c _ rfl hs2.out (one_flatM l.games) h63.out hby.out (by simp) ?_; intro v' w1 hown hgrow _; rw [List.nil_append, Nat.zero_add] at hown; obtain ⟨A9, c9, rfl⟩ := ownsRow_form hown; have HBG : Hid (Below x2.heap.size x2 w1) := ((Below.refl x2.heap.size x2).alloc (Nat.le_refl _) _).grown hgrow (by simp) (fun k e => by injection e with e; subst e; exact Nat.le_refl _); have HQ1 := Lib.hid (HQ.out.low HBG.out HQL.out); obtain ⟨⟨q0, q1⟩, qf⟩ := HQ1.out.cells; have qf1 := qf 1; replace k0 := cell_of_ans HBG.out k0; replace k1 := cell_of_ans HBG.out k1; have HO := Lib.hid hown; clear hown hgrow qf HQ ho hs2 hi hz0 hz1 hz2 hu0)
    have hb5 : Below q x1 (w1.setCell ⟨q, 1, none⟩ (.slice A9 l.games.length c9)) := (HBX.out.trans (HBG.out.mono (Nat.le_of_lt HQL.out))).setCell (Nat.le_refl q) _
    have HQ := Lib.hid (HQ1.out.set1 (.slice A9 l.games.length c9))
    have HO5 : Hid (OwnM 70 x2.heap.size (w1.setCell ⟨q, 1, none⟩ (.slice A9 l.games.length c9)) (.slice A9 l.games.length c9) l.games) := (show OwnM 70 x2.heap.size w1 _ l.games from HO.out).keptBy (grown_set w1 q 1 _) HQL.out
    have hz5 : x2.heap.size ≤ (w1.setCell ⟨q, 1, none⟩ (.slice A9 l.games.length c9)).heap.size := by have := HBG.out.size; simp [World.setCell]; exact this
    have HLQ : Hid (Gms q (w1.setCell ⟨q, 1, none⟩ (.slice A9 l.games.length c9)) A l.games) := HL1.out.below hb5
    replace HL : Hid (Gms (w1.setCell ⟨q, 1, none⟩ (.slice A9 l.games.length c9)).heap.size (w1.setCell ⟨q, 1, none⟩ (.slice A9 l.games.length c9)) A l.games) := (HL1.out.below hb5).more (by have := HQL.out; omega)
    replace k0 : (w1.setCell ⟨q, 1, none⟩ (.slice A9 l.games.length c9)).cell? ⟨w.heap.size, 0, none⟩ = some (.int .i64 l.teams) := (hb5.cell (p := ⟨w.heap.size, 0, none⟩) ltq).trans k0x
    replace k1 : (w1.setCell ⟨q, 1, none⟩ (.slice A9 l.games.length c9)).cell? ⟨w.heap.size, 1, none⟩ = some (.slice A l.games.length c) := (hb5.cell (p := ⟨w.heap.size, 1, none⟩) ltq).trans k1x
    replace HB : Hid (Below w.heap.size w (w1.setCell ⟨q, 1, none⟩ (.slice A9 l.games.length c9))) := HB1.out.trans (hb5.mono (Nat.le_of_lt ltq))
    clear hb5 HL1 HB1 k0x k1x HBX HBG HQ1 HO q0 q1 qf1 ltk h63 hby
    have hqB := HQL.out
    have hqw := ltq
    clear HQL
    generalize x2.heap.size = B0 at *
    generalize (w1.setCell ⟨q, 1, none⟩ (.slice A9 l.games.length c9)) = x5 at *
    have HBY := Lib.hid (Below.refl x5.heap.size x5)
    go_wp2_with fail
    refine (HOP.out _ HL.out).mono ?_
    rintro e x1 ⟨rfl, hb⟩
    replace HL := Lib.hid (HL.out.step hb)
    replace HQ := Lib.hid (HQ.out.step hb)
    replace HO5 := Lib.hid (HO5.out.step hb)
    replace k0 := cell_of_ans hb k0
    replace k1 := cell_of_ans hb k1
    replace HBY := Lib.hid (HBY.out.trans (hb.mono HBY.out.size))
    replace HB := Lib.hid (HB.out.trans (hb.mono HB.out.size))
    clear hb
    have HNN := Lib.hid (rfl : (opensL l.games).length = (opensL l.games).length)
    by_cases hop : 0 < (opensL l.games).length
    rotate_left 1
    · have hopi : ¬ (0 : Int) < ((opensL l.games).length : Int) := by omega
      have hop0 : (((opensL l.games).length : Int) == 0) = true := by rw [beq_iff_eq]; omega
      have HN0 : Hid (opensL l.games = []) := List.eq_nil_of_length_eq_zero (by omega)
      obtain ⟨p1, p2, p3⟩ := HO5.out.parts
      have HXS := Lib.hid p3
      have HC9 : Hid (l.games.length ≤ c9 ∧ c9 ≤ 9223372036854775807) := ⟨p1, p2⟩
      obtain ⟨xs, hxs⟩ : ∃ xs, xs = l.games := ⟨_, rfl⟩
      have HPL : Hid (PlL l.games xs) := by show PlL _ _; rw [hxs]; exact PlL.refl _
      rw [← hxs] at HXS
      clear p1 p2 p3 hxs
      clear HO5
      go_upto_region 15 with fail
      have hxl := HPL.out.length
      have hpf := HPF.out xs HPL.out
      have HPF2 := Lib.hid hpf
      have HXN := Lib.hid (HXC.out xs hxl)
      have HCX : Hid (∀ (t : Int) (A1 : Option Addr) (c1 : Nat) (W : World), Gms W.heap.size W A1 xs → (xs.length ≤ c1 ∧ c1 ≤ 9223372036854775807) → Calls Try.prog 43 #[.agg #[.int .i64 l.teams, .slice A1 xs.length c1], .int .i64 t] W (Ans W (.tuple #[.bool (canL ⟨l.teams, xs⟩ t), .int .i64 (askedL ⟨l.teams, xs⟩ t)]))) := fun t A1 c1 W h h2 => can43_c ⟨l.teams, xs⟩ t A1 c1 W h h2
      have HSX : Hid (∀ (t : Int) (A1 : Option Addr) (c1 : Nat) (W : World), Gms W.heap.size W A1 xs → (xs.length ≤ c1 ∧ c1 ≤ 9223372036854775807) → Calls Try.prog 44 #[.agg #[.int .i64 l.teams, .slice A1 xs.length c1], .int .i64 t] W (Ans W (.tuple #[.bool (sureL ⟨l.teams, xs⟩ t), .int .i64 (askedL ⟨l.teams, xs⟩ t)]))) := fun t A1 c1 W h h2 => sure44_c ⟨l.teams, xs⟩ t A1 c1 W h h2
      clear hpf HPF HXC HPL hxl
      go_wp2_with fail
      refine (HLG.out _ HL.out).mono ?_
      rintro e x2 ⟨A4, c4, rfl, ⟨hg4, hc41, hc42⟩, hb⟩
      replace HL := Lib.hid (HL.out.step hb)
      replace HQ := Lib.hid (HQ.out.step hb)
      replace k0 := cell_of_ans hb k0
      replace k1 := cell_of_ans hb k1
      replace HBY := Lib.hid (HBY.out.trans (hb.mono HBY.out.size))
      replace HXS := Lib.hid (HXS.out.step hb)
      replace HB := Lib.hid (HB.out.trans (hb.mono HB.out.size))
      clear hb
      have hb : Below x2.heap.size x2 (x2.alloc (.cells #[.int .u8 1] 5)) := (Below.refl _ _).alloc (Nat.le_refl _) _
      have HC := Lib.hid (HRK.out A4 (some ⟨x2.heap.size, 0, none⟩) c4 _ (hg4.step hb) ⟨hc41, hc42⟩ ((byts_lit x2 [1] (by decide)).more (by simp)))
      replace HL := Lib.hid (HL.out.step hb)
      replace HQ := Lib.hid (HQ.out.step hb)
      replace k0 := cell_of_ans hb k0
      replace k1 := cell_of_ans hb k1
      replace HBY := Lib.hid (HBY.out.trans (hb.mono HBY.out.size))
      replace HXS := Lib.hid (HXS.out.step hb)
      replace HB := Lib.hid (HB.out.trans (hb.mono HB.out.size))
      clear hb
      clear hg4 HRK
      go_wp2_with fail
      refine (HC.out).mono ?_
      rintro e x3 ⟨A5, c5, rfl, ⟨hi5, hc51, hc52⟩, hb⟩
      replace HL := Lib.hid (HL.out.step hb)
      replace HQ := Lib.hid (HQ.out.step hb)
      replace k0 := cell_of_ans hb k0
      replace k1 := cell_of_ans hb k1
      replace HBY := Lib.hid (HBY.out.trans (hb.mono HBY.out.size))
      replace HXS := Lib.hid (HXS.out.step hb)
      replace HB := Lib.hid (HB.out.trans (hb.mono HB.out.size))
      clear hb
      have Hhi5 := Lib.hid hi5
      clear hi5
      clear HC
      have q3 : ((rk.length : Int) != l.teams) = false := by simp [bne]; have := HRL.out; have := HTI.out; omega
      obtain ⟨b5, o5, rfl, hb5, hc5⟩ := Hhi5.out (by have := HRL.out; omega)
      have HC5 := Lib.hid hc5
      clear hc5 hb5
      clear Hhi5
      go_wp2_with fail
      go_loopw [15] (fun i wr => ∃ t : Nat, t ≤ T ∧ i = .int .i64 t ∧ Below x3.heap.size x3 wr) (fun i _ => T - (intOf i).toNat)
      case atStart => exact ⟨0, by omega, rfl, Below.refl _ _⟩
      case round =>
        obtain ⟨t, ht, rfl, hb⟩ := hrel
        generalize wr = wt at *
        have HBR := Lib.hid (Below.refl x3.heap.size x3)
        replace HL := Lib.hid (HL.out.step hb)
        replace HQ := Lib.hid (HQ.out.step hb)
        replace k0 := cell_of_ans hb k0
        replace k1 := cell_of_ans hb k1
        replace HBY := Lib.hid (HBY.out.trans (hb.mono HBY.out.size))
        replace HXS := Lib.hid (HXS.out.step hb)
        replace HBR := Lib.hid (HBR.out.trans (hb.mono HBR.out.size))
        replace HB := Lib.hid (HB.out.trans (hb.mono HB.out.size))
        clear hb
        obtain ⟨⟨q0, q1⟩, -⟩ := HQ.out.cells
        by_cases h1 : t < T
        · have hti : (t : Int) < l.teams := by have := HTI.out; omega
          have hta : (t : Int) < (rk.length : Int) := by have := HRL.out; omega
          have HG := Lib.hid (HPF2.out t h1)
          have d5 := cell_of_ans HBR.out (HC5.out t (by have := HRL.out; omega))
          clear HPF2 HC5
          go_wp2_with fail
          refine (HLG.out _ HL.out).mono ?_
          rintro e x4 ⟨A6, c6, rfl, ⟨hg6, hc61, hc62⟩, hb⟩
          replace HL := Lib.hid (HL.out.step hb)
          replace HQ := Lib.hid (HQ.out.step hb)
          replace k0 := cell_of_ans hb k0
          replace k1 := cell_of_ans hb k1
          replace HBY := Lib.hid (HBY.out.trans (hb.mono HBY.out.size))
          replace HXS := Lib.hid (HXS.out.step hb)
          replace HBR := Lib.hid (HBR.out.trans (hb.mono HBR.out.size))
          replace q0 := cell_of_ans hb q0
          replace q1 := cell_of_ans hb q1
          replace d5 := cell_of_ans hb d5
          replace HB := Lib.hid (HB.out.trans (hb.mono HB.out.size))
          clear hb
          have Hhg6 := Lib.hid hg6
          clear hg6
          go_wp2_with fail
          refine (HCA.out (t : Int) A6 c6 _ Hhg6.out ⟨hc61, hc62⟩).mono ?_
          rw [HG.out.canl, HG.out.asl]
          rintro e x5 ⟨rfl, hb⟩
          replace HL := Lib.hid (HL.out.step hb)
          replace HQ := Lib.hid (HQ.out.step hb)
          replace k0 := cell_of_ans hb k0
          replace k1 := cell_of_ans hb k1
          replace HBY := Lib.hid (HBY.out.trans (hb.mono HBY.out.size))
          replace HXS := Lib.hid (HXS.out.step hb)
          replace HBR := Lib.hid (HBR.out.trans (hb.mono HBR.out.size))
          replace q0 := cell_of_ans hb q0
          replace q1 := cell_of_ans hb q1
          replace d5 := cell_of_ans hb d5
          replace Hhg6 := Lib.hid (Hhg6.out.step hb)
          replace HB := Lib.hid (HB.out.trans (hb.mono HB.out.size))
          clear hb
          clear Hhg6
          go_wp2_with fail
          refine (HLG.out _ HL.out).mono ?_
          rintro e x6 ⟨A7, c7, rfl, ⟨hg7, hc71, hc72⟩, hb⟩
          replace HL := Lib.hid (HL.out.step hb)
          replace HQ := Lib.hid (HQ.out.step hb)
          replace k0 := cell_of_ans hb k0
          replace k1 := cell_of_ans hb k1
          replace HBY := Lib.hid (HBY.out.trans (hb.mono HBY.out.size))
          replace HXS := Lib.hid (HXS.out.step hb)
          replace HBR := Lib.hid (HBR.out.trans (hb.mono HBR.out.size))
          replace q0 := cell_of_ans hb q0
          replace q1 := cell_of_ans hb q1
          replace d5 := cell_of_ans hb d5
          replace HB := Lib.hid (HB.out.trans (hb.mono HB.out.size))
          clear hb
          have Hhg7 := Lib.hid hg7
          clear hg7
          go_wp2_with fail
          refine (HSU.out (t : Int) A7 c7 _ Hhg7.out ⟨hc71, hc72⟩).mono ?_
          rw [HG.out.surel, HG.out.asl]
          rintro e x7 ⟨rfl, hb⟩
          replace HL := Lib.hid (HL.out.step hb)
          replace HQ := Lib.hid (HQ.out.step hb)
          replace k0 := cell_of_ans hb k0
          replace k1 := cell_of_ans hb k1
          replace HBY := Lib.hid (HBY.out.trans (hb.mono HBY.out.size))
          replace HXS := Lib.hid (HXS.out.step hb)
          replace HBR := Lib.hid (HBR.out.trans (hb.mono HBR.out.size))
          replace q0 := cell_of_ans hb q0
          replace q1 := cell_of_ans hb q1
          replace d5 := cell_of_ans hb d5
          replace Hhg7 := Lib.hid (Hhg7.out.step hb)
          replace HB := Lib.hid (HB.out.trans (hb.mono HB.out.size))
          clear hb
          clear Hhg7
          go_wp2_with fail
          refine (HXN.out A9 c9 _ HXS.out HC9.out).mono ?_
          rintro e x8 ⟨A10, c10, rfl, ⟨hg10, hc101, hc102⟩, hb⟩
          replace HL := Lib.hid (HL.out.step hb)
          replace HQ := Lib.hid (HQ.out.step hb)
          replace k0 := cell_of_ans hb k0
          replace k1 := cell_of_ans hb k1
          replace HBY := Lib.hid (HBY.out.trans (hb.mono HBY.out.size))
          replace HXS := Lib.hid (HXS.out.step hb)
          replace HBR := Lib.hid (HBR.out.trans (hb.mono HBR.out.size))
          replace q0 := cell_of_ans hb q0
          replace q1 := cell_of_ans hb q1
          replace d5 := cell_of_ans hb d5
          replace HB := Lib.hid (HB.out.trans (hb.mono HB.out.size))
          clear hb
          have Hhg10 := Lib.hid hg10
          clear hg10
          go_wp2_with fail
          refine (HCX.out (t : Int) A10 c10 _ Hhg10.out ⟨hc101, hc102⟩).mono ?_
          rw [HG.out.canx, HG.out.asx]
          rintro e x9 ⟨rfl, hb⟩
          replace HL := Lib.hid (HL.out.step hb)
          replace HQ := Lib.hid (HQ.out.step hb)
          replace k0 := cell_of_ans hb k0
          replace k1 := cell_of_ans hb k1
          replace HBY := Lib.hid (HBY.out.trans (hb.mono HBY.out.size))
          replace HXS := Lib.hid (HXS.out.step hb)
          replace HBR := Lib.hid (HBR.out.trans (hb.mono HBR.out.size))
          replace q0 := cell_of_ans hb q0
          replace q1 := cell_of_ans hb q1
          replace d5 := cell_of_ans hb d5
          replace Hhg10 := Lib.hid (Hhg10.out.step hb)
          replace HB := Lib.hid (HB.out.trans (hb.mono HB.out.size))
          clear hb
          clear Hhg10
          go_wp2_with fail
          refine (HXN.out A9 c9 _ HXS.out HC9.out).mono ?_
          rintro e x10 ⟨A11, c11, rfl, ⟨hg11, hc111, hc112⟩, hb⟩
          replace HL := Lib.hid (HL.out.step hb)
          replace HQ := Lib.hid (HQ.out.step hb)
          replace k0 := cell_of_ans hb k0
          replace k1 := cell_of_ans hb k1
          replace HBY := Lib.hid (HBY.out.trans (hb.mono HBY.out.size))
          replace HXS := Lib.hid (HXS.out.step hb)
          replace HBR := Lib.hid (HBR.out.trans (hb.mono HBR.out.size))
          replace q0 := cell_of_ans hb q0
          replace q1 := cell_of_ans hb q1
          replace d5 := cell_of_ans hb d5
          replace HB := Lib.hid (HB.out.trans (hb.mono HB.out.size))
          clear hb
          have Hhg11 := Lib.hid hg11
          clear hg11
          go_wp2_with fail
          refine (HSX.out (t : Int) A11 c11 _ Hhg11.out ⟨hc111, hc112⟩).mono ?_
          rw [HG.out.surex, HG.out.asx]
          rintro e x11 ⟨rfl, hb⟩
          replace HL := Lib.hid (HL.out.step hb)
          replace HQ := Lib.hid (HQ.out.step hb)
          replace k0 := cell_of_ans hb k0
          replace k1 := cell_of_ans hb k1
          replace HBY := Lib.hid (HBY.out.trans (hb.mono HBY.out.size))
          replace HXS := Lib.hid (HXS.out.step hb)
          replace HBR := Lib.hid (HBR.out.trans (hb.mono HBR.out.size))
          replace q0 := cell_of_ans hb q0
          replace q1 := cell_of_ans hb q1
          replace d5 := cell_of_ans hb d5
          replace Hhg11 := Lib.hid (Hhg11.out.step hb)
          replace HB := Lib.hid (HB.out.trans (hb.mono HB.out.size))
          clear hb
          clear Hhg11
          have hcan := HG.out.can
          have hsure := HG.out.sure
          obtain ⟨he1, he2⟩ := HG.out.none HN0.out
          rw [HRKE.out] at he2
          clear HG HCA HSU HCX HSX HXN HLG
          generalize canB l t = cb at *
          generalize sureB l t = sb at *
          generalize canB ⟨l.teams, xs⟩ t = db at *
          generalize sureB ⟨l.teams, xs⟩ t = ub at *
          generalize ix rk t = rr at *
          subst he1
          cases cb
          · have hd : db = false := by cases db; rfl; exact absurd (hcan rfl) (by simp)
            subst hd
            clear hcan
            have hr1 : (rr == 1) = false := by rw [beq_eq_false_iff_ne]; intro h; exact absurd (he2.2 h) (by simp)
            clear he2
            cases ub
            · go_wp2_with fail
              go_roundw
              case rel => exact ⟨t + 1, by omega, by go_num, HBR.out⟩
              case measure => simp [intOf]; omega
            · go_wp2_with fail
              go_roundw
              case rel => exact ⟨t + 1, by omega, by go_num, HBR.out⟩
              case measure => simp [intOf]; omega
          · have hu := hsure rfl
            subst hu
            clear hcan
            have hr1 : (rr == 1) = true := by rw [beq_iff_eq]; exact he2.1 rfl
            clear he2
            cases db
            · go_wp2_with fail
              go_roundw
              case rel => exact ⟨t + 1, by omega, by go_num, HBR.out⟩
              case measure => simp [intOf]; omega
            · go_wp2_with fail
              go_roundw
              case rel => exact ⟨t + 1, by omega, by go_num, HBR.out⟩
              case measure => simp [intOf]; omega
        · obtain rfl : t = T := by omega
          have hti : ¬ (t : Int) < l.teams := by have := HTI.out; omega
          go_wp2_with fail
          refine (awake16_c _).mono ?_
          rintro e x12 ⟨rfl, hb⟩
          replace HL := Lib.hid (HL.out.step hb)
          replace HQ := Lib.hid (HQ.out.step hb)
          replace k0 := cell_of_ans hb k0
          replace k1 := cell_of_ans hb k1
          replace HBY := Lib.hid (HBY.out.trans (hb.mono HBY.out.size))
          replace HXS := Lib.hid (HXS.out.step hb)
          replace HBR := Lib.hid (HBR.out.trans (hb.mono HBR.out.size))
          replace q0 := cell_of_ans hb q0
          replace q1 := cell_of_ans hb q1
          replace HB := Lib.hid (HB.out.trans (hb.mono HB.out.size))
          clear hb
          go_wp2_with fail
          go_ret
          exact ⟨rfl, HB.out⟩
    · have hopi : (0 : Int) < ((opensL l.games).length : Int) := by omega
      have hop0 : (((opensL l.games).length : Int) == 0) = false := by rw [beq_eq_false_iff_ne]; omega
      have hopz : ¬ ((opensL l.games).length : Int) = 0 := by omega
      obtain ⟨g9, rfl, hg9, hg9l⟩ := HO5.out.some_ (by omega)
      have hws : IntKind.i64.wrap s = s := IntWalk.i64_in _ (by omega)
      obtain ⟨k9, hk9⟩ : ∃ v, s.tmod ((opensL l.games).length : Int) = v := ⟨_, rfl⟩
      have hkr : 0 ≤ k9 ∧ k9 ≤ 255 := by rw [← hk9, Int.tmod_eq_emod_of_nonneg hs.1]; have := Int.emod_nonneg s hopz; have := Int.emod_lt_of_pos s hopi; omega
      have hwk9 : IntKind.i64.wrap k9 = k9 := IntWalk.i64_in _ (by omega)
      have hwa : IntKind.i64.wrap a = a := IntWalk.i64_in _ (by omega)
      have hwb : IntKind.i64.wrap b = b := IntWalk.i64_in _ (by omega)
      obtain ⟨pa, hpa⟩ : ∃ v, a.tmod 3001 = v := ⟨_, rfl⟩
      obtain ⟨pb, hpb⟩ : ∃ v, b.tmod 3001 = v := ⟨_, rfl⟩
      have hpar : 0 ≤ pa ∧ pa ≤ 3000 := by rw [← hpa, Int.tmod_eq_emod_of_nonneg ha.1]; omega
      have hpbr : 0 ≤ pb ∧ pb ≤ 3000 := by rw [← hpb, Int.tmod_eq_emod_of_nonneg hbb.1]; omega
      have hwpa : IntKind.i64.wrap pa = pa := IntWalk.i64_in _ (by omega)
      have hwpb : IntKind.i64.wrap pb = pb := IntWalk.i64_in _ (by omega)
      have HXL : Hid ((plG pa pb l.games k9).length = l.games.length) := plG_len _ _
      have HPL : Hid (PlL l.games (plG pa pb l.games k9)) := plG_pl hpar hpbr _ _
      have HAT := Lib.hid (fun i h => plG_at (pa := pa) (pb := pb) l.games k9 i h)
      obtain ⟨xs, hxs⟩ : ∃ xs, plG pa pb l.games k9 = xs := ⟨_, rfl⟩
      rw [hxs] at HXL HPL HAT
      clear hxs
      go_wp2_with fail
      go_loopw [11, 12] (fun kk i wr => ∃ j : Nat, j ≤ l.games.length ∧ i = .int .i64 j ∧ kk = .int .i64 (kAt l.games k9 j) ∧ OwnM 70 B0 wr (.slice (some ⟨g9, 0, none⟩) l.games.length c9) (mixL xs l.games j) ∧ Below B0 x1 wr) (fun _ i _ => l.games.length - (intOf i).toNat)
      case atStart => exact ⟨0, by omega, rfl, by simp [kAt], by rw [mix_zero]; exact HO5.out, Below.refl _ _⟩
      case round =>
        obtain ⟨j, hj, rfl, rfl, ho2, hb⟩ := hrel
        have HO2 := Lib.hid ho2
        have HB2 := Lib.hid hb
        obtain ⟨⟨q0, q1⟩, -⟩ := (HQ.out.low hb hqB).cells
        have hbw : B0 ≤ wr.heap.size := by have := hb.size; omega
        clear ho2 hb
        by_cases h1 : j < l.games.length
        · have h1i : (j : Int) < (l.games.length : Int) := by omega
          have hml := mix_len HXL.out (Nat.le_of_lt h1)
          obtain ⟨hw5, hfz⟩ := HO2.out.elem (show j < (mixL xs l.games j).length by omega)
          rw [mix_at HXL.out h1] at hw5
          obtain ⟨c1, c2, c3, c4, c5⟩ := hw5
          have f4 := hfz (j * 5 + 4)
          have f2 := hfz (j * 5 + 2)
          have f3 := hfz (j * 5 + 3)
          have hkr2 := kAt_rng l.games k9 j
          have HKS := Lib.hid (kAt_succ l.games k9 j h1)
          have HA := Lib.hid (HAT.out j h1)
          have HM0 : Hid (gmx xs j = gmx l.games j → mixL xs l.games (j + 1) = mixL xs l.games j) := fun h => mix_same HXL.out h1 h
          have HM1 : Hid (gmx xs j = ⟨(gmx l.games j).a, (gmx l.games j).b, pa, pb, false⟩ → ∀ W, OwnM 70 B0 W (.slice (some ⟨g9, 0, none⟩) l.games.length c9) (mixL xs l.games j) → OwnM 70 B0 (setP W g9 j pa pb) (.slice (some ⟨g9, 0, none⟩) l.games.length c9) (mixL xs l.games (j + 1))) := fun h W ho => by
            have := ho.played (show j < (mixL xs l.games j).length by omega) pa pb
            rwa [mix_at HXL.out h1, ← h, ← mix_succ HXL.out h1] at this
          clear hfz hml HAT
          generalize gmx xs j = gx at *
          generalize gmx l.games j = gg at *
          obtain ⟨ga, gb, gpa, gpb, gop⟩ := gg
          dsimp only at c1 c2 c3 c4 c5 HKS HA HM1
          obtain ⟨kj, hkj⟩ : ∃ v, kAt l.games k9 j = v := ⟨_, rfl⟩
          rw [hkj] at HKS HA hkr2
          have hwk1 : IntKind.i64.wrap (kj - 1) = kj - 1 := IntWalk.i64_in _ (by omega)
          cases gop
          · have hm := HM0.out (by rw [HA.out]; simp)
            have HMM := Lib.hid hm
            clear hm HM0 HM1 HA
            rw [hkj]
            go_wp2_with fail
            go_roundw
            case rel => exact ⟨j + 1, by omega, by go_num, by rw [HKS.out]; rfl, by rw [HMM.out]; exact HO2.out, HB2.out⟩
            case measure => simp [intOf]; omega
          · by_cases hk0 : kj = 0
            · have HX1 := Lib.hid (HM1.out (by rw [HA.out]; simp [hk0]))
              have hk0b : (kj == 0) = true := by simp [hk0]
              clear HM0 HM1 HA
              rw [hkj]
              go_upto_region 13 with fail
              refine wp_region_noPanic ?_
              have hS : (fun W' : World => Below B0 wr W') wr.drew := (Below.refl _ _).drew
              refine wp_region_any (by kernel_rfl) (wpAny_of_T (S := fun W' : World => Below B0 wr W') (m := 24) _ _ _ _ ?_)
              refine' T_take (i := 0) (v := _) rfl (by kernel_rfl) (by kernel_rfl) (by kernel_rfl) (by kernel_rfl) (fun _ _ _ h => h) (by kernel_rfl) hS ?_ ?_
              rotate_left 1
              · intro Wv hW
                have g1 := (hW.cell (p := ⟨q, 1, none⟩) hqB).trans q1
                go_simp
                first | done | with_reducible rfl | omega
              try simp only [Act.put, List.setIfInBounds_toArray, List.set_cons_zero, List.set_cons_succ]
              refine' T_take (i := 1) (v := _) rfl (by kernel_rfl) (by kernel_rfl) (by kernel_rfl) (by kernel_rfl) (fun _ _ _ h => h) (by kernel_rfl) hS ?_ ?_
              rotate_left 1
              · intro Wv hW
                have g1 := (hW.cell (p := ⟨q, 1, none⟩) hqB).trans q1
                go_simp
                first | done | with_reducible rfl | omega
              try simp only [Act.put, List.setIfInBounds_toArray, List.set_cons_zero, List.set_cons_succ]
              refine' T_take (i := 2) (v := _) rfl (by kernel_rfl) (by kernel_rfl) (by kernel_rfl) (by kernel_rfl) (fun _ _ _ h => h) (by kernel_rfl) hS ?_ ?_
              rotate_left 1
              · intro Wv hW
                have g1 := (hW.cell (p := ⟨q, 1, none⟩) hqB).trans q1
                go_simp
                first | done | with_reducible rfl | omega
              try simp only [Act.put, List.setIfInBounds_toArray, List.set_cons_zero, List.set_cons_succ]
              refine' T_take (i := 3) (v := _) rfl (by kernel_rfl) (by kernel_rfl) (by kernel_rfl) (by kernel_rfl) (fun _ _ _ h => h) (by kernel_rfl) hS ?_ ?_
              rotate_left 1
              · intro Wv hW
                have g1 := (hW.cell (p := ⟨q, 1, none⟩) hqB).trans q1
                go_simp
                first | done | with_reducible rfl | omega
              try simp only [Act.put, List.setIfInBounds_toArray, List.set_cons_zero, List.set_cons_succ]
              refine' T_take (i := 4) (v := _) rfl (by kernel_rfl) (by kernel_rfl) (by kernel_rfl) (by kernel_rfl) (fun _ _ _ h => h) (by kernel_rfl) hS ?_ ?_
              rotate_left 1
              · intro Wv hW
                have g1 := (hW.cell (p := ⟨q, 1, none⟩) hqB).trans q1
                go_simp
                first | done | with_reducible rfl | omega
              try simp only [Act.put, List.setIfInBounds_toArray, List.set_cons_zero, List.set_cons_succ]
              refine' T_take (i := 5) (v := _) rfl (by kernel_rfl) (by kernel_rfl) (by kernel_rfl) (by kernel_rfl) (fun _ _ _ h => h) (by kernel_rfl) hS ?_ ?_
              rotate_left 1
              · intro Wv hW
                have g1 := (hW.cell (p := ⟨q, 1, none⟩) hqB).trans q1
                go_simp
                first | done | with_reducible rfl | omega
              try simp only [Act.put, List.setIfInBounds_toArray, List.set_cons_zero, List.set_cons_succ]
              refine' T_take (i := 6) (v := _) rfl (by kernel_rfl) (by kernel_rfl) (by kernel_rfl) (by kernel_rfl) (fun _ _ _ h => h) (by kernel_rfl) hS ?_ ?_
              rotate_left 1
              · intro Wv hW
                have g1 := (hW.cell (p := ⟨q, 1, none⟩) hqB).trans q1
                go_simp
                first | done | with_reducible rfl | omega
              try simp only [Act.put, List.setIfInBounds_toArray, List.set_cons_zero, List.set_cons_succ]
              refine' T_take (i := 7) (v := _) rfl (by kernel_rfl) (by kernel_rfl) (by kernel_rfl) (by kernel_rfl) (fun _ _ _ h => h) (by kernel_rfl) hS ?_ ?_
              rotate_left 1
              · intro Wv hW
                have g1 := (hW.cell (p := ⟨q, 1, none⟩) hqB).trans q1
                go_simp
                first | done | with_reducible rfl | omega
              try simp only [Act.put, List.setIfInBounds_toArray, List.set_cons_zero, List.set_cons_succ]
              refine' T_take (i := 8) (v := _) rfl (by kernel_rfl) (by kernel_rfl) (by kernel_rfl) (by kernel_rfl) (fun _ _ _ h => h) (by kernel_rfl) hS ?_ ?_
              rotate_left 1
              · intro Wv hW
                have g1 := (hW.cell (p := ⟨q, 1, none⟩) hqB).trans q1
                go_simp
                first | done | with_reducible rfl | omega
              try simp only [Act.put, List.setIfInBounds_toArray, List.set_cons_zero, List.set_cons_succ]
              refine' T_take (i := 9) (v := _) rfl (by kernel_rfl) (by kernel_rfl) (by kernel_rfl) (by kernel_rfl) (fun _ _ _ h => h) (by kernel_rfl) hS ?_ ?_
              rotate_left 1
              · intro Wv hW
                have g1 := (hW.cell (p := ⟨q, 1, none⟩) hqB).trans q1
                go_simp
                first | done | with_reducible rfl | omega
              try simp only [Act.put, List.setIfInBounds_toArray, List.set_cons_zero, List.set_cons_succ]
              refine' T_take (i := 10) (v := _) rfl (by kernel_rfl) (by kernel_rfl) (by kernel_rfl) (by kernel_rfl) (fun _ _ _ h => h) (by kernel_rfl) hS ?_ ?_
              rotate_left 1
              · intro Wv hW
                have g1 := (hW.cell (p := ⟨q, 1, none⟩) hqB).trans q1
                go_simp
                first | done | with_reducible rfl | omega
              try simp only [Act.put, List.setIfInBounds_toArray, List.set_cons_zero, List.set_cons_succ]
              refine' T_take (i := 11) (v := _) rfl (by kernel_rfl) (by kernel_rfl) (by kernel_rfl) (by kernel_rfl) (fun _ _ _ h => h) (by kernel_rfl) hS ?_ ?_
              rotate_left 1
              · intro Wv hW
                have g1 := (hW.cell (p := ⟨q, 1, none⟩) hqB).trans q1
                go_simp
                first | done | with_reducible rfl | omega
              try simp only [Act.put, List.setIfInBounds_toArray, List.set_cons_zero, List.set_cons_succ]
              refine' T_take (i := 12) (v := _) rfl (by kernel_rfl) (by kernel_rfl) (by kernel_rfl) (by kernel_rfl) (fun _ _ _ h => h) (by kernel_rfl) hS ?_ ?_
              rotate_left 1
              · intro Wv hW
                have g1 := (hW.cell (p := ⟨q, 1, none⟩) hqB).trans q1
                go_simp
                first | done | with_reducible rfl | omega
              try simp only [Act.put, List.setIfInBounds_toArray, List.set_cons_zero, List.set_cons_succ]
              refine' T_take (i := 13) (v := _) rfl (by kernel_rfl) (by kernel_rfl) (by kernel_rfl) (by kernel_rfl) (fun _ _ _ h => h) (by kernel_rfl) hS ?_ ?_
              rotate_left 1
              · intro Wv hW
                have g1 := (hW.cell (p := ⟨q, 1, none⟩) hqB).trans q1
                go_simp
                first | done | with_reducible rfl | omega
              try simp only [Act.put, List.setIfInBounds_toArray, List.set_cons_zero, List.set_cons_succ]
              refine' T_take (i := 14) (v := _) rfl (by kernel_rfl) (by kernel_rfl) (by kernel_rfl) (by kernel_rfl) (fun _ _ _ h => h) (by kernel_rfl) hS ?_ ?_
              rotate_left 1
              · intro Wv hW
                have g1 := (hW.cell (p := ⟨q, 1, none⟩) hqB).trans q1
                go_simp
                first | done | with_reducible rfl | omega
              try simp only [Act.put, List.setIfInBounds_toArray, List.set_cons_zero, List.set_cons_succ]
              refine' T_take (i := 15) (v := _) rfl (by kernel_rfl) (by kernel_rfl) (by kernel_rfl) (by kernel_rfl) (fun _ _ _ h => h) (by kernel_rfl) hS ?_ ?_
              rotate_left 1
              · intro Wv hW
                have g1 := (hW.cell (p := ⟨q, 1, none⟩) hqB).trans q1
                go_simp
                first | done | with_reducible rfl | omega
              try simp only [Act.put, List.setIfInBounds_toArray, List.set_cons_zero, List.set_cons_succ]
              refine' T_take (i := 16) (v := _) rfl (by kernel_rfl) (by kernel_rfl) (by kernel_rfl) (by kernel_rfl) (fun _ _ _ h => h) (by kernel_rfl) hS ?_ ?_
              rotate_left 1
              · intro Wv hW
                have g1 := (hW.cell (p := ⟨q, 1, none⟩) hqB).trans q1
                go_simp
                first | done | with_reducible rfl | omega
              try simp only [Act.put, List.setIfInBounds_toArray, List.set_cons_zero, List.set_cons_succ]
              refine T_ready (rs := [17]) (by kernel_rfl) (by simp) ?_
              refine TReady.cons rfl (fun K hK => ?_) TReady.nil
              try go_simp
              refine hK.out _ _ (fun _ => hS.setCell hg9 _) (fun hS2 => ?_)
              replace hS := hS2 (by decide)
              clear hS2 hK K
              try simp only [Act.put, List.setIfInBounds_toArray, List.set_cons_zero, List.set_cons_succ]
              refine' T_take (i := 18) (v := _) rfl (by kernel_rfl) (by kernel_rfl) (by kernel_rfl) (by kernel_rfl) (fun _ _ _ h => h) (by kernel_rfl) hS ?_ ?_
              rotate_left 1
              · intro Wv hW
                have g1 := (hW.cell (p := ⟨q, 1, none⟩) hqB).trans q1
                go_simp
                first | done | with_reducible rfl | omega
              try simp only [Act.put, List.setIfInBounds_toArray, List.set_cons_zero, List.set_cons_succ]
              refine' T_take (i := 19) (v := _) rfl (by kernel_rfl) (by kernel_rfl) (by kernel_rfl) (by kernel_rfl) (fun _ _ _ h => h) (by kernel_rfl) hS ?_ ?_
              rotate_left 1
              · intro Wv hW
                have g1 := (hW.cell (p := ⟨q, 1, none⟩) hqB).trans q1
                go_simp
                first | done | with_reducible rfl | omega
              try simp only [Act.put, List.setIfInBounds_toArray, List.set_cons_zero, List.set_cons_succ]
              refine T_ready (rs := [20]) (by kernel_rfl) (by simp) ?_
              refine TReady.cons rfl (fun K hK => ?_) TReady.nil
              try go_simp
              refine hK.out _ _ (fun _ => hS.setCell hg9 _) (fun hS2 => ?_)
              replace hS := hS2 (by decide)
              clear hS2 hK K
              try simp only [Act.put, List.setIfInBounds_toArray, List.set_cons_zero, List.set_cons_succ]
              refine' T_take (i := 21) (v := _) rfl (by kernel_rfl) (by kernel_rfl) (by kernel_rfl) (by kernel_rfl) (fun _ _ _ h => h) (by kernel_rfl) hS ?_ ?_
              rotate_left 1
              · intro Wv hW
                have g1 := (hW.cell (p := ⟨q, 1, none⟩) hqB).trans q1
                go_simp
                first | done | with_reducible rfl | omega
              try simp only [Act.put, List.setIfInBounds_toArray, List.set_cons_zero, List.set_cons_succ]
              refine' T_take (i := 22) (v := _) rfl (by kernel_rfl) (by kernel_rfl) (by kernel_rfl) (by kernel_rfl) (fun _ _ _ h => h) (by kernel_rfl) hS ?_ ?_
              rotate_left 1
              · intro Wv hW
                have g1 := (hW.cell (p := ⟨q, 1, none⟩) hqB).trans q1
                go_simp
                first | done | with_reducible rfl | omega
              try simp only [Act.put, List.setIfInBounds_toArray, List.set_cons_zero, List.set_cons_succ]
              refine T_ready (rs := [23]) (by kernel_rfl) (by simp) ?_
              refine TReady.cons rfl (fun K hK => ?_) TReady.nil
              try go_simp
              refine hK.out _ _ (fun _ => hS.setCell hg9 _) (fun hS2 => ?_)
              replace hS := hS2 (by decide)
              clear hS2 hK K
              try simp only [Act.put, List.setIfInBounds_toArray, List.set_cons_zero, List.set_cons_succ]
              refine T_done (by kernel_rfl) ?_ _
              refine NoPanic.normal ?_
              try go_simp
              have HO3 := Lib.hid (HX1.out wr.drew (HO2.out.kept (Below.refl _ _).drew))
              have HB3 : Hid (Below B0 x1 (setP wr.drew g9 j pa pb)) := below_setP (HB2.out.trans ((Below.refl B0 wr).drew)) hg9 j pa pb
              unfold setP at HO3 HB3
              go_wp2_with fail
              go_roundw
              case rel => exact ⟨j + 1, by omega, by go_num, by rw [HKS.out]; simp [hk0], HO3.out, HB3.out⟩
              case measure => simp [intOf]; omega
            · have hm := HM0.out (by rw [HA.out]; simp [hk0])
              have HMM := Lib.hid hm
              have hk0b : (kj == 0) = false := by simp [hk0]
              clear hm HM0 HM1 HA
              rw [hkj]
              go_wp2_with fail
              go_roundw
              case rel => exact ⟨j + 1, by omega, by go_num, by rw [HKS.out]; rfl, by rw [HMM.out]; exact HO2.out, HB2.out⟩
              case measure => simp [intOf]; omega
        · obtain rfl : j = l.games.length := by omega
          have h1i : ¬ (l.games.length : Int) < (l.games.length : Int) := by omega
          rw [mix_all HXL.out] at HO2
          have HO2' : OwnM 70 B0 wr (.slice (some ⟨g9, 0, none⟩) xs.length c9) xs := by rw [HXL.out]; exact HO2.out
          obtain ⟨p1, p2, p3⟩ := HO2'.parts
          rw [HXL.out] at p1
          have HXS := Lib.hid p3
          have HC9 : Hid (l.games.length ≤ c9 ∧ c9 ≤ 9223372036854775807) := ⟨p1, p2⟩
          replace HL : Hid (Gms wr.heap.size wr A l.games) := (HLQ.out.below ((HBY.out.mono (by omega)).trans (HB2.out.mono (by omega)))).more (by omega)
          replace HQ := Lib.hid (HQ.out.low HB2.out hqB)
          replace k0 := (HB2.out.cell (p := ⟨w.heap.size, 0, none⟩) (by show w.heap.size < B0; omega)).trans k0
          replace k1 := (HB2.out.cell (p := ⟨w.heap.size, 1, none⟩) (by show w.heap.size < B0; omega)).trans k1
          replace HB := Lib.hid (HB.out.trans (HB2.out.mono (by omega)))
          clear HO2 HO2' p1 p2 p3 HB2 HLQ HBY HAT HO5 q0 q1 HXL
          generalize wr = y9 at *
          obtain ⟨⟨q0, q1⟩, -⟩ := HQ.out.cells
          clear hk9 hkr hwk9 hws hwa hwb hpa hpb hwpa hwpb hpar hpbr hopz HNN hz5
          go_upto_region 15 with fail
          clear q0 q1
          have hxl := HPL.out.length
          have hpf := HPF.out xs HPL.out
          have HPF2 := Lib.hid hpf
          have HXN := Lib.hid (HXC.out xs hxl)
          have HCX : Hid (∀ (t : Int) (A1 : Option Addr) (c1 : Nat) (W : World), Gms W.heap.size W A1 xs → (xs.length ≤ c1 ∧ c1 ≤ 9223372036854775807) → Calls Try.prog 43 #[.agg #[.int .i64 l.teams, .slice A1 xs.length c1], .int .i64 t] W (Ans W (.tuple #[.bool (canL ⟨l.teams, xs⟩ t), .int .i64 (askedL ⟨l.teams, xs⟩ t)]))) := fun t A1 c1 W h h2 => can43_c ⟨l.teams, xs⟩ t A1 c1 W h h2
          have HSX : Hid (∀ (t : Int) (A1 : Option Addr) (c1 : Nat) (W : World), Gms W.heap.size W A1 xs → (xs.length ≤ c1 ∧ c1 ≤ 9223372036854775807) → Calls Try.prog 44 #[.agg #[.int .i64 l.teams, .slice A1 xs.length c1], .int .i64 t] W (Ans W (.tuple #[.bool (sureL ⟨l.teams, xs⟩ t), .int .i64 (askedL ⟨l.teams, xs⟩ t)]))) := fun t A1 c1 W h h2 => sure44_c ⟨l.teams, xs⟩ t A1 c1 W h h2
          clear hpf HPF HXC HPL hxl
          go_wp2_with fail
          refine (HLG.out _ HL.out).mono ?_
          rintro e x13 ⟨A4, c4, rfl, ⟨hg4, hc41, hc42⟩, hb⟩
          replace HL := Lib.hid (HL.out.step hb)
          replace HQ := Lib.hid (HQ.out.step hb)
          replace k0 := cell_of_ans hb k0
          replace k1 := cell_of_ans hb k1
          replace HXS := Lib.hid (HXS.out.step hb)
          replace HB := Lib.hid (HB.out.trans (hb.mono HB.out.size))
          clear hb
          have hb : Below x13.heap.size x13 (x13.alloc (.cells #[.int .u8 1] 5)) := (Below.refl _ _).alloc (Nat.le_refl _) _
          have HC := Lib.hid (HRK.out A4 (some ⟨x13.heap.size, 0, none⟩) c4 _ (hg4.step hb) ⟨hc41, hc42⟩ ((byts_lit x13 [1] (by decide)).more (by simp)))
          replace HL := Lib.hid (HL.out.step hb)
          replace HQ := Lib.hid (HQ.out.step hb)
          replace k0 := cell_of_ans hb k0
          replace k1 := cell_of_ans hb k1
          replace HXS := Lib.hid (HXS.out.step hb)
          replace HB := Lib.hid (HB.out.trans (hb.mono HB.out.size))
          clear hb
          clear hg4 HRK
          go_wp2_with fail
          refine (HC.out).mono ?_
          rintro e x14 ⟨A5, c5, rfl, ⟨hi5, hc51, hc52⟩, hb⟩
          replace HL := Lib.hid (HL.out.step hb)
          replace HQ := Lib.hid (HQ.out.step hb)
          replace k0 := cell_of_ans hb k0
          replace k1 := cell_of_ans hb k1
          replace HXS := Lib.hid (HXS.out.step hb)
          replace HB := Lib.hid (HB.out.trans (hb.mono HB.out.size))
          clear hb
          have Hhi5 := Lib.hid hi5
          clear hi5
          clear HC
          have q3 : ((rk.length : Int) != l.teams) = false := by simp [bne]; have := HRL.out; have := HTI.out; omega
          obtain ⟨b5, o5, rfl, hb5, hc5⟩ := Hhi5.out (by have := HRL.out; omega)
          have HC5 := Lib.hid hc5
          clear hc5 hb5
          clear Hhi5
          go_wp2_with fail
          go_loopw [15] (fun i wr => ∃ t : Nat, t ≤ T ∧ i = .int .i64 t ∧ Below x14.heap.size x14 wr) (fun i _ => T - (intOf i).toNat)
          case atStart => exact ⟨0, by omega, rfl, Below.refl _ _⟩
          case round =>
            obtain ⟨t, ht, rfl, hb⟩ := hrel
            generalize wr = wt at *
            have HBR := Lib.hid (Below.refl x14.heap.size x14)
            replace HL := Lib.hid (HL.out.step hb)
            replace HQ := Lib.hid (HQ.out.step hb)
            replace k0 := cell_of_ans hb k0
            replace k1 := cell_of_ans hb k1
            replace HXS := Lib.hid (HXS.out.step hb)
            replace HBR := Lib.hid (HBR.out.trans (hb.mono HBR.out.size))
            replace HB := Lib.hid (HB.out.trans (hb.mono HB.out.size))
            clear hb
            obtain ⟨⟨q0, q1⟩, -⟩ := HQ.out.cells
            by_cases h1 : t < T
            · have hti : (t : Int) < l.teams := by have := HTI.out; omega
              have hta : (t : Int) < (rk.length : Int) := by have := HRL.out; omega
              have HG := Lib.hid (HPF2.out t h1)
              have d5 := cell_of_ans HBR.out (HC5.out t (by have := HRL.out; omega))
              clear HPF2 HC5
              go_wp2_with fail
              refine (HLG.out _ HL.out).mono ?_
              rintro e x15 ⟨A6, c6, rfl, ⟨hg6, hc61, hc62⟩, hb⟩
              replace HL := Lib.hid (HL.out.step hb)
              replace HQ := Lib.hid (HQ.out.step hb)
              replace k0 := cell_of_ans hb k0
              replace k1 := cell_of_ans hb k1
              replace HXS := Lib.hid (HXS.out.step hb)
              replace HBR := Lib.hid (HBR.out.trans (hb.mono HBR.out.size))
              replace q0 := cell_of_ans hb q0
              replace q1 := cell_of_ans hb q1
              replace d5 := cell_of_ans hb d5
              replace HB := Lib.hid (HB.out.trans (hb.mono HB.out.size))
              clear hb
              have Hhg6 := Lib.hid hg6
              clear hg6
              go_wp2_with fail
              refine (HCA.out (t : Int) A6 c6 _ Hhg6.out ⟨hc61, hc62⟩).mono ?_
              rw [HG.out.canl, HG.out.asl]
              rintro e x16 ⟨rfl, hb⟩
              replace HL := Lib.hid (HL.out.step hb)
              replace HQ := Lib.hid (HQ.out.step hb)
              replace k0 := cell_of_ans hb k0
              replace k1 := cell_of_ans hb k1
              replace HXS := Lib.hid (HXS.out.step hb)
              replace HBR := Lib.hid (HBR.out.trans (hb.mono HBR.out.size))
              replace q0 := cell_of_ans hb q0
              replace q1 := cell_of_ans hb q1
              replace d5 := cell_of_ans hb d5
              replace Hhg6 := Lib.hid (Hhg6.out.step hb)
              replace HB := Lib.hid (HB.out.trans (hb.mono HB.out.size))
              clear hb
              clear Hhg6
              go_wp2_with fail
              refine (HLG.out _ HL.out).mono ?_
              rintro e x17 ⟨A7, c7, rfl, ⟨hg7, hc71, hc72⟩, hb⟩
              replace HL := Lib.hid (HL.out.step hb)
              replace HQ := Lib.hid (HQ.out.step hb)
              replace k0 := cell_of_ans hb k0
              replace k1 := cell_of_ans hb k1
              replace HXS := Lib.hid (HXS.out.step hb)
              replace HBR := Lib.hid (HBR.out.trans (hb.mono HBR.out.size))
              replace q0 := cell_of_ans hb q0
              replace q1 := cell_of_ans hb q1
              replace d5 := cell_of_ans hb d5
              replace HB := Lib.hid (HB.out.trans (hb.mono HB.out.size))
              clear hb
              have Hhg7 := Lib.hid hg7
              clear hg7
              go_wp2_with fail
              refine (HSU.out (t : Int) A7 c7 _ Hhg7.out ⟨hc71, hc72⟩).mono ?_
              rw [HG.out.surel, HG.out.asl]
              rintro e x18 ⟨rfl, hb⟩
              replace HL := Lib.hid (HL.out.step hb)
              replace HQ := Lib.hid (HQ.out.step hb)
              replace k0 := cell_of_ans hb k0
              replace k1 := cell_of_ans hb k1
              replace HXS := Lib.hid (HXS.out.step hb)
              replace HBR := Lib.hid (HBR.out.trans (hb.mono HBR.out.size))
              replace q0 := cell_of_ans hb q0
              replace q1 := cell_of_ans hb q1
              replace d5 := cell_of_ans hb d5
              replace Hhg7 := Lib.hid (Hhg7.out.step hb)
              replace HB := Lib.hid (HB.out.trans (hb.mono HB.out.size))
              clear hb
              clear Hhg7
              go_wp2_with fail
              refine (HXN.out (some ⟨g9, 0, none⟩) c9 _ HXS.out HC9.out).mono ?_
              rintro e x19 ⟨A10, c10, rfl, ⟨hg10, hc101, hc102⟩, hb⟩
              replace HL := Lib.hid (HL.out.step hb)
              replace HQ := Lib.hid (HQ.out.step hb)
              replace k0 := cell_of_ans hb k0
              replace k1 := cell_of_ans hb k1
              replace HXS := Lib.hid (HXS.out.step hb)
              replace HBR := Lib.hid (HBR.out.trans (hb.mono HBR.out.size))
              replace q0 := cell_of_ans hb q0
              replace q1 := cell_of_ans hb q1
              replace d5 := cell_of_ans hb d5
              replace HB := Lib.hid (HB.out.trans (hb.mono HB.out.size))
              clear hb
              have Hhg10 := Lib.hid hg10
              clear hg10
              go_wp2_with fail
              refine (HCX.out (t : Int) A10 c10 _ Hhg10.out ⟨hc101, hc102⟩).mono ?_
              rw [HG.out.canx, HG.out.asx]
              rintro e x20 ⟨rfl, hb⟩
              replace HL := Lib.hid (HL.out.step hb)
              replace HQ := Lib.hid (HQ.out.step hb)
              replace k0 := cell_of_ans hb k0
              replace k1 := cell_of_ans hb k1
              replace HXS := Lib.hid (HXS.out.step hb)
              replace HBR := Lib.hid (HBR.out.trans (hb.mono HBR.out.size))
              replace q0 := cell_of_ans hb q0
              replace q1 := cell_of_ans hb q1
              replace d5 := cell_of_ans hb d5
              replace Hhg10 := Lib.hid (Hhg10.out.step hb)
              replace HB := Lib.hid (HB.out.trans (hb.mono HB.out.size))
              clear hb
              clear Hhg10
              go_wp2_with fail
              refine (HXN.out (some ⟨g9, 0, none⟩) c9 _ HXS.out HC9.out).mono ?_
              rintro e x21 ⟨A11, c11, rfl, ⟨hg11, hc111, hc112⟩, hb⟩
              replace HL := Lib.hid (HL.out.step hb)
              replace HQ := Lib.hid (HQ.out.step hb)
              replace k0 := cell_of_ans hb k0
              replace k1 := cell_of_ans hb k1
              replace HXS := Lib.hid (HXS.out.step hb)
              replace HBR := Lib.hid (HBR.out.trans (hb.mono HBR.out.size))
              replace q0 := cell_of_ans hb q0
              replace q1 := cell_of_ans hb q1
              replace d5 := cell_of_ans hb d5
              replace HB := Lib.hid (HB.out.trans (hb.mono HB.out.size))
              clear hb
              have Hhg11 := Lib.hid hg11
              clear hg11
              go_wp2_with fail
              refine (HSX.out (t : Int) A11 c11 _ Hhg11.out ⟨hc111, hc112⟩).mono ?_
              rw [HG.out.surex, HG.out.asx]
              rintro e x22 ⟨rfl, hb⟩
              replace HL := Lib.hid (HL.out.step hb)
              replace HQ := Lib.hid (HQ.out.step hb)
              replace k0 := cell_of_ans hb k0
              replace k1 := cell_of_ans hb k1
              replace HXS := Lib.hid (HXS.out.step hb)
              replace HBR := Lib.hid (HBR.out.trans (hb.mono HBR.out.size))
              replace q0 := cell_of_ans hb q0
              replace q1 := cell_of_ans hb q1
              replace d5 := cell_of_ans hb d5
              replace Hhg11 := Lib.hid (Hhg11.out.step hb)
              replace HB := Lib.hid (HB.out.trans (hb.mono HB.out.size))
              clear hb
              clear Hhg11
              have hcan := HG.out.can
              have hsure := HG.out.sure
              clear HG HCA HSU HCX HSX HXN HLG
              generalize canB l t = cb at *
              generalize sureB l t = sb at *
              generalize canB ⟨l.teams, xs⟩ t = db at *
              generalize sureB ⟨l.teams, xs⟩ t = ub at *
              generalize ix rk t = rr at *
              cases cb
              · have hd : db = false := by cases db; rfl; exact absurd (hcan rfl) (by simp)
                subst hd
                clear hcan
                cases sb
                · cases ub
                  · go_wp2_with fail
                    go_roundw
                    case rel => exact ⟨t + 1, by omega, by go_num, HBR.out⟩
                    case measure => simp [intOf]; omega
                  · go_wp2_with fail
                    go_roundw
                    case rel => exact ⟨t + 1, by omega, by go_num, HBR.out⟩
                    case measure => simp [intOf]; omega
                · have hu := hsure rfl
                  subst hu
                  go_wp2_with fail
                  go_roundw
                  case rel => exact ⟨t + 1, by omega, by go_num, HBR.out⟩
                  case measure => simp [intOf]; omega
              · clear hcan
                cases db
                · cases sb
                  · cases ub
                    · go_wp2_with fail
                      go_roundw
                      case rel => exact ⟨t + 1, by omega, by go_num, HBR.out⟩
                      case measure => simp [intOf]; omega
                    · go_wp2_with fail
                      go_roundw
                      case rel => exact ⟨t + 1, by omega, by go_num, HBR.out⟩
                      case measure => simp [intOf]; omega
                  · have hu := hsure rfl
                    subst hu
                    go_wp2_with fail
                    go_roundw
                    case rel => exact ⟨t + 1, by omega, by go_num, HBR.out⟩
                    case measure => simp [intOf]; omega
                · cases sb
                  · cases ub
                    · go_wp2_with fail
                      go_roundw
                      case rel => exact ⟨t + 1, by omega, by go_num, HBR.out⟩
                      case measure => simp [intOf]; omega
                    · go_wp2_with fail
                      go_roundw
                      case rel => exact ⟨t + 1, by omega, by go_num, HBR.out⟩
                      case measure => simp [intOf]; omega
                  · have hu := hsure rfl
                    subst hu
                    go_wp2_with fail
                    go_roundw
                    case rel => exact ⟨t + 1, by omega, by go_num, HBR.out⟩
                    case measure => simp [intOf]; omega
            · obtain rfl : t = T := by omega
              have hti : ¬ (t : Int) < l.teams := by have := HTI.out; omega
              go_wp2_with fail
              refine (awake16_c _).mono ?_
              rintro e x23 ⟨rfl, hb⟩
              replace HL := Lib.hid (HL.out.step hb)
              replace HQ := Lib.hid (HQ.out.step hb)
              replace k0 := cell_of_ans hb k0
              replace k1 := cell_of_ans hb k1
              replace HXS := Lib.hid (HXS.out.step hb)
              replace HBR := Lib.hid (HBR.out.trans (hb.mono HBR.out.size))
              replace q0 := cell_of_ans hb q0
              replace q1 := cell_of_ans hb q1
              replace HB := Lib.hid (HB.out.trans (hb.mono HB.out.size))
              clear hb
              go_wp2_with fail
              go_ret
              exact ⟨rfl, HB.out⟩
end Go.Proofs.Ytjokbffdepcpkaa
