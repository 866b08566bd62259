/-
  TopLaid, plain: the oil of a lane by words; balls that went down it; what they wear.
-/
import Derived.Test.YtenpiinkbfancaaPaM
import Derived.Test.YtenpiinkbfancaaOlB
namespace Go.Proofs.Ytenpiinkbfancaa.Pa
open Go.RowKit
set_option linter.unusedSimpArgs false
set_option linter.unusedVariables false

theorem mk_laneErr {xss : List (List Int)} {lo hi ca : Int} {nb : Nat} (h0 : 0 < xss.length) (h8 : xss.length ≤ 8) (hb : 0 < nb ∧ nb ≤ 12) (hr : ∀ k, k < xss.length → (rx xss k).length = nb ∧ ∀ j, j < nb → 0 ≤ ix (rx xss k) j ∧ ix (rx xss k) j ≤ 100)
    (hlo : 0 ≤ lo ∧ lo ≤ hi ∧ hi ≤ 9) (hca : 0 ≤ ca ∧ ca ≤ 100) : Ol.laneErr xss lo hi ca = 0 := by
  have hr0 := (hr 0 h0).1
  have h1 : Ol.limB xss = true := by
    simp only [Ol.limB, Bool.and_eq_true, decide_eq_true_eq, Ol.allB_iff]
    exact ⟨h8, fun k hk => decide_eq_true (by have := (hr k hk).1; omega)⟩
  have h2 : Ol.argB xss lo hi ca = true := by
    simp only [Ol.argB, Bool.and_eq_true, decide_eq_true_eq, Ol.allB_iff]
    refine ⟨⟨⟨⟨h0, fun k hk => ?_⟩, (inB_eq _ _ _).2 ⟨hlo.1, hlo.2.1⟩⟩, hlo.2.2⟩, (inB_eq _ _ _).2 hca⟩
    simp only [Ol.rowB, Bool.and_eq_true, decide_eq_true_eq, Ol.allB_iff]
    have hk1 := (hr k hk).1
    exact ⟨⟨by omega, by omega⟩, fun j hj => (inB_eq _ _ _).2 ((hr k hk).2 j (by omega))⟩
  rw [Ol.laneErr, if_pos h1, if_pos h2]
theorem mk_ballsErr {xss yss : List (List Int)} {lo hi ca : Int} (h : Ol.laneErr xss lo hi ca = 0) (h20 : yss.length ≤ 20) (hy : ∀ k, k < yss.length → (rx yss k).length = xss.length ∧ ∀ j, j < xss.length → 0 ≤ ix (rx yss k) j ∧ ix (rx yss k) j < (rx xss 0).length) : Ol.ballsErr xss lo hi ca yss = 0 := by
  rw [Ol.ballsErr, if_pos h, if_pos h20, if_pos]
  rw [Ol.allB_iff]
  intro k hk
  simp only [Ol.ballB, Bool.and_eq_true, decide_eq_true_eq, Ol.allB_iff]
  refine ⟨(hy k hk).1, fun j hj => (inB_eq _ _ _).2 ?_⟩
  have := (hy k hk).2 j (by rw [← (hy k hk).1]; exact hj)
  omega
theorem mk_playErr {xss bss wss : List (List Int)} {lo hi ca : Int} (h : Ol.ballsErr xss lo hi ca bss = 0) (hw : Ol.wearsB xss.length lo hi bss wss = true) : Ol.playErr xss lo hi ca bss wss = 0 := by simp [Ol.playErr, h, hw]
theorem lowX_len (xss bss : List (List Int)) (lo hi ca : Int) : (Ol.lowX xss bss lo hi ca).length = xss.length := Ol.rowsOf_len _ _ _
theorem highX_len (xss bss : List (List Int)) (lo hi ca : Int) : (Ol.highX xss bss lo hi ca).length = xss.length := Ol.rowsOf_len _ _ _
theorem playX_len (xss bss wss : List (List Int)) (ca : Int) : (Ol.playX xss bss wss ca).length = xss.length := Ol.rowsOf_len _ _ _
theorem lowX_row {xss bss : List (List Int)} {lo hi ca : Int} {r : Nat} (hr : r < xss.length) : (rx (Ol.lowX xss bss lo hi ca) r).length = (rx xss 0).length := by rw [Ol.lowX, Ol.rx_rowsOf _ hr, Ol.rowOf_len]
theorem highX_row {xss bss : List (List Int)} {lo hi ca : Int} {r : Nat} (hr : r < xss.length) : (rx (Ol.highX xss bss lo hi ca) r).length = (rx xss 0).length := by rw [Ol.highX, Ol.rx_rowsOf _ hr, Ol.rowOf_len]
theorem playX_row {xss bss wss : List (List Int)} {ca : Int} {r : Nat} (hr : r < xss.length) : (rx (Ol.playX xss bss wss ca) r).length = (rx xss 0).length := by rw [Ol.playX, Ol.rx_rowsOf _ hr, Ol.rowOf_len]
/-- A cell over which no ball goes keeps its oil. -/
theorem cellO_same {ca : Int} {bss : List (List Int)} {r b : Nat} {bf ow : Nat → Int} {x : Int} : ∀ k, (∀ i, i < k → ix (rx bss i) r ≠ (b : Int)) → Ol.cellO ca bss r b bf ow x k = x
  | 0, _ => rfl
  | k + 1, h => by
    simp only [Ol.cellO]
    rw [if_neg (h k (by omega)), cellO_same k (fun i hi => h i (by omega))]
/-- The oil by words. -/
def fcell (os : List Int) (r b : Nat) : Int := (ix os ((5 * r + b) % os.length)).tmod 101
def freshR (os : List Int) (nb r : Nat) : List Int := (List.range nb).map fun b => fcell os r b
def freshX (os : List Int) (nb nr : Nat) : List (List Int) := (List.range nr).map fun r => freshR os nb r
theorem freshX_len (os : List Int) (nb nr : Nat) : (freshX os nb nr).length = nr := by simp [freshX]
theorem freshX_row (os : List Int) (nb : Nat) {nr r : Nat} (h : r < nr) : rx (freshX os nb nr) r = freshR os nb r := by
  rw [rx_lt (by rw [freshX_len]; exact h)]
  simp [freshX]
theorem freshR_len (os : List Int) (nb r : Nat) : (freshR os nb r).length = nb := by simp [freshR]
theorem freshR_at (os : List Int) {nb r b : Nat} (h : b < nb) : ix (freshR os nb r) b = fcell os r b := by
  rw [ix_lt (by rw [freshR_len]; exact h)]
  simp [freshR]
def Wd16 (os : List Int) : Prop := ∀ k, 0 ≤ ix os k ∧ ix os k ≤ 65535
theorem tmod_bd {x : Int} (h : 0 ≤ x) {n : Int} (hn : 0 < n) : 0 ≤ x.tmod n ∧ x.tmod n < n := by
  rw [Int.tmod_eq_emod_of_nonneg h]
  exact ⟨Int.emod_nonneg _ (by omega), Int.emod_lt_of_pos _ hn⟩
theorem fcell_bd {os : List Int} (h : Wd16 os) (r b : Nat) : 0 ≤ fcell os r b ∧ fcell os r b ≤ 100 := by
  have := tmod_bd (h ((5 * r + b) % os.length)).1 (n := 101) (by omega)
  unfold fcell
  omega
theorem fresh_lane {os : List Int} (h : Wd16 os) {nb nr : Nat} (hb : 0 < nb ∧ nb ≤ 12) (hr : 0 < nr ∧ nr ≤ 8) {a b c : Int} (ha : 0 ≤ a ∧ a < 5) (hb2 : 0 ≤ b ∧ b < 5) (hc : 0 ≤ c ∧ c < 101) : Ol.laneErr (freshX os nb nr) a (a + b) c = 0 := by
  refine mk_laneErr (nb := nb) (by rw [freshX_len]; exact hr.1) (by rw [freshX_len]; exact hr.2) hb (fun k hk => ?_) (by omega) (by omega)
  rw [freshX_len] at hk
  rw [freshX_row _ _ hk]
  exact ⟨freshR_len _ _ _, fun j hj => by rw [freshR_at _ hj]; exact fcell_bd h k j⟩
/-- A ball that a state can take: as many boards as rows, each one under a state of Can. -/
structure GoodB (l : Ln) (s : Int × Int) (ball : List Int) : Prop where
  len : (ball.length : Int) = l.nr
  at_ : ∀ j, j < ball.length → (0 ≤ ix ball j ∧ ix ball j < l.nb) ∧ ∃ v, Can l s j v ∧ v.1 - 1 = ix ball j
def ballL (l : Ln) (s : Int × Int) (ws : List Int) (k : Nat) : List Int := (List.range k).map fun j => (stI l s ws j).1 - 1
theorem ballL_len (l : Ln) (s : Int × Int) (ws : List Int) (k : Nat) : (ballL l s ws k).length = k := by simp [ballL]
theorem ballL_at (l : Ln) (s : Int × Int) (ws : List Int) {k j : Nat} (h : j < k) : ix (ballL l s ws k) j = (stI l s ws j).1 - 1 := by
  rw [ix_lt (by rw [ballL_len]; exact h)]
  simp [ballL]
theorem overL_at (l : Ln) (s : Int × Int) (ws : List Int) {k j : Nat} (h : j < k) : ix (rx (overL l s ws k) j) 0 = (stI l s ws j).1 := by
  rw [rx_lt (by rw [overL_len]; exact h)]
  simp [overL, ix]
theorem good_ball {l : Ln} (hok : Ok l) {s : Int × Int} {ws : List Int} (hw : ∀ j, 0 ≤ ix ws j) {k : Nat} (hr : rolls l s ws k) (ho : onB l (stI l s ws k) = true) : GoodB l s (ballL l s ws (k + 1)) := by
  have hn := rolls_len hok hr ho
  have hon : ∀ j, j ≤ k → onB l (stI l s ws j) = true := fun j hj => by
    rcases Nat.lt_or_ge j k with h | h
    · exact (hr.1 j h).2
    · have : j = k := by omega
      rw [this]; exact ho
  refine ⟨by rw [ballL_len]; omega, fun j hj => ?_⟩
  rw [ballL_len] at hj
  rw [ballL_at _ _ _ hj]
  have h1 := hon j (by omega)
  have h2 := (inB_eq _ _ _).1 (show inB (stI l s ws j).1 1 l.nb = true from h1)
  exact ⟨by omega, _, can_st hok hw j (fun i hi => hon i (by omega)), rfl⟩
def AllGood (l : Ln) (s : Int × Int) (bss : List (List Int)) : Prop := ∀ k, k < bss.length → GoodB l s (rx bss k)
theorem AllGood.nil (l : Ln) (s : Int × Int) : AllGood l s [] := fun k hk => by simp at hk
theorem AllGood.snoc {l : Ln} {s : Int × Int} {bss : List (List Int)} (h : AllGood l s bss) {b : List Int} (hb : GoodB l s b) : AllGood l s (bss ++ [b]) := fun k hk => by
  rw [List.length_append] at hk
  rcases Nat.lt_or_ge k bss.length with h1 | h1
  · have e : rx (bss ++ [b]) k = rx bss k := by
      rw [rx_lt (by rw [List.length_append]; exact hk), rx_lt h1, List.getElem_append_left h1]
    rw [e]; exact h k h1
  · have hk2 : k = bss.length := by simp at hk; omega
    subst hk2
    have e : rx (bss ++ [b]) bss.length = b := by
      rw [rx_lt (by rw [List.length_append]; exact hk), List.getElem_append_right (Nat.le_refl _)]
      simp
    rw [e]; exact hb
theorem good_err {l : Ln} {s : Int × Int} {bss : List (List Int)} (h : AllGood l s bss) (h8 : bss.length ≤ 8) {os : List Int} {nb nr : Nat} (hnb : (nb : Int) = l.nb) (hnr : (nr : Int) = l.nr) {a b c : Int} (hr0 : 0 < nr) (hle : Ol.laneErr (freshX os nb nr) a b c = 0) : Ol.ballsErr (freshX os nb nr) a b c bss = 0 := by
  refine mk_ballsErr hle (by omega) fun k hk => ?_
  have hg := h k hk
  have hl := hg.len
  rw [freshX_len, freshX_row _ _ hr0, freshR_len]
  exact ⟨by omega, fun j hj => by have := (hg.at_ j (by omega)).1; omega⟩
/-- The whole plain law, cell by cell. -/
theorem laid_cell {l : Ln} {s : Int × Int} {bss wss : List (List Int)} (h : AllGood l s bss) {os : List Int} {nb nr : Nat} (hnb : (nb : Int) = l.nb) (hnr : (nr : Int) = l.nr) {a b c : Int} (he : Ol.ballsErr (freshX os nb nr) a b c bss = 0) {r x : Nat} (hr : r < nr) (hx : x < nb)
    (hno : ∀ v, Can l s r v → v.1 - 1 ≠ (x : Int)) : ix (rx (Ol.playX (freshX os nb nr) bss wss c) r) x = fcell os r x := by
  rw [Ol.playX_at he (by rw [freshX_len]; exact hr) (by rw [freshX_row _ _ (by omega), freshR_len]; exact hx), freshX_row _ _ hr, freshR_at _ hx]
  refine cellO_same _ fun i hi e => ?_
  have hl := (h i hi).len
  obtain ⟨-, v, hv, hve⟩ := (h i hi).at_ r (by omega)
  exact hno v hv (by omega)
end Go.Proofs.Ytenpiinkbfancaa.Pa
