/-
  Who can be first, and who surely is, by all outcomes. Plain facts.
-/
import Derived.Test.YtjokbffdepcpkaaOutsR
import Derived.Test.YtjokbffdepcpkaaShownM
import Derived.Test.YtjokbffdepcpkaaTruthW
namespace Go.Proofs.Ytjokbffdepcpkaa
open Go.RowKit
set_option linter.unusedSimpArgs false
set_option linter.unusedVariables false

/-- Are all of the first k so? -/
def alB (f : Nat → Bool) : Nat → Bool
  | 0 => true
  | k + 1 => alB f k && f k
theorem alB_iff {f : Nat → Bool} : ∀ n, alB f n = true ↔ ∀ k, k < n → f k = true
  | 0 => by simp [alB]
  | n + 1 => by
    rw [alB, Bool.and_eq_true, alB_iff n]
    refine ⟨fun h k hk => ?_, fun h => ⟨fun k hk => h k (by omega), h n (by omega)⟩⟩
    by_cases e : k = n
    · rw [e]; exact h.2
    · exact h.1 k (by omega)
theorem exB_false {f : Nat → Bool} : ∀ n, (∀ k, k < n → f k = false) → exB f n = false
  | 0, _ => rfl
  | n + 1, h => by rw [exB, exB_false n (fun k hk => h k (by omega)), h n (by omega)]; rfl
section
variable {l : Lg} {p o : Nat}
/-- The outcomes by which o wins all its games, and p loses all others of its own. -/
def foeL (l : Lg) (p o : Nat) : List Int := (List.range (opensL l.games).length).map fun k => if (raceR l p).B k = o then 3 else if (raceR l p).A k = o then 1 else if (raceR l p).A k = p then 3 else 1
theorem foe_ix {k : Nat} (h : k < (opensL l.games).length) : ix (foeL l p o) k = if (raceR l p).B k = o then 3 else if (raceR l p).A k = o then 1 else if (raceR l p).A k = p then 3 else 1 := ix_mapR _ h
theorem foe_wt (hv : Valid l) (hne : o ≠ p) : ∀ k, k ≤ (raceR l p).n → (raceR l p).wt (gvO (foeL l p o)) o k = 2 * (raceR l p).cnt o k ∧ (raceR l p).wt (gvO (foeL l p o)) p k = 0
  | 0, _ => by simp [Rc.wt, Rc.cnt]
  | k + 1, hk => by
    obtain ⟨i1, i2⟩ := foe_wt hv hne k (by omega)
    obtain ⟨o1, o2, o3⟩ := race_ok hv p k (by omega)
    have hk2 : k < (opensL l.games).length := Nat.lt_of_succ_le hk
    have hg : gvO (foeL l p o) k = 3 - (if (raceR l p).B k = o then 3 else if (raceR l p).A k = o then 1 else if (raceR l p).A k = p then 3 else 1) := by unfold gvO; rw [foe_ix hk2]
    simp only [Rc.wt, Rc.cnt, i1, i2, hg]
    generalize (raceR l p).A k = a at *
    generalize (raceR l p).B k = b at *
    by_cases h1 : b = o
    · subst h1
      have h2 : ¬ a = b := o3
      have h3 : ¬ b = p := hne
      by_cases h4 : a = p
      · simp [h2, h3, h4]
        omega
      · simp [h2, h3, h4]
        omega
    · by_cases h2 : a = o
      · subst h2
        have h3 : ¬ a = p := hne
        by_cases h4 : b = p
        · simp [h1, h3, h4]
          omega
        · simp [h1, h3, h4]
          omega
      · by_cases h3 : a = p
        · have h4 : ¬ b = p := fun e => o3 (by rw [h3, e])
          have hpo : ¬ p = o := fun e => hne e.symm
          simp [h1, h2, h3, h4, hpo]
        · have hpo : ¬ p = o := fun e => hne e.symm
          by_cases h4 : b = p <;> simp [h1, h2, h3, h4, hpo]
theorem first_iff {os : List Int} (hp : p < l.teams.toNat) : firstB ((List.range l.teams.toNat).map (aftF l os)) p = true ↔ ∀ u, u < l.teams.toNat → aftF l os u ≤ aftF l os p := by
  unfold firstB
  rw [show ((List.range l.teams.toNat).map (aftF l os)).length = l.teams.toNat by simp, allB_iff]
  refine ⟨fun h u hu => ?_, fun h u hu => ?_⟩
  · have := h u hu
    rwa [decide_eq_true_eq, ix_mapR _ hu, ix_mapR _ hp] at this
  · rw [decide_eq_true_eq, ix_mapR _ hu, ix_mapR _ hp]; exact h u hu
/-- Is a team first by outcomes? -/
noncomputable def isF (l : Lg) (p : Nat) (os : List Int) : Bool := firstB ((List.range l.teams.toNat).map (aftF l os)) p
noncomputable def rowF (l : Lg) (p : Nat) (L : List (List Int)) (k : Nat) : Bool := isF l p (L.getD k [])
theorem mem_outs {n : Nat} {os : List Int} : os ∈ ouL n [] ↔ os.length = n ∧ ∀ k, k < os.length → 1 ≤ ix os k ∧ ix os k ≤ 3 := by
  rw [mem_ouL]
  constructor
  · rintro ⟨h1, -, h3⟩
    exact ⟨by simpa using h1, fun k hk => h3 k (by simp) hk⟩
  · rintro ⟨h1, h2⟩
    exact ⟨by simpa using h1, fun k hk => by simp at hk, fun k _ hk => h2 k hk⟩
theorem rows_can (hv : Valid l) (hp : (p : Int) < l.teams) (hc : canB l p = false) : exB (rowF l p (ouL (opensL l.games).length [])) (ouL (opensL l.games).length []).length = false := by
  have hp' : p < l.teams.toNat := by omega
  refine exB_false _ fun k hk => Bool.eq_false_iff.2 fun e => ?_
  unfold rowF isF at e
  rw [List.getD_eq_getElem?_getD, List.getElem?_eq_getElem hk, Option.getD_some, first_iff hp'] at e
  obtain ⟨h1, h2⟩ := mem_outs.1 (List.getElem_mem hk)
  rw [first_can hv h1 h2 e] at hc
  cases hc
theorem rows_yes {os : List Int} (h1 : os.length = (opensL l.games).length) (h2 : ∀ k, k < os.length → 1 ≤ ix os k ∧ ix os k ≤ 3) (hf : isF l p os = true) : exB (rowF l p (ouL (opensL l.games).length [])) (ouL (opensL l.games).length []).length = true := by
  obtain ⟨k, hk, e⟩ := List.getElem_of_mem (mem_outs.2 ⟨h1, h2⟩)
  refine exB_true _ k hk ?_
  unfold rowF
  rw [List.getD_eq_getElem?_getD, List.getElem?_eq_getElem hk, Option.getD_some, e]
  exact hf
theorem rows_sure (hv : Valid l) (hp : (p : Int) < l.teams) : alB (rowF l p (ouL (opensL l.games).length [])) (ouL (opensL l.games).length []).length = sureB l p := by
  have hp' : p < l.teams.toNat := by omega
  have hrow : ∀ k (hk : k < (ouL (opensL l.games).length []).length), rowF l p (ouL (opensL l.games).length []) k = isF l p (ouL (opensL l.games).length [])[k] := fun k hk => by
    unfold rowF
    rw [List.getD_eq_getElem?_getD, List.getElem?_eq_getElem hk, Option.getD_some]
  cases hs : sureB l p
  · obtain ⟨o, ho, hne, hlt⟩ : ∃ o, o < l.teams.toNat ∧ o ≠ p ∧ sumsF l p < reachF l (o : Int) := by
      apply Classical.byContradiction
      intro hn
      have : sureB l p = true := by
        unfold sureB
        refine allB_true fun o ho => ?_
        rw [Bool.or_eq_true, decide_eq_true_eq, decide_eq_true_eq]
        by_cases e : o = p
        · exact .inl e
        · refine .inr (Classical.byContradiction fun h => hn ⟨o, ho, e, by omega⟩)
      rw [hs] at this
      cases this
    have h1 : (foeL l p o).length = (opensL l.games).length := by simp [foeL]
    have h2 : ∀ k, k < (foeL l p o).length → 1 ≤ ix (foeL l p o) k ∧ ix (foeL l p o) k ≤ 3 := fun k hk => by
      rw [foe_ix (by omega)]
      repeat' split
      all_goals omega
    obtain ⟨w1, w2⟩ := foe_wt hv hne (raceR l p).n (Nat.le_refl _)
    have r1 := race_rc hv o
    have r2 : reachF l (o : Int) = sumsF l o + 2 * (raceR l o).cnt o (raceR l o).n := r1
    have r3 : (raceR l o).cnt o (raceR l o).n = (raceR l p).cnt o (raceR l p).n := by
      have e : ∀ k, (raceR l o).cnt o k = (raceR l p).cnt o k := by
        intro k
        induction k with
        | zero => rfl
        | succ k ih => rw [Rc.cnt, Rc.cnt, ih]; rfl
      exact e _
    have hnf : isF l p (foeL l p o) = false := Bool.eq_false_iff.2 fun e => by
      have := (first_iff hp').1 e o ho
      rw [aft_is hv h1 (p := p), aft_is hv h1 (p := p) p, w1, w2] at this
      omega
    obtain ⟨k, hk, e⟩ := List.getElem_of_mem (mem_outs.2 ⟨h1, h2⟩)
    refine Bool.eq_false_iff.2 fun h => ?_
    have := (alB_iff _).1 h k hk
    rw [hrow k hk, e, hnf] at this
    cases this
  · refine (alB_iff _).2 fun k hk => ?_
    rw [hrow k hk]
    obtain ⟨h1, h2⟩ := mem_outs.1 (List.getElem_mem hk)
    exact (first_iff hp').2 fun u hu => sure_first hv h1 h2 hs hu
end
end Go.Proofs.Ytjokbffdepcpkaa
