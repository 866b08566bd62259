/-
  Points behind outcomes, and who can be first. Plain facts.
-/
import Derived.Test.YtjokbffdepcpkaaCanM
import Derived.Test.YtjokbffdepcpkaaSure
import Derived.Test.YtjokbffdepcpkaaRefA
namespace Go.Proofs.Ytjokbffdepcpkaa
open Go.RowKit
set_option linter.unusedSimpArgs false
set_option linter.unusedVariables false

/-- What A has of each game by outcomes. -/
def gvO (os : List Int) (k : Nat) : Int := 3 - ix os k
theorem aft_wt {l : Lg} (hv : Valid l) (os : List Int) (p u : Nat) : ∀ k, k ≤ (opensL l.games).length → aftK (opensL l.games) os (sumsF l) k u = sumsF l u + (raceR l p).wt (gvO os) u k
  | 0, _ => by simp [aftK, Rc.wt]
  | k + 1, h => by
    have hk : k < (opensL l.games).length := by omega
    obtain ⟨h1, h2, h3, h4, h5⟩ := race_g6 hv k hk
    have ih := fun u => aft_wt hv os p u k (by omega)
    have eA : (raceR l p).A k = (gmx (opensL l.games) k).a.toNat := rfl
    have eB : (raceR l p).B k = (gmx (opensL l.games) k).b.toNat := rfl
    have hne : (gmx (opensL l.games) k).a.toNat ≠ (gmx (opensL l.games) k).b.toNat := by omega
    rw [Rc.wt, eA, eB]
    simp only [aftK]
    generalize (gmx (opensL l.games) k).a.toNat = a at *
    generalize (gmx (opensL l.games) k).b.toNat = b at *
    have i1 := ih u
    rw [show gvO os k = 3 - ix os k from rfl]
    generalize aftK (opensL l.games) os (sumsF l) k = F at *
    simp only [updI]
    by_cases e1 : u = b
    · subst e1
      have : ¬ a = u := hne
      have : ¬ u = a := fun e => hne e.symm
      simp [*]
      omega
    · by_cases e2 : u = a
      · subst e2
        have : ¬ b = u := fun e => e1 e.symm
        simp [*]
        omega
      · have : ¬ b = u := fun e => e1 e.symm
        have : ¬ a = u := fun e => e2 e.symm
        simp [*]
section
variable {l : Lg} {os : List Int} {p : Nat}
theorem aft_is (hv : Valid l) (h1 : os.length = (opensL l.games).length) (u : Nat) : aftF l os u = sumsF l u + (raceR l p).wt (gvO os) u (raceR l p).n := by
  unfold aftF
  rw [h1]
  exact aft_wt hv os p u _ (Nat.le_refl _)
theorem gvO_rng (h1 : os.length = (opensL l.games).length) (h2 : ∀ k, k < os.length → 1 ≤ ix os k ∧ ix os k ≤ 3) : ∀ j, j < (raceR l p).n → 0 ≤ gvO os j ∧ gvO os j ≤ 2 := fun j hj => by
  have := h2 j (by rw [h1]; exact hj)
  unfold gvO
  omega
/-- Teams that rule one out: one of them has more than it, by all outcomes. -/
theorem ruled_more (hv : Valid l) (h1 : os.length = (opensL l.games).length) (h2 : ∀ k, k < os.length → 1 ≤ ix os k ∧ ix os k ≤ 3) {S : Nat → Bool} (hS : (raceR l p).Rules (sumsF l) S) : ∃ u, S u = true ∧ aftF l os p < aftF l os u := by
  obtain ⟨u, hu, hlt⟩ := Rc.ruled (race_ok hv p) hS (race_rc hv p) (gvO_rng h1 h2)
  refine ⟨u, hu, ?_⟩
  rw [aft_is hv h1 (p := p), aft_is hv h1 (p := p)]
  exact hlt
theorem aft_ghost (hv : Valid l) (h1 : os.length = (opensL l.games).length) {u : Nat} (h : l.teams.toNat ≤ u) : aftF l os u = 0 := by
  rw [aft_is hv h1 (p := 0), sums_ghost hv h]
  have : ∀ k, k ≤ (opensL l.games).length → (raceR l 0).wt (gvO os) u k = 0 := by
    intro k
    induction k with
    | zero => intro _; rfl
    | succ k ih =>
      intro hk
      have g := open_mem hv (show k < (opensL l.games).length by omega)
      have g1 := g.an; have g2 := g.bn; have g3 := hv.t2
      have eA : ¬ (raceR l 0).A k = u := by show ¬ (gmx (opensL l.games) k).a.toNat = u; omega
      have eB : ¬ (raceR l 0).B k = u := by show ¬ (gmx (opensL l.games) k).b.toNat = u; omega
      rw [Rc.wt, if_neg eA, if_neg eB, ih (by omega)]
      rfl
  rw [show (raceR l 0).n = (opensL l.games).length from rfl, this _ (Nat.le_refl _)]
  rfl
/-- The first by some outcomes can be first. -/
theorem first_can (hv : Valid l) (h1 : os.length = (opensL l.games).length) (h2 : ∀ k, k < os.length → 1 ≤ ix os k ∧ ix os k ≤ 3) (hf : ∀ u, u < l.teams.toNat → aftF l os u ≤ aftF l os p) : canB l p = true := by
  classical
  unfold canB
  refine decide_eq_true fun S hS => ?_
  obtain ⟨u, hu, hlt⟩ := ruled_more hv h1 h2 hS
  by_cases e : u < l.teams.toNat
  · have := hf u e; omega
  · have e1 := aft_ghost hv h1 (u := u) (by omega)
    have e2 := (aftF_rng hv h1 h2 p).1
    omega
/-- One that surely is first is, by all outcomes. -/
theorem sure_first (hv : Valid l) (h1 : os.length = (opensL l.games).length) (h2 : ∀ k, k < os.length → 1 ≤ ix os k ∧ ix os k ≤ 3) (hs : sureB l p = true) {u : Nat} (hu : u < l.teams.toNat) : aftF l os u ≤ aftF l os p := by
  have h := allB_iff.1 hs u hu
  rw [Bool.or_eq_true, decide_eq_true_eq, decide_eq_true_eq] at h
  by_cases e : u = p
  · rw [e]; exact Int.le_refl _
  · have hr := h.resolve_left e
    have w1 := Rc.wt_le (race_ok hv u) (gvO_rng h1 h2) u (raceR l u).n (Nat.le_refl _)
    have w2 := Rc.wt_le (race_ok hv p) (gvO_rng h1 h2) p (raceR l p).n (Nat.le_refl _)
    have r1 := race_rc hv u
    rw [aft_is hv h1 (p := u), aft_is hv h1 (p := p) p]
    have r2 : reachF l (u : Int) = sumsF l u + 2 * (raceR l u).cnt u (raceR l u).n := r1
    omega
end
end Go.Proofs.Ytjokbffdepcpkaa
