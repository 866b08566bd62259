/-
  A race at its start: what is given, what all have.
-/
import Derived.Test.YtjokbffdepcpkaaPassM
namespace Go.Proofs.Ytjokbffdepcpkaa
open Go.RowKit
set_option linter.unusedSimpArgs false
set_option linter.unusedVariables false

namespace Rc
/-- What A has of each game at first: all of its own. -/
def gv0 (R : Rc) (k : Nat) : Nat → Int := fun i => if i < k ∧ R.A i = R.tm then 2 else 0
/-- What all have at first: the second team of each game that is not the first one's has its points. -/
def hv0 (R : Rc) (f : Nat → Int) : Nat → Nat → Int
  | 0 => f
  | k + 1 => if R.A k = R.tm ∨ R.B k = R.tm then hv0 R f k else updI (hv0 R f k) (R.B k) (hv0 R f k (R.B k) + 2)
variable {R : Rc} {f : Nat → Int}
theorem gv0_rng (k i : Nat) : 0 ≤ R.gv0 k i ∧ R.gv0 k i ≤ 2 := by unfold gv0; split <;> omega
theorem hv0_rng : ∀ k u, f u ≤ R.hv0 f k u ∧ R.hv0 f k u ≤ f u + 2 * k
  | 0, u => by simp [hv0]
  | k + 1, u => by
    have := hv0_rng k u
    unfold hv0
    split
    · omega
    · unfold updI
      split
      · next e => subst e; omega
      · omega
theorem hv0_tm : ∀ k, R.hv0 f k R.tm = f R.tm
  | 0 => rfl
  | k + 1 => by
    unfold hv0
    split
    · exact hv0_tm k
    · next h => rw [updI_ne (fun e => h (.inr e.symm)), hv0_tm k]
theorem hv0_wt {u : Nat} (hu : u ≠ R.tm) : ∀ k, k ≤ R.n → R.hv0 f k u = f u + R.wt (R.gv0 R.n) u k
  | 0, _ => by simp [hv0, wt]
  | k + 1, h => by
    have ih := hv0_wt hu k (by omega)
    have hk : k < R.n := by omega
    simp only [hv0, wt]
    have hg : R.gv0 R.n k = if R.A k = R.tm then 2 else 0 := by unfold gv0; simp [hk]
    rw [hg]
    by_cases ha : R.A k = R.tm
    · rw [if_pos (.inl ha), if_pos ha, ih]
      have : ¬ R.A k = u := fun e => hu (by rw [← e, ha])
      simp [this]
    · by_cases hb : R.B k = R.tm
      · rw [if_pos (.inr hb), if_neg ha, ih]
        have : ¬ R.B k = u := fun e => hu (by rw [← e, hb])
        simp [this]
      · rw [if_neg (by simp [ha, hb]), if_neg ha]
        by_cases e : u = R.B k
        · subst e
          rw [updI_eq, ih]
          simp
          omega
        · rw [updI_ne e, ih]
          have : ¬ R.B k = u := fun h => e h.symm
          simp [this]
theorem inv0 (hok : R.Ok) (sn : Nat → Bool) : R.Inv f ⟨R.gv0 R.n, R.hv0 f R.n, sn⟩ := by
  refine ⟨fun u hu => hv0_wt hu R.n (Nat.le_refl _), fun j _ => gv0_rng R.n j, fun j hj => ⟨fun ha => ?_, fun hb => ?_⟩⟩
  · show R.gv0 R.n j = 2
    unfold gv0
    rw [if_pos ⟨hj, ha⟩]
  · obtain ⟨o1, o2, o3⟩ := hok j hj
    show R.gv0 R.n j = 0
    unfold gv0
    rw [if_neg]
    omega
theorem gv0_succ {k : Nat} (j : Nat) : R.gv0 (k + 1) j = if R.A k = R.tm then updI (R.gv0 k) k 2 j else R.gv0 k j := by
  unfold gv0 updI
  by_cases ha : R.A k = R.tm
  · rw [if_pos ha]
    by_cases e : j = k
    · subst e; simp [ha]
    · rw [if_neg e]
      have : (j < k + 1 ∧ R.A j = R.tm) ↔ (j < k ∧ R.A j = R.tm) := by constructor <;> (rintro ⟨h1, h2⟩; exact ⟨by omega, h2⟩)
      simp only [this]
  · rw [if_neg ha]
    have : (j < k + 1 ∧ R.A j = R.tm) ↔ (j < k ∧ R.A j = R.tm) := by
      constructor
      · rintro ⟨h1, h2⟩
        exact ⟨by by_cases e : j = k; (subst e; exact absurd h2 ha); omega, h2⟩
      · rintro ⟨h1, h2⟩; exact ⟨by omega, h2⟩
    simp only [this]
theorem inv_rng (hok : R.Ok) {s : Fl} (h : R.Inv f s) (hf : ∀ u, 0 ≤ f u ∧ f u ≤ 60000) (ht : s.hv R.tm = f R.tm) (hn : R.n ≤ 20) (u : Nat) : -100 ≤ s.hv u ∧ s.hv u ≤ 200000 := by
  by_cases e : u = R.tm
  · subst e
    have := hf R.tm
    omega
  · have h1 := h.hv u e
    have h2 := wt_le hok h.rg u R.n (Nat.le_refl _)
    have h3 := hf u
    have h4 : ∀ k, R.cnt u k ≤ k := by
      intro k
      induction k with
      | zero => simp [cnt]
      | succ k ih => simp only [cnt]; split <;> omega
    have := h4 R.n
    omega
end Rc
/-- What runs answers: teams that rule the race's team out; or a way that settles all. -/
def RunsP (R : Rc) (f : Nat → Int) (q : Nat) (O : Value) (w : World) (e : Ending) (w' : World) : Prop :=
  Below q w w' ∧ ((e = .returned (.bool false) ∧ ∃ S, R.Rules f S) ∨
    (e = .returned (.bool true) ∧ ∃ s g, R.Inv f s ∧ s.hv R.tm = f R.tm ∧ (∀ u, u < R.m → u ≠ R.tm → s.hv u ≤ R.rc) ∧ RaceAt w' q (R.tm : Int) R.rc f O (.slice (some ⟨g, 0, none⟩) R.n R.n) ∧ DnI w' g s.gv R.n))
end Go.Proofs.Ytjokbffdepcpkaa
