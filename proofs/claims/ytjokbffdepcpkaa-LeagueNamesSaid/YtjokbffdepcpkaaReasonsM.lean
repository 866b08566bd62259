/-
  The reason, and RulesOut, by the reference. Plain facts.
-/
import Derived.Test.YtjokbffdepcpkaaRefQ
namespace Go.Proofs.Ytjokbffdepcpkaa
open Go.RowKit
set_option linter.unusedSimpArgs false
set_option linter.unusedVariables false

theorem inc_step {xs : List Int} (hs : ∀ k, k + 1 < xs.length → ix xs k < ix xs (k + 1)) : Inc xs := by
  have hd : ∀ d k, k + d + 1 < xs.length → ix xs k < ix xs (k + d + 1) := by
    intro d
    induction d with
    | zero => intro k hk; exact hs k hk
    | succ d ih => intro k hk; exact Int.lt_trans (ih k (by omega)) (by rw [show k + (d + 1) + 1 = (k + d + 1) + 1 by omega]; exact hs _ (by omega))
  refine List.pairwise_iff_getElem.2 fun i j hi hj hij => ?_
  have := hd (j - i - 1) i (by omega)
  rw [show i + (j - i - 1) + 1 = j by omega, ix_lt hi, ix_lt hj] at this
  exact this
theorem p41_all {l : Lg} {tm : Int} {xs : List Int} : allB xs.length (p41 l tm xs) = (allB xs.length (fun k => inB (ix xs k) 0 (l.teams - 1)) && (!hasI xs tm && (sortedB xs && noAdjB xs))) := by
  refine Bool.eq_iff_iff.2 ?_
  simp only [Bool.and_eq_true, Bool.not_eq_true']
  rw [allB_iff, allB_iff]
  constructor
  · intro h
    have hp : ∀ k, k < xs.length → (0 ≤ ix xs k ∧ ix xs k ≤ l.teams - 1) ∧ ¬ ix xs k = tm ∧ (k = 0 ∨ ix xs (k - 1) < ix xs k) := fun k hk => by
      have := h k hk
      unfold p41 at this
      simpa only [Bool.and_eq_true, inB_eq, Bool.not_eq_true', decide_eq_false_iff_not, Bool.or_eq_true, decide_eq_true_eq] using this
    have hi : Inc xs := inc_step fun k hk => by
      have := (hp (k + 1) hk).2.2
      rw [show k + 1 - 1 = k by omega] at this
      omega
    obtain ⟨i1, i2⟩ := inc_list hi
    refine ⟨fun k hk => (inB_eq _ _ _).2 (hp k hk).1, ?_, i1, i2⟩
    refine Bool.eq_false_iff.2 fun e => ?_
    obtain ⟨k, hk, ek⟩ := List.getElem_of_mem (hasI_iff.1 e)
    exact (hp k hk).2.1 (by rw [ix_lt hk]; exact ek)
  · rintro ⟨h1, h2, h3, h4⟩ k hk
    have hi := List.pairwise_iff_getElem.1 (inc_of h3 h4)
    unfold p41
    simp only [Bool.and_eq_true, Bool.not_eq_true', decide_eq_false_iff_not, Bool.or_eq_true, decide_eq_true_eq]
    refine ⟨h1 k hk, fun e => ?_, ?_⟩
    · rw [ix_lt hk] at e
      have : hasI xs tm = true := hasI_iff.2 (e ▸ List.getElem_mem hk)
      rw [h2] at this
      cases this
    · by_cases e : k = 0
      · exact .inl e
      · refine .inr ?_
        rw [ix_lt hk, ix_lt (show k - 1 < xs.length by omega)]
        exact hi (k - 1) k (by omega) hk (by omega)
theorem out_ref {l : Lg} {tm : Int} (ha : askedL l tm = 0) (xs : List Int) : outB l tm xs = ref41B l tm xs := by
  unfold outB ref41B listB
  rw [p41_all, decide_eq_true ha, Bool.true_and]
theorem inc_bits (T b : Nat) : Inc (bitsL T b) := by
  unfold Inc bitsL
  rw [List.pairwise_map]
  exact (List.pairwise_lt_range.filter _).imp (by intro a b h; show (a : Int) < (b : Int); omega)
theorem ref41_bits {l : Lg} {T : Nat} (hT : l.teams = (T : Int)) (tm : Int) (b : Nat) : ref41B l tm (bitsL T b) = (!hasI (bitsL T b) tm && ruledB (reachF l tm) (sumsF l) (opensL l.games) (bitsL T b)) := by
  unfold ref41B
  obtain ⟨i1, i2⟩ := inc_list (inc_bits T b)
  have h1 : allB (bitsL T b).length (fun k => inB (ix (bitsL T b) k) 0 (l.teams - 1)) = true := allB_true fun k hk => by
    rw [inB_eq, ix_lt hk]
    have := List.getElem_mem hk
    unfold bitsL at this
    obtain ⟨t, ht, e⟩ := List.mem_map.1 this
    have := List.mem_range.1 (List.mem_filter.1 ht).1
    unfold bitsL
    rw [← e]
    simp
    omega
  rw [p41_all, h1, i1, i2]
  simp
theorem best_congr {T : Nat} {p q : List Int → Bool} (h : ∀ b, p (bitsL T b) = q (bitsL T b)) : ∀ k, refBest T p k = refBest T q k
  | 0 => rfl
  | k + 1 => by rw [refBest, refBest, best_congr h k, h]
/-- The reference's reason is the program's. -/
theorem reason_ref {l : Lg} {T : Nat} (hT : l.teams = (T : Int)) (hv : Valid l) {p : Nat} (hp : (p : Int) < l.teams) : refBest T (ref41B l (p : Int)) (2 ^ T - 1) = reasonL l (p : Int) ∧ reasonE l (p : Int) = if (reasonL l (p : Int)).length = 0 then 7 else 0 := by
  have hT2 := hv.t2
  have hT6 := hv.t6
  have ha := asked_ok hv hp
  have hTN : l.teams.toNat = T := by omega
  obtain ⟨e1, e2⟩ := reason_eq (T := T) (tm := p) (by omega) (by omega) (by omega) (ruledB (reachF l (p : Int)) (sumsF l) (opensL l.games))
  rw [best_congr (q := fun s => !hasI s (p : Int) && ruledB (reachF l (p : Int)) (sumsF l) (opensL l.games) s) (fun b => ref41_bits hT (p : Int) b), e1]
  have hF : reasonF l (p : Int) = (allC T (p : Int) (T - 1)).find? (ruledB (reachF l (p : Int)) (sumsF l) (opensL l.games)) := by rw [← hTN]; rfl
  rw [e1, ← hF] at e2
  rw [← hF]
  unfold reasonL reasonE
  rw [if_pos ha, if_pos ha]
  refine ⟨rfl, ?_⟩
  cases hr : reasonF l (p : Int)
  · rfl
  · next L =>
    rw [hr] at e2
    have : ¬ L.length = 0 := fun e => by
      have := e2.2 (List.eq_nil_of_length_eq_zero e)
      cases this
    show (0 : Int) = if L.length = 0 then 7 else 0
    rw [if_neg this]
end Go.Proofs.Ytjokbffdepcpkaa
