/-
  What is told of a team, with points behind outcomes.
-/
import Derived.Test.YtjokbffdepcpkaaTruthM
import Derived.Test.YtjokbffdepcpkaaGivesW
namespace Go.Proofs.Ytjokbffdepcpkaa
open Go.RowKit
set_option linter.unusedSimpArgs false
set_option linter.unusedVariables false

attribute [local go_sem] Oper.semAt_some
theorem asked_ok {l : Lg} (hv : Valid l) {t : Nat} (h : (t : Int) < l.teams) : askedL l (t : Int) = 0 := by
  unfold askedL
  rw [if_pos (valid_iff.2 hv), if_pos]
  rw [inB_eq]
  omega
/-- What is told of a team, with the points behind outcomes. -/
structure TmF (l : Lg) (os : List Int) (t : Nat) : Prop where
  can : canL l (t : Int) = canB l t
  sure : sureL l (t : Int) = sureB l t
  yes : canB l t = true → reasonL l (t : Int) = [] ∧ reasonE l (t : Int) = 7
  no : canB l t = false → reasonE l (t : Int) = 0 ∧ (∀ x ∈ reasonL l (t : Int), 0 ≤ x ∧ x < l.teams) ∧ (∃ x ∈ reasonL l (t : Int), aftF l os t < aftF l os x.toNat) ∧ (reasonL l (t : Int)).length ≤ 6
  sc : sureB l t = true → canB l t = true
  fc : (∀ u, u < l.teams.toNat → aftF l os u ≤ aftF l os t) → canB l t = true
  sf : sureB l t = true → ∀ u, u < l.teams.toNat → aftF l os u ≤ aftF l os t
theorem setT_le (S : Nat → Bool) (T : Nat) : (setT S T).length ≤ T := by
  unfold setT
  rw [List.length_map]
  have := List.length_filter_le S (List.range T)
  rwa [List.length_range] at this
theorem tmF {l : Lg} {os : List Int} (hv : Valid l) (h1 : os.length = (opensL l.games).length) (h2 : ∀ k, k < os.length → 1 ≤ ix os k ∧ ix os k ≤ 3) {t : Nat} (ht : (t : Int) < l.teams) : TmF l os t := by
  have ha := asked_ok hv ht
  have hT6 := hv.t6
  refine ⟨?_, ?_, fun hc => ?_, fun hc => ?_, fun hs => ?_, fun hf => first_can hv h1 h2 hf, fun hs u hu => sure_first hv h1 h2 hs hu⟩
  · unfold canL; rw [decide_eq_true ha, Bool.true_and, Int.toNat_natCast]
  · unfold sureL; rw [decide_eq_true ha, Bool.true_and, Int.toNat_natCast]
  · have hr := (can_reason hv ht).1 hc
    unfold reasonL reasonE
    rw [if_pos ha, if_pos ha, hr]
    exact ⟨rfl, rfl⟩
  · cases hr : reasonF l (t : Int)
    · have := (can_reason hv ht).2 hr
      rw [hc] at this
      cases this
    · next L =>
      obtain ⟨S, hL, hSu, hS⟩ := reason_set hv ht hr
      obtain ⟨u, hu, hlt⟩ := ruled_more hv h1 h2 hS
      have e : reasonL l (t : Int) = L := by unfold reasonL; rw [if_pos ha, hr]; rfl
      have e2 : reasonE l (t : Int) = 0 := by unfold reasonE; rw [if_pos ha, hr]; rfl
      rw [e, e2, hL]
      refine ⟨rfl, fun x hx => ?_, ⟨(u : Int), setT_mem.2 ⟨u, rfl, hSu u hu, hu⟩, by rw [Int.toNat_natCast]; exact hlt⟩, ?_⟩
      · obtain ⟨v, rfl, h3, -⟩ := setT_mem.1 hx
        omega
      · have := setT_le S l.teams.toNat
        omega
  · exact first_can hv h1 h2 fun u hu => sure_first hv h1 h2 hs hu
end Go.Proofs.Ytjokbffdepcpkaa
