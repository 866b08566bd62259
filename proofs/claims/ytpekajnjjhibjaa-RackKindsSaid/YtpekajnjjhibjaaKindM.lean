/-
  The kind of a leave, by its pins: plain facts; no program.
-/
import Derived.Test.YtpekajnjjhibjaaLawsM
import Derived.Test.YtpekajnjjhibjaaCens
namespace Go.Proofs.Ytpekajnjjhibjaa
open Go.RowKit
set_option linter.unusedVariables false
set_option linter.unusedSimpArgs false

theorem kind_law {r : Rk} {xs : List Int} (h : pinErr r xs = 0) :
    (xs.length = 0 → kindV r xs = 0) ∧ (xs.length = 1 → kindV r xs = 1) ∧ (2 ≤ xs.length → kindV r xs = 2 ∨ (kindV r xs = 3 ∧ ix xs 0 ≠ 0) ∨ (kindV r xs = 4 ∧ ix xs 0 = 0)) := by
  have hl := len_many h
  have hk : kindV r xs = kindS (pinS r xs) := by rw [kindV, if_pos h]
  have hs := pinS_lt (r := r) (xs := xs)
  have e := pins_list h
  rw [hk]
  generalize pinS r xs = s at *
  have h0 : 2 ≤ xs.length → (s.testBit 0 = true ↔ ix xs 0 = 0) := by
    intro h2
    have hr := rising_listS s
    rw [e]
    have hlen : 0 < (listS s).length := by
      have : xs.length = (listS s).length := by rw [e]; simp [natsI]
      omega
    rw [ix_nats hlen]
    constructor
    · intro h0
      have hm : (0 : Nat) ∈ listS s := mem_listS.2 ⟨by omega, h0⟩
      obtain ⟨k, hk, hke⟩ := List.getElem_of_mem hm
      by_cases e0 : k = 0
      · subst e0; omega
      · have := List.pairwise_iff_getElem.1 hr 0 k hlen hk (by omega)
        omega
    · intro h0
      have hm : (listS s)[0] ∈ listS s := List.getElem_mem hlen
      rw [show (listS s)[0] = 0 by omega] at hm
      exact (mem_listS.1 hm).2
  refine ⟨fun hx => ?_, fun hx => ?_, fun hx => ?_⟩
  · exact ((kind_few (by omega)).2 (by omega)).symm
  · exact ((kind_few (by omega)).2 (by omega)).symm
  · have h0 := h0 hx
    unfold kindS
    rw [if_neg (by omega)]
    split
    · exact .inl rfl
    · split
      · next hb => exact .inr (.inr ⟨rfl, h0.1 hb⟩)
      · next hb => exact .inr (.inl ⟨rfl, fun hz => hb (h0.2 hz)⟩)
theorem cen_vals {r : Rk} (h : rackErr r = 0) : cenV r 0 = 1 ∧ cenV r 1 = (pn r.rows : Int) ∧ cenV r 0 + cenV r 1 + cenV r 2 + cenV r 3 + cenV r 4 = ((2 ^ pn r.rows : Nat) : Int) ∧ 0 ≤ cenV r 2 ∧ 0 ≤ cenV r 3 ∧ 0 ≤ cenV r 4 := by
  have hr := rackOk h
  obtain ⟨h0, h1⟩ := cen_law hr.rows1 hr.rows4
  have hs := cenF_sum (2 ^ pn r.rows)
  simp only [cenV, if_pos h, cenI]
  omega
end Go.Proofs.Ytpekajnjjhibjaa
