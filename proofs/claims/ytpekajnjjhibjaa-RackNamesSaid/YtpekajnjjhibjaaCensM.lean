/-
  How many leaves there are of each kind: plain facts; no program.
-/
import Derived.Test.YtpekajnjjhibjaaC1
namespace Go.Proofs.Ytpekajnjjhibjaa
open Go.RowKit
set_option linter.unusedVariables false
set_option linter.unusedSimpArgs false

/-- How many of the first n sets are of a kind. -/
noncomputable def cenF : Nat → Nat → Nat
  | 0, _ => 0
  | n + 1, j => if j = kindS n then cenF n j + 1 else cenF n j
theorem cenF_le : ∀ n j, cenF n j ≤ n
  | 0, _ => by simp [cenF]
  | n + 1, j => by
    have := cenF_le n j
    unfold cenF
    split <;> omega
theorem cenF_sum : ∀ n, cenF n 0 + cenF n 1 + cenF n 2 + cenF n 3 + cenF n 4 = n
  | 0 => by simp [cenF]
  | n + 1 => by
    have h := cenF_sum n
    have hk := kindS_le n
    simp only [cenF]
    rcases (by omega : kindS n = 0 ∨ kindS n = 1 ∨ kindS n = 2 ∨ kindS n = 3 ∨ kindS n = 4) with e | e | e | e | e <;> rw [e] <;> simp <;> omega
theorem kind_few {s j : Nat} (hj : j < 2) : j = kindS s ↔ many s = j := by
  unfold kindS
  split
  · omega
  · split
    · omega
    · split <;> omega
theorem cenF_few {j : Nat} (hj : j < 2) : ∀ n, cenF n j = (List.range n).countP fun s => decide (many s = j)
  | 0 => by simp [cenF]
  | n + 1 => by
    rw [List.range_succ, List.countP_append, ← cenF_few hj n, cenF]
    by_cases h : many n = j
    · rw [if_pos ((kind_few hj).2 h)]; simp [h]
    · rw [if_neg (fun e => h ((kind_few hj).1 e))]; simp [h]
theorem cen_law {rows : Int} (h1 : 1 ≤ rows) (h4 : rows ≤ 4) : cenF (2 ^ pn rows) 0 = 1 ∧ cenF (2 ^ pn rows) 1 = pn rows := by
  rw [cenF_few (by omega), cenF_few (by omega)]
  rcases rows4 h1 h4 with rfl | rfl | rfl | rfl
  · decide +kernel
  · decide +kernel
  · decide +kernel
  · decide +kernel
end Go.Proofs.Ytpekajnjjhibjaa
