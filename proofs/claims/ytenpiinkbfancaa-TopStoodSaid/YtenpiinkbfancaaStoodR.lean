/-
  All ten pins of a rack of four rows: what a ball can leave of them.
-/
import Derived.Test.YtenpiinkbfancaaRkF
namespace Go.Proofs.Ytenpiinkbfancaa.Rk
open Go.RowKit
set_option linter.unusedSimpArgs false
set_option linter.unusedVariables false

def all10 : List Int := [0, 1, 2, 3, 4, 5, 6, 7, 8, 9]
theorem all_of {r : Rk} (h4 : r.rows = 4) : ofT 1023 (pn r.rows) = all10 := by
  rw [h4]
  decide +kernel
theorem all_pin {r : Rk} (he : rackErr r = 0) (h4 : r.rows = 4) : pinErr r all10 = 0 := by
  unfold pinErr
  rw [if_pos he, h4]
  decide +kernel
theorem all_thr {r : Rk} {ball : List Rg} (he : rackErr r = 0) (h4 : r.rows = 4) (hb : ballB r.rows ball = true) : thrErr r all10 ball = 0 := by
  unfold thrErr
  rw [if_pos (all_pin he h4), if_pos hb]
theorem all_left {r : Rk} {ball : List Rg} (h : thrErr r all10 ball = 0) : (leftV r all10 ball).1 ≤ (leftV r all10 ball).2 ∧ (leftV r all10 ball).2 ≤ 10 := by
  refine ⟨Nat.le_trans (truth_len (ws := []) h).1 (truth_len (ws := []) h).2, ?_⟩
  rw [leftV, if_pos h]
  obtain ⟨-, -, u, -, e⟩ := leftN_is (pins := pinS r all10) (thr_parts h).2.2.2.1
  rw [← e]
  exact many_le u
/-- The words, turned by one. -/
def rot (ws : List Int) : List Int := match ws with | [] => [] | x :: l => l ++ [x]
def rotN (ws : List Int) : Nat → List Int
  | 0 => ws
  | k + 1 => rot (rotN ws k)
theorem rot_len (ws : List Int) : (rot ws).length = ws.length := by cases ws <;> simp [rot]
theorem rotN_len (ws : List Int) : ∀ k, (rotN ws k).length = ws.length
  | 0 => rfl
  | k + 1 => by rw [rotN, rot_len, rotN_len ws k]
end Go.Proofs.Ytenpiinkbfancaa.Rk
