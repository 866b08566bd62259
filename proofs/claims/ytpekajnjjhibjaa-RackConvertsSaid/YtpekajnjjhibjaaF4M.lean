/-
  The reference's Converts.
-/
import Derived.Test.YtpekajnjjhibjaaF3
import Derived.Test.YtpekajnjjhibjaaLawsM
namespace Go.Proofs.Ytpekajnjjhibjaa
open Go.RowKit
set_option linter.unusedSimpArgs false
set_option linter.unusedVariables false

attribute [local go_sem] Oper.semAt_some
def carL (ls : List Lk) (may : Bool) (k : Nat) : List Bool := (List.range k).map (carryOf ls may)
theorem carL_len (ls : List Lk) (may : Bool) (k : Nat) : (carL ls may k).length = k := by simp [carL]
theorem carL_succ (ls : List Lk) (may : Bool) (k : Nat) : carL ls may (k + 1) = carL ls may k ++ [may || (lx ls k).s] := by
  simp [carL, List.range_succ, carryOf]
theorem bx_carL {ls : List Lk} {may : Bool} {n i : Nat} (h : i < n) : bx (carL ls may n) i = carryOf ls may i := by
  rw [bx_lt (by rw [carL_len]; exact h)]
  simp [carL]
theorem ix_overL {r : Rk} {st dr : Int} {k : Nat} (h : k < r.rows.toNat) : ix (overL r st dr) k = ovF st dr k := by
  rw [ix_lt (by simpa [overL] using h)]
  simp [overL]
theorem overL_len (r : Rk) (st dr : Int) : (overL r st dr).length = r.rows.toNat := by simp [overL]
theorem conv_len {r : Rk} {xs : List Int} {st dr : Int} {may : Bool} (h : pinErr r xs = 0) :
    decide ((natsI (listS (felledS r (pinS r xs) (ix (overL r st dr)) (bx (carL r.links may r.links.length))))).length = xs.length) = convB r (pinS r xs) st dr (carryOf r.links may) := by
  rw [felledS_congr (b' := ovF st dr) (d := carryOf r.links may) (fun k hk => ix_overL hk) (fun i hi => bx_carL hi), natsI_len, len_many h, convB]
  have hs := pinS_lt (r := r) (xs := xs)
  have hf := felledS_lt (r := r) (b := ovF st dr) (c := carryOf r.links may) hs
  have hsub := felledS_sub (r := r) (b := ovF st dr) (c := carryOf r.links may) hs
  generalize felledS r (pinS r xs) (ovF st dr) (carryOf r.links may) = F at *
  rw [Bool.eq_iff_iff, decide_eq_true_eq, decide_eq_true_eq]
  constructor
  · intro e
    refine Classical.byContradiction fun hne => ?_
    have := many_lt hf hs hsub hne
    unfold many at this e
    omega
  · intro e
    rw [e]
    rfl
end Go.Proofs.Ytpekajnjjhibjaa
