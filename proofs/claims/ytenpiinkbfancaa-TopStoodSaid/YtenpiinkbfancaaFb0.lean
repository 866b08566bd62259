/-
  frame: how a game stands behind a ball.
-/
import Derived.Test.YtenpiinkbfancaaFa
namespace Go.Proofs.Ytenpiinkbfancaa
open Go.RowKit
set_option linter.unusedSimpArgs false
set_option linter.unusedVariables false

/-- What next answers: the game behind a ball, what it counts, what it is worth. -/
def nxV (N : Int) (p q : Pl) (b : Int) : Value := .tuple #[plV N q, .int .i64 b, .int .i64 (wth p b)]
theorem below_two {w : World} (o o' : Obj) : Below w.heap.size w ((w.alloc o).alloc o') := ((Below.refl _ _).alloc (Nat.le_refl _) _).alloc (by simp) _
end Go.Proofs.Ytenpiinkbfancaa
