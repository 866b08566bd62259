/-
  The program's knob, and its layout.
-/
import Derived.Test.YtenpiinkbfancaaRows
import Derived.ProofKit
namespace Go.Proofs.Ytenpiinkbfancaa
open Go.ChangeShapes Go.WideShapes Go.ChangeAt Go.RowKit
theorem Try.own : ownKnob Try.prog.godebug = none := by kernel_rfl
theorem Try.laidOut : laidOutB Try.prog = true := by kernel_rfl
end Go.Proofs.Ytenpiinkbfancaa
