/-
  What '==' and '!=' say of two arrays of five numbers that are the same.
-/
import Derived.Test.YtpekajnjjhibjaaCens
import Derived.Laws.StructEq
import Derived.ChangeKeysEq
namespace Go.Proofs.Ytpekajnjjhibjaa
open Go.RowKit
set_option linter.unusedSimpArgs false
set_option linter.unusedVariables false

theorem info3 : (Try.prog.info? 3).map (fun i => i.size) = some 1 := by kernel_rfl
theorem und75 : Try.prog.underlying 75 = some (.array 5 3) := by kernel_rfl
set_option maxRecDepth 100000 in
theorem same75 (a b c d e : Int) (w : World) : (Op.equalIn 10000 75 (.agg #[.int .i64 a, .int .i64 b, .int .i64 c, .int .i64 d, .int .i64 e]) (.agg #[.int .i64 a, .int .i64 b, .int .i64 c, .int .i64 d, .int .i64 e])).run Try.prog w = .ok true w := by
  have u3 := Try.underlying3
  obtain ⟨i, hi, hs⟩ := Option.map_eq_some_iff.1 info3
  rw [show (10000 : Nat) = 9999 + 1 from rfl, run_equalIn_array w 9999 _ _ und75 hi]
  have c3 : Try.prog.cellsOf 3 = 1 := by kernel_rfl
  rw [c3, show List.range 5 = [0, 1, 2, 3, 4] from rfl]
  simp only [Op.eqItems]
  go_simp
theorem eq75 (a b c d e : Int) (w : World) : (binOp .eql 75 (.agg #[.int .i64 a, .int .i64 b, .int .i64 c, .int .i64 d, .int .i64 e]) (.agg #[.int .i64 a, .int .i64 b, .int .i64 c, .int .i64 d, .int .i64 e])).run Try.prog w = .ok (.bool true) w := by
  rw [run_eql_struct, same75]
  rfl
theorem ne75 (a b c d e : Int) (w : World) : (binOp .neq 75 (.agg #[.int .i64 a, .int .i64 b, .int .i64 c, .int .i64 d, .int .i64 e]) (.agg #[.int .i64 a, .int .i64 b, .int .i64 c, .int .i64 d, .int .i64 e])).run Try.prog w = .ok (.bool false) w := by
  rw [run_neq_struct, same75]
  rfl
end Go.Proofs.Ytpekajnjjhibjaa
