/-
  TopLaid: parts of a list of words.
-/
import Derived.Test.YtenpiinkbfancaaTw
namespace Go.Proofs.Ytenpiinkbfancaa.Pa
open Go.RowKit
set_option linter.unusedSimpArgs false
set_option linter.unusedVariables false

theorem size73 (W : World) : (sizeOf (Try.prog.elem 25)).run Try.prog W = .ok 1 W := by kernel_rfl
theorem slice_from (W : World) (b o n c f : Nat) (h1 : f ≤ n) (h2 : n ≤ c) (h3 : f < c) :
    (Instr.slice 25 (.slice (some ⟨b, o, none⟩) n c) (some (.int .i64 (f : Int))) none none).run Try.prog W = .ok (.slice (some ⟨b, o + f, none⟩) (n - f) (c - f)) W := by
  rw [run_slice_l (P := Try.prog) (w := W) 25 (some ⟨b, o, none⟩) n c (by kernel_rfl) .i64 (f : Int) (by omega) (by omega), size73]
  simp only [Result.andThen, sliced, Int.toNat_natCast]
  rw [if_neg (by omega)]
  simp only [Option.map_some, Nat.mul_one]
  rw [add_eq]
theorem slice_to (W : World) (b o n c t : Nat) (h1 : t ≤ n) (h2 : n ≤ c) (h3 : 0 < c) :
    (Instr.slice 25 (.slice (some ⟨b, o, none⟩) n c) none (some (.int .i64 (t : Int))) none).run Try.prog W = .ok (.slice (some ⟨b, o, none⟩) t c) W := by
  rw [run_slice_h (P := Try.prog) (w := W) 25 (some ⟨b, o, none⟩) n c (by kernel_rfl) .i64 (t : Int) (by omega) (by omega), size73]
  simp only [Result.andThen, sliced, Int.toNat_natCast]
  rw [if_neg (by omega)]
  simp only [Option.map_some, Nat.zero_mul, Nat.sub_zero]
  rw [add_eq]
  simp
end Go.Proofs.Ytenpiinkbfancaa.Pa
