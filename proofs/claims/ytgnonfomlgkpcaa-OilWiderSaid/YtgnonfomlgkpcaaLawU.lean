/-
  How a byte reads.
-/
import Derived.Test.YtgnonfomlgkpcaaLawD
namespace Go.Proofs.Ytgnonfomlgkpcaa
open Go.ChangeShapes Go.WideShapes Go.ChangeAt Go.RowKit Go.Deep

section
variable {H : Type} {enc : TypeId × Value → H} {W : World} {b0 : Nat}
set_option maxRecDepth 100000 in
theorem open_u8 {v : Value} {d : DataW H} {p : List MemPlace} (hv : Value.okWide Try.prog W .any b0 5 v) (h : DataW.Trod enc Try.prog W 0 (fun _ => true) true 5 v d p) : ∃ u : Int, v = .int .u8 u ∧ 0 ≤ u ∧ u ≤ 255 := by
  obtain ⟨n, rfl, h1, h2, h3⟩ := open_int Try.underlying5 hv h
  have hb : 0 ≤ n ∧ n ≤ 255 := by simpa [Lit.wf, IntKind.min, IntKind.max, IntKind.signed, IntKind.bits] using h3
  exact ⟨n, rfl, hb.1, hb.2⟩
end
end Go.Proofs.Ytgnonfomlgkpcaa
