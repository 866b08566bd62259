/-
  How an argument that is a slice of bools reads.
-/
import Derived.Test.YtpekajnjjhibjaaLaw
namespace Go.Proofs.Ytpekajnjjhibjaa
open Go.ChangeShapes Go.WideShapes Go.ChangeAt Go.RowKit Go.Deep
set_option linter.unusedVariables false
set_option linter.unusedSimpArgs false
section
variable {H : Type} {enc : TypeId × Value → H} {W : World} {b0 : Nat}
set_option maxRecDepth 100000 in
theorem open_bools1 {v : Value} {d : DataW H} {p : List MemPlace} (hv : Value.okWide Try.prog W .any b0 71 v) (h : DataW.Trod enc Try.prog W 0 (fun _ => true) true 71 v d p) :
    ∃ A bs c, v = .slice A bs.length c ∧ (bs.length ≤ c ∧ c ≤ 9223372036854775807) ∧ Bls W.heap.size W A bs := by
  obtain ⟨a0, len0, cap0, rfl⟩ := okWide_slice und71 hv
  obtain ⟨fuel, hf⟩ := h
  rcases open_bools und71 under4 cells4 hf with ⟨e, _⟩ | ⟨a, len, cap, B, e, _, hl, hm, _, hc⟩
  · simp only [Value.cells] at e
    exact ⟨none, [], 0, by simpa using e, by decide, fun hp => by simp at hp⟩
  · unfold maxLen at hm
    have e0 : ((List.range len).map B).length = len := by simp
    simp only [Value.cells] at e
    refine ⟨some a, (List.range len).map B, cap, by rw [e0]; simpa using e, by omega, fun hp => ?_⟩
    rw [e0] at hp
    have h0 := spot_none (hc 0 (by omega))
    rw [show a.add 0 = a from by simp [Addr.add]] at h0
    refine ⟨a.block, a.off, by rw [← h0], World.block_lt_of_cell? W _ (hc 0 (by omega)), fun k hk => ?_⟩
    have hk' : k < len := by simpa using hk
    have := hc k (by omega)
    rw [h0, addr_add] at this
    rw [this, bx_lt hk]
    simp
end
end Go.Proofs.Ytpekajnjjhibjaa
