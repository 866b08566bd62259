/-
  A list of words as an argument, no longer than memory is.
-/
import Derived.Test.YtenpiinkbfancaaRkH
namespace Go.Proofs.Ytenpiinkbfancaa.Rk
open Go.ChangeShapes Go.WideShapes Go.ChangeAt Go.RowKit
set_option linter.unusedSimpArgs false
set_option linter.unusedVariables false

section
variable {H : Type} {enc : TypeId × Value → H} {W : World} {b0 : Nat}
set_option maxRecDepth 100000 in
theorem open_words {v : Value} {d : DataW H} {p : List MemPlace} (hv : Value.okWide Try.prog W .any b0 25 v) (h : DataW.Trod enc Try.prog W 0 (fun _ => true) true 25 v d p)
    (hsz : ∀ elems spare, d = .slice elems spare → (elems.length + spare.length) * Try.prog.bytesOf 73 ≤ reachBytes) :
    ∃ A ws c, v = .slice A ws.length c ∧ (ws.length ≤ c ∧ c ≤ 9223372036854775807) ∧ Wds W.heap.size W A ws ∧ ws.length ≤ 70368744175616 := by
  have hW := open_u16s hv h
  obtain ⟨A, ws, c, rfl, h1, h2⟩ := hW
  refine ⟨A, ws, c, rfl, h1, h2, ?_⟩
  obtain ⟨fuel, hf⟩ := h
  have hb : Try.prog.bytesOf 73 = 2 := by kernel_rfl
  rcases open_ints und89 und61 cells61 hf with ⟨e, _⟩ | ⟨a, len, cap, zs, e, _, hl, hm, hz, hx, hc, hw⟩
  · simp only [Value.cells] at e
    have : ws.length = 0 := by simpa using (by simpa using e : A = none ∧ ws.length = 0 ∧ c = 0).2.1
    omega
  · simp only [if_true] at hz
    simp only [Value.cells] at e
    have e2 : A = some a ∧ ws.length = len ∧ c = cap := by simpa using e
    injection hx with hd hp
    have := hsz _ _ hd
    rw [hb] at this
    have hr : reachBytes = 140737488351232 := by decide
    rw [hr] at this
    have hlz : (lits IntKind.u16 (zs.take len) : List (DataW H)).length = len := by
      unfold lits
      rw [List.length_map, List.length_take]
      omega
    rw [hlz] at this
    omega
end
end Go.Proofs.Ytenpiinkbfancaa.Rk
