/-
  How a line reads.
-/
import Derived.Test.YtgnonfomlgkpcaaLaw2
namespace Go.Proofs.Ytgnonfomlgkpcaa
open Go.ChangeShapes Go.WideShapes Go.ChangeAt Go.RowKit Go.Deep

theorem Try.cells55 : Try.prog.cellsOf 55 = 2 := by kernel_rfl

theorem array2 {cs : Array Value} (h : cs.size = 2) : ∃ a b, cs = #[a, b] := by
  obtain ⟨l⟩ := cs
  match l, h with
  | [a, b], _ => exact ⟨a, b, rfl⟩

section
variable {H : Type} {enc : TypeId × Value → H} {W : World} {b0 : Nat}
theorem open_lineC {fuel : Nat} {c0 c1 : Value} {x : DataW H × List MemPlace} (h : DataW.trod enc Try.prog W 0 (fun _ => true) true fuel 55 [c0, c1] = some x) :
    ∃ A xs c A' ys c', c0 = .slice A xs.length c ∧ c1 = .slice A' ys.length c' ∧ (xs.length ≤ c ∧ c ≤ 9223372036854775807) ∧ (ys.length ≤ c' ∧ c' ≤ 9223372036854775807) ∧ Ints W.heap.size W A xs ∧ Ints W.heap.size W A' ys := by
  obtain ⟨y0, y1, n, _, _, g0, g1⟩ := trod_struct2 Try.underlying55 h
  have f0 : DataW.trod enc Try.prog W 0 (fun _ => true) true n 45 (List.take (Try.prog.cellsOf 45) [c0, c1]) = some y0 := g0
  have f1 : DataW.trod enc Try.prog W 0 (fun _ => true) true n 45 (List.take (Try.prog.cellsOf 45) [c1]) = some y1 := g1
  rw [Try.cells45] at f0 f1
  obtain ⟨A, xs, c, e0, h1, h2⟩ := open_intsC f0
  obtain ⟨A', ys, c', e1, h3, h4⟩ := open_intsC f1
  simp at e0 e1
  exact ⟨A, xs, c, A', ys, c', e0, e1, h1, h3, h2, h4⟩
set_option maxRecDepth 100000 in
theorem open_line {v : Value} {d : DataW H} {p : List MemPlace} (hv : Value.okWide Try.prog W .any b0 55 v) (h : DataW.Trod enc Try.prog W 0 (fun _ => true) true 55 v d p) :
    ∃ A xs c A' ys c', v = .agg #[.slice A xs.length c, .slice A' ys.length c'] ∧ (xs.length ≤ c ∧ c ≤ 9223372036854775807) ∧ (ys.length ≤ c' ∧ c' ≤ 9223372036854775807) ∧ Ints W.heap.size W A xs ∧ Ints W.heap.size W A' ys := by
  obtain ⟨cs, rfl, hsz⟩ := okWide_struct Try.underlying55 hv
  obtain ⟨c0, c1, rfl⟩ := array2 (hsz.trans Try.cells55)
  obtain ⟨fuel, hf⟩ := h
  obtain ⟨A, xs, c, A', ys, c', rfl, rfl, h1, h2, h3, h4⟩ := open_lineC (c0 := c0) (c1 := c1) hf
  exact ⟨A, xs, c, A', ys, c', rfl, h1, h2, h3, h4⟩
end
end Go.Proofs.Ytgnonfomlgkpcaa
