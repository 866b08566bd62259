/-
  How a list of words reads.
-/
import Derived.Test.YtgnonfomlgkpcaaLaw
import Derived.Test.YtgnonfomlgkpcaaPicked
namespace Go.Proofs.Ytgnonfomlgkpcaa
open Go.ChangeShapes Go.WideShapes Go.ChangeAt Go.RowKit Go.Deep

theorem Try.cells129 : Try.prog.cellsOf 129 = 1 := by kernel_rfl

section
variable {H : Type} {enc : TypeId × Value → H} {W : World} {b0 : Nat}
set_option maxRecDepth 100000 in
theorem open_wds {v : Value} {d : DataW H} {p : List MemPlace} (hv : Value.okWide Try.prog W .any b0 50 v) (h : DataW.Trod enc Try.prog W 0 (fun _ => true) true 50 v d p) :
    ∃ A ws c, v = .slice A ws.length c ∧ (ws.length ≤ c ∧ c ≤ 9223372036854775807) ∧ Wds W.heap.size W A ws := by
  obtain ⟨a0, len0, cap0, rfl⟩ := okWide_slice Try.underlying50 hv
  obtain ⟨fuel, hf⟩ := h
  rcases open_ints Try.underlying50 Try.underlying129 Try.cells129 hf with ⟨e, _⟩ | ⟨a, len, cap, zs, e, _, hl, hm, hz, _, hc, hw⟩
  · simp only [Value.cells] at e
    exact ⟨none, [], 0, by simpa using e, by decide, fun hp => by simp at hp⟩
  · simp only [if_true] at hz
    unfold maxLen at hm
    have e0 : (zs.take len).length = len := by rw [List.length_take]; omega
    simp only [Value.cells] at e
    refine ⟨some a, zs.take len, cap, by rw [e0]; simpa using e, by omega, fun hp => ?_⟩
    have h0 := spot_none (hc 0 (by omega))
    rw [show a.add 0 = a from by simp [Addr.add]] at h0
    refine ⟨a.block, a.off, by rw [← h0], World.block_lt_of_cell? W _ (hc 0 (by omega)), fun k hk => ?_⟩
    have := hc k (by omega)
    rw [h0, addr_add] at this
    have ei : ix (zs.take len) k = zs.getD k 0 := by
      simp only [ix, List.getD_eq_getElem?_getD, List.getElem?_take]
      rw [if_pos (by omega)]
    have hwk := hw (zs.getD k 0) (by
      rw [List.getD_eq_getElem?_getD, List.getElem?_eq_getElem (show k < zs.length by omega)]
      exact List.getElem_mem _)
    have hb : 0 ≤ zs.getD k 0 ∧ zs.getD k 0 ≤ 65535 := by simpa [Lit.wf, IntKind.min, IntKind.max, IntKind.signed, IntKind.bits] using hwk
    rw [ei]
    exact ⟨this, hb⟩
end
end Go.Proofs.Ytgnonfomlgkpcaa
