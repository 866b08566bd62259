/-
  rack: how many pins a ball can leave; what it leaves in a truth (carried over from the proofs of the chapter 02): further ones.
-/
import Derived.Test.YtenpiinkbfancaaRkF
import Derived.ProofKit
import Derived.OpenShut
import Derived.WideKeyArgs
import Derived.Deep.Matrix
import Derived.Deep.Slices
import Derived.Deep.Grids
import Derived.SizedLaws
namespace Go.Proofs.Ytenpiinkbfancaa.Rk
open Go.RowKit
set_option linter.unusedSimpArgs false
set_option linter.unusedVariables false

section
open Go.ChangeShapes Go.WideShapes Go.ChangeAt Go.RowKit Go.Deep
section
variable {H : Type} {enc : TypeId × Value → H} {W : World} {b0 : Nat}
theorem cells33 : Try.prog.cellsOf 155 = 2 := by kernel_rfl
theorem und5 : Try.prog.underlying 5 = some (.int .u8) := by kernel_rfl
theorem und26 : Try.prog.underlying 59 = some (.slice 155) := by kernel_rfl
theorem und33 : Try.prog.underlying 155 = some (.struct (Try.prog.fieldsOf 155)) := by kernel_rfl
theorem und50 : Try.prog.underlying 155 = some (.struct (Try.prog.fieldsOf 155)) := by kernel_rfl
theorem list2 {cs : List Value} (h : cs.length = 2) : ∃ a b, cs = [a, b] := by
  match cs, h with
  | [a, b], _ => exact ⟨a, b, rfl⟩
set_option maxRecDepth 100000 in
theorem open_rangeC {t : TypeId} (ht : t = 155 ∨ t = 155) {fuel : Nat} {cs : List Value} {x : DataW H × List MemPlace} (hl : cs.length = 2) (h : DataW.trod enc Try.prog W 0 (fun _ => true) true fuel t cs = some x) :
    ∃ a b : Int, cs = [.int .i64 a, .int .i64 b] := by
  obtain ⟨c0, c1, rfl⟩ := list2 hl
  rcases ht with rfl | rfl
  · obtain ⟨xs, n, _, _, hl, hlen, hfs⟩ := DataW.trod_struct und33 h
    have f0 : DataW.trod enc Try.prog W 0 (fun _ => true) true n 3 (List.take (Try.prog.cellsOf 3) [c0, c1]) = xs[0]? := hfs 0 _ rfl
    have f1 : DataW.trod enc Try.prog W 0 (fun _ => true) true n 3 (List.take (Try.prog.cellsOf 3) [c1]) = xs[1]? := hfs 1 _ rfl
    rw [cells3] at f0 f1
    match xs, hlen with
    | [y0, y1], _ =>
      obtain ⟨n0, e0, _, _⟩ := DataW.trod_int und3 f0
      obtain ⟨n1, e1, _, _⟩ := DataW.trod_int und3 f1
      simp at e0 e1
      subst e0 e1
      exact ⟨n0, n1, rfl⟩
  · obtain ⟨xs, n, _, _, hl, hlen, hfs⟩ := DataW.trod_struct und50 h
    have f0 : DataW.trod enc Try.prog W 0 (fun _ => true) true n 3 (List.take (Try.prog.cellsOf 3) [c0, c1]) = xs[0]? := hfs 0 _ rfl
    have f1 : DataW.trod enc Try.prog W 0 (fun _ => true) true n 3 (List.take (Try.prog.cellsOf 3) [c1]) = xs[1]? := hfs 1 _ rfl
    rw [cells3] at f0 f1
    match xs, hlen with
    | [y0, y1], _ =>
      obtain ⟨n0, e0, _, _⟩ := DataW.trod_int und3 f0
      obtain ⟨n1, e1, _, _⟩ := DataW.trod_int und3 f1
      simp at e0 e1
      subst e0 e1
      exact ⟨n0, n1, rfl⟩
theorem open_rgsC {fuel : Nat} {cs : List Value} {x : DataW H × List MemPlace} (h : DataW.trod enc Try.prog W 0 (fun _ => true) true fuel 59 cs = some x) :
    ∃ A ws c, cs = [.slice A ws.length c] ∧ (ws.length ≤ c ∧ c ≤ 9223372036854775807) ∧ Rgs W.heap.size W A ws := by
  rcases open_slice und26 h with ⟨rfl, _⟩ | ⟨a, len, cap, m, n, D, Pl, rfl, _, hl, hm, hmm, _, hx⟩
  · exact ⟨none, [], 0, rfl, by decide, fun hp => by simp at hp⟩
  · have hlm : len ≤ m := by rw [hmm]; split <;> omega
    unfold maxLen at hm
    have each : ∀ i, i < len → ∃ q : Rg, W.cell? (a.add (i * 2)) = some (.int .i64 q.lo) ∧ W.cell? ((a.add (i * 2)).add 1) = some (.int .i64 q.hi) := by
      intro i hi
      obtain ⟨cs', h1, h2⟩ := hx i (by omega)
      rw [cells33] at h1
      obtain ⟨_, hlen, hcell⟩ := World.cells?_some h1
      obtain ⟨v0, v1, rfl⟩ := open_rangeC (.inl rfl) hlen h2
      have e0 := hcell 0 (by omega)
      have e1 := hcell 1 (by omega)
      rw [show (a.add (i * 2)).add 0 = a.add (i * 2) from by simp [Addr.add]] at e0
      exact ⟨⟨v0, v1⟩, by simpa using e0, by simpa using e1⟩
    obtain ⟨q, hq⟩ := choose_lt each
    have e : ((List.range len).map q).length = len := by simp
    refine ⟨some a, (List.range len).map q, cap, by rw [e], by omega, fun hp => ?_⟩
    rw [e] at hp
    have h0 := spot_none (hq 0 hp).1
    rw [show a.add (0 * 2) = a from by simp [Addr.add]] at h0
    refine ⟨a.block, a.off, by rw [← h0], ?_, fun k hk => ?_⟩
    · have := World.block_lt_of_cell? W _ (hq 0 hp).1
      rwa [show a.add (0 * 2) = a from by simp [Addr.add]] at this
    · rw [e] at hk
      obtain ⟨c0, c1⟩ := hq k hk
      have ew : gx ((List.range len).map q) k = q k := by rw [gx_lt (by simpa using hk)]; simp
      rw [ew]
      rw [h0, addr_add] at c0 c1
      rw [addr_add] at c1
      exact ⟨c0, c1⟩
set_option maxRecDepth 100000 in
theorem open_ball {v : Value} {d : DataW H} {p : List MemPlace} (hv : Value.okWide Try.prog W .any b0 59 v) (h : DataW.Trod enc Try.prog W 0 (fun _ => true) true 59 v d p) :
    ∃ A ws c, v = .slice A ws.length c ∧ (ws.length ≤ c ∧ c ≤ 9223372036854775807) ∧ Rgs W.heap.size W A ws := by
  obtain ⟨a, len, cap, rfl⟩ := okWide_slice und26 hv
  obtain ⟨fuel, hf⟩ := h
  obtain ⟨A, xs, c, e, h1, h2⟩ := open_rgsC hf
  simp only [Value.cells] at e
  exact ⟨A, xs, c, by simpa using e, h1, h2⟩
set_option maxRecDepth 100000 in
theorem open_u8 {v : Value} {d : DataW H} {p : List MemPlace} (hv : Value.okWide Try.prog W .any b0 5 v) (h : DataW.Trod enc Try.prog W 0 (fun _ => true) true 5 v d p) : ∃ b : Nat, v = .int .u8 (b : Int) ∧ b < 256 := by
  obtain ⟨n, rfl, h1, h2, h3⟩ := open_int und5 hv h
  have hb : 0 ≤ n ∧ n ≤ 255 := by simpa [Lit.wf, IntKind.min, IntKind.max, IntKind.signed, IntKind.bits] using h3
  exact ⟨n.toNat, by rw [Int.toNat_of_nonneg hb.1], by omega⟩
end
end

end Go.Proofs.Ytenpiinkbfancaa.Rk
