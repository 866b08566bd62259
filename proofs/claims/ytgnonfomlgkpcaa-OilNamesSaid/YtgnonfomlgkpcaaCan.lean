/-
  The reference's Can: 101 bools in a block.
-/
import Derived.Test.YtgnonfomlgkpcaaTruthW
import Derived.Laws.Rows
import Derived.Laws.Tables
namespace Go.Proofs.Ytgnonfomlgkpcaa
open Go.RowKit

def bcells (f : Nat → Bool) : List Value := (List.range 101).map fun i => .bool (f i)
def Bits (w : World) (g : Nat) (f : Nat → Bool) : Prop := w.heap[g]? = some (.cells (bcells f).toArray 105 (0, 0))
def setB (f : Nat → Bool) (i : Nat) : Nat → Bool := fun j => if j = i then true else f j
theorem zero105 : Try.zeroCells105 = (bcells fun _ => false).toArray := by kernel_rfl
theorem bcells_len (f : Nat → Bool) : (bcells f).length = 101 := by simp [bcells]
theorem bcells_set (f : Nat → Bool) (i : Nat) : (bcells f).set i (.bool true) = bcells (setB f i) := by
  refine List.ext_getElem (by simp [bcells]) fun j h1 h2 => ?_
  simp only [bcells, List.getElem_set, List.getElem_map, List.getElem_range, setB]
  by_cases e : i = j
  · subst e; simp
  · rw [if_neg e, if_neg (Ne.symm e)]
theorem bcells_one (f : Nat → Bool) : (bcells f).toArray.all (·.oneCell') = true := by
  rw [Array.all_eq_true_iff_forall_mem]
  intro v hv
  simp only [bcells, List.mem_toArray, List.mem_map] at hv
  obtain ⟨i, _, rfl⟩ := hv
  rfl
theorem info105 (f : Nat → Bool) : (Try.prog.info? 105).map (·.size) = some (bcells f).toArray.size := by
  have : (Try.prog.info? 105).map (·.size) = some 101 := by kernel_rfl
  rw [this]
  simp [bcells]

section
variable {w w' : World} {g : Nat} {f : Nat → Bool}
theorem Bits.lt (h : Bits w g f) : g < w.heap.size := (Array.getElem?_eq_some_iff.1 h).1
theorem Bits.cell (h : Bits w g f) {j : Nat} (hj : j < 101) : w.cell? ⟨g, j, none⟩ = some (.bool (f j)) := by
  unfold Bits at h
  simp [World.cell?, h, bcells, hj]
theorem Bits.fz (h : Bits w g f) (j : Nat) : w.frozen? ⟨g, j, none⟩ = false := by
  unfold Bits at h
  simp [World.frozen?, h]
theorem Bits.below {B : Nat} (h : Bits w g f) (hb : Below B w w') (hg : g < B) : Bits w' g f := (hb.block g hg).trans h
theorem Bits.step (h : Bits w g f) (hb : Below w.heap.size w w') : Bits w' g f := h.below hb h.lt
theorem Bits.far (h : Bits w g f) {p : Addr} (hp : g ≠ p.block) (u : Value) : Bits (w.setCell p u) g f := (Below.heap_setCell w p u g hp).trans h
theorem Bits.set (h : Bits w g f) (i : Nat) : Bits (w.setCell ⟨g, i, none⟩ (.bool true)) g (setB f i) := by
  unfold Bits at h ⊢
  simp [World.setCell, Array.getElem?_modify, h, bcells_set]
theorem Bits.row (h : Bits w g f) (f' : Nat → Bool) : Bits (w.setRow g (bcells f').toArray) g f' := by
  unfold Bits at h ⊢
  simp [World.setRow, Array.getElem?_modify, h]
theorem Bits.rowFar {g' : Nat} (h : Bits w g f) (hg : g ≠ g') (cs : Array Value) : Bits (w.setRow g' cs) g f := by
  unfold Bits at h ⊢
  simp [World.setRow, Array.getElem?_modify, Ne.symm hg, h]
end
theorem below_setRow {B g : Nat} {a w : World} {cs : Array Value} (h : Below B a w) (hg : B ≤ g) : Below B a (w.setRow g cs) :=
  ⟨h.os, h.tape, h.output, by simpa using h.size, fun k hk => by
    have : (w.setRow g cs).heap[k]? = w.heap[k]? := by
      simp only [World.setRow, Array.getElem?_modify]
      rw [if_neg (by omega)]
    exact this.trans (h.block k hk)⟩
end Go.Proofs.Ytgnonfomlgkpcaa
