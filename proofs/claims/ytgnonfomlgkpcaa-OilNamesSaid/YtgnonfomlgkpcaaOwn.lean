/-
  Appends of one number to an own list, and of one own list to an own list of lists.
-/
import Derived.Test.YtgnonfomlgkpcaaW
namespace Go.Proofs.Ytgnonfomlgkpcaa
open Go.RowKit

/-- An own list of numbers, in a block from base on. -/
def OwnI (base : Nat) (w : World) (u : Value) (xs : List Int) : Prop := w.ownsRow base 3 1 u xs.length (xs.map (Value.int .i64))

theorem OwnI.nil (base : Nat) (w : World) : OwnI base w (.slice none 0 0) [] := World.ownsRow_nil _ _ _ _
theorem OwnI.form {base : Nat} {w : World} {u : Value} {xs : List Int} (h : OwnI base w u xs) : ∃ A c, u = .slice A xs.length c := ownsRow_form h
theorem OwnI.kept {base : Nat} {w w' : World} {u : Value} {xs : List Int} (h : OwnI base w u xs) (hb : Below w.heap.size w w') : OwnI base w' u xs := World.ownsRow.kept h (only_below hb none) (by cases u.ownBlock <;> simp)
theorem OwnI.isInts {base : Nat} {w : World} {u : Value} {xs : List Int} (h : OwnI base w u xs) : IsInts w.heap.size w u xs := ownsRow_isInts h

theorem src_int (w : World) (y : Int) : Src (w.alloc (.cells #[.int .i64 y] 3)) 1 (some ⟨w.heap.size, 0, none⟩) 1 [.int .i64 y] := by
  refine ⟨rfl, (fun h => by cases h), fun ad hA j x hx => ?_⟩
  injection hA with hA
  subst hA
  cases j with
  | zero =>
    simp at hx
    subst hx
    rw [add_eq]
    simp
  | succ j => simp at hx

theorem own_below {base : Nat} {w w1 : World} {o : Obj} {e : TypeId} {u : Value} {n : Nat} {xs : List Value} (hown : w.ownsRow base e 1 u n xs) (hB : base ≤ w.heap.size) (hg : (w.alloc o).grownBy w1 u.ownBlock) : Below base w w1 :=
  ((Below.refl base w).alloc hB o).grown hg (by simp; omega) (fun k e => (hown.lt k e).1)

section
variable {ops : Array Oper} {rest : List Oper} {o : Oper} {a : Act} {Q : Exit → Act → World → Prop}

theorem wpList_app_int (s x : Operand) (hgd : o.guard = none) (ho : o.op = .call { callee := .builtin .append, args := #[s, x], argTypes := #[45, 45] }) (base : Nat) (w : World) (u : Value) (xs : List Int) (y : Int)
    (hv : a.eval s = u) (hx : a.eval x = .slice (some ⟨w.heap.size, 0, none⟩) 1 1) (hown : Hid (OwnI base w u xs)) (hl : xs.length ≤ 1000000) (hb : base ≤ w.heap.size)
    (h : ∀ A c w', Hid (OwnI base w' (.slice A (xs.length + 1) c) (xs ++ [y])) → Hid (Below base w w') → wpList Try.prog ops Q rest (a.put o.dst (.slice A (xs.length + 1) c)) w') :
    wpList Try.prog ops Q (o :: rest) a (w.alloc (.cells #[.int .i64 y] 3)) := by
  obtain ⟨i0, hi, hz0, hz1, hz2⟩ := info_parts infoInt
  have hO : w.ownsRow base 3 1 u xs.length (xs.map (Value.int .i64)) := hown
  refine wpList_append_src hgd s x 45 ho base 3 i0 (.int .i64 0) 1 8 Try.underlying45 hi hz0 hz1 hz2 rfl (by decide) u xs.length (xs.map (Value.int .i64)) hv (hO.alloc _) (some ⟨w.heap.size, 0, none⟩) 1 1 [.int .i64 y] hx (src_int w y) (one_ints [y]) (by unfold maxLen; omega) (by omega) (by simp; omega) ?_
  intro v' w' h1 h2 _
  obtain ⟨A, c, rfl⟩ := ownsRow_form h1
  refine h A c w' ?_ (own_below hO hb h2)
  show OwnI _ _ _ _
  unfold OwnI
  simpa using h1

theorem wpList_app_row (s x : Operand) (hgd : o.guard = none) (ho : o.op = .call { callee := .builtin .append, args := #[s, x], argTypes := #[22, 22] }) (base : Nat) (w w1 : World) (v : Value) (k : Nat) (vs : List Value) (rows : Nat → List Int) (Au : Option Addr) (m cu : Nat)
    (hv : a.eval s = v) (hx : a.eval x = .slice (some ⟨w1.heap.size, 0, none⟩) 1 1) (hR : Hid (Rws base w v k vs rows)) (hm : (rows k).length = m) (hu : Hid (OwnI w.heap.size w1 (.slice Au m cu) (rows k))) (hW : Hid (Below w.heap.size w w1)) (hl : k ≤ 1000000) (hb : base ≤ w.heap.size)
    (h : ∀ A c vs' w', Hid (Rws base w' (.slice A (k + 1) c) (k + 1) vs' rows) → Hid (Below base w w') → wpList Try.prog ops Q rest (a.put o.dst (.slice A (k + 1) c)) w') :
    wpList Try.prog ops Q (o :: rest) a (w1.alloc (.cells #[.slice Au m cu] 45)) := by
  subst hm
  obtain ⟨i1, hi', hy0, hy1, hy2⟩ := info_parts infoInts
  have hO := hR.out.1
  have hO1 : (w1.alloc (.cells #[.slice Au (rows k).length cu] 45)).ownsRow base 45 1 v k vs := (hO.kept (only_below hW.out none) (own_ne v)).alloc _
  have hU : w1.ownsRow w.heap.size 3 1 (.slice Au (rows k).length cu) (rows k).length ((rows k).map (Value.int .i64)) := hu.out
  refine wpList_append_src hgd s x 22 ho base 45 i1 (.slice none 0 0) 1 24 Try.underlying22 hi' hy0 hy1 hy2 rfl (by decide) v k vs hv hO1 (some ⟨w1.heap.size, 0, none⟩) 1 1 [.slice Au (rows k).length cu] hx (src_one w1 _) (one_slices hU) (by unfold maxLen; omega) (by omega) (le_alloc hb hW.out) ?_
  intro v' w' h1 h2 h3
  obtain ⟨A, c, rfl⟩ := ownsRow_form h1
  have hb1 : Below w.heap.size w (w1.alloc (.cells #[.slice Au (rows k).length cu] 45)) := hW.out.alloc hW.out.size _
  exact h A c _ w' (hR.out.push hb1 hb (hU.alloc _) h2 h3 h1) ((hb1.mono hb).grown h2 (le_alloc hb hW.out) (fun j e => (hO.lt j e).1))
end
end Go.Proofs.Ytgnonfomlgkpcaa
