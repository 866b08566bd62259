/-
  A lane with its oil in one block; wear.
-/
import Derived.Test.YtgnonfomlgkpcaaD
import Derived.Laws.CopyOwn
namespace Go.Proofs.Ytgnonfomlgkpcaa
open Go.RowKit

/-- The cells of a worn lane: its Lane, then the oil of 8 rows of 12 boards. -/
def wcells (fv : Value) (lo hi ca : Int) (o : Nat → Int) : List Value := fv :: .int .i64 lo :: .int .i64 hi :: .int .i64 ca :: (List.range 96).map fun i => .int .i64 (o i)
def Worn (w : World) (g : Nat) (fv : Value) (lo hi ca : Int) (o : Nat → Int) : Prop := w.heap[g]? = some (.cells (wcells fv lo hi ca o).toArray 124 (0, 0))
def upd (o : Nat → Int) (i : Nat) (x : Int) : Nat → Int := fun j => if j = i then x else o j

section
variable {w w' : World} {g : Nat} {fv : Value} {lo hi ca : Int} {o : Nat → Int}
theorem wcells_len : (wcells fv lo hi ca o).length = 100 := by simp [wcells]
theorem wcells_at {i : Nat} (h : i < 96) : (wcells fv lo hi ca o)[4 + i]? = some (.int .i64 (o i)) := by
  rw [Nat.add_comm]
  simp [wcells, h]
theorem Worn.lt (h : Worn w g fv lo hi ca o) : g < w.heap.size := (Array.getElem?_eq_some_iff.1 h).1
theorem Worn.cell (h : Worn w g fv lo hi ca o) (j : Nat) : w.cell? ⟨g, j, none⟩ = (wcells fv lo hi ca o)[j]? := by
  unfold Worn at h
  simp [World.cell?, h]
theorem Worn.c0 (h : Worn w g fv lo hi ca o) : w.cell? ⟨g, 0, none⟩ = some fv := h.cell 0
theorem Worn.c1 (h : Worn w g fv lo hi ca o) : w.cell? ⟨g, 1, none⟩ = some (.int .i64 lo) := h.cell 1
theorem Worn.c2 (h : Worn w g fv lo hi ca o) : w.cell? ⟨g, 2, none⟩ = some (.int .i64 hi) := h.cell 2
theorem Worn.c3 (h : Worn w g fv lo hi ca o) : w.cell? ⟨g, 3, none⟩ = some (.int .i64 ca) := h.cell 3
theorem Worn.at_ (h : Worn w g fv lo hi ca o) {i j : Nat} (hi' : i < 96) (hj : j = 4 + i) : w.cell? ⟨g, j, none⟩ = some (.int .i64 (o i)) := by rw [h.cell, hj, wcells_at hi']
theorem Worn.fz (h : Worn w g fv lo hi ca o) (j : Nat) : w.frozen? ⟨g, j, none⟩ = false := by
  unfold Worn at h
  simp [World.frozen?, h]
theorem Worn.drewN (h : Worn w g fv lo hi ca o) (n : Nat) : Worn (w.drewN n) g fv lo hi ca o := h
theorem Worn.alloc (h : Worn w g fv lo hi ca o) (x : Obj) : Worn (w.alloc x) g fv lo hi ca o := (Below.heap_alloc w x g h.lt).trans h
theorem Worn.below {B : Nat} (h : Worn w g fv lo hi ca o) (hb : Below B w w') (hg : g < B) : Worn w' g fv lo hi ca o := (hb.block g hg).trans h
theorem Worn.far (h : Worn w g fv lo hi ca o) {p : Addr} (hp : g ≠ p.block) (u : Value) : Worn (w.setCell p u) g fv lo hi ca o := (Below.heap_setCell w p u g hp).trans h
theorem Worn.grown {row : Option Nat} (h : Worn w g fv lo hi ca o) (hb : w.grownBy w' row) (hg : some g ≠ row) : Worn w' g fv lo hi ca o := (hb.block g h.lt hg).trans h
theorem wcells_upd {i : Nat} (x : Int) (h : i < 96) : (wcells fv lo hi ca o).set (4 + i) (.int .i64 x) = wcells fv lo hi ca (upd o i x) := by
  refine List.ext_getElem (by simp [wcells]) fun j h1 h2 => ?_
  simp only [List.length_set, wcells_len] at h1
  rw [List.getElem_set]
  by_cases hj : j < 4
  · rw [if_neg (by omega)]
    obtain rfl | rfl | rfl | rfl : j = 0 ∨ j = 1 ∨ j = 2 ∨ j = 3 := by omega
    all_goals rfl
  · obtain ⟨m, rfl⟩ : ∃ m, j = 4 + m := ⟨j - 4, by omega⟩
    have e1 := wcells_at (fv := fv) (lo := lo) (hi := hi) (ca := ca) (o := o) (i := m) (by omega)
    have e2 := wcells_at (fv := fv) (lo := lo) (hi := hi) (ca := ca) (o := upd o i x) (i := m) (by omega)
    rw [List.getElem?_eq_getElem (by rw [wcells_len]; omega)] at e1 e2
    injection e1 with e1
    injection e2 with e2
    rw [e2]
    by_cases e : m = i
    · subst e; simp [upd]
    · rw [if_neg (by omega), e1]; simp [upd, e]
theorem Worn.set (h : Worn w g fv lo hi ca o) {i j : Nat} (x : Int) (hi' : i < 96) (hj : j = 4 + i) : Worn (w.setCell ⟨g, j, none⟩ (.int .i64 x)) g fv lo hi ca (upd o i x) := by
  unfold Worn at h ⊢
  subst hj
  simp [World.setCell, Array.getElem?_modify, h, wcells_upd x hi']
end

theorem upd_upd (o : Nat → Int) (i : Nat) (x y : Int) : upd (upd o i x) i y = upd o i y := by
  funext j; simp only [upd]; split <;> rfl

theorem only_drewN {a w : World} {row : Option Nat} (h : a.grownBy w row) (n : Nat) : a.grownBy (w.drewN n) row := ⟨h.os, h.tape, h.output, h.size, h.block⟩
theorem only_alloc {a w : World} {row : Option Nat} (h : a.grownBy w row) (o : Obj) : a.grownBy (w.alloc o) row :=
  ⟨h.os, h.tape, h.output, Nat.le_trans h.size (by simp), fun i hi hne => (Below.heap_alloc w o i (Nat.lt_of_lt_of_le hi h.size)).trans (h.block i hi hne)⟩
theorem only_setCell {a w : World} {g : Nat} (h : a.grownBy w (some g)) {p : Addr} (hp : p.block = g ∨ a.heap.size ≤ p.block) (u : Value) : a.grownBy (w.setCell p u) (some g) :=
  ⟨h.os, h.tape, h.output, by simpa [World.setCell] using h.size, fun i hi hne => (Below.heap_setCell w p u i (by
    rintro rfl
    rcases hp with hp | hp
    · exact hne (by rw [hp])
    · omega)).trans (h.block i hi hne)⟩
theorem only_below {a w : World} (h : Below a.heap.size a w) (row : Option Nat) : a.grownBy w row := ⟨h.os, h.tape, h.output, h.size, fun i hi _ => h.block i hi⟩
theorem below_only {B g : Nat} {a w : World} (h : a.grownBy w (some g)) (hg : B ≤ g) (hB : B ≤ a.heap.size) : Below B a w :=
  ⟨h.os, h.tape, h.output, h.size, fun i hi => h.block i (by omega) (fun e => by injection e with e; omega)⟩

/-- A ball has gone over one cell. -/
def WearPost (w : World) (g : Nat) (fv : Value) (lo hi ca : Int) (o : Nat → Int) (i : Nat) (x : Int) (e : Ending) (w' : World) : Prop :=
  e = .returned (.tuple #[]) ∧ Worn w' g fv lo hi ca (upd o i x) ∧ w.grownBy w' (some g)

set_option maxHeartbeats 1000000 in
theorem wear_pos (g r b : Nat) (fv : Value) (lo hi ca before own : Int) (o : Nat → Int) (w : World) (hw : Worn w g fv lo hi ca o) (hr : r < 8) (hr0 : 0 < r) (hb : b < 12)
    (h1 : 0 ≤ ca) (h2 : ca ≤ 100) (h3 : 0 ≤ before) (h4 : before ≤ 9) (h5 : 0 ≤ o (r * 12 + b)) (h6 : o (r * 12 + b) ≤ 100) (h7 : 0 ≤ own) (h8 : own ≤ 9) :
    Calls Try.prog 63 #[.pointer (some ⟨g, 0, none⟩), .agg #[.int .i64 r, .int .i64 b], .int .i64 before, .int .i64 own] w (WearPost w g fv lo hi ca o (r * 12 + b) (wornF ca (o (r * 12 + b)) before own)) := by
  have hg := hw.lt
  have hg1 : g < w.heap.size + 1 := by omega
  have hg2 : g < w.heap.size + 1 + 1 := by omega
  have hc3 := hw.c3
  have hx := hw.at_ (i := r * 12 + b) (j := 4 + r * 12 + b) (by omega) (by omega)
  have hf := hw.fz (4 + r * 12 + b)
  have h9 : 0 ≤ ca * before := Int.mul_nonneg h1 h3
  have h10 : ca * before ≤ 900 := by
    have := Int.mul_le_mul h2 h4 h3 (by omega)
    omega
  have HW := Lib.hid hw
  clear hw
  generalize hox : o (r * 12 + b) = x at *
  have HX := Lib.hid hox
  clear hox
  go_enter Try.func63, Try.ntmps63
  go_wp2_with fail
  go_quiet (fail)
  go_wp2_with fail
  go_region
  go_wp2_with fail
  refine (least_c _ 100 (x + ca * before / 100) _ (by go_simp) (by go_simp)).mono ?_
  rintro e w1 ⟨rfl, rfl⟩
  go_wp2_with fail
  refine (greatest_c _ 0 (min 100 (x + ca * before / 100) - own) _ (by go_simp) (by go_simp)).mono ?_
  rintro e w1 ⟨rfl, rfl⟩
  go_wp2_with fail
  go_end0
  refine ⟨rfl, ?_, ?_⟩
  · rw [← upd_upd o (r * 12 + b) (x + ca * before / 100)]
    exact ((((((HW.out.alloc _).drewN _).set (i := r * 12 + b) (j := 4 + r * 12 + b) _ (by omega) (by omega)).set (i := r * 12 + b) (j := 4 + r * 12 + b) _ (by omega) (by omega)).alloc _).alloc _)
  · exact only_alloc (only_alloc (only_setCell (only_setCell (only_drewN (only_alloc (World.grownBy.refl w _) _) _) (.inl rfl) _) (.inl rfl) _) _) _

theorem wornF_zero (ca x own : Int) : wornF ca x 0 own = max 0 (min 100 x - own) := by simp [wornF]

set_option maxHeartbeats 1000000 in
theorem wear_zero (g b : Nat) (fv : Value) (lo hi ca before own : Int) (o : Nat → Int) (w : World) (hw : Worn w g fv lo hi ca o) (hb : b < 12)
    (h5 : 0 ≤ o b) (h6 : o b ≤ 100) (h7 : 0 ≤ own) (h8 : own ≤ 9) :
    Calls Try.prog 63 #[.pointer (some ⟨g, 0, none⟩), .agg #[.int .i64 0, .int .i64 b], .int .i64 before, .int .i64 own] w (WearPost w g fv lo hi ca o b (wornF ca (o b) 0 own)) := by
  have hg := hw.lt
  have hg1 : g < w.heap.size + 1 := by omega
  have hg2 : g < w.heap.size + 1 + 1 := by omega
  have hc3 := hw.c3
  have hx := hw.at_ (i := b) (j := 4 + b) (by omega) (by omega)
  have hf := hw.fz (4 + b)
  have HW := Lib.hid hw
  clear hw
  generalize hox : o b = x at *
  have HX := Lib.hid hox
  clear hox
  go_enter Try.func63, Try.ntmps63
  go_wp2_with fail
  go_quiet (fail)
  go_wp2_with fail
  refine (least_c _ 100 x _ (by go_simp) (by go_simp)).mono ?_
  rintro e w1 ⟨rfl, rfl⟩
  go_wp2_with fail
  refine (greatest_c _ 0 (min 100 x - own) _ (by go_simp) (by go_simp)).mono ?_
  rintro e w1 ⟨rfl, rfl⟩
  go_wp2_with fail
  go_end0
  refine ⟨rfl, ?_, ?_⟩
  · rw [wornF_zero]
    exact ((((HW.out.alloc _).drewN _).set (i := b) (j := 4 + b) (max 0 (min 100 x - own)) (by omega) (by omega)).alloc _).alloc _
  · exact only_alloc (only_alloc (only_setCell (only_drewN (only_alloc (World.grownBy.refl w _) _) _) (.inl rfl) _) _) _

theorem wear_c (g r b : Nat) (fv : Value) (lo hi ca before own : Int) (o : Nat → Int) (w : World) (hw : Worn w g fv lo hi ca o) (hr : r < 8) (hb : b < 12)
    (h1 : 0 ≤ ca) (h2 : ca ≤ 100) (h3 : 0 ≤ before) (h4 : before ≤ 9) (h5 : 0 ≤ o (r * 12 + b)) (h6 : o (r * 12 + b) ≤ 100) (h7 : 0 ≤ own) (h8 : own ≤ 9) :
    Calls Try.prog 63 #[.pointer (some ⟨g, 0, none⟩), .agg #[.int .i64 r, .int .i64 b], .int .i64 before, .int .i64 own] w (WearPost w g fv lo hi ca o (r * 12 + b) (wornF ca (o (r * 12 + b)) (if 0 < r then before else 0) own)) := by
  by_cases hr0 : 0 < r
  · rw [if_pos hr0]
    exact wear_pos g r b fv lo hi ca before own o w hw hr hr0 hb h1 h2 h3 h4 h5 h6 h7 h8
  · obtain rfl : r = 0 := by omega
    simp only [Nat.zero_mul, Nat.zero_add, Nat.lt_irrefl, if_false] at h5 h6 ⊢
    exact wear_zero g b fv lo hi ca before own o w hw hb h5 h6 h7 h8
end Go.Proofs.Ytgnonfomlgkpcaa
