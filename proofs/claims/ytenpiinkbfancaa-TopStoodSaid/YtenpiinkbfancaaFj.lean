/-
  Lists of numbers that a round of a loop over a function appends to; a row of numbers that it counts in.
-/
import Derived.Test.YtenpiinkbfancaaFi
namespace Go.Proofs.Ytenpiinkbfancaa
open Go.RowKit
set_option linter.unusedSimpArgs false
set_option linter.unusedVariables false

theorem infoN : (Try.prog.info? 3).map (fun i => (i.zero, i.size, i.bytes)) = some (some (.int .i64 0), 1, 8) := by kernel_rfl
theorem info_parts3 {i : Option TypeInfo} {z : Value} {s b : Nat} (h : i.map (fun i => (i.zero, i.size, i.bytes)) = some (some z, s, b)) : ∃ i0, i = some i0 ∧ i0.zero = some z ∧ i0.size = s ∧ i0.bytes = b := by
  cases i with
  | none => simp at h
  | some i0 => simp at h; exact ⟨i0, rfl, h.1, h.2.1, h.2.2⟩
/-- An own list of numbers, in a block from base on. -/
def OwnN (base : Nat) (w : World) (u : Value) (xs : List Int) : Prop := w.ownsRow base 3 1 u xs.length (xs.map (Value.int .i64))
section
variable {base s z : Nat} {w w' : World} {u v : Value} {xs : List Int}
theorem OwnN.nil (base : Nat) (w : World) : OwnN base w (.slice none 0 0) [] := World.ownsRow_nil _ _ _ _
theorem OwnN.form (h : OwnN base w u xs) : ∃ A c, u = .slice A xs.length c := ownsRow_form h
theorem OwnN.kept (h : OwnN base w u xs) (hb : Below w.heap.size w w') : OwnN base w' u xs := World.ownsRow.kept h (only_below hb none) (by cases u.ownBlock <;> simp)
theorem OwnN.chz (h : OwnN z w u xs) (hc : Chz s z w w') : OwnN z w' u xs := by
  refine ⟨h.1, ?_⟩
  rcases h.2 with h2 | ⟨g, cap, cur, e, hb, hg, hr⟩
  · exact .inl h2
  · exact .inr ⟨g, cap, cur, e, hb, hc.block hg (.inr hb), hr⟩
theorem OwnN.isInts (h : OwnN base w u xs) : IsInts w.heap.size w u xs := ownsRow_isInts h
theorem OwnN.set (h : OwnN base w u xs) {ad : Addr} (ha : u.ownBlock ≠ some ad.block) (x : Value) : OwnN base (w.setCell ad x) u xs :=
  World.ownsRow.kept h (only_setCell (World.grownBy.refl w (some ad.block)) (.inl rfl) x) (.inr ha)
theorem OwnN.lt (h : OwnN base w u xs) : ∀ k, u.ownBlock = some k → base ≤ k ∧ k < w.heap.size := World.ownsRow.lt h
theorem OwnN.grown {row : Option Nat} (h : OwnN base w u xs) (hg : w.grownBy w' row) (hne : u.ownBlock = none ∨ u.ownBlock ≠ row) : OwnN base w' u xs := World.ownsRow.kept h hg hne
end
theorem ints_parts {B : Nat} {w : World} {A : Option Addr} {n c : Nat} {xs : List Int} (h : IsInts B w (.slice A n c) xs) : n = xs.length ∧ xs.length ≤ c ∧ c ≤ 9223372036854775807 ∧ Ints B w A xs := by
  obtain ⟨A', c', e, h1, h2, h3⟩ := h
  injection e with e1 e2 e3
  subst e1 e2 e3
  exact ⟨rfl, h1, h2, h3⟩
/-- A box that holds a slice. -/
def SlAt (W : World) (b : Nat) (v : Value) : Prop := W.heap[b]? = some (.cells #[v] 42)
section
variable {W W' : World} {b : Nat} {v : Value}
theorem SlAt.lt (h : SlAt W b v) : b < W.heap.size := (Array.getElem?_eq_some_iff.1 h).1
theorem SlAt.cell (h : SlAt W b v) : W.cell? ⟨b, 0, none⟩ = some v := by
  unfold SlAt at h
  simp [World.cell?, h]
theorem SlAt.frozen (h : SlAt W b v) : W.frozen? ⟨b, 0, none⟩ = false := by
  unfold SlAt at h
  simp [World.frozen?, h]
theorem SlAt.step (h : SlAt W b v) (hb : Below W.heap.size W W') : SlAt W' b v := (hb.block b h.lt).trans h
theorem SlAt.set (h : SlAt W b v) (x : Value) : SlAt (W.setCell ⟨b, 0, none⟩ x) b x := by
  unfold SlAt at h ⊢
  simp [World.setCell, Array.getElem?_modify, h]
theorem SlAt.far (h : SlAt W b v) {ad : Addr} (hp : b ≠ ad.block) (x : Value) : SlAt (W.setCell ad x) b v := (Below.heap_setCell W ad x b hp).trans h
theorem SlAt.new (w : World) (v : Value) : SlAt (w.alloc (.cells #[v] 42)) w.heap.size v := World.alloc_heap_new _ _
theorem SlAt.grown {row : Option Nat} (h : SlAt W b v) (hg : W.grownBy W' row) (hne : row ≠ some b) : SlAt W' b v := (hg.block b h.lt (fun e => hne e.symm)).trans h
end
theorem srcN (w : World) (y : Int) : Src (w.alloc (.cells #[.int .i64 y] 3)) 1 (some ⟨w.heap.size, 0, none⟩) 1 [.int .i64 y] := by
  refine ⟨rfl, (fun h => by cases h), fun ad hA j x hx => ?_⟩
  injection hA with hA
  subst hA
  cases j with
  | zero =>
    simp at hx
    subst hx
    rw [add_eq]
    simp
  | succ j => simp at hx
/-- An append of one number, within a round. -/
theorem wpListIn_appN {F : Fence} {n : Nat} {ops : Array Oper} {rest : List Oper} {o : Oper} {a : Act} {Q : Exit → Act → World → Prop} (s x : Operand) (hgd : o.guard = none) (ho : o.op = .call { callee := .builtin .append, args := #[s, x], argTypes := #[42, 42] }) (base : Nat) (w : World) (u : Value) (xs : List Int) (m : Nat) (y : Int)
    {q0 : Nat} (hv : a.eval s = u) (hx : a.eval x = .slice (some ⟨q0, 0, none⟩) 1 1) (hq0 : q0 = w.heap.size) (hown : Hid (OwnN base w u xs)) (hm : Hid (xs.length = m)) (hl : m ≤ 1000000) (hb : base ≤ w.heap.size)
    (h : ∀ A c w', Hid (OwnN base w' (.slice A (m + 1) c) (xs ++ [y])) → Hid (w.grownBy w' u.ownBlock) → Hid ((Value.slice A (m + 1) c).ownBlock = u.ownBlock ∨ ∃ k, (Value.slice A (m + 1) c).ownBlock = some k ∧ w.heap.size ≤ k) → wpListIn F n Try.prog ops Q rest (a.put o.dst (.slice A (m + 1) c)) w') :
    wpListIn F n Try.prog ops Q (o :: rest) a (w.alloc (.cells #[.int .i64 y] 3)) := by
  obtain rfl : xs.length = m := hm.out
  subst hq0
  obtain ⟨i0, hi, hz0, hz1, hz2⟩ := info_parts3 infoN
  have hO : w.ownsRow base 3 1 u xs.length (xs.map (Value.int .i64)) := hown
  obtain ⟨v', w', hrun, r1, r2, r3⟩ := run_append_src (P := Try.prog) (w := w.alloc (.cells #[.int .i64 y] 3)) base 42 o.type 3 i0 _ 1 8 Try.underlying42 hi hz0 hz1 hz2 rfl (by decide) u xs.length _ (hO.alloc _) (some ⟨w.heap.size, 0, none⟩) 1 1 [.int .i64 y] (srcN w y) (one_ints [y]) (by unfold maxLen; omega) (by omega) (by simp; omega)
  obtain ⟨A, c, rfl⟩ := ownsRow_form r1
  refine wpListIn_plain hgd fun K hK' => ?_
  unfold Oper.wpIn
  refine ⟨by simp [Oper.about, ho, resolve, Target.leads, Sem.run_pure], ?_⟩
  rw [Oper.semAt_plain F _ _ (by rw [ho]; intro c hc'; cases hc')]
  simp only [execOp, ho, resolve, invoke, builtin]
  simp [hv, hx, hrun, Result.andThen]
  refine hK' _ _ (h A c w' ?_ ?_ ?_)
  · show w'.ownsRow base 3 1 _ _ _
    simpa using r1
  · exact (World.grownBy_alloc w _ _).trans r2
  · rcases r3 with e | e
    · exact .inl e
    · exact .inr ⟨_, e, by simp⟩
theorem ownN_below {base : Nat} {w w' : World} {u : Value} {xs : List Int} (h : OwnN base w u xs) (hb : base ≤ w.heap.size) (hg : w.grownBy w' u.ownBlock) : Below base w w' :=
  ⟨hg.os, hg.tape, hg.output, hg.size, fun k hk => hg.block k (by omega) (fun e => by have := (h.lt k e.symm).1; omega)⟩
/-- An append of one number. -/
theorem wpList_appN {ops : Array Oper} {rest : List Oper} {o : Oper} {a : Act} {Q : Exit → Act → World → Prop} (s x : Operand) (hgd : o.guard = none) (ho : o.op = .call { callee := .builtin .append, args := #[s, x], argTypes := #[42, 42] }) (base : Nat) (w : World) (u : Value) (xs : List Int) (m : Nat) (y : Int)
    {q0 : Nat} (hv : a.eval s = u) (hx : a.eval x = .slice (some ⟨q0, 0, none⟩) 1 1) (hq0 : q0 = w.heap.size) (hown : Hid (OwnN base w u xs)) (hm : Hid (xs.length = m)) (hl : m ≤ 1000000) (hb : base ≤ w.heap.size)
    (h : ∀ A c w', Hid (OwnN base w' (.slice A (m + 1) c) (xs ++ [y])) → Hid (Below base w w') → wpList Try.prog ops Q rest (a.put o.dst (.slice A (m + 1) c)) w') :
    wpList Try.prog ops Q (o :: rest) a (w.alloc (.cells #[.int .i64 y] 3)) := by
  obtain rfl : xs.length = m := hm.out
  subst hq0
  obtain ⟨i0, hi, hz0, hz1, hz2⟩ := info_parts3 infoN
  have hO : w.ownsRow base 3 1 u xs.length (xs.map (Value.int .i64)) := hown
  refine wpList_append_src hgd s x 42 ho base 3 i0 (.int .i64 0) 1 8 Try.underlying42 hi hz0 hz1 hz2 rfl (by decide) u xs.length (xs.map (Value.int .i64)) hv (hO.alloc _) (some ⟨w.heap.size, 0, none⟩) 1 1 [.int .i64 y] hx (srcN w y) (one_ints [y]) (by unfold maxLen; omega) (by omega) (by simp; omega) ?_
  intro v' w' h1 h2 _
  obtain ⟨A, c, rfl⟩ := ownsRow_form h1
  refine h A c w' ?_ (ownN_below hown.out hb ((World.grownBy_alloc w _ _).trans h2))
  show w'.ownsRow base 3 1 _ _ _
  simpa using h1
/-! ### A row of numbers -/
def updD (D : Nat → Int) (p : Nat) (v : Int) : Nat → Int := fun k => if k = p then v else D k
def dnL (D : Nat → Int) (m : Nat) : List Value := (List.range m).map fun k => Value.int .i64 (D k)
/-- Block g holds m numbers. -/
def DnAt (w : World) (g : Nat) (D : Nat → Int) (m : Nat) : Prop := w.heap[g]? = some (.cells (dnL D m).toArray 3)
theorem DnAt.lt {w : World} {g m : Nat} {D : Nat → Int} (h : DnAt w g D m) : g < w.heap.size := (Array.getElem?_eq_some_iff.1 h).1
theorem DnAt.step {w w' : World} {g m : Nat} {D : Nat → Int} (h : DnAt w g D m) (hb : Below w.heap.size w w') : DnAt w' g D m := (hb.block g h.lt).trans h
theorem DnAt.cell {w : World} {g m : Nat} {D : Nat → Int} (h : DnAt w g D m) {p : Nat} (hp : p < m) : w.cell? ⟨g, p, none⟩ = some (.int .i64 (D p)) ∧ w.frozen? ⟨g, p, none⟩ = false := by
  unfold DnAt at h
  refine ⟨?_, by simp [World.frozen?, h]⟩
  simp [World.cell?, h, dnL, hp]
theorem DnAt.set {w : World} {g m : Nat} {D : Nat → Int} (h : DnAt w g D m) (p : Nat) (b : Int) : DnAt (w.setCell ⟨g, p, none⟩ (.int .i64 b)) g (updD D p b) m := by
  have e : ((dnL D m).toArray.setIfInBounds p (.int .i64 b)) = (dnL (updD D p b) m).toArray := by
    refine Array.ext (by simp [dnL]) fun i h1 h2 => ?_
    simp only [Array.getElem_setIfInBounds, List.getElem_toArray]
    by_cases e : p = i
    · subst e; simp [dnL, updD]
    · simp [dnL, updD, e, Ne.symm e]
  unfold DnAt at h ⊢
  rw [← e]
  simp [World.setCell, Array.getElem?_modify, h]
theorem DnAt.far {w : World} {g m : Nat} {D : Nat → Int} (h : DnAt w g D m) {ad : Addr} (hp : g ≠ ad.block) (x : Value) : DnAt (w.setCell ad x) g D m := (Below.heap_setCell w ad x g hp).trans h
theorem DnAt.grown {w w' : World} {g m : Nat} {D : Nat → Int} {row : Option Nat} (h : DnAt w g D m) (hg : w.grownBy w' row) (hne : row ≠ some g) : DnAt w' g D m := (hg.block g h.lt (fun e => hne e.symm)).trans h
theorem dnAt_new (w : World) (m : Nat) : DnAt (w.alloc (.cells (madeCells #[.int .i64 0] m) 3)) w.heap.size (fun _ => 0) m := by
  have e : madeCells #[.int .i64 0] m = (dnL (fun _ => 0) m).toArray := by
    refine Array.toList_inj.1 ?_
    rw [toList_madeCells_one]
    refine List.ext_getElem (by simp [dnL]) fun i h1 h2 => ?_
    simp [dnL]
  unfold DnAt
  rw [← e]
  exact World.alloc_heap_new _ _
theorem DnAt.congr {w : World} {g m : Nat} {D D' : Nat → Int} (h : DnAt w g D m) (e : ∀ k, k < m → D k = D' k) : DnAt w g D' m := by
  have : dnL D m = dnL D' m := List.map_congr_left fun k hk => by rw [e k (List.mem_range.1 hk)]
  unfold DnAt at h ⊢
  rw [← this]
  exact h
/-! ### How many balls the frames have -/
theorem nf_succ {N : Int} {xs : List Int} (h : SheetOk N xs) {k : Nat} (hk : k < xs.length) (f : Nat) : (nfS N xs (k + 1) f : Int) = updD (fun f => (nfS N xs k f : Int)) (plS N xs k).fr.toNat ((nfS N xs k (plS N xs k).fr.toNat : Int) + 1) f := by
  have hl := rows_len h k (by omega)
  have hok := plS_ok h k (by omega)
  have h0 := hok.f0
  unfold updD nfS
  rw [rowsS_succ hk]
  unfold addR
  by_cases c1 : (plS N xs k).fr = ((rowsS N xs k).length : Int)
  · rw [if_pos c1]
    have e : (plS N xs k).fr.toNat = (rowsS N xs k).length := by omega
    rw [e]
    by_cases c2 : f = (rowsS N xs k).length
    · rw [if_pos c2, c2, rx_lt (by simp), rx_no (Nat.le_refl _)]
      simp
    · rw [if_neg c2]
      by_cases c3 : f < (rowsS N xs k).length
      · rw [rx_lt (by simp; omega), List.getElem_append_left c3, ← rx_lt c3]
      · dsimp only
        rw [rx_no (by simp; omega), rx_no (by omega)]
  · rw [if_neg c1]
    by_cases c2 : f = (plS N xs k).fr.toNat
    · rw [if_pos c2, c2, rx_lt (by simp; omega)]
      simp
    · rw [if_neg c2]
      by_cases c3 : f < (rowsS N xs k).length
      · rw [rx_lt (by simpa using c3), List.getElem_set_ne (Ne.symm c2), ← rx_lt c3]
      · dsimp only
        rw [rx_no (by simp; omega), rx_no (by omega)]
theorem nf_pos {N : Int} {xs : List Int} (h : SheetOk N xs) {k : Nat} (hk : k < xs.length) : 1 ≤ nfS N xs (k + 1) (plS N xs k).fr.toNat := by
  have := nf_succ h hk (plS N xs k).fr.toNat
  unfold updD at this
  rw [if_pos rfl] at this
  omega
theorem nf_le {N : Int} {xs : List Int} (h : SheetOk N xs) {k : Nat} (hk : k ≤ xs.length) (f : Nat) : nfS N xs k f ≤ k := row_le h k hk f
end Go.Proofs.Ytenpiinkbfancaa
