/-
  An own list of own rows of numbers; frame: Read.
-/
import Derived.Test.YtenpiinkbfancaaFk
namespace Go.Proofs.Ytenpiinkbfancaa
open Go.RowKit
set_option linter.unusedSimpArgs false
set_option linter.unusedVariables false

def vx (vs : List Value) (k : Nat) : Value := vs.getD k (.slice none 0 0)
theorem vx_snoc {vs : List Value} {y : Value} {k : Nat} (h : k < vs.length) : vx (vs ++ [y]) k = vx vs k := by
  unfold vx
  simp [List.getD, List.getElem?_append, h]
theorem vx_last {vs : List Value} {y : Value} : vx (vs ++ [y]) vs.length = y := by
  unfold vx
  simp [List.getD]
theorem vx_set {vs : List Value} {y : Value} {f k : Nat} (h : f < vs.length) : vx (vs.set f y) k = if k = f then y else vx vs k := by
  unfold vx
  by_cases e : k = f
  · subst e
    simp [List.getD, h]
  · rw [if_neg e]
    simp [List.getD, List.getElem?_set, Ne.symm e]
theorem rx_snoc' {R : List (List Int)} {y : List Int} {k : Nat} (h : k < R.length) : rx (R ++ [y]) k = rx R k := by
  unfold rx
  simp [List.getD, List.getElem?_append, h]
theorem rx_last' {R : List (List Int)} {y : List Int} : rx (R ++ [y]) R.length = y := by
  unfold rx
  simp [List.getD]
theorem rx_set' {R : List (List Int)} {y : List Int} {f k : Nat} (h : f < R.length) : rx (R.set f y) k = if k = f then y else rx R k := by
  unfold rx
  by_cases e : k = f
  · subst e
    simp [List.getD, h]
  · rw [if_neg e]
    simp [List.getD, List.getElem?_set, Ne.symm e]
/-- An own list u of own rows vs, which hold R; no two share a block. -/
structure RowsN (base : Nat) (w : World) (u : Value) (vs : List Value) (R : List (List Int)) : Prop where
  own : w.ownsRow base 42 1 u vs.length vs
  len : vs.length = R.length
  rows : ∀ k, k < R.length → OwnN base w (vx vs k) (rx R k)
  out : ∀ k, k < R.length → Dis (vx vs k) u
  two : ∀ i j, i < R.length → j < R.length → i ≠ j → Dis (vx vs i) (vx vs j)
section
variable {base s z : Nat} {w w' : World} {u u' v' : Value} {vs : List Value} {R : List (List Int)}
theorem RowsN.nil (base : Nat) (w : World) : RowsN base w (.slice none 0 0) [] [] :=
  ⟨World.ownsRow_nil _ _ _ _, rfl, fun k h => by simp at h, fun k h => by simp at h, fun i j h => by simp at h⟩
theorem RowsN.form (h : RowsN base w u vs R) : ∃ A c, u = .slice A R.length c := by
  have := ownsRow_form h.own
  rwa [h.len] at this
theorem RowsN.kept (h : RowsN base w u vs R) (hb : Below w.heap.size w w') : RowsN base w' u vs R :=
  ⟨World.ownsRow.kept h.own (only_below hb none) (by cases u.ownBlock <;> simp), h.len, fun k hk => (h.rows k hk).kept hb, h.out, h.two⟩
theorem RowsN.chz (h : RowsN z w u vs R) (hc : Chz s z w w') : RowsN z w' u vs R := by
  refine ⟨⟨h.own.1, ?_⟩, h.len, fun k hk => (h.rows k hk).chz hc, h.out, h.two⟩
  rcases h.own.2 with h2 | ⟨g, cap, cur, e, hb, hg, hr⟩
  · exact .inl h2
  · exact .inr ⟨g, cap, cur, e, hb, hc.block hg (.inr hb), hr⟩
theorem RowsN.lt (h : RowsN base w u vs R) : ∀ k, u.ownBlock = some k → base ≤ k ∧ k < w.heap.size := World.ownsRow.lt h.own
theorem RowsN.far (h : RowsN base w u vs R) {ad : Addr} (ha : ad.block < base) (x : Value) : RowsN base (w.setCell ad x) u vs R :=
  ⟨World.ownsRow.kept h.own (only_setCell (World.grownBy.refl w (some ad.block)) (.inl rfl) x) (.inr fun e => by have := (h.lt _ e).1; omega), h.len, fun k hk => (h.rows k hk).set (fun e => by have := ((h.rows k hk).lt _ e).1; omega) x, h.out, h.two⟩
/-- A new empty row. -/
theorem RowsN.push (h : RowsN base w u vs R) (ho : w'.ownsRow base 42 1 u' (vs.length + 1) (vs ++ [.slice none 0 0])) (hg : w.grownBy w' u.ownBlock) (hd : u'.ownBlock = u.ownBlock ∨ ∃ k, u'.ownBlock = some k ∧ w.heap.size ≤ k) : RowsN base w' u' (vs ++ [.slice none 0 0]) (R ++ [[]]) := by
  have hl := h.len
  have key : ∀ k, k < (R ++ [([] : List Int)]).length → k < R.length ∨ k = R.length := fun k hk => by simp at hk; omega
  have hlast : vx (vs ++ [.slice none 0 0]) R.length = .slice none 0 0 := by rw [← hl]; exact vx_last
  refine ⟨by simpa using ho, by simp [hl], fun k hk => ?_, fun k hk => ?_, fun i j hi hj hij => ?_⟩
  · rcases key k hk with c | rfl
    · rw [vx_snoc (by omega), rx_snoc' c]
      exact (h.rows k c).grown hg (dis_row (h.out k c).symm)
    · rw [hlast, rx_last']
      exact OwnN.nil _ _
  · rcases key k hk with c | rfl
    · rw [vx_snoc (by omega)]
      exact ((h.out k c).symm.app (h.rows k c) (Nat.le_refl _) hd).symm
    · rw [hlast]
      exact (dis_nil _).symm.symm
  · rcases key i hi with c | rfl <;> rcases key j hj with d | rfl
    · rw [vx_snoc (by omega), vx_snoc (by omega)]
      exact h.two i j c d hij
    · rw [hlast]
      exact (dis_nil _).symm
    · rw [hlast]
      exact dis_nil _
    · exact absurd rfl hij
/-- A row has grown. -/
theorem RowsN.app {g m c f : Nat} {y : Int} (h : RowsN base w (.slice (some ⟨g, 0, none⟩) m c) vs R) (hf : f < R.length) (ho : OwnN base w' v' (rx R f ++ [y])) (hg : w.grownBy w' (vx vs f).ownBlock) (hd : v'.ownBlock = (vx vs f).ownBlock ∨ ∃ k, v'.ownBlock = some k ∧ w.heap.size ≤ k) :
    RowsN base (w'.setCell ⟨g, f, none⟩ v') (.slice (some ⟨g, 0, none⟩) m c) (vs.set f v') (R.set f (rx R f ++ [y])) := by
  have hl := h.len
  obtain ⟨A, c', e⟩ := ownsRow_form h.own
  injection e with e1 e2 e3
  subst e2
  have hgs := (h.lt g rfl).2
  have h1 : w'.ownsRow base 42 1 (.slice (some ⟨g, 0, none⟩) vs.length c) vs.length vs := World.ownsRow.kept h.own hg (dis_row (h.out f hf))
  have h2 := (World.ownsRow.stored h1 f v').1
  have hvg : v'.ownBlock ≠ some g := by
    rcases hd with e | ⟨k, e, hk⟩
    · rw [e]
      rcases h.out f hf with d | d
      · rw [d]; simp
      · exact d
    · rw [e]
      intro d
      injection d with d
      omega
  have hog : ∀ k, k < R.length → (vx vs k).ownBlock ≠ some g := fun k hk => by
    rcases h.out k hk with d | d
    · rw [d]; simp
    · exact d
  have hvv : ∀ k, k < R.length → k ≠ f → Dis v' (vx vs k) := fun k hk hkf => (h.two f k hf hk (Ne.symm hkf)).app (h.rows k hk) (Nat.le_refl _) hd
  refine ⟨by simpa using h2, by simp [hl], fun k hk => ?_, fun k hk => ?_, fun i j hi hj hij => ?_⟩
  · rw [List.length_set] at hk
    rw [vx_set (by omega), rx_set' hf]
    by_cases e : k = f
    · rw [if_pos e, if_pos e]
      exact ho.set hvg _
    · rw [if_neg e, if_neg e]
      exact ((h.rows k hk).grown hg (dis_row (h.two f k hf hk (Ne.symm e)))).set (hog k hk) _
  · rw [List.length_set] at hk
    rw [vx_set (by omega)]
    by_cases e : k = f
    · rw [if_pos e]
      exact .inr hvg
    · rw [if_neg e]
      exact h.out k hk
  · rw [List.length_set] at hi hj
    rw [vx_set (by omega), vx_set (by omega)]
    by_cases e : i = f
    · rw [if_pos e, if_neg (by omega)]
      exact hvv j hj (by omega)
    · rw [if_neg e]
      by_cases e2 : j = f
      · rw [if_pos e2]
        exact (hvv i hi e).symm
      · rw [if_neg e2]
        exact h.two i j hi hj hij
theorem RowsN.cell {g m c f : Nat} (h : RowsN base w (.slice (some ⟨g, 0, none⟩) m c) vs R) (hf : f < R.length) : w.cell? ⟨g, f, none⟩ = some (vx vs f) ∧ w.frozen? ⟨g, f, none⟩ = false := by
  have hl := h.len
  obtain ⟨A, c', e⟩ := ownsRow_form h.own
  injection e with e1 e2 e3
  subst e2
  refine ⟨?_, World.ownsRow.frozenAt h.own f⟩
  rw [World.ownsRow.cellAt h.own f (by omega)]
  unfold vx
  simp [List.getD, show f < vs.length by omega]
theorem RowsN.blk {A : Option Addr} {n c : Nat} (h : RowsN base w (.slice A (n + 1) c) vs R) : ∃ g, A = some ⟨g, 0, none⟩ := by
  rcases h.own.2 with ⟨e, -⟩ | ⟨g, cap, cur, e, -⟩
  · cases e
  · injection e with e1
    exact ⟨g, e1⟩
theorem RowsN.isGrd (h : RowsN base w u vs R) : IsGrd w.heap.size w u R := by
  have hl := h.len
  rcases h.own.2 with ⟨rfl, h0⟩ | ⟨g, cap, cur, rfl, hb, hg, hn, hm, hs, ht⟩
  · have e : R = [] := List.eq_nil_of_length_eq_zero (by omega)
    subst e
    exact ⟨none, 0, rfl, by simp, by simp, fun hp => by simp at hp⟩
  · have hR := h
    rw [hl]
    refine ⟨some ⟨g, 0, none⟩, cap, rfl, by omega, by unfold maxLen at hm; omega, fun hp => ⟨g, 0, rfl, (h.lt g rfl).2, fun k hk => ⟨vx vs k, ?_, (h.rows k hk).isInts⟩⟩⟩
    rw [Nat.zero_add]
    exact (hR.cell hk).1
end
theorem infoR : (Try.prog.info? 42).map (fun i => (i.zero, i.size, i.bytes)) = some (some (.slice none 0 0), 1, 24) := by kernel_rfl
theorem srcR (w : World) : Src (w.alloc (.cells #[.slice none 0 0] 42)) 1 (some ⟨w.heap.size, 0, none⟩) 1 [.slice none 0 0] := by
  refine ⟨rfl, (fun h => by cases h), fun ad hA j x hx => ?_⟩
  injection hA with hA
  subst hA
  cases j with
  | zero =>
    simp at hx
    subst hx
    rw [add_eq]
    simp
  | succ j => simp at hx
theorem RowsN.alloc {base : Nat} {w : World} {u : Value} {vs : List Value} {R : List (List Int)} (h : RowsN base w u vs R) (o : Obj) : RowsN base (w.alloc o) u vs R := h.kept ((Below.refl _ _).alloc (Nat.le_refl _) o)
/-- An append of an empty row, within a round. -/
theorem wpListIn_appR {F : Fence} {n : Nat} {ops : Array Oper} {rest : List Oper} {o : Oper} {a : Act} {Q : Exit → Act → World → Prop} (s x : Operand) (hgd : o.guard = none) (ho : o.op = .call { callee := .builtin .append, args := #[s, x], argTypes := #[29, 29] }) (base : Nat) (w : World) (u : Value) (vs : List Value) (R : List (List Int)) (m : Nat)
    {q0 : Nat} (hv : a.eval s = u) (hx : a.eval x = .slice (some ⟨q0, 0, none⟩) 1 1) (hq0 : q0 = w.heap.size) (hown : Hid (RowsN base w u vs R)) (hm : Hid (R.length = m)) (hl : m ≤ 1000000) (hb : base ≤ w.heap.size)
    (h : ∀ A c w', Hid (RowsN base w' (.slice A (m + 1) c) (vs ++ [.slice none 0 0]) (R ++ [[]])) → Hid (w.grownBy w' u.ownBlock) → Hid ((Value.slice A (m + 1) c).ownBlock = u.ownBlock ∨ ∃ k, (Value.slice A (m + 1) c).ownBlock = some k ∧ w.heap.size ≤ k) → wpListIn F n Try.prog ops Q rest (a.put o.dst (.slice A (m + 1) c)) w') :
    wpListIn F n Try.prog ops Q (o :: rest) a (w.alloc (.cells #[.slice none 0 0] 42)) := by
  obtain rfl : R.length = m := hm.out
  subst hq0
  have hlen := hown.out.len
  obtain ⟨i0, hi, hz0, hz1, hz2⟩ := info_parts3 infoR
  obtain ⟨v', w', hrun, r1, r2, r3⟩ := run_append_src (P := Try.prog) (w := w.alloc (.cells #[.slice none 0 0] 42)) base 29 o.type 42 i0 _ 1 24 Try.underlying29 hi hz0 hz1 hz2 rfl (by decide) u vs.length _ (hown.out.alloc _).own (some ⟨w.heap.size, 0, none⟩) 1 1 [.slice none 0 0] (srcR w) (fun v hv => by simp at hv; subst hv; rfl) (by unfold maxLen; omega) (by omega) (by simp; omega)
  obtain ⟨A, c, rfl⟩ := ownsRow_form r1
  rw [hlen] at hrun r3
  have hd : (Value.slice A (R.length + 1) c).ownBlock = u.ownBlock ∨ ∃ k, (Value.slice A (R.length + 1) c).ownBlock = some k ∧ w.heap.size ≤ k := by
    rcases r3 with e | e
    · exact .inl e
    · exact .inr ⟨_, e, by simp⟩
  have hg : w.grownBy w' u.ownBlock := (World.grownBy_alloc w _ _).trans r2
  have hr : RowsN base w' (.slice A (R.length + 1) c) (vs ++ [.slice none 0 0]) (R ++ [[]]) := by
    rw [← hlen] at hd ⊢
    exact hown.out.push r1 hg hd
  refine wpListIn_plain hgd fun K hK' => ?_
  unfold Oper.wpIn
  refine ⟨by simp [Oper.about, ho, resolve, Target.leads, Sem.run_pure], ?_⟩
  rw [Oper.semAt_plain F _ _ (by rw [ho]; intro c hc'; cases hc')]
  simp only [execOp, ho, resolve, invoke, builtin]
  simp [hv, hx, hrun, Result.andThen]
  exact hK' _ _ (h A c w' hr hg hd)
section
variable {ops : Array Oper} {o : Oper} {a : Act} {KK : Act → World → Prop} {Q : Exit → Act → World → Prop} {E : Prop}
/-- An append of one number, in a region whose order is drawn. -/
theorem step_appN (s x : Operand) (hgd : o.guard = none) (ho : o.op = .call { callee := .builtin .append, args := #[s, x], argTypes := #[42, 42] }) (base : Nat) (w : World) (u : Value) (xs : List Int) (m : Nat) (y : Int)
    {q0 : Nat} (hv : a.eval s = u) (hx : a.eval x = .slice (some ⟨q0, 0, none⟩) 1 1) (hq0 : q0 = w.heap.size) (hown : Hid (OwnN base w u xs)) (hm : Hid (xs.length = m)) (hl : m ≤ 1000000) (hb : base ≤ w.heap.size)
    (hK : ∀ A c w', Hid (OwnN base w' (.slice A (m + 1) c) (xs ++ [y])) → Hid (w.grownBy w' u.ownBlock) → Hid ((Value.slice A (m + 1) c).ownBlock = u.ownBlock ∨ ∃ k, (Value.slice A (m + 1) c).ownBlock = some k ∧ w.heap.size ≤ k) → KK (a.put o.dst (.slice A (m + 1) c)) w') :
    if Region.wanted o (yielded ops a.tmps) = true then Oper.wp Try.prog o a (w.alloc (.cells #[.int .i64 y] 3)) KK Q else E := by
  rw [if_pos (by simp [Region.wanted, hgd])]
  obtain rfl : xs.length = m := hm.out
  subst hq0
  obtain ⟨i0, hi, hz0, hz1, hz2⟩ := info_parts3 infoN
  have hO : w.ownsRow base 3 1 u xs.length (xs.map (Value.int .i64)) := hown
  obtain ⟨v', w', hr, r1, r2, r3⟩ := run_append_src (P := Try.prog) (w := w.alloc (.cells #[.int .i64 y] 3)) base 42 o.type 3 i0 _ 1 8 Try.underlying42 hi hz0 hz1 hz2 rfl (by decide) u xs.length _ (hO.alloc _) (some ⟨w.heap.size, 0, none⟩) 1 1 [.int .i64 y] (srcN w y) (one_ints [y]) (by unfold maxLen; omega) (by omega) (by simp; omega)
  obtain ⟨A, c, rfl⟩ := ownsRow_form r1
  unfold Oper.wp execOp
  simp only [ho, resolve, invoke, builtin, Sem.run_bind, Sem.run_pure, Result.andThen_ok, List.map_toArray, List.map_cons, List.map_nil, hv, hx, hr]
  refine hK A c w' ?_ ?_ ?_
  · show w'.ownsRow base 3 1 _ _ _
    simpa using r1
  · exact (World.grownBy_alloc w _ _).trans r2
  · rcases r3 with e | e
    · exact .inl e
    · exact .inr ⟨_, e, by simp⟩
end
end Go.Proofs.Ytenpiinkbfancaa
