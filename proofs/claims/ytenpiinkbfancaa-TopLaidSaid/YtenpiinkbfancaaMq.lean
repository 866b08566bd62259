/-
  path: maps of states: what they hold, filled; own lists of maps.
-/
import Derived.Test.YtenpiinkbfancaaPaM
import Derived.Maps.OwnSet
import Derived.Maps.RangeWalk
import Derived.DeepKeys4
namespace Go.Proofs.Ytenpiinkbfancaa.Pa
open Go.RowKit
set_option linter.unusedSimpArgs false
set_option linter.unusedVariables false

theorem laidOutH : laidOutB Try.prog = true := by kernel_rfl
theorem under4 : Try.prog.underlying 4 = some .bool := by kernel_rfl
theorem under223 : Try.prog.underlying 223 = some (.map 105 4) := by kernel_rfl
theorem under219 : Try.prog.underlying 219 = some (.slice 223) := by kernel_rfl
theorem zero4 (w : World) : (zeroValue 4).run Try.prog w = .ok (.bool false) w := by kernel_rfl
theorem st_law : Maps.Keyed Try.prog 105 := Maps.Keyed.of_law (deep_law_laid laidOutH (m := 3) (by decide) (of_decide_eq_true (by kernel_rfl)) (by kernel_rfl) (by kernel_rfl))
/-- A state as a value. -/
def sk (u : Int × Int) : Value := .agg #[.int .i64 u.1, .int .i64 u.2]
theorem sk_inj {u v : Int × Int} (h : sk u = sk v) : u = v := by
  unfold sk at h
  simp only [Value.agg.injEq, Array.mk.injEq, List.cons.injEq, Value.int.injEq, and_true, true_and] at h
  exact Prod.ext h.1 h.2
/-- The states that maps hold. -/
def insd (u : Int × Int) : Prop := (1 ≤ u.1 ∧ u.1 ≤ 40) ∧ -5 ≤ u.2 ∧ u.2 ≤ 5
set_option maxRecDepth 100000 in
theorem sk_keys : ∀ a : Fin 41, ∀ b : Fin 11, (keyOf Try.prog 105 (.agg #[.int .i64 ((a : Nat) : Int), .int .i64 (((b : Nat) : Int) - 5)])).isSome = true := by decide +kernel
theorem sk_key {u : Int × Int} (hu : insd u) : ∃ kl, keyOf Try.prog 105 (sk u) = some kl := by
  obtain ⟨⟨h1, h2⟩, h3, h4⟩ := hu
  have := sk_keys ⟨u.1.toNat, by omega⟩ ⟨(u.2 + 5).toNat, by omega⟩
  simp only at this
  rw [show ((u.1.toNat : Nat) : Int) = u.1 by omega, show (((u.2 + 5).toNat : Nat) : Int) - 5 = u.2 by omega] at this
  exact Option.isSome_iff_exists.1 this
/-- Does a map, as read, hold a state? -/
def hasU (D : DataW Unit) (u : Int × Int) : Prop := ∃ kl, keyOf Try.prog 105 (sk u) = some kl ∧ Maps.has D kl = true
/-- Block b is a map of at most n states. -/
structure MapD (w : World) (b n : Nat) (D : DataW Unit) : Prop where
  own : w.ownsMap Try.prog 105 (plainElem Try.prog 4) b n D
  ins : ∀ kl, Maps.has D kl = true → ∃ u, insd u ∧ keyOf Try.prog 105 (sk u) = some kl
section
variable {w w' : World} {b n : Nat} {D : DataW Unit} {row : Option Nat}
theorem MapD.made (w : World) : MapD (w.alloc (.map #[] 0)) w.heap.size 0 (.map []) := ⟨World.ownsMap_made _ _ _ _, fun kl h => by cases h⟩
theorem MapD.kept (h : MapD w b n D) (hg : w.grownBy w' row) (hne : some b ≠ row) : MapD w' b n D := ⟨h.own.kept hg hne, h.ins⟩
theorem MapD.lt (h : MapD w b n D) : b < w.heap.size := h.own.lt
theorem MapD.step (h : MapD w b n D) (hb : Below w.heap.size w w') : MapD w' b n D := h.kept (only_below hb none) (by simp)
theorem MapD.set (h : MapD w b n D) {ad : Addr} (ha : b ≠ ad.block) (x : Value) : MapD (w.setCell ad x) b n D := ⟨h.own.setCell ha x, h.ins⟩
theorem MapD.mono (h : MapD w b n D) {n' : Nat} (hn : n ≤ n') : MapD w b n' D := ⟨h.own.mono hn, h.ins⟩
theorem MapD.put (h : MapD w b n D) (hn : n ≤ 1000000000000000) {u : Int × Int} (hu : insd u) :
    ∃ w' D', (Instr.mapUpdate 223 (.map (some b)) (.agg #[.int .i64 u.1, .int .i64 u.2]) (.bool true)).run Try.prog w = .ok () w' ∧ MapD w' b (n + 1) D' ∧ w.grownBy w' (some b) ∧ hasU D' u ∧ ∀ v, hasU D v → hasU D' v := by
  obtain ⟨kl, hkl⟩ := sk_key hu
  have K := st_law
  obtain ⟨w', hr, hw, hg⟩ := h.own.update K under223 (by unfold maxLen; omega) hkl (plainElem_bool under4 true)
  refine ⟨w', _, hr, ⟨hw, fun kl' hk' => ?_⟩, hg, ⟨kl, hkl, Maps.has_put_same h.own.isMap (K.key hkl) _⟩, fun v hv => ?_⟩
  · by_cases e : kl' = kl
    · subst e
      exact ⟨u, hu, hkl⟩
    · rw [Maps.has_put_other e] at hk'
      exact h.ins kl' hk'
  · obtain ⟨kv, h1, h2⟩ := hv
    refine ⟨kv, h1, ?_⟩
    by_cases e : kv = kl
    · subst e
      exact Maps.has_put_same h.own.isMap (K.key hkl) _
    · rw [Maps.has_put_other e]
      exact h2
end
/-- An own list of maps. -/
def OwnM (base : Nat) (w : World) (u : Value) (bs : List Nat) : Prop := w.ownsRow base 223 1 u bs.length (bs.map fun b => Value.map (some b))
section
variable {base : Nat} {w w' : World} {u : Value} {bs : List Nat}
theorem OwnM.nil (base : Nat) (w : World) : OwnM base w (.slice none 0 0) [] := World.ownsRow_nil _ _ _ _
theorem OwnM.kept (h : OwnM base w u bs) (hb : Below w.heap.size w w') : OwnM base w' u bs := World.ownsRow.kept h (only_below hb none) (by cases u.ownBlock <;> simp)
theorem OwnM.lt (h : OwnM base w u bs) : ∀ j, u.ownBlock = some j → base ≤ j ∧ j < w.heap.size := World.ownsRow.lt h
theorem OwnM.grown {row : Option Nat} (h : OwnM base w u bs) (hg : w.grownBy w' row) (h0 : u.ownBlock = none ∨ u.ownBlock ≠ row) : OwnM base w' u bs := World.ownsRow.kept h hg h0
theorem OwnM.set (h : OwnM base w u bs) {ad : Addr} (ha : ad.block < base) (x : Value) : OwnM base (w.setCell ad x) u bs :=
  World.ownsRow.kept h (only_setCell (World.grownBy.refl w (some ad.block)) (.inl rfl) x) (.inr fun e => by have := (h.lt _ e).1; omega)
theorem OwnM.form (h : OwnM base w u bs) : ∃ A c, u = .slice A bs.length c := ownsRow_form h
theorem OwnM.at_ {A : Option Addr} {n c : Nat} (h : OwnM base w (.slice A n c) bs) {j : Nat} (hj : j < bs.length) : ∃ b off, A = some ⟨b, off, none⟩ ∧ w.cell? ⟨b, off + j, none⟩ = some (.map (some (bs[j]))) := by
  rcases h.2 with ⟨e1, h0⟩ | ⟨g, cap, cur, e1, hb, hg, hn, hm, hs, ht⟩
  · simp at h0
    rw [h0] at hj
    simp at hj
  · simp only [Value.slice.injEq] at e1
    obtain ⟨rfl, -, -⟩ := e1
    refine ⟨g, 0, rfl, ?_⟩
    have := World.ownsRow.cells h (g := g) rfl j (.map (some (bs[j]))) (by simp [hj])
    rw [add_eq] at this
    exact this
end
theorem src_map (w : World) (b : Nat) : Src (w.alloc (.cells #[.map (some b)] 223)) 1 (some ⟨w.heap.size, 0, none⟩) 1 [.map (some b)] := by
  refine ⟨by simp, (fun h => by cases h), fun ad hA j x hx => ?_⟩
  injection hA with hA
  subst hA
  rw [add_eq]
  have hn := World.alloc_heap_new w (.cells #[.map (some b)] 223)
  unfold World.cell?
  rw [hn]
  cases j with
  | zero => simp at hx; subst hx; simp
  | succ j => simp at hx
theorem info223 : (Try.prog.info? 223).map (fun i => (i.zero, i.size, i.bytes)) = some (some (.map none), 1, 8) := by kernel_rfl
theorem one_maps (bs : List Nat) : ∀ v ∈ bs.map (fun b => Value.map (some b)), v.oneCell' = true := fun v hv => by
  simp only [List.mem_map] at hv
  obtain ⟨b, -, rfl⟩ := hv
  rfl
theorem wpList_appM {ops : Array Oper} {rest : List Oper} {o : Oper} {a : Act} {Q : Exit → Act → World → Prop} (s x : Operand) (hgd : o.guard = none) (ho : o.op = .call { callee := .builtin .append, args := #[s, x], argTypes := #[219, 219] }) (base : Nat) (w : World) (u : Value) (bs : List Nat) (b m : Nat)
    {q0 : Nat} (hv : a.eval s = u) (hx : a.eval x = .slice (some ⟨q0, 0, none⟩) 1 1) (hq0 : q0 = w.heap.size) (hown : Hid (OwnM base w u bs)) (hm : Hid (bs.length = m)) (hl : m ≤ 1000000) (hb : base ≤ w.heap.size)
    (h : ∀ A c w', Hid (OwnM base w' (.slice A (m + 1) c) (bs ++ [b])) → Hid (w.grownBy w' u.ownBlock) → Hid ((Value.slice A (m + 1) c).ownBlock = u.ownBlock ∨ ∃ j, (Value.slice A (m + 1) c).ownBlock = some j ∧ w.heap.size ≤ j) → wpList Try.prog ops Q rest (a.put o.dst (.slice A (m + 1) c)) w') :
    wpList Try.prog ops Q (o :: rest) a (w.alloc (.cells #[.map (some b)] 223)) := by
  obtain rfl : bs.length = m := hm.out
  subst hq0
  have hal : OwnM base (w.alloc (.cells #[.map (some b)] 223)) u bs := hown.out.kept ((Below.refl w.heap.size w).alloc (Nat.le_refl _) _)
  obtain ⟨i, hi, hi2⟩ : ∃ i, Try.prog.info? 223 = some i ∧ (i.zero, i.size, i.bytes) = (some (.map none), 1, 8) := by
    have := info223
    cases h : Try.prog.info? 223 with
    | none => rw [h] at this; cases this
    | some i => rw [h] at this; exact ⟨i, rfl, by simpa using this⟩
  simp only [Prod.mk.injEq] at hi2
  obtain ⟨v', w', hrun, g1, g2, g3⟩ := run_append_src (P := Try.prog) (w := w.alloc (.cells #[.map (some b)] 223)) base 219 o.type 223 i (.map none) 1 8 under219 hi hi2.1 hi2.2.1 hi2.2.2 rfl (by omega) u bs.length (bs.map fun b => Value.map (some b)) hal (some ⟨w.heap.size, 0, none⟩) 1 1 [.map (some b)] (src_map w b) (one_maps [b]) (by unfold maxLen; omega)
    (by omega) (by simp; omega)
  obtain ⟨A, c, rfl⟩ := ownsRow_form g1
  have h1 : OwnM base w' (.slice A (bs.length + 1) c) (bs ++ [b]) := by
    unfold OwnM
    rw [List.map_append, List.length_append]
    exact g1
  refine wpList_plain hgd fun K hK => ?_
  unfold Oper.wp execOp
  simp only [ho, resolve, invoke, builtin, Sem.run_bind, Sem.run_pure, Result.andThen_ok, List.map_toArray, List.map_cons, List.map_nil, hv, hx, hrun]
  refine hK _ _ (h A c w' h1 ((World.grownBy_alloc w _ _).trans g2) ?_)
  rcases g3 with e | e
  · exact .inl e
  · exact .inr ⟨_, e, by simp⟩
/-- Appends of records to a long list. -/
theorem run_appKB {t e k base : Nat} {w : World} {u : Value} {rs : List (List Int)} (hT : RTy t e k) (hown : OwnK e k base w u rs) {r : List Int} (hr : r.length = k) (ty : TypeId) (hl : rs.length ≤ 4000000000) (hb : base ≤ w.heap.size) :
    ∃ A c w', (Builtin.append_ #[t, t] ty #[u, .slice (some ⟨w.heap.size, 0, none⟩) 1 1]).run Try.prog (w.alloc (.cells (r.map (Value.int .i64)).toArray e)) = .ok (.slice A (rs.length + 1) c) w' ∧ OwnK e k base w' (.slice A (rs.length + 1) c) (rs ++ [r]) ∧ w.grownBy w' u.ownBlock := by
  obtain ⟨hk0, hu, i, z, hi, hz, hz1, hsz, hby, hk8⟩ := hT
  have hal := hown.kept ((Below.refl w.heap.size w).alloc (Nat.le_refl _) (.cells (r.map (Value.int .i64)).toArray e))
  obtain ⟨v', w', hrun, g1, g2, g3⟩ := run_append_src (P := Try.prog) (w := w.alloc (.cells (r.map (Value.int .i64)).toArray e)) base t ty e i z k (8 * k) hu hi hz hsz hby hz1 hk0 u rs.length (flatK rs) hal.2 (some ⟨w.heap.size, 0, none⟩) 1 1 (flatK [r]) (src_rec w e k hr) (one_flatK _) (by unfold maxLen; omega)
    (by have : (rs.length + 1) * (8 * k) ≤ 4000000001 * 64 := Nat.mul_le_mul (by omega) (by omega); omega) (by simp; omega)
  obtain ⟨A, c, rfl⟩ := ownsRow_form g1
  refine ⟨A, c, w', hrun, ⟨fun x hx => ?_, ?_⟩, (World.grownBy_alloc w _ _).trans g2⟩
  · rcases List.mem_append.1 hx with h | h
    · exact hown.1 x h
    · rw [List.mem_singleton.1 h]; exact hr
  · rw [flatK_snoc, List.length_append]
    have hf : flatK [r] = r.map (Value.int .i64) := by simp [flatK]
    rw [hf] at g1
    exact g1
theorem wpList_appKB {t e k : Nat} (hT : RTy t e k) {ops : Array Oper} {rest : List Oper} {o : Oper} {a : Act} {Q : Exit → Act → World → Prop} (s x : Operand) (hgd : o.guard = none) (ho : o.op = .call { callee := .builtin .append, args := #[s, x], argTypes := #[t, t] }) (base : Nat) (w : World) (u : Value) (rs : List (List Int)) (r : List Int)
    {q0 : Nat} {cs : Array Value} (hcs : cs = (r.map (Value.int .i64)).toArray) (hv : a.eval s = u) (hx : a.eval x = .slice (some ⟨q0, 0, none⟩) 1 1) (hq0 : q0 = w.heap.size) (hown : Hid (OwnK e k base w u rs)) (hr : r.length = k) (hl : rs.length ≤ 4000000000) (hb : base ≤ w.heap.size)
    (h : ∀ u' w', Hid (OwnK e k base w' u' (rs ++ [r])) → Hid (w.grownBy w' u.ownBlock) → wpList Try.prog ops Q rest (a.put o.dst u') w') :
    wpList Try.prog ops Q (o :: rest) a (w.alloc (.cells cs e)) := by
  subst hcs hq0
  obtain ⟨A, c, w', hrun, h1, h2⟩ := run_appKB hT hown.out hr o.type hl hb
  refine wpList_plain hgd fun K hK => ?_
  unfold Oper.wp execOp
  simp only [ho, resolve, invoke, builtin, Sem.run_bind, Sem.run_pure, Result.andThen_ok, List.map_toArray, List.map_cons, List.map_nil, hv, hx, hrun]
  exact hK _ _ (h _ w' h1 h2)
end Go.Proofs.Ytenpiinkbfancaa.Pa
