/-
  Lists of records of k numbers in memory; own ones; appends.
-/
import Derived.Test.YtenpiinkbfancaaRt
namespace Go.Proofs.Ytenpiinkbfancaa.Pa
open Go.RowKit
set_option linter.unusedSimpArgs false
set_option linter.unusedVariables false

/-- The slice address A has the records rs, each of k numbers. -/
def Recs (k B : Nat) (w : World) (A : Option Addr) (rs : List (List Int)) : Prop :=
  0 < rs.length → ∃ b off, A = some ⟨b, off, none⟩ ∧ b < B ∧ ∀ n, n < rs.length → ∀ j, j < k → w.cell? ⟨b, off + n * k + j, none⟩ = some (.int .i64 (ix (rx rs n) j))
section
variable {k B : Nat} {w w' : World} {A : Option Addr} {rs : List (List Int)}
theorem Recs.step (h : Recs k w.heap.size w A rs) (hb : Below w.heap.size w w') : Recs k w'.heap.size w' A rs := fun hp => by
  obtain ⟨b, off, hA, hlt, hc⟩ := h hp
  exact ⟨b, off, hA, Nat.lt_of_lt_of_le hlt hb.size, fun n hn j hj => (hb.cell (p := ⟨b, off + n * k + j, none⟩) hlt).trans (hc n hn j hj)⟩
theorem Recs.below (h : Recs k B w A rs) (hb : Below B w w') : Recs k B w' A rs := fun hp => by
  obtain ⟨b, off, hA, hlt, hc⟩ := h hp
  exact ⟨b, off, hA, hlt, fun n hn j hj => (hb.cell (p := ⟨b, off + n * k + j, none⟩) hlt).trans (hc n hn j hj)⟩
set_option maxRecDepth 10000 in
theorem Recs.at2 (h : Recs 2 B w A rs) {n : Nat} (hn : n < rs.length) : ∃ b off, A = some ⟨b, off, none⟩ ∧ b < B ∧ w.cell? ⟨b, off + n * 2, none⟩ = some (.int .i64 (ix (rx rs n) 0)) ∧ w.cell? ⟨b, off + n * 2 + 1, none⟩ = some (.int .i64 (ix (rx rs n) 1)) := by
  obtain ⟨b, off, hA, hlt, hc⟩ := h (by omega)
  exact ⟨b, off, hA, hlt, hc n hn 0 (by omega), hc n hn 1 (by omega)⟩
theorem Recs.at5 (h : Recs 5 B w A rs) {n : Nat} (hn : n < rs.length) : ∃ b off, A = some ⟨b, off, none⟩ ∧ b < B ∧ w.cell? ⟨b, off + n * 5, none⟩ = some (.int .i64 (ix (rx rs n) 0)) ∧ w.cell? ⟨b, off + n * 5 + 1, none⟩ = some (.int .i64 (ix (rx rs n) 1)) ∧ w.cell? ⟨b, off + n * 5 + 2, none⟩ = some (.int .i64 (ix (rx rs n) 2)) ∧ w.cell? ⟨b, off + n * 5 + 3, none⟩ = some (.int .i64 (ix (rx rs n) 3)) ∧ w.cell? ⟨b, off + n * 5 + 4, none⟩ = some (.int .i64 (ix (rx rs n) 4)) := by
  obtain ⟨b, off, hA, hlt, hc⟩ := h (by omega)
  exact ⟨b, off, hA, hlt, hc n hn 0 (by omega), hc n hn 1 (by omega), hc n hn 2 (by omega), hc n hn 3 (by omega), hc n hn 4 (by omega)⟩
end
/-- A slice type t of records of k numbers, of type e. -/
def RTy (t e k : Nat) : Prop := 0 < k ∧ Try.prog.underlying t = some (.slice e) ∧ ∃ i z, Try.prog.info? e = some i ∧ i.zero = some z ∧ z.cells.size = k ∧ i.size = k ∧ i.bytes = 8 * k ∧ k ≤ 8
theorem rty {t e k : Nat} {z : Value} (hu : Try.prog.underlying t = some (.slice e)) (hi : (Try.prog.info? e).map (fun i => (i.zero, i.size, i.bytes)) = some (some z, k, 8 * k)) (hz : z.cells.size = k) (hk : 0 < k ∧ k ≤ 8) : RTy t e k := by
  cases h : Try.prog.info? e with
  | none => rw [h] at hi; cases hi
  | some i =>
    rw [h] at hi
    simp only [Option.map_some, Option.some.injEq, Prod.mk.injEq] at hi
    exact ⟨hk.1, hu, i, z, h, hi.1, hz, hi.2.1, hi.2.2, hk.2⟩
theorem info105 : (Try.prog.info? 105).map (fun i => (i.zero, i.size, i.bytes)) = some (some (.agg #[.int .i64 0, .int .i64 0]), 2, 16) := by kernel_rfl
theorem ty97 : RTy 97 105 2 := rty Try.underlying97 info105 rfl (by decide)
theorem info186 : (Try.prog.info? 186).map (fun i => (i.zero, i.size, i.bytes)) = some (some (.agg #[.int .i64 0, .int .i64 0]), 2, 16) := by kernel_rfl
theorem ty100 : RTy 100 186 2 := rty Try.underlying100 info186 rfl (by decide)
theorem info198 : (Try.prog.info? 198).map (fun i => (i.zero, i.size, i.bytes)) = some (some (.agg #[.int .i64 0, .int .i64 0, .int .i64 0, .int .i64 0, .int .i64 0]), 5, 40) := by kernel_rfl
theorem ty101 : RTy 101 198 5 := rty Try.underlying101 info198 rfl (by decide)
def flatK (rs : List (List Int)) : List Value := rs.flatten.map (Value.int .i64)
theorem flatK_len {k : Nat} : ∀ {rs : List (List Int)}, (∀ r ∈ rs, r.length = k) → (flatK rs).length = rs.length * k
  | [], _ => by simp [flatK]
  | r :: rs, h => by
    have ih := flatK_len (fun x hx => h x (List.mem_cons_of_mem _ hx))
    have hr := h r (List.mem_cons_self ..)
    simp only [flatK, List.flatten_cons, List.map_append, List.length_append, List.length_map, List.length_cons] at *
    rw [ih, hr, Nat.add_mul]
    omega
theorem flatK_at {k : Nat} : ∀ {rs : List (List Int)}, (∀ r ∈ rs, r.length = k) → ∀ n, n < rs.length → ∀ j, j < k → (flatK rs)[n * k + j]? = some (.int .i64 (ix (rx rs n) j))
  | r :: rs, h, 0, _, j, hj => by
    have hr := h r (List.mem_cons_self ..)
    simp only [flatK, List.flatten_cons, List.map_append, Nat.zero_mul, Nat.zero_add]
    rw [List.getElem?_append_left (by rw [List.length_map]; omega), List.getElem?_map, List.getElem?_eq_getElem (by omega)]
    simp [rx, ix, List.getD, show j < r.length by omega]
  | r :: rs, h, n + 1, hn, j, hj => by
    have ih := flatK_at (fun x hx => h x (List.mem_cons_of_mem _ hx)) n (by simpa using hn) j hj
    have hr := h r (List.mem_cons_self ..)
    simp only [flatK, List.flatten_cons, List.map_append] at ih ⊢
    rw [List.getElem?_append_right (by rw [List.length_map, hr, Nat.add_mul]; omega), List.length_map, hr, show (n + 1) * k + j - k = n * k + j by rw [Nat.add_mul]; omega, ih]
    simp [rx]
theorem flatK_snoc (rs : List (List Int)) (r : List Int) : flatK (rs ++ [r]) = flatK rs ++ r.map (Value.int .i64) := by simp [flatK]
theorem one_flatK (rs : List (List Int)) : ∀ v ∈ flatK rs, v.oneCell' = true := by
  intro v hv
  simp only [flatK, List.mem_map] at hv
  obtain ⟨x, -, rfl⟩ := hv
  rfl
/-- An own list of records. -/
def OwnK (e k base : Nat) (w : World) (u : Value) (rs : List (List Int)) : Prop := (∀ r ∈ rs, r.length = k) ∧ w.ownsRow base e k u rs.length (flatK rs)
section
variable {t e k base : Nat} {w w' : World} {u : Value} {rs : List (List Int)}
theorem OwnK.nil (e k base : Nat) (w : World) : OwnK e k base w (.slice none 0 0) [] := ⟨fun r hr => by simp at hr, World.ownsRow_nil _ _ _ _⟩
theorem OwnK.form (h : OwnK e k base w u rs) : ∃ A c, u = .slice A rs.length c := ownsRow_form h.2
theorem OwnK.kept (h : OwnK e k base w u rs) (hb : Below w.heap.size w w') : OwnK e k base w' u rs := ⟨h.1, World.ownsRow.kept h.2 (only_below hb none) (by cases u.ownBlock <;> simp)⟩
theorem OwnK.step (h : OwnK e k base w u rs) (hb : Below w.heap.size w w') : OwnK e k base w' u rs := h.kept hb
theorem OwnK.lt (h : OwnK e k base w u rs) : ∀ j, u.ownBlock = some j → base ≤ j ∧ j < w.heap.size := World.ownsRow.lt h.2
theorem OwnK.grown {row : Option Nat} (h : OwnK e k base w u rs) (hg : w.grownBy w' row) (h0 : u.ownBlock = none ∨ u.ownBlock ≠ row) : OwnK e k base w' u rs := ⟨h.1, World.ownsRow.kept h.2 hg h0⟩
theorem OwnK.set (h : OwnK e k base w u rs) {ad : Addr} (ha : ad.block < base) (x : Value) : OwnK e k base (w.setCell ad x) u rs :=
  ⟨h.1, World.ownsRow.kept h.2 (only_setCell (World.grownBy.refl w (some ad.block)) (.inl rfl) x) (.inr fun e => by have := (h.lt _ e).1; omega)⟩
theorem OwnK.low {base' : Nat} (h : OwnK e k base w u rs) (hb : base' ≤ base) : OwnK e k base' w u rs := ⟨h.1, ownsRow_base h.2 hb⟩
theorem OwnK.recs {A : Option Addr} {n c : Nat} (h : OwnK e k base w (.slice A n c) rs) : n = rs.length ∧ rs.length ≤ c ∧ c ≤ 9223372036854775807 ∧ Recs k w.heap.size w A rs := by
  rcases h.2.2 with ⟨e1, h0⟩ | ⟨g, cap, cur, e1, hb, hg, hn, hm, hs, ht⟩
  · injection e1 with e1 e2 e3
    subst e1 e2 e3
    exact ⟨by omega, by omega, by omega, fun hp => by omega⟩
  · injection e1 with e1 e2 e3
    subst e1 e2 e3
    refine ⟨rfl, hn, by unfold maxLen at hm; omega, fun hp => ⟨g, 0, rfl, (Array.getElem?_eq_some_iff.1 hg).1, fun n hn j hj => ?_⟩⟩
    have := h.2.cells (g := g) rfl _ _ (flatK_at h.1 n hn j hj)
    rw [add_eq] at this
    rw [Nat.add_assoc]
    exact this
/-- The source of one record: a block of its own. -/
theorem src_rec (w : World) (e k : Nat) {r : List Int} (hr : r.length = k) : Src (w.alloc (.cells (r.map (Value.int .i64)).toArray e)) k (some ⟨w.heap.size, 0, none⟩) 1 (flatK [r]) := by
  have hf : flatK [r] = r.map (Value.int .i64) := by simp [flatK]
  rw [hf]
  refine ⟨by simp [hr], (fun h => by cases h), fun ad hA j x hx => ?_⟩
  injection hA with hA
  subst hA
  rw [add_eq]
  have hj : j < r.length := by
    rw [List.getElem?_map] at hx
    rcases Nat.lt_or_ge j r.length with h | h
    · exact h
    · rw [List.getElem?_eq_none h] at hx; simp at hx
  rw [List.getElem?_map, List.getElem?_eq_getElem hj] at hx
  simp at hx
  subst hx
  have hn := World.alloc_heap_new w (.cells (r.map (Value.int .i64)).toArray e)
  unfold World.cell?
  rw [hn]
  simp [hj]
theorem run_appK (hT : RTy t e k) (hown : OwnK e k base w u rs) {r : List Int} (hr : r.length = k) (ty : TypeId) (hl : rs.length ≤ 1000000) (hb : base ≤ w.heap.size) :
    ∃ A c w', (Builtin.append_ #[t, t] ty #[u, .slice (some ⟨w.heap.size, 0, none⟩) 1 1]).run Try.prog (w.alloc (.cells (r.map (Value.int .i64)).toArray e)) = .ok (.slice A (rs.length + 1) c) w' ∧ OwnK e k base w' (.slice A (rs.length + 1) c) (rs ++ [r]) ∧ w.grownBy w' u.ownBlock ∧
      ((Value.slice A (rs.length + 1) c).ownBlock = u.ownBlock ∨ ∃ j, (Value.slice A (rs.length + 1) c).ownBlock = some j ∧ w.heap.size ≤ j) := by
  obtain ⟨hk0, hu, i, z, hi, hz, hz1, hsz, hby, hk8⟩ := hT
  have hal := hown.kept ((Below.refl w.heap.size w).alloc (Nat.le_refl _) (.cells (r.map (Value.int .i64)).toArray e))
  obtain ⟨v', w', hrun, g1, g2, g3⟩ := run_append_src (P := Try.prog) (w := w.alloc (.cells (r.map (Value.int .i64)).toArray e)) base t ty e i z k (8 * k) hu hi hz hsz hby hz1 hk0 u rs.length (flatK rs) hal.2 (some ⟨w.heap.size, 0, none⟩) 1 1 (flatK [r]) (src_rec w e k hr) (one_flatK _) (by unfold maxLen; omega)
    (by have : (rs.length + 1) * (8 * k) ≤ 1000001 * 64 := Nat.mul_le_mul (by omega) (by omega); omega) (by simp; omega)
  obtain ⟨A, c, rfl⟩ := ownsRow_form g1
  refine ⟨A, c, w', hrun, ⟨fun x hx => ?_, ?_⟩, (World.grownBy_alloc w _ _).trans g2, ?_⟩
  · rcases List.mem_append.1 hx with h | h
    · exact hown.1 x h
    · rw [List.mem_singleton.1 h]; exact hr
  · rw [flatK_snoc, List.length_append]
    have hf : flatK [r] = r.map (Value.int .i64) := by simp [flatK]
    rw [hf] at g1
    exact g1
  · rcases g3 with e | e
    · exact .inl e
    · exact .inr ⟨_, e, by simp⟩
theorem wpList_appK (hT : RTy t e k) {ops : Array Oper} {rest : List Oper} {o : Oper} {a : Act} {Q : Exit → Act → World → Prop} (s x : Operand) (hgd : o.guard = none) (ho : o.op = .call { callee := .builtin .append, args := #[s, x], argTypes := #[t, t] }) (base : Nat) (w : World) (u : Value) (rs : List (List Int)) (r : List Int) (m : Nat)
    {q0 : Nat} {cs : Array Value} (hcs : cs = (r.map (Value.int .i64)).toArray) (hv : a.eval s = u) (hx : a.eval x = .slice (some ⟨q0, 0, none⟩) 1 1) (hq0 : q0 = w.heap.size) (hown : Hid (OwnK e k base w u rs)) (hm : Hid (rs.length = m)) (hr : r.length = k) (hl : m ≤ 1000000) (hb : base ≤ w.heap.size)
    (h : ∀ A c w', Hid (OwnK e k base w' (.slice A (m + 1) c) (rs ++ [r])) → Hid (w.grownBy w' u.ownBlock) → Hid ((Value.slice A (m + 1) c).ownBlock = u.ownBlock ∨ ∃ j, (Value.slice A (m + 1) c).ownBlock = some j ∧ w.heap.size ≤ j) → wpList Try.prog ops Q rest (a.put o.dst (.slice A (m + 1) c)) w') :
    wpList Try.prog ops Q (o :: rest) a (w.alloc (.cells cs e)) := by
  obtain rfl : rs.length = m := hm.out
  subst hcs hq0
  obtain ⟨A, c, w', hrun, h1, h2, h3⟩ := run_appK hT hown.out hr o.type hl hb
  refine wpList_plain hgd fun K hK => ?_
  unfold Oper.wp execOp
  simp only [ho, resolve, invoke, builtin, Sem.run_bind, Sem.run_pure, Result.andThen_ok, List.map_toArray, List.map_cons, List.map_nil, hv, hx, hrun]
  exact hK _ _ (h A c w' h1 h2 h3)
end
section
variable {t e k base : Nat} {ops : Array Oper} {o : Oper} {a : Act} {KK : Act → World → Prop} {Q : Exit → Act → World → Prop} {E : Prop}
/-- An append of one record, in a region whose order is drawn. -/
theorem step_appK (hT : RTy t e k) (s x : Operand) (hgd : o.guard = none) (ho : o.op = .call { callee := .builtin .append, args := #[s, x], argTypes := #[t, t] }) (base : Nat) (w : World) (u : Value) (rs : List (List Int)) (r : List Int) (m : Nat)
    {q0 : Nat} {cs : Array Value} (hcs : cs = (r.map (Value.int .i64)).toArray) (hv : a.eval s = u) (hx : a.eval x = .slice (some ⟨q0, 0, none⟩) 1 1) (hq0 : q0 = w.heap.size) (hown : Hid (OwnK e k base w u rs)) (hm : Hid (rs.length = m)) (hr : r.length = k) (hl : m ≤ 1000000) (hb : base ≤ w.heap.size)
    (hK : ∀ A c w', Hid (OwnK e k base w' (.slice A (m + 1) c) (rs ++ [r])) → Hid (w.grownBy w' u.ownBlock) → Hid ((Value.slice A (m + 1) c).ownBlock = u.ownBlock ∨ ∃ j, (Value.slice A (m + 1) c).ownBlock = some j ∧ w.heap.size ≤ j) → KK (a.put o.dst (.slice A (m + 1) c)) w') :
    if Region.wanted o (yielded ops a.tmps) = true then Oper.wp Try.prog o a (w.alloc (.cells cs e)) KK Q else E := by
  rw [if_pos (by simp [Region.wanted, hgd])]
  obtain rfl : rs.length = m := hm.out
  subst hcs hq0
  obtain ⟨A, c, w', hrun, h1, h2, h3⟩ := run_appK hT hown.out hr o.type hl hb
  unfold Oper.wp execOp
  simp only [ho, resolve, invoke, builtin, Sem.run_bind, Sem.run_pure, Result.andThen_ok, List.map_toArray, List.map_cons, List.map_nil, hv, hx, hrun]
  exact hK A c w' h1 h2 h3
end
end Go.Proofs.Ytenpiinkbfancaa.Pa
