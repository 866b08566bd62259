/-
  Own lists of links, of ranges, of bools; an append of one.
-/
import Derived.Test.YtpekajnjjhibjaaL2
namespace Go.Proofs.Ytpekajnjjhibjaa
open Go.RowKit
set_option linter.unusedSimpArgs false
set_option linter.unusedVariables false

def cellsK (x : Lk) : List Value := [.int .i64 x.f, .int .i64 x.t, .bool x.s]
def flatK (ls : List Lk) : List Value := ls.flatMap cellsK
theorem flatK_len (ls : List Lk) : (flatK ls).length = ls.length * 3 := by
  induction ls with
  | nil => rfl
  | cons x xs ih => simp only [flatK, cellsK, List.flatMap_cons, List.length_append, List.length_cons, List.length_nil] at *; omega
theorem flatK_append (ws vs : List Lk) : flatK (ws ++ vs) = flatK ws ++ flatK vs := by simp [flatK]
theorem flatK_at : ∀ (ls : List Lk) (k : Nat), k < ls.length → (flatK ls)[k * 3]? = some (.int .i64 (lx ls k).f) ∧ (flatK ls)[k * 3 + 1]? = some (.int .i64 (lx ls k).t) ∧ (flatK ls)[k * 3 + 2]? = some (.bool (lx ls k).s)
  | x :: xs, 0, _ => by simp [flatK, cellsK, lx]
  | x :: xs, k + 1, h => by
    have := flatK_at xs k (by simpa using h)
    simp only [flatK, cellsK, List.flatMap_cons, lx, List.getD_cons_succ] at *
    rw [show (k + 1) * 3 = k * 3 + 3 by omega]
    simpa using this
theorem one_flatK (ls : List Lk) : ∀ v ∈ flatK ls, v.oneCell' = true := by
  intro v hv
  simp only [flatK, cellsK, List.mem_flatMap] at hv
  obtain ⟨p, _, hv⟩ := hv
  simp at hv
  rcases hv with rfl | rfl | rfl <;> rfl
def OwnK (e : TypeId) (base : Nat) (w : World) (u : Value) (ls : List Lk) : Prop := w.ownsRow base e 3 u ls.length (flatK ls)
theorem OwnK.form {e : TypeId} {base : Nat} {w : World} {u : Value} {ls : List Lk} (h : OwnK e base w u ls) : ∃ A c, u = .slice A ls.length c := ownsRow_form h
theorem OwnK.nil (e : TypeId) (base : Nat) (w : World) : OwnK e base w (.slice none 0 0) [] := World.ownsRow_nil _ _ _ _
theorem OwnK.kept {e : TypeId} {base : Nat} {w w' : World} {u : Value} {ls : List Lk} (h : OwnK e base w u ls) (hb : Below w.heap.size w w') : OwnK e base w' u ls := World.ownsRow.kept h (only_below hb none) (by cases u.ownBlock <;> simp)
theorem OwnK.keptBy {e : TypeId} {base g : Nat} {w w' : World} {u : Value} {ls : List Lk} (h : OwnK e base w u ls) (hg : w.grownBy w' (some g)) (hb : g < base) : OwnK e base w' u ls := World.ownsRow.kept h hg (.inr fun e => by
  have := (World.ownsRow.lt h g e).1
  omega)
theorem OwnK.parts {e : TypeId} {base : Nat} {w : World} {A : Option Addr} {n c : Nat} {ls : List Lk} (h : OwnK e base w (.slice A n c) ls) : ls.length ≤ c ∧ c ≤ 9223372036854775807 ∧ Lks w.heap.size w A ls := by
  rcases h.2 with ⟨e, h0⟩ | ⟨g, cap, cur, e, hb, hg, hn, hm, hs, ht⟩
  · injection e with e1 e2 e3
    subst e1 e3
    exact ⟨by omega, by omega, fun hp => by omega⟩
  · injection e with e1 e2 e3
    subst e1 e3
    refine ⟨hn, by unfold maxLen at hm; omega, fun hp => ⟨g, 0, rfl, (Array.getElem?_eq_some_iff.1 hg).1, fun k hk => ?_⟩⟩
    obtain ⟨a0, a1, a2⟩ := flatK_at ls k hk
    have b0 := h.cells (g := g) rfl _ _ a0
    have b1 := h.cells (g := g) rfl _ _ a1
    have b2 := h.cells (g := g) rfl _ _ a2
    rw [add_eq] at b0 b1 b2
    exact ⟨b0, by rw [Nat.add_assoc]; exact b1, by rw [Nat.add_assoc]; exact b2⟩
theorem infoK99 : (Try.prog.info? 99).map (fun i => (i.zero, i.size, i.bytes)) = some (some (.agg #[.int .i64 0, .int .i64 0, .bool false]), 3, 24) := by kernel_rfl
theorem infoK28 : (Try.prog.info? 28).map (fun i => (i.zero, i.size, i.bytes)) = some (some (.agg #[.int .i64 0, .int .i64 0, .bool false]), 3, 24) := by kernel_rfl
def KTy (t e : TypeId) : Prop := (t = 37 ∧ e = 99) ∨ (t = 22 ∧ e = 28)
theorem tyK {t e : TypeId} (h : KTy t e) : Try.prog.underlying t = some (.slice e) ∧ ∃ i, Try.prog.info? e = some i ∧ i.zero = some (.agg #[.int .i64 0, .int .i64 0, .bool false]) ∧ i.size = 3 ∧ i.bytes = 24 := by
  rcases h with ⟨rfl, rfl⟩ | ⟨rfl, rfl⟩
  · obtain ⟨i, a, b, c, d⟩ := info_parts infoK99
    exact ⟨by kernel_rfl, i, a, b, c, d⟩
  · obtain ⟨i, a, b, c, d⟩ := info_parts infoK28
    exact ⟨by kernel_rfl, i, a, b, c, d⟩
theorem srcK (w : World) (x : Lk) (e : TypeId) : Src (w.alloc (.cells #[.int .i64 x.f, .int .i64 x.t, .bool x.s] e)) 3 (some ⟨w.heap.size, 0, none⟩) 1 (flatK [x]) := by
  refine ⟨rfl, (fun h => by cases h), fun ad hA j u hu => ?_⟩
  injection hA with hA
  subst hA
  rw [add_eq]
  rcases j with _ | _ | _ | j <;> simp [flatK, cellsK] at hu
  all_goals
    subst hu
    simp
section
variable {t e : TypeId} {ops : Array Oper} {rest : List Oper} {o : Oper} {a : Act} {K : Act → World → Prop} {Q : Exit → Act → World → Prop} {E : Prop}
theorem run_appK (hT : KTy t e) (ty : TypeId) (base : Nat) (w : World) (u : Value) (ls : List Lk) (x : Lk) (hown : OwnK e base w u ls) (hl : ls.length ≤ 1000000) (hb : base ≤ w.heap.size) :
    ∃ A c w', (Builtin.append_ #[t, t] ty #[u, .slice (some ⟨w.heap.size, 0, none⟩) 1 1]).run Try.prog (w.alloc (.cells #[.int .i64 x.f, .int .i64 x.t, .bool x.s] e)) = .ok (.slice A (ls.length + 1) c) w' ∧ OwnK e base w' (.slice A (ls.length + 1) c) (ls ++ [x]) ∧ Below base w w' := by
  obtain ⟨hu, i, hi, hz, hz1, hz2⟩ := tyK hT
  have hO : w.ownsRow base e 3 u ls.length (flatK ls) := hown
  obtain ⟨u', w', hr, h1, h2, h3⟩ := run_append_src (P := Try.prog) (w := w.alloc (.cells #[.int .i64 x.f, .int .i64 x.t, .bool x.s] e)) base t ty e i _ 3 24 hu hi hz hz1 hz2 rfl (by decide) u ls.length (flatK ls) (hO.alloc _) (some ⟨w.heap.size, 0, none⟩) 1 1 (flatK [x]) (srcK w x e) (one_flatK [x]) (by unfold maxLen; omega) (by omega) (by simp; omega)
  obtain ⟨A, c, rfl⟩ := ownsRow_form h1
  refine ⟨A, c, w', hr, ?_, ((Below.refl base w).alloc hb _).grown h2 (by simp; omega) (fun k e => (hO.lt k e).1)⟩
  unfold OwnK
  rw [flatK_append, List.length_append]
  exact h1
theorem step_appK (hT : KTy t e) (s y : Operand) (hgd : o.guard = none) (ho : o.op = .call { callee := .builtin .append, args := #[s, y], argTypes := #[t, t] }) (base : Nat) (w : World) (u : Value) (ls : List Lk) (x : Lk)
    (hv : a.eval s = u) (hx : a.eval y = .slice (some ⟨w.heap.size, 0, none⟩) 1 1) (hown : Hid (OwnK e base w u ls)) (hl : ls.length ≤ 1000000) (hb : base ≤ w.heap.size)
    (hK : ∀ A c w', Hid (OwnK e base w' (.slice A (ls.length + 1) c) (ls ++ [x])) → Hid (Below base w w') → K (a.put o.dst (.slice A (ls.length + 1) c)) w') :
    if Region.wanted o (yielded ops a.tmps) = true then Oper.wp Try.prog o a (w.alloc (.cells #[.int .i64 x.f, .int .i64 x.t, .bool x.s] e)) K Q else E := by
  rw [if_pos (by simp [Region.wanted, hgd])]
  obtain ⟨A, c, w', hr, h1, h2⟩ := run_appK hT o.type base w u ls x hown.out hl hb
  unfold Oper.wp execOp
  simp only [ho, resolve, invoke, builtin, Sem.run_bind, Sem.run_pure, Result.andThen_ok, List.map_toArray, List.map_cons, List.map_nil, hv, hx, hr]
  exact hK _ _ _ h1 h2
theorem wpList_appK (hT : KTy t e) (s y : Operand) (hgd : o.guard = none) (ho : o.op = .call { callee := .builtin .append, args := #[s, y], argTypes := #[t, t] }) (base : Nat) (w : World) (u : Value) (ls : List Lk) (x : Lk)
    (hv : a.eval s = u) (hx : a.eval y = .slice (some ⟨w.heap.size, 0, none⟩) 1 1) (hown : Hid (OwnK e base w u ls)) (hl : ls.length ≤ 1000000) (hb : base ≤ w.heap.size)
    (h : ∀ A c w', Hid (OwnK e base w' (.slice A (ls.length + 1) c) (ls ++ [x])) → Hid (Below base w w') → wpList Try.prog ops Q rest (a.put o.dst (.slice A (ls.length + 1) c)) w') :
    wpList Try.prog ops Q (o :: rest) a (w.alloc (.cells #[.int .i64 x.f, .int .i64 x.t, .bool x.s] e)) := by
  refine wpList_plain hgd fun K hK => ?_
  obtain ⟨A, c, w', hr, h1, h2⟩ := run_appK hT o.type base w u ls x hown.out hl hb
  unfold Oper.wp execOp
  simp only [ho, resolve, invoke, builtin, Sem.run_bind, Sem.run_pure, Result.andThen_ok, List.map_toArray, List.map_cons, List.map_nil, hv, hx, hr]
  exact hK _ _ (h _ _ _ h1 h2)
end
def cellsG (x : Rg) : List Value := [.int .i64 x.lo, .int .i64 x.hi]
def flatG (ls : List Rg) : List Value := ls.flatMap cellsG
theorem flatG_len (ls : List Rg) : (flatG ls).length = ls.length * 2 := by
  induction ls with
  | nil => rfl
  | cons x xs ih => simp only [flatG, cellsG, List.flatMap_cons, List.length_append, List.length_cons, List.length_nil] at *; omega
theorem flatG_append (ws vs : List Rg) : flatG (ws ++ vs) = flatG ws ++ flatG vs := by simp [flatG]
theorem flatG_at : ∀ (ls : List Rg) (k : Nat), k < ls.length → (flatG ls)[k * 2]? = some (.int .i64 (gx ls k).lo) ∧ (flatG ls)[k * 2 + 1]? = some (.int .i64 (gx ls k).hi)
  | x :: xs, 0, _ => by simp [flatG, cellsG, gx]
  | x :: xs, k + 1, h => by
    have := flatG_at xs k (by simpa using h)
    simp only [flatG, cellsG, List.flatMap_cons, gx, List.getD_cons_succ] at *
    rw [show (k + 1) * 2 = k * 2 + 2 by omega]
    simpa using this
theorem one_flatG (ls : List Rg) : ∀ v ∈ flatG ls, v.oneCell' = true := by
  intro v hv
  simp only [flatG, cellsG, List.mem_flatMap] at hv
  obtain ⟨p, _, hv⟩ := hv
  simp at hv
  rcases hv with rfl | rfl <;> rfl
def OwnG (e : TypeId) (base : Nat) (w : World) (u : Value) (ls : List Rg) : Prop := w.ownsRow base e 2 u ls.length (flatG ls)
theorem OwnG.form {e : TypeId} {base : Nat} {w : World} {u : Value} {ls : List Rg} (h : OwnG e base w u ls) : ∃ A c, u = .slice A ls.length c := ownsRow_form h
theorem OwnG.nil (e : TypeId) (base : Nat) (w : World) : OwnG e base w (.slice none 0 0) [] := World.ownsRow_nil _ _ _ _
theorem OwnG.kept {e : TypeId} {base : Nat} {w w' : World} {u : Value} {ls : List Rg} (h : OwnG e base w u ls) (hb : Below w.heap.size w w') : OwnG e base w' u ls := World.ownsRow.kept h (only_below hb none) (by cases u.ownBlock <;> simp)
theorem OwnG.keptBy {e : TypeId} {base g : Nat} {w w' : World} {u : Value} {ls : List Rg} (h : OwnG e base w u ls) (hg : w.grownBy w' (some g)) (hb : g < base) : OwnG e base w' u ls := World.ownsRow.kept h hg (.inr fun e => by
  have := (World.ownsRow.lt h g e).1
  omega)
theorem OwnG.parts {e : TypeId} {base : Nat} {w : World} {A : Option Addr} {n c : Nat} {ls : List Rg} (h : OwnG e base w (.slice A n c) ls) : ls.length ≤ c ∧ c ≤ 9223372036854775807 ∧ Rgs w.heap.size w A ls := by
  rcases h.2 with ⟨e, h0⟩ | ⟨g, cap, cur, e, hb, hg, hn, hm, hs, ht⟩
  · injection e with e1 e2 e3
    subst e1 e3
    exact ⟨by omega, by omega, fun hp => by omega⟩
  · injection e with e1 e2 e3
    subst e1 e3
    refine ⟨hn, by unfold maxLen at hm; omega, fun hp => ⟨g, 0, rfl, (Array.getElem?_eq_some_iff.1 hg).1, fun k hk => ?_⟩⟩
    obtain ⟨a0, a1⟩ := flatG_at ls k hk
    have b0 := h.cells (g := g) rfl _ _ a0
    have b1 := h.cells (g := g) rfl _ _ a1
    rw [add_eq] at b0 b1
    exact ⟨b0, by rw [Nat.add_assoc]; exact b1⟩
theorem infoG44 : (Try.prog.info? 44).map (fun i => (i.zero, i.size, i.bytes)) = some (some (.agg #[.int .i64 0, .int .i64 0]), 2, 16) := by kernel_rfl
theorem infoG33 : (Try.prog.info? 33).map (fun i => (i.zero, i.size, i.bytes)) = some (some (.agg #[.int .i64 0, .int .i64 0]), 2, 16) := by kernel_rfl
def GTy (t e : TypeId) : Prop := (t = 42 ∧ e = 44) ∨ (t = 26 ∧ e = 33)
theorem tyG {t e : TypeId} (h : GTy t e) : Try.prog.underlying t = some (.slice e) ∧ ∃ i, Try.prog.info? e = some i ∧ i.zero = some (.agg #[.int .i64 0, .int .i64 0]) ∧ i.size = 2 ∧ i.bytes = 16 := by
  rcases h with ⟨rfl, rfl⟩ | ⟨rfl, rfl⟩
  · obtain ⟨i, a, b, c, d⟩ := info_parts infoG44
    exact ⟨by kernel_rfl, i, a, b, c, d⟩
  · obtain ⟨i, a, b, c, d⟩ := info_parts infoG33
    exact ⟨by kernel_rfl, i, a, b, c, d⟩
theorem srcG (w : World) (x : Rg) (e : TypeId) : Src (w.alloc (.cells #[.int .i64 x.lo, .int .i64 x.hi] e)) 2 (some ⟨w.heap.size, 0, none⟩) 1 (flatG [x]) := by
  refine ⟨rfl, (fun h => by cases h), fun ad hA j u hu => ?_⟩
  injection hA with hA
  subst hA
  rw [add_eq]
  rcases j with _ | _ | j <;> simp [flatG, cellsG] at hu
  all_goals
    subst hu
    simp
section
variable {t e : TypeId} {ops : Array Oper} {rest : List Oper} {o : Oper} {a : Act} {K : Act → World → Prop} {Q : Exit → Act → World → Prop} {E : Prop}
theorem run_appG (hT : GTy t e) (ty : TypeId) (base : Nat) (w : World) (u : Value) (ls : List Rg) (x : Rg) (hown : OwnG e base w u ls) (hl : ls.length ≤ 1000000) (hb : base ≤ w.heap.size) :
    ∃ A c w', (Builtin.append_ #[t, t] ty #[u, .slice (some ⟨w.heap.size, 0, none⟩) 1 1]).run Try.prog (w.alloc (.cells #[.int .i64 x.lo, .int .i64 x.hi] e)) = .ok (.slice A (ls.length + 1) c) w' ∧ OwnG e base w' (.slice A (ls.length + 1) c) (ls ++ [x]) ∧ Below base w w' := by
  obtain ⟨hu, i, hi, hz, hz1, hz2⟩ := tyG hT
  have hO : w.ownsRow base e 2 u ls.length (flatG ls) := hown
  obtain ⟨u', w', hr, h1, h2, h3⟩ := run_append_src (P := Try.prog) (w := w.alloc (.cells #[.int .i64 x.lo, .int .i64 x.hi] e)) base t ty e i _ 2 16 hu hi hz hz1 hz2 rfl (by decide) u ls.length (flatG ls) (hO.alloc _) (some ⟨w.heap.size, 0, none⟩) 1 1 (flatG [x]) (srcG w x e) (one_flatG [x]) (by unfold maxLen; omega) (by omega) (by simp; omega)
  obtain ⟨A, c, rfl⟩ := ownsRow_form h1
  refine ⟨A, c, w', hr, ?_, ((Below.refl base w).alloc hb _).grown h2 (by simp; omega) (fun k e => (hO.lt k e).1)⟩
  unfold OwnG
  rw [flatG_append, List.length_append]
  exact h1
theorem step_appG (hT : GTy t e) (s y : Operand) (hgd : o.guard = none) (ho : o.op = .call { callee := .builtin .append, args := #[s, y], argTypes := #[t, t] }) (base : Nat) (w : World) (u : Value) (ls : List Rg) (x : Rg)
    (hv : a.eval s = u) (hx : a.eval y = .slice (some ⟨w.heap.size, 0, none⟩) 1 1) (hown : Hid (OwnG e base w u ls)) (hl : ls.length ≤ 1000000) (hb : base ≤ w.heap.size)
    (hK : ∀ A c w', Hid (OwnG e base w' (.slice A (ls.length + 1) c) (ls ++ [x])) → Hid (Below base w w') → K (a.put o.dst (.slice A (ls.length + 1) c)) w') :
    if Region.wanted o (yielded ops a.tmps) = true then Oper.wp Try.prog o a (w.alloc (.cells #[.int .i64 x.lo, .int .i64 x.hi] e)) K Q else E := by
  rw [if_pos (by simp [Region.wanted, hgd])]
  obtain ⟨A, c, w', hr, h1, h2⟩ := run_appG hT o.type base w u ls x hown.out hl hb
  unfold Oper.wp execOp
  simp only [ho, resolve, invoke, builtin, Sem.run_bind, Sem.run_pure, Result.andThen_ok, List.map_toArray, List.map_cons, List.map_nil, hv, hx, hr]
  exact hK _ _ _ h1 h2
theorem wpList_appG (hT : GTy t e) (s y : Operand) (hgd : o.guard = none) (ho : o.op = .call { callee := .builtin .append, args := #[s, y], argTypes := #[t, t] }) (base : Nat) (w : World) (u : Value) (ls : List Rg) (x : Rg)
    (hv : a.eval s = u) (hx : a.eval y = .slice (some ⟨w.heap.size, 0, none⟩) 1 1) (hown : Hid (OwnG e base w u ls)) (hl : ls.length ≤ 1000000) (hb : base ≤ w.heap.size)
    (h : ∀ A c w', Hid (OwnG e base w' (.slice A (ls.length + 1) c) (ls ++ [x])) → Hid (Below base w w') → wpList Try.prog ops Q rest (a.put o.dst (.slice A (ls.length + 1) c)) w') :
    wpList Try.prog ops Q (o :: rest) a (w.alloc (.cells #[.int .i64 x.lo, .int .i64 x.hi] e)) := by
  refine wpList_plain hgd fun K hK => ?_
  obtain ⟨A, c, w', hr, h1, h2⟩ := run_appG hT o.type base w u ls x hown.out hl hb
  unfold Oper.wp execOp
  simp only [ho, resolve, invoke, builtin, Sem.run_bind, Sem.run_pure, Result.andThen_ok, List.map_toArray, List.map_cons, List.map_nil, hv, hx, hr]
  exact hK _ _ (h _ _ _ h1 h2)
end
def cellsB (x : Bool) : List Value := [.bool x]
def flatB (ls : List Bool) : List Value := ls.flatMap cellsB
theorem flatB_len (ls : List Bool) : (flatB ls).length = ls.length * 1 := by
  induction ls with
  | nil => rfl
  | cons x xs ih => simp only [flatB, cellsB, List.flatMap_cons, List.length_append, List.length_cons, List.length_nil] at *; omega
theorem flatB_append (ws vs : List Bool) : flatB (ws ++ vs) = flatB ws ++ flatB vs := by simp [flatB]
theorem flatB_at : ∀ (ls : List Bool) (k : Nat), k < ls.length → (flatB ls)[k * 1]? = some (.bool (bx ls k))
  | x :: xs, 0, _ => by simp [flatB, cellsB, bx]
  | x :: xs, k + 1, h => by
    have := flatB_at xs k (by simpa using h)
    simp only [flatB, cellsB, List.flatMap_cons, bx, List.getD_cons_succ] at *
    rw [show (k + 1) * 1 = k * 1 + 1 by omega]
    simpa using this
theorem one_flatB (ls : List Bool) : ∀ v ∈ flatB ls, v.oneCell' = true := by
  intro v hv
  simp only [flatB, cellsB, List.mem_flatMap] at hv
  obtain ⟨p, _, hv⟩ := hv
  simp at hv
  subst hv; rfl
def OwnB (e : TypeId) (base : Nat) (w : World) (u : Value) (ls : List Bool) : Prop := w.ownsRow base e 1 u ls.length (flatB ls)
theorem OwnB.form {e : TypeId} {base : Nat} {w : World} {u : Value} {ls : List Bool} (h : OwnB e base w u ls) : ∃ A c, u = .slice A ls.length c := ownsRow_form h
theorem OwnB.nil (e : TypeId) (base : Nat) (w : World) : OwnB e base w (.slice none 0 0) [] := World.ownsRow_nil _ _ _ _
theorem OwnB.kept {e : TypeId} {base : Nat} {w w' : World} {u : Value} {ls : List Bool} (h : OwnB e base w u ls) (hb : Below w.heap.size w w') : OwnB e base w' u ls := World.ownsRow.kept h (only_below hb none) (by cases u.ownBlock <;> simp)
theorem OwnB.keptBy {e : TypeId} {base g : Nat} {w w' : World} {u : Value} {ls : List Bool} (h : OwnB e base w u ls) (hg : w.grownBy w' (some g)) (hb : g < base) : OwnB e base w' u ls := World.ownsRow.kept h hg (.inr fun e => by
  have := (World.ownsRow.lt h g e).1
  omega)
theorem OwnB.parts {e : TypeId} {base : Nat} {w : World} {A : Option Addr} {n c : Nat} {ls : List Bool} (h : OwnB e base w (.slice A n c) ls) : ls.length ≤ c ∧ c ≤ 9223372036854775807 ∧ Bls w.heap.size w A ls := by
  rcases h.2 with ⟨e, h0⟩ | ⟨g, cap, cur, e, hb, hg, hn, hm, hs, ht⟩
  · injection e with e1 e2 e3
    subst e1 e3
    exact ⟨by omega, by omega, fun hp => by omega⟩
  · injection e with e1 e2 e3
    subst e1 e3
    refine ⟨hn, by unfold maxLen at hm; omega, fun hp => ⟨g, 0, rfl, (Array.getElem?_eq_some_iff.1 hg).1, fun k hk => ?_⟩⟩
    have a0 := flatB_at ls k hk
    have b0 := h.cells (g := g) rfl _ _ a0
    rw [add_eq] at b0
    simpa using b0
theorem infoB4 : (Try.prog.info? 4).map (fun i => (i.zero, i.size, i.bytes)) = some (some (.bool false), 1, 1) := by kernel_rfl
def BTy (t e : TypeId) : Prop := (t = 71 ∧ e = 4)
theorem tyB {t e : TypeId} (h : BTy t e) : Try.prog.underlying t = some (.slice e) ∧ ∃ i, Try.prog.info? e = some i ∧ i.zero = some (.bool false) ∧ i.size = 1 ∧ i.bytes = 1 := by
  obtain ⟨rfl, rfl⟩ := h
  obtain ⟨i, a, b, c, d⟩ := info_parts infoB4
  exact ⟨by kernel_rfl, i, a, b, c, d⟩
theorem srcB (w : World) (x : Bool) (e : TypeId) : Src (w.alloc (.cells #[.bool x] e)) 1 (some ⟨w.heap.size, 0, none⟩) 1 (flatB [x]) := by
  refine ⟨rfl, (fun h => by cases h), fun ad hA j u hu => ?_⟩
  injection hA with hA
  subst hA
  rw [add_eq]
  rcases j with _ | j <;> simp [flatB, cellsB] at hu
  all_goals
    subst hu
    simp
section
variable {t e : TypeId} {ops : Array Oper} {rest : List Oper} {o : Oper} {a : Act} {K : Act → World → Prop} {Q : Exit → Act → World → Prop} {E : Prop}
theorem run_appB (hT : BTy t e) (ty : TypeId) (base : Nat) (w : World) (u : Value) (ls : List Bool) (x : Bool) (hown : OwnB e base w u ls) (hl : ls.length ≤ 1000000) (hb : base ≤ w.heap.size) :
    ∃ A c w', (Builtin.append_ #[t, t] ty #[u, .slice (some ⟨w.heap.size, 0, none⟩) 1 1]).run Try.prog (w.alloc (.cells #[.bool x] e)) = .ok (.slice A (ls.length + 1) c) w' ∧ OwnB e base w' (.slice A (ls.length + 1) c) (ls ++ [x]) ∧ Below base w w' := by
  obtain ⟨hu, i, hi, hz, hz1, hz2⟩ := tyB hT
  have hO : w.ownsRow base e 1 u ls.length (flatB ls) := hown
  obtain ⟨u', w', hr, h1, h2, h3⟩ := run_append_src (P := Try.prog) (w := w.alloc (.cells #[.bool x] e)) base t ty e i _ 1 1 hu hi hz hz1 hz2 rfl (by decide) u ls.length (flatB ls) (hO.alloc _) (some ⟨w.heap.size, 0, none⟩) 1 1 (flatB [x]) (srcB w x e) (one_flatB [x]) (by unfold maxLen; omega) (by omega) (by simp; omega)
  obtain ⟨A, c, rfl⟩ := ownsRow_form h1
  refine ⟨A, c, w', hr, ?_, ((Below.refl base w).alloc hb _).grown h2 (by simp; omega) (fun k e => (hO.lt k e).1)⟩
  unfold OwnB
  rw [flatB_append, List.length_append]
  exact h1
theorem step_appB (hT : BTy t e) (s y : Operand) (hgd : o.guard = none) (ho : o.op = .call { callee := .builtin .append, args := #[s, y], argTypes := #[t, t] }) (base : Nat) (w : World) (u : Value) (ls : List Bool) (x : Bool)
    (hv : a.eval s = u) (hx : a.eval y = .slice (some ⟨w.heap.size, 0, none⟩) 1 1) (hown : Hid (OwnB e base w u ls)) (hl : ls.length ≤ 1000000) (hb : base ≤ w.heap.size)
    (hK : ∀ A c w', Hid (OwnB e base w' (.slice A (ls.length + 1) c) (ls ++ [x])) → Hid (Below base w w') → K (a.put o.dst (.slice A (ls.length + 1) c)) w') :
    if Region.wanted o (yielded ops a.tmps) = true then Oper.wp Try.prog o a (w.alloc (.cells #[.bool x] e)) K Q else E := by
  rw [if_pos (by simp [Region.wanted, hgd])]
  obtain ⟨A, c, w', hr, h1, h2⟩ := run_appB hT o.type base w u ls x hown.out hl hb
  unfold Oper.wp execOp
  simp only [ho, resolve, invoke, builtin, Sem.run_bind, Sem.run_pure, Result.andThen_ok, List.map_toArray, List.map_cons, List.map_nil, hv, hx, hr]
  exact hK _ _ _ h1 h2
theorem wpList_appB (hT : BTy t e) (s y : Operand) (hgd : o.guard = none) (ho : o.op = .call { callee := .builtin .append, args := #[s, y], argTypes := #[t, t] }) (base : Nat) (w : World) (u : Value) (ls : List Bool) (x : Bool)
    (hv : a.eval s = u) (hx : a.eval y = .slice (some ⟨w.heap.size, 0, none⟩) 1 1) (hown : Hid (OwnB e base w u ls)) (hl : ls.length ≤ 1000000) (hb : base ≤ w.heap.size)
    (h : ∀ A c w', Hid (OwnB e base w' (.slice A (ls.length + 1) c) (ls ++ [x])) → Hid (Below base w w') → wpList Try.prog ops Q rest (a.put o.dst (.slice A (ls.length + 1) c)) w') :
    wpList Try.prog ops Q (o :: rest) a (w.alloc (.cells #[.bool x] e)) := by
  refine wpList_plain hgd fun K hK => ?_
  obtain ⟨A, c, w', hr, h1, h2⟩ := run_appB hT o.type base w u ls x hown.out hl hb
  unfold Oper.wp execOp
  simp only [ho, resolve, invoke, builtin, Sem.run_bind, Sem.run_pure, Result.andThen_ok, List.map_toArray, List.map_cons, List.map_nil, hv, hx, hr]
  exact hK _ _ (h _ _ _ h1 h2)
end

section
variable {ops : Array Oper} {o : Oper} {a : Act} {K : Act → World → Prop} {Q : Exit → Act → World → Prop} {E : Prop}
theorem step_app_int (s x : Operand) (hgd : o.guard = none) (ho : o.op = .call { callee := .builtin .append, args := #[s, x], argTypes := #[25, 25] }) (base : Nat) (w : World) (u : Value) (xs : List Int) (y : Int)
    (hv : a.eval s = u) (hx : a.eval x = .slice (some ⟨w.heap.size, 0, none⟩) 1 1) (hown : Hid (OwnI base w u xs)) (hl : xs.length ≤ 1000000) (hb : base ≤ w.heap.size)
    (hK : ∀ A c w', Hid (OwnI base w' (.slice A (xs.length + 1) c) (xs ++ [y])) → Hid (Below base w w') → K (a.put o.dst (.slice A (xs.length + 1) c)) w') :
    if Region.wanted o (yielded ops a.tmps) = true then Oper.wp Try.prog o a (w.alloc (.cells #[.int .i64 y] 3)) K Q else E := by
  rw [if_pos (by simp [Region.wanted, hgd])]
  obtain ⟨i0, hi, hz0, hz1, hz2⟩ := info_parts infoInt
  have hO : w.ownsRow base 3 1 u xs.length (xs.map (Value.int .i64)) := hown.out
  obtain ⟨u', w', hr, h1, h2, h3⟩ := run_append_src (P := Try.prog) (w := w.alloc (.cells #[.int .i64 y] 3)) base 25 o.type 3 i0 _ 1 8 Try.underlying25 hi hz0 hz1 hz2 rfl (by decide) u xs.length (xs.map (Value.int .i64)) (hO.alloc _) (some ⟨w.heap.size, 0, none⟩) 1 1 [.int .i64 y] (src_int w y) (one_ints [y]) (by unfold maxLen; omega) (by omega) (by simp; omega)
  obtain ⟨A, c, rfl⟩ := ownsRow_form h1
  unfold Oper.wp execOp
  simp only [ho, resolve, invoke, builtin, Sem.run_bind, Sem.run_pure, Result.andThen_ok, List.map_toArray, List.map_cons, List.map_nil, hv, hx, hr]
  refine hK A c w' ?_ (own_below hO hb h2)
  show OwnI _ _ _ _
  unfold OwnI
  simpa using h1
end
end Go.Proofs.Ytpekajnjjhibjaa
