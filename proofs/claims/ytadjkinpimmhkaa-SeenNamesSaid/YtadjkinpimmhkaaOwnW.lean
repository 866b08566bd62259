/-
  Own lists of words; an append of one word.
-/
import Derived.Test.YtadjkinpimmhkaaLeast
import Derived.Test.YtadjkinpimmhkaaRef3
namespace Go.Proofs.Ytadjkinpimmhkaa
open Go.RowKit
set_option linter.unusedSimpArgs false
set_option linter.unusedVariables false

def cellsW (x : Wd) : List Value := [.int .i64 x.fr, .int .i64 x.ba, .int .i64 x.te, .int .i64 x.lo, .int .i64 x.hi]
def flatW (ws : List Wd) : List Value := ws.flatMap cellsW
theorem flatW_len (ws : List Wd) : (flatW ws).length = ws.length * 5 := by
  induction ws with
  | nil => rfl
  | cons x xs ih => simp only [flatW, cellsW, List.flatMap_cons, List.length_append, List.length_cons, List.length_nil] at *; omega
theorem flatW_append (ws vs : List Wd) : flatW (ws ++ vs) = flatW ws ++ flatW vs := by simp [flatW]
theorem flatW_at : ∀ (ws : List Wd) (k : Nat), k < ws.length → (flatW ws)[k * 5]? = some (.int .i64 (wx ws k).fr) ∧ (flatW ws)[k * 5 + 1]? = some (.int .i64 (wx ws k).ba) ∧ (flatW ws)[k * 5 + 2]? = some (.int .i64 (wx ws k).te) ∧ (flatW ws)[k * 5 + 3]? = some (.int .i64 (wx ws k).lo) ∧ (flatW ws)[k * 5 + 4]? = some (.int .i64 (wx ws k).hi)
  | x :: xs, 0, _ => by simp [flatW, cellsW, wx]
  | x :: xs, k + 1, h => by
    have := flatW_at xs k (by simpa using h)
    simp only [flatW, cellsW, List.flatMap_cons, wx, List.getD_cons_succ] at *
    rw [show (k + 1) * 5 = k * 5 + 5 by omega]
    simpa using this
theorem one_flatW (ws : List Wd) : ∀ v ∈ flatW ws, v.oneCell' = true := by
  intro v hv
  simp only [flatW, cellsW, List.mem_flatMap] at hv
  obtain ⟨p, _, hv⟩ := hv
  simp at hv
  rcases hv with rfl | rfl | rfl | rfl | rfl <;> rfl
def OwnW (e : TypeId) (base : Nat) (w : World) (u : Value) (ws : List Wd) : Prop := w.ownsRow base e 5 u ws.length (flatW ws)
theorem OwnW.form {e : TypeId} {base : Nat} {w : World} {u : Value} {ws : List Wd} (h : OwnW e base w u ws) : ∃ A c, u = .slice A ws.length c := ownsRow_form h
theorem OwnW.nil (e : TypeId) (base : Nat) (w : World) : OwnW e base w (.slice none 0 0) [] := World.ownsRow_nil _ _ _ _
theorem OwnW.wds {e : TypeId} {base : Nat} {w : World} {A : Option Addr} {n c : Nat} {ws : List Wd} (h : OwnW e base w (.slice A n c) ws) : ws.length ≤ c ∧ c ≤ 9223372036854775807 ∧ Wds w.heap.size w A ws := by
  rcases h.2 with ⟨e, h0⟩ | ⟨g, cap, cur, e, hb, hg, hn, hm, hs, ht⟩
  · injection e with e1 e2 e3
    subst e1 e3
    exact ⟨by omega, by omega, fun hp => by omega⟩
  · injection e with e1 e2 e3
    subst e1 e3
    refine ⟨hn, by unfold maxLen at hm; omega, fun hp => ⟨g, 0, rfl, (Array.getElem?_eq_some_iff.1 hg).1, fun k hk => ?_⟩⟩
    obtain ⟨a1, a2, a3, a4, a5⟩ := flatW_at ws k hk
    have b1 := h.cells (g := g) rfl _ _ a1
    have b2 := h.cells (g := g) rfl _ _ a2
    have b3 := h.cells (g := g) rfl _ _ a3
    have b4 := h.cells (g := g) rfl _ _ a4
    have b5 := h.cells (g := g) rfl _ _ a5
    rw [add_eq] at b1 b2 b3 b4 b5
    exact ⟨b1, by rw [Nat.add_assoc]; exact b2, by rw [Nat.add_assoc]; exact b3, by rw [Nat.add_assoc]; exact b4, by rw [Nat.add_assoc]; exact b5⟩
theorem infoW85 : (Try.prog.info? 85).map (fun i => (i.zero, i.size, i.bytes)) = some (some (.agg #[.int .i64 0, .int .i64 0, .int .i64 0, .int .i64 0, .int .i64 0]), 5, 40) := by kernel_rfl
theorem infoW56 : (Try.prog.info? 56).map (fun i => (i.zero, i.size, i.bytes)) = some (some (.agg #[.int .i64 0, .int .i64 0, .int .i64 0, .int .i64 0, .int .i64 0]), 5, 40) := by kernel_rfl
/-- The slice types of words: the program's, the reference's. -/
def WordTy (t e : TypeId) : Prop := (t = 30 ∧ e = 85) ∨ (t = 22 ∧ e = 56)
theorem wordTy {t e : TypeId} (h : WordTy t e) : Try.prog.underlying t = some (.slice e) ∧ ∃ i, Try.prog.info? e = some i ∧ i.zero = some (.agg #[.int .i64 0, .int .i64 0, .int .i64 0, .int .i64 0, .int .i64 0]) ∧ i.size = 5 ∧ i.bytes = 40 := by
  rcases h with ⟨rfl, rfl⟩ | ⟨rfl, rfl⟩
  · obtain ⟨i, a, b, c, d⟩ := info_parts infoW85
    exact ⟨Try.underlying30, i, a, b, c, d⟩
  · obtain ⟨i, a, b, c, d⟩ := info_parts infoW56
    exact ⟨Try.underlying22, i, a, b, c, d⟩
theorem src_word (w : World) (x : Wd) (e : TypeId) : Src (w.alloc (.cells #[.int .i64 x.fr, .int .i64 x.ba, .int .i64 x.te, .int .i64 x.lo, .int .i64 x.hi] e)) 5 (some ⟨w.heap.size, 0, none⟩) 1 (flatW [x]) := by
  refine ⟨rfl, (fun h => by cases h), fun ad hA j u hu => ?_⟩
  injection hA with hA
  subst hA
  rw [add_eq]
  rcases j with _ | _ | _ | _ | _ | j <;> simp [flatW, cellsW] at hu
  all_goals
    subst hu
    simp
/-- A number of words are appended; what was there is kept but for the own block. -/
structure AppW (e : TypeId) (base : Nat) (w : World) (u : Value) (ws vs : List Wd) (w' : World) (u' : Value) : Prop where
  own : OwnW e base w' u' (ws ++ vs)
  grw : w.grownBy w' u.ownBlock
  alt : u'.ownBlock = u.ownBlock ∨ u'.ownBlock = some w.heap.size
theorem run_app_words {t e : TypeId} (hT : WordTy t e) {base : Nat} {w : World} {u : Value} {ws vs : List Wd} (ty : TypeId) (A : Option Addr) (m c : Nat) (hm : m = vs.length) (hown : OwnW e base w u ws) (hs : Src w 5 A m (flatW vs)) (hl : ws.length ≤ 1000000) (hl2 : vs.length ≤ 1000000) (hb : base ≤ w.heap.size) :
    ∃ u' w', (Builtin.append_ #[t, t] ty #[u, .slice A m c]).run Try.prog w = .ok u' w' ∧ AppW e base w u ws vs w' u' := by
  subst hm
  obtain ⟨hu, i, hi, hz, hz1, hz2⟩ := wordTy hT
  obtain ⟨u', w', hr, h1, h2, h3⟩ := run_append_src (P := Try.prog) base t ty e i _ 5 40 hu hi hz hz1 hz2 rfl (by decide) u ws.length (flatW ws) hown A vs.length c (flatW vs) hs (one_flatW vs) (by unfold maxLen; omega) (by omega) hb
  refine ⟨u', w', hr, ?_, h2, h3⟩
  unfold OwnW
  rw [flatW_append, List.length_append]
  exact h1
theorem wpList_words {t e : TypeId} (hT : WordTy t e) {ops : Array Oper} {rest : List Oper} {o : Oper} {a : Act} {Q : Exit → Act → World → Prop} (s x : Operand) (hgd : o.guard = none) (ho : o.op = .call { callee := .builtin .append, args := #[s, x], argTypes := #[t, t] })
    (base : Nat) (w : World) (u : Value) (ws vs : List Wd) (A : Option Addr) (m c : Nat) (hm : m = vs.length) (hv : a.eval s = u) (hx : a.eval x = .slice A m c) (hown : OwnW e base w u ws) (hs : Src w 5 A m (flatW vs)) (hl : ws.length ≤ 1000000) (hl2 : vs.length ≤ 1000000) (hb : base ≤ w.heap.size)
    (h : ∀ u' w', Hid (AppW e base w u ws vs w' u') → wpList Try.prog ops Q rest (a.put o.dst u') w') : wpList Try.prog ops Q (o :: rest) a w := by
  refine wpList_plain hgd fun K hK => ?_
  obtain ⟨u', w', hr, hA⟩ := run_app_words hT o.type A m c hm hown hs hl hl2 hb
  unfold Oper.wp execOp
  simp only [ho, resolve, invoke, builtin, Sem.run_bind, Sem.run_pure, Result.andThen_ok, List.map_toArray, List.map_cons, List.map_nil, hv, hx, hr]
  exact hK _ _ (h u' w' hA)

/-- Block g: a number, a list. -/
def LB (w : World) (g : Nat) (fr : Int) (u : Value) (ty : TypeId) : Prop := w.heap[g]? = some (.cells #[.int .i64 fr, u] ty (0, 0))
section
variable {w w' : World} {g : Nat} {fr : Int} {u : Value} {ty : TypeId}
theorem LB.lt (h : LB w g fr u ty) : g < w.heap.size := (Array.getElem?_eq_some_iff.1 h).1
theorem LB.cells (h : LB w g fr u ty) : w.cell? ⟨g, 0, none⟩ = some (.int .i64 fr) ∧ w.cell? ⟨g, 1, none⟩ = some u ∧ ∀ o, w.frozen? ⟨g, o, none⟩ = false := by
  unfold LB at h
  simp [World.cell?, World.frozen?, h]
theorem LB.chg {S : Nat → Prop} (h : LB w g fr u ty) (hC : Chg w w' S) (hS : ¬ S g) : LB w' g fr u ty := (hC.block g h.lt hS).trans h
theorem LB.below (h : LB w g fr u ty) (hb : Below w.heap.size w w') : LB w' g fr u ty := (hb.block g h.lt).trans h
theorem LB.set (h : LB w g fr u ty) (x : Value) : LB (w.setCell ⟨g, 1, none⟩ x) g fr x ty := by
  unfold LB at h ⊢
  simp [World.setCell, Array.getElem?_modify, h]
end
/-- A lane with these words. -/
def LanePost (t : TypeId) (w : World) (fr : Int) (ws : List Wd) (e : Ending) (w' : World) : Prop :=
  ∃ A c, e = .returned (.agg #[.int .i64 fr, .slice A ws.length c]) ∧ OwnW t w.heap.size w' (.slice A ws.length c) ws ∧ Below w.heap.size w w'
end Go.Proofs.Ytadjkinpimmhkaa
