/-
  A lane that is made anew out of a lane's words and more words, in an order that is open: what is there on the way.
-/
import Derived.Test.YtadjkinpimmhkaaOwnW
import Derived.Test.YtadjkinpimmhkaaRt
namespace Go.Proofs.Ytadjkinpimmhkaa
open Go.RowKit
set_option linter.unusedSimpArgs false
set_option linter.unusedVariables false

def W5c (y : Wd) : Obj := .cells #[.int .i64 y.fr, .int .i64 y.ba, .int .i64 y.te, .int .i64 y.lo, .int .i64 y.hi] 56 (0, 0)
/-- On the way: the list so far, the block of one more word, the lane's block. -/
structure LSt (w0 w : World) (e : Option (Value × List Wd)) (x : Option (Nat × Wd)) (g : Option Nat) : Prop where
  b : Below w0.heap.size w0 w
  le : ∀ u l, e = some (u, l) → OwnW 56 w0.heap.size w u l
  lx : ∀ i y, x = some (i, y) → w0.heap.size ≤ i ∧ w.heap[i]? = some (W5c y)
  lg : ∀ i, g = some i → w0.heap.size ≤ i ∧ w.heap[i]? = some (.cells #[.int .i64 0, .slice none 0 0] 24 (0, 0))
  ex : ∀ u l i y, e = some (u, l) → x = some (i, y) → u.ownBlock ≠ some i
  eg : ∀ u l i, e = some (u, l) → g = some i → u.ownBlock ≠ some i
theorem LSt.start {w0 w : World} (h : Below w0.heap.size w0 w) : LSt w0 w none none none :=
  ⟨h, (fun _ _ e => by cases e), (fun _ _ e => by cases e), (fun _ e => by cases e), (fun _ _ _ _ e => by cases e), (fun _ _ _ e => by cases e)⟩
section
variable {w0 w w' : World} {e : Option (Value × List Wd)} {x : Option (Nat × Wd)} {g : Option Nat}
theorem lt_of_get {w : World} {i : Nat} {ob : Obj} (h : w.heap[i]? = some ob) : i < w.heap.size := (Array.getElem?_eq_some_iff.1 h).1
theorem LSt.allocE (h : LSt w0 w none x g) : LSt w0 (w.alloc (.cells #[] 56)) (some (.slice (some ⟨w.heap.size, 0, none⟩) 0 0, [])) x g := by
  have hb : Below w.heap.size w (w.alloc (.cells #[] 56)) := (Below.refl _ _).alloc (Nat.le_refl _) _
  have hs := h.b.size
  refine ⟨h.b.alloc hs _, fun u l e => ?_, fun i y e => ?_, fun i e => ?_, fun u l i y e e' hc => ?_, fun u l i e e' hc => ?_⟩
  · injection e with e
    injection e with e1 e2
    subst e1 e2
    exact ownsRow_base (World.ownsRow_lit w #[] 0 (Nat.le_refl _) (by simp [maxLen]) (by simp)) hs
  · obtain ⟨h1, h2⟩ := h.lx i y e
    exact ⟨h1, (hb.block i (lt_of_get h2)).trans h2⟩
  · obtain ⟨h1, h2⟩ := h.lg i e
    exact ⟨h1, (hb.block i (lt_of_get h2)).trans h2⟩
  · injection e with e
    injection e with e1 e2
    subst e1
    injection hc with hc
    have := lt_of_get (h.lx i y e').2
    dsimp only at hc
    omega
  · injection e with e
    injection e with e1 e2
    subst e1
    injection hc with hc
    have := lt_of_get (h.lg i e').2
    dsimp only at hc
    omega
theorem LSt.allocX (h : LSt w0 w e none g) (y : Wd) : LSt w0 (w.alloc (.cells #[.int .i64 y.fr, .int .i64 y.ba, .int .i64 y.te, .int .i64 y.lo, .int .i64 y.hi] 56)) e (some (w.heap.size, y)) g := by
  have hb : Below w.heap.size w (w.alloc (.cells #[.int .i64 y.fr, .int .i64 y.ba, .int .i64 y.te, .int .i64 y.lo, .int .i64 y.hi] 56)) := (Below.refl _ _).alloc (Nat.le_refl _) _
  have hs := h.b.size
  refine ⟨h.b.alloc hs _, fun u l e => World.ownsRow.alloc (h.le u l e) _, fun i z e => ?_, fun i e => ?_, fun u l i z e e' hc => ?_, h.eg⟩
  · injection e with e
    injection e with e1 e2
    subst e1 e2
    exact ⟨hs, World.alloc_heap_new _ _⟩
  · obtain ⟨h1, h2⟩ := h.lg i e
    exact ⟨h1, (hb.block i (lt_of_get h2)).trans h2⟩
  · injection e' with e'
    injection e' with e1 e2
    subst e1
    have := (World.ownsRow.lt (h.le u l e) _ hc).2
    omega
theorem LSt.allocG (h : LSt w0 w e x none) : LSt w0 (w.alloc (.cells #[.int .i64 0, .slice none 0 0] 24)) e x (some w.heap.size) := by
  have hb : Below w.heap.size w (w.alloc (.cells #[.int .i64 0, .slice none 0 0] 24)) := (Below.refl _ _).alloc (Nat.le_refl _) _
  have hs := h.b.size
  refine ⟨h.b.alloc hs _, fun u l e => World.ownsRow.alloc (h.le u l e) _, fun i y e => ?_, fun i e => ?_, h.ex, fun u l i e e' hc => ?_⟩
  · obtain ⟨h1, h2⟩ := h.lx i y e
    exact ⟨h1, (hb.block i (lt_of_get h2)).trans h2⟩
  · injection e with e
    subst e
    exact ⟨hs, World.alloc_heap_new _ _⟩
  · injection e' with e'
    subst e'
    have := (World.ownsRow.lt (h.le u l e) _ hc).2
    omega
theorem LSt.app {u u' : Value} {l vs : List Wd} (h : LSt w0 w (some (u, l)) x g) (hA : AppW 56 w0.heap.size w u l vs w' u') : LSt w0 w' (some (u', l ++ vs)) x g := by
  have hs := h.b.size
  have hO := h.le u l rfl
  have hu : ∀ i, i < w.heap.size → u.ownBlock ≠ some i → u'.ownBlock ≠ some i := fun i hi hn => by
    rcases hA.alt with e | e
    · rw [e]; exact hn
    · rw [e]; intro e2; injection e2; omega
  refine ⟨h.b.grown hA.grw hs (fun i e => (World.ownsRow.lt hO i e).1), fun v m e => ?_, fun i y e => ?_, fun i e => ?_, fun v m i y e e' => ?_, fun v m i e e' => ?_⟩
  · injection e with e
    injection e with e1 e2
    subst e1 e2
    exact hA.own
  · obtain ⟨h1, h2⟩ := h.lx i y e
    exact ⟨h1, (hA.grw.block i (lt_of_get h2) (fun e' => h.ex u l i y rfl e e'.symm)).trans h2⟩
  · obtain ⟨h1, h2⟩ := h.lg i e
    exact ⟨h1, (hA.grw.block i (lt_of_get h2) (fun e' => h.eg u l i rfl e e'.symm)).trans h2⟩
  · injection e with e
    injection e with e1 e2
    subst e1
    exact hu i (lt_of_get (h.lx i y e').2) (h.ex u l i y rfl e')
  · injection e with e
    injection e with e1 e2
    subst e1
    exact hu i (lt_of_get (h.lg i e').2) (h.eg u l i rfl e')
theorem LSt.src {i : Nat} {y : Wd} (h : LSt w0 w e (some (i, y)) g) : Src w 5 (some ⟨i, 0, none⟩) 1 (flatW [y]) := by
  obtain ⟨h1, h2⟩ := h.lx i y rfl
  refine ⟨rfl, (fun h => by cases h), fun ad hA j v hv => ?_⟩
  injection hA with hA
  subst hA
  rw [add_eq]
  unfold W5c at h2
  rcases j with _ | _ | _ | _ | _ | j <;> simp [flatW, cellsW] at hv
  all_goals
    subst hv
    simp [World.cell?, h2]
end
theorem Wds.src {B : Nat} {w : World} {A : Option Addr} {ws : List Wd} (h : Wds B w A ws) : Src w 5 A ws.length (flatW ws) := by
  refine ⟨flatW_len ws, fun hA => ?_, fun ad hA j u hu => ?_⟩
  · rcases Nat.eq_zero_or_pos ws.length with h0 | h0
    · exact h0
    · obtain ⟨b, off, hA', _⟩ := h h0
      rw [hA] at hA'
      cases hA'
  · have hj : j < ws.length * 5 := by rw [← flatW_len]; exact (List.getElem?_eq_some_iff.1 hu).1
    obtain ⟨b, off, hA', hlt, hc⟩ := h (by omega)
    rw [hA] at hA'
    injection hA' with e
    subst e
    rw [add_eq]
    obtain ⟨c1, c2, c3, c4, c5⟩ := hc (j / 5) (by omega)
    obtain ⟨f1, f2, f3, f4, f5⟩ := flatW_at ws (j / 5) (by omega)
    rcases (by omega : j = j / 5 * 5 ∨ j = j / 5 * 5 + 1 ∨ j = j / 5 * 5 + 2 ∨ j = j / 5 * 5 + 3 ∨ j = j / 5 * 5 + 4) with e | e | e | e | e
    · rw [e, f1] at hu; rw [e]; injection hu with hu; rw [← hu]; exact c1
    · rw [e, f2] at hu; rw [e, ← Nat.add_assoc]; injection hu with hu; rw [← hu]; exact c2
    · rw [e, f3] at hu; rw [e, ← Nat.add_assoc]; injection hu with hu; rw [← hu]; exact c3
    · rw [e, f4] at hu; rw [e, ← Nat.add_assoc]; injection hu with hu; rw [← hu]; exact c4
    · rw [e, f5] at hu; rw [e, ← Nat.add_assoc]; injection hu with hu; rw [← hu]; exact c5
theorem step_words {ops : Array Oper} {o : Oper} {a : Act} {K : Act → World → Prop} {Q : Exit → Act → World → Prop} {E : Prop} (s x : Operand) (hgd : o.guard = none) (ho : o.op = .call { callee := .builtin .append, args := #[s, x], argTypes := #[22, 22] })
    (w0 w : World) (u : Value) (l vs zs : List Wd) (xo : Option (Nat × Wd)) (g : Option Nat) (A : Option Addr) (m c : Nat) (hm : m = vs.length) (hz : zs = l ++ vs) (hv : a.eval s = u) (hx : a.eval x = .slice A m c) (hL : Hid (LSt w0 w (some (u, l)) xo g)) (hs : Src w 5 A m (flatW vs)) (hl : l.length ≤ 1000000) (hl2 : vs.length ≤ 1000000)
    (h : ∀ A' c' w', Hid (LSt w0 w' (some (.slice A' zs.length c', zs)) xo g) → K (a.put o.dst (.slice A' zs.length c')) w') :
    if Region.wanted o (yielded ops a.tmps) = true then Oper.wp Try.prog o a w K Q else E := by
  rw [if_pos (by simp [Region.wanted, hgd])]
  subst hz
  obtain ⟨u', w', hr, hA⟩ := run_app_words (t := 22) (e := 56) (.inr ⟨rfl, rfl⟩) o.type A m c hm (hL.out.le u l rfl) hs hl hl2 hL.out.b.size
  obtain ⟨A', c', rfl⟩ := hA.own.form
  unfold Oper.wp execOp
  simp only [ho, resolve, invoke, builtin, Sem.run_bind, Sem.run_pure, Result.andThen_ok, List.map_toArray, List.map_cons, List.map_nil, hv, hx, hr]
  exact h A' c' w' (hL.out.app hA)
/-- A lane in block g. -/
def LaneAt (B : Nat) (w : World) (g : Nat) (fr : Int) (ws : List Wd) : Prop :=
  ∃ A c, w.cell? ⟨g, 0, none⟩ = some (.int .i64 fr) ∧ w.cell? ⟨g, 1, none⟩ = some (.slice A ws.length c) ∧ (ws.length ≤ c ∧ c ≤ 9223372036854775807) ∧ Wds B w A ws
theorem LSt.cells {w0 w : World} {e : Option (Value × List Wd)} {x : Option (Nat × Wd)} {i : Nat} (h : LSt w0 w e x (some i)) : w.cell? ⟨i, 0, none⟩ = some (.int .i64 0) ∧ w.cell? ⟨i, 1, none⟩ = some (.slice none 0 0) ∧ w.frozen? ⟨i, 0, none⟩ = false ∧ w.frozen? ⟨i, 1, none⟩ = false := by
  obtain ⟨h1, h2⟩ := h.lg i rfl
  simp [World.cell?, World.frozen?, h2]
theorem LSt.fin {w0 w : World} {A : Option Addr} {n c : Nat} {ws : List Wd} {x : Option (Nat × Wd)} {i : Nat} (h : LSt w0 w (some (.slice A n c, ws)) x (some i)) (fr : Int) (hn : n = ws.length) :
    LaneAt ((w.setCell ⟨i, 0, none⟩ (.int .i64 fr)).setCell ⟨i, 1, none⟩ (.slice A n c)).heap.size ((w.setCell ⟨i, 0, none⟩ (.int .i64 fr)).setCell ⟨i, 1, none⟩ (.slice A n c)) i fr ws ∧ Below w0.heap.size w0 ((w.setCell ⟨i, 0, none⟩ (.int .i64 fr)).setCell ⟨i, 1, none⟩ (.slice A n c)) := by
  subst hn
  obtain ⟨h1, h2⟩ := h.lg i rfl
  have hO := h.le _ _ rfl
  have hS : w.grownBy ((w.setCell ⟨i, 0, none⟩ (.int .i64 fr)).setCell ⟨i, 1, none⟩ (.slice A ws.length c)) (some i) := only_setCell (only_setCell (World.grownBy.refl w (some i)) (.inl rfl) _) (.inl rfl) _
  have hO2 : OwnW 56 w0.heap.size ((w.setCell ⟨i, 0, none⟩ (.int .i64 fr)).setCell ⟨i, 1, none⟩ (.slice A ws.length c)) (.slice A ws.length c) ws := World.ownsRow.kept hO hS (.inr (h.eg _ _ _ rfl rfl))
  obtain ⟨o1, o2, o3⟩ := hO2.wds
  refine ⟨⟨A, c, ?_, ?_, ⟨o1, o2⟩, o3⟩, (h.b.setCell (by dsimp only; omega) _).setCell (by dsimp only; omega) _⟩
  · simp [World.cell?, World.setCell, Array.getElem?_modify, h2]
  · simp [World.cell?, World.setCell, Array.getElem?_modify, h2]
end Go.Proofs.Ytadjkinpimmhkaa
