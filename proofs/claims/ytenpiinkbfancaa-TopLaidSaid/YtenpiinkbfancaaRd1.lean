/-
  path: what reached leans on: worlds but for some blocks; marks beside maps; the maps of the rows.
-/
import Derived.Test.YtenpiinkbfancaaMq
import Derived.Test.YtenpiinkbfancaaFw
namespace Go.Proofs.Ytenpiinkbfancaa.Pa
open Go.RowKit
set_option linter.unusedSimpArgs false
set_option linter.unusedVariables false

theorem _root_.Go.Proofs.Ytenpiinkbfancaa.KS.of_grown {S : Nat → Prop} {s : Nat} {A B : World} {row : Option Nat} (h : A.grownBy B row) (hr : ∀ q, row = some q → q < s → S q) : KS S s A B :=
  ⟨h.size, h.os, h.tape, h.output, fun i o h0 h1 h2 => (h.block i (Array.getElem?_eq_some_iff.1 h0).1 (fun e => h2 (hr i e.symm h1))).trans h0⟩
theorem _root_.Go.Proofs.Ytenpiinkbfancaa.KS.weaken {S T : Nat → Prop} {s : Nat} {A B : World} (h : KS S s A B) (hST : ∀ k, k < s → S k → T k) : KS T s A B := ⟨h.1, h.2.1, h.2.2.1, h.2.2.2.1, fun i o h0 h1 h2 => h.2.2.2.2 i o h0 h1 (fun hs => h2 (hST i h1 hs))⟩
theorem _root_.Go.Proofs.Ytenpiinkbfancaa.KS.block {S : Nat → Prop} {s : Nat} {A B : World} (h : KS S s A B) {k : Nat} {o : Obj} (h0 : A.heap[k]? = some o) (h1 : k < s) (h2 : ¬ S k) : B.heap[k]? = some o := h.2.2.2.2 k o h0 h1 h2
/-- What other blocks hold is kept, as if but one had grown. -/
theorem _root_.Go.Proofs.Ytenpiinkbfancaa.KS.grown {S : Nat → Prop} {s : Nat} {A B : World} (h : KS S s A B) (hs : A.heap.size ≤ s) {b : Nat} (hb : ¬ S b) (hS : True) : ∀ o, A.heap[b]? = some o → B.heap[b]? = some o := fun o h0 => h.2.2.2.2 b o h0 (Nat.lt_of_lt_of_le (Array.getElem?_eq_some_iff.1 h0).1 hs) hb
theorem ownsMap_block {w w' : World} {b n : Nat} {D : DataW Unit} (h : w.ownsMap Try.prog 105 (plainElem Try.prog 4) b n D) (hb : ∀ o, w.heap[b]? = some o → w'.heap[b]? = some o) : w'.ownsMap Try.prog 105 (plainElem Try.prog 4) b n D := by
  obtain ⟨es, clock, h1, h2⟩ := h
  exact ⟨es, clock, hb _ h1, h2⟩
theorem MapD.ks {S : Nat → Prop} {s : Nat} {w w' : World} {b n : Nat} {D : DataW Unit} (h : MapD w b n D) (hk : KS S s w w') (h1 : b < s) (h2 : ¬ S b) : MapD w' b n D := ⟨ownsMap_block h.own fun o ho => hk.block ho h1 h2, h.ins⟩
theorem ranges_ks {S : Nat → Prop} {s : Nat} {w w' : World} {b r n cnt : Nat} {D : DataW Unit} {left : Lit → Bool} (h : w.ranges Try.prog 105 (plainElem Try.prog 4) b r n D left cnt) (hk : KS S s w w') (h1 : b < s ∧ r < s) (h2 : ¬ S b ∧ ¬ S r) : w'.ranges Try.prog 105 (plainElem Try.prog 4) b r n D left cnt := by
  obtain ⟨es, clock, since, seen, c0, e1, e2, e3, e4, e5, e6⟩ := h
  exact ⟨es, clock, since, seen, c0, hk.block e1 h1.1 h2.1, e2, e3, e4, hk.block e5 h1.2 h2.2, e6⟩
/-- Marks stand where what has been laid for them stands. -/
theorem marks_keep {B : Nat} {w w' : World} (h : ∀ k, B ≤ k → w.heap[k]? = some (.deferred (some [])) → w'.heap[k]? = some (.deferred (some []))) : ∀ {ds : List Deferred}, Marks B w ds → Marks B w' ds
  | [], _ => trivial
  | _ :: _, ⟨⟨D, hB, hd, hD, hne⟩, hr⟩ => ⟨⟨D, hB, hd, h D hB hD, hne⟩, marks_keep h hr⟩
/-- What the taking up of marks leaves: all blocks but theirs. -/
def Took2 (B : Nat) (w w' : World) : Prop := w'.os = w.os ∧ w'.tape = w.tape ∧ w'.output = w.output ∧ w'.heap.size = w.heap.size ∧ (∀ k, k < B → w'.heap[k]? = w.heap[k]?) ∧ ∀ (k : Nat) (o : Obj), w.heap[k]? = some o → (∀ x, o ≠ .deferred x) → w'.heap[k]? = some o
theorem leaves_marks2 {B : Nat} {P : Program} {fn : Func} {tmps : Array Value} {R : Ending → World → Prop} : ∀ (ds : List Deferred) (w : World), Marks B w ds → (∀ w', Took2 B w w' → ∃ v, (results fn tmps).run P w' = .ok v w' ∧ R (.returned v) w') → LeavesInM Fence.wide 0 P fn tmps R ds .returning w
  | [], w, _, h => h w ⟨rfl, rfl, rfl, rfl, fun _ _ => rfl, fun _ _ h _ => h⟩
  | d :: ds, w, ⟨⟨D, hB, hd, hD, hne⟩, hr⟩, h => by
    subst hd
    refine ⟨by simp, .inl ⟨D, _, rfl, run_takeDeferred hD, ?_⟩⟩
    refine leaves_marks2 ds _ (marks_put hne hr) fun w' hw' => h w' ?_
    obtain ⟨h1, h2, h3, h4, h5, h6⟩ := hw'
    refine ⟨h1, h2, h3, by simpa using h4, fun k hk => (h5 k hk).trans (World.putObj_heap_other (by omega)), fun k o hk ho => h6 k o ?_ ho⟩
    refine (World.putObj_heap_other (fun e => ?_)).trans hk
    subst e
    rw [hD] at hk
    cases hk
    exact ho _ rfl
theorem Took2.cell {B : Nat} {w w' : World} (h : Took2 B w w') {p : Addr} {v : Value} (hc : w.cell? p = some v) : w'.cell? p = some v := by
  unfold World.cell? at hc ⊢
  cases h0 : w.heap[p.block]? with
  | none => rw [h0] at hc; cases hc
  | some o =>
    rw [h0] at hc
    rw [h.2.2.2.2.2 _ _ h0 (fun x e => by subst e; cases hc)]
    exact hc
theorem Took2.map {B : Nat} {w w' : World} (h : Took2 B w w') {b n : Nat} {D : DataW Unit} (hm : MapD w b n D) : MapD w' b n D := ⟨ownsMap_block hm.own fun o ho => by
  obtain ⟨es, clock, h1, -⟩ := hm.own
  rw [h1] at ho
  cases ho
  exact h.2.2.2.2.2 _ _ h1 (fun x e => by cases e), hm.ins⟩
theorem Took2.ownM {B base : Nat} {w w' : World} (h : Took2 B w w') {u : Value} {bs : List Nat} (hm : OwnM base w u bs) : OwnM base w' u bs := by
  obtain ⟨h0, h1⟩ := hm
  refine ⟨h0, ?_⟩
  rcases h1 with h1 | ⟨g, cap, cur, e1, hb, hg, hr⟩
  · exact .inl h1
  · exact .inr ⟨g, cap, cur, e1, hb, h.2.2.2.2.2 _ _ hg (fun x e => by cases e), hr⟩
/-- The maps of the first rows: row j's holds all states that the ball can have there. -/
def RowM (w : World) (l : Ln) (s : Int × Int) (base : Nat) (u : Value) (bs : List Nat) : Prop :=
  ∀ j b, bs[j]? = some b → base ≤ b ∧ u.ownBlock ≠ some b ∧ ∃ D, MapD w b (7 ^ j) D ∧ ∀ v, Can l s j v → hasU D v
theorem RowM.ks {S : Nat → Prop} {s' : Nat} {w w' : World} {l : Ln} {s : Int × Int} {base : Nat} {u : Value} {bs : List Nat} (h : RowM w l s base u bs) (hk : KS S s' w w') (h1 : w.heap.size ≤ s') (h2 : ∀ b, b ∈ bs → ¬ S b) : RowM w' l s base u bs := fun j b hb => by
  obtain ⟨e1, e2, D, hD, hc⟩ := h j b hb
  exact ⟨e1, e2, D, hD.ks hk (Nat.lt_of_lt_of_le hD.lt h1) (h2 b (List.mem_of_getElem? hb)), hc⟩
theorem RowM.lt {w : World} {l : Ln} {s : Int × Int} {base : Nat} {u : Value} {bs : List Nat} (h : RowM w l s base u bs) : ∀ b, b ∈ bs → base ≤ b ∧ b < w.heap.size ∧ u.ownBlock ≠ some b := fun b hb => by
  obtain ⟨j, hj⟩ := List.getElem?_of_mem hb
  obtain ⟨e1, e2, D, hD, hc⟩ := h j b hj
  exact ⟨e1, hD.lt, e2⟩
/-- All states that can follow those of a row. -/
theorem can_next {l : Ln} {s : Int × Int} {k : Nat} {v : Int × Int} (h : Can l s (k + 1) v) : ∃ u turn, Can l s k u ∧ hkLo l k u.1 ≤ turn ∧ turn ≤ hkHi l k u.1 ∧ onB l (nxt u turn) = true ∧ v = nxt u turn := by
  cases h with
  | succ h1 h2 h3 h4 => exact ⟨_, _, h1, h2, h3, h4, rfl⟩
theorem can_zero {l : Ln} {s v : Int × Int} (h : Can l s 0 v) : v = s := by
  cases h
  rfl
theorem insd_of {l : Ln} (h : Ok l) {u : Int × Int} (ho : onB l u = true) (hd : -5 ≤ u.2 ∧ u.2 ≤ 5) : insd u := by
  unfold onB at ho
  have := (inB_eq _ _ _).1 ho
  have := h.b1
  exact ⟨by omega, hd⟩
/-- The states of those entries that have come are all followed. -/
def Foll (l : Ln) (k : Nat) (D : DataW Unit) (left : Lit → Bool) (D2 : DataW Unit) : Prop :=
  ∀ u kl, keyOf Try.prog 105 (sk u) = some kl → Maps.has D kl = true → left kl = false → ∀ turn, hkLo l k u.1 ≤ turn → turn ≤ hkHi l k u.1 → onB l (nxt u turn) = true → hasU D2 (nxt u turn)
theorem Foll.start (l : Ln) (k : Nat) (D D2 : DataW Unit) : Foll l k D (Maps.has D) D2 := fun u kl h1 h2 h3 => by rw [h2] at h3; cases h3
theorem Foll.step {l : Ln} {k : Nat} {D D2 D3 : DataW Unit} {left : Lit → Bool} (h : Foll l k D left D2) {u : Int × Int} {kl : Lit} (hk : keyOf Try.prog 105 (sk u) = some kl) (hm : ∀ v, hasU D2 v → hasU D3 v)
    (hu : ∀ turn, hkLo l k u.1 ≤ turn → turn ≤ hkHi l k u.1 → onB l (nxt u turn) = true → hasU D3 (nxt u turn)) : Foll l k D (fun z => left z && !z.sameKey kl) D3 := fun u' kl' h1 h2 h3 turn t1 t2 t3 => by
  simp only [Bool.and_eq_false_iff, Bool.not_eq_false'] at h3
  rcases h3 with h3 | h3
  · exact hm _ (h u' kl' h1 h2 h3 turn t1 t2 t3)
  · have := Go.WideAt.sameKey_eq h3
    subst this
    have := sk_inj (st_law.inj h1 hk)
    subst this
    exact hu turn t1 t2 t3
theorem Foll.end_ {l : Ln} {s : Int × Int} {k : Nat} {D D2 : DataW Unit} {left : Lit → Bool} (h : Foll l k D left D2) (hl : ∀ kl, left kl = false) (hc : ∀ v, Can l s k v → hasU D v) : ∀ v, Can l s (k + 1) v → hasU D2 v := fun v hv => by
  obtain ⟨u, turn, h1, h2, h3, h4, rfl⟩ := can_next hv
  obtain ⟨kl, h5, h6⟩ := hc u h1
  exact h u kl h5 h6 (hl kl) turn h2 h3 h4
end Go.Proofs.Ytenpiinkbfancaa.Pa
