/-
  Regions that draw their order, within a round of a loop over a function.
-/
import Derived.Test.YtenpiinkbfancaaGen
import Derived.StillTailTactics
namespace Go.Proofs.Ytenpiinkbfancaa
open Go.RowKit

theorem uponIn_of_upon {l0 n : Nat} {P : Program} {o : Oper} {a : Act} {K K' : Act → World → Prop} {Q : Exit → Act → World → Prop} (hK : ∀ a w, K a w → K' a w) (hout : ¬ LetsOut Q) (r : Result Next) (h : o.upon P a K Q r) : o.uponIn (Fence.wide.inRound l0) n P a K' Q r := by
  unfold Oper.upon at h
  split at h
  · exact hK _ _ h
  · exact hK _ _ h
  · exact hK _ _ h
  · rename_i f args w'
    refine ⟨fun h => by simp [Fence.wide] at h, CallsIn.inRound l0 (callsIn_wide.2 (h.mono fun e w'' he => ?_))⟩
    cases e with
    | returned v => exact hK _ _ he
    | panicked ch => exact he
    | outgrown => exact absurd he hout
  · rename_i row args w'
    refine ⟨fun h => by simp [Fence.wide] at h, fun c cs _ => ?_⟩
    obtain ⟨v, w'', hR, hs⟩ := h c cs
    exact ⟨v, w'', hK _ _ hR, stepsIn_wide.2 hs⟩
  · exact h
  · exact h.elim

theorem wpOpsIn_of_wpOps {l0 n : Nat} {P : Program} {ops : Array Oper} {Q : Exit → Act → World → Prop} (hnd : ∀ (i : Nat) (o : Oper) (c : Call), ops[i]? = some o → o.op ≠ .defer c) (hout : ¬ LetsOut Q) :
    ∀ (l : List Nat) (a : Act) (w : World), wpOps P ops Q l a w → wpOpsIn (Fence.wide.inRound l0) n P ops Q l a w := by
  intro l
  induction l with
  | nil => exact fun a w h => h
  | cons i rest ih =>
    intro a w h
    simp only [wpOps] at h
    simp only [wpOpsIn]
    cases ho : ops[i]? with
    | none =>
      simp only [ho] at h ⊢
      exact ih a w h
    | some o =>
      simp only [ho] at h ⊢
      split
      · rename_i hw
        rw [if_pos hw] at h
        rcases h with h | ⟨_, h⟩
        · refine ⟨fun _ _ => trivial, ?_⟩
          rw [Oper.semAt_eq _ _ _ (fun c => hnd i o c ho)]
          exact uponIn_of_upon ih hout _ h
        · exact absurd h hout
      · rename_i hw
        rw [if_neg hw] at h
        exact ⟨fun _ _ => trivial, ih _ _ h⟩

def noDefer (ops : List Oper) : Bool := ops.all fun o => match o.op with | .defer _ => false | _ => true

/-- A quiet region within a round. -/
theorem round_quiet {l0 n id : Nat} {P : Program} {Q : Exit → Act → World → Prop} {a : Act} {w : World} {l : List Oper} (hm : P.follows .mixedOrders = true) (hB : Region.lexB .any l.toArray = true) (hnd : noDefer l = true) (hout : ¬ LetsOut Q)
    (h : wpQuiet P l.toArray (fun w' => ∃ n, w' = w.drewN n) (fun a' => ∀ w', (∃ n, w' = w.drewN n) → Q .normal a' w') l a) : (Code.region id l.toArray true).wpIn (Fence.wide.inRound l0) n P Q a w := by
  refine wpIn_region_draw fun t => wpOpsIn_of_wpOps ?_ hout _ _ _ ?_
  · intro i o c ho hc
    simp only [noDefer, List.all_eq_true] at hnd
    have := hnd o (by simp at ho; exact List.mem_of_getElem? ho)
    simp [hc] at this
  · simp only [Region.schedule, hm, Bool.true_or, if_true]
    simp only [Region.lexB, Bool.and_eq_true] at hB
    refine wpAny_sound l.toArray.size t _ a _ (wpAny_of_quiet (C := fun w' => ∃ n, w' = w.drewN n) (Q := fun a' => ∀ w', (∃ n, w' = w.drewN n) → Q .normal a' w') (fun _ w' hw' h => h w' hw') _ _ _ _ ⟨1, rfl⟩ ?_)
    have := wpAnyQ_lex (C := fun w' => ∃ n, w' = w.drewN n) (md := .any) hB.1 l 0 (Array.replicate l.toArray.size false) a (by simp) (by simpa using hB.2) h
    simpa using this

/-- A region within a round, any order. -/
theorem round_any {l0 n id : Nat} {P : Program} {Q : Exit → Act → World → Prop} {a : Act} {w : World} {l : List Oper} (hm : P.follows .mixedOrders = true) (hnd : noDefer l = true) (hout : ¬ LetsOut Q)
    (h : wpAny P .any l.toArray Q l.toArray.size (Array.replicate l.toArray.size false) a { w with drawn := w.drawn + 1 }) : (Code.region id l.toArray true).wpIn (Fence.wide.inRound l0) n P Q a w := by
  refine wpIn_region_draw fun t => wpOpsIn_of_wpOps ?_ hout _ _ _ ?_
  · intro i o c ho hc
    simp only [noDefer, List.all_eq_true] at hnd
    have := hnd o (by simp at ho; exact List.mem_of_getElem? ho)
    simp [hc] at this
  · simp only [Region.schedule, hm, Bool.true_or, if_true]
    exact wpAny_sound l.toArray.size t _ a _ h

/-- A region within a round: a head that only reads, then a tail in one forced order. -/
theorem round_still_tail {l0 m id : Nat} {P : Program} {Q : Exit → Act → World → Prop} {a : Act} {w : World} {l : List Oper} (n : Nat) (hm : P.follows .mixedOrders = true) (hB : Region.lexTailB .any l.toArray n = true) (hnd : noDefer l = true) (hout : ¬ LetsOut Q)
    (h : wpStill P l.toArray w.drew (fun a' => wpList P l.toArray Q (l.drop n) a' w.drew) (l.take n) a) : (Code.region id l.toArray true).wpIn (Fence.wide.inRound l0) m P Q a w := by
  simp only [Region.lexTailB, Bool.and_eq_true, decide_eq_true_eq] at hB
  obtain ⟨⟨⟨⟨hsel, hn⟩, hs⟩, hc⟩, hlex⟩ := hB
  have hn' : n < l.length := by simpa using hn
  have htl : (l.take n).length = n := by simp; omega
  have hdl : (l.drop n).length = l.toArray.size - n := by simp
  have inv0 : HeadInv .any l.toArray n (Array.replicate l.toArray.size false) :=
    ⟨by simp, fun j oj _ hl => (by rw [getD_replicate_false] at hl; cases hl), fun t _ ht => getD_in (by simpa using ht) (getD_replicate_false _ _)⟩
  have H := wpAnyL_lex (md := .any) (g := l.toArray.size - n) hsel hs hc hn (l.take n) 0 _ a (fun j hj => by
    have hj' : j < n := by rw [htl] at hj; exact hj
    simp [hj']) (by simpa using htl) inv0 (by rw [htl]; exact hlex) h
  refine round_any hm hnd hout ?_
  have := wpAny_of_head (Q' := Q) (g := l.toArray.size - n) (fun listed a' hL => by
    have := wpAny_of_seq (md := .any) (Q' := Q) (l.drop n) n listed a' { w with drawn := w.drawn + 1 } (fun j => by simp [List.getElem?_drop]) (by rw [hdl]; exact hL.1) hL.2
    rwa [hdl] at this) _ _ _ H
  rw [htl, show n + (l.toArray.size - n) = l.toArray.size by omega] at this
  exact this

/-- Marks of loops over functions: each names a block of its own that holds no call. -/
def Marks (B : Nat) (w : World) : List Deferred → Prop
  | [] => True
  | d :: ds => (∃ D, B ≤ D ∧ d = { target := .collected D, args := #[] } ∧ w.heap[D]? = some (.deferred (some [])) ∧ (∀ d' ∈ ds, d'.target ≠ .collected D)) ∧ Marks B w ds

theorem Marks.keep {B : Nat} {w w' : World} (h : ∀ (k : Nat) (o : Obj), B ≤ k → w.heap[k]? = some o → o.isCells = false → w'.heap[k]? = some o) : ∀ {ds : List Deferred}, Marks B w ds → Marks B w' ds
  | [], _ => trivial
  | _ :: _, ⟨⟨D, hB, hd, hD, hne⟩, hr⟩ => ⟨⟨D, hB, hd, h D _ hB hD rfl, hne⟩, Marks.keep h hr⟩

theorem Marks.lt {B : Nat} {w : World} : ∀ {ds : List Deferred}, Marks B w ds → ∀ d ∈ ds, ∃ D, d.target = .collected D ∧ D < w.heap.size
  | [], _, _, h => by cases h
  | _ :: _, ⟨⟨D, _, hd, hD, _⟩, hr⟩, d, hm => by
    rcases List.mem_cons.1 hm with rfl | h
    · exact ⟨D, by rw [hd], (Array.getElem?_eq_some_iff.1 hD).1⟩
    · exact Marks.lt hr d h

/-- What the taking up of marks leaves: all blocks of cells, all blocks below B. -/
def Took (B : Nat) (w w' : World) : Prop := w'.os = w.os ∧ w'.tape = w.tape ∧ w'.output = w.output ∧ w'.heap.size = w.heap.size ∧ (∀ k, k < B → w'.heap[k]? = w.heap[k]?) ∧ ∀ (k : Nat) (o : Obj), w.heap[k]? = some o → o.isCells = true → w'.heap[k]? = some o

theorem marks_put {B D : Nat} {w : World} : ∀ {ds : List Deferred}, (∀ d' ∈ ds, d'.target ≠ .collected D) → Marks B w ds → Marks B (w.putObj D (.deferred none)) ds
  | [], _, _ => trivial
  | d :: _, hne, ⟨⟨D', hB', hd', hD', hne'⟩, hr⟩ => ⟨⟨D', hB', hd', (World.putObj_heap_other (fun e => by
      have := hne d (List.mem_cons_self ..)
      rw [hd', e] at this
      exact this rfl)).trans hD', hne'⟩, marks_put (fun d' hd'' => hne d' (List.mem_cons_of_mem _ hd'')) hr⟩

theorem leaves_marks {B : Nat} {P : Program} {fn : Func} {tmps : Array Value} {R : Ending → World → Prop} : ∀ (ds : List Deferred) (w : World), Marks B w ds → (∀ w', Took B w w' → ∃ v, (results fn tmps).run P w' = .ok v w' ∧ R (.returned v) w') → LeavesInM Fence.wide 0 P fn tmps R ds .returning w
  | [], w, _, h => h w ⟨rfl, rfl, rfl, rfl, fun _ _ => rfl, fun _ _ h _ => h⟩
  | d :: ds, w, ⟨⟨D, hB, hd, hD, hne⟩, hr⟩, h => by
    subst hd
    refine ⟨by simp, .inl ⟨D, _, rfl, run_takeDeferred hD, ?_⟩⟩
    refine leaves_marks ds _ (marks_put hne hr) fun w' hw' => h w' ?_
    obtain ⟨h1, h2, h3, h4, h5, h6⟩ := hw'
    refine ⟨h1, h2, h3, by simpa using h4, fun k hk => (h5 k hk).trans (World.putObj_heap_other (by omega)), fun k o hk ho => h6 k o ?_ ho⟩
    refine (World.putObj_heap_other (fun e => ?_)).trans hk
    subst e
    rw [hD] at hk
    cases hk
    cases ho
end Go.Proofs.Ytenpiinkbfancaa
