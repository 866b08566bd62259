/-
  A range over a function that yields a known sequence of elements, and that has cells of its own: the body of a round is told which element has come, and what lies as it lay.
-/
import Derived.Test.YtenpiinkbfancaaGen
import Derived.RangeFuncNested
namespace Go.Proofs.Ytenpiinkbfancaa
open Go Go.RowKit
set_option linter.unusedSimpArgs false
set_option linter.unusedVariables false

/-- Nothing but the blocks from s up to z has turned (and new ones have come). -/
def Chz (s z : Nat) (A B : World) : Prop := A.heap.size ≤ B.heap.size ∧ B.os = A.os ∧ B.tape = A.tape ∧ B.output = A.output ∧ ∀ (k : Nat) (o : Obj), A.heap[k]? = some o → ¬ (s ≤ k ∧ k < z) → B.heap[k]? = some o
section
variable {s z : Nat} {A B C : World}
theorem Chz.refl (s z : Nat) (A : World) : Chz s z A A := ⟨Nat.le_refl _, rfl, rfl, rfl, fun _ _ h _ => h⟩
theorem Chz.trans (h : Chz s z A B) (k : Chz s z B C) : Chz s z A C := ⟨Nat.le_trans h.1 k.1, k.2.1.trans h.2.1, k.2.2.1.trans h.2.2.1, k.2.2.2.1.trans h.2.2.2.1, fun i o h0 h1 => k.2.2.2.2 i o (h.2.2.2.2 i o h0 h1) h1⟩
theorem Chz.of_below (h : Below A.heap.size A B) : Chz s z A B := ⟨h.size, h.os, h.tape, h.output, fun i _ h0 _ => (h.block i (Array.getElem?_eq_some_iff.1 h0).1).trans h0⟩
theorem Chz.of_set {ad : Addr} (h : s ≤ ad.block ∧ ad.block < z) (v : Value) : Chz s z A (A.setCell ad v) :=
  ⟨by simp [World.setCell], rfl, rfl, rfl, fun i _ h0 h2 => (Below.heap_setCell A ad v i (by rintro rfl; exact h2 h)).trans h0⟩
theorem Chz.of_put {l : Nat} (h : s ≤ l ∧ l < z) (o : Obj) : Chz s z A (A.putObj l o) :=
  ⟨by simp, rfl, rfl, rfl, fun i _ h0 h2 => (World.putObj_heap_other (by rintro rfl; exact h2 h)).trans h0⟩
theorem Chz.less {s' : Nat} (h : Chz s' z A B) (hs : s ≤ s') : Chz s z A B := ⟨h.1, h.2.1, h.2.2.1, h.2.2.2.1, fun i o h0 h1 => h.2.2.2.2 i o h0 (fun hh => h1 ⟨by omega, hh.2⟩)⟩
theorem Chz.block (h : Chz s z A B) {k : Nat} {o : Obj} (h0 : A.heap[k]? = some o) (h1 : k < s ∨ z ≤ k) : B.heap[k]? = some o := h.2.2.2.2 k o h0 (by omega)
theorem Chz.cell (h : Chz s z A B) {p : Addr} {v : Value} (hc : A.cell? p = some v) (h1 : p.block < s ∨ z ≤ p.block) : B.cell? p = some v := by
  unfold World.cell? at hc ⊢
  cases h0 : A.heap[p.block]? with
  | none => rw [h0] at hc; cases hc
  | some o =>
    rw [h0] at hc
    rw [h.block h0 h1]
    exact hc
theorem Chz.below {b : Nat} (h : Chz s z A B) (hb : b ≤ s) (hA : b ≤ A.heap.size) : Below b A B := ⟨h.2.1, h.2.2.1, h.2.2.2.1, h.1, fun k hk => by
  obtain ⟨o, ho⟩ : ∃ o, A.heap[k]? = some o := ⟨_, Array.getElem?_eq_getElem (by omega)⟩
  rw [h.block ho (.inl (by omega)), ho]⟩
end
/-- What a round keeps: all blocks below s but those of S, all from s up to z, all from n0 on. -/
structure KZ (S : Nat → Prop) (s z n0 : Nat) (A B : World) : Prop where
  size : A.heap.size ≤ B.heap.size
  os : B.os = A.os
  tape : B.tape = A.tape
  output : B.output = A.output
  same : ∀ (k : Nat) (o : Obj), A.heap[k]? = some o → ((k < s ∧ ¬ S k) ∨ (s ≤ k ∧ k < z) ∨ n0 ≤ k) → B.heap[k]? = some o
section
variable {S : Nat → Prop} {s z n0 : Nat} {A B C : World}
theorem KZ.refl (S : Nat → Prop) (s z n0 : Nat) (A : World) : KZ S s z n0 A A := ⟨Nat.le_refl _, rfl, rfl, rfl, fun _ _ h _ => h⟩
theorem KZ.trans (h : KZ S s z n0 A B) (k : KZ S s z n0 B C) : KZ S s z n0 A C := ⟨Nat.le_trans h.size k.size, k.os.trans h.os, k.tape.trans h.tape, k.output.trans h.output, fun i o h0 h1 => k.same i o (h.same i o h0 h1) h1⟩
theorem KZ.of_below (h : Below A.heap.size A B) : KZ S s z n0 A B := ⟨h.size, h.os, h.tape, h.output, fun i _ h0 _ => (h.block i (Array.getElem?_eq_some_iff.1 h0).1).trans h0⟩
theorem KZ.of_set {ad : Addr} (h : ad.block < s ∧ S ad.block) (hn : ad.block < n0) (v : Value) : KZ S s z n0 A (A.setCell ad v) :=
  ⟨by simp [World.setCell], rfl, rfl, rfl, fun i _ h0 h2 => (Below.heap_setCell A ad v i (by
    rintro rfl
    rcases h2 with h2 | h2 | h2
    · exact h2.2 h.2
    · omega
    · omega)).trans h0⟩
theorem KZ.of_grown {row : Option Nat} (h : A.grownBy B row) (hr : ∀ q, row = some q → (q < s → S q) ∧ ¬ (s ≤ q ∧ q < z) ∧ q < n0) : KZ S s z n0 A B :=
  ⟨h.size, h.os, h.tape, h.output, fun i _ h0 h2 => (h.block i (Array.getElem?_eq_some_iff.1 h0).1 (fun e => by
    obtain ⟨a1, a2, a3⟩ := hr i e.symm
    rcases h2 with h2 | h2 | h2
    · exact h2.2 (a1 h2.1)
    · exact a2 h2
    · omega)).trans h0⟩
theorem KZ.cell (h : KZ S s z n0 A B) {p : Addr} {v : Value} (hc : A.cell? p = some v) (h1 : (p.block < s ∧ ¬ S p.block) ∨ (s ≤ p.block ∧ p.block < z) ∨ n0 ≤ p.block) : B.cell? p = some v := by
  unfold World.cell? at hc ⊢
  cases h0 : A.heap[p.block]? with
  | none => rw [h0] at hc; cases hc
  | some o =>
    rw [h0] at hc
    rw [h.same _ _ h0 h1]
    exact hc
theorem KZ.below {b : Nat} (h : KZ S s z n0 A B) (hb : b ≤ s) (hA : b ≤ A.heap.size) (hS : ∀ k, k < b → ¬ S k) : Below b A B := ⟨h.os, h.tape, h.output, h.size, fun k hk => by
  obtain ⟨o, ho⟩ : ∃ o, A.heap[k]? = some o := ⟨_, Array.getElem?_eq_getElem (by omega)⟩
  rw [h.same k o ho (.inl ⟨by omega, hS k hk⟩), ho]⟩
end

/-- All blocks below s are kept but those of S. -/
def KS (S : Nat → Prop) (s : Nat) (A B : World) : Prop := A.heap.size ≤ B.heap.size ∧ B.os = A.os ∧ B.tape = A.tape ∧ B.output = A.output ∧ ∀ (k : Nat) (o : Obj), A.heap[k]? = some o → k < s → ¬ S k → B.heap[k]? = some o
section
variable {S : Nat → Prop} {s z n0 : Nat} {A B C : World}
theorem KS.refl (S : Nat → Prop) (s : Nat) (A : World) : KS S s A A := ⟨Nat.le_refl _, rfl, rfl, rfl, fun _ _ h _ _ => h⟩
theorem KS.trans (h : KS S s A B) (k : KS S s B C) : KS S s A C := ⟨Nat.le_trans h.1 k.1, k.2.1.trans h.2.1, k.2.2.1.trans h.2.2.1, k.2.2.2.1.trans h.2.2.2.1, fun i o h0 h1 h2 => k.2.2.2.2 i o (h.2.2.2.2 i o h0 h1 h2) h1 h2⟩
theorem KS.of_below (h : Below A.heap.size A B) : KS S s A B := ⟨h.size, h.os, h.tape, h.output, fun i _ h0 _ _ => (h.block i (Array.getElem?_eq_some_iff.1 h0).1).trans h0⟩
theorem KS.of_chz (h : Chz s z A B) : KS S s A B := ⟨h.1, h.2.1, h.2.2.1, h.2.2.2.1, fun i o h0 h1 _ => h.block h0 (.inl h1)⟩
theorem KZ.ks (h : KZ S s z n0 A B) : KS S s A B := ⟨h.size, h.os, h.tape, h.output, fun i o h0 h1 h2 => h.same i o h0 (.inl ⟨h1, h2⟩)⟩
theorem KS.of_set {ad : Addr} (h : s ≤ ad.block ∨ S ad.block) (v : Value) : KS S s A (A.setCell ad v) :=
  ⟨by simp [World.setCell], rfl, rfl, rfl, fun i _ h0 h1 h2 => (Below.heap_setCell A ad v i (by
    rintro rfl
    rcases h with h | h
    · omega
    · exact h2 h)).trans h0⟩
theorem KS.cell (h : KS S s A B) {p : Addr} {v : Value} (hc : A.cell? p = some v) (h1 : p.block < s) (h2 : ¬ S p.block) : B.cell? p = some v := by
  unfold World.cell? at hc ⊢
  cases h0 : A.heap[p.block]? with
  | none => rw [h0] at hc; cases hc
  | some o =>
    rw [h0] at hc
    rw [h.2.2.2.2 _ _ h0 h1 h2]
    exact hc
theorem KS.below {b : Nat} (h : KS S s A B) (hb : b ≤ s) (hA : b ≤ A.heap.size) (hS : ∀ k, k < b → ¬ S k) : Below b A B := ⟨h.2.1, h.2.2.1, h.2.2.2.1, h.1, fun k hk => by
  obtain ⟨o, ho⟩ : ∃ o, A.heap[k]? = some o := ⟨_, Array.getElem?_eq_getElem (by omega)⟩
  rw [h.2.2.2.2 k o ho (by omega) (hS k hk), ho]⟩
theorem KS.less {s' : Nat} (h : KS S s A B) (hs : s' ≤ s) : KS S s' A B := ⟨h.1, h.2.1, h.2.2.1, h.2.2.2.1, fun i o h0 h1 h2 => h.2.2.2.2 i o h0 (by omega) h2⟩
end

/-- An iterator that yields cnt elements, encs 0, encs 1 ..: the round is told which one has come (k), and the world behind the round before (W0). -/
def SeqN (F : Fence) (n : Nat) (P : Program) (g : Nat) (lb : Array Value) (encs : Nat → Array Value) (cnt : Nat) (S : Nat → Prop) (w : World) : Prop :=
  ∀ (l : Nat) (R : Nat → Nat → World → Prop) (W : World), Below w.heap.size w W →
    (∀ z k W0 W1, W.heap.size ≤ z → z ≤ W0.heap.size → R z k W0 → Chz W.heap.size z W0 W1 → k < cnt → YieldAt F (n - 1) P l (encs k) W1 fun e W' => e = .returned (.bool true) ∧ R z (k + 1) W' ∧ KZ S W.heap.size z W0.heap.size W1 W') →
    (∀ W1, Below W.heap.size W W1 → R W1.heap.size 0 W1) →
    CallsIn F n P g (#[.func (.yield l) #[] #[]] ++ lb) W fun e W' => (∃ v, e = .returned v) ∧ ∃ z W0, W.heap.size ≤ z ∧ z ≤ W0.heap.size ∧ R z cnt W0 ∧ Chz W.heap.size z W0 W'

/-- What the rounds' book-keeping leaves: the record of the loop, the block for deferred calls. -/
def Rec (W : World) (q : Nat) (r : Loop) : Prop := W.heap[q + 1]? = some (.loop r) ∧ W.heap[q]? = some (.deferred (some []))
theorem Rec.put {W : World} {q : Nat} {r : Loop} (h : Rec W q r) (r' : Loop) : Rec (W.putObj (q + 1) (.loop r')) q r' :=
  ⟨World.putObj_heap_same (Array.getElem?_eq_some_iff.1 h.1).1, (World.putObj_heap_other (by omega)).trans h.2⟩

/-- How the body of a round is left: on its way, what it keeps, what holds then. -/
def postN (S : Nat → Prop) (s z n0 : Nat) (R : World → Prop) (W : World) : Exit → Act → World → Prop
  | .normal, _, W' => KZ S s z n0 W W' ∧ R W'
  | _, _, _ => False

theorem wpIn_rangeFunc_n {F : Fence} {n : Nat} {P : Program} {g : Operand} {ps : Array Tmp} {assign body : Code} {Q : Exit → Act → World → Prop} {a : Act} {w : World}
    (hro : F.round = none) (h1 : 1 ≤ n) {gf : Nat} {lb : Array Value} (hg : a.eval g = .func (.func gf) #[] lb) (hFg : F.fn gf) (eg : ∀ args w, (callFunc gf args).run P w = .ok (.enter gf args) w)
    {encs : Nat → Array Value} {cnt : Nat} {S : Nat → Prop} {w0 : World} (hseq : SeqN F (n - 1) P gf lb encs cnt S w0) (hb0 : Below w0.heap.size w0 w) (hps : ∀ k, (encs k).size = ps.size)
    (R : Nat → Nat → World → Prop) (h0 : ∀ W, Below w.heap.size w W → R W.heap.size 0 W) (Ax : Nat → Act → World → World → Prop)
    (hAx : ∀ k a' W1 A l o, w.heap.size ≤ l → l < W1.heap.size → Ax k a' W1 A → Ax k a' W1 (A.putObj l o))
    (hassign : ∀ (l z k : Nat) (W0 W1 : World) (K : Act → World → Prop), w.heap.size + 2 ≤ z → z ≤ W0.heap.size → R z k W0 → Chz w.heap.size z W0 W1 → k < cnt → (∀ a' W2, Below W1.heap.size W1 W2 → Ax k a' W1 W2 → K a' W2) →
      assign.wpIn (F.inRound l) (n - 1 - 1) P (Exit.then K (fun _ _ _ => False)) { tmps := (ps.zip (encs k)).foldl (fun t (p, v) => t.setIfInBounds p v) a.tmps, defers := [] } W1)
    (hbody : ∀ (l z k : Nat) (a' : Act) (W0 W1 W2 : World), w.heap.size + 2 ≤ z → z ≤ W0.heap.size → R z k W0 → Chz w.heap.size z W0 W1 → Chz w.heap.size z W1 W2 → k < cnt → Ax k a' W1 W2 →
      body.wpIn (F.inRound l) (n - 1 - 1) P (postN S w.heap.size z W0.heap.size (R z (k + 1)) W2) a' W2)
    (hdone : ∀ (D z : Nat) (W0 W : World), w.heap.size ≤ D → w.heap.size + 2 ≤ z → z ≤ W0.heap.size → D < z → R z cnt W0 → Chz w.heap.size z W0 W → W.heap[D]? = some (.deferred (some [])) → Q .normal { a with defers := { target := .collected D, args := #[] } :: a.defers } W) :
    (Code.rangeFunc g ps assign body).wpIn F n P Q a w := by
  refine wpIn_rangeFunc fun fn hfn => ?_
  rw [hro]
  obtain ⟨q, hq⟩ : ∃ q, q = w.heap.size := ⟨_, rfl⟩
  obtain ⟨rc, hrc⟩ : ∃ rc : LoopState → Option Code → Loop, rc = fun st pe => { state := st, pending := pe, fn, tmps := a.tmps, params := ps, assign, body, defers := w.heap.size } := ⟨_, rfl⟩
  have hrun := run_enterLoop_outer (P := P) (w := w) fn a.tmps ps assign body
  rw [show ({ state := .ready, pending := none, fn := fn, tmps := a.tmps, params := ps, assign := assign, body := body, defers := w.heap.size } : Loop) = rc .ready none by rw [hrc]] at hrun
  have hrec1 : Rec ((w.alloc (.deferred (some []))).alloc (.loop (rc .ready none))) q (rc .ready none) := by
    subst hq
    refine ⟨?_, (Below.heap_alloc _ _ _ (by simp)).trans (World.alloc_heap_new w _)⟩
    have := World.alloc_heap_new (w.alloc (.deferred (some []))) (.loop (rc .ready none))
    rwa [World.size_alloc] at this
  have hbw : Below w.heap.size w ((w.alloc (.deferred (some []))).alloc (.loop (rc .ready none))) := ((Below.refl _ w).alloc (Nat.le_refl _) _).alloc (by simp) _
  have hz1 : ((w.alloc (.deferred (some []))).alloc (.loop (rc .ready none))).heap.size = q + 2 := by simp; omega
  generalize (w.alloc (.deferred (some []))).alloc (.loop (rc .ready none)) = W1 at *
  refine ⟨w.heap.size + 1, _, W1, { target := .fn (.func gf) lb, args := #[.func (.yield (w.heap.size + 1)) #[] #[]] }, W1, gf, #[.func (.yield (w.heap.size + 1)) #[] #[]] ++ lb, W1, hrun, ?_, ?_, ?_, fun _ => h1, ?_⟩
  · simp only [resolve, hg]
    simp [go_sem]
  · intro f' hf'
    simp [Target.leads] at hf'
    subst hf'
    exact hFg
  · simp [invoke, go_sem, eg]
  · have hb1 : Below w0.heap.size w0 W1 := hb0.trans (hbw.mono hb0.size)
    rw [← hq] at hbw h0 hAx hassign hbody hdone ⊢
    refine (hseq (q + 1) (fun z k W => q + 2 ≤ z ∧ Rec W q (rc .ready none) ∧ ∃ W00, W00.heap.size = W.heap.size ∧ R z k W00 ∧ Chz q z W00 W) W1 hb1 ?_ ?_).mono ?_
    · rintro z k W0 Wa hz hzW ⟨hz2, hr, W00, hsz, hR, hC⟩ hch hk
      rw [hz1] at hz hch
      have hra : Rec Wa q (rc .ready none) := ⟨hch.block hr.1 (.inl (by omega)), hch.block hr.2 (.inl (by omega))⟩
      have hCa : Chz q z W00 Wa := hC.trans (hch.less (by omega))
      have hy := run_yield (P := P) (args := encs k) hra.1 (by rw [hrc]; exact hps k)
      rw [hrc] at hy
      refine ⟨fn, _, assign, body, hy, roundIn_of_wpIn hfn (hassign _ z k W00 Wa _ hz2 (by omega) hR hCa hk ?_)⟩
      intro a' Wb hbb hax
      have hlt : q + 1 < Wa.heap.size := (Array.getElem?_eq_some_iff.1 hra.1).1
      have hrb : Rec Wb q (rc .ready none) := ⟨(hbb.block _ hlt).trans hra.1, (hbb.block _ (by omega)).trans hra.2⟩
      refine ⟨_, run_beginRound hrb.1 (by rw [hrc]), ?_⟩
      have hrd := hrb.put { rc .ready none with state := .busy }
      refine wpIn_mono (hbody _ z k a' W00 Wa _ hz2 (by omega) hR hCa ((Chz.of_below hbb).trans (Chz.of_put ⟨by omega, by omega⟩ _)) hk (hAx k a' Wa _ _ _ (by omega) hlt hax)) ?_
      rintro e a3 W3 hp
      cases e with
      | normal =>
        obtain ⟨hk3, hi3⟩ := hp
        have hr3 : Rec W3 q { rc .ready none with state := .busy } := ⟨hk3.same _ _ hrd.1 (.inr (.inl ⟨by omega, by omega⟩)), hk3.same _ _ hrd.2 (.inr (.inl ⟨by omega, by omega⟩))⟩
        have hend : (Instr.endRound (q + 1) none).run P W3 = .ok (.bool true) (W3.putObj (q + 1) (.loop (rc .ready none))) := by
          have := run_endRound (P := P) none hr3.1
          rw [hrc] at this ⊢
          exact this
        have hre := hr3.put (rc .ready none)
        refine ⟨_, _, hend, rfl, ⟨hz2, hre, W3, by simp, hi3, Chz.of_put ⟨by omega, by omega⟩ _⟩, ?_⟩
        · refine ⟨?_, ?_, ?_, ?_, ?_⟩
          · have h1 := hk3.size
            have h2 := hbb.size
            simp at h1 ⊢
            omega
          · exact hk3.os.trans hbb.os
          · exact hk3.tape.trans hbb.tape
          · exact hk3.output.trans hbb.output
          · intro i o hi hc
            by_cases e1 : i = q + 1
            · subst e1
              rw [hra.1] at hi
              cases hi
              exact hre.1
            · have hlt2 := (Array.getElem?_eq_some_iff.1 hi).1
              refine (World.putObj_heap_other (by omega)).trans (hk3.same i o ((World.putObj_heap_other (by omega)).trans ((hbb.block i hlt2).trans hi)) ?_)
              rw [hz1] at hc
              rcases hc with ⟨c1, c2⟩ | c1 | c1
              · by_cases c3 : i < q
                · exact .inl ⟨by omega, c2⟩
                · exact .inr (.inl ⟨by omega, by omega⟩)
              · exact .inr (.inl ⟨by omega, c1.2⟩)
              · exact .inr (.inr (by omega))
      | ret => exact hp.elim
      | exit id => exact hp.elim
      | goto t => exact hp.elim
      | panic ch => exact hp.elim
      | outgrown => exact hp.elim
    · intro Wa hba
      have hz := hba.size
      rw [hz1] at hz
      have hlt : q + 1 < W1.heap.size := by omega
      exact ⟨by omega, ⟨(hba.block _ hlt).trans hrec1.1, (hba.block _ (by omega)).trans hrec1.2⟩, Wa, rfl, h0 Wa (hbw.trans (hba.mono (by omega))), Chz.refl _ _ _⟩
    · rintro e W2 ⟨⟨v, rfl⟩, z, W0, hz, hzW, ⟨hz2, hr, W00, hsz, hR, hC⟩, hch⟩
      rw [hz1] at hz hch
      have hr2 : Rec W2 q (rc .ready none) := ⟨hch.block hr.1 (.inl (by omega)), hch.block hr.2 (.inl (by omega))⟩
      have hend := run_endLoop (P := P) hr2.1 (by rw [hrc]; simp)
      have hCe : Chz q z W00 (W2.putObj (q + 1) (.loop { rc .ready none with state := .exhausted })) := (hC.trans (hch.less (by omega))).trans (Chz.of_put ⟨by omega, by omega⟩ _)
      refine ⟨none, W2.putObj (q + 1) (.loop { rc .ready none with state := .exhausted }), ?_, hdone q z W00 _ (Nat.le_refl _) hz2 (by omega) (by omega) hR hCe ((World.putObj_heap_other (by omega)).trans hr2.2)⟩
      rw [hrc] at hend ⊢
      exact hend
end Go.Proofs.Ytenpiinkbfancaa
