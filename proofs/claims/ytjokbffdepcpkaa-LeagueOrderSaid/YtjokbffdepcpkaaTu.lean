/-
  A drawn region that stores into what it has loaded: S1 holds till operation s has run, S2 throughout.
-/
import Derived.Test.YtjokbffdepcpkaaPA
namespace Go.Proofs.Ytjokbffdepcpkaa
open Go.RowKit
set_option linter.unusedSimpArgs false
set_option linter.unusedVariables false

section
variable {P : Program} {ops : Array Oper} {Q : Exit → Act → World → Prop} {md : Region.Mode} {S1 S2 : World → Prop} {s : Nat}
/-- Whatever order is picked from here on, and S1 holds till s has run, S2 throughout. -/
def wpAnyU (P : Program) (md : Region.Mode) (ops : Array Oper) (Q : Exit → Act → World → Prop) (S1 S2 : World → Prop) (s : Nat) : Nat → Array Bool → Act → World → Prop
  | 0, listed, a, w => Region.ready md ops listed = [] ∧ Q .normal a w
  | fuel + 1, listed, a, w =>
    (Region.ready md ops listed = [] → Q .normal a w) ∧
    ∀ i ∈ Region.ready md ops listed, wpOp P ops Q i (fun a' w' => ((i ≠ s ∧ listed.getD s true = false → S1 w') ∧ S2 w') ∧ wpAnyU P md ops Q S1 S2 s fuel (listed.setIfInBounds i true) a' w') a w
theorem wpAny_of_U : ∀ (fuel : Nat) (listed : Array Bool) (a : Act) (w : World), wpAnyU P md ops Q S1 S2 s fuel listed a w → wpAny P md ops Q fuel listed a w
  | 0, _, _, _, h => h
  | fuel + 1, _, _, _, h => ⟨h.1, fun i hi => wpOp_mono (fun a' w' h' => wpAny_of_U fuel _ a' w' h'.2) (h.2 i hi)⟩
/-- Operation s waits for i. -/
def sWaits (md : Region.Mode) (ops : Array Oper) (s i : Nat) : Bool := match ops[s]? with
  | some o => o.after.any fun e => Region.binds md e && e.on == i
  | none => false
theorem wpAnyU_first {b : Bool} {i : Nat} {oi : Oper} {v : Value} (hi : ops[i]? = some oi) (hsel : ∀ (j : Nat) (o : Oper) cs b, ops[j]? = some o → o.op ≠ .select cs b)
    (hQ : ∀ c a w, Q (.panic c) (a.put oi.dst v) w → Q (.panic c) a w) (his : i ≠ s) (hwt : b = true → sWaits md ops s i = true) :
    ∀ (fuel : Nat) (listed : Array Bool) (a : Act) (w : World),
      (∀ j oj, ops[j]? = some oj → j ≠ i → listed.getD j true = false → (∀ e ∈ oj.after, Region.binds md e = true → e.on ≠ i) → oi.apart ops oj = true) →
      i ∈ Region.ready md ops listed → (b = true → listed.getD s true = false) → YieldsIf P ops (fun w => if b then S1 w else S2 w) oi v a → ((listed.getD s true = false → S1 w) ∧ S2 w) →
      wpAnyU P md ops Q S1 S2 s fuel (listed.setIfInBounds i true) (a.put oi.dst v) w → wpAnyU P md ops Q S1 S2 s (fuel + 1) listed a w := by
  have hsx : ∀ (listed : Array Bool) (w : World), (b = true → listed.getD s true = false) → ((listed.getD s true = false → S1 w) ∧ S2 w) → (fun w => if b then S1 w else S2 w) w := fun listed w hb hI => by
    cases b
    · exact hI.2
    · exact hI.1 (hb rfl)
  intro fuel
  induction fuel with
  | zero =>
    intro listed a w _ hr hb hy hI H
    refine ⟨fun h => (by rw [h] at hr; cases hr), fun j hj => ?_⟩
    by_cases hji : j = i
    · subst hji; exact hy.wpOp hi (hsx listed w hb hI) ⟨⟨fun h => hI.1 h.2, hI.2⟩, H⟩
    · have := ready_mono hj hji
      rw [H.1] at this
      cases this
  | succ fuel ih =>
    intro listed a w hfree hr hb hy hI H
    refine ⟨fun h => (by rw [h] at hr; cases hr), fun j hj => ?_⟩
    by_cases hji : j = i
    · subst hji; exact hy.wpOp hi (hsx listed w hb hI) ⟨⟨fun h => hI.1 h.2, hI.2⟩, H⟩
    · have h1 := H.2 j (ready_mono hj hji)
      obtain ⟨hjun, oj, hoj, hall⟩ := mem_ready.1 hj
      have hnot : ∀ e ∈ oj.after, Region.binds md e = true → e.on ≠ i := fun e he hb heq => by
        have h1 := hall e he hb
        have h0 := (mem_ready.1 hr).1
        rw [heq] at h1
        rcases Nat.lt_or_ge i listed.size with h' | h'
        · simp [h'] at h0 h1; rw [h0] at h1; cases h1
        · simp [Array.getElem?_eq_none h'] at h1
      have hjs : b = true → j ≠ s := fun hb' e => by
        have hw := hwt hb'
        unfold sWaits at hw
        rw [← e, hoj] at hw
        simp only [Array.any_eq_true, Bool.and_eq_true, beq_iff_eq] at hw
        obtain ⟨x, hx, h2, h3⟩ := hw
        exact hnot _ (Array.getElem_mem hx) h2 h3
      have h2 := wpOp_putIf hoj (hfree j oj hoj hji hjun hnot) (fun cs b => hsel i oi cs b hi) (fun cs b => hsel j oj cs b hoj) hQ hy h1
      have hfree' : ∀ k ok, ops[k]? = some ok → k ≠ i → (listed.setIfInBounds j true).getD k true = false →
          (∀ e ∈ ok.after, Region.binds md e = true → e.on ≠ i) → oi.apart ops ok = true := fun k ok hk hki hun hno => by
        refine hfree k ok hk hki ?_ hno
        by_cases hjk : j = k
        · subst hjk; exact hjun
        · rw [getD_set_ne true hjk] at hun; exact hun
      have hset : (listed.setIfInBounds i true).getD s true = listed.getD s true := getD_set_ne true his
      refine wpOp_mono (fun a' w' h3 => ⟨?_, ih (listed.setIfInBounds j true) a' w' hfree' (ready_mono hr (Ne.symm hji)) ?_ h3.1 ?_ ?_⟩) h2
      · have h4 := h3.2.1
        rw [hset] at h4
        exact h4
      · intro hb'
        rw [getD_set_ne true (hjs hb')]
        exact hb hb'
      · have h4 := h3.2.1
        rw [hset] at h4
        refine ⟨fun hf => h4.1 ⟨fun e => ?_, ?_⟩, h4.2⟩
        · subst e
          rcases Nat.lt_or_ge j listed.size with h' | h'
          · simp [h'] at hf
          · simp [Array.getElem?_eq_none h'] at hf
        · by_cases e : j = s
          · subst e; exact hjun
          · rwa [getD_set_ne true e] at hf
      · rw [Array.setIfInBounds_comm _ _ hji]
        exact h3.2.2
theorem U_take {b : Bool} {i : Nat} {oi : Oper} {v : Value} {fuel : Nat} {listed : Array Bool} {a : Act} {w : World} (hi : ops[i]? = some oi)
    (hs : Region.noSelect ops = true) (hf : Region.free md ops listed i = true) (hr : (Region.ready md ops listed).contains i = true) (his : i ≠ s) (hwt : b = true → sWaits md ops s i = true) (hns : b = true → listed.getD s true = false)
    (hQ : ∀ c a w, Q (.panic c) (a.put oi.dst v) w → Q (.panic c) a w) (hw : Region.wanted oi (yielded ops a.tmps) = true) (hI : (listed.getD s true = false → S1 w) ∧ S2 w) (hy : ∀ w, (if b then S1 w else S2 w) → (execOp a.eval oi).run P w = .ok (.value v) w)
    (h : wpAnyU P md ops Q S1 S2 s fuel (listed.setIfInBounds i true) (a.put oi.dst v) w) : wpAnyU P md ops Q S1 S2 s (fuel + 1) listed a w :=
  wpAnyU_first hi (Region.noSelect_spec hs) hQ his hwt fuel listed a w (Region.free_spec hi hf) (by simpa using hr) hns (.inl ⟨hw, hy⟩) hI h
theorem U_one {i fuel : Nat} {o : Oper} {listed : Array Bool} {a : Act} {w : World} (hr : Region.ready md ops listed = [i]) (ho : ops[i]? = some o)
    (h : ∀ K' : Act → World → Prop, Shut (∀ a w, ((i ≠ s ∧ listed.getD s true = false → S1 w) ∧ S2 w) → wpAnyU P md ops Q S1 S2 s fuel (listed.setIfInBounds i true) a w → K' a w) → if Region.wanted o (yielded ops a.tmps) = true then Oper.wp P o a w K' Q else K' (a.put o.dst undef) w) :
    wpAnyU P md ops Q S1 S2 s (fuel + 1) listed a w := by
  refine ⟨fun h0 => (by rw [hr] at h0; cases h0), fun j hj => ?_⟩
  rw [hr] at hj
  obtain rfl : j = i := by simpa using hj
  exact wpOp_step ho (fun K' hK => h K' (fun a w hS hW => hK a w ⟨hS, hW⟩))
theorem U_done {listed : Array Bool} {a : Act} {w : World} (hr : Region.ready md ops listed = []) (h : Q .normal a w) :
    ∀ fuel, wpAnyU P md ops Q S1 S2 s fuel listed a w
  | 0 => ⟨hr, h⟩
  | _ + 1 => ⟨fun _ => h, by rw [hr]; simp⟩
end
end Go.Proofs.Ytjokbffdepcpkaa
