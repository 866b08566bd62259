/-
  TopLaid: words turned: two appends of parts of a list of words.
-/
import Derived.Test.YtenpiinkbfancaaPb6
namespace Go.Proofs.Ytenpiinkbfancaa.Pa
open Go.RowKit
set_option linter.unusedSimpArgs false
set_option linter.unusedVariables false

/-- An own list of words. -/
def OwnW (base : Nat) (w : World) (u : Value) (xs : List Int) : Prop := w.ownsRow base 73 1 u xs.length (xs.map (Value.int .u16))
theorem OwnW.form {base : Nat} {w : World} {u : Value} {xs : List Int} (h : OwnW base w u xs) : ∃ A c, u = .slice A xs.length c := ownsRow_form h
theorem OwnW.lt {base : Nat} {w : World} {u : Value} {xs : List Int} (h : OwnW base w u xs) : ∀ j, u.ownBlock = some j → base ≤ j ∧ j < w.heap.size := World.ownsRow.lt h
theorem OwnW.fresh {base : Nat} {w : World} (hb : base ≤ w.heap.size) : OwnW base (w.alloc (.cells #[] 73)) (.slice (some ⟨w.heap.size, 0, none⟩) 0 0) [] :=
  ⟨rfl, .inr ⟨w.heap.size, 0, #[], rfl, hb, World.alloc_heap_new _ _, Nat.le_refl _, by unfold maxLen; omega, rfl, rfl⟩⟩
theorem info73 : (Try.prog.info? 73).map (fun i => (i.zero, i.size, i.bytes)) = some (some (.int .u16 0), 1, 2) := by kernel_rfl
theorem src_words {w : World} {A : Option Addr} {xs : List Int} (h : 0 < xs.length → ∃ b off, A = some ⟨b, off, none⟩ ∧ ∀ k, k < xs.length → w.cell? ⟨b, off + k, none⟩ = some (.int .u16 (ix xs k))) : Src w 1 A xs.length (xs.map (Value.int .u16)) := by
  refine ⟨by simp, fun hA => ?_, fun ad hA j u hu => ?_⟩
  · rcases Nat.eq_zero_or_pos xs.length with h0 | h0
    · exact h0
    · obtain ⟨b, off, h1, _⟩ := h h0
      rw [hA] at h1
      cases h1
  · have hj : j < xs.length := by
      rcases Nat.lt_or_ge j xs.length with h1 | h1
      · exact h1
      · rw [List.getElem?_eq_none (by simpa using h1)] at hu
        cases hu
    obtain ⟨b, off, h1, h2⟩ := h (by omega)
    rw [hA] at h1
    injection h1 with h1
    subst h1
    rw [add_eq, h2 j hj]
    rw [List.getElem?_map, List.getElem?_eq_getElem hj] at hu
    simp at hu
    rw [ix_lt hj, hu]
theorem ones_words (ys : List Int) : ∀ u ∈ ys.map (Value.int .u16), u.oneCell' = true := by
  intro u hu
  obtain ⟨y, -, rfl⟩ := List.mem_map.1 hu
  rfl
/-- An append of words, in a region whose order is drawn. -/
theorem step_appW {ops : Array Oper} {o : Oper} {a : Act} {K : Act → World → Prop} {Q : Exit → Act → World → Prop} {E : Prop} (s x : Operand) (hgd : o.guard = none) (ho : o.op = .call { callee := .builtin .append, args := #[s, x], argTypes := #[25, 25] }) (base : Nat) (w : World) (u : Value) (xs ys : List Int) (m n : Nat) (Ay : Option Addr) (cy : Nat)
    (hv : a.eval s = u) (hx : a.eval x = .slice Ay n cy) (hown : Hid (OwnW base w u xs)) (hm : Hid (xs.length = m)) (hn : Hid (ys.length = n)) (hs : Hid (Src w 1 Ay ys.length (ys.map (Value.int .u16)))) (hl : m + n ≤ 70368744177664) (hb : base ≤ w.heap.size)
    (h : ∀ A c w', Hid (OwnW base w' (.slice A (m + n) c) (xs ++ ys)) → Hid (Below base w w') → Hid (w.grownBy w' u.ownBlock) → K (a.put o.dst (.slice A (m + n) c)) w') :
    if Region.wanted o (yielded ops a.tmps) = true then Oper.wp Try.prog o a w K Q else E := by
  obtain rfl : xs.length = m := hm.out
  obtain rfl : ys.length = n := hn.out
  rw [if_pos (by simp [Region.wanted, hgd])]
  obtain ⟨i, hi, hi2⟩ : ∃ i, Try.prog.info? 73 = some i ∧ (i.zero, i.size, i.bytes) = (some (.int .u16 0), 1, 2) := by
    have := info73
    cases h : Try.prog.info? 73 with
    | none => rw [h] at this; cases this
    | some i => rw [h] at this; exact ⟨i, rfl, by simpa using this⟩
  simp only [Prod.mk.injEq] at hi2
  have hO : w.ownsRow base 73 1 u xs.length (xs.map (Value.int .u16)) := hown
  obtain ⟨v', w', hr, h1, h2, _⟩ := run_append_src (P := Try.prog) (w := w) base 25 o.type 73 i (.int .u16 0) 1 2 Try.underlying25 hi hi2.1 hi2.2.1 hi2.2.2 rfl (by decide) u xs.length (xs.map (Value.int .u16)) hO Ay ys.length cy (ys.map (Value.int .u16)) hs.out (ones_words ys) (by unfold maxLen; omega) (by omega) hb
  unfold Oper.wp execOp
  simp only [ho, resolve, invoke, builtin, Sem.run_bind, Sem.run_pure, Result.andThen_ok, List.map_toArray, List.map_cons, List.map_nil, hv, hx, hr]
  obtain ⟨A, c, rfl⟩ := ownsRow_form h1
  refine h A c w' ?_ ?_ h2
  · show OwnW _ _ _ _
    unfold OwnW
    simpa using h1
  · exact (Below.refl base w).grown h2 hb (fun k e => (hO.lt k e).1)
theorem OwnW.w16 {base : Nat} {w : World} {A : Option Addr} {n c : Nat} {xs : List Int} (h : OwnW base w (.slice A n c) xs) (hb : ∀ k, k < xs.length → 0 ≤ ix xs k ∧ ix xs k ≤ 65535) : n = xs.length ∧ (xs.length ≤ c ∧ c ≤ 9223372036854775807) ∧ W16 w.heap.size w A xs := by
  rcases h.2 with ⟨e1, h0⟩ | ⟨g, cap, cur, e1, hb', hg, hn, hm, hs, ht⟩
  · injection e1 with e1 e2 e3
    subst e1 e2 e3
    exact ⟨by omega, ⟨by omega, by omega⟩, fun hp => by omega⟩
  · injection e1 with e1 e2 e3
    subst e1 e2 e3
    refine ⟨rfl, ⟨hn, by unfold maxLen at hm; omega⟩, fun hp => ⟨g, 0, rfl, (Array.getElem?_eq_some_iff.1 hg).1, fun k hk => ⟨?_, hb k hk⟩⟩⟩
    have := World.ownsRow.cells h (g := g) rfl k (.int .u16 (ix xs k)) (by simp [hk, ix_lt hk])
    rw [add_eq] at this
    exact this
/-- The words from one on, and then those ahead of it. -/
def turnW (ws : List Int) (at_ : Nat) : List Int := ws.drop at_ ++ ws.take at_
theorem turnW_len (ws : List Int) {at_ : Nat} (h : at_ ≤ ws.length) : (turnW ws at_).length = ws.length := by simp [turnW]; omega
theorem ix_mem {xs : List Int} {P : Int → Prop} (h : ∀ x ∈ xs, P x) {k : Nat} (hk : k < xs.length) : P (ix xs k) := by
  rw [ix_lt hk]
  exact h _ (List.getElem_mem hk)
theorem turnW_bd {ws : List Int} (h : ∀ k, k < ws.length → 0 ≤ ix ws k ∧ ix ws k ≤ 65535) (at_ : Nat) : ∀ k, k < (turnW ws at_).length → 0 ≤ ix (turnW ws at_) k ∧ ix (turnW ws at_) k ≤ 65535 := fun k hk => by
  refine ix_mem (P := fun x => 0 ≤ x ∧ x ≤ 65535) (fun x hx => ?_) hk
  have hx2 : x ∈ ws := by
    rcases List.mem_append.1 hx with h1 | h1
    · exact List.mem_of_mem_drop h1
    · exact List.mem_of_mem_take h1
  obtain ⟨j, hj, rfl⟩ := List.getElem_of_mem hx2
  have := h j hj
  rwa [ix_lt hj] at this
theorem nonneg_all {xs : List Int} (h : ∀ k, k < xs.length → 0 ≤ ix xs k ∧ ix xs k ≤ 65535) : ∀ j, 0 ≤ ix xs j ∧ ix xs j ≤ 65535 := fun j => by
  rcases Nat.lt_or_ge j xs.length with h1 | h1
  · exact h j h1
  · simp only [ix]
    rw [List.getD_eq_getElem?_getD, List.getElem?_eq_none h1]
    simp
theorem src_drop {B : Nat} {w : World} {b off : Nat} {ws : List Int} (hc : ∀ k, k < ws.length → w.cell? ⟨b, off + k, none⟩ = some (.int .u16 (ix ws k))) (at_ : Nat) : Src w 1 (some ⟨b, off + at_, none⟩) (ws.drop at_).length ((ws.drop at_).map (Value.int .u16)) :=
  src_words fun _ => ⟨b, off + at_, rfl, fun k hk => by
    have hl : at_ + k < ws.length := by simp at hk; omega
    have := hc (at_ + k) hl
    rw [ix_lt hk, List.getElem_drop, ← ix_lt hl, Nat.add_assoc]
    exact this⟩
theorem src_take {B : Nat} {w : World} {b off : Nat} {ws : List Int} (hc : ∀ k, k < ws.length → w.cell? ⟨b, off + k, none⟩ = some (.int .u16 (ix ws k))) (at_ : Nat) : Src w 1 (some ⟨b, off, none⟩) (ws.take at_).length ((ws.take at_).map (Value.int .u16)) :=
  src_words fun _ => ⟨b, off, rfl, fun k hk => by
    have hl : k < ws.length := by simp at hk; omega
    have := hc k hl
    rw [ix_lt hk, List.getElem_take, ← ix_lt hl]
    exact this⟩
end Go.Proofs.Ytenpiinkbfancaa.Pa
