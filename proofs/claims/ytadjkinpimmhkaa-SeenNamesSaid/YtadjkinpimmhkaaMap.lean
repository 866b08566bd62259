/-
  What is known of lists of tellers: a map from such lists (arrays of bools) to bools, each entry right.
-/
import Derived.Test.YtadjkinpimmhkaaFits
import Derived.Maps.OwnSet
import Derived.DeepKeys4
namespace Go.Proofs.Ytadjkinpimmhkaa
open Go.RowKit

theorem Try.laidOut : laidOutB Try.prog = true := by kernel_rfl
def someV (a b c d : Bool) : Value := .agg #[.bool a, .bool b, .bool c, .bool d]
theorem some_law : Maps.Keyed Try.prog 92 := Maps.Keyed.of_law (deep_law_laid Try.laidOut (m := 3) (by decide) (of_decide_eq_true (by kernel_rfl)) (by kernel_rfl) (by kernel_rfl))
theorem some_key (a b c d : Bool) : ∃ kl, keyOf Try.prog 92 (.agg #[.bool a, .bool b, .bool c, .bool d]) = some kl := by
  have h : ∀ v, (keyOf Try.prog 92 v).isSome = true → ∃ kl, keyOf Try.prog 92 v = some kl := fun v hv => Option.isSome_iff_exists.1 hv
  cases a <;> cases b <;> cases c <;> cases d <;> exact h _ (by kernel_rfl)
theorem under97 : Try.prog.underlying 97 = some (.map 92 4) := by kernel_rfl
theorem under4 : Try.prog.underlying 4 = some .bool := by kernel_rfl
theorem zero4 (w : World) : (zeroValue 4).run Try.prog w = .ok (.bool false) w := by kernel_rfl

theorem plainElem_bool_inv {v : Value} {z : DataW Unit × List MemPlace} (h : plainElem Try.prog 4 v = some z) : ∃ x, v = .bool x ∧ z = (.lit (.bool x), []) := by
  unfold plainElem at h
  rw [under4] at h
  cases v <;> simp at h
  exact ⟨_, rfl, h.symm⟩

/-- Block b is a map of at most n entries; each tells the truth. -/
def Known (w : World) (b n : Nat) (ex : (Nat → Bool) → Bool) : Prop :=
  ∃ D : DataW Unit, w.ownsMap Try.prog 92 (plainElem Try.prog 4) b n D ∧ ∀ (o : Nat → Bool) (kl : Lit), keyOf Try.prog 92 (.agg #[.bool (o 0), .bool (o 1), .bool (o 2), .bool (o 3)]) = some kl → Maps.has D kl = true → D.atKey kl (.lit (.bool false)) = .lit (.bool (ex o))

theorem Known.made (w : World) (ex : (Nat → Bool) → Bool) : Known (w.alloc (.map #[] 0)) w.heap.size 0 ex :=
  ⟨.map [], World.ownsMap_made _ _ _ _, fun o kl _ h => by cases h⟩
theorem Known.kept {w w' : World} {b n : Nat} {ex : (Nat → Bool) → Bool} {row : Option Nat} (h : Known w b n ex) (hg : w.grownBy w' row) (hne : some b ≠ row) : Known w' b n ex := by
  obtain ⟨D, h1, h2⟩ := h
  exact ⟨D, h1.kept hg hne, h2⟩
theorem Known.lt {w : World} {b n : Nat} {ex : (Nat → Bool) → Bool} (h : Known w b n ex) : b < w.heap.size := by
  obtain ⟨D, h1, _⟩ := h
  exact h1.lt
theorem Known.step {w w' : World} {b n : Nat} {ex : (Nat → Bool) → Bool} (h : Known w b n ex) (hb : Below w.heap.size w w') : Known w' b n ex := h.kept (only_below hb none) (by simp)
theorem Known.more {w : World} {b n n' : Nat} {ex : (Nat → Bool) → Bool} (h : Known w b n ex) (hn : n ≤ n') : Known w b n' ex := by
  obtain ⟨D, h1, h2⟩ := h
  exact ⟨D, h1.mono hn, h2⟩

/-- A look-up: nothing is there, or the truth. -/
theorem Known.look {w : World} {b n : Nat} {ex : (Nat → Bool) → Bool} (h : Known w b n ex) (o : Nat → Bool) :
    (∀ k, (Instr.lookup 97 (.map (some b)) (.agg #[.bool (o 0), .bool (o 1), .bool (o 2), .bool (o 3)]) true).run Try.prog (w.drewN k) = .ok (.tuple #[.bool (ex o), .bool true]) (w.drewN k)) ∨
    (∀ k, (Instr.lookup 97 (.map (some b)) (.agg #[.bool (o 0), .bool (o 1), .bool (o 2), .bool (o 3)]) true).run Try.prog (w.drewN k) = .ok (.tuple #[.bool false, .bool false]) (w.drewN k)) := by
  obtain ⟨D, h1, h2⟩ := h
  obtain ⟨kl, hk⟩ := some_key (o 0) (o 1) (o 2) (o 3)
  have run : ∀ k, ∃ v ps, (Instr.lookup 97 (.map (some b)) (.agg #[.bool (o 0), .bool (o 1), .bool (o 2), .bool (o 3)]) true).run Try.prog (w.drewN k) = .ok (.tuple #[v, .bool (Maps.has D kl)]) (w.drewN k) ∧ plainElem Try.prog 4 v = some (D.atKey kl (.lit (.bool false)), ps) := fun k =>
    World.ownsMap.look_ok (w := w.drewN k) (by exact h1) some_law under97 (zero4 _) (plainElem_bool under4 false) hk
  cases hh : Maps.has D kl
  · refine .inr fun k => ?_
    obtain ⟨v, ps, hr, hv⟩ := run k
    obtain ⟨x, rfl, hx⟩ := plainElem_bool_inv hv
    rw [Maps.atKey_of_not_has hh] at hx
    simp only [Prod.mk.injEq, DataW.lit.injEq, Lit.bool.injEq] at hx
    rw [hr, hh, ← hx.1]
  · refine .inl fun k => ?_
    obtain ⟨v, ps, hr, hv⟩ := run k
    obtain ⟨x, rfl, hx⟩ := plainElem_bool_inv hv
    rw [h2 o kl hk hh] at hx
    simp only [Prod.mk.injEq, DataW.lit.injEq, Lit.bool.injEq] at hx
    rw [hr, hh, ← hx.1]

/-- A store of the truth, at the operation. -/
theorem wpList_known (w : World) {ops : Array Oper} {rest : List Oper} {op : Oper} {a : Act} {Q : Exit → Act → World → Prop}
    (hg : op.guard = none) (m x v : Operand) (hop : op.op = Op.mapUpdate 97 m x v) (b n : Nat) (ex : (Nat → Bool) → Bool) (o : Nat → Bool)
    (hm : a.eval m = .map (some b)) (h : Known w b n ex) (hn : n ≤ 1000000) (hx : a.eval x = .agg #[.bool (o 0), .bool (o 1), .bool (o 2), .bool (o 3)]) (hv : a.eval v = .bool (ex o))
    (hex : ∀ o', (o' 0 = o 0 ∧ o' 1 = o 1 ∧ o' 2 = o 2 ∧ o' 3 = o 3) → ex o' = ex o)
    (hK : ∀ w', Known w' b (n + 1) ex → w.grownBy w' (some b) → wpList Try.prog ops Q rest (a.put op.dst undef) w') :
    wpList Try.prog ops Q (op :: rest) a w := by
  obtain ⟨D, h1, h2⟩ := h
  obtain ⟨kl, hk⟩ := some_key (o 0) (o 1) (o 2) (o 3)
  have K := some_law
  refine wpList_mapUpdate_own w hg m x v 97 hop 92 4 some_law under97 (plainElem Try.prog 4) b n D hm h1 (by unfold maxLen; omega) _ _ kl hx hv hk (.lit (.bool (ex o))) [] (plainElem_bool under4 _) fun w' hw hgr => hK w' ⟨_, hw, fun o' kl' hk' hh => ?_⟩ hgr
  by_cases e : kl' = kl
  · subst e
    have hv := K.inj hk' hk
    simp only [Value.agg.injEq, Array.mk.injEq, List.cons.injEq, Value.bool.injEq, and_true] at hv
    rw [Maps.atKey_put_same h1.isMap (K.key hk), hex o' hv]
  · rw [Maps.has_put_other e] at hh
    rw [Maps.atKey_put_other e]
    exact h2 o' kl' hk' hh
end Go.Proofs.Ytadjkinpimmhkaa
