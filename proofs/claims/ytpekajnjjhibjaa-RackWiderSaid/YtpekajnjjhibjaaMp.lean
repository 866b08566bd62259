/-
  Maps from sets of pins to bools, from states to bools: what they tell; looked up, stored into.
-/
import Derived.Test.YtpekajnjjhibjaaD1
import Derived.Maps.OwnSet
import Derived.Maps.RangeWalk
import Derived.DeepKeys4
namespace Go.Proofs.Ytpekajnjjhibjaa
open Go.RowKit
set_option linter.unusedSimpArgs false
set_option linter.unusedVariables false

theorem laidOutH : laidOutB Try.prog = true := by kernel_rfl
theorem under4 : Try.prog.underlying 4 = some .bool := by kernel_rfl
theorem under100 : Try.prog.underlying 100 = some (.int .u16) := by kernel_rfl
theorem under113 : Try.prog.underlying 113 = some (.map 100 4) := by kernel_rfl
theorem under139 : Try.prog.underlying 139 = some (.map 142 4) := by kernel_rfl
theorem zero4 (w : World) : (zeroValue 4).run Try.prog w = .ok (.bool false) w := by kernel_rfl
theorem state_law : Maps.Keyed Try.prog 142 := Maps.Keyed.of_law (deep_law_laid laidOutH (m := 3) (by decide) (of_decide_eq_true (by kernel_rfl)) (by kernel_rfl) (by kernel_rfl))
theorem set_law : Maps.Keyed Try.prog 100 := Maps.int_keyed under100
theorem set_key {u : Nat} (hu : u < 65536) : keyOf Try.prog 100 (.int .u16 (u : Int)) = some (.int .u16 (u : Int)) := Maps.keyOf_int_mk under100 (by
  simp only [Lit.wf, show IntKind.u16.min = 0 by decide, show IntKind.u16.max = 65535 by decide, Bool.and_eq_true, decide_eq_true_eq]
  omega)
theorem plainElem_bool_inv {v : Value} {z : DataW Unit × List MemPlace} (h : plainElem Try.prog 4 v = some z) : ∃ x, v = .bool x ∧ z = (.lit (.bool x), []) := by
  unfold plainElem at h
  rw [under4] at h
  cases v <;> simp at h
  exact ⟨_, rfl, h.symm⟩
set_option maxRecDepth 100000 in
theorem state_keys : ∀ a : Fin 5, ∀ b : Fin 1024, (keyOf Try.prog 142 (.agg #[.int .i64 ((a : Nat) : Int), .int .u16 ((b : Nat) : Int)])).isSome = true := by decide +kernel
theorem state_key {k t : Nat} (hk : k ≤ 4) (ht : t < 2 ^ 10) : ∃ kl, keyOf Try.prog 142 (.agg #[.int .i64 (k : Int), .int .u16 (t : Int)]) = some kl :=
  Option.isSome_iff_exists.1 (state_keys ⟨k, by omega⟩ ⟨t, ht⟩)

/-- Block b is a map of at most n states that tells S. -/
def HSt (w : World) (b n : Nat) (S : Nat → Nat → Bool) : Prop :=
  ∃ D : DataW Unit, w.ownsMap Try.prog 142 (plainElem Try.prog 4) b n D ∧ ∀ (k t : Nat) (kl : Lit), keyOf Try.prog 142 (.agg #[.int .i64 (k : Int), .int .u16 (t : Int)]) = some kl → D.atKey kl (.lit (.bool false)) = .lit (.bool (S k t))
/-- Block b is a map of at most n sets that holds those of O. -/
def HSet (w : World) (b n : Nat) (O : Nat → Bool) : Prop :=
  ∃ D : DataW Unit, w.ownsMap Try.prog 100 (plainElem Try.prog 4) b n D ∧ (∀ u : Nat, u < 65536 → D.atKey (.int .u16 (u : Int)) (.lit (.bool false)) = .lit (.bool (O u))) ∧ ∀ u : Nat, u < 65536 → Maps.has D (.int .u16 (u : Int)) = O u
section
variable {w w' : World} {b n : Nat} {S : Nat → Nat → Bool} {O : Nat → Bool} {row : Option Nat}
theorem HSt.made (w : World) : HSt (w.alloc (.map #[] 0)) w.heap.size 0 (fun _ _ => false) := ⟨.map [], World.ownsMap_made _ _ _ _, fun k t kl _ => Maps.atKey_of_not_has (D := .map []) (k := kl) (by rfl) _⟩
theorem HSet.made (w : World) : HSet (w.alloc (.map #[] 0)) w.heap.size 0 (fun _ => false) := ⟨.map [], World.ownsMap_made _ _ _ _, fun u _ => Maps.atKey_of_not_has (D := .map []) (by rfl) _, fun u _ => rfl⟩
theorem HSt.kept (h : HSt w b n S) (hg : w.grownBy w' row) (hne : some b ≠ row) : HSt w' b n S := by
  obtain ⟨D, h1, h2⟩ := h
  exact ⟨D, h1.kept hg hne, h2⟩
theorem HSet.kept (h : HSet w b n O) (hg : w.grownBy w' row) (hne : some b ≠ row) : HSet w' b n O := by
  obtain ⟨D, h1, h2⟩ := h
  exact ⟨D, h1.kept hg hne, h2⟩
theorem HSt.lt (h : HSt w b n S) : b < w.heap.size := by
  obtain ⟨D, h1, _⟩ := h
  exact h1.lt
theorem HSet.lt (h : HSet w b n O) : b < w.heap.size := by
  obtain ⟨D, h1, _⟩ := h
  exact h1.lt
theorem HSt.step (h : HSt w b n S) (hb : Below w.heap.size w w') : HSt w' b n S := h.kept (only_below hb none) (by simp)
theorem HSet.step (h : HSet w b n O) (hb : Below w.heap.size w w') : HSet w' b n O := h.kept (only_below hb none) (by simp)
theorem HSt.look (h : HSt w b n S) {k t : Nat} (hk : k ≤ 4) (ht : t < 2 ^ 10) :
    (Instr.lookup 139 (.map (some b)) (.agg #[.int .i64 (k : Int), .int .u16 (t : Int)]) false).run Try.prog w = .ok (.bool (S k t)) w := by
  obtain ⟨D, h1, h2⟩ := h
  obtain ⟨kl, hkl⟩ := state_key hk ht
  obtain ⟨v, ps, hr, hv⟩ := World.ownsMap.lookup (w := w) h1 state_law under139 (zero4 _) (plainElem_bool under4 false) hkl
  obtain ⟨x, rfl, hx⟩ := plainElem_bool_inv hv
  rw [h2 k t kl hkl] at hx
  simp only [Prod.mk.injEq, DataW.lit.injEq, Lit.bool.injEq] at hx
  rw [hr, ← hx.1]
theorem HSet.look (h : HSet w b n O) {u : Nat} (hu : u < 65536) :
    (Instr.lookup 113 (.map (some b)) (.int .u16 (u : Int)) false).run Try.prog w = .ok (.bool (O u)) w := by
  obtain ⟨D, h1, h2, _⟩ := h
  obtain ⟨v, ps, hr, hv⟩ := World.ownsMap.lookup (w := w) h1 set_law under113 (zero4 _) (plainElem_bool under4 false) (set_key hu)
  obtain ⟨x, rfl, hx⟩ := plainElem_bool_inv hv
  rw [h2 u hu] at hx
  simp only [Prod.mk.injEq, DataW.lit.injEq, Lit.bool.injEq] at hx
  rw [hr, ← hx.1]
theorem HSt.put (h : HSt w b n S) (hn : n ≤ 1000000000000000) {k t : Nat} (hk : k ≤ 4) (ht : t < 2 ^ 10) :
    ∃ w', (Instr.mapUpdate 139 (.map (some b)) (.agg #[.int .i64 (k : Int), .int .u16 (t : Int)]) (.bool true)).run Try.prog w = .ok () w' ∧ HSt w' b (n + 1) (updS S k t) ∧ w.grownBy w' (some b) := by
  obtain ⟨D, h1, h2⟩ := h
  obtain ⟨kl, hkl⟩ := state_key hk ht
  have K := state_law
  obtain ⟨w', hr, hw, hg⟩ := h1.update K under139 (by unfold maxLen; omega) hkl (plainElem_bool under4 true)
  refine ⟨w', hr, ⟨_, hw, fun k' t' kl' hk' => ?_⟩, hg⟩
  by_cases e : kl' = kl
  · subst e
    have hv := K.inj hk' hkl
    simp only [Value.agg.injEq, Array.mk.injEq, List.cons.injEq, Value.int.injEq, and_true, true_and] at hv
    rw [Maps.atKey_put_same h1.isMap (K.key hkl), updS, if_pos (by omega)]
  · rw [Maps.atKey_put_other e, h2 k' t' kl' hk', updS, if_neg]
    rintro ⟨rfl, rfl⟩
    exact e (Option.some.inj (hk'.symm.trans hkl))
theorem HSet.put (h : HSet w b n O) (hn : n ≤ 1000000000000000) {u : Nat} (hu : u < 65536) :
    ∃ w', (Instr.mapUpdate 113 (.map (some b)) (.int .u16 (u : Int)) (.bool true)).run Try.prog w = .ok () w' ∧ HSet w' b (n + 1) (updO O u) ∧ w.grownBy w' (some b) := by
  obtain ⟨D, h1, h2, h3⟩ := h
  have K := set_law
  obtain ⟨w', hr, hw, hg⟩ := h1.update K under113 (by unfold maxLen; omega) (set_key hu) (plainElem_bool under4 true)
  refine ⟨w', hr, ⟨_, hw, fun u' hu' => ?_, fun u' hu' => ?_⟩, hg⟩
  · by_cases e : u' = u
    · subst e
      rw [Maps.atKey_put_same h1.isMap (K.key (set_key hu)), updO, if_pos rfl]
    · rw [Maps.atKey_put_other (fun h => e (by simp only [Lit.int.injEq, true_and] at h; omega)), h2 u' hu', updO, if_neg e]
  · by_cases e : u' = u
    · subst e
      rw [Maps.has_put_same h1.isMap (K.key (set_key hu)), updO, if_pos rfl]
    · rw [Maps.has_put_other (fun h => e (by simp only [Lit.int.injEq, true_and] at h; omega)), h3 u' hu', updO, if_neg e]
end
/-- A store, at a step of a region that draws its order. -/
theorem step_hset {ops : Array Oper} {o : Oper} {a : Act} {K : Act → World → Prop} {Q : Exit → Act → World → Prop} {E : Prop} (m x v : Operand) (hgd : o.guard = none) (hop : o.op = Op.mapUpdate 113 m x v)
    (w : World) (b n : Nat) (O : Nat → Bool) (u : Nat) (hm : a.eval m = .map (some b)) (hx : a.eval x = .int .u16 (u : Int)) (hv : a.eval v = .bool true) (h : HSet w b n O) (hn : n ≤ 1000000000000000) (hu : u < 65536)
    (hK : ∀ w', Hid (HSet w' b (n + 1) (updO O u)) → Hid (w.grownBy w' (some b)) → K (a.put o.dst undef) w') : if Region.wanted o (yielded ops a.tmps) = true then Oper.wp Try.prog o a w K Q else E := by
  rw [if_pos (by simp [Region.wanted, hgd])]
  obtain ⟨w', hr, h1, h2⟩ := h.put hn hu
  unfold Oper.wp
  simp [execOp, hop, hm, hx, hv, hr, Result.andThen]
  exact hK w' h1 h2
end Go.Proofs.Ytpekajnjjhibjaa
