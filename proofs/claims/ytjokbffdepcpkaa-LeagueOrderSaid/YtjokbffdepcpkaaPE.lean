/-
  Pairs of teams that have met, in a map; rows of bools; a whole array stored. Is a schedule right? And how its lanes are used. How uneven a schedule is; is it right, and even enough? The league of the chapter; what the chapter shows.
-/
import Derived.Test.YtjokbffdepcpkaaPD
import Derived.Maps.OwnSet
import Derived.DeepKeys4
import Derived.Laws.Tables
import Derived.Test.YtjokbffdepcpkaaPC
namespace Go.Proofs.Ytjokbffdepcpkaa
section

open Go.RowKit
set_option linter.unusedSimpArgs false
set_option linter.unusedVariables false

attribute [local go_sem] Oper.semAt_some
def BAt (t : TypeId) (w : World) (g : Nat) (D : Nat → Bool) (m : Nat) : Prop := w.heap[g]? = some (.cells (dnB D m).toArray t)
theorem BAt.lt {t : TypeId} {w : World} {g m : Nat} {D : Nat → Bool} (h : BAt t w g D m) : g < w.heap.size := (Array.getElem?_eq_some_iff.1 h).1
theorem BAt.step {t : TypeId} {w w' : World} {g m : Nat} {D : Nat → Bool} (h : BAt t w g D m) (hb : Below w.heap.size w w') : BAt t w' g D m := (hb.block g h.lt).trans h
theorem BAt.cell {t : TypeId} {w : World} {g m : Nat} {D : Nat → Bool} (h : BAt t w g D m) {p : Nat} (hp : p < m) : w.cell? ⟨g, p, none⟩ = some (.bool (D p)) ∧ w.frozen? ⟨g, p, none⟩ = false := by
  unfold BAt at h
  refine ⟨?_, by simp [World.frozen?, h]⟩
  simp [World.cell?, h, dnB, hp]
theorem BAt.set {t : TypeId} {w : World} {g m : Nat} {D : Nat → Bool} (h : BAt t w g D m) (p : Nat) (b : Bool) : BAt t (w.setCell ⟨g, p, none⟩ (.bool b)) g (updB D p b) m := by
  have e : ((dnB D m).toArray.setIfInBounds p (.bool b)) = (dnB (updB D p b) m).toArray := by
    refine Array.ext (by simp [dnB]) fun i h1 h2 => ?_
    simp only [Array.getElem_setIfInBounds, List.getElem_toArray]
    by_cases e : p = i
    · subst e; simp [dnB, updB]
    · simp [dnB, updB, e, Ne.symm e]
  unfold BAt at h ⊢
  rw [← e]
  simp [World.setCell, Array.getElem?_modify, h]
theorem BAt.setFar {t : TypeId} {w : World} {b h : Nat} {f : Nat → Bool} (s : BAt t w b f h) {p : Addr} (hp : p.block ≠ b) (v : Value) : BAt t (w.setCell p v) b f h := (Below.heap_setCell w p v b (fun e => hp e.symm)).trans s
theorem BAt.grown {t : TypeId} {w w' : World} {b h g : Nat} {f : Nat → Bool} (s : BAt t w b f h) (hg : w.grownBy w' (some g)) (hne : b ≠ g) : BAt t w' b f h := (hg.block b s.lt (fun e => hne (by injection e))).trans s
theorem laidOutP : laidOutB Try.prog = true := by kernel_rfl
theorem under4 : Try.prog.underlying 4 = some .bool := by kernel_rfl
theorem under136 : Try.prog.underlying 136 = some (.map 140 4) := by kernel_rfl
theorem zero4 (w : World) : (zeroValue 4).run Try.prog w = .ok (.bool false) w := by kernel_rfl
theorem pair_law : Maps.Keyed Try.prog 140 := Maps.Keyed.of_law (deep_law_laid laidOutP (m := 3) (by decide) (of_decide_eq_true (by kernel_rfl)) (by kernel_rfl) (by kernel_rfl))
theorem plainElem_bool_inv {v : Value} {z : DataW Unit × List MemPlace} (h : plainElem Try.prog 4 v = some z) : ∃ x, v = .bool x ∧ z = (.lit (.bool x), []) := by
  unfold plainElem at h
  rw [under4] at h
  cases v <;> simp at h
  exact ⟨_, rfl, h.symm⟩
set_option maxRecDepth 100000 in
theorem pair_keys : ∀ a b : Fin 6, (keyOf Try.prog 140 (.agg #[.int .i64 ((a : Nat) : Int), .int .i64 ((b : Nat) : Int)])).isSome = true := by decide +kernel
theorem pair_key {a b : Nat} (ha : a < 6) (hb : b < 6) : ∃ kl, keyOf Try.prog 140 (.agg #[.int .i64 (a : Int), .int .i64 (b : Int)]) = some kl :=
  Option.isSome_iff_exists.1 (pair_keys ⟨a, ha⟩ ⟨b, hb⟩)
/-- Block b is a map of just those pairs. -/
def HMet (w : World) (b : Nat) (met : List (Int × Int)) : Prop :=
  ∃ D : DataW Unit, w.ownsMap Try.prog 140 (plainElem Try.prog 4) b met.length D ∧ (∀ (x y : Int) (kl : Lit), keyOf Try.prog 140 (.agg #[.int .i64 x, .int .i64 y]) = some kl → D.atKey kl (.lit (.bool false)) = .lit (.bool (met.contains (x, y))) ∧ Maps.has D kl = met.contains (x, y)) ∧ Maps.size D = met.length
section
variable {w w' : World} {b : Nat} {met : List (Int × Int)} {row : Option Nat}
theorem HMet.made (w : World) : HMet (w.alloc (.map #[] 0)) w.heap.size [] := ⟨.map [], World.ownsMap_made _ _ _ _, fun x y kl _ => ⟨Maps.atKey_of_not_has (D := .map []) (k := kl) (by rfl) _, rfl⟩, rfl⟩
theorem HMet.kept (h : HMet w b met) (hg : w.grownBy w' row) (hne : some b ≠ row) : HMet w' b met := by
  obtain ⟨D, h1, h2⟩ := h
  exact ⟨D, h1.kept hg hne, h2⟩
theorem HMet.lt (h : HMet w b met) : b < w.heap.size := by
  obtain ⟨D, h1, _⟩ := h
  exact h1.lt
theorem HMet.step (h : HMet w b met) (hb : Below w.heap.size w w') : HMet w' b met := h.kept (only_below hb none) (by simp)
theorem HMet.setCell (h : HMet w b met) {p : Addr} (hp : p.block ≠ b) (v : Value) : HMet (w.setCell p v) b met := h.kept (row := some p.block) (only_setCell (World.grownBy.refl _ _) (.inl rfl) v) (fun e => hp (by injection e with e; exact e.symm))
theorem HMet.look (h : HMet w b met) {x y : Nat} (hx : x < 6) (hy : y < 6) :
    (Instr.lookup 136 (.map (some b)) (.agg #[.int .i64 (x : Int), .int .i64 (y : Int)]) false).run Try.prog w = .ok (.bool (met.contains ((x : Int), (y : Int)))) w := by
  obtain ⟨D, h1, h2, _⟩ := h
  obtain ⟨kl, hkl⟩ := pair_key hx hy
  obtain ⟨v, ps, hr, hv⟩ := World.ownsMap.lookup (w := w) h1 pair_law under136 (zero4 _) (plainElem_bool under4 false) hkl
  obtain ⟨z, rfl, hz⟩ := plainElem_bool_inv hv
  rw [(h2 x y kl hkl).1] at hz
  simp only [Prod.mk.injEq, DataW.lit.injEq, Lit.bool.injEq] at hz
  rw [hr, ← hz.1]
theorem HMet.put (h : HMet w b met) (hn : met.length ≤ 1000) {x y : Nat} (hx : x < 6) (hy : y < 6) (hno : met.contains ((x : Int), (y : Int)) = false) :
    ∃ w', (Instr.mapUpdate 136 (.map (some b)) (.agg #[.int .i64 (x : Int), .int .i64 (y : Int)]) (.bool true)).run Try.prog w = .ok () w' ∧ HMet w' b (met ++ [((x : Int), (y : Int))]) ∧ w.grownBy w' (some b) := by
  obtain ⟨D, h1, h2, h3⟩ := h
  obtain ⟨kl, hkl⟩ := pair_key hx hy
  have K := pair_law
  obtain ⟨w', hr, hw, hg⟩ := h1.update K under136 (by unfold maxLen; omega) hkl (plainElem_bool under4 true)
  refine ⟨w', hr, ⟨_, by rw [List.length_append]; exact hw, fun x' y' kl' hk' => ?_, ?_⟩, hg⟩
  · by_cases e : kl' = kl
    · subst e
      have hv := K.inj hk' hkl
      simp only [Value.agg.injEq, Array.mk.injEq, List.cons.injEq, Value.int.injEq, and_true, true_and] at hv
      obtain ⟨rfl, rfl⟩ := hv
      rw [Maps.atKey_put_same h1.isMap (K.key hkl), Maps.has_put_same h1.isMap (K.key hkl)]
      simp
    · rw [Maps.atKey_put_other e, Maps.has_put_other e, (h2 x' y' kl' hk').1, (h2 x' y' kl' hk').2]
      have hne : ¬ ((x', y') = ((x : Int), (y : Int))) := fun e2 => by
        injection e2 with e3 e4
        subst e3 e4
        exact e (Option.some.inj (hk'.symm.trans hkl))
      have : (met ++ [((x : Int), (y : Int))]).contains (x', y') = met.contains (x', y') := by
        simp only [List.contains_eq_mem, List.mem_append, List.mem_singleton, hne, or_false]
      rw [this]
      exact ⟨rfl, rfl⟩
  · rw [Maps.size_put (h1.tidy K), (h2 x y kl hkl).2, hno, h3]
    simp
theorem HMet.len (h : HMet w b met) (ty : TypeId) : (Builtin.len_ #[136] ty #[.map (some b)]).run Try.prog w = .ok (.int .i64 met.length) w := by
  obtain ⟨D, h1, _, h3⟩ := h
  rw [h1.len under136 ty, h3]
end
theorem cell_grow {w w' : World} {g : Nat} {p : Addr} {v : Value} (hg : w.grownBy w' (some g)) (h : w.cell? p = some v) (hp : p.block ≠ g) : w'.cell? p = some v := by
  have e := hg.block p.block (World.block_lt_of_cell? w p h) (fun e => hp (by injection e))
  unfold World.cell? at h ⊢
  rw [e]
  exact h
/-- A store into it, at a step of a region that draws its order. -/
theorem step_hmet {ops : Array Oper} {o : Oper} {a : Act} {K : Act → World → Prop} {Q : Exit → Act → World → Prop} {E : Prop} (m x v : Operand) (hgd : o.guard = none) (hop : o.op = Op.mapUpdate 136 m x v)
    (w : World) (b : Nat) (met : List (Int × Int)) (p q : Nat) (hm : a.eval m = .map (some b)) (hx : a.eval x = .agg #[.int .i64 (p : Int), .int .i64 (q : Int)]) (hv : a.eval v = .bool true) (h : HMet w b met) (hn : met.length ≤ 1000) (hp : p < 6) (hq : q < 6) (hno : met.contains ((p : Int), (q : Int)) = false)
    (hK : ∀ w', Hid (HMet w' b (met ++ [((p : Int), (q : Int))])) → Hid (w.grownBy w' (some b)) → K (a.put o.dst undef) w') : if Region.wanted o (yielded ops a.tmps) = true then Oper.wp Try.prog o a w K Q else E := by
  rw [if_pos (by simp [Region.wanted, hgd])]
  obtain ⟨w', hr, h1, h2⟩ := h.put hn hp hq hno
  unfold Oper.wp
  simp [execOp, hop, hm, hx, hv, hr, Result.andThen]
  exact hK w' h1 h2
theorem exec_len136 {W : World} {b : Nat} {met : List (Int × Int)} (h : HMet W b met) {a : Act} {o : Oper} (x : Operand) (ho : o.op = .call { callee := .builtin .len, args := #[x], argTypes := #[136] }) (hx : a.eval x = .map (some b)) : (execOp a.eval o).run Try.prog W = .ok (.value (.int .i64 met.length)) W := by
  unfold execOp
  simp only [ho, resolve, invoke, builtin, Sem.run_bind, Sem.run_pure, Result.andThen_ok, List.map_toArray, List.map_cons, List.map_nil, hx, h.len]
theorem below_setRow {B g : Nat} {a w : World} {cs : Array Value} (h : Below B a w) (hg : B ≤ g) : Below B a (w.setRow g cs) :=
  ⟨h.os, h.tape, h.output, by simpa using h.size, fun k hk => (setRow_other w g k cs (by omega)).trans (h.block k hk)⟩
theorem UAt.setRow {W : World} {b : Nat} {E D : Nat → Int} (h : UAt W b E) : UAt (W.setRow b #[.int .i64 (D 0), .int .i64 (D 1), .int .i64 (D 2), .int .i64 (D 3), .int .i64 (D 4), .int .i64 (D 5), .int .i64 (D 6), .int .i64 (D 7), .int .i64 (D 8), .int .i64 (D 9), .int .i64 (D 10), .int .i64 (D 11), .int .i64 (D 12), .int .i64 (D 13), .int .i64 (D 14), .int .i64 (D 15), .int .i64 (D 16), .int .i64 (D 17)]) b D := setRow_heap W b _ _ 110 _ h
theorem one18 (D : Nat → Int) : (#[.int .i64 (D 0), .int .i64 (D 1), .int .i64 (D 2), .int .i64 (D 3), .int .i64 (D 4), .int .i64 (D 5), .int .i64 (D 6), .int .i64 (D 7), .int .i64 (D 8), .int .i64 (D 9), .int .i64 (D 10), .int .i64 (D 11), .int .i64 (D 12), .int .i64 (D 13), .int .i64 (D 14), .int .i64 (D 15), .int .i64 (D 16), .int .i64 (D 17)] : Array Value).all (·.oneCell') = true := by simp [Value.oneCell']
/-- The whole array is stored. -/
theorem wp_store110 {W : World} {b : Nat} {E D : Nat → Int} (h : UAt W b E) {a : Act} {o : Oper} {K : Act → World → Prop} {Q : Exit → Act → World → Prop} (x y : Operand) (ho : o.op = .store 110 x y) (hx : a.eval x = .pointer (some ⟨b, 0, none⟩)) (hy : a.eval y = .agg #[.int .i64 (D 0), .int .i64 (D 1), .int .i64 (D 2), .int .i64 (D 3), .int .i64 (D 4), .int .i64 (D 5), .int .i64 (D 6), .int .i64 (D 7), .int .i64 (D 8), .int .i64 (D 9), .int .i64 (D 10), .int .i64 (D 11), .int .i64 (D 12), .int .i64 (D 13), .int .i64 (D 14), .int .i64 (D 15), .int .i64 (D 16), .int .i64 (D 17)]) (hk : K (a.put o.dst undef) (W.setRow b #[.int .i64 (D 0), .int .i64 (D 1), .int .i64 (D 2), .int .i64 (D 3), .int .i64 (D 4), .int .i64 (D 5), .int .i64 (D 6), .int .i64 (D 7), .int .i64 (D 8), .int .i64 (D 9), .int .i64 (D 10), .int .i64 (D 11), .int .i64 (D 12), .int .i64 (D 13), .int .i64 (D 14), .int .i64 (D 15), .int .i64 (D 16), .int .i64 (D 17)])) : o.wp Try.prog a W K Q :=
  wp_store_row 110 x y ho b #[.int .i64 (D 0), .int .i64 (D 1), .int .i64 (D 2), .int .i64 (D 3), .int .i64 (D 4), .int .i64 (D 5), .int .i64 (D 6), .int .i64 (D 7), .int .i64 (D 8), .int .i64 (D 9), .int .i64 (D 10), .int .i64 (D 11), .int .i64 (D 12), .int .i64 (D 13), .int .i64 (D 14), .int .i64 (D 15), .int .i64 (D 16), .int .i64 (D 17)] hx hy 110 _ h size110 rfl (one18 D) hk
theorem wpList_store110 {W : World} {b : Nat} {E : Nat → Int} (D : Nat → Int) (h : Hid (UAt W b E)) {ops : Array Oper} {rest : List Oper} {o : Oper} {a : Act} {Q : Exit → Act → World → Prop} (hgd : o.guard = none) (x y : Operand) (ho : o.op = .store 110 x y) (hx : a.eval x = .pointer (some ⟨b, 0, none⟩)) (hy : a.eval y = .agg #[.int .i64 (D 0), .int .i64 (D 1), .int .i64 (D 2), .int .i64 (D 3), .int .i64 (D 4), .int .i64 (D 5), .int .i64 (D 6), .int .i64 (D 7), .int .i64 (D 8), .int .i64 (D 9), .int .i64 (D 10), .int .i64 (D 11), .int .i64 (D 12), .int .i64 (D 13), .int .i64 (D 14), .int .i64 (D 15), .int .i64 (D 16), .int .i64 (D 17)]) (hk : wpList Try.prog ops Q rest (a.put o.dst undef) (W.setRow b #[.int .i64 (D 0), .int .i64 (D 1), .int .i64 (D 2), .int .i64 (D 3), .int .i64 (D 4), .int .i64 (D 5), .int .i64 (D 6), .int .i64 (D 7), .int .i64 (D 8), .int .i64 (D 9), .int .i64 (D 10), .int .i64 (D 11), .int .i64 (D 12), .int .i64 (D 13), .int .i64 (D 14), .int .i64 (D 15), .int .i64 (D 16), .int .i64 (D 17)])) : wpList Try.prog ops Q (o :: rest) a W :=
  wpList_store_row hgd 110 x y ho b #[.int .i64 (D 0), .int .i64 (D 1), .int .i64 (D 2), .int .i64 (D 3), .int .i64 (D 4), .int .i64 (D 5), .int .i64 (D 6), .int .i64 (D 7), .int .i64 (D 8), .int .i64 (D 9), .int .i64 (D 10), .int .i64 (D 11), .int .i64 (D 12), .int .i64 (D 13), .int .i64 (D 14), .int .i64 (D 15), .int .i64 (D 16), .int .i64 (D 17)] hx hy 110 _ h.out size110 rfl (one18 D) hk
theorem grown_setRow (W : World) (g : Nat) (cs : Array Value) : W.grownBy (W.setRow g cs) (some g) := ⟨rfl, rfl, rfl, by simp, fun i _ hne => setRow_other W g i cs (fun e => hne (by rw [e]))⟩
theorem results_cell110 {fn : Func} {p q : Tmp} {D : Nat → Int} (h : fn.results = #[.cell p 110, .tmp q]) (tmps : Array Value) (w : World) (g : Nat) (hp : tmps.getD p undef = .pointer (some ⟨g, 0, none⟩)) (hg : UAt w g D) :
    (results fn tmps).run Try.prog w = .ok (.tuple #[.agg #[.int .i64 (D 0), .int .i64 (D 1), .int .i64 (D 2), .int .i64 (D 3), .int .i64 (D 4), .int .i64 (D 5), .int .i64 (D 6), .int .i64 (D 7), .int .i64 (D 8), .int .i64 (D 9), .int .i64 (D 10), .int .i64 (D 11), .int .i64 (D 12), .int .i64 (D 13), .int .i64 (D 14), .int .i64 (D 15), .int .i64 (D 16), .int .i64 (D 17)], tmps.getD q undef]) w := by
  have hp' : tmps[p]?.getD undef = .pointer (some ⟨g, 0, none⟩) := by simpa using hp
  simp [results, h, hp', asAddr, run_loadVar_row w g 110 110 _ _ _ hg under110 rfl size110]
end

section

open Go.RowKit
set_option linter.unusedSimpArgs false
set_option linter.unusedVariables false

attribute [local go_sem] Oper.semAt_some
/-- A schedule of small numbers. -/
structure SmallS (s : List (List Mt)) : Prop where
  len : s.length ≤ 8
  row : ∀ r, r < s.length → (rowx s r).length ≤ 8
  m : ∀ r, r < s.length → ∀ j, j < (rowx s r).length → 0 ≤ (mtx (rowx s r) j).a ∧ (mtx (rowx s r) j).a < (mtx (rowx s r) j).b ∧ (mtx (rowx s r) j).b ≤ 5 ∧ 0 ≤ (mtx (rowx s r) j).l ∧ (mtx (rowx s r) j).l ≤ 2
/-- What right has found ahead of match j of round r. -/
structure RtI (w W : World) (bb n : Nat) (s : List (List Mt)) (tgt : Option Rs3) (r j : Nat) (busy taken : Nat → Bool) (st : Rs3) : Prop where
  us : UAt W w.heap.size st.D
  mt : HMet W (w.heap.size + 1) st.met
  bs : BAt 137 W bb busy 6
  tn : BAt 138 W (bb + 1) taken 3
  low : Below w.heap.size w W
  eq : (roundF n ((rowx s r).drop j) busy taken st).bind (allF n (s.drop (r + 1))) = tgt
  nn : tgt = none → r = 0 ∧ j = 0
  rg : ∀ x, 0 ≤ st.D x ∧ st.D x ≤ 2 * (st.met.length : Int)
  ml : st.met.length ≤ 8 * r + j
  hb : w.heap.size + 2 ≤ bb
structure RtO (w W : World) (n : Nat) (s : List (List Mt)) (tgt : Option Rs3) (r : Nat) (st : Rs3) : Prop where
  us : UAt W w.heap.size st.D
  mt : HMet W (w.heap.size + 1) st.met
  low : Below w.heap.size w W
  eq : allF n (s.drop r) st = tgt
  nn : tgt = none → r = 0
  rg : ∀ x, 0 ≤ st.D x ∧ st.D x ≤ 2 * (st.met.length : Int)
  ml : st.met.length ≤ 8 * r
theorem drop_row {s : List (List Mt)} {r : Nat} (h : r < s.length) : s.drop r = rowx s r :: s.drop (r + 1) := by rw [List.drop_eq_getElem_cons h, rowx_lt h]
theorem drop_mt {x : List Mt} {j : Nat} (h : j < x.length) : x.drop j = mtx x j :: x.drop (j + 1) := by rw [List.drop_eq_getElem_cons h, mtx_lt h]
/-- What right answers. -/
def RightP (n : Nat) (s : List (List Mt)) (w : World) (e : Ending) (w' : World) : Prop := ∃ D : Nat → Int, D = usesS n s ∧ e = .returned (.tuple #[.agg #[.int .i64 (D 0), .int .i64 (D 1), .int .i64 (D 2), .int .i64 (D 3), .int .i64 (D 4), .int .i64 (D 5), .int .i64 (D 6), .int .i64 (D 7), .int .i64 (D 8), .int .i64 (D 9), .int .i64 (D 10), .int .i64 (D 11), .int .i64 (D 12), .int .i64 (D 13), .int .i64 (D 14), .int .i64 (D 15), .int .i64 (D 16), .int .i64 (D 17)], .bool (rightS n s)]) ∧ Below w.heap.size w w' ∧ ∀ x, 0 ≤ D x ∧ D x ≤ 1000
theorem RtO.first {w W : World} {n : Nat} {s : List (List Mt)} {tgt : Option Rs3} {r : Nat} {st : Rs3} (h : RtO w W n s tgt r st) (hr : r < s.length) {o1 o2 : Obj} (h1 : o1 = .cells (dnB (fun _ => false) 6).toArray 137) (h2 : o2 = .cells (dnB (fun _ => false) 3).toArray 138) : RtI w ((W.alloc o1).alloc o2) W.heap.size n s tgt r 0 (fun _ => false) (fun _ => false) st := by
  subst h1 h2
  have hb : Below W.heap.size W ((W.alloc (.cells (dnB (fun _ => false) 6).toArray 137)).alloc (.cells (dnB (fun _ => false) 3).toArray 138)) := ((Below.refl _ _).alloc (Nat.le_refl _) _).alloc (by simp) _
  refine ⟨h.us.step hb, h.mt.step hb, (heap_alloc_old _ _ (by simp)).trans (World.alloc_heap_new _ _), ?_, h.low.trans (hb.mono h.low.size), ?_, fun e => ⟨h.nn e, rfl⟩, h.rg, by have := h.ml; omega, ?_⟩
  · have := World.alloc_heap_new (W.alloc (.cells (dnB (fun _ => false) 6).toArray 137)) (.cells (dnB (fun _ => false) 3).toArray 138)
    rwa [World.size_alloc] at this
  · rw [← h.eq, drop_row hr]
    rfl
  · have := h.mt.lt; omega
set_option maxRecDepth 100000 in
set_option maxHeartbeats 8000000 in
theorem right66_c (n : Nat) (hn : 2 ≤ n ∧ n ≤ 6) (s : List (List Mt)) (A : Option Addr) (c : Nat) (w : World) (hs : Grm w.heap.size w A s) (hc : s.length ≤ c ∧ c ≤ 9223372036854775807) (hsm : SmallS s) (hbad : allF n s st0 = none → 0 < s.length ∧ 0 < (rowx s 0).length ∧ (n : Int) ≤ (mtx (rowx s 0) 0).b) :
    Calls Try.prog 66 #[.int .i64 (n : Int), .slice A s.length c] w (RightP n s w) := by
  have HG := Lib.hid hs
  have HSM := Lib.hid hsm
  have HBAD := Lib.hid hbad
  have HHL := Lib.hid (fun W => halls99_c n W hn)
  have HCN := Lib.hid (fun W => count96_c n W hn)
  obtain ⟨tgt, htg⟩ : ∃ t, allF n s st0 = t := ⟨_, rfl⟩
  have h0 : RtO w ((w.alloc (.cells #[.int .i64 0, .int .i64 0, .int .i64 0, .int .i64 0, .int .i64 0, .int .i64 0, .int .i64 0, .int .i64 0, .int .i64 0, .int .i64 0, .int .i64 0, .int .i64 0, .int .i64 0, .int .i64 0, .int .i64 0, .int .i64 0, .int .i64 0, .int .i64 0] 110)).alloc (.map #[] 0)) n s tgt 0 st0 := by
    have hb : Below w.heap.size w ((w.alloc (.cells #[.int .i64 0, .int .i64 0, .int .i64 0, .int .i64 0, .int .i64 0, .int .i64 0, .int .i64 0, .int .i64 0, .int .i64 0, .int .i64 0, .int .i64 0, .int .i64 0, .int .i64 0, .int .i64 0, .int .i64 0, .int .i64 0, .int .i64 0, .int .i64 0] 110)).alloc (.map #[] 0)) := ((Below.refl _ _).alloc (Nat.le_refl _) _).alloc (by simp) _
    refine ⟨(heap_alloc_old _ _ (by simp)).trans (World.alloc_heap_new _ _), ?_, hb, htg, fun _ => rfl, fun x => by simp [st0], Nat.zero_le _⟩
    have := HMet.made (w.alloc (.cells #[.int .i64 0, .int .i64 0, .int .i64 0, .int .i64 0, .int .i64 0, .int .i64 0, .int .i64 0, .int .i64 0, .int .i64 0, .int .i64 0, .int .i64 0, .int .i64 0, .int .i64 0, .int .i64 0, .int .i64 0, .int .i64 0, .int .i64 0, .int .i64 0] 110))
    rwa [World.size_alloc] at this
  have H0 := Lib.hid h0
  have HTG := Lib.hid htg
  rw [htg] at HBAD
  have hmm := @run_makeMap Try.prog
  clear hs hsm hbad h0 htg
  go_enter Try.func66, Try.ntmps66
  go_wp2_with fail
  generalize ((w.alloc (.cells #[.int .i64 0, .int .i64 0, .int .i64 0, .int .i64 0, .int .i64 0, .int .i64 0, .int .i64 0, .int .i64 0, .int .i64 0, .int .i64 0, .int .i64 0, .int .i64 0, .int .i64 0, .int .i64 0, .int .i64 0, .int .i64 0, .int .i64 0, .int .i64 0] 110)).alloc (.map #[] 0)) = x0 at *
  go_loopw [17] (fun i wr => ∃ (r : Nat) (st : Rs3), r ≤ s.length ∧ i = .int .i64 r ∧ RtO w wr n s tgt r st) (fun i _ => s.length - (intOf i).toNat)
  case atStart => exact ⟨0, st0, Nat.zero_le _, rfl, H0.out⟩
  case round =>
    clear H0
    obtain ⟨r, st, hr, rfl, ho⟩ := hrel
    by_cases h1 : r < s.length
    · have h1i : (r : Int) < (s.length : Int) := by omega
      have hwr : IntKind.i64.wrap ((r : Int) + 1) = (r : Int) + 1 := IntWalk.i64_in _ (by have := HSM.out.len; omega)
      obtain ⟨b, off, A', c', rfl, hb0, d0, hc1, hc2, hm⟩ := HG.out.at_ h1
      replace d0 := (ho.low.cell (p := ⟨b, off + r, none⟩) hb0).trans d0
      have HM := Lib.hid hm
      have HI0 := Lib.hid (ho.first h1 rfl rfl)
      have hrow := HSM.out.row r h1
      have hhb : Hid (w.heap.size + 2 ≤ wr.heap.size) := HI0.out.hb
      clear hm ho
      go_wp2_with fail
      have HB6 : Hid ((Obj.cells #[.bool false, .bool false, .bool false, .bool false, .bool false, .bool false] 137) = .cells (dnB (fun _ => false) 6).toArray 137) := rfl
      have HB3 : Hid ((Obj.cells #[.bool false, .bool false, .bool false] 138) = .cells (dnB (fun _ => false) 3).toArray 138) := rfl
      rw [← HB6.out, ← HB3.out] at HI0
      generalize ((wr.alloc (Obj.cells #[.bool false, .bool false, .bool false, .bool false, .bool false, .bool false] 137)).alloc (Obj.cells #[.bool false, .bool false, .bool false] 138)) = wt at *
      clear HB6 HB3
      generalize wr.heap.size = bb at *
      clear d0
      go_loopw [23] (fun i wr => ∃ (j : Nat) (busy taken : Nat → Bool) (st : Rs3), j ≤ (rowx s r).length ∧ i = .int .i64 j ∧ RtI w wr bb n s tgt r j busy taken st) (fun i _ => (rowx s r).length - (intOf i).toNat)
      case atStart => exact ⟨0, _, _, _, Nat.zero_le _, rfl, HI0.out⟩
      case round =>
        clear HI0
        obtain ⟨j, busy, taken, st, hj, rfl, hi⟩ := hrel
        by_cases h2 : j < (rowx s r).length
        · have h2i : (j : Int) < ((rowx s r).length : Int) := by omega
          have hwj : IntKind.i64.wrap ((j : Int) + 1) = (j : Int) + 1 := IntWalk.i64_in _ (by omega)
          obtain ⟨b2, off2, rfl, hb2, e0, e1, e2⟩ := (HM.out.below hi.low).at_ h2
          obtain ⟨q1, q2, q3, q4, q5⟩ := HSM.out.m r h1 j h2
          have HEQ : Hid ((if fitM n st busy taken (mtx (rowx s r) j) then roundF n ((rowx s r).drop (j + 1)) (updB (updB busy (mtx (rowx s r) j).a.toNat true) (mtx (rowx s r) j).b.toNat true) (updB taken (mtx (rowx s r) j).l.toNat true) (addM st (mtx (rowx s r) j)) else none).bind (allF n (s.drop (r + 1))) = tgt) := by
            show _ = _
            rw [← hi.eq, drop_mt h2, roundF]
          have HB0 : Hid (tgt = none → (n : Int) ≤ (mtx (rowx s r) j).b) := fun e => by
            obtain ⟨rfl, rfl⟩ := hi.nn e
            exact (HBAD.out e).2.2
          obtain ⟨mm, hmm2⟩ : ∃ mm, mm = mtx (rowx s r) j := ⟨_, rfl⟩
          rw [← hmm2] at e0 e1 e2 q1 q2 q3 q4 q5 HEQ HB0
          clear hmm2
          obtain ⟨ma, mb, ml⟩ := mm
          dsimp only at e0 e1 e2 q1 q2 q3 q4 q5 HB0
          obtain ⟨a, rfl⟩ : ∃ a : Nat, ma = (a : Int) := ⟨ma.toNat, by omega⟩
          obtain ⟨b, rfl⟩ : ∃ b : Nat, mb = (b : Int) := ⟨mb.toNat, by omega⟩
          obtain ⟨l, rfl⟩ : ∃ l : Nat, ml = (l : Int) := ⟨ml.toNat, by omega⟩
          have HI := Lib.hid hi
          have hb1 : Below wr.heap.size wr ((wr.alloc (.cells #[.int .i64 (a : Int), .int .i64 (b : Int), .int .i64 (l : Int)] 57)).alloc (.cells #[.int .i64 (a : Int), .int .i64 (b : Int)] 140)) := ((Below.refl _ _).alloc (Nat.le_refl _) _).alloc (by simp) _
          have x0 : ((wr.alloc (.cells #[.int .i64 (a : Int), .int .i64 (b : Int), .int .i64 (l : Int)] 57)).alloc (.cells #[.int .i64 (a : Int), .int .i64 (b : Int)] 140)).cell? ⟨wr.heap.size, 0, none⟩ = some (.int .i64 (a : Int)) := by go_simp
          have x1 : ((wr.alloc (.cells #[.int .i64 (a : Int), .int .i64 (b : Int), .int .i64 (l : Int)] 57)).alloc (.cells #[.int .i64 (a : Int), .int .i64 (b : Int)] 140)).cell? ⟨wr.heap.size, 1, none⟩ = some (.int .i64 (b : Int)) := by go_simp
          have x2 : ((wr.alloc (.cells #[.int .i64 (a : Int), .int .i64 (b : Int), .int .i64 (l : Int)] 57)).alloc (.cells #[.int .i64 (a : Int), .int .i64 (b : Int)] 140)).cell? ⟨wr.heap.size, 2, none⟩ = some (.int .i64 (l : Int)) := by go_simp
          have y0 : ((wr.alloc (.cells #[.int .i64 (a : Int), .int .i64 (b : Int), .int .i64 (l : Int)] 57)).alloc (.cells #[.int .i64 (a : Int), .int .i64 (b : Int)] 140)).cell? ⟨wr.heap.size + 1, 0, none⟩ = some (.int .i64 (a : Int)) := by go_simp
          have y1 : ((wr.alloc (.cells #[.int .i64 (a : Int), .int .i64 (b : Int), .int .i64 (l : Int)] 57)).alloc (.cells #[.int .i64 (a : Int), .int .i64 (b : Int)] 140)).cell? ⟨wr.heap.size + 1, 1, none⟩ = some (.int .i64 (b : Int)) := by go_simp
          have HB1 := Lib.hid hb1
          have hbz : Hid (bb + 1 < wr.heap.size) := hi.tn.lt
          clear hi hb1
          go_upto_region 11 with fail
          clear e0 e1 e2
          generalize ((wr.alloc (.cells #[.int .i64 (a : Int), .int .i64 (b : Int), .int .i64 (l : Int)] 57)).alloc (.cells #[.int .i64 (a : Int), .int .i64 (b : Int)] 140)) = W1 at *
          have HLT : Hid (wr.heap.size + 1 < W1.heap.size) := World.block_lt_of_cell? _ _ y0
          have US := Lib.hid (HI.out.us.step HB1.out)
          have MT := Lib.hid (HI.out.mt.step HB1.out)
          have BS := Lib.hid (HI.out.bs.step HB1.out)
          have TN := Lib.hid (HI.out.tn.step HB1.out)
          have LOW : Hid (Below w.heap.size w W1) := HI.out.low.trans (HB1.out.mono HI.out.low.size)
          have HRG := Lib.hid HI.out.rg
          have HML := Lib.hid HI.out.ml
          have hhb2 := HI.out.hb
          clear HI HB1
          generalize wr.heap.size = bm at *
          have hw1 : IntKind.i64.wrap ((b : Int) - 1) = (b : Int) - 1 := IntWalk.i64_in _ (by omega)
          have HW1 : Hid (∀ W, Calls Try.prog 81 #[.int .i64 (a : Int), .int .i64 0, .int .i64 ((b : Int) - 1)] W (Same W (.bool true))) := fun W => by
            have := within81_c (a : Int) 0 ((b : Int) - 1) W
            rwa [show inB (a : Int) 0 ((b : Int) - 1) = true by rw [inB_eq]; omega] at this
          by_cases hbn : (b : Int) < (n : Int)
          · have hfit : fitM n st busy taken ⟨(a : Int), (b : Int), (l : Int)⟩ = true := by
              cases e : fitM n st busy taken ⟨(a : Int), (b : Int), (l : Int)⟩
              · have h9 := HEQ.out
                rw [e] at h9
                have := HB0.out h9.symm
                omega
              · rfl
            have HEQ2 : Hid ((roundF n ((rowx s r).drop (j + 1)) (updB (updB busy a true) b true) (updB taken l true) (addM st ⟨(a : Int), (b : Int), (l : Int)⟩)).bind (allF n (s.drop (r + 1))) = tgt) := by
              have h9 := HEQ.out
              rw [hfit] at h9
              exact h9
            have hf := hfit
            simp only [fitM, Bool.and_eq_true, Bool.not_eq_true', decide_eq_true_eq, inB_eq, Int.toNat_natCast] at hf
            obtain ⟨⟨⟨⟨⟨⟨-, -⟩, hl1⟩, hmet⟩, hba⟩, hbb⟩, htl⟩ := hf
            obtain ⟨h, hh⟩ : ∃ h, n / 2 = h := ⟨_, rfl⟩
            rw [hh] at HHL hl1
            have hh3 : h ≤ 3 := by omega
            clear hh hfit HEQ
            have hwh : IntKind.i64.wrap ((h : Int) - 1) = (h : Int) - 1 := IntWalk.i64_in _ (by omega)
            have HI1 : Hid (inB (a : Int) 0 ((b : Int) - 1) = true) := by show _ = _; rw [inB_eq]; omega
            have HI2 : Hid (inB (l : Int) 0 ((h : Int) - 1) = true) := by show _ = _; rw [inB_eq]; omega
            have HWG : Hid (∀ (x y z : Int) (b : Bool) (W : World), Hid (inB x y z = b) → Calls Try.prog 81 #[.int .i64 x, .int .i64 y, .int .i64 z] W (Same W (.bool b))) := fun x y z b W e => by
              have := within81_c x y z W
              rwa [e.out] at this
            have hbn2 : ¬ (n : Int) ≤ (b : Int) := by omega
            have hbn3 : decide ((n : Int) ≤ (b : Int)) = false := decide_eq_false hbn2
            have hlk : ∀ m, (Instr.lookup 136 (.map (some (w.heap.size + 1))) (.agg #[.int .i64 (a : Int), .int .i64 (b : Int)]) false).run Try.prog (W1.drewN m) = .ok (.bool false) (W1.drewN m) := fun m => by
              have := (MT.out.step (below_drewN (Below.refl _ _) m)).look (x := a) (y := b) (by omega) (by omega)
              rwa [hmet] at this
            obtain ⟨z0, -⟩ := BS.out.cell (p := a) (by omega)
            obtain ⟨z1, -⟩ := BS.out.cell (p := b) (by omega)
            obtain ⟨z2, -⟩ := TN.out.cell (p := l) (by omega)
            rw [hba] at z0
            rw [hbb] at z1
            rw [htl] at z2
            have ha6 : (a : Int) < 6 := by omega
            have hb6 : (b : Int) < 6 := by omega
            have hl3 : (l : Int) < 3 := by omega
            go_quiet ((first | (go_at_call 99; exact Calls.quiet_of_same ((HHL.out _).mono fun e w2 h => ⟨h.1, h.2.symm⟩)) | (go_at_call 81; refine Calls.quiet_of_same ((HWG.out _ _ _ true _ ?_).mono fun e w2 h => ⟨h.1, h.2.symm⟩); first | with_reducible exact HI1 | with_reducible exact HI2)))
            have hbd : Below W1.heap.size W1 (W1.drewN nq) := below_drewN (Below.refl _ _) nq
            replace US := Lib.hid (US.out.step hbd)
            replace MT := Lib.hid (MT.out.step hbd)
            replace BS := Lib.hid (BS.out.step hbd)
            replace TN := Lib.hid (TN.out.step hbd)
            replace LOW : Hid (Below w.heap.size w (W1.drewN nq)) := below_drewN LOW.out nq
            replace x0 := cell_of_ans hbd x0
            replace x1 := cell_of_ans hbd x1
            replace x2 := cell_of_ans hbd x2
            replace y0 := cell_of_ans hbd y0
            replace y1 := cell_of_ans hbd y1
            clear hlk z0 z1 z2 hbd HLT hbn2 hbn3
            generalize W1.drewN nq = Wq at *
            have hbz2 := hbz.out
            have hml6 : st.met.length ≤ 1000 := by have := HML.out; have := HSM.out.len; omega
            have han : a < 6 := by omega
            have hbn6 : b < 6 := by omega
            go_upto_region 13 with fail
            refine wp_region_noPanic ?_
            have hS : (fun W' : World => W'.cell? ⟨bm, 0, none⟩ = some (.int .i64 (a : Int)) ∧ W'.cell? ⟨bm, 1, none⟩ = some (.int .i64 (b : Int)) ∧ W'.cell? ⟨bm, 2, none⟩ = some (.int .i64 (l : Int)) ∧ W'.cell? ⟨bm + 1, 0, none⟩ = some (.int .i64 (a : Int)) ∧ W'.cell? ⟨bm + 1, 1, none⟩ = some (.int .i64 (b : Int))) Wq.drew := ⟨x0, x1, x2, y0, y1⟩
            refine wp_region_any (by kernel_rfl) (wpAny_of_T (S := fun W' : World => W'.cell? ⟨bm, 0, none⟩ = some (.int .i64 (a : Int)) ∧ W'.cell? ⟨bm, 1, none⟩ = some (.int .i64 (b : Int)) ∧ W'.cell? ⟨bm, 2, none⟩ = some (.int .i64 (l : Int)) ∧ W'.cell? ⟨bm + 1, 0, none⟩ = some (.int .i64 (a : Int)) ∧ W'.cell? ⟨bm + 1, 1, none⟩ = some (.int .i64 (b : Int))) (m := 15) _ _ _ _ ?_)
            refine' T_take (i := 0) (v := _) rfl (by kernel_rfl) (by kernel_rfl) (by kernel_rfl) (by kernel_rfl) (fun _ _ _ h => h) (by kernel_rfl) hS ?_ ?_
            rotate_left 1
            · intro Wv hW
              obtain ⟨g0, g1, g2, g3, g4⟩ := hW
              go_simp
              first | done | with_reducible rfl | omega
            try simp only [Act.put, List.getElem_toArray, List.getElem_cons_zero, List.getElem_cons_succ, List.setIfInBounds_toArray, List.set_cons_zero, List.set_cons_succ]
            refine' T_take (i := 1) (v := _) rfl (by kernel_rfl) (by kernel_rfl) (by kernel_rfl) (by kernel_rfl) (fun _ _ _ h => h) (by kernel_rfl) hS ?_ ?_
            rotate_left 1
            · intro Wv hW
              obtain ⟨g0, g1, g2, g3, g4⟩ := hW
              go_simp
              first | done | with_reducible rfl | omega
            try simp only [Act.put, List.getElem_toArray, List.getElem_cons_zero, List.getElem_cons_succ, List.setIfInBounds_toArray, List.set_cons_zero, List.set_cons_succ]
            refine' T_take (i := 2) (v := _) rfl (by kernel_rfl) (by kernel_rfl) (by kernel_rfl) (by kernel_rfl) (fun _ _ _ h => h) (by kernel_rfl) hS ?_ ?_
            rotate_left 1
            · intro Wv hW
              obtain ⟨g0, g1, g2, g3, g4⟩ := hW
              go_simp
              first | done | with_reducible rfl | omega
            try simp only [Act.put, List.getElem_toArray, List.getElem_cons_zero, List.getElem_cons_succ, List.setIfInBounds_toArray, List.set_cons_zero, List.set_cons_succ]
            refine' T_take (i := 3) (v := _) rfl (by kernel_rfl) (by kernel_rfl) (by kernel_rfl) (by kernel_rfl) (fun _ _ _ h => h) (by kernel_rfl) hS ?_ ?_
            rotate_left 1
            · intro Wv hW
              obtain ⟨g0, g1, g2, g3, g4⟩ := hW
              go_simp
              first | done | with_reducible rfl | omega
            try simp only [Act.put, List.getElem_toArray, List.getElem_cons_zero, List.getElem_cons_succ, List.setIfInBounds_toArray, List.set_cons_zero, List.set_cons_succ]
            refine' T_take (i := 4) (v := _) rfl (by kernel_rfl) (by kernel_rfl) (by kernel_rfl) (by kernel_rfl) (fun _ _ _ h => h) (by kernel_rfl) hS ?_ ?_
            rotate_left 1
            · intro Wv hW
              obtain ⟨g0, g1, g2, g3, g4⟩ := hW
              go_simp
              first | done | with_reducible rfl | omega
            try simp only [Act.put, List.getElem_toArray, List.getElem_cons_zero, List.getElem_cons_succ, List.setIfInBounds_toArray, List.set_cons_zero, List.set_cons_succ]
            refine' T_take (i := 5) (v := _) rfl (by kernel_rfl) (by kernel_rfl) (by kernel_rfl) (by kernel_rfl) (fun _ _ _ h => h) (by kernel_rfl) hS ?_ ?_
            rotate_left 1
            · intro Wv hW
              obtain ⟨g0, g1, g2, g3, g4⟩ := hW
              go_simp
              first | done | with_reducible rfl | omega
            try simp only [Act.put, List.getElem_toArray, List.getElem_cons_zero, List.getElem_cons_succ, List.setIfInBounds_toArray, List.set_cons_zero, List.set_cons_succ]
            refine' T_take (i := 6) (v := _) rfl (by kernel_rfl) (by kernel_rfl) (by kernel_rfl) (by kernel_rfl) (fun _ _ _ h => h) (by kernel_rfl) hS ?_ ?_
            rotate_left 1
            · intro Wv hW
              obtain ⟨g0, g1, g2, g3, g4⟩ := hW
              go_simp
              first | done | with_reducible rfl | omega
            try simp only [Act.put, List.getElem_toArray, List.getElem_cons_zero, List.getElem_cons_succ, List.setIfInBounds_toArray, List.set_cons_zero, List.set_cons_succ]
            refine' T_take (i := 7) (v := _) rfl (by kernel_rfl) (by kernel_rfl) (by kernel_rfl) (by kernel_rfl) (fun _ _ _ h => h) (by kernel_rfl) hS ?_ ?_
            rotate_left 1
            · intro Wv hW
              obtain ⟨g0, g1, g2, g3, g4⟩ := hW
              go_simp
              first | done | with_reducible rfl | omega
            try simp only [Act.put, List.getElem_toArray, List.getElem_cons_zero, List.getElem_cons_succ, List.setIfInBounds_toArray, List.set_cons_zero, List.set_cons_succ]
            refine T_ready (rs := [8]) (by kernel_rfl) (by simp) ?_
            refine TReady.cons rfl (fun K hK => ?_) TReady.nil
            have MTd : HMet Wq.drew (w.heap.size + 1) st.met := MT.out.step (Below.refl _ _).drew
            refine step_hmet (.tmp 78) (.tmp 79) (.const (.bool true)) rfl rfl Wq.drew (w.heap.size + 1) st.met a b rfl rfl rfl MTd hml6 han hbn6 hmet ?_
            intro w9 HM9 HG9
            have US9 : Hid (UAt w9 w.heap.size st.D) := (HG9.out.block _ (US.out.lt) (fun e => by injection e; omega)).trans US.out
            have BS9 := Lib.hid ((BS.out.step (Below.refl _ _).drew).grown HG9.out (by omega))
            have TN9 := Lib.hid ((TN.out.step (Below.refl _ _).drew).grown HG9.out (by omega))
            have LOW9 : Hid (Below w.heap.size w w9) := (LOW.out.drew).grown HG9.out (LOW.out.size) (fun k e => by injection e; omega)
            refine hK.out _ _ (fun _ => ⟨cell_grow HG9.out hS.1 (by dsimp only; omega), cell_grow HG9.out hS.2.1 (by dsimp only; omega), cell_grow HG9.out hS.2.2.1 (by dsimp only; omega), cell_grow HG9.out hS.2.2.2.1 (by dsimp only; omega), cell_grow HG9.out hS.2.2.2.2 (by dsimp only; omega)⟩) (fun hS => ?_)
            replace hS := hS (by decide)
            clear hK K MTd
            try simp only [Act.put, List.getElem_toArray, List.getElem_cons_zero, List.getElem_cons_succ, List.setIfInBounds_toArray, List.set_cons_zero, List.set_cons_succ]
            refine' T_take (i := 9) (v := _) rfl (by kernel_rfl) (by kernel_rfl) (by kernel_rfl) (by kernel_rfl) (fun _ _ _ h => h) (by kernel_rfl) hS ?_ ?_
            rotate_left 1
            · intro Wv hW
              obtain ⟨g0, g1, g2, g3, g4⟩ := hW
              go_simp
              first | done | with_reducible rfl | omega
            try simp only [Act.put, List.getElem_toArray, List.getElem_cons_zero, List.getElem_cons_succ, List.setIfInBounds_toArray, List.set_cons_zero, List.set_cons_succ]
            refine T_ready (rs := [10]) (by kernel_rfl) (by simp) ?_
            refine TReady.cons rfl (fun K hK => ?_) TReady.nil
            obtain ⟨f0, f1⟩ := BS9.out.cell (p := a) (by omega)
            try go_simp
            refine hK.out _ _ (fun _ => ⟨cell_set_keep hS.1 (by dsimp only; omega), cell_set_keep hS.2.1 (by dsimp only; omega), cell_set_keep hS.2.2.1 (by dsimp only; omega), cell_set_keep hS.2.2.2.1 (by dsimp only; omega), cell_set_keep hS.2.2.2.2 (by dsimp only; omega)⟩) (fun hS => ?_)
            replace hS := hS (by decide)
            clear hK K f0 f1
            have USA : Hid (UAt (w9.setCell ⟨bb, a, none⟩ (.bool true)) w.heap.size st.D) := (Below.heap_setCell w9 ⟨bb, a, none⟩ (.bool true) w.heap.size (by dsimp only; omega)).trans US9.out
            have HMA := Lib.hid (HM9.out.setCell (p := ⟨bb, a, none⟩) (by dsimp only; omega) (.bool true))
            have LOWA := Lib.hid (LOW9.out.setCell (show w.heap.size ≤ (⟨bb, a, none⟩ : Addr).block by dsimp only; omega) (.bool true))
            have BSA := Lib.hid (BS9.out.set a true)
            have TNA := Lib.hid (TN9.out.setFar (p := ⟨bb, a, none⟩) (by dsimp only; omega) (.bool true))
            clear US9 HM9 LOW9 BS9 TN9
            try simp only [Act.put, List.getElem_toArray, List.getElem_cons_zero, List.getElem_cons_succ, List.setIfInBounds_toArray, List.set_cons_zero, List.set_cons_succ]
            refine' T_take (i := 11) (v := _) rfl (by kernel_rfl) (by kernel_rfl) (by kernel_rfl) (by kernel_rfl) (fun _ _ _ h => h) (by kernel_rfl) hS ?_ ?_
            rotate_left 1
            · intro Wv hW
              obtain ⟨g0, g1, g2, g3, g4⟩ := hW
              go_simp
              first | done | with_reducible rfl | omega
            try simp only [Act.put, List.getElem_toArray, List.getElem_cons_zero, List.getElem_cons_succ, List.setIfInBounds_toArray, List.set_cons_zero, List.set_cons_succ]
            refine T_ready (rs := [12]) (by kernel_rfl) (by simp) ?_
            refine TReady.cons rfl (fun K hK => ?_) TReady.nil
            obtain ⟨f0, f1⟩ := BSA.out.cell (p := b) (by omega)
            try go_simp
            refine hK.out _ _ (fun _ => ⟨cell_set_keep hS.1 (by dsimp only; omega), cell_set_keep hS.2.1 (by dsimp only; omega), cell_set_keep hS.2.2.1 (by dsimp only; omega), cell_set_keep hS.2.2.2.1 (by dsimp only; omega), cell_set_keep hS.2.2.2.2 (by dsimp only; omega)⟩) (fun hS => ?_)
            replace hS := hS (by decide)
            clear hK K f0 f1
            have USB : Hid (UAt ((w9.setCell ⟨bb, a, none⟩ (.bool true)).setCell ⟨bb, b, none⟩ (.bool true)) w.heap.size st.D) := (Below.heap_setCell (w9.setCell ⟨bb, a, none⟩ (.bool true)) ⟨bb, b, none⟩ (.bool true) w.heap.size (by dsimp only; omega)).trans USA.out
            have HMB := Lib.hid (HMA.out.setCell (p := ⟨bb, b, none⟩) (by dsimp only; omega) (.bool true))
            have LOWB := Lib.hid (LOWA.out.setCell (show w.heap.size ≤ (⟨bb, b, none⟩ : Addr).block by dsimp only; omega) (.bool true))
            have BSB := Lib.hid (BSA.out.set b true)
            have TNB := Lib.hid (TNA.out.setFar (p := ⟨bb, b, none⟩) (by dsimp only; omega) (.bool true))
            clear USA HMA LOWA BSA TNA
            try simp only [Act.put, List.getElem_toArray, List.getElem_cons_zero, List.getElem_cons_succ, List.setIfInBounds_toArray, List.set_cons_zero, List.set_cons_succ]
            refine' T_take (i := 13) (v := _) rfl (by kernel_rfl) (by kernel_rfl) (by kernel_rfl) (by kernel_rfl) (fun _ _ _ h => h) (by kernel_rfl) hS ?_ ?_
            rotate_left 1
            · intro Wv hW
              obtain ⟨g0, g1, g2, g3, g4⟩ := hW
              go_simp
              first | done | with_reducible rfl | omega
            try simp only [Act.put, List.getElem_toArray, List.getElem_cons_zero, List.getElem_cons_succ, List.setIfInBounds_toArray, List.set_cons_zero, List.set_cons_succ]
            refine T_ready (rs := [14]) (by kernel_rfl) (by simp) ?_
            refine TReady.cons rfl (fun K hK => ?_) TReady.nil
            obtain ⟨f0, f1⟩ := TNB.out.cell (p := l) (by omega)
            try go_simp
            refine hK.out _ _ (fun _ => ⟨cell_set_keep hS.1 (by dsimp only; omega), cell_set_keep hS.2.1 (by dsimp only; omega), cell_set_keep hS.2.2.1 (by dsimp only; omega), cell_set_keep hS.2.2.2.1 (by dsimp only; omega), cell_set_keep hS.2.2.2.2 (by dsimp only; omega)⟩) (fun hS => ?_)
            replace hS := hS (by decide)
            clear hK K f0 f1
            have USC : Hid (UAt (((w9.setCell ⟨bb, a, none⟩ (.bool true)).setCell ⟨bb, b, none⟩ (.bool true)).setCell ⟨bb + 1, l, none⟩ (.bool true)) w.heap.size st.D) := (Below.heap_setCell ((w9.setCell ⟨bb, a, none⟩ (.bool true)).setCell ⟨bb, b, none⟩ (.bool true)) ⟨bb + 1, l, none⟩ (.bool true) w.heap.size (by dsimp only; omega)).trans USB.out
            have HMC := Lib.hid (HMB.out.setCell (p := ⟨bb + 1, l, none⟩) (by dsimp only; omega) (.bool true))
            have LOWC := Lib.hid (LOWB.out.setCell (show w.heap.size ≤ (⟨bb + 1, l, none⟩ : Addr).block by dsimp only; omega) (.bool true))
            have BSC := Lib.hid (BSB.out.setFar (p := ⟨bb + 1, l, none⟩) (by dsimp only; omega) (.bool true))
            have TNC := Lib.hid (TNB.out.set l true)
            clear USB HMB LOWB BSB TNB
            try simp only [Act.put, List.getElem_toArray, List.getElem_cons_zero, List.getElem_cons_succ, List.setIfInBounds_toArray, List.set_cons_zero, List.set_cons_succ]
            refine T_done (by kernel_rfl) ?_ _
            refine NoPanic.normal ?_
            try go_simp
            clear x0 x1 x2 y0 y1
            obtain ⟨x0, x1, x2, -, -⟩ := hS
            go_upto_region 14 with fail
            generalize (((w9.setCell ⟨bb, a, none⟩ (.bool true)).setCell ⟨bb, b, none⟩ (.bool true)).setCell ⟨bb + 1, l, none⟩ (.bool true)) = W4 at *
            have HRGC := Lib.hid HRG.out
            obtain ⟨Ds, hDs⟩ : ∃ Ds, st.D = Ds := ⟨_, rfl⟩
            rw [hDs] at USC HRGC
            have HDS := Lib.hid hDs
            clear hDs
            obtain ⟨cD, fD⟩ := USC.out.cell (k := a * 3 + l) (by omega)
            have hwi : IntKind.i64.wrap (Ds (a * 3 + l) + 1) = Ds (a * 3 + l) + 1 := IntWalk.i64_in _ (by have := HRGC.out (a * 3 + l); omega)
            refine wp_region_noPanic ?_
            have hS : (fun W' : World => Below W4.heap.size W4 W') W4.drew := (Below.refl _ _).drew
            refine wp_region_any (by kernel_rfl) (wpAny_of_T (S := fun W' : World => Below W4.heap.size W4 W') (m := 10) _ _ _ _ ?_)
            refine' T_take (i := 0) (v := _) rfl (by kernel_rfl) (by kernel_rfl) (by kernel_rfl) (by kernel_rfl) (fun _ _ _ h => h) (by kernel_rfl) hS ?_ ?_
            rotate_left 1
            · intro Wv hW
              go_simp
              first | done | with_reducible rfl | omega
            try simp only [Act.put, List.getElem_toArray, List.getElem_cons_zero, List.getElem_cons_succ, List.setIfInBounds_toArray, List.set_cons_zero, List.set_cons_succ]
            refine' T_take (i := 1) (v := _) rfl (by kernel_rfl) (by kernel_rfl) (by kernel_rfl) (by kernel_rfl) (fun _ _ _ h => h) (by kernel_rfl) hS ?_ ?_
            rotate_left 1
            · intro Wv hW
              have g0 := cell_of_ans hW x0
              have g2 := cell_of_ans hW x2
              have g3 := cell_of_ans hW cD
              go_simp
              first | done | with_reducible rfl | omega
            try simp only [Act.put, List.getElem_toArray, List.getElem_cons_zero, List.getElem_cons_succ, List.setIfInBounds_toArray, List.set_cons_zero, List.set_cons_succ]
            refine' T_take (i := 2) (v := _) rfl (by kernel_rfl) (by kernel_rfl) (by kernel_rfl) (by kernel_rfl) (fun _ _ _ h => h) (by kernel_rfl) hS ?_ ?_
            rotate_left 1
            · intro Wv hW
              go_simp
              first | done | with_reducible rfl | omega
            try simp only [Act.put, List.getElem_toArray, List.getElem_cons_zero, List.getElem_cons_succ, List.setIfInBounds_toArray, List.set_cons_zero, List.set_cons_succ]
            refine' T_take (i := 3) (v := _) rfl (by kernel_rfl) (by kernel_rfl) (by kernel_rfl) (by kernel_rfl) (fun _ _ _ h => h) (by kernel_rfl) hS ?_ ?_
            rotate_left 1
            · intro Wv hW
              have g0 := cell_of_ans hW x0
              have g2 := cell_of_ans hW x2
              have g3 := cell_of_ans hW cD
              go_simp
              first | done | with_reducible rfl | omega
            try simp only [Act.put, List.getElem_toArray, List.getElem_cons_zero, List.getElem_cons_succ, List.setIfInBounds_toArray, List.set_cons_zero, List.set_cons_succ]
            refine' T_take (i := 4) (v := _) rfl (by kernel_rfl) (by kernel_rfl) (by kernel_rfl) (by kernel_rfl) (fun _ _ _ h => h) (by kernel_rfl) hS ?_ ?_
            rotate_left 1
            · intro Wv hW
              go_simp
              first | done | with_reducible rfl | omega
            try simp only [Act.put, List.getElem_toArray, List.getElem_cons_zero, List.getElem_cons_succ, List.setIfInBounds_toArray, List.set_cons_zero, List.set_cons_succ]
            refine' T_take (i := 5) (v := _) rfl (by kernel_rfl) (by kernel_rfl) (by kernel_rfl) (by kernel_rfl) (fun _ _ _ h => h) (by kernel_rfl) hS ?_ ?_
            rotate_left 1
            · intro Wv hW
              go_simp
              first | done | with_reducible rfl | omega
            try simp only [Act.put, List.getElem_toArray, List.getElem_cons_zero, List.getElem_cons_succ, List.setIfInBounds_toArray, List.set_cons_zero, List.set_cons_succ]
            refine' T_take (i := 6) (v := _) rfl (by kernel_rfl) (by kernel_rfl) (by kernel_rfl) (by kernel_rfl) (fun _ _ _ h => h) (by kernel_rfl) hS ?_ ?_
            rotate_left 1
            · intro Wv hW
              have g0 := cell_of_ans hW x0
              have g2 := cell_of_ans hW x2
              have g3 := cell_of_ans hW cD
              go_simp
              first | done | with_reducible rfl | omega
            try simp only [Act.put, List.getElem_toArray, List.getElem_cons_zero, List.getElem_cons_succ, List.setIfInBounds_toArray, List.set_cons_zero, List.set_cons_succ]
            refine' T_take (i := 7) (v := _) rfl (by kernel_rfl) (by kernel_rfl) (by kernel_rfl) (by kernel_rfl) (fun _ _ _ h => h) (by kernel_rfl) hS ?_ ?_
            rotate_left 1
            · intro Wv hW
              go_simp
              first | done | with_reducible rfl | omega
            try simp only [Act.put, List.getElem_toArray, List.getElem_cons_zero, List.getElem_cons_succ, List.setIfInBounds_toArray, List.set_cons_zero, List.set_cons_succ]
            refine T_ready (rs := [8]) (by kernel_rfl) (by simp) ?_
            refine TReady.cons rfl (fun K hK => ?_) TReady.nil
            try go_simp
            refine hK.out _ _ (fun _ => hS) (fun _ => ?_)
            clear hK K
            try simp only [Act.put, List.getElem_toArray, List.getElem_cons_zero, List.getElem_cons_succ, List.setIfInBounds_toArray, List.set_cons_zero, List.set_cons_succ]
            refine' T_take (i := 9) (v := _) rfl (by kernel_rfl) (by kernel_rfl) (by kernel_rfl) (by kernel_rfl) (fun _ _ _ h => h) (by kernel_rfl) hS ?_ ?_
            rotate_left 1
            · intro Wv hW
              go_simp
              first | done | with_reducible rfl | omega
            try simp only [Act.put, List.getElem_toArray, List.getElem_cons_zero, List.getElem_cons_succ, List.setIfInBounds_toArray, List.set_cons_zero, List.set_cons_succ]
            refine T_ready (rs := [10]) (by kernel_rfl) (by simp) ?_
            refine TReady.cons rfl (fun K hK => ?_) TReady.nil
            try go_simp
            refine hK.out _ _ (fun h => absurd h (by decide)) (fun _ => ?_)
            clear hK K
            try simp only [Act.put, List.getElem_toArray, List.getElem_cons_zero, List.getElem_cons_succ, List.setIfInBounds_toArray, List.set_cons_zero, List.set_cons_succ]
            refine T_done (by kernel_rfl) ?_ _
            refine NoPanic.normal ?_
            try go_simp
            go_upto_region 15 with fail
            have hbd : Below (W4.setCell ⟨w.heap.size, a * 3 + l, none⟩ (.int .i64 (Ds (a * 3 + l) + 1))).heap.size _ (W4.setCell ⟨w.heap.size, a * 3 + l, none⟩ (.int .i64 (Ds (a * 3 + l) + 1))).drew := (Below.refl _ _).drew
            obtain ⟨D5, hDn⟩ : ∃ D9, incD Ds (a * 3 + l) 1 = D9 := ⟨_, rfl⟩
            have e9 : updI' Ds (a * 3 + l) (Ds (a * 3 + l) + 1) = D5 := hDn
            have u9 := (USC.out.set (k := a * 3 + l) (by omega) (Ds (a * 3 + l) + 1)).step hbd
            rw [e9] at u9
            have US5 := Lib.hid u9
            have HM5 := Lib.hid ((HMC.out.setCell (p := ⟨w.heap.size, a * 3 + l, none⟩) (by dsimp only; omega) (.int .i64 (Ds (a * 3 + l) + 1))).step hbd)
            have BS5 := Lib.hid ((BSC.out.setFar (p := ⟨w.heap.size, a * 3 + l, none⟩) (by dsimp only; omega) (.int .i64 (Ds (a * 3 + l) + 1))).step hbd)
            have TN5 := Lib.hid ((TNC.out.setFar (p := ⟨w.heap.size, a * 3 + l, none⟩) (by dsimp only; omega) (.int .i64 (Ds (a * 3 + l) + 1))).step hbd)
            have LOW5 : Hid (Below w.heap.size w ((W4.setCell ⟨w.heap.size, a * 3 + l, none⟩ (.int .i64 (Ds (a * 3 + l) + 1))).drew)) := (LOWC.out.setCell (Nat.le_refl _) _).drew
            replace x1 := cell_of_ans hbd (cell_set_keep x1 (p := ⟨w.heap.size, a * 3 + l, none⟩) (u := .int .i64 (Ds (a * 3 + l) + 1)) (by dsimp only; omega))
            replace x2 := cell_of_ans hbd (cell_set_keep x2 (p := ⟨w.heap.size, a * 3 + l, none⟩) (u := .int .i64 (Ds (a * 3 + l) + 1)) (by dsimp only; omega))
            have HE5 := Lib.hid hDn
            have HRG5 : Hid (∀ x, 0 ≤ D5 x ∧ D5 x ≤ 2 * (st.met.length : Int) + 1) := fun x => by have h8 := HRGC.out x; have h9 := HRGC.out (a * 3 + l); rw [← hDn]; simp only [incD, updI']; split <;> omega
            clear u9 e9 hDn cD fD hwi hS hbd USC HMC BSC TNC LOWC
            generalize (W4.setCell ⟨w.heap.size, a * 3 + l, none⟩ (.int .i64 (Ds (a * 3 + l) + 1))).drew = W5 at *
            clear x0
            obtain ⟨cD, fD⟩ := US5.out.cell (k := b * 3 + l) (by omega)
            have hwi : IntKind.i64.wrap (D5 (b * 3 + l) + 1) = D5 (b * 3 + l) + 1 := IntWalk.i64_in _ (by have := HRG5.out (b * 3 + l); omega)
            refine wp_region_noPanic ?_
            have hS : (fun W' : World => Below W5.heap.size W5 W') W5.drew := (Below.refl _ _).drew
            refine wp_region_any (by kernel_rfl) (wpAny_of_T (S := fun W' : World => Below W5.heap.size W5 W') (m := 10) _ _ _ _ ?_)
            refine' T_take (i := 0) (v := _) rfl (by kernel_rfl) (by kernel_rfl) (by kernel_rfl) (by kernel_rfl) (fun _ _ _ h => h) (by kernel_rfl) hS ?_ ?_
            rotate_left 1
            · intro Wv hW
              go_simp
              first | done | with_reducible rfl | omega
            try simp only [Act.put, List.getElem_toArray, List.getElem_cons_zero, List.getElem_cons_succ, List.setIfInBounds_toArray, List.set_cons_zero, List.set_cons_succ]
            refine' T_take (i := 1) (v := _) rfl (by kernel_rfl) (by kernel_rfl) (by kernel_rfl) (by kernel_rfl) (fun _ _ _ h => h) (by kernel_rfl) hS ?_ ?_
            rotate_left 1
            · intro Wv hW
              have g0 := cell_of_ans hW x1
              have g2 := cell_of_ans hW x2
              have g3 := cell_of_ans hW cD
              go_simp
              first | done | with_reducible rfl | omega
            try simp only [Act.put, List.getElem_toArray, List.getElem_cons_zero, List.getElem_cons_succ, List.setIfInBounds_toArray, List.set_cons_zero, List.set_cons_succ]
            refine' T_take (i := 2) (v := _) rfl (by kernel_rfl) (by kernel_rfl) (by kernel_rfl) (by kernel_rfl) (fun _ _ _ h => h) (by kernel_rfl) hS ?_ ?_
            rotate_left 1
            · intro Wv hW
              go_simp
              first | done | with_reducible rfl | omega
            try simp only [Act.put, List.getElem_toArray, List.getElem_cons_zero, List.getElem_cons_succ, List.setIfInBounds_toArray, List.set_cons_zero, List.set_cons_succ]
            refine' T_take (i := 3) (v := _) rfl (by kernel_rfl) (by kernel_rfl) (by kernel_rfl) (by kernel_rfl) (fun _ _ _ h => h) (by kernel_rfl) hS ?_ ?_
            rotate_left 1
            · intro Wv hW
              have g0 := cell_of_ans hW x1
              have g2 := cell_of_ans hW x2
              have g3 := cell_of_ans hW cD
              go_simp
              first | done | with_reducible rfl | omega
            try simp only [Act.put, List.getElem_toArray, List.getElem_cons_zero, List.getElem_cons_succ, List.setIfInBounds_toArray, List.set_cons_zero, List.set_cons_succ]
            refine' T_take (i := 4) (v := _) rfl (by kernel_rfl) (by kernel_rfl) (by kernel_rfl) (by kernel_rfl) (fun _ _ _ h => h) (by kernel_rfl) hS ?_ ?_
            rotate_left 1
            · intro Wv hW
              go_simp
              first | done | with_reducible rfl | omega
            try simp only [Act.put, List.getElem_toArray, List.getElem_cons_zero, List.getElem_cons_succ, List.setIfInBounds_toArray, List.set_cons_zero, List.set_cons_succ]
            refine' T_take (i := 5) (v := _) rfl (by kernel_rfl) (by kernel_rfl) (by kernel_rfl) (by kernel_rfl) (fun _ _ _ h => h) (by kernel_rfl) hS ?_ ?_
            rotate_left 1
            · intro Wv hW
              go_simp
              first | done | with_reducible rfl | omega
            try simp only [Act.put, List.getElem_toArray, List.getElem_cons_zero, List.getElem_cons_succ, List.setIfInBounds_toArray, List.set_cons_zero, List.set_cons_succ]
            refine' T_take (i := 6) (v := _) rfl (by kernel_rfl) (by kernel_rfl) (by kernel_rfl) (by kernel_rfl) (fun _ _ _ h => h) (by kernel_rfl) hS ?_ ?_
            rotate_left 1
            · intro Wv hW
              have g0 := cell_of_ans hW x1
              have g2 := cell_of_ans hW x2
              have g3 := cell_of_ans hW cD
              go_simp
              first | done | with_reducible rfl | omega
            try simp only [Act.put, List.getElem_toArray, List.getElem_cons_zero, List.getElem_cons_succ, List.setIfInBounds_toArray, List.set_cons_zero, List.set_cons_succ]
            refine' T_take (i := 7) (v := _) rfl (by kernel_rfl) (by kernel_rfl) (by kernel_rfl) (by kernel_rfl) (fun _ _ _ h => h) (by kernel_rfl) hS ?_ ?_
            rotate_left 1
            · intro Wv hW
              go_simp
              first | done | with_reducible rfl | omega
            try simp only [Act.put, List.getElem_toArray, List.getElem_cons_zero, List.getElem_cons_succ, List.setIfInBounds_toArray, List.set_cons_zero, List.set_cons_succ]
            refine T_ready (rs := [8]) (by kernel_rfl) (by simp) ?_
            refine TReady.cons rfl (fun K hK => ?_) TReady.nil
            try go_simp
            refine hK.out _ _ (fun _ => hS) (fun _ => ?_)
            clear hK K
            try simp only [Act.put, List.getElem_toArray, List.getElem_cons_zero, List.getElem_cons_succ, List.setIfInBounds_toArray, List.set_cons_zero, List.set_cons_succ]
            refine' T_take (i := 9) (v := _) rfl (by kernel_rfl) (by kernel_rfl) (by kernel_rfl) (by kernel_rfl) (fun _ _ _ h => h) (by kernel_rfl) hS ?_ ?_
            rotate_left 1
            · intro Wv hW
              go_simp
              first | done | with_reducible rfl | omega
            try simp only [Act.put, List.getElem_toArray, List.getElem_cons_zero, List.getElem_cons_succ, List.setIfInBounds_toArray, List.set_cons_zero, List.set_cons_succ]
            refine T_ready (rs := [10]) (by kernel_rfl) (by simp) ?_
            refine TReady.cons rfl (fun K hK => ?_) TReady.nil
            try go_simp
            refine hK.out _ _ (fun h => absurd h (by decide)) (fun _ => ?_)
            clear hK K
            try simp only [Act.put, List.getElem_toArray, List.getElem_cons_zero, List.getElem_cons_succ, List.setIfInBounds_toArray, List.set_cons_zero, List.set_cons_succ]
            refine T_done (by kernel_rfl) ?_ _
            refine NoPanic.normal ?_
            try go_simp
            go_upto_region 16 with fail
            have hbd : Below (W5.setCell ⟨w.heap.size, b * 3 + l, none⟩ (.int .i64 (D5 (b * 3 + l) + 1))).heap.size _ (W5.setCell ⟨w.heap.size, b * 3 + l, none⟩ (.int .i64 (D5 (b * 3 + l) + 1))).drew := (Below.refl _ _).drew
            obtain ⟨D6, hDn⟩ : ∃ D9, incD D5 (b * 3 + l) 1 = D9 := ⟨_, rfl⟩
            have e9 : updI' D5 (b * 3 + l) (D5 (b * 3 + l) + 1) = D6 := hDn
            have u9 := (US5.out.set (k := b * 3 + l) (by omega) (D5 (b * 3 + l) + 1)).step hbd
            rw [e9] at u9
            have US6 := Lib.hid u9
            have HM6 := Lib.hid ((HM5.out.setCell (p := ⟨w.heap.size, b * 3 + l, none⟩) (by dsimp only; omega) (.int .i64 (D5 (b * 3 + l) + 1))).step hbd)
            have BS6 := Lib.hid ((BS5.out.setFar (p := ⟨w.heap.size, b * 3 + l, none⟩) (by dsimp only; omega) (.int .i64 (D5 (b * 3 + l) + 1))).step hbd)
            have TN6 := Lib.hid ((TN5.out.setFar (p := ⟨w.heap.size, b * 3 + l, none⟩) (by dsimp only; omega) (.int .i64 (D5 (b * 3 + l) + 1))).step hbd)
            have LOW6 : Hid (Below w.heap.size w ((W5.setCell ⟨w.heap.size, b * 3 + l, none⟩ (.int .i64 (D5 (b * 3 + l) + 1))).drew)) := (LOW5.out.setCell (Nat.le_refl _) _).drew
            replace x1 := cell_of_ans hbd (cell_set_keep x1 (p := ⟨w.heap.size, b * 3 + l, none⟩) (u := .int .i64 (D5 (b * 3 + l) + 1)) (by dsimp only; omega))
            replace x2 := cell_of_ans hbd (cell_set_keep x2 (p := ⟨w.heap.size, b * 3 + l, none⟩) (u := .int .i64 (D5 (b * 3 + l) + 1)) (by dsimp only; omega))
            have HE6 := Lib.hid hDn
            have HRG6 : Hid (∀ x, 0 ≤ D6 x ∧ D6 x ≤ 2 * (st.met.length : Int) + 2) := fun x => by have h8 := HRG5.out x; have h9 := HRG5.out (b * 3 + l); rw [← hDn]; simp only [incD, updI']; split <;> omega
            clear u9 e9 hDn cD fD hwi hS hbd US5 HM5 BS5 TN5 LOW5
            generalize (W5.setCell ⟨w.heap.size, b * 3 + l, none⟩ (.int .i64 (D5 (b * 3 + l) + 1))).drew = W6 at *
            have hadd : addM st ⟨(a : Int), (b : Int), (l : Int)⟩ = ⟨st.met ++ [((a : Int), (b : Int))], D6⟩ := by
              unfold addM
              rw [HDS.out, ← HE6.out, ← HE5.out]
              rfl
            have HADD := Lib.hid hadd
            clear hadd
            go_wp2_with fail
            go_roundw
            case rel =>
              refine ⟨j + 1, updB (updB busy a true) b true, updB taken l true, addM st ⟨(a : Int), (b : Int), (l : Int)⟩, by omega, by go_num, ?_⟩
              rw [HADD.out]
              refine ⟨US6.out, HM6.out, BS6.out, TN6.out, LOW6.out, by rw [← HADD.out]; exact HEQ2.out, fun e => by have := HB0.out e; omega, fun x => ?_, ?_, hhb2⟩
              · have := HRG6.out x
                dsimp only
                rw [List.length_append, List.length_singleton]
                omega
              · have := HML.out
                dsimp only
                rw [List.length_append, List.length_singleton]
                omega
            case measure => simp [intOf]; omega
          · have hbn2 : (n : Int) ≤ (b : Int) := by omega
            have hbn3 : decide ((n : Int) ≤ (b : Int)) = true := decide_eq_true hbn2
            have htn : tgt = none := by
              rw [← HEQ.out]
              have : fitM n st busy taken ⟨(a : Int), (b : Int), (l : Int)⟩ = false := by simp [fitM, hbn]
              rw [this]
              rfl
            have HRS : Hid (rightS n s = false) := by show _ = _; unfold rightS; rw [HTG.out, htn]
            have HUS : Hid (usesS n s = fun _ => 0) := by show _ = _; unfold usesS; rw [HTG.out, htn]; rfl
            clear hbn htn HEQ HB0
            go_quiet ((go_at_call 81; exact Calls.quiet_of_same ((HW1.out _).mono fun e w2 h => ⟨h.1, h.2.symm⟩)))
            have hbd : Below W1.heap.size W1 (W1.drewN nq) := below_drewN (Below.refl _ _) nq
            replace US := Lib.hid (US.out.step hbd)
            replace LOW : Hid (Below w.heap.size w (W1.drewN nq)) := below_drewN LOW.out nq
            clear hbd x0 x1 x2 y0 y1 MT BS TN HLT
            generalize W1.drewN nq = Wq at *
            go_wp2_with (refine wpList_store110 (fun _ => 0) US rfl (.tmp 4) (.tmp 77) rfl rfl rfl ?_)
            refine bodyPost_ret (results_cell110 (D := fun _ => 0) rfl _ _ w.heap.size rfl (UAt.setRow (D := fun _ => 0) US.out)) rfl ?_
            exact ⟨_, HUS.out.symm, by rw [HRS.out]; rfl, below_setRow LOW.out (Nat.le_refl _), fun x => by simp⟩
        · obtain rfl : j = (rowx s r).length := by omega
          have h2i : ¬ ((rowx s r).length : Int) < ((rowx s r).length : Int) := by omega
          have HO : Hid (RtO w wr n s tgt (r + 1) st) := by
            refine ⟨hi.us, hi.mt, hi.low, ?_, fun e => ?_, hi.rg, by have := hi.ml; omega⟩
            · rw [← hi.eq, List.drop_length]
              rfl
            · obtain ⟨h3, h4⟩ := hi.nn e
              subst h3
              have := (HBAD.out e).2.1
              omega
          clear hi
          go_wp2_with fail
          go_roundw
          case rel => exact ⟨r + 1, st, by omega, by go_num, HO.out⟩
          case measure => simp [intOf]; omega
    · obtain rfl : r = s.length := by omega
      have h1i : ¬ (s.length : Int) < (s.length : Int) := by omega
      have htg : allF n s st0 = some st := by rw [HTG.out, ← ho.eq, List.drop_length]; rfl
      have HRS : Hid (rightS n s = (decide (s.length = n - 1 + n % 2) && decide (st.met.length = n * (n - 1) / 2))) := by show _ = _; unfold rightS; rw [htg]
      have HUS : Hid (usesS n s = st.D) := by show _ = _; unfold usesS; rw [htg]; rfl
      obtain ⟨R, hR⟩ : ∃ R, n - 1 + n % 2 = R := ⟨_, rfl⟩
      obtain ⟨n1, hn1⟩ : ∃ n1, n - 1 = n1 := ⟨_, rfl⟩
      obtain ⟨p, hp⟩ : ∃ p, n * (n - 1) = p := ⟨_, rfl⟩
      obtain ⟨q, hq⟩ : ∃ q, p / 2 = q := ⟨_, rfl⟩
      rw [hR, hp, hq] at HRS
      rw [hR] at HCN
      have hp30 : p ≤ 30 := by rcases n26 hn with rfl | rfl | rfl | rfl | rfl <;> omega
      have hw1 : IntKind.i64.wrap ((n : Int) - 1) = (n1 : Int) := by rw [IntWalk.i64_in _ (by omega)]; omega
      have hw2 : IntKind.i64.wrap ((n : Int) * (n1 : Int)) = (p : Int) := by
        have e : (n : Int) * (n1 : Int) = (p : Int) := by rw [← hp, ← hn1, Int.natCast_mul]
        rw [e]
        exact IntWalk.i64_in _ (by omega)
      have hw3 : (p : Int).tdiv 2 = (q : Int) := by rw [Int.tdiv_eq_ediv_of_nonneg (by omega)]; omega
      have hw4 : (p : Int) / 2 = (q : Int) := by omega
      have hw5 : IntKind.i64.wrap (q : Int) = (q : Int) := IntWalk.i64_in _ (by omega)
      have US := Lib.hid ho.us
      have MT := Lib.hid ho.mt
      have LOW := Lib.hid ho.low
      have HDR0 : ∀ x, 0 ≤ st.D x ∧ st.D x ≤ 1000 := fun x => by
        have := ho.rg x
        have := ho.ml
        have := HSM.out.len
        omega
      clear ho htg hR hn1 hp hq hp30
      obtain ⟨D, hD⟩ : ∃ D, st.D = D := ⟨_, rfl⟩
      rw [hD] at US HUS HDR0
      have HDR := Lib.hid HDR0
      clear HDR0
      clear hD
      generalize st.met = met at *
      by_cases g1 : s.length = R
      · have g1i : ((s.length : Int) == (R : Int)) = true := by simp [g1]
        by_cases g2 : met.length = q
        · have g2i : ((met.length : Int) == (q : Int)) = true := by simp [g2]
          rw [decide_eq_true g1, decide_eq_true g2] at HRS
          clear g1 g2
          go_upto_region 18 with fail
          refine wp_region_noPanic ?_
          have hS : (fun W' : World => UAt W' w.heap.size D ∧ HMet W' (w.heap.size + 1) met) wr.drew := ⟨(US.out.step (Below.refl _ _).drew), (MT.out.step (Below.refl _ _).drew)⟩
          refine wp_region_any (by kernel_rfl) (wpAny_of_T (S := fun W' : World => UAt W' w.heap.size D ∧ HMet W' (w.heap.size + 1) met) (m := 18) _ _ _ _ ?_)
          refine' T_take (i := 0) (v := .agg #[.int .i64 (D 0), .int .i64 (D 1), .int .i64 (D 2), .int .i64 (D 3), .int .i64 (D 4), .int .i64 (D 5), .int .i64 (D 6), .int .i64 (D 7), .int .i64 (D 8), .int .i64 (D 9), .int .i64 (D 10), .int .i64 (D 11), .int .i64 (D 12), .int .i64 (D 13), .int .i64 (D 14), .int .i64 (D 15), .int .i64 (D 16), .int .i64 (D 17)]) rfl (by kernel_rfl) (by kernel_rfl) (by kernel_rfl) (by kernel_rfl) (fun _ _ _ h => h) (by kernel_rfl) hS ?_ ?_
          · intro Wv hW
            exact exec_load110 hW.1 (.tmp 4) rfl rfl
          try simp only [Act.put, List.getElem_toArray, List.getElem_cons_zero, List.getElem_cons_succ, List.setIfInBounds_toArray, List.set_cons_zero, List.set_cons_succ]
          refine' T_take (i := 1) (v := _) rfl (by kernel_rfl) (by kernel_rfl) (by kernel_rfl) (by kernel_rfl) (fun _ _ _ h => h) (by kernel_rfl) hS ?_ ?_
          rotate_left 1
          · intro Wv hW
            go_simp
            first | done | with_reducible rfl | omega
          try simp only [Act.put, List.getElem_toArray, List.getElem_cons_zero, List.getElem_cons_succ, List.setIfInBounds_toArray, List.set_cons_zero, List.set_cons_succ]
          refine' T_take (i := 2) (v := _) rfl (by kernel_rfl) (by kernel_rfl) (by kernel_rfl) (by kernel_rfl) (fun _ _ _ h => h) (by kernel_rfl) hS ?_ ?_
          rotate_left 1
          · intro Wv hW
            go_simp
            first | done | with_reducible rfl | omega
          try simp only [Act.put, List.getElem_toArray, List.getElem_cons_zero, List.getElem_cons_succ, List.setIfInBounds_toArray, List.set_cons_zero, List.set_cons_succ]
          refine' T_take (i := 3) (v := _) rfl (by kernel_rfl) (by kernel_rfl) (by kernel_rfl) (by kernel_rfl) (fun _ _ _ h => h) (by kernel_rfl) hS ?_ ?_
          rotate_left 1
          · intro Wv hW
            go_simp
            first | done | with_reducible rfl | omega
          try simp only [Act.put, List.getElem_toArray, List.getElem_cons_zero, List.getElem_cons_succ, List.setIfInBounds_toArray, List.set_cons_zero, List.set_cons_succ]
          refine T_ready (rs := [4]) (by kernel_rfl) (by simp) ?_
          refine TReady.cons rfl (fun K hK => ?_) TReady.nil
          try go_simp
          refine (HCN.out _).mono ?_
          rintro e y2 ⟨rfl, rfl⟩
          try go_simp
          refine hK.out _ _ (fun _ => hS) (fun _ => ?_)
          clear hK K
          try simp only [Act.put, List.getElem_toArray, List.getElem_cons_zero, List.getElem_cons_succ, List.setIfInBounds_toArray, List.set_cons_zero, List.set_cons_succ]
          refine' T_take (i := 5) (v := _) rfl (by kernel_rfl) (by kernel_rfl) (by kernel_rfl) (by kernel_rfl) (fun _ _ _ h => h) (by kernel_rfl) hS ?_ ?_
          rotate_left 1
          · intro Wv hW
            go_simp
            first | done | with_reducible rfl | omega
          try simp only [Act.put, List.getElem_toArray, List.getElem_cons_zero, List.getElem_cons_succ, List.setIfInBounds_toArray, List.set_cons_zero, List.set_cons_succ]
          refine' T_take (i := 6) (v := .bool true) rfl (by kernel_rfl) (by kernel_rfl) (by kernel_rfl) (by kernel_rfl) (fun _ _ _ h => h) (by kernel_rfl) hS ?_ ?_
          skip
          · intro Wv hW
            go_simp
            first | done | with_reducible rfl | omega
          try simp only [Act.put, List.getElem_toArray, List.getElem_cons_zero, List.getElem_cons_succ, List.setIfInBounds_toArray, List.set_cons_zero, List.set_cons_succ]
          refine' T_take (i := 7) (v := _) rfl (by kernel_rfl) (by kernel_rfl) (by kernel_rfl) (by kernel_rfl) (fun _ _ _ h => h) (by kernel_rfl) hS ?_ ?_
          rotate_left 1
          · intro Wv hW
            go_simp
            first | done | with_reducible rfl | omega
          try simp only [Act.put, List.getElem_toArray, List.getElem_cons_zero, List.getElem_cons_succ, List.setIfInBounds_toArray, List.set_cons_zero, List.set_cons_succ]
          refine' T_take (i := 8) (v := .int .i64 met.length) rfl (by kernel_rfl) (by kernel_rfl) (by kernel_rfl) (by kernel_rfl) (fun _ _ _ h => h) (by kernel_rfl) hS ?_ ?_
          · intro Wv hW
            exact exec_len136 hW.2 (.tmp 118) rfl rfl
          try simp only [Act.put, List.getElem_toArray, List.getElem_cons_zero, List.getElem_cons_succ, List.setIfInBounds_toArray, List.set_cons_zero, List.set_cons_succ]
          refine' T_take (i := 9) (v := _) rfl (by kernel_rfl) (by kernel_rfl) (by kernel_rfl) (by kernel_rfl) (fun _ _ _ h => h) (by kernel_rfl) hS ?_ ?_
          rotate_left 1
          · intro Wv hW
            go_simp
            first | done | with_reducible rfl | omega
          try simp only [Act.put, List.getElem_toArray, List.getElem_cons_zero, List.getElem_cons_succ, List.setIfInBounds_toArray, List.set_cons_zero, List.set_cons_succ]
          refine' T_take (i := 10) (v := _) rfl (by kernel_rfl) (by kernel_rfl) (by kernel_rfl) (by kernel_rfl) (fun _ _ _ h => h) (by kernel_rfl) hS ?_ ?_
          rotate_left 1
          · intro Wv hW
            go_simp
            first | done | with_reducible rfl | omega
          try simp only [Act.put, List.getElem_toArray, List.getElem_cons_zero, List.getElem_cons_succ, List.setIfInBounds_toArray, List.set_cons_zero, List.set_cons_succ]
          refine' T_take (i := 11) (v := _) rfl (by kernel_rfl) (by kernel_rfl) (by kernel_rfl) (by kernel_rfl) (fun _ _ _ h => h) (by kernel_rfl) hS ?_ ?_
          rotate_left 1
          · intro Wv hW
            go_simp
            first | done | with_reducible rfl | omega
          try simp only [Act.put, List.getElem_toArray, List.getElem_cons_zero, List.getElem_cons_succ, List.setIfInBounds_toArray, List.set_cons_zero, List.set_cons_succ]
          refine' T_take (i := 12) (v := _) rfl (by kernel_rfl) (by kernel_rfl) (by kernel_rfl) (by kernel_rfl) (fun _ _ _ h => h) (by kernel_rfl) hS ?_ ?_
          rotate_left 1
          · intro Wv hW
            go_simp
            first | done | with_reducible rfl | omega
          try simp only [Act.put, List.getElem_toArray, List.getElem_cons_zero, List.getElem_cons_succ, List.setIfInBounds_toArray, List.set_cons_zero, List.set_cons_succ]
          refine' T_take (i := 13) (v := _) rfl (by kernel_rfl) (by kernel_rfl) (by kernel_rfl) (by kernel_rfl) (fun _ _ _ h => h) (by kernel_rfl) hS ?_ ?_
          rotate_left 1
          · intro Wv hW
            go_simp
            first | done | with_reducible rfl | omega
          try simp only [Act.put, List.getElem_toArray, List.getElem_cons_zero, List.getElem_cons_succ, List.setIfInBounds_toArray, List.set_cons_zero, List.set_cons_succ]
          refine' T_take (i := 14) (v := .bool true) rfl (by kernel_rfl) (by kernel_rfl) (by kernel_rfl) (by kernel_rfl) (fun _ _ _ h => h) (by kernel_rfl) hS ?_ ?_
          skip
          · intro Wv hW
            go_simp
            first | done | with_reducible rfl | omega
          try simp only [Act.put, List.getElem_toArray, List.getElem_cons_zero, List.getElem_cons_succ, List.setIfInBounds_toArray, List.set_cons_zero, List.set_cons_succ]
          refine' T_take (i := 15) (v := .bool true) rfl (by kernel_rfl) (by kernel_rfl) (by kernel_rfl) (by kernel_rfl) (fun _ _ _ h => h) (by kernel_rfl) hS ?_ ?_
          skip
          · intro Wv hW
            go_simp
            first | done | with_reducible rfl | omega
          try simp only [Act.put, List.getElem_toArray, List.getElem_cons_zero, List.getElem_cons_succ, List.setIfInBounds_toArray, List.set_cons_zero, List.set_cons_succ]
          refine T_ready (rs := [16]) (by kernel_rfl) (by simp) ?_
          refine TReady.cons rfl (fun K hK => ?_) TReady.nil
          rw [if_pos (by kernel_rfl)]
          refine wp_store110 (D := D) hS.1 (.tmp 4) (.tmp 111) rfl rfl rfl ?_
          refine hK.out _ _ (fun _ => ⟨UAt.setRow hS.1, hS.2.kept (grown_setRow _ _ _) (by simp)⟩) (fun hS => ?_)
          replace hS := hS (by decide)
          clear hK K
          try simp only [Act.put, List.getElem_toArray, List.getElem_cons_zero, List.getElem_cons_succ, List.setIfInBounds_toArray, List.set_cons_zero, List.set_cons_succ]
          refine' T_take (i := 17) (v := _) rfl (by kernel_rfl) (by kernel_rfl) (by kernel_rfl) (by kernel_rfl) (fun _ _ _ h => h) (by kernel_rfl) hS ?_ ?_
          rotate_left 1
          · intro Wv hW
            go_simp
            first | done | with_reducible rfl | omega
          try simp only [Act.put, List.getElem_toArray, List.getElem_cons_zero, List.getElem_cons_succ, List.setIfInBounds_toArray, List.set_cons_zero, List.set_cons_succ]
          refine T_done (by kernel_rfl) ?_ _
          refine NoPanic.normal ?_
          try go_simp
          go_wp2_with fail
          refine bodyPost_ret (results_cell110 (D := D) rfl _ _ w.heap.size rfl hS.1) rfl ?_
          exact ⟨_, HUS.out.symm, by rw [HRS.out]; rfl, below_setRow LOW.out.drew (Nat.le_refl _), HDR.out⟩
        · have g2i : ((met.length : Int) == (q : Int)) = false := by simp; omega
          rw [decide_eq_true g1, decide_eq_false g2] at HRS
          clear g1 g2
          go_upto_region 18 with fail
          refine wp_region_noPanic ?_
          have hS : (fun W' : World => UAt W' w.heap.size D ∧ HMet W' (w.heap.size + 1) met) wr.drew := ⟨(US.out.step (Below.refl _ _).drew), (MT.out.step (Below.refl _ _).drew)⟩
          refine wp_region_any (by kernel_rfl) (wpAny_of_T (S := fun W' : World => UAt W' w.heap.size D ∧ HMet W' (w.heap.size + 1) met) (m := 18) _ _ _ _ ?_)
          refine' T_take (i := 0) (v := .agg #[.int .i64 (D 0), .int .i64 (D 1), .int .i64 (D 2), .int .i64 (D 3), .int .i64 (D 4), .int .i64 (D 5), .int .i64 (D 6), .int .i64 (D 7), .int .i64 (D 8), .int .i64 (D 9), .int .i64 (D 10), .int .i64 (D 11), .int .i64 (D 12), .int .i64 (D 13), .int .i64 (D 14), .int .i64 (D 15), .int .i64 (D 16), .int .i64 (D 17)]) rfl (by kernel_rfl) (by kernel_rfl) (by kernel_rfl) (by kernel_rfl) (fun _ _ _ h => h) (by kernel_rfl) hS ?_ ?_
          · intro Wv hW
            exact exec_load110 hW.1 (.tmp 4) rfl rfl
          try simp only [Act.put, List.getElem_toArray, List.getElem_cons_zero, List.getElem_cons_succ, List.setIfInBounds_toArray, List.set_cons_zero, List.set_cons_succ]
          refine' T_take (i := 1) (v := _) rfl (by kernel_rfl) (by kernel_rfl) (by kernel_rfl) (by kernel_rfl) (fun _ _ _ h => h) (by kernel_rfl) hS ?_ ?_
          rotate_left 1
          · intro Wv hW
            go_simp
            first | done | with_reducible rfl | omega
          try simp only [Act.put, List.getElem_toArray, List.getElem_cons_zero, List.getElem_cons_succ, List.setIfInBounds_toArray, List.set_cons_zero, List.set_cons_succ]
          refine' T_take (i := 2) (v := _) rfl (by kernel_rfl) (by kernel_rfl) (by kernel_rfl) (by kernel_rfl) (fun _ _ _ h => h) (by kernel_rfl) hS ?_ ?_
          rotate_left 1
          · intro Wv hW
            go_simp
            first | done | with_reducible rfl | omega
          try simp only [Act.put, List.getElem_toArray, List.getElem_cons_zero, List.getElem_cons_succ, List.setIfInBounds_toArray, List.set_cons_zero, List.set_cons_succ]
          refine' T_take (i := 3) (v := _) rfl (by kernel_rfl) (by kernel_rfl) (by kernel_rfl) (by kernel_rfl) (fun _ _ _ h => h) (by kernel_rfl) hS ?_ ?_
          rotate_left 1
          · intro Wv hW
            go_simp
            first | done | with_reducible rfl | omega
          try simp only [Act.put, List.getElem_toArray, List.getElem_cons_zero, List.getElem_cons_succ, List.setIfInBounds_toArray, List.set_cons_zero, List.set_cons_succ]
          refine T_ready (rs := [4]) (by kernel_rfl) (by simp) ?_
          refine TReady.cons rfl (fun K hK => ?_) TReady.nil
          try go_simp
          refine (HCN.out _).mono ?_
          rintro e y2 ⟨rfl, rfl⟩
          try go_simp
          refine hK.out _ _ (fun _ => hS) (fun _ => ?_)
          clear hK K
          try simp only [Act.put, List.getElem_toArray, List.getElem_cons_zero, List.getElem_cons_succ, List.setIfInBounds_toArray, List.set_cons_zero, List.set_cons_succ]
          refine' T_take (i := 5) (v := _) rfl (by kernel_rfl) (by kernel_rfl) (by kernel_rfl) (by kernel_rfl) (fun _ _ _ h => h) (by kernel_rfl) hS ?_ ?_
          rotate_left 1
          · intro Wv hW
            go_simp
            first | done | with_reducible rfl | omega
          try simp only [Act.put, List.getElem_toArray, List.getElem_cons_zero, List.getElem_cons_succ, List.setIfInBounds_toArray, List.set_cons_zero, List.set_cons_succ]
          refine' T_take (i := 6) (v := .bool true) rfl (by kernel_rfl) (by kernel_rfl) (by kernel_rfl) (by kernel_rfl) (fun _ _ _ h => h) (by kernel_rfl) hS ?_ ?_
          skip
          · intro Wv hW
            go_simp
            first | done | with_reducible rfl | omega
          try simp only [Act.put, List.getElem_toArray, List.getElem_cons_zero, List.getElem_cons_succ, List.setIfInBounds_toArray, List.set_cons_zero, List.set_cons_succ]
          refine' T_take (i := 7) (v := _) rfl (by kernel_rfl) (by kernel_rfl) (by kernel_rfl) (by kernel_rfl) (fun _ _ _ h => h) (by kernel_rfl) hS ?_ ?_
          rotate_left 1
          · intro Wv hW
            go_simp
            first | done | with_reducible rfl | omega
          try simp only [Act.put, List.getElem_toArray, List.getElem_cons_zero, List.getElem_cons_succ, List.setIfInBounds_toArray, List.set_cons_zero, List.set_cons_succ]
          refine' T_take (i := 8) (v := .int .i64 met.length) rfl (by kernel_rfl) (by kernel_rfl) (by kernel_rfl) (by kernel_rfl) (fun _ _ _ h => h) (by kernel_rfl) hS ?_ ?_
          · intro Wv hW
            exact exec_len136 hW.2 (.tmp 118) rfl rfl
          try simp only [Act.put, List.getElem_toArray, List.getElem_cons_zero, List.getElem_cons_succ, List.setIfInBounds_toArray, List.set_cons_zero, List.set_cons_succ]
          refine' T_take (i := 9) (v := _) rfl (by kernel_rfl) (by kernel_rfl) (by kernel_rfl) (by kernel_rfl) (fun _ _ _ h => h) (by kernel_rfl) hS ?_ ?_
          rotate_left 1
          · intro Wv hW
            go_simp
            first | done | with_reducible rfl | omega
          try simp only [Act.put, List.getElem_toArray, List.getElem_cons_zero, List.getElem_cons_succ, List.setIfInBounds_toArray, List.set_cons_zero, List.set_cons_succ]
          refine' T_take (i := 10) (v := _) rfl (by kernel_rfl) (by kernel_rfl) (by kernel_rfl) (by kernel_rfl) (fun _ _ _ h => h) (by kernel_rfl) hS ?_ ?_
          rotate_left 1
          · intro Wv hW
            go_simp
            first | done | with_reducible rfl | omega
          try simp only [Act.put, List.getElem_toArray, List.getElem_cons_zero, List.getElem_cons_succ, List.setIfInBounds_toArray, List.set_cons_zero, List.set_cons_succ]
          refine' T_take (i := 11) (v := _) rfl (by kernel_rfl) (by kernel_rfl) (by kernel_rfl) (by kernel_rfl) (fun _ _ _ h => h) (by kernel_rfl) hS ?_ ?_
          rotate_left 1
          · intro Wv hW
            go_simp
            first | done | with_reducible rfl | omega
          try simp only [Act.put, List.getElem_toArray, List.getElem_cons_zero, List.getElem_cons_succ, List.setIfInBounds_toArray, List.set_cons_zero, List.set_cons_succ]
          refine' T_take (i := 12) (v := _) rfl (by kernel_rfl) (by kernel_rfl) (by kernel_rfl) (by kernel_rfl) (fun _ _ _ h => h) (by kernel_rfl) hS ?_ ?_
          rotate_left 1
          · intro Wv hW
            go_simp
            first | done | with_reducible rfl | omega
          try simp only [Act.put, List.getElem_toArray, List.getElem_cons_zero, List.getElem_cons_succ, List.setIfInBounds_toArray, List.set_cons_zero, List.set_cons_succ]
          refine' T_take (i := 13) (v := _) rfl (by kernel_rfl) (by kernel_rfl) (by kernel_rfl) (by kernel_rfl) (fun _ _ _ h => h) (by kernel_rfl) hS ?_ ?_
          rotate_left 1
          · intro Wv hW
            go_simp
            first | done | with_reducible rfl | omega
          try simp only [Act.put, List.getElem_toArray, List.getElem_cons_zero, List.getElem_cons_succ, List.setIfInBounds_toArray, List.set_cons_zero, List.set_cons_succ]
          refine' T_take (i := 14) (v := .bool false) rfl (by kernel_rfl) (by kernel_rfl) (by kernel_rfl) (by kernel_rfl) (fun _ _ _ h => h) (by kernel_rfl) hS ?_ ?_
          skip
          · intro Wv hW
            go_simp
            first | done | with_reducible rfl | omega
          try simp only [Act.put, List.getElem_toArray, List.getElem_cons_zero, List.getElem_cons_succ, List.setIfInBounds_toArray, List.set_cons_zero, List.set_cons_succ]
          refine' T_take (i := 15) (v := .bool false) rfl (by kernel_rfl) (by kernel_rfl) (by kernel_rfl) (by kernel_rfl) (fun _ _ _ h => h) (by kernel_rfl) hS ?_ ?_
          skip
          · intro Wv hW
            go_simp
            first | done | with_reducible rfl | omega
          try simp only [Act.put, List.getElem_toArray, List.getElem_cons_zero, List.getElem_cons_succ, List.setIfInBounds_toArray, List.set_cons_zero, List.set_cons_succ]
          refine T_ready (rs := [16]) (by kernel_rfl) (by simp) ?_
          refine TReady.cons rfl (fun K hK => ?_) TReady.nil
          rw [if_pos (by kernel_rfl)]
          refine wp_store110 (D := D) hS.1 (.tmp 4) (.tmp 111) rfl rfl rfl ?_
          refine hK.out _ _ (fun _ => ⟨UAt.setRow hS.1, hS.2.kept (grown_setRow _ _ _) (by simp)⟩) (fun hS => ?_)
          replace hS := hS (by decide)
          clear hK K
          try simp only [Act.put, List.getElem_toArray, List.getElem_cons_zero, List.getElem_cons_succ, List.setIfInBounds_toArray, List.set_cons_zero, List.set_cons_succ]
          refine' T_take (i := 17) (v := _) rfl (by kernel_rfl) (by kernel_rfl) (by kernel_rfl) (by kernel_rfl) (fun _ _ _ h => h) (by kernel_rfl) hS ?_ ?_
          rotate_left 1
          · intro Wv hW
            go_simp
            first | done | with_reducible rfl | omega
          try simp only [Act.put, List.getElem_toArray, List.getElem_cons_zero, List.getElem_cons_succ, List.setIfInBounds_toArray, List.set_cons_zero, List.set_cons_succ]
          refine T_done (by kernel_rfl) ?_ _
          refine NoPanic.normal ?_
          try go_simp
          go_wp2_with fail
          refine bodyPost_ret (results_cell110 (D := D) rfl _ _ w.heap.size rfl hS.1) rfl ?_
          exact ⟨_, HUS.out.symm, by rw [HRS.out]; rfl, below_setRow LOW.out.drew (Nat.le_refl _), HDR.out⟩
      · have g1i : ((s.length : Int) == (R : Int)) = false := by simp; omega
        rw [decide_eq_false g1, Bool.false_and] at HRS
        clear g1
        go_upto_region 18 with fail
        refine wp_region_noPanic ?_
        have hS : (fun W' : World => UAt W' w.heap.size D ∧ HMet W' (w.heap.size + 1) met) wr.drew := ⟨(US.out.step (Below.refl _ _).drew), (MT.out.step (Below.refl _ _).drew)⟩
        refine wp_region_any (by kernel_rfl) (wpAny_of_T (S := fun W' : World => UAt W' w.heap.size D ∧ HMet W' (w.heap.size + 1) met) (m := 18) _ _ _ _ ?_)
        refine' T_take (i := 0) (v := .agg #[.int .i64 (D 0), .int .i64 (D 1), .int .i64 (D 2), .int .i64 (D 3), .int .i64 (D 4), .int .i64 (D 5), .int .i64 (D 6), .int .i64 (D 7), .int .i64 (D 8), .int .i64 (D 9), .int .i64 (D 10), .int .i64 (D 11), .int .i64 (D 12), .int .i64 (D 13), .int .i64 (D 14), .int .i64 (D 15), .int .i64 (D 16), .int .i64 (D 17)]) rfl (by kernel_rfl) (by kernel_rfl) (by kernel_rfl) (by kernel_rfl) (fun _ _ _ h => h) (by kernel_rfl) hS ?_ ?_
        · intro Wv hW
          exact exec_load110 hW.1 (.tmp 4) rfl rfl
        try simp only [Act.put, List.getElem_toArray, List.getElem_cons_zero, List.getElem_cons_succ, List.setIfInBounds_toArray, List.set_cons_zero, List.set_cons_succ]
        refine' T_take (i := 1) (v := _) rfl (by kernel_rfl) (by kernel_rfl) (by kernel_rfl) (by kernel_rfl) (fun _ _ _ h => h) (by kernel_rfl) hS ?_ ?_
        rotate_left 1
        · intro Wv hW
          go_simp
          first | done | with_reducible rfl | omega
        try simp only [Act.put, List.getElem_toArray, List.getElem_cons_zero, List.getElem_cons_succ, List.setIfInBounds_toArray, List.set_cons_zero, List.set_cons_succ]
        refine' T_take (i := 2) (v := _) rfl (by kernel_rfl) (by kernel_rfl) (by kernel_rfl) (by kernel_rfl) (fun _ _ _ h => h) (by kernel_rfl) hS ?_ ?_
        rotate_left 1
        · intro Wv hW
          go_simp
          first | done | with_reducible rfl | omega
        try simp only [Act.put, List.getElem_toArray, List.getElem_cons_zero, List.getElem_cons_succ, List.setIfInBounds_toArray, List.set_cons_zero, List.set_cons_succ]
        refine' T_take (i := 3) (v := _) rfl (by kernel_rfl) (by kernel_rfl) (by kernel_rfl) (by kernel_rfl) (fun _ _ _ h => h) (by kernel_rfl) hS ?_ ?_
        rotate_left 1
        · intro Wv hW
          go_simp
          first | done | with_reducible rfl | omega
        try simp only [Act.put, List.getElem_toArray, List.getElem_cons_zero, List.getElem_cons_succ, List.setIfInBounds_toArray, List.set_cons_zero, List.set_cons_succ]
        refine T_ready (rs := [4]) (by kernel_rfl) (by simp) ?_
        refine TReady.cons rfl (fun K hK => ?_) TReady.nil
        try go_simp
        refine (HCN.out _).mono ?_
        rintro e y2 ⟨rfl, rfl⟩
        try go_simp
        refine hK.out _ _ (fun _ => hS) (fun _ => ?_)
        clear hK K
        try simp only [Act.put, List.getElem_toArray, List.getElem_cons_zero, List.getElem_cons_succ, List.setIfInBounds_toArray, List.set_cons_zero, List.set_cons_succ]
        refine' T_take (i := 5) (v := _) rfl (by kernel_rfl) (by kernel_rfl) (by kernel_rfl) (by kernel_rfl) (fun _ _ _ h => h) (by kernel_rfl) hS ?_ ?_
        rotate_left 1
        · intro Wv hW
          go_simp
          first | done | with_reducible rfl | omega
        try simp only [Act.put, List.getElem_toArray, List.getElem_cons_zero, List.getElem_cons_succ, List.setIfInBounds_toArray, List.set_cons_zero, List.set_cons_succ]
        refine' T_take (i := 6) (v := .bool false) rfl (by kernel_rfl) (by kernel_rfl) (by kernel_rfl) (by kernel_rfl) (fun _ _ _ h => h) (by kernel_rfl) hS ?_ ?_
        skip
        · intro Wv hW
          go_simp
          first | done | with_reducible rfl | omega
        try simp only [Act.put, List.getElem_toArray, List.getElem_cons_zero, List.getElem_cons_succ, List.setIfInBounds_toArray, List.set_cons_zero, List.set_cons_succ]
        refine' T_skip (i := 7) rfl (by kernel_rfl) (by kernel_rfl) (by kernel_rfl) (by kernel_rfl) (fun _ _ _ h => h) (by kernel_rfl) hS ?_
        try simp only [Act.put, List.getElem_toArray, List.getElem_cons_zero, List.getElem_cons_succ, List.setIfInBounds_toArray, List.set_cons_zero, List.set_cons_succ]
        refine' T_skip (i := 8) rfl (by kernel_rfl) (by kernel_rfl) (by kernel_rfl) (by kernel_rfl) (fun _ _ _ h => h) (by kernel_rfl) hS ?_
        try simp only [Act.put, List.getElem_toArray, List.getElem_cons_zero, List.getElem_cons_succ, List.setIfInBounds_toArray, List.set_cons_zero, List.set_cons_succ]
        refine' T_skip (i := 9) rfl (by kernel_rfl) (by kernel_rfl) (by kernel_rfl) (by kernel_rfl) (fun _ _ _ h => h) (by kernel_rfl) hS ?_
        try simp only [Act.put, List.getElem_toArray, List.getElem_cons_zero, List.getElem_cons_succ, List.setIfInBounds_toArray, List.set_cons_zero, List.set_cons_succ]
        refine' T_skip (i := 10) rfl (by kernel_rfl) (by kernel_rfl) (by kernel_rfl) (by kernel_rfl) (fun _ _ _ h => h) (by kernel_rfl) hS ?_
        try simp only [Act.put, List.getElem_toArray, List.getElem_cons_zero, List.getElem_cons_succ, List.setIfInBounds_toArray, List.set_cons_zero, List.set_cons_succ]
        refine' T_skip (i := 11) rfl (by kernel_rfl) (by kernel_rfl) (by kernel_rfl) (by kernel_rfl) (fun _ _ _ h => h) (by kernel_rfl) hS ?_
        try simp only [Act.put, List.getElem_toArray, List.getElem_cons_zero, List.getElem_cons_succ, List.setIfInBounds_toArray, List.set_cons_zero, List.set_cons_succ]
        refine' T_skip (i := 12) rfl (by kernel_rfl) (by kernel_rfl) (by kernel_rfl) (by kernel_rfl) (fun _ _ _ h => h) (by kernel_rfl) hS ?_
        try simp only [Act.put, List.getElem_toArray, List.getElem_cons_zero, List.getElem_cons_succ, List.setIfInBounds_toArray, List.set_cons_zero, List.set_cons_succ]
        refine' T_skip (i := 13) rfl (by kernel_rfl) (by kernel_rfl) (by kernel_rfl) (by kernel_rfl) (fun _ _ _ h => h) (by kernel_rfl) hS ?_
        try simp only [Act.put, List.getElem_toArray, List.getElem_cons_zero, List.getElem_cons_succ, List.setIfInBounds_toArray, List.set_cons_zero, List.set_cons_succ]
        refine' T_skip (i := 14) rfl (by kernel_rfl) (by kernel_rfl) (by kernel_rfl) (by kernel_rfl) (fun _ _ _ h => h) (by kernel_rfl) hS ?_
        try simp only [Act.put, List.getElem_toArray, List.getElem_cons_zero, List.getElem_cons_succ, List.setIfInBounds_toArray, List.set_cons_zero, List.set_cons_succ]
        refine' T_take (i := 15) (v := .bool false) rfl (by kernel_rfl) (by kernel_rfl) (by kernel_rfl) (by kernel_rfl) (fun _ _ _ h => h) (by kernel_rfl) hS ?_ ?_
        skip
        · intro Wv hW
          go_simp
          first | done | with_reducible rfl | omega
        try simp only [Act.put, List.getElem_toArray, List.getElem_cons_zero, List.getElem_cons_succ, List.setIfInBounds_toArray, List.set_cons_zero, List.set_cons_succ]
        refine T_ready (rs := [16]) (by kernel_rfl) (by simp) ?_
        refine TReady.cons rfl (fun K hK => ?_) TReady.nil
        rw [if_pos (by kernel_rfl)]
        refine wp_store110 (D := D) hS.1 (.tmp 4) (.tmp 111) rfl rfl rfl ?_
        refine hK.out _ _ (fun _ => ⟨UAt.setRow hS.1, hS.2.kept (grown_setRow _ _ _) (by simp)⟩) (fun hS => ?_)
        replace hS := hS (by decide)
        clear hK K
        try simp only [Act.put, List.getElem_toArray, List.getElem_cons_zero, List.getElem_cons_succ, List.setIfInBounds_toArray, List.set_cons_zero, List.set_cons_succ]
        refine' T_take (i := 17) (v := _) rfl (by kernel_rfl) (by kernel_rfl) (by kernel_rfl) (by kernel_rfl) (fun _ _ _ h => h) (by kernel_rfl) hS ?_ ?_
        rotate_left 1
        · intro Wv hW
          go_simp
          first | done | with_reducible rfl | omega
        try simp only [Act.put, List.getElem_toArray, List.getElem_cons_zero, List.getElem_cons_succ, List.setIfInBounds_toArray, List.set_cons_zero, List.set_cons_succ]
        refine T_done (by kernel_rfl) ?_ _
        refine NoPanic.normal ?_
        try go_simp
        go_wp2_with fail
        refine bodyPost_ret (results_cell110 (D := D) rfl _ _ w.heap.size rfl hS.1) rfl ?_
        exact ⟨_, HUS.out.symm, by rw [HRS.out]; rfl, below_setRow LOW.out.drew (Nat.le_refl _), HDR.out⟩
end

section

open Go.RowKit
set_option linter.unusedSimpArgs false
set_option linter.unusedVariables false

attribute [local go_sem] Oper.semAt_some
theorem wpList_load110 {W : World} {b : Nat} {D : Nat → Int} (h : Hid (UAt W b D)) {ops : Array Oper} {rest : List Oper} {o : Oper} {a : Act} {Q : Exit → Act → World → Prop} (hgd : o.guard = none) (x : Operand) (ho : o.op = .load 110 x) (hx : a.eval x = .pointer (some ⟨b, 0, none⟩)) (hk : wpList Try.prog ops Q rest (a.put o.dst (.agg #[.int .i64 (D 0), .int .i64 (D 1), .int .i64 (D 2), .int .i64 (D 3), .int .i64 (D 4), .int .i64 (D 5), .int .i64 (D 6), .int .i64 (D 7), .int .i64 (D 8), .int .i64 (D 9), .int .i64 (D 10), .int .i64 (D 11), .int .i64 (D 12), .int .i64 (D 13), .int .i64 (D 14), .int .i64 (D 15), .int .i64 (D 16), .int .i64 (D 17)])) W) : wpList Try.prog ops Q (o :: rest) a W :=
  wpList_load_row hgd 110 x ho b hx 110 _ _ _ h.out under110 rfl size110 hk
/-- What Uneven answers: the unevenness, or the error. -/
def unS (n : Nat) (s : List (List Mt)) : Int := if rightS n s then unevS n s else 0
def unE (n : Nat) (s : List (List Mt)) : Int := if rightS n s then 0 else 10
set_option maxRecDepth 100000 in
set_option maxHeartbeats 4000000 in
theorem uneven30_c (n : Nat) (hn : 2 ≤ n ∧ n ≤ 6) (s : List (List Mt)) (A : Option Addr) (c : Nat) (w : World) (hs : Grm w.heap.size w A s) (hc : s.length ≤ c ∧ c ≤ 9223372036854775807) (hsm : SmallS s) (hbad : allF n s st0 = none → 0 < s.length ∧ 0 < (rowx s 0).length ∧ (n : Int) ≤ (mtx (rowx s 0) 0).b) :
    Calls Try.prog 30 #[.int .i64 (n : Int), .slice A s.length c] w (Ans w (.tuple #[.int .i64 (unS n s), .int .i64 (unE n s)])) := by
  have HT := Lib.hid (teams50_c (n : Int) w)
  rw [show inB (n : Int) 2 6 = true by rw [inB_eq]; omega] at HT
  have HR := Lib.hid (right66_c n hn s A c w hs hc hsm hbad)
  have HN := Lib.hid hn
  clear hs hsm hbad hn
  go_enter Try.func30, Try.ntmps30
  go_wp2_with fail
  refine HT.out.mono ?_
  rintro e w1 ⟨rfl, rfl⟩
  go_wp2_with fail
  refine HR.out.mono ?_
  rintro e w1 ⟨D, hD, rfl, hb, hrg⟩
  have HB := Lib.hid hb
  have HRG := Lib.hid hrg
  have HUE : Hid (unevS n s = unevD D n) := by show _ = _; unfold unevS; rw [← hD]
  have HUN := Lib.hid (fun W => uneven67_c D n W HN.out hrg)
  have HZ : Hid (UAt (w1.alloc (.cells #[.int .i64 0, .int .i64 0, .int .i64 0, .int .i64 0, .int .i64 0, .int .i64 0, .int .i64 0, .int .i64 0, .int .i64 0, .int .i64 0, .int .i64 0, .int .i64 0, .int .i64 0, .int .i64 0, .int .i64 0, .int .i64 0, .int .i64 0, .int .i64 0] 110)) w1.heap.size (fun _ => 0)) := World.alloc_heap_new _ _
  have US : Hid (UAt ((w1.alloc (.cells #[.int .i64 0, .int .i64 0, .int .i64 0, .int .i64 0, .int .i64 0, .int .i64 0, .int .i64 0, .int .i64 0, .int .i64 0, .int .i64 0, .int .i64 0, .int .i64 0, .int .i64 0, .int .i64 0, .int .i64 0, .int .i64 0, .int .i64 0, .int .i64 0] 110)).setRow w1.heap.size #[.int .i64 (D 0), .int .i64 (D 1), .int .i64 (D 2), .int .i64 (D 3), .int .i64 (D 4), .int .i64 (D 5), .int .i64 (D 6), .int .i64 (D 7), .int .i64 (D 8), .int .i64 (D 9), .int .i64 (D 10), .int .i64 (D 11), .int .i64 (D 12), .int .i64 (D 13), .int .i64 (D 14), .int .i64 (D 15), .int .i64 (D 16), .int .i64 (D 17)]) w1.heap.size D) := HZ.out.setRow
  have hb2 : Below w.heap.size w ((w1.alloc (.cells #[.int .i64 0, .int .i64 0, .int .i64 0, .int .i64 0, .int .i64 0, .int .i64 0, .int .i64 0, .int .i64 0, .int .i64 0, .int .i64 0, .int .i64 0, .int .i64 0, .int .i64 0, .int .i64 0, .int .i64 0, .int .i64 0, .int .i64 0, .int .i64 0] 110)).setRow w1.heap.size #[.int .i64 (D 0), .int .i64 (D 1), .int .i64 (D 2), .int .i64 (D 3), .int .i64 (D 4), .int .i64 (D 5), .int .i64 (D 6), .int .i64 (D 7), .int .i64 (D 8), .int .i64 (D 9), .int .i64 (D 10), .int .i64 (D 11), .int .i64 (D 12), .int .i64 (D 13), .int .i64 (D 14), .int .i64 (D 15), .int .i64 (D 16), .int .i64 (D 17)]) := below_setRow (hb.alloc hb.size _) hb.size
  have HB2 := Lib.hid hb2
  clear hb hrg hD hb2
  cases hrs : rightS n s
  · have HS : Hid (unS n s = 0) := by show _ = _; unfold unS; rw [hrs]; rfl
    have HE : Hid (unE n s = 10) := by show _ = _; unfold unE; rw [hrs]; rfl
    clear hrs
    go_wp2_with (refine wpList_store110 D HZ rfl (.tmp 6) (.tmp 15) rfl rfl rfl ?_)
    refine bodyPost_ret (results_tmp2 rfl _ _ _) rfl ?_
    exact ⟨by rw [HS.out, HE.out]; rfl, HB2.out⟩
  · have HS : Hid (unS n s = unevD D n) := by show _ = _; unfold unS; rw [hrs, if_pos rfl, HUE.out]
    have HE : Hid (unE n s = 0) := by show _ = _; unfold unE; rw [hrs]; rfl
    clear hrs
    go_wp2_with (first | (refine wpList_store110 D HZ rfl (.tmp 6) (.tmp 15) rfl rfl rfl ?_) | (refine wpList_load110 US rfl (.tmp 6) rfl rfl ?_))
    refine (HUN.out _).mono ?_
    rintro e w5 ⟨rfl, hb⟩
    have HB5 := Lib.hid hb
    clear hb
    go_wp2_with fail
    refine bodyPost_ret (results_tmp2 rfl _ _ _) rfl ?_
    exact ⟨by rw [HS.out, HE.out]; rfl, HB2.out.trans (HB5.out.mono HB2.out.size)⟩
set_option maxRecDepth 100000 in
set_option maxHeartbeats 4000000 in
theorem prove31_c (n : Nat) (hn : 2 ≤ n ∧ n ≤ 6) (un : Int) (s : List (List Mt)) (A : Option Addr) (c : Nat) (w : World) (hs : Grm w.heap.size w A s) (hc : s.length ≤ c ∧ c ≤ 9223372036854775807) (hsm : SmallS s) (hbad : allF n s st0 = none → 0 < s.length ∧ 0 < (rowx s 0).length ∧ (n : Int) ≤ (mtx (rowx s 0) 0).b) :
    Calls Try.prog 31 #[.int .i64 (n : Int), .slice A s.length c, .int .i64 un] w (Ans w (.bool (proveS n s un))) := by
  have HU := Lib.hid (uneven30_c n hn s A c w hs hc hsm hbad)
  clear hs hsm hbad hn
  cases hrs : rightS n s
  · rw [show unS n s = 0 by unfold unS; rw [hrs]; rfl, show unE n s = 10 by unfold unE; rw [hrs]; rfl] at HU
    have HP : Hid (proveS n s un = false) := by show _ = _; unfold proveS; rw [hrs]; rfl
    clear hrs
    go_enter Try.func31, Try.ntmps31
    go_wp2_with fail
    refine HU.out.mono ?_
    rintro e w1 ⟨rfl, hb⟩
    have HB := Lib.hid hb
    clear hb
    go_wp2_with fail
    go_ret
    exact ⟨ret_bool HP.out.symm, HB.out⟩
  · rw [show unS n s = unevS n s by unfold unS; rw [hrs]; rfl, show unE n s = 0 by unfold unE; rw [hrs]; rfl] at HU
    have HP : Hid (proveS n s un = decide (unevS n s ≤ un)) := by show _ = _; unfold proveS; rw [hrs]; rfl
    clear hrs
    go_enter Try.func31, Try.ntmps31
    go_wp2_with fail
    refine HU.out.mono ?_
    rintro e w1 ⟨rfl, hb⟩
    have HB := Lib.hid hb
    clear hb
    go_wp2_with fail
    go_ret
    exact ⟨ret_bool HP.out.symm, HB.out⟩
end

section

open Go.RowKit
set_option linter.unusedSimpArgs false
set_option linter.unusedVariables false

attribute [local go_sem] Oper.semAt_some
def playedG : List Gm := [⟨0, 1, 700, 650, false⟩, ⟨2, 3, 610, 600, false⟩, ⟨1, 2, 680, 640, false⟩, ⟨0, 3, 0, 0, true⟩, ⟨1, 3, 0, 0, true⟩]
def playedL : Lg := ⟨4, playedG⟩
theorem shown_rank : rankL playedL [1, 3] = [1, 1, 3, 4] ∧ rankErr playedL [1, 3] = 0 := by decide +kernel
theorem shown_after : afL playedL [3, 2] = [2, 3, 2, 3] ∧ afErr playedL [3, 2] = 0 := by decide +kernel
theorem shown_reason : reasonL playedL 2 = [0, 1, 3] ∧ reasonE playedL 2 = 0 := by decide +kernel
theorem shown_build : proveS 4 (buildS 4) 3 = true ∧ proveS 4 (buildS 4) 2 = false := by decide +kernel
theorem small_build : ∀ n, 2 ≤ n → n ≤ 6 → (buildS n).length ≤ 8 ∧ ∀ r, r < (buildS n).length → (rowx (buildS n) r).length ≤ 8 ∧ ∀ j, j < (rowx (buildS n) r).length → 0 ≤ (mtx (rowx (buildS n) r) j).a ∧ (mtx (rowx (buildS n) r) j).a < (mtx (rowx (buildS n) r) j).b ∧ (mtx (rowx (buildS n) r) j).b ≤ 5 ∧ 0 ≤ (mtx (rowx (buildS n) r) j).l ∧ (mtx (rowx (buildS n) r) j).l ≤ 2 := by
  intro n h1 h2
  obtain rfl | rfl | rfl | rfl | rfl : n = 2 ∨ n = 3 ∨ n = 4 ∨ n = 5 ∨ n = 6 := by omega
  all_goals decide +kernel
theorem smallB (n : Nat) (hn : 2 ≤ n ∧ n ≤ 6) : SmallS (buildS n) := by
  obtain ⟨h1, h2⟩ := small_build n hn.1 hn.2
  exact ⟨h1, fun r hr => (h2 r hr).1, fun r hr => (h2 r hr).2⟩
theorem ints_lit (w : World) (xs : List Int) : Ints (w.heap.size + 1) (w.alloc (.cells (xs.map (Value.int .i64)).toArray 3)) (some ⟨w.heap.size, 0, none⟩) xs := fun _ => by
  refine ⟨w.heap.size, 0, rfl, by omega, fun k hk => ?_⟩
  have h := World.alloc_heap_new w (.cells (xs.map (Value.int .i64)).toArray 3)
  generalize w.alloc (.cells (xs.map (Value.int .i64)).toArray 3) = W at *
  simp [World.cell?, h, ix, hk]
theorem byts_lit (w : World) (xs : List Int) (hx : ∀ k, k < xs.length → 0 ≤ ix xs k ∧ ix xs k ≤ 255) : Byts (w.heap.size + 1) (w.alloc (.cells (xs.map (Value.int .u8)).toArray 5)) (some ⟨w.heap.size, 0, none⟩) xs := fun _ => by
  refine ⟨w.heap.size, 0, rfl, by omega, fun k hk => ⟨?_, hx k hk⟩⟩
  have h := World.alloc_heap_new w (.cells (xs.map (Value.int .u8)).toArray 5)
  generalize w.alloc (.cells (xs.map (Value.int .u8)).toArray 5) = W at *
  simp [World.cell?, h, ix, hk]
/-- The chapter's league, in new memory. -/
def PlayedP (w : World) (e : Ending) (w' : World) : Prop := ∃ q, e = .returned (.agg #[.int .i64 4, .slice (some ⟨q, 0, none⟩) 5 5]) ∧ Gms w'.heap.size w' (some ⟨q, 0, none⟩) playedG ∧ Below w.heap.size w w'
set_option maxRecDepth 100000 in
set_option maxHeartbeats 4000000 in
theorem played49_c (w : World) : Calls Try.prog 49 #[] w (PlayedP w) := by
  go_enter Try.func49, Try.ntmps49
  go_wp2_with fail
  have hX : ((w.alloc (.cells #[.int .i64 4, .slice (some ⟨w.heap.size + 1, 0, none⟩) 5 5] 32)).alloc (.cells #[.int .i64 0, .int .i64 1, .int .i64 700, .int .i64 650, .bool false, .int .i64 2, .int .i64 3, .int .i64 610, .int .i64 600, .bool false, .int .i64 1, .int .i64 2, .int .i64 680, .int .i64 640, .bool false, .int .i64 0, .int .i64 3, .int .i64 0, .int .i64 0, .bool true, .int .i64 1, .int .i64 3, .int .i64 0, .int .i64 0, .bool true] 85)).heap[w.heap.size + 1]? = some (.cells #[.int .i64 0, .int .i64 1, .int .i64 700, .int .i64 650, .bool false, .int .i64 2, .int .i64 3, .int .i64 610, .int .i64 600, .bool false, .int .i64 1, .int .i64 2, .int .i64 680, .int .i64 640, .bool false, .int .i64 0, .int .i64 3, .int .i64 0, .int .i64 0, .bool true, .int .i64 1, .int .i64 3, .int .i64 0, .int .i64 0, .bool true] 85) := by
    have := World.alloc_heap_new (w.alloc (.cells #[.int .i64 4, .slice (some ⟨w.heap.size + 1, 0, none⟩) 5 5] 32)) (.cells #[.int .i64 0, .int .i64 1, .int .i64 700, .int .i64 650, .bool false, .int .i64 2, .int .i64 3, .int .i64 610, .int .i64 600, .bool false, .int .i64 1, .int .i64 2, .int .i64 680, .int .i64 640, .bool false, .int .i64 0, .int .i64 3, .int .i64 0, .int .i64 0, .bool true, .int .i64 1, .int .i64 3, .int .i64 0, .int .i64 0, .bool true] 85)
    rwa [World.size_alloc] at this
  have h0 : ((w.alloc (.cells #[.int .i64 4, .slice (some ⟨w.heap.size + 1, 0, none⟩) 5 5] 32)).alloc (.cells #[.int .i64 0, .int .i64 1, .int .i64 700, .int .i64 650, .bool false, .int .i64 2, .int .i64 3, .int .i64 610, .int .i64 600, .bool false, .int .i64 1, .int .i64 2, .int .i64 680, .int .i64 640, .bool false, .int .i64 0, .int .i64 3, .int .i64 0, .int .i64 0, .bool true, .int .i64 1, .int .i64 3, .int .i64 0, .int .i64 0, .bool true] 85)).heap[w.heap.size]? = some (.cells #[.int .i64 4, .slice (some ⟨w.heap.size + 1, 0, none⟩) 5 5] 32) := (heap_alloc_old _ _ (by simp)).trans (World.alloc_heap_new _ _)
  have hb : Below w.heap.size w ((w.alloc (.cells #[.int .i64 4, .slice (some ⟨w.heap.size + 1, 0, none⟩) 5 5] 32)).alloc (.cells #[.int .i64 0, .int .i64 1, .int .i64 700, .int .i64 650, .bool false, .int .i64 2, .int .i64 3, .int .i64 610, .int .i64 600, .bool false, .int .i64 1, .int .i64 2, .int .i64 680, .int .i64 640, .bool false, .int .i64 0, .int .i64 3, .int .i64 0, .int .i64 0, .bool true, .int .i64 1, .int .i64 3, .int .i64 0, .int .i64 0, .bool true] 85)) := ((Below.refl _ _).alloc (Nat.le_refl _) _).alloc (by simp) _
  generalize ((w.alloc (.cells #[.int .i64 4, .slice (some ⟨w.heap.size + 1, 0, none⟩) 5 5] 32)).alloc (.cells #[.int .i64 0, .int .i64 1, .int .i64 700, .int .i64 650, .bool false, .int .i64 2, .int .i64 3, .int .i64 610, .int .i64 600, .bool false, .int .i64 1, .int .i64 2, .int .i64 680, .int .i64 640, .bool false, .int .i64 0, .int .i64 3, .int .i64 0, .int .i64 0, .bool true, .int .i64 1, .int .i64 3, .int .i64 0, .int .i64 0, .bool true] 85)) = W at *
  refine bodyPost_ret (v := .agg #[.int .i64 4, .slice (some ⟨w.heap.size + 1, 0, none⟩) 5 5]) (by simp [results, Try.results49, go_sem, World.cell?, h0]) rfl ?_
  refine ⟨w.heap.size + 1, rfl, fun _ => ⟨w.heap.size + 1, 0, rfl, (Array.getElem?_eq_some_iff.1 hX).1, fun k hk => ?_⟩, hb⟩
  have hk5 : k < 5 := hk
  rcases (by omega : k = 0 ∨ k = 1 ∨ k = 2 ∨ k = 3 ∨ k = 4) with rfl | rfl | rfl | rfl | rfl <;> simp [W5, World.cell?, hX, gmx, playedG]
theorem qt_any {w : World} {v : Value} {e : Ending} {w' : World} (h : Qt w v e w') : Ans w v e w' := h.ans
set_option maxRecDepth 100000 in
set_option maxHeartbeats 8000000 in
theorem awake16_c (w : World) : Calls Try.prog 16 #[] w (Ans w (.bool true)) := by
  have HPL := Lib.hid played49_c
  have HRK := Lib.hid (fun (W : World) (q : Nat) (Au : Option Addr) (h : Gms W.heap.size W (some ⟨q, 0, none⟩) playedG) (hu : Byts W.heap.size W Au [1, 3]) => by
    have := rank19_c playedL (some ⟨q, 0, none⟩) Au 5 2 [1, 3] W h ⟨by decide, by decide⟩ hu ⟨by decide, by decide⟩ (by decide)
    rw [shown_rank.1, shown_rank.2] at this
    exact (show Calls Try.prog 19 #[.agg #[.int .i64 4, .slice (some ⟨q, 0, none⟩) 5 5], .slice Au 2 2] W (ListE W [1, 1, 3, 4] 0) from this))
  have HAF := Lib.hid (fun (W : World) (q : Nat) (Au : Option Addr) (h : Gms W.heap.size W (some ⟨q, 0, none⟩) playedG) (hu : Byts W.heap.size W Au [3, 2]) => by
    have := after25_c playedL (some ⟨q, 0, none⟩) Au 5 2 [3, 2] W h ⟨by decide, by decide⟩ hu ⟨by decide, by decide⟩ (by decide)
    rw [shown_after.1, shown_after.2] at this
    exact (show Calls Try.prog 25 #[.agg #[.int .i64 4, .slice (some ⟨q, 0, none⟩) 5 5], .slice Au 2 2] W (ListE W [2, 3, 2, 3] 0) from this))
  have HRE := Lib.hid (fun (W : World) (q : Nat) (h : Gms W.heap.size W (some ⟨q, 0, none⟩) playedG) => by
    have := reason37_c playedL 2 (some ⟨q, 0, none⟩) 5 W h ⟨by decide, by decide⟩
    rw [shown_reason.1, shown_reason.2] at this
    exact (show Calls Try.prog 37 #[.agg #[.int .i64 4, .slice (some ⟨q, 0, none⟩) 5 5], .int .i64 2] W (ListE W [0, 1, 3] 0) from this))
  have HBU := Lib.hid (fun W => build29_c 4 W (by decide))
  have HPR := Lib.hid (fun (un : Int) (W : World) (A : Option Addr) (c : Nat) (hs : Grm W.heap.size W A (buildS 4)) (hc : (buildS 4).length ≤ c ∧ c ≤ 9223372036854775807) => prove31_c 4 (by decide) un (buildS 4) A c W hs hc (smallB 4 (by decide)) (fun e => by exfalso; revert e; decide +kernel))
  have HB := Lib.hid (Below.refl w.heap.size w)
  go_enter Try.func16, Try.ntmps16
  go_wp2_with fail
  refine (HPL.out _).mono ?_
  rintro e x1 ⟨q, rfl, hg, hb⟩
  replace HB := Lib.hid (HB.out.trans (hb.mono HB.out.size))
  have hbl : Below x1.heap.size x1 (x1.alloc (.cells #[.int .u8 1, .int .u8 3] 5)) := (Below.refl _ _).alloc (Nat.le_refl _) _
  have HC := Lib.hid (HRK.out _ q _ (hg.step hbl) ((byts_lit x1 [1, 3] (by decide)).more (by simp)))
  replace HB := Lib.hid (HB.out.trans (hbl.mono HB.out.size))
  clear hb hg hbl
  go_wp2_with fail
  refine HC.out.mono ?_
  rintro e x2 ⟨A1, c1, rfl, ⟨hi1, hc11, hc12⟩, hb⟩
  replace HB := Lib.hid (HB.out.trans (hb.mono HB.out.size))
  have HI1 := Lib.hid hi1
  clear hb hi1 HC
  go_wp2_with fail
  refine (HPL.out _).mono ?_
  rintro e x3 ⟨q3, rfl, hg, hb⟩
  replace HB := Lib.hid (HB.out.trans (hb.mono HB.out.size))
  replace HI1 := Lib.hid (HI1.out.step hb)
  have hbl : Below x3.heap.size x3 (x3.alloc (.cells #[.int .u8 3, .int .u8 2] 5)) := (Below.refl _ _).alloc (Nat.le_refl _) _
  have HC := Lib.hid (HAF.out _ q3 _ (hg.step hbl) ((byts_lit x3 [3, 2] (by decide)).more (by simp)))
  replace HB := Lib.hid (HB.out.trans (hbl.mono HB.out.size))
  replace HI1 := Lib.hid (HI1.out.step hbl)
  clear hb hg hbl
  go_wp2_with fail
  refine HC.out.mono ?_
  rintro e x4 ⟨A2, c2, rfl, ⟨hi2, hc21, hc22⟩, hb⟩
  replace HB := Lib.hid (HB.out.trans (hb.mono HB.out.size))
  replace HI1 := Lib.hid (HI1.out.step hb)
  have HI2 := Lib.hid hi2
  clear hb hi2 HC
  go_wp2_with fail
  refine (HPL.out _).mono ?_
  rintro e x5 ⟨q5, rfl, hg, hb⟩
  replace HB := Lib.hid (HB.out.trans (hb.mono HB.out.size))
  replace HI1 := Lib.hid (HI1.out.step hb)
  replace HI2 := Lib.hid (HI2.out.step hb)
  have HC := Lib.hid (HRE.out _ q5 hg)
  clear hb hg
  go_wp2_with fail
  refine HC.out.mono ?_
  rintro e x6 ⟨A3, c3, rfl, ⟨hi3, hc31, hc32⟩, hb⟩
  replace HB := Lib.hid (HB.out.trans (hb.mono HB.out.size))
  replace HI1 := Lib.hid (HI1.out.step hb)
  replace HI2 := Lib.hid (HI2.out.step hb)
  have HI3 := Lib.hid hi3
  clear hb hi3 HC
  go_wp2_with fail
  refine (HBU.out _).mono ?_
  rintro e x7 ⟨A4, c4, rfl, ⟨hi4, hc41, hc42⟩, hb⟩
  replace HB := Lib.hid (HB.out.trans (hb.mono HB.out.size))
  replace HI1 := Lib.hid (HI1.out.step hb)
  replace HI2 := Lib.hid (HI2.out.step hb)
  replace HI3 := Lib.hid (HI3.out.step hb)
  have HI4 := Lib.hid hi4
  clear hb hi4
  have hbl : Below x7.heap.size x7 (x7.alloc (.cells #[.int .i64 1, .int .i64 1, .int .i64 3, .int .i64 4] 3)) := (Below.refl _ _).alloc (Nat.le_refl _) _
  have HC := Lib.hid (ints23_c A1 (some ⟨x7.heap.size, 0, none⟩) [1, 1, 3, 4] [1, 1, 3, 4] c1 4 (x7.alloc (.cells #[.int .i64 1, .int .i64 1, .int .i64 3, .int .i64 4] 3)) (HI1.out.step hbl) ((ints_lit x7 [1, 1, 3, 4]).more (by simp)) ⟨hc11, hc12⟩ ⟨by decide, by decide⟩)
  replace HB := Lib.hid (HB.out.trans (hbl.mono HB.out.size))
  replace HI2 := Lib.hid (HI2.out.step hbl)
  replace HI3 := Lib.hid (HI3.out.step hbl)
  replace HI4 := Lib.hid (HI4.out.step hbl)
  clear hbl
  have eq1 : eqB [1, 1, 3, 4] [1, 1, 3, 4] = true := by decide
  rw [eq1] at HC
  go_wp2_with fail
  refine HC.out.mono ?_
  rintro e x8 hq
  obtain ⟨rfl, hb⟩ := hq.ans
  replace HB := Lib.hid (HB.out.trans (hb.mono HB.out.size))
  replace HI2 := Lib.hid (HI2.out.step hb)
  replace HI3 := Lib.hid (HI3.out.step hb)
  replace HI4 := Lib.hid (HI4.out.step hb)
  clear hb hq HC
  have hbl : Below x8.heap.size x8 (x8.alloc (.cells #[.int .i64 2, .int .i64 3, .int .i64 2, .int .i64 3] 3)) := (Below.refl _ _).alloc (Nat.le_refl _) _
  have HC := Lib.hid (ints23_c A2 (some ⟨x8.heap.size, 0, none⟩) [2, 3, 2, 3] [2, 3, 2, 3] c2 4 (x8.alloc (.cells #[.int .i64 2, .int .i64 3, .int .i64 2, .int .i64 3] 3)) (HI2.out.step hbl) ((ints_lit x8 [2, 3, 2, 3]).more (by simp)) ⟨hc21, hc22⟩ ⟨by decide, by decide⟩)
  replace HB := Lib.hid (HB.out.trans (hbl.mono HB.out.size))
  replace HI3 := Lib.hid (HI3.out.step hbl)
  replace HI4 := Lib.hid (HI4.out.step hbl)
  clear hbl
  have eq2 : eqB [2, 3, 2, 3] [2, 3, 2, 3] = true := by decide
  rw [eq2] at HC
  go_wp2_with fail
  refine HC.out.mono ?_
  rintro e x9 hq
  obtain ⟨rfl, hb⟩ := hq.ans
  replace HB := Lib.hid (HB.out.trans (hb.mono HB.out.size))
  replace HI3 := Lib.hid (HI3.out.step hb)
  replace HI4 := Lib.hid (HI4.out.step hb)
  clear hb hq HC
  have hbl : Below x9.heap.size x9 (x9.alloc (.cells #[.int .i64 0, .int .i64 1, .int .i64 3] 3)) := (Below.refl _ _).alloc (Nat.le_refl _) _
  have HC := Lib.hid (ints23_c A3 (some ⟨x9.heap.size, 0, none⟩) [0, 1, 3] [0, 1, 3] c3 3 (x9.alloc (.cells #[.int .i64 0, .int .i64 1, .int .i64 3] 3)) (HI3.out.step hbl) ((ints_lit x9 [0, 1, 3]).more (by simp)) ⟨hc31, hc32⟩ ⟨by decide, by decide⟩)
  replace HB := Lib.hid (HB.out.trans (hbl.mono HB.out.size))
  replace HI4 := Lib.hid (HI4.out.step hbl)
  clear hbl
  have eq3 : eqB [0, 1, 3] [0, 1, 3] = true := by decide
  rw [eq3] at HC
  go_wp2_with fail
  refine HC.out.mono ?_
  rintro e x10 hq
  obtain ⟨rfl, hb⟩ := hq.ans
  replace HB := Lib.hid (HB.out.trans (hb.mono HB.out.size))
  replace HI4 := Lib.hid (HI4.out.step hb)
  clear hb hq HC
  have HC := Lib.hid (HPR.out 3 x10 A4 c4 HI4.out ⟨hc41, hc42⟩)
  rw [shown_build.1] at HC
  go_wp2_with fail
  refine HC.out.mono ?_
  rintro e x11 ⟨rfl, hb⟩
  replace HB := Lib.hid (HB.out.trans (hb.mono HB.out.size))
  replace HI4 := Lib.hid (HI4.out.step hb)
  clear hb HC
  have HC := Lib.hid (HPR.out 2 x11 A4 c4 HI4.out ⟨hc41, hc42⟩)
  rw [shown_build.2] at HC
  go_wp2_with fail
  refine HC.out.mono ?_
  rintro e x12 ⟨rfl, hb⟩
  replace HB := Lib.hid (HB.out.trans (hb.mono HB.out.size))
  clear hb HC
  go_wp2_with fail
  go_ret
  exact ⟨rfl, HB.out⟩
end
end Go.Proofs.Ytjokbffdepcpkaa
