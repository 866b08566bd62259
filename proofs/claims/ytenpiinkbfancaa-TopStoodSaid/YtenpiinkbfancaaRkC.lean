/-
  rack: how many pins a ball can leave; what it leaves in a truth (carried over from the proofs of the chapter 02).
-/
import Derived.Test.YtenpiinkbfancaaRkB
import Derived.Maps.OwnSet
import Derived.Maps.RangeWalk
import Derived.DeepKeys4
namespace Go.Proofs.Ytenpiinkbfancaa.Rk
open Go.RowKit
set_option linter.unusedSimpArgs false
set_option linter.unusedVariables false

section
open Go.RowKit
theorem laidOutH : laidOutB Try.prog = true := by kernel_rfl
theorem under4 : Try.prog.underlying 4 = some .bool := by kernel_rfl
theorem under100 : Try.prog.underlying 156 = some (.int .u16) := by kernel_rfl
theorem under113 : Try.prog.underlying 161 = some (.map 156 4) := by kernel_rfl
theorem under139 : Try.prog.underlying 243 = some (.map 246 4) := by kernel_rfl
theorem zero4 (w : World) : (zeroValue 4).run Try.prog w = .ok (.bool false) w := by kernel_rfl
theorem state_law : Maps.Keyed Try.prog 246 := Maps.Keyed.of_law (deep_law_laid laidOutH (m := 3) (by decide) (of_decide_eq_true (by kernel_rfl)) (by kernel_rfl) (by kernel_rfl))
theorem set_law : Maps.Keyed Try.prog 156 := Maps.int_keyed under100
theorem set_key {u : Nat} (hu : u < 65536) : keyOf Try.prog 156 (.int .u16 (u : Int)) = some (.int .u16 (u : Int)) := Maps.keyOf_int_mk under100 (by
  simp only [Lit.wf, show IntKind.u16.min = 0 by decide, show IntKind.u16.max = 65535 by decide, Bool.and_eq_true, decide_eq_true_eq]
  omega)
theorem plainElem_bool_inv {v : Value} {z : DataW Unit × List MemPlace} (h : plainElem Try.prog 4 v = some z) : ∃ x, v = .bool x ∧ z = (.lit (.bool x), []) := by
  unfold plainElem at h
  rw [under4] at h
  cases v <;> simp at h
  exact ⟨_, rfl, h.symm⟩
set_option maxRecDepth 100000 in
theorem state_keys : ∀ a : Fin 5, ∀ b : Fin 1024, (keyOf Try.prog 246 (.agg #[.int .i64 ((a : Nat) : Int), .int .u16 ((b : Nat) : Int)])).isSome = true := by decide +kernel
theorem state_key {k t : Nat} (hk : k ≤ 4) (ht : t < 2 ^ 10) : ∃ kl, keyOf Try.prog 246 (.agg #[.int .i64 (k : Int), .int .u16 (t : Int)]) = some kl :=
  Option.isSome_iff_exists.1 (state_keys ⟨k, by omega⟩ ⟨t, ht⟩)
/-- Block b is a map of at most n states that tells S. -/
def HSt (w : World) (b n : Nat) (S : Nat → Nat → Bool) : Prop :=
  ∃ D : DataW Unit, w.ownsMap Try.prog 246 (plainElem Try.prog 4) b n D ∧ ∀ (k t : Nat) (kl : Lit), keyOf Try.prog 246 (.agg #[.int .i64 (k : Int), .int .u16 (t : Int)]) = some kl → D.atKey kl (.lit (.bool false)) = .lit (.bool (S k t))
/-- Block b is a map of at most n sets that holds those of O. -/
def HSet (w : World) (b n : Nat) (O : Nat → Bool) : Prop :=
  ∃ D : DataW Unit, w.ownsMap Try.prog 156 (plainElem Try.prog 4) b n D ∧ (∀ u : Nat, u < 65536 → D.atKey (.int .u16 (u : Int)) (.lit (.bool false)) = .lit (.bool (O u))) ∧ ∀ u : Nat, u < 65536 → Maps.has D (.int .u16 (u : Int)) = O u
section
variable {w w' : World} {b n : Nat} {S : Nat → Nat → Bool} {O : Nat → Bool} {row : Option Nat}
theorem HSt.made (w : World) : HSt (w.alloc (.map #[] 0)) w.heap.size 0 (fun _ _ => false) := ⟨.map [], World.ownsMap_made _ _ _ _, fun k t kl _ => Maps.atKey_of_not_has (D := .map []) (k := kl) (by rfl) _⟩
theorem HSet.made (w : World) : HSet (w.alloc (.map #[] 0)) w.heap.size 0 (fun _ => false) := ⟨.map [], World.ownsMap_made _ _ _ _, fun u _ => Maps.atKey_of_not_has (D := .map []) (by rfl) _, fun u _ => rfl⟩
theorem HSt.kept (h : HSt w b n S) (hg : w.grownBy w' row) (hne : some b ≠ row) : HSt w' b n S := by
  obtain ⟨D, h1, h2⟩ := h
  exact ⟨D, h1.kept hg hne, h2⟩
theorem HSet.kept (h : HSet w b n O) (hg : w.grownBy w' row) (hne : some b ≠ row) : HSet w' b n O := by
  obtain ⟨D, h1, h2⟩ := h
  exact ⟨D, h1.kept hg hne, h2⟩
theorem HSt.lt (h : HSt w b n S) : b < w.heap.size := by
  obtain ⟨D, h1, _⟩ := h
  exact h1.lt
theorem HSet.lt (h : HSet w b n O) : b < w.heap.size := by
  obtain ⟨D, h1, _⟩ := h
  exact h1.lt
theorem HSt.step (h : HSt w b n S) (hb : Below w.heap.size w w') : HSt w' b n S := h.kept (only_below hb none) (by simp)
theorem HSet.step (h : HSet w b n O) (hb : Below w.heap.size w w') : HSet w' b n O := h.kept (only_below hb none) (by simp)
theorem HSt.look (h : HSt w b n S) {k t : Nat} (hk : k ≤ 4) (ht : t < 2 ^ 10) :
    (Instr.lookup 243 (.map (some b)) (.agg #[.int .i64 (k : Int), .int .u16 (t : Int)]) false).run Try.prog w = .ok (.bool (S k t)) w := by
  obtain ⟨D, h1, h2⟩ := h
  obtain ⟨kl, hkl⟩ := state_key hk ht
  obtain ⟨v, ps, hr, hv⟩ := World.ownsMap.lookup (w := w) h1 state_law under139 (zero4 _) (plainElem_bool under4 false) hkl
  obtain ⟨x, rfl, hx⟩ := plainElem_bool_inv hv
  rw [h2 k t kl hkl] at hx
  simp only [Prod.mk.injEq, DataW.lit.injEq, Lit.bool.injEq] at hx
  rw [hr, ← hx.1]
theorem HSet.look (h : HSet w b n O) {u : Nat} (hu : u < 65536) :
    (Instr.lookup 161 (.map (some b)) (.int .u16 (u : Int)) false).run Try.prog w = .ok (.bool (O u)) w := by
  obtain ⟨D, h1, h2, _⟩ := h
  obtain ⟨v, ps, hr, hv⟩ := World.ownsMap.lookup (w := w) h1 set_law under113 (zero4 _) (plainElem_bool under4 false) (set_key hu)
  obtain ⟨x, rfl, hx⟩ := plainElem_bool_inv hv
  rw [h2 u hu] at hx
  simp only [Prod.mk.injEq, DataW.lit.injEq, Lit.bool.injEq] at hx
  rw [hr, ← hx.1]
theorem HSt.put (h : HSt w b n S) (hn : n ≤ 1000000000000000) {k t : Nat} (hk : k ≤ 4) (ht : t < 2 ^ 10) :
    ∃ w', (Instr.mapUpdate 243 (.map (some b)) (.agg #[.int .i64 (k : Int), .int .u16 (t : Int)]) (.bool true)).run Try.prog w = .ok () w' ∧ HSt w' b (n + 1) (updS S k t) ∧ w.grownBy w' (some b) := by
  obtain ⟨D, h1, h2⟩ := h
  obtain ⟨kl, hkl⟩ := state_key hk ht
  have K := state_law
  obtain ⟨w', hr, hw, hg⟩ := h1.update K under139 (by unfold maxLen; omega) hkl (plainElem_bool under4 true)
  refine ⟨w', hr, ⟨_, hw, fun k' t' kl' hk' => ?_⟩, hg⟩
  by_cases e : kl' = kl
  · subst e
    have hv := K.inj hk' hkl
    simp only [Value.agg.injEq, Array.mk.injEq, List.cons.injEq, Value.int.injEq, and_true, true_and] at hv
    rw [Maps.atKey_put_same h1.isMap (K.key hkl), updS, if_pos (by omega)]
  · rw [Maps.atKey_put_other e, h2 k' t' kl' hk', updS, if_neg]
    rintro ⟨rfl, rfl⟩
    exact e (Option.some.inj (hk'.symm.trans hkl))
theorem HSet.put (h : HSet w b n O) (hn : n ≤ 1000000000000000) {u : Nat} (hu : u < 65536) :
    ∃ w', (Instr.mapUpdate 161 (.map (some b)) (.int .u16 (u : Int)) (.bool true)).run Try.prog w = .ok () w' ∧ HSet w' b (n + 1) (updO O u) ∧ w.grownBy w' (some b) := by
  obtain ⟨D, h1, h2, h3⟩ := h
  have K := set_law
  obtain ⟨w', hr, hw, hg⟩ := h1.update K under113 (by unfold maxLen; omega) (set_key hu) (plainElem_bool under4 true)
  refine ⟨w', hr, ⟨_, hw, fun u' hu' => ?_, fun u' hu' => ?_⟩, hg⟩
  · by_cases e : u' = u
    · subst e
      rw [Maps.atKey_put_same h1.isMap (K.key (set_key hu)), updO, if_pos rfl]
    · rw [Maps.atKey_put_other (fun h => e (by simp only [Lit.int.injEq, true_and] at h; omega)), h2 u' hu', updO, if_neg e]
  · by_cases e : u' = u
    · subst e
      rw [Maps.has_put_same h1.isMap (K.key (set_key hu)), updO, if_pos rfl]
    · rw [Maps.has_put_other (fun h => e (by simp only [Lit.int.injEq, true_and] at h; omega)), h3 u' hu', updO, if_neg e]
end
/-- A store, at a step of a region that draws its order. -/
theorem step_hset {ops : Array Oper} {o : Oper} {a : Act} {K : Act → World → Prop} {Q : Exit → Act → World → Prop} {E : Prop} (m x v : Operand) (hgd : o.guard = none) (hop : o.op = Op.mapUpdate 161 m x v)
    (w : World) (b n : Nat) (O : Nat → Bool) (u : Nat) (hm : a.eval m = .map (some b)) (hx : a.eval x = .int .u16 (u : Int)) (hv : a.eval v = .bool true) (h : HSet w b n O) (hn : n ≤ 1000000000000000) (hu : u < 65536)
    (hK : ∀ w', Hid (HSet w' b (n + 1) (updO O u)) → Hid (w.grownBy w' (some b)) → K (a.put o.dst undef) w') : if Region.wanted o (yielded ops a.tmps) = true then Oper.wp Try.prog o a w K Q else E := by
  rw [if_pos (by simp [Region.wanted, hgd])]
  obtain ⟨w', hr, h1, h2⟩ := h.put hn hu
  unfold Oper.wp
  simp [execOp, hop, hm, hx, hv, hr, Result.andThen]
  exact hK w' h1 h2
end

section
open Go.RowKit
attribute [local go_sem] Oper.semAt_some
set_option maxRecDepth 100000 in
set_option maxHeartbeats 4000000 in
theorem idle_c (r : Rk) (A : Option Addr) (c pins b : Nat) (w : World) (hr : Ok r) (hl : Lks w.heap.size w A r.links) (hc : r.links.length ≤ c ∧ c ≤ 9223372036854775807) :
    Calls Try.prog 114 #[.agg #[.int .i64 r.rows, .int .i64 r.mid, .int .i64 r.gap, .int .i64 r.reach, .slice A r.links.length c, .int .u16 (pins : Int)], .int .i64 (b : Int)] w (Ans w (.bool (idleB r.links b))) := by
  have HB := Lib.hid (Below.refl w.heap.size w)
  have HL := Lib.hid hl
  have hlen := hr.len
  clear hl
  have hb : Below w.heap.size w (w.alloc (.cells #[.int .i64 r.rows, .int .i64 r.mid, .int .i64 r.gap, .int .i64 r.reach, .slice A r.links.length c, .int .u16 (pins : Int)] 158)) := (Below.refl _ _).alloc (Nat.le_refl _) _
  replace HL := Lib.hid (HL.out.step hb)
  replace HB := Lib.hid (HB.out.trans (hb.mono HB.out.size))
  clear hb
  have k4 : (w.alloc (.cells #[.int .i64 r.rows, .int .i64 r.mid, .int .i64 r.gap, .int .i64 r.reach, .slice A r.links.length c, .int .u16 (pins : Int)] 158)).cell? ⟨w.heap.size, 4, none⟩ = some (.slice A r.links.length c) := by simp
  have hbi := some_bit b
  go_enter Try.func114, Try.ntmps114
  have HBI := Lib.hid hbi
  clear hbi
  go_wp2_with fail
  generalize (w.alloc (.cells #[.int .i64 r.rows, .int .i64 r.mid, .int .i64 r.gap, .int .i64 r.reach, .slice A r.links.length c, .int .u16 (pins : Int)] 158)) = x1 at *
  go_loopw [11] (fun i wr => ∃ k : Nat, k ≤ r.links.length ∧ i = .int .i64 k ∧ AllB k (fun i => !((lx r.links i).s && b.testBit i)) ∧ Below x1.heap.size x1 wr) (fun i _ => r.links.length - (intOf i).toNat)
  case atStart => exact ⟨0, by omega, rfl, fun j hj => by omega, Below.refl _ _⟩
  case round =>
    obtain ⟨k, hk, rfl, hA, hb⟩ := hrel
    have HA := Lib.hid hA
    clear hA
    by_cases h1 : k < r.links.length
    · obtain ⟨b1, off, rfl, hb1, c1, c2, c3⟩ := (HL.out.step hb).at_ h1
      have hz := hb.size
      have h1i : (k : Int) < (r.links.length : Int) := by omega
      have hk64 : k < 64 := by omega
      have hb2 : Below x1.heap.size x1 (wr.alloc (.cells #[.int .i64 (lx r.links k).f, .int .i64 (lx r.links k).t, .bool (lx r.links k).s] 165)) := hb.alloc hz _
      have HB2 := Lib.hid hb2
      have hbk := HBI.out k
      have HNO : Hid ((!((lx r.links k).s && b.testBit k)) = false → idleB r.links b = false) := fun h => allB_false h1 h
      have HYE : Hid ((!((lx r.links k).s && b.testBit k)) = true → AllB (k + 1) (fun i => !((lx r.links i).s && b.testBit i))) := fun h => HA.out.succ h
      generalize lx r.links k = x at *
      obtain ⟨xf, xt, xs⟩ := x
      dsimp only at c1 c2 c3 HB2 HNO HYE
      clear hb hb2
      cases xs
      · have HY := Lib.hid (HYE.out rfl)
        clear hbk
        go_wp2_with fail
        go_roundw
        case rel => exact ⟨k + 1, by omega, by go_num, HY.out, HB2.out⟩
        case measure => simp [intOf]; omega
      · cases ht : b.testBit k
        · have HY := Lib.hid (HYE.out (by rw [ht]; rfl))
          rw [ht] at hbk
          clear ht HNO HYE
          go_wp2_with fail
          go_roundw
          case rel => exact ⟨k + 1, by omega, by go_num, HY.out, HB2.out⟩
          case measure => simp [intOf]; omega
        · have HN := Lib.hid (HNO.out (by rw [ht]; rfl))
          rw [ht] at hbk
          clear ht HNO HYE
          go_wp2_with fail
          go_ret
          exact ⟨ret_bool HN.out.symm, HB.out.trans (HB2.out.mono HB.out.size)⟩
    · obtain rfl : k = r.links.length := by omega
      go_wp2_with fail
      go_ret
      exact ⟨ret_bool (allB_true HA.out).symm, HB.out.trans (hb.mono HB.out.size)⟩
end

section
open Go.RowKit
attribute [local go_sem] Oper.semAt_some
def SFr (n : Nat) : Nat → Prop := fun j => j = n + 4 ∨ j = n + 2
/-- What the closure sees: the rack that is hit (n), the ball (n + 1), the leaves (n + 2, by n + 3), the states (n + 4, by n + 5), itself (n + 6). -/
structure LCtx (W : World) (n : Nat) (r : Rk) (A : Option Addr) (c pins : Nat) (Ab : Option Addr) (cb : Nat) (ball : List Rg) : Prop where
  hh : At6 W n (.int .i64 r.rows) (.int .i64 r.mid) (.int .i64 r.gap) (.int .i64 r.reach) (.slice A r.links.length c) (.int .u16 (pins : Int))
  h1 : W.cell? ⟨n + 1, 0, none⟩ = some (.slice Ab ball.length cb)
  h3 : W.cell? ⟨n + 3, 0, none⟩ = some (.map (some (n + 2)))
  h5 : W.cell? ⟨n + 5, 0, none⟩ = some (.map (some (n + 4)))
  h6 : W.cell? ⟨n + 6, 0, none⟩ = some (.func (.func 113) #[] #[.pointer (some ⟨n + 5, 0, none⟩), .pointer (some ⟨n + 1, 0, none⟩), .pointer (some ⟨n, 0, none⟩), .pointer (some ⟨n + 3, 0, none⟩), .pointer (some ⟨n + 6, 0, none⟩)])
  lk : Lks n W A r.links
  rg : Rgs n W Ab ball
section
variable {W W' : World} {n : Nat} {r : Rk} {A : Option Addr} {c pins : Nat} {Ab : Option Addr} {cb : Nat} {ball : List Rg}
theorem LCtx.lt (h : LCtx W n r A c pins Ab cb ball) : n + 6 < W.heap.size := World.block_lt_of_cell? _ _ h.h6
theorem LCtx.step (h : LCtx W n r A c pins Ab cb ball) (hb : Below W.heap.size W W') : LCtx W' n r A c pins Ab cb ball := by
  have hn := h.lt
  exact ⟨h.hh.step hb, cell_of_ans hb h.h1, cell_of_ans hb h.h3, cell_of_ans hb h.h5, cell_of_ans hb h.h6, h.lk.below (hb.mono (by omega)), h.rg.below (hb.mono (by omega))⟩
theorem LCtx.kept {n₀ : Nat} (h : LCtx W n r A c pins Ab cb ball) (hk : KpS n₀ (SFr n) W W') (hn : n ≤ n₀) : LCtx W' n r A c pins Ab cb ball := by
  have hn2 := h.lt
  have hb : Below n W W' := hk.below hn (by omega) (fun k hk hs => by rcases hs with e | e <;> omega)
  have hS : ∀ j, j = n ∨ j = n + 1 ∨ j = n + 3 ∨ j = n + 5 ∨ j = n + 6 → ¬ SFr n j := fun j hj hs => by unfold SFr at hs; omega
  exact ⟨hk.block h.hh rfl (hS _ (by omega)), hk.cell h.h1 (hS _ (by dsimp only; omega)), hk.cell h.h3 (hS _ (by dsimp only; omega)), hk.cell h.h5 (hS _ (by dsimp only; omega)), hk.cell h.h6 (hS _ (by dsimp only; omega)), h.lk.below hb, h.rg.below hb⟩
end
/-- The state, boxed. -/
def StAt (W : World) (q row t : Nat) : Prop := W.heap[q]? = some (.cells #[.int .i64 (row : Int), .int .u16 (t : Int)] 246)
theorem StAt.cells {W : World} {q row t : Nat} (h : StAt W q row t) : W.cell? ⟨q, 0, none⟩ = some (.int .i64 (row : Int)) ∧ W.cell? ⟨q, 1, none⟩ = some (.int .u16 (t : Int)) := by
  unfold StAt at h
  simp [World.cell?, h]
theorem StAt.step {W W' : World} {q row t : Nat} (h : StAt W q row t) (hb : Below W.heap.size W W') : StAt W' q row t := (hb.block q (Array.getElem?_eq_some_iff.1 h).1).trans h
theorem StAt.kept {W W' : World} {q row t n₀ : Nat} {S : Nat → Prop} (h : StAt W q row t) (hk : KpS n₀ S W W') (hS : ¬ S q) : StAt W' q row t := hk.block h rfl hS
def costO : Nat → Nat
  | 0 => 4096
  | m + 1 => 100 * costO m
theorem kp_grown {A B : World} {b : Nat} (h : KpS A.heap.size (fun j => j = b) A B) : A.grownBy B (some b) := ⟨h.2.1, h.2.2.1, h.2.2.2.1, h.1, fun k hk hne => by
  obtain ⟨o, ho⟩ : ∃ o, A.heap[k]? = some o := ⟨_, Array.getElem?_eq_getElem hk⟩
  rw [h.2.2.2.2 k o ho (.inl hk) (fun e => hne (by rw [e])), ho]⟩
def FrP (W : World) (n : Nat) (r : Rk) (pins : Nat) (ball : List Rg) (m t : Nat) (S : Nat → Nat → Bool) (O : Nat → Bool) (nS nO : Nat) (e : Ending) (w' : World) : Prop :=
  (∃ v, e = .returned v) ∧ ∃ S' O' nS' nO', HSt w' (n + 4) nS' S' ∧ HSet w' (n + 2) nO' O' ∧ nS' ≤ nS + costN m ∧ nO' ≤ nO + costO m ∧ FPost r pins ball m t S O S' O' ∧ KpS W.heap.size (SFr n) W w'
def CallsFr (W : World) (n : Nat) (r : Rk) (pins : Nat) (ball : List Rg) (row m t : Nat) (S : Nat → Nat → Bool) (O : Nat → Bool) (nS nO : Nat) : Prop :=
  Calls Try.prog 113 #[.agg #[.int .i64 (row : Int), .int .u16 (t : Int)], .pointer (some ⟨n + 5, 0, none⟩), .pointer (some ⟨n + 1, 0, none⟩), .pointer (some ⟨n, 0, none⟩), .pointer (some ⟨n + 3, 0, none⟩), .pointer (some ⟨n + 6, 0, none⟩)] W (FrP W n r pins ball m t S O nS nO)
def FromC (n : Nat) (r : Rk) (A : Option Addr) (c pins : Nat) (Ab : Option Addr) (cb : Nat) (ball : List Rg) (m : Nat) : Prop :=
  ∀ (W : World) (row t : Nat) (S : Nat → Nat → Bool) (O : Nat → Bool) (nS nO : Nat), LCtx W n r A c pins Ab cb ball → HSt W (n + 4) nS S → HSet W (n + 2) nO O → FInv r pins ball m S O → t < 2 ^ 10 → row + m = ball.length → nS + costN m ≤ 1000000000000000 → nO + costO m ≤ 1000000000000000 → CallsFr W n r pins ball row m t S O nS nO
theorem box_ctx {W : World} {n row t nS nO : Nat} {r : Rk} {A : Option Addr} {c pins : Nat} {Ab : Option Addr} {cb : Nat} {ball : List Rg} {S : Nat → Nat → Bool} {O : Nat → Bool} (hC : LCtx W n r A c pins Ab cb ball) (hS : HSt W (n + 4) nS S) (hO : HSet W (n + 2) nO O) :
    ∃ W0, W0 = W.alloc (.cells #[.int .i64 (row : Int), .int .u16 (t : Int)] 246) ∧ Below W.heap.size W W0 ∧ LCtx W0 n r A c pins Ab cb ball ∧ HSt W0 (n + 4) nS S ∧ HSet W0 (n + 2) nO O ∧ StAt W0 W.heap.size row t := by
  have hb : Below W.heap.size W (W.alloc (.cells #[.int .i64 (row : Int), .int .u16 (t : Int)] 246)) := (Below.refl _ _).alloc (Nat.le_refl _) _
  exact ⟨_, rfl, hb, hC.step hb, hS.step hb, hO.step hb, World.alloc_heap_new _ _⟩
set_option maxRecDepth 100000 in
set_option maxHeartbeats 4000000 in
theorem from_seen {W : World} {n row t nS nO : Nat} {r : Rk} {A : Option Addr} {c pins : Nat} {Ab : Option Addr} {cb : Nat} {ball : List Rg} {S : Nat → Nat → Bool} {O : Nat → Bool} {m : Nat} (hr : Ok r) (hp : pins < 2 ^ 10) (hbl : (ball.length : Int) = r.rows) (hc : r.links.length ≤ c ∧ c ≤ 9223372036854775807) (hcb : ball.length ≤ cb ∧ cb ≤ 9223372036854775807) (hC : LCtx W n r A c pins Ab cb ball) (hS : HSt W (n + 4) nS S) (hO : HSet W (n + 2) nO O) (hI : FInv r pins ball m S O) (ht : t < 2 ^ 10) (hrow : row + m = ball.length) (hs : S row t = true) : CallsFr W n r pins ball row m t S O nS nO := by
  obtain ⟨W0, hW0, hb0, hC0, hS0, hO0, hq0⟩ := box_ctx (row := row) (t := t) hC hS hO
  have h4 := hr.rows4
  have hl := hS0.look (k := row) (t := t) (by omega) ht
  rw [hs] at hl
  have HP : Hid (FPost r pins ball m t S O S O) := FPost.seen (by omega) hI (by rw [show ball.length - m = row by omega]; exact hs)
  obtain ⟨q0, q1⟩ := hq0.cells
  have c5 := hC0.h5
  have HS := Lib.hid hS0
  have HO := Lib.hid hO0
  have HB := Lib.hid hb0
  clear hb0 hC0 hS0 hO0 hq0 hC hS hO hI hs
  unfold CallsFr
  go_enter Try.func113, Try.ntmps113
  go_upto_region 1 with fail
  rw [← hW0]
  clear hW0
  go_wp2_with fail
  refine bodyPost_ret (results_none rfl _ _ _) rfl ?_
  exact ⟨⟨_, rfl⟩, S, O, nS, nO, HS.out, HO.out, by omega, by omega, HP.out, KpS.of_below HB.out⟩
set_option maxRecDepth 100000 in
set_option maxHeartbeats 8000000 in
theorem from_zero {W : World} {n row t nS nO : Nat} {r : Rk} {A : Option Addr} {c pins : Nat} {Ab : Option Addr} {cb : Nat} {ball : List Rg} {S : Nat → Nat → Bool} {O : Nat → Bool} (hr : Ok r) (hp : pins < 2 ^ 10) (hbl : (ball.length : Int) = r.rows) (hc : r.links.length ≤ c ∧ c ≤ 9223372036854775807) (hcb : ball.length ≤ cb ∧ cb ≤ 9223372036854775807) (hC : LCtx W n r A c pins Ab cb ball) (hS : HSt W (n + 4) nS S) (hO : HSet W (n + 2) nO O) (hI : FInv r pins ball 0 S O) (ht : t < 2 ^ 10) (hs : S ball.length t = false) (hnS : nS + costN 0 ≤ 1000000000000000) (hnO : nO + costO 0 ≤ 1000000000000000) : CallsFr W n r pins ball ball.length 0 t S O nS nO := by
  obtain ⟨W0, hW0, hb0, hC0, hS0, hO0, hq0⟩ := box_ctx (row := ball.length) (t := t) hC hS hO
  have h4 : ball.length ≤ 4 := by have := hr.rows4; omega
  have HBL := Lib.hid hbl
  clear hbl
  have hl := hS0.look (k := ball.length) (t := t) (by omega) ht
  rw [hs] at hl
  obtain ⟨W1, hr1, hS1, hg1⟩ := hS0.put (by omega) (k := ball.length) (t := t) (by omega) ht
  have hlt0 := hC0.lt
  have hC1 : LCtx W1 n r A c pins Ab cb ball := hC0.kept (n₀ := W0.heap.size) (KpS.of_grown hg1 (fun q e => by injection e with e; exact .inl e.symm)) (by omega)
  have hq1 : StAt W1 W.heap.size ball.length t := (hg1.block _ (Array.getElem?_eq_some_iff.1 hq0).1 (fun e => by injection e with e; have := hC.lt; omega)).trans hq0
  have hO1 : HSet W1 (n + 2) nO O := hO0.kept hg1 (fun e => by injection e with e; omega)
  obtain ⟨q0, q1⟩ := hq0.cells
  obtain ⟨p0, p1⟩ := hq1.cells
  have c5 := hC0.h5
  have d1 := hC1.h1
  obtain ⟨⟨e0, e1, e2, e3, e4, e5⟩, -⟩ := hC1.hh.cells
  have HKw : Hid (KpS W.heap.size (SFr n) W W1) := (KpS.of_below hb0).trans ((KpS.of_grown (n₀ := W.heap.size) hg1 (fun q e => by injection e with e; exact .inl e.symm)))
  have HC1 := Lib.hid hC1
  have HQ1 := Lib.hid hq1
  have HS1 := Lib.hid hS1
  have HO1 := Lib.hid hO1
  have hnq : n + 6 < W.heap.size := hC.lt
  have hlL := hr.len
  have HI := Lib.hid hI
  have hpw : IntKind.i64.wrap ((2 : Int) ^ r.links.length) = ((2 ^ r.links.length : Nat) : Int) := by
    have h12 : (2 : Nat) ^ r.links.length ≤ 2 ^ 12 := Nat.pow_le_pow_right (by decide) hlL
    rw [show ((2 : Int) ^ r.links.length) = ((2 ^ r.links.length : Nat) : Int) by simp]
    generalize (2 : Nat) ^ r.links.length = z at *
    exact IntWalk.i64_in _ (by omega)
  have hlL' : (r.links.length : Int) ≤ 12 := by omega
  have hlL64 : r.links.length < 64 := by omega
  have HP12 : Hid (2 ^ r.links.length ≤ 4096) := (Nat.pow_le_pow_right (by decide) hlL : 2 ^ r.links.length ≤ 2 ^ 12)
  clear hb0 hC0 hS0 hO0 hq0 hC hS hO hI hs hg1 hq1 hO1 hS1 hC1
  unfold CallsFr
  go_enter Try.func113, Try.ntmps113
  go_upto_region 1 with fail
  rw [← hW0]
  clear hW0
  go_wp2_with fail
  go_loopw [24] (fun i wr => ∃ (k : Nat) (O' : Nat → Bool) (nO' : Nat), k ≤ 2 ^ r.links.length ∧ i = .int .i64 k ∧ FEnd r pins t O k O' ∧ HSet wr (n + 2) nO' O' ∧ nO' ≤ nO + k ∧ KpS W1.heap.size (fun j => j = n + 2) W1 wr) (fun i _ => 2 ^ r.links.length - (intOf i).toNat)
  case atStart => exact ⟨0, O, nO, Nat.zero_le _, rfl, FEnd.start, HO1.out, by omega, KpS.refl _ _ _⟩
  case round =>
    obtain ⟨k, O', nO', hk, rfl, hE, hOr, hn', hK⟩ := hrel
    have hP := HP12.out
    have hKs : KpS W1.heap.size (SFr n) W1 wr := hK.more (fun _ h => .inr h)
    have hCr := HC1.out.kept hKs (by have := HC1.out.lt; omega)
    have hQr := HQ1.out.kept hK (by omega)
    have HE := Lib.hid hE
    have HOr := Lib.hid hOr
    have HK := Lib.hid hK
    clear hE hOr hK d1 e0 e1 e2 e3 e4 e5 p0 p1
    by_cases h1 : k < 2 ^ r.links.length
    · have h1i : (k : Int) < (2 : Int) ^ r.links.length := by
        have e : ((2 : Int) ^ r.links.length) = ((2 ^ r.links.length : Nat) : Int) := by simp
        rw [e]; exact Int.ofNat_lt.2 h1
      have hk12 : k < 4096 := by omega
      have hkw : IntKind.i64.wrap ((k : Int) + 1) = (k : Int) + 1 := IntWalk.i64_in _ (by omega)
      have hz : n < wr.heap.size := by have := hCr.lt; omega
      have HCr := Lib.hid hCr
      have HQr := Lib.hid hQr
      obtain ⟨⟨e0, e1, e2, e3, e4, e5⟩, -⟩ := hCr.hh.cells
      clear hCr hQr
      cases hid : idleB r.links k
      · have HID := Lib.hid (idle_c r A c pins k wr hr (HCr.out.lk.more (by omega)) hc)
        rw [hid] at HID
        have HE2 := Lib.hid (HE.out.skip hid)
        clear hid
        go_wp2_with fail
        refine HID.out.mono ?_
        rintro e w7 ⟨rfl, hb⟩
        have HB7 := Lib.hid hb
        clear hb
        go_wp2_with fail
        go_roundw
        case rel => exact ⟨k + 1, O', nO', by omega, by go_num, HE2.out, HOr.out.step HB7.out, by omega, HK.out.trans (KpS.of_below HB7.out)⟩
        case measure => simp [intOf]; omega
      · have HID := Lib.hid (idle_c r A c pins k wr hr (HCr.out.lk.more (by omega)) hc)
        rw [hid] at HID
        have HE2 := Lib.hid (HE.out.take hid)
        clear hid
        go_wp2_with fail
        refine HID.out.mono ?_
        rintro e w7 ⟨rfl, hb⟩
        have hC7 := HCr.out.step hb
        have hQ7 := HQr.out.step hb
        have hO7 := HOr.out.step hb
        have hK7 := HK.out.trans (KpS.of_below (n₀ := W1.heap.size) (S := fun j => j = n + 2) hb)
        have HC7 := Lib.hid hC7
        have HQ7 := Lib.hid hQ7
        have HO7 := Lib.hid hO7
        have HK7 := Lib.hid hK7
        have hz7 : n < w7.heap.size := by have := hC7.lt; omega
        clear hb hC7 hQ7 hO7 hK7 HID e0 e1 e2 e3 e4 e5
        have HAN : Hid (bits .andNot .u16 (pins : Int) (fallS r.links (someC r.links k) pins t : Int) = ((restS r pins (someC r.links k) t : Nat) : Int)) := by
          have hf : fallS r.links (someC r.links k) pins t < 2 ^ 10 := fallS_lt ht hp
          show _ = _
          rw [u16_andNot_nat _ _ (by omega) (by omega), rest_is hp ht]
        have HRL : Hid (restS r pins (someC r.links k) t < 65536) := by
          have := restS_lt (r := r) (pins := pins) (c := someC r.links k) (t := t)
          show _ < _
          omega
        generalize restS r pins (someC r.links k) t = RS at *
        go_wp2_with fail
        refine wp_region_noPanic ?_
        have hS : (fun W' : World => Below w7.heap.size w7 W') w7.drew := (Below.refl _ _).drew
        refine wp_region_any (by kernel_rfl) (wpAny_of_T (S := fun W' : World => Below w7.heap.size w7 W') (m := 10) _ _ _ _ ?_)
        refine' T_take (i := 0) (v := _) rfl (by kernel_rfl) (by kernel_rfl) (by kernel_rfl) (by kernel_rfl) (fun _ _ _ h => h) (by rfl) hS ?_ ?_
        rotate_left 1
        · intro Wv hW
          obtain ⟨⟨f0, f1, f2, f3, f4, f5⟩, -⟩ := (HC7.out.step hW).hh.cells
          obtain ⟨g0, g1⟩ := (HQ7.out.step hW).cells
          have g3 := (HC7.out.step hW).h3
          go_simp
          first | done | with_reducible rfl
        try simp only [Act.put, List.setIfInBounds_toArray, List.set_cons_zero, List.set_cons_succ]
        refine' T_take (i := 1) (v := _) rfl (by kernel_rfl) (by kernel_rfl) (by kernel_rfl) (by kernel_rfl) (fun _ _ _ h => h) (by rfl) hS ?_ ?_
        rotate_left 1
        · intro Wv hW
          obtain ⟨⟨f0, f1, f2, f3, f4, f5⟩, -⟩ := (HC7.out.step hW).hh.cells
          obtain ⟨g0, g1⟩ := (HQ7.out.step hW).cells
          have g3 := (HC7.out.step hW).h3
          go_simp
          first | done | with_reducible rfl
        try simp only [Act.put, List.setIfInBounds_toArray, List.set_cons_zero, List.set_cons_succ]
        refine' T_take (i := 2) (v := _) rfl (by kernel_rfl) (by kernel_rfl) (by kernel_rfl) (by kernel_rfl) (fun _ _ _ h => h) (by rfl) hS ?_ ?_
        rotate_left 1
        · intro Wv hW
          obtain ⟨⟨f0, f1, f2, f3, f4, f5⟩, -⟩ := (HC7.out.step hW).hh.cells
          obtain ⟨g0, g1⟩ := (HQ7.out.step hW).cells
          have g3 := (HC7.out.step hW).h3
          go_simp
          first | done | with_reducible rfl
        try simp only [Act.put, List.setIfInBounds_toArray, List.set_cons_zero, List.set_cons_succ]
        refine' T_take (i := 3) (v := _) rfl (by kernel_rfl) (by kernel_rfl) (by kernel_rfl) (by kernel_rfl) (fun _ _ _ h => h) (by rfl) hS ?_ ?_
        rotate_left 1
        · intro Wv hW
          obtain ⟨⟨f0, f1, f2, f3, f4, f5⟩, -⟩ := (HC7.out.step hW).hh.cells
          obtain ⟨g0, g1⟩ := (HQ7.out.step hW).cells
          have g3 := (HC7.out.step hW).h3
          go_simp
          first | done | with_reducible rfl
        try simp only [Act.put, List.setIfInBounds_toArray, List.set_cons_zero, List.set_cons_succ]
        refine' T_take (i := 4) (v := _) rfl (by kernel_rfl) (by kernel_rfl) (by kernel_rfl) (by kernel_rfl) (fun _ _ _ h => h) (by rfl) hS ?_ ?_
        rotate_left 1
        · intro Wv hW
          obtain ⟨⟨f0, f1, f2, f3, f4, f5⟩, -⟩ := (HC7.out.step hW).hh.cells
          obtain ⟨g0, g1⟩ := (HQ7.out.step hW).cells
          have g3 := (HC7.out.step hW).h3
          go_simp
          first | done | with_reducible rfl
        try simp only [Act.put, List.setIfInBounds_toArray, List.set_cons_zero, List.set_cons_succ]
        refine' T_take (i := 5) (v := _) rfl (by kernel_rfl) (by kernel_rfl) (by kernel_rfl) (by kernel_rfl) (fun _ _ _ h => h) (by rfl) hS ?_ ?_
        rotate_left 1
        · intro Wv hW
          obtain ⟨⟨f0, f1, f2, f3, f4, f5⟩, -⟩ := (HC7.out.step hW).hh.cells
          obtain ⟨g0, g1⟩ := (HQ7.out.step hW).cells
          have g3 := (HC7.out.step hW).h3
          go_simp
          first | done | with_reducible rfl
        try simp only [Act.put, List.setIfInBounds_toArray, List.set_cons_zero, List.set_cons_succ]
        refine' T_take (i := 6) (v := _) rfl (by kernel_rfl) (by kernel_rfl) (by kernel_rfl) (by kernel_rfl) (fun _ _ _ h => h) (by rfl) hS ?_ ?_
        rotate_left 1
        · intro Wv hW
          obtain ⟨⟨f0, f1, f2, f3, f4, f5⟩, -⟩ := (HC7.out.step hW).hh.cells
          obtain ⟨g0, g1⟩ := (HQ7.out.step hW).cells
          have g3 := (HC7.out.step hW).h3
          go_simp
          first | done | with_reducible rfl
        try simp only [Act.put, List.setIfInBounds_toArray, List.set_cons_zero, List.set_cons_succ]
        refine' T_take (i := 7) (v := _) rfl (by kernel_rfl) (by kernel_rfl) (by kernel_rfl) (by kernel_rfl) (fun _ _ _ h => h) (by rfl) hS ?_ ?_
        rotate_left 1
        · intro Wv hW
          obtain ⟨⟨f0, f1, f2, f3, f4, f5⟩, -⟩ := (HC7.out.step hW).hh.cells
          obtain ⟨g0, g1⟩ := (HQ7.out.step hW).cells
          have g3 := (HC7.out.step hW).h3
          go_simp
          first | done | with_reducible rfl
        try simp only [Act.put, List.setIfInBounds_toArray, List.set_cons_zero, List.set_cons_succ]
        refine T_ready (rs := [8]) (by kernel_rfl) (by simp) ?_
        refine TReady.cons rfl (fun K hK => ?_) TReady.nil
        try go_simp
        refine (falls_c r A c pins t 62 (k : Int) (someC r.links k) _ hr hp ht ((HC7.out.lk.more (by omega)).step (Below.refl _ _).drew) hc enters78 (fun i hi W => some_c _ _ _ W (by omega))).mono ?_
        rintro e w8 ⟨rfl, hb⟩
        try go_simp
        have hS2 : Below w7.heap.size w7 w8 := below_drew_l hb
        refine hK.out _ _ (fun _ => hS2) (fun _ => ?_)
        clear hK K hS hb
        replace hS := hS2
        clear hS2
        try simp only [Act.put, List.setIfInBounds_toArray, List.set_cons_zero, List.set_cons_succ]
        refine' T_take (i := 9) (v := _) rfl (by kernel_rfl) (by kernel_rfl) (by kernel_rfl) (by kernel_rfl) (fun _ _ _ h => h) (by rfl) hS ?_ ?_
        rotate_left 1
        · intro Wv hW
          have e1 := HAN.out
          go_simp
          first | done | with_reducible rfl
        try simp only [Act.put, List.setIfInBounds_toArray, List.set_cons_zero, List.set_cons_succ]
        refine T_ready (rs := [10]) (by kernel_rfl) (by simp) ?_
        refine TReady.cons rfl (fun K hK => ?_) TReady.nil
        refine step_hset (.tmp 30) (.tmp 39) (.const (.bool true)) rfl rfl w8 (n + 2) nO' O' RS rfl rfl rfl (HO7.out.step hS) (by have := hn'; simp only [costO] at hnO; omega) HRL.out ?_
        intro w9 HO9 HG9
        refine hK.out _ _ (fun h => absurd h (by decide)) (fun _ => ?_)
        have HK9 : Hid (KpS W1.heap.size (fun j => j = n + 2) W1 w9) := (HK7.out.trans (KpS.of_below hS)).trans (KpS.of_grown HG9.out (fun q e => by injection e with e; exact e.symm))
        clear hK K hS
        try simp only [Act.put, List.setIfInBounds_toArray, List.set_cons_zero, List.set_cons_succ]
        refine T_done (by kernel_rfl) ?_ _
        refine NoPanic.normal ?_
        go_wp2_with fail
        go_roundw
        case rel => exact ⟨k + 1, _, nO' + 1, by omega, by go_num, HE2.out, HO9.out, by omega, HK9.out⟩
        case measure => simp [intOf]; omega
    · have hkk : k = 2 ^ r.links.length := by omega
      have h1i : ¬ (k : Int) < (2 : Int) ^ r.links.length := by
        have e : ((2 : Int) ^ r.links.length) = ((2 ^ r.links.length : Nat) : Int) := by simp
        rw [e, hkk]; exact Int.lt_irrefl _
      rw [hkk] at HE
      clear hCr hQr
      have HF := Lib.hid (HE.out.done HI.out)
      clear hkk
      go_wp2_with fail
      refine bodyPost_ret (results_none rfl _ _ _) rfl ?_
      refine ⟨⟨_, rfl⟩, _, O', nS + 1, nO', HS1.out.kept (row := some (n + 2)) (kp_grown HK.out) (by simp), HOr.out, by simp [costN], by simp only [costO]; omega, HF.out, HKw.out.trans ((HK.out.less (by have := HC1.out.lt; exact HKw.out.1)).more (fun _ h => .inr h))⟩
set_option maxRecDepth 100000 in
set_option maxHeartbeats 8000000 in
theorem from_succ {W : World} {n row t nS nO : Nat} {r : Rk} {A : Option Addr} {c pins : Nat} {Ab : Option Addr} {cb : Nat} {ball : List Rg} {S : Nat → Nat → Bool} {O : Nat → Bool} {m : Nat} (hr : Ok r) (hp : pins < 2 ^ 10) (hbl : (ball.length : Int) = r.rows) (hc : r.links.length ≤ c ∧ c ≤ 9223372036854775807) (hcb : ball.length ≤ cb ∧ cb ≤ 9223372036854775807) (hb3 : ∀ k, k < ball.length → 0 ≤ (gx ball k).lo ∧ (gx ball k).lo ≤ (gx ball k).hi ∧ (gx ball k).hi ≤ 60 ∧ (gx ball k).hi - (gx ball k).lo ≤ 8) (ih : FromC n r A c pins Ab cb ball m) (hC : LCtx W n r A c pins Ab cb ball) (hS : HSt W (n + 4) nS S) (hO : HSet W (n + 2) nO O) (hI : FInv r pins ball (m + 1) S O) (ht : t < 2 ^ 10) (hrow : row + (m + 1) = ball.length) (hs : S row t = false) (hnS : nS + costN (m + 1) ≤ 1000000000000000) (hnO : nO + costO (m + 1) ≤ 1000000000000000) : CallsFr W n r pins ball row (m + 1) t S O nS nO := by
  obtain ⟨W0, hW0, hb0, hC0, hS0, hO0, hq0⟩ := box_ctx (row := row) (t := t) hC hS hO
  have h4 : ball.length ≤ 4 := by have := hr.rows4; omega
  have HBL := Lib.hid hbl
  clear hbl
  have hl := hS0.look (k := row) (t := t) (by omega) ht
  rw [hs] at hl
  obtain ⟨W1, hr1, hS1, hg1⟩ := hS0.put (by simp only [costN] at hnS; omega) (k := row) (t := t) (by omega) ht
  have hlt0 := hC0.lt
  have hC1 : LCtx W1 n r A c pins Ab cb ball := hC0.kept (n₀ := W0.heap.size) (KpS.of_grown hg1 (fun q e => by injection e with e; exact .inl e.symm)) (by omega)
  have hq1 : StAt W1 W.heap.size row t := (hg1.block _ (Array.getElem?_eq_some_iff.1 hq0).1 (fun e => by injection e with e; have := hC.lt; omega)).trans hq0
  have hO1 : HSet W1 (n + 2) nO O := hO0.kept hg1 (fun e => by injection e with e; omega)
  have hrk : row < ball.length := by omega
  have hrl : ball.length - (m + 1) = row := by omega
  obtain ⟨lo0, lh0, hi0, w80⟩ := hb3 row hrk
  obtain ⟨b2, o2, hA2, hlt2, r1, r2⟩ := hC1.rg.at_ hrk
  have HFS : Hid (FMid r pins ball m t S O [] (updS S row t) O) := by have := FMid.start (t := t) (by omega) hI; rwa [hrl] at this
  have HSTEP : Hid (∀ (pre : List Nat) (S' : Nat → Nat → Bool) (O' : Nat → Bool) (nn : Int), FMid r pins ball m t S O pre S' O' → (gx ball row).lo ≤ nn → nn ≤ (gx ball row).hi → ∀ (S'' : Nat → Nat → Bool) (O'' : Nat → Bool), FPost r pins ball m (t ||| touchS r pins row nn) S' O' S'' O'' → FMid r pins ball m t S O (pre ++ [touchS r pins row nn]) S'' O'') := by
    intro pre S' O' nn h h1 h2 S'' O'' hp'
    have := FMid.step (n := nn) (by omega) h (by rw [hrl]; exact h1) (by rw [hrl]; exact h2) (by rw [hrl]; exact hp')
    rwa [hrl] at this
  have HDONE : Hid (∀ (S' : Nat → Nat → Bool) (O' : Nat → Bool), FMid r pins ball m t S O ((eachL r pins row (gx ball row).lo (gx ball row).hi ((gx ball row).hi - (gx ball row).lo + 1).toNat).map Subtype.val) S' O' → FPost r pins ball (m + 1) t S O S' O') := by
    intro S' O' h
    refine FMid.done (by omega) hI ?_
    rw [hrl]
    exact h
  have HLEN : Hid ((eachL r pins row (gx ball row).lo (gx ball row).hi ((gx ball row).hi - (gx ball row).lo + 1).toNat).length ≤ 9) := by
    have := eachL_len r pins row (gx ball row).lo (gx ball row).hi ((gx ball row).hi - (gx ball row).lo + 1).toNat
    show _ ≤ _
    omega
  obtain ⟨q0, q1⟩ := hq0.cells
  obtain ⟨p0, p1⟩ := hq1.cells
  have c5 := hC0.h5
  have d1 := hC1.h1
  obtain ⟨⟨e0, e1, e2, e3, e4, e5⟩, -⟩ := hC1.hh.cells
  have HKw : Hid (KpS W.heap.size (SFr n) W W1) := (KpS.of_below hb0).trans ((KpS.of_grown (n₀ := W.heap.size) hg1 (fun q e => by injection e with e; exact .inl e.symm)))
  have HC1 := Lib.hid hC1
  have HQ1 := Lib.hid hq1
  have HS1 := Lib.hid hS1
  have HO1 := Lib.hid hO1
  have HIH := Lib.hid ih
  have hnq : n + 6 < W.heap.size := hC.lt
  have hz1 : W.heap.size ≤ W1.heap.size := HKw.out.1
  have hne : ((row : Int) == (ball.length : Int)) = false := by simp; omega
  have hri : (row : Int) < (ball.length : Int) := by omega
  have HROW := Lib.hid hrow
  clear hb0 hC0 hS0 hO0 hq0 hC hS hO hI hs hg1 hq1 hO1 hS1 hC1 ih hrl hrow hb3
  generalize gx ball row = xg at *
  obtain ⟨lo, hi⟩ := xg
  dsimp only at r1 r2 lo0 lh0 hi0 w80 HSTEP HDONE HLEN
  subst hA2
  have HB7 : Hid (Below W1.heap.size W1 W1.drew) := (Below.refl _ _).drew
  unfold CallsFr
  refine calls_marks Try.func113 rfl ?_
  simp only [Try.ntmps113, List.size_toArray, List.length_cons, List.length_nil, Nat.reduceAdd, Nat.reduceSub, Array.replicate_succ, Array.replicate_zero, List.push_toArray, List.append_toArray, List.nil_append, List.cons_append]
  go_upto_region 1 with fail
  rw [← hW0]
  clear hW0
  go_upto_region 10 with fail
  go_region_held3 (fun w' => w'.cell? ⟨n, 0, none⟩ = some (.int .i64 r.rows) ∧ w'.cell? ⟨n, 1, none⟩ = some (.int .i64 r.mid) ∧ w'.cell? ⟨n, 2, none⟩ = some (.int .i64 r.gap) ∧ w'.cell? ⟨n, 3, none⟩ = some (.int .i64 r.reach) ∧ w'.cell? ⟨n, 4, none⟩ = some (.slice A r.links.length c) ∧ w'.cell? ⟨n, 5, none⟩ = some (.int .u16 (pins : Int)) ∧ w'.cell? ⟨W.heap.size, 0, none⟩ = some (.int .i64 (row : Int)) ∧ w'.cell? ⟨n + 1, 0, none⟩ = some (.slice (some ⟨b2, o2, none⟩) ball.length cb) ∧ w'.cell? ⟨b2, o2 + row * 2, none⟩ = some (.int .i64 lo) ∧ w'.cell? ⟨b2, o2 + row * 2 + 1, none⟩ = some (.int .i64 hi)) (go_keep) (first | (go_at_call 116; refine (each_c r A c pins row lo hi _).mono ?_; rintro e W7 ⟨rfl, hb7, hz7, hS7⟩; replace e0 := cell_of_ans (below_drew_l hb7) e0; replace e1 := cell_of_ans (below_drew_l hb7) e1; replace e2 := cell_of_ans (below_drew_l hb7) e2; replace e3 := cell_of_ans (below_drew_l hb7) e3; replace e4 := cell_of_ans (below_drew_l hb7) e4; replace e5 := cell_of_ans (below_drew_l hb7) e5; replace p0 := cell_of_ans (below_drew_l hb7) p0; replace p1 := cell_of_ans (below_drew_l hb7) p1; replace d1 := cell_of_ans (below_drew_l hb7) d1; replace r1 := cell_of_ans (below_drew_l hb7) r1; replace r2 := cell_of_ans (below_drew_l hb7) r2; replace HB7 := Lib.hid (HB7.out.trans (hb7.mono HB7.out.size)); clear hb7))
  go_wp2_with fail
  change _ = W1.heap.size + 3 at hz7
  change EaSt W7 W1.heap.size r A c pins row lo hi at hS7
  obtain ⟨q, hq⟩ : ∃ q, q = W1.heap.size := ⟨_, rfl⟩
  rw [← hq] at hz7 hS7 hz1
  rw [← hq]
  have hzn : n + 6 < q := by omega
  have hz8 : q + 3 ≤ W7.heap.size := by omega
  have HC7 := Lib.hid (HC1.out.step HB7.out)
  have HQ7 := Lib.hid (HQ1.out.step HB7.out)
  have HS7 := Lib.hid (HS1.out.step HB7.out)
  have HO7 := Lib.hid (HO1.out.step HB7.out)
  clear hq hz7 e0 e1 e2 e3 e4 e5 p0 p1 d1 r1 r2
  refine wpIn_wide.1 (wpIn_rangeFunc_ownH (F := Fence.wide) (n := 5) (α := EaX r pins row lo hi) rfl (by omega) (gf := 155) (lb := #[.pointer (some ⟨q + 2, 0, none⟩), .pointer (some ⟨q, 0, none⟩), .pointer (some ⟨q + 1, 0, none⟩)]) rfl trivial (enters_of Try.func155 (by kernel_rfl) rfl)
    (each_stops 4 q r A c pins row lo hi W7.heap.size hr hp (by omega) (by omega) (by omega) (KpS W7.heap.size (SFr n)) (fun h k => h.trans k) (fun _ _ _ hb => KpS.of_below hb) (fun _ _ h => h.1)
      (fun W W' hk hs => hs.kept hk (by unfold SFr; omega)) W7 (Nat.le_refl _) hS7)
    (fun h k => h.trans k) ?keepPut (Below.refl _ _) (fun _ => rfl)
    (fun pre Wr => ∃ S' O' nS' nO', FMid r pins ball m t S O (pre.map Subtype.val) S' O' ∧ HSt Wr (n + 4) nS' S' ∧ HSet Wr (n + 2) nO' O' ∧ nS' ≤ nS + 1 + pre.length * costN m ∧ nO' ≤ nO + pre.length * costO m ∧ KpS W7.heap.size (SFr n) W7 Wr)
    (fun _ _ _ => False) ?ownI (fun _ _ _ _ _ hs _ _ => hs) ⟨updS S row t, O, nS + 1, nO, HFS.out, HS7.out, HO7.out, by simp, by simp, KpS.refl _ _ _⟩
    (fun x a' W' => a' = { tmps := #[.agg #[.int .i64 (row : Int), .int .u16 (t : Int)], .pointer (some ⟨n + 5, 0, none⟩), .pointer (some ⟨n + 1, 0, none⟩), .pointer (some ⟨n, 0, none⟩), .pointer (some ⟨n + 3, 0, none⟩), .pointer (some ⟨n + 6, 0, none⟩), .pointer (some ⟨W.heap.size, 0, none⟩), undef, .int .u16 (x.1 : Int), .map (some (n + 4)), .agg #[.int .i64 (row : Int), .int .u16 (t : Int)], .bool false, .map (some (n + 4)), .agg #[.int .i64 (row : Int), .int .u16 (t : Int)], .pointer (some ⟨W.heap.size, 0, none⟩), .int .i64 (row : Int), .slice (some ⟨b2, o2, none⟩) ball.length cb, .int .i64 (ball.length : Int), .bool false, undef, undef, undef, undef, undef, undef, undef, undef, undef, undef, undef, undef, undef, undef, undef, undef, undef, undef, undef, undef, undef, undef, .agg #[.int .i64 r.rows, .int .i64 r.mid, .int .i64 r.gap, .int .i64 r.reach, .slice A r.links.length c, .int .u16 (pins : Int)], .pointer (some ⟨W.heap.size, 0, none⟩), .int .i64 (row : Int), .slice (some ⟨b2, o2, none⟩) ball.length cb, .pointer (some ⟨W.heap.size, 0, none⟩), .int .i64 (row : Int), .pointer (some ⟨b2, o2 + row * 2, none⟩), .agg #[.int .i64 lo, .int .i64 hi], .func (.func 155) #[] #[.pointer (some ⟨q + 2, 0, none⟩), .pointer (some ⟨q, 0, none⟩), .pointer (some ⟨q + 1, 0, none⟩)], .int .u16 (x.1 : Int), undef, undef, undef, undef, undef, undef, undef, undef, undef, undef], defers := [] })
    (fun _ _ _ _ _ _ h _ _ => h) ?assign ?body ?done ?stop)
  case keepPut =>
    intro W l x y hl hx hc _
    exact KpS.of_put hl hx hc _
  case ownI =>
    rintro pre Wr Wr' rw_ ⟨S', O', nS', nO', hF, hSt, hSe, h1, h2, hk⟩ hg' hrow'
    have hne4 : some (n + 4) ≠ rw_ := fun e => by have := (hrow' _ e.symm).1; omega
    have hne2 : some (n + 2) ≠ rw_ := fun e => by have := (hrow' _ e.symm).1; omega
    exact ⟨S', O', nS', nO', hF, hSt.kept hg' hne4, hSe.kept hg' hne2, h1, h2, hk.trans (KpS.of_own hg' hrow')⟩
  case assign =>
    rintro l pre x Wr K hI hK
    simp only [sEnc]
    gi_wp2
    exact hK _ _ (KeepsFrom.refl _ _) (KpS.refl _ _ _) hI rfl
  case body =>
    rintro l pre x a' Wr hl ⟨rr, hr'⟩ ⟨S', O', nS', nO', hF, hSt, hSe, h1, h2, hk⟩ rfl hlt
    have hx10 : x.1 < 2 ^ 10 := by obtain ⟨nn, _, _, h⟩ := x.2; rw [h]; exact touchS_lt ..
    have hCr := HC7.out.kept hk (by omega)
    have hQr := HQ7.out.kept hk (by unfold SFr; omega)
    have hto : t ||| x.1 < 2 ^ 10 := Nat.or_lt_two_pow ht hx10
    have HOR : Hid (bits .or .u16 (t : Int) (x.1 : Int) = ((t ||| x.1 : Nat) : Int)) := or_nat _ _ ht hx10
    have hc100 : pre.length * costN m ≤ 100 * costN m := Nat.mul_le_mul_right _ (by omega)
    have hd100 : pre.length * costO m ≤ 100 * costO m := Nat.mul_le_mul_right _ (by omega)
    have hc1 : pre.length * costN m + costN m ≤ 100 * costN m := by rw [← Nat.succ_mul]; exact Nat.mul_le_mul_right _ (by omega)
    have hd1 : pre.length * costO m + costO m ≤ 100 * costO m := by rw [← Nat.succ_mul]; exact Nat.mul_le_mul_right _ (by omega)
    simp only [costN] at hnS
    simp only [costO] at hnO
    have hR := HROW.out
    have HCALL := Lib.hid (HIH.out Wr (row + 1) (t ||| x.1) S' O' nS' nO' hCr hSt hSe hF.inv hto (by omega) (by omega) (by omega))
    have HX2 : Hid (∃ nn, lo ≤ nn ∧ nn ≤ hi ∧ x.1 = touchS r pins row nn) := x.2
    have HF := Lib.hid hF
    have HK := Lib.hid hk
    have HN1 : Hid ((pre ++ [x]).length * costN m = pre.length * costN m + costN m) := by show _ = _; rw [List.length_append]; simp [Nat.succ_mul]
    have HN2 : Hid ((pre ++ [x]).length * costO m = pre.length * costO m + costO m) := by show _ = _; rw [List.length_append]; simp [Nat.succ_mul]
    have HM1 : Hid ((pre ++ [x]).map Subtype.val = pre.map Subtype.val ++ [x.1]) := by
      show List.map (α := EaX r pins row lo hi) (fun z => z.1) (pre ++ [x]) = _
      rw [List.map_append, List.map_singleton]
      rfl
    obtain ⟨g0, g1⟩ := hQr.cells
    have g6 := hCr.h6
    have e1 := HOR.out
    have hrw : IntKind.i64.wrap ((row : Int) + 1) = (((row + 1 : Nat) : Int)) := by rw [show ((row + 1 : Nat) : Int) = (row : Int) + 1 by omega]; exact IntWalk.i64_in _ (by omega)
    unfold CallsFr at HCALL
    clear hk hF hCr hQr hSt hSe hR hc100 hd100 hc1 hd1
    generalize x.1 = y at *
    gi_wp2
    have hcall := HCALL.out
    rw [show ((row + 1 : Nat) : Int) = (row : Int) + 1 by omega] at hcall
    refine ⟨trivial, (CallsIn.inRound l (callsIn_wide.2 hcall)).mono ?_⟩
    rintro e w3 ⟨⟨v, rfl⟩, S2, O2, nS2, nO2, hS2, hO2, h3, h5, hP2, hk2⟩
    have HS2 := Lib.hid hS2
    have HO2 := Lib.hid hO2
    have HP2 := Lib.hid hP2
    have HK2 := Lib.hid hk2
    have H3 := Lib.hid h3
    have H5 := Lib.hid h5
    clear hS2 hO2 hP2 hk2 h3 h5 hcall
    gi_wp2
    obtain ⟨nn, hn1, hn2, hy⟩ := HX2.out
    have hk2 := HK2.out
    have hkw := HK.out
    have hk3 : KpS W7.heap.size (SFr n) Wr w3 := hk2.less hkw.1
    have hc1 := HN1.out
    have hd1 := HN2.out
    have h3 := H3.out
    have h5 := H5.out
    refine ⟨⟨hk2.1, fun k o hB hko ho => hk2.2.2.2.2 k o hko (.inl (Array.getElem?_eq_some_iff.1 hko).1) (by unfold SFr; omega)⟩, hk3, S2, O2, nS2, nO2, ?_, HS2.out, HO2.out, ?_, ?_, hkw.trans hk3⟩
    · rw [HM1.out, hy]
      exact HSTEP.out _ _ _ nn HF.out hn1 hn2 _ _ (hy ▸ HP2.out)
    · rw [hc1]; omega
    · rw [hd1]; omega
  case done =>
    rintro D ys Wr hD rfl ⟨S', O', nS', nO', hF, hSt, hSe, h1, h2, hk⟩ hK
    have HF := Lib.hid (HDONE.out _ _ hF)
    have HST := Lib.hid hSt
    have HSE := Lib.hid hSe
    have HK := Lib.hid hk
    have HKD := Lib.hid hK
    have hc100 : (eachL r pins row lo hi (hi - lo + 1).toNat).length * costN m ≤ 100 * costN m := Nat.mul_le_mul_right _ (by have := HLEN.out; omega)
    have hd100 : (eachL r pins row lo hi (hi - lo + 1).toNat).length * costO m ≤ 100 * costO m := Nat.mul_le_mul_right _ (by have := HLEN.out; omega)
    have H1 := Lib.hid h1
    have H2 := Lib.hid h2
    have HC100 := Lib.hid hc100
    have HD100 := Lib.hid hd100
    clear hF hSt hSe hk hK hc100 hd100 h1 h2
    go_wp2_with fail
    refine ⟨by simp, .inl ⟨_, _, rfl, run_takeDeferred (w := Wr) HKD.out, ?_⟩⟩
    have hg : Wr.grownBy (Wr.putObj D (.deferred none)) (some D) := ⟨rfl, rfl, rfl, by simp, fun i hi hne => World.putObj_heap_other (fun e => hne (by rw [e]))⟩
    have h1 := H1.out
    have h2 := H2.out
    have h3 := HC100.out
    have h5 := HD100.out
    refine ⟨.tuple #[], by simp [results, Try.results113, go_sem], ⟨_, rfl⟩, S', O', nS', nO', HST.out.kept hg (fun e => by injection e with e; omega), HSE.out.kept hg (fun e => by injection e with e; omega), by simp only [costN]; omega, by simp only [costO]; omega, HF.out, ?_⟩
    exact (HKw.out.trans (KpS.of_below HB7.out)).trans ((HK.out.less (by omega)).trans (KpS.of_put (by omega) HKD.out rfl _))
  case stop => exact fun _ _ _ _ _ _ h _ => h.elim
theorem from_c {n : Nat} {r : Rk} {A : Option Addr} {c pins : Nat} {Ab : Option Addr} {cb : Nat} {ball : List Rg} (hr : Ok r) (hp : pins < 2 ^ 10) (hbl : (ball.length : Int) = r.rows) (hc : r.links.length ≤ c ∧ c ≤ 9223372036854775807) (hcb : ball.length ≤ cb ∧ cb ≤ 9223372036854775807) (hb3 : ∀ k, k < ball.length → 0 ≤ (gx ball k).lo ∧ (gx ball k).lo ≤ (gx ball k).hi ∧ (gx ball k).hi ≤ 60 ∧ (gx ball k).hi - (gx ball k).lo ≤ 8) : ∀ m, FromC n r A c pins Ab cb ball m := by
  intro m
  induction m with
  | zero =>
    intro W row t S O nS nO hC hS hO hI ht hrow h1 h2
    obtain rfl : row = ball.length := by omega
    cases hs : S ball.length t
    · exact from_zero (row := 0) hr hp hbl hc hcb hC hS hO hI ht hs h1 h2
    · exact from_seen hr hp hbl hc hcb hC hS hO hI ht hrow hs
  | succ m ih =>
    intro W row t S O nS nO hC hS hO hI ht hrow h1 h2
    cases hs : S row t
    · exact from_succ hr hp hbl hc hcb hb3 ih hC hS hO hI ht hrow hs h1 h2
    · exact from_seen hr hp hbl hc hcb hC hS hO hI ht hrow hs
end

section
open Go.RowKit
attribute [local go_sem] Oper.semAt_some
def LeavesP (w : World) (r : Rk) (pins : Nat) (ball : List Rg) (e : Ending) (w' : World) : Prop := ∃ (b n : Nat) (O : Nat → Bool), e = .returned (.map (some b)) ∧ HSet w' b n O ∧ (∀ u, O u = true ↔ LeaveP r pins ball u) ∧ w.heap.size ≤ b ∧ Below w.heap.size w w'
theorem costO_le : ∀ {m : Nat}, m ≤ 4 → costO m ≤ 409600000000 := by decide
theorem leaves_world (r : Rk) (A Ab : Option Addr) (c cb pins : Nat) (ball : List Rg) (w : World) (hl : Lks w.heap.size w A r.links) (hball : Rgs w.heap.size w Ab ball) :
    ∃ X, X = (((((((w.alloc (.cells #[.int .i64 r.rows, .int .i64 r.mid, .int .i64 r.gap, .int .i64 r.reach, .slice A r.links.length c, .int .u16 (pins : Int)] 158)).alloc (.cells #[.slice Ab ball.length cb] 71)).alloc (.map #[] 0)).alloc (.cells #[.map (some (w.heap.size + 2))] 161)).alloc (.map #[] 0)).alloc (.cells #[.map (some (w.heap.size + 4))] 243)).alloc (.cells #[.func (.func 113) #[] #[.pointer (some ⟨w.heap.size + 5, 0, none⟩), .pointer (some ⟨w.heap.size + 1, 0, none⟩), .pointer (some ⟨w.heap.size, 0, none⟩), .pointer (some ⟨w.heap.size + 3, 0, none⟩), .pointer (some ⟨w.heap.size + 6, 0, none⟩)]] 244)) ∧ LCtx X w.heap.size r A c pins Ab cb ball ∧ HSt X (w.heap.size + 4) 0 (fun _ _ => false) ∧ HSet X (w.heap.size + 2) 0 (fun _ => false) ∧ Below w.heap.size w X ∧ X.heap.size = w.heap.size + 7 := by
  refine ⟨_, rfl, ?_⟩
  have b1 : Below w.heap.size w (w.alloc (.cells #[.int .i64 r.rows, .int .i64 r.mid, .int .i64 r.gap, .int .i64 r.reach, .slice A r.links.length c, .int .u16 (pins : Int)] 158)) := (Below.refl _ _).alloc (Nat.le_refl _) _
  have s1 : (w.alloc (.cells #[.int .i64 r.rows, .int .i64 r.mid, .int .i64 r.gap, .int .i64 r.reach, .slice A r.links.length c, .int .u16 (pins : Int)] 158)).heap.size = w.heap.size + 1 := by simp
  have k1 : At6 (w.alloc (.cells #[.int .i64 r.rows, .int .i64 r.mid, .int .i64 r.gap, .int .i64 r.reach, .slice A r.links.length c, .int .u16 (pins : Int)] 158)) w.heap.size (.int .i64 r.rows) (.int .i64 r.mid) (.int .i64 r.gap) (.int .i64 r.reach) (.slice A r.links.length c) (.int .u16 (pins : Int)) := World.alloc_heap_new _ _
  generalize w.alloc (.cells #[.int .i64 r.rows, .int .i64 r.mid, .int .i64 r.gap, .int .i64 r.reach, .slice A r.links.length c, .int .u16 (pins : Int)] 158) = w1 at *
  have b2 : Below w1.heap.size w1 (w1.alloc (.cells #[.slice Ab ball.length cb] 71)) := (Below.refl _ _).alloc (Nat.le_refl _) _
  have s2 : (w1.alloc (.cells #[.slice Ab ball.length cb] 71)).heap.size = w.heap.size + 2 := by simp; omega
  have k2 : (w1.alloc (.cells #[.slice Ab ball.length cb] 71)).cell? ⟨w.heap.size + 1, 0, none⟩ = some (.slice Ab ball.length cb) := by rw [← s1]; simp
  replace k1 := k1.step b2
  replace b1 := b1.trans (b2.mono (by omega))
  generalize w1.alloc (.cells #[.slice Ab ball.length cb] 71) = w2 at *
  have b3 : Below w2.heap.size w2 (w2.alloc (.map #[] 0)) := (Below.refl _ _).alloc (Nat.le_refl _) _
  have s3 : (w2.alloc (.map #[] 0)).heap.size = w.heap.size + 3 := by simp; omega
  have k3 := HSet.made w2
  rw [s2] at k3
  replace k1 := k1.step b3
  replace k2 := cell_of_ans b3 k2
  replace b1 := b1.trans (b3.mono (by omega))
  generalize w2.alloc (.map #[] 0) = w3 at *
  have b4 : Below w3.heap.size w3 (w3.alloc (.cells #[.map (some (w.heap.size + 2))] 161)) := (Below.refl _ _).alloc (Nat.le_refl _) _
  have s4 : (w3.alloc (.cells #[.map (some (w.heap.size + 2))] 161)).heap.size = w.heap.size + 4 := by simp; omega
  have k4 : (w3.alloc (.cells #[.map (some (w.heap.size + 2))] 161)).cell? ⟨w.heap.size + 3, 0, none⟩ = some (.map (some (w.heap.size + 2))) := by rw [← s3]; simp
  replace k1 := k1.step b4
  replace k2 := cell_of_ans b4 k2
  replace k3 := k3.step b4
  replace b1 := b1.trans (b4.mono (by omega))
  generalize w3.alloc (.cells #[.map (some (w.heap.size + 2))] 161) = w4 at *
  have b5 : Below w4.heap.size w4 (w4.alloc (.map #[] 0)) := (Below.refl _ _).alloc (Nat.le_refl _) _
  have s5 : (w4.alloc (.map #[] 0)).heap.size = w.heap.size + 5 := by simp; omega
  have k5 := HSt.made w4
  rw [s4] at k5
  replace k1 := k1.step b5
  replace k2 := cell_of_ans b5 k2
  replace k3 := k3.step b5
  replace k4 := cell_of_ans b5 k4
  replace b1 := b1.trans (b5.mono (by omega))
  generalize w4.alloc (.map #[] 0) = w5 at *
  have b6 : Below w5.heap.size w5 (w5.alloc (.cells #[.map (some (w.heap.size + 4))] 243)) := (Below.refl _ _).alloc (Nat.le_refl _) _
  have s6 : (w5.alloc (.cells #[.map (some (w.heap.size + 4))] 243)).heap.size = w.heap.size + 6 := by simp; omega
  have k6 : (w5.alloc (.cells #[.map (some (w.heap.size + 4))] 243)).cell? ⟨w.heap.size + 5, 0, none⟩ = some (.map (some (w.heap.size + 4))) := by rw [← s5]; simp
  replace k1 := k1.step b6
  replace k2 := cell_of_ans b6 k2
  replace k3 := k3.step b6
  replace k4 := cell_of_ans b6 k4
  replace k5 := k5.step b6
  replace b1 := b1.trans (b6.mono (by omega))
  generalize w5.alloc (.cells #[.map (some (w.heap.size + 4))] 243) = w6 at *
  have b7 : Below w6.heap.size w6 (w6.alloc (.cells #[.func (.func 113) #[] #[.pointer (some ⟨w.heap.size + 5, 0, none⟩), .pointer (some ⟨w.heap.size + 1, 0, none⟩), .pointer (some ⟨w.heap.size, 0, none⟩), .pointer (some ⟨w.heap.size + 3, 0, none⟩), .pointer (some ⟨w.heap.size + 6, 0, none⟩)]] 244)) := (Below.refl _ _).alloc (Nat.le_refl _) _
  have s7 : (w6.alloc (.cells #[.func (.func 113) #[] #[.pointer (some ⟨w.heap.size + 5, 0, none⟩), .pointer (some ⟨w.heap.size + 1, 0, none⟩), .pointer (some ⟨w.heap.size, 0, none⟩), .pointer (some ⟨w.heap.size + 3, 0, none⟩), .pointer (some ⟨w.heap.size + 6, 0, none⟩)]] 244)).heap.size = w.heap.size + 7 := by simp; omega
  have k7 : (w6.alloc (.cells #[.func (.func 113) #[] #[.pointer (some ⟨w.heap.size + 5, 0, none⟩), .pointer (some ⟨w.heap.size + 1, 0, none⟩), .pointer (some ⟨w.heap.size, 0, none⟩), .pointer (some ⟨w.heap.size + 3, 0, none⟩), .pointer (some ⟨w.heap.size + 6, 0, none⟩)]] 244)).cell? ⟨w.heap.size + 6, 0, none⟩ = some (.func (.func 113) #[] #[.pointer (some ⟨w.heap.size + 5, 0, none⟩), .pointer (some ⟨w.heap.size + 1, 0, none⟩), .pointer (some ⟨w.heap.size, 0, none⟩), .pointer (some ⟨w.heap.size + 3, 0, none⟩), .pointer (some ⟨w.heap.size + 6, 0, none⟩)]) := by rw [← s6]; simp
  replace k1 := k1.step b7
  replace k2 := cell_of_ans b7 k2
  replace k3 := k3.step b7
  replace k4 := cell_of_ans b7 k4
  replace k5 := k5.step b7
  replace k6 := cell_of_ans b7 k6
  replace b1 := b1.trans (b7.mono (by omega))
  exact ⟨⟨k1, k2, k4, k6, k7, hl.below b1, hball.below b1⟩, k5, k3, b1, s7⟩
set_option maxRecDepth 100000 in
set_option maxHeartbeats 8000000 in
theorem leaves_c (r : Rk) (A Ab : Option Addr) (c cb pins : Nat) (ball : List Rg) (w : World) (hr : Ok r) (hp : pins < 2 ^ 10) (hbl : (ball.length : Int) = r.rows) (hb3 : ∀ k, k < ball.length → 0 ≤ (gx ball k).lo ∧ (gx ball k).lo ≤ (gx ball k).hi ∧ (gx ball k).hi ≤ 60 ∧ (gx ball k).hi - (gx ball k).lo ≤ 8) (hl : Lks w.heap.size w A r.links) (hc : r.links.length ≤ c ∧ c ≤ 9223372036854775807) (hball : Rgs w.heap.size w Ab ball) (hcb : ball.length ≤ cb ∧ cb ≤ 9223372036854775807) :
    Calls Try.prog 55 #[.agg #[.int .i64 r.rows, .int .i64 r.mid, .int .i64 r.gap, .int .i64 r.reach, .slice A r.links.length c, .int .u16 (pins : Int)], .slice Ab ball.length cb] w (LeavesP w r pins ball) := by
  have HLE := Lib.hid (leaves_iff (r := r) (pins := pins) (ball := ball) (by omega))
  obtain ⟨X, hX, hC, hS, hO, hb, hz⟩ := leaves_world r A Ab c cb pins ball w hl hball
  have hcall := from_c hr hp hbl hc hcb hb3 ball.length X 0 0 (fun _ _ => false) (fun _ => false) 0 0 hC hS hO (fun k t h => by cases h) (by decide) (by omega)
    (by have := costN_le (m := ball.length) (by have := hr.rows4; omega); omega) (by have := costO_le (m := ball.length) (by have := hr.rows4; omega); omega)
  unfold CallsFr at hcall
  rw [Int.natCast_zero] at hcall
  have HCALL := Lib.hid hcall
  have HC := Lib.hid hC
  have HB := Lib.hid hb
  clear hl hball hb3 hbl hcall hC hS hO hb
  have hmm := @run_makeMap Try.prog
  go_enter Try.func55, Try.ntmps55
  go_wp2_with fail
  rw [show w.heap.size + 1 + 1 = w.heap.size + 2 from rfl, show w.heap.size + 2 + 1 = w.heap.size + 3 from rfl, show w.heap.size + 3 + 1 = w.heap.size + 4 from rfl, show w.heap.size + 4 + 1 = w.heap.size + 5 from rfl, show w.heap.size + 5 + 1 = w.heap.size + 6 from rfl]
  rw [← hX]
  clear hX
  refine HCALL.out.mono ?_
  rintro e w7 ⟨⟨v, rfl⟩, S', O', nS', nO', hS', hO', -, -, hP, hk⟩
  have c3 := (HC.out.kept hk (by omega)).h3
  have HO' := Lib.hid hO'
  have HP := Lib.hid hP
  have HB7 : Hid (Below w.heap.size w w7) := HB.out.trans (hk.below (by omega) (by omega) (fun j hj e => by rcases e with e | e <;> omega))
  clear hS' hO' hP hk hz
  go_wp2_with fail
  go_ret
  refine ⟨_, _, _, rfl, HO'.out, fun u => ?_, by omega, HB7.out⟩
  rw [← HLE.out]
  constructor
  · intro h
    rcases HP.out.new u h with h | h
    · cases h
    · exact h
  · exact HP.out.all u
end

section
def LeftIs (r : Rk) (pins : Nat) (ball : List Rg) (lo hi : Nat) : Prop :=
  (∀ u, LeaveP r pins ball u → lo ≤ many u ∧ many u ≤ hi) ∧ (∃ u, LeaveP r pins ball u ∧ many u = lo) ∧ ∃ u, LeaveP r pins ball u ∧ many u = hi
theorem LeftIs.eq {r : Rk} {pins : Nat} {ball : List Rg} {lo hi lo' hi' : Nat} (h : LeftIs r pins ball lo hi) (h' : LeftIs r pins ball lo' hi') : lo = lo' ∧ hi = hi' := by
  obtain ⟨h1, ⟨u, hu, rfl⟩, ⟨v, hv, rfl⟩⟩ := h
  obtain ⟨h1', ⟨u', hu', rfl⟩, ⟨v', hv', rfl⟩⟩ := h'
  have := h1 _ hu'
  have := h1' _ hu
  have := h1 _ hv'
  have := h1' _ hv
  omega
theorem least_ex {P : Nat → Prop} : ∀ n, P n → ∃ m, P m ∧ ∀ k, P k → m ≤ k := by
  intro n
  induction n using Nat.strongRecOn with
  | _ n ih =>
    intro hn
    by_cases h : ∃ k, k < n ∧ P k
    · obtain ⟨k, hk, hp⟩ := h
      exact ih k hk hp
    · exact ⟨n, hn, fun k hk => Nat.le_of_not_lt fun h' => h ⟨k, h', hk⟩⟩
theorem leave_ex {r : Rk} {pins : Nat} {ball : List Rg} (hr : Ranges ball) : ∃ u, LeaveP r pins ball u :=
  ⟨_, fun k => (gx ball k).lo, surely r.links, fun k hk => ⟨Int.le_refl _, hr k hk⟩, surely_carry _, rfl⟩
theorem leftIs_ex {r : Rk} {pins : Nat} {ball : List Rg} (hr : Ranges ball) : ∃ p : Nat × Nat, LeftIs r pins ball p.1 p.2 := by
  obtain ⟨u0, h0⟩ := leave_ex (r := r) (pins := pins) hr
  obtain ⟨lo, ⟨u, hu, rfl⟩, h1⟩ := least_ex (P := fun n => ∃ u, LeaveP r pins ball u ∧ many u = n) _ ⟨u0, h0, rfl⟩
  obtain ⟨d, ⟨v, hv, rfl⟩, h2⟩ := least_ex (P := fun n => ∃ u, LeaveP r pins ball u ∧ 10 - many u = n) _ ⟨u0, h0, rfl⟩
  refine ⟨⟨many u, many v⟩, fun x hx => ⟨h1 _ ⟨x, hx, rfl⟩, ?_⟩, ⟨u, hu, rfl⟩, ⟨v, hv, rfl⟩⟩
  have := h2 _ ⟨x, hx, rfl⟩
  have := many_le x
  have := many_le v
  show many x ≤ many v
  omega
open Classical in
noncomputable def leftN (r : Rk) (pins : Nat) (ball : List Rg) : Nat × Nat := if h : ∃ p : Nat × Nat, LeftIs r pins ball p.1 p.2 then Classical.choose h else (0, 0)
theorem leftN_is {r : Rk} {pins : Nat} {ball : List Rg} (hr : Ranges ball) : LeftIs r pins ball (leftN r pins ball).1 (leftN r pins ball).2 := by
  unfold leftN
  rw [dif_pos (leftIs_ex hr)]
  exact Classical.choose_spec (leftIs_ex hr)
theorem leftN_eq {r : Rk} {pins : Nat} {ball : List Rg} {lo hi : Nat} (hr : Ranges ball) (h : LeftIs r pins ball lo hi) : leftN r pins ball = (lo, hi) := by
  obtain ⟨h1, h2⟩ := (leftN_is hr).eq h
  exact Prod.ext h1 h2
theorem leave_lt {r : Rk} {pins u : Nat} {ball : List Rg} (h : LeaveP r pins ball u) : u < 2 ^ 10 := by
  obtain ⟨b, c, _, _, rfl⟩ := h
  exact leftS_lt
theorem leave_sub {r : Rk} {pins u : Nat} {ball : List Rg} (hp : pins < 2 ^ 10) (h : LeaveP r pins ball u) : Sub u pins := by
  obtain ⟨b, c, _, _, rfl⟩ := h
  exact fun p hp' => ((mem_leftS hp).1 hp').1
theorem many_mono {a b : Nat} (ha : a < 2 ^ 10) (hb : b < 2 ^ 10) (h : Sub a b) : many a ≤ many b := by
  by_cases e : a = b
  · rw [e]; exact Nat.le_refl _
  · exact Nat.le_of_lt (many_lt ha hb h e)
/-- Within the rounds over the leaves: left says which are still to come. -/
structure LMid (r : Rk) (pins : Nat) (ball : List Rg) (left : Nat → Bool) (lo hi : Nat) : Prop where
  all : ∀ u, LeaveP r pins ball u → left u = false → lo ≤ many u ∧ many u ≤ hi
  low : lo = many pins ∨ ∃ u, LeaveP r pins ball u ∧ many u = lo
  high : hi = 0 ∨ ∃ u, LeaveP r pins ball u ∧ many u = hi
theorem LMid.start {r : Rk} {pins : Nat} {ball : List Rg} {left : Nat → Bool} (h : ∀ u, LeaveP r pins ball u → left u = true) : LMid r pins ball left (many pins) 0 :=
  ⟨fun u hu hl => (by rw [h u hu] at hl; cases hl), .inl rfl, .inl rfl⟩
theorem LMid.take {r : Rk} {pins : Nat} {ball : List Rg} {left left' : Nat → Bool} {lo hi x : Nat} (h : LMid r pins ball left lo hi) (hx : LeaveP r pins ball x) (hl : ∀ u, left' u = false → left u = false ∨ u = x) : LMid r pins ball left' (min lo (many x)) (max hi (many x)) := by
  refine ⟨fun u hu h' => ?_, ?_, ?_⟩
  · rcases hl u h' with h1 | rfl
    · have := h.all u hu h1
      omega
    · omega
  · by_cases e : lo ≤ many x
    · rw [Nat.min_eq_left e]; exact h.low
    · exact .inr ⟨x, hx, by omega⟩
  · by_cases e : many x ≤ hi
    · rw [Nat.max_eq_left e]; exact h.high
    · exact .inr ⟨x, hx, by omega⟩
theorem LMid.done {r : Rk} {pins : Nat} {ball : List Rg} {left : Nat → Bool} {lo hi : Nat} (hp : pins < 2 ^ 10) (hr : Ranges ball) (h : LMid r pins ball left lo hi) (hl : ∀ u, LeaveP r pins ball u → left u = false) : leftN r pins ball = (lo, hi) := by
  refine leftN_eq hr ⟨fun u hu => h.all u hu (hl u hu), ?_, ?_⟩
  · rcases h.low with e | h1
    · obtain ⟨u, hu⟩ := leave_ex (r := r) (pins := pins) hr
      have := h.all u hu (hl u hu)
      have := many_mono (leave_lt hu) hp (leave_sub hp hu)
      exact ⟨u, hu, by omega⟩
    · exact h1
  · rcases h.high with e | h1
    · obtain ⟨u, hu⟩ := leave_ex (r := r) (pins := pins) hr
      have := h.all u hu (hl u hu)
      exact ⟨u, hu, by omega⟩
    · exact h1
noncomputable def leftV (r : Rk) (xs : List Int) (ball : List Rg) : Nat × Nat := if thrErr r xs ball = 0 then leftN r (pinS r xs) ball else (0, 0)
theorem len_many {r : Rk} {xs : List Int} (h : pinErr r xs = 0) : xs.length = many (pinS r xs) := by
  obtain ⟨h1, h2, h3⟩ := pins_nats h
  have h10 : ∀ p ∈ xs.map Int.toNat, p < 10 := fun p hp => by have := h3 p hp; have := pn_le (rackOk (pinErr_rack h)).rows1 (rackOk (pinErr_rack h)).rows4; omega
  unfold many
  rw [pinS, if_pos h, listS_ofS h2 h10, List.length_map]
end

section
open Go.RowKit
attribute [local go_sem] Oper.semAt_some
theorem invK100 (key : Value) (kl : Lit) (h : keyOf Try.prog 156 key = some kl) : ∃ x : Int, key = (fun x : Int => Value.int .u16 x) x := by
  obtain ⟨x, rfl, _⟩ := Maps.keyOf_int_inv under100 h
  exact ⟨x, rfl⟩
theorem invVV (v : Value) (y : DataW Unit × List MemPlace) (h : plainElem Try.prog 4 v = some y) : ∃ x : Value, v = (fun v : Value => v) x := ⟨v, rfl⟩
theorem key100 {x : Int} {kl : Lit} (h : keyOf Try.prog 156 (.int .u16 x) = some kl) : ∃ u : Nat, x = (u : Int) ∧ u < 65536 ∧ kl = .int .u16 (u : Int) := by
  obtain ⟨x', ex, rfl, hw⟩ := Maps.keyOf_int_inv under100 h
  cases ex
  simp only [Lit.wf, show IntKind.u16.min = 0 by decide, show IntKind.u16.max = 65535 by decide, Bool.and_eq_true, decide_eq_true_eq] at hw
  obtain ⟨u, rfl⟩ := Int.eq_ofNat_of_zero_le hw.1
  exact ⟨u, rfl, by omega, rfl⟩
theorem sameKey_u16 {u v : Nat} : (Lit.int .u16 (u : Int)).sameKey (.int .u16 (v : Int)) = decide (u = v) := by
  by_cases e : u = v
  · subst e; simp [Lit.sameKey]
  · rw [Maps.sameKey_ne (fun h => e (by simp only [Lit.int.injEq, true_and] at h; omega))]; simp [e]
theorem hmid_done {r : Rk} {pins : Nat} {ball : List Rg} {left : Lit → Bool} {lo hi : Nat} (h : LMid r pins ball (fun u => left (.int .u16 (u : Int))) lo hi) (hp : pins < 2 ^ 10) (hr : Ranges ball) (hl : ∀ kl, left kl = false) : leftN r pins ball = (lo, hi) := h.done hp hr fun u _ => hl _
theorem below_cat {W cur w9 : World} (hb : Below cur.heap.size cur w9) (h : Below W.heap.size W cur) : Below W.heap.size W w9 := h.trans (hb.mono h.size)
set_option maxRecDepth 100000 in
set_option maxHeartbeats 16000000 in
theorem left21_c (r : Rk) (A xA Ab : Option Addr) (c cx cb : Nat) (xs : List Int) (ball : List Rg) (w : World) (hl : Lks w.heap.size w A r.links) (hc : r.links.length ≤ c ∧ c ≤ 9223372036854775807) (hx : Ints w.heap.size w xA xs) (hcx : xs.length ≤ cx ∧ cx ≤ 9223372036854775807) (hball : Rgs w.heap.size w Ab ball) (hcb : ball.length ≤ cb ∧ cb ≤ 9223372036854775807) :
    Calls Try.prog 21 #[.agg #[.int .i64 r.rows, .int .i64 r.mid, .int .i64 r.gap, .int .i64 r.reach, .slice A r.links.length c], .slice xA xs.length cx, .slice Ab ball.length cb] w (Ans w (.tuple #[.agg #[.int .i64 ((leftV r xs ball).1 : Int), .int .i64 ((leftV r xs ball).2 : Int)], .int .i64 (thrErr r xs ball)])) := by
  have HB := Lib.hid (Below.refl w.heap.size w)
  have HLk := Lib.hid hl
  have HG0 := Lib.hid hball
  have HL := Lib.hid hl
  have HX := Lib.hid hx
  have HBa := Lib.hid hball
  clear hl hx hball
  have hb : Below w.heap.size w (w.alloc (.cells #[.int .i64 r.rows, .int .i64 r.mid, .int .i64 r.gap, .int .i64 r.reach, .slice A r.links.length c] 69)) := (Below.refl _ _).alloc (Nat.le_refl _) _
  replace HL := Lib.hid (HL.out.step hb)
  replace HX := Lib.hid (HX.out.step hb)
  replace HBa := Lib.hid (HBa.out.step hb)
  replace HB := Lib.hid (HB.out.trans (hb.mono HB.out.size))
  clear hb
  have k0 : (w.alloc (.cells #[.int .i64 r.rows, .int .i64 r.mid, .int .i64 r.gap, .int .i64 r.reach, .slice A r.links.length c] 69)).cell? ⟨w.heap.size, 0, none⟩ = some (.int .i64 r.rows) := by simp
  have k1 : (w.alloc (.cells #[.int .i64 r.rows, .int .i64 r.mid, .int .i64 r.gap, .int .i64 r.reach, .slice A r.links.length c] 69)).cell? ⟨w.heap.size, 1, none⟩ = some (.int .i64 r.mid) := by simp
  have k2 : (w.alloc (.cells #[.int .i64 r.rows, .int .i64 r.mid, .int .i64 r.gap, .int .i64 r.reach, .slice A r.links.length c] 69)).cell? ⟨w.heap.size, 2, none⟩ = some (.int .i64 r.gap) := by simp
  have k3 : (w.alloc (.cells #[.int .i64 r.rows, .int .i64 r.mid, .int .i64 r.gap, .int .i64 r.reach, .slice A r.links.length c] 69)).cell? ⟨w.heap.size, 3, none⟩ = some (.int .i64 r.reach) := by simp
  have k4 : (w.alloc (.cells #[.int .i64 r.rows, .int .i64 r.mid, .int .i64 r.gap, .int .i64 r.reach, .slice A r.links.length c] 69)).cell? ⟨w.heap.size, 4, none⟩ = some (.slice A r.links.length c) := by simp
  have hb : Below (w.alloc (.cells #[.int .i64 r.rows, .int .i64 r.mid, .int .i64 r.gap, .int .i64 r.reach, .slice A r.links.length c] 69)).heap.size (w.alloc (.cells #[.int .i64 r.rows, .int .i64 r.mid, .int .i64 r.gap, .int .i64 r.reach, .slice A r.links.length c] 69)) ((w.alloc (.cells #[.int .i64 r.rows, .int .i64 r.mid, .int .i64 r.gap, .int .i64 r.reach, .slice A r.links.length c] 69)).alloc (.cells #[.int .i64 0, .int .i64 0] 64)) := (Below.refl _ _).alloc (Nat.le_refl _) _
  replace HL := Lib.hid (HL.out.step hb)
  replace HX := Lib.hid (HX.out.step hb)
  replace HBa := Lib.hid (HBa.out.step hb)
  replace k0 := cell_of_ans hb k0
  replace k1 := cell_of_ans hb k1
  replace k2 := cell_of_ans hb k2
  replace k3 := cell_of_ans hb k3
  replace k4 := cell_of_ans hb k4
  replace HB := Lib.hid (HB.out.trans (hb.mono HB.out.size))
  clear hb
  have HZ : Hid (At2 ((w.alloc (.cells #[.int .i64 r.rows, .int .i64 r.mid, .int .i64 r.gap, .int .i64 r.reach, .slice A r.links.length c] 69)).alloc (.cells #[.int .i64 0, .int .i64 0] 64)) (w.heap.size + 1) 64 0 0) := by show At2 _ _ _ _ _; unfold At2; rw [show w.heap.size + 1 = (w.alloc (.cells #[.int .i64 r.rows, .int .i64 r.mid, .int .i64 r.gap, .int .i64 r.reach, .slice A r.links.length c] 69)).heap.size by simp]; exact World.alloc_heap_new _ _
  have HLV : Hid (leftV r xs ball = if thrErr r xs ball = 0 then leftN r (pinS r xs) ball else (0, 0)) := rfl
  have HTV : Hid (thrV r A c xs ball = if thrErr r xs ball = 0 then .agg #[.int .i64 r.rows, .int .i64 r.mid, .int .i64 r.gap, .int .i64 r.reach, .slice A r.links.length c, .int .u16 (pinS r xs : Int)] else .agg #[.int .i64 0, .int .i64 0, .int .i64 0, .int .i64 0, .slice none 0 0, .int .u16 0]) := rfl
  by_cases he : thrErr r xs ball = 0
  · rw [if_pos he] at HLV HTV
    obtain ⟨hpe, hbl⟩ := thrErr_pin he
    have hr := rackOk (pinErr_rack hpe)
    obtain ⟨hbl1, hbl2, hbl3⟩ := ballB_ok hbl
    have hpl := pinS_lt (r := r) (xs := xs)
    have HLM := Lib.hid (len_many hpe)
    have hml := many_le (pinS r xs)
    have HE := Lib.hid he
    have HBL1 := Lib.hid hbl1
    have HBL2 := Lib.hid hbl2
    have HBL3 := Lib.hid hbl3
    clear hbl1 hbl2 hbl3 hbl
    have hwz : Hid (w.heap.size + 2 ≤ ((w.alloc (.cells #[.int .i64 r.rows, .int .i64 r.mid, .int .i64 r.gap, .int .i64 r.reach, .slice A r.links.length c] 69)).alloc (.cells #[.int .i64 0, .int .i64 0] 64)).heap.size) := by show _ ≤ _; simp
    go_enter Try.func21, Try.ntmps21
    go_wp2_with fail
    generalize ((w.alloc (.cells #[.int .i64 r.rows, .int .i64 r.mid, .int .i64 r.gap, .int .i64 r.reach, .slice A r.links.length c] 69)).alloc (.cells #[.int .i64 0, .int .i64 0] 64)) = x2 at *
    refine (thrown_c r A xA Ab c cx cb xs ball _ HL.out hc HX.out hcx HBa.out hcb).mono ?_
    rw [HTV.out, he]
    rintro e x3 ⟨rfl, hb⟩
    replace HL := Lib.hid (HL.out.step hb)
    replace HX := Lib.hid (HX.out.step hb)
    replace HBa := Lib.hid (HBa.out.step hb)
    replace k0 := cell_of_ans hb k0
    replace k1 := cell_of_ans hb k1
    replace k2 := cell_of_ans hb k2
    replace k3 := cell_of_ans hb k3
    replace k4 := cell_of_ans hb k4
    replace HZ := Lib.hid (HZ.out.step hb)
    replace HB := Lib.hid (HB.out.trans (hb.mono HB.out.size))
    clear hb
    clear he HTV
    generalize pinS r xs = pins at *
    clear k0 k1 k2 k3 k4 HX
    go_wp2_with fail
    have hz3 := HZ.out.lt
    have hbx : Below x3.heap.size x3 ((x3.alloc (.cells #[.int .i64 r.rows, .int .i64 r.mid, .int .i64 r.gap, .int .i64 r.reach, .slice A r.links.length c, .int .u16 (pins : Int)] 158)).alloc (.cells #[.int .i64 (xs.length : Int), .int .i64 0] 64)) := ((Below.refl _ _).alloc (Nat.le_refl _) _).alloc (by simp) _
    have HM : Hid (At2 ((x3.alloc (.cells #[.int .i64 r.rows, .int .i64 r.mid, .int .i64 r.gap, .int .i64 r.reach, .slice A r.links.length c, .int .u16 (pins : Int)] 158)).alloc (.cells #[.int .i64 (xs.length : Int), .int .i64 0] 64)) (x3.heap.size + 1) 64 (xs.length : Int) 0) := by
      have := World.alloc_heap_new (x3.alloc (.cells #[.int .i64 r.rows, .int .i64 r.mid, .int .i64 r.gap, .int .i64 r.reach, .slice A r.links.length c, .int .u16 (pins : Int)] 158)) (.cells #[.int .i64 (xs.length : Int), .int .i64 0] 64)
      rw [World.size_alloc] at this
      exact this
    replace HL := Lib.hid (HL.out.step hbx)
    replace HBa := Lib.hid (HBa.out.step hbx)
    replace HZ := Lib.hid (HZ.out.step hbx)
    have hw3 : w.heap.size + 1 < x3.heap.size + 1 := by omega
    replace HB := Lib.hid (HB.out.trans (hbx.mono HB.out.size))
    have hs4 : x3.heap.size + 2 = ((x3.alloc (.cells #[.int .i64 r.rows, .int .i64 r.mid, .int .i64 r.gap, .int .i64 r.reach, .slice A r.links.length c, .int .u16 (pins : Int)] 158)).alloc (.cells #[.int .i64 (xs.length : Int), .int .i64 0] 64)).heap.size := by simp
    clear hbx
    generalize ((x3.alloc (.cells #[.int .i64 r.rows, .int .i64 r.mid, .int .i64 r.gap, .int .i64 r.reach, .slice A r.links.length c, .int .u16 (pins : Int)] 158)).alloc (.cells #[.int .i64 (xs.length : Int), .int .i64 0] 64)) = x4 at *
    obtain ⟨mq, hmq⟩ : ∃ mq, mq = x3.heap.size + 1 := ⟨_, rfl⟩
    rw [← hmq] at HM hw3
    rw [← hmq]
    have hq4 : mq < x4.heap.size := by omega
    have hwq : w.heap.size ≤ mq := by omega
    clear hmq hs4
    refine (leaves_c r A Ab c cb pins ball _ hr hpl HBL1.out HBL3.out HL.out hc HBa.out hcb).mono ?_
    rintro e x5 ⟨b, nb, O, rfl, ⟨D, hown, hat, hhas⟩, hOL, hb4, hb⟩
    have HM5 := Lib.hid (HM.out.step hb)
    have HZ5 := Lib.hid (HZ.out.step hb)
    have HB5 : Hid (Below w.heap.size w x5) := HB.out.trans (hb.mono HB.out.size)
    have hq5 : mq < x5.heap.size := Nat.lt_of_lt_of_le hq4 hb.size
    have HOL := Lib.hid hOL
    have HHAS := Lib.hid hhas
    clear hb HL HBa HZ HB HM hat hOL hhas
    go_wp2_with (first | (at_range; refine wpList_range_own _ rfl _ 161 rfl 156 4 set_law under113 (plainElem Try.prog 4) b nb D rfl hown ?_; intro w0 hrg0 hg0 hs0) | fail)
    go_frame
    have hb0 : Below x5.heap.size x5 w0 := ⟨hg0.os, hg0.tape, hg0.output, hg0.size, fun i hi => hg0.block i hi (by simp)⟩
    have HM0 := Lib.hid (HM5.out.step hb0)
    have HZ0 := Lib.hid (HZ5.out.step hb0)
    have HB0 : Hid (Below w.heap.size w w0) := HB5.out.trans (hb0.mono HB5.out.size)
    have hbq : b ≠ mq := by omega
    have hrq : x5.heap.size ≠ mq := by omega
    have hwr : w.heap.size ≤ x5.heap.size := HB5.out.size
    have HRG0 := Lib.hid hrg0
    clear hb0 HM5 HZ5 HB5 hg0 hs0 hown hrg0
    generalize x5.heap.size = rq at *
    go_loopw [11] (fun _ wr => ∃ (left : Lit → Bool) (cnt lo hi : Nat), wr.ranges Try.prog 156 (plainElem Try.prog 4) b rq nb D left cnt ∧ (∀ u : Nat, u < 65536 → left (.int .u16 (u : Int)) = true → O u = true) ∧ LMid r pins ball (fun u => left (.int .u16 (u : Int))) lo hi ∧ lo ≤ 10 ∧ hi ≤ 10 ∧ At2 wr mq 64 (lo : Int) (hi : Int) ∧ At2 wr (w.heap.size + 1) 64 0 0 ∧ Below w.heap.size w wr) (fun _ wr => wr.rangeLeft b rq)
    case atStart =>
      refine ⟨Maps.has D, Maps.size D, many pins, 0, HRG0.out, fun u hu h => by rw [HHAS.out u hu] at h; exact h, LMid.start (fun u hu => ?_), hml, by omega, by rw [← HLM.out]; exact HM0.out, HZ0.out, HB0.out⟩
      have := leave_lt hu
      show Maps.has D _ = true
      rw [HHAS.out u (by omega)]
      exact (HOL.out u).2 hu
    case round =>
      obtain ⟨left, cnt, lo, hi, hrg, hlO, hmid, hlo, hhi, hM, hZ, hB⟩ := hrel
      rename World => wr
      have HLO := Lib.hid hlO
      have HMID := Lib.hid hmid
      have HM := Lib.hid hM
      have HZ := Lib.hid hZ
      have HB := Lib.hid hB
      have HRG := Lib.hid hrg
      clear hlO hmid hM hZ hB
      go_wp2_with (at_next; refine wpList_next_ranges _ rfl _ rfl 156 set_law (plainElem Try.prog 4) (fun x : Int => Value.int .u16 x) (fun v : Value => v) invK100 invVV b rq nb _ _ _ rfl hrg ?_ ?_)
      · intro _ hl0
        have HFIN := Lib.hid (hmid_done HMID.out hpl HBL2.out hl0)
        obtain ⟨⟨m0, m1⟩, -⟩ := HM.out.cells
        have hwq1 := HZ.out.lt
        clear hrg hl0
        obtain ⟨⟨z0, z1⟩, zf⟩ := HZ.out.cells
        have zf0 := zf 0
        have zf1 := zf 1
        have HF := Lib.hid (HZ.out.set (lo : Int) (hi : Int))
        have HBF : Hid (Below w.heap.size w ((wr.setCell ⟨w.heap.size + 1, 0, none⟩ (.int .i64 (lo : Int))).setCell ⟨w.heap.size + 1, 1, none⟩ (.int .i64 (hi : Int)))) := (HB.out.setCell (by simp) _).setCell (by simp) _
        clear zf
        go_wp2_with fail
        generalize (wr.setCell ⟨w.heap.size + 1, 0, none⟩ (.int .i64 (lo : Int))).setCell ⟨w.heap.size + 1, 1, none⟩ (.int .i64 (hi : Int)) = W9 at *
        obtain ⟨⟨y0, y1⟩, -⟩ := HF.out.cells
        refine bodyPost_ret (v := .tuple #[.agg #[.int .i64 (lo : Int), .int .i64 (hi : Int)], .int .i64 (0)]) (by simp [results, Try.results21, go_sem, y0, y1]) rfl ?_
        exact ⟨by rw [HLV.out, HFIN.out, HE.out], HBF.out⟩
      · intro x cc kl y y2 w1 cnt1 hkey hlx hy hat1 hrg1 hlt hg1 hs1 hen
        try dsimp only at hkey hen hy
        obtain ⟨u, rfl, hu, rfl⟩ := key100 hkey
        have hLu : LeaveP r pins ball u := (HOL.out u).1 (HLO.out u hu hlx)
        have HMID1 := Lib.hid (HMID.out.take (left' := fun v => left (.int .u16 (v : Int)) && !(Lit.int .u16 (v : Int)).sameKey (.int .u16 (u : Int))) hLu (fun v hv => by
          simp only [sameKey_u16] at hv
          by_cases e : v = u
          · exact .inr e
          · simp [e] at hv; exact .inl hv))
        have HLO1 : Hid (∀ v : Nat, v < 65536 → (left (.int .u16 (v : Int)) && !(Lit.int .u16 (v : Int)).sameKey (.int .u16 (u : Int))) = true → O v = true) := fun v hv h => HLO.out v hv (by simp at h; exact h.1)
        have hne1 : rq ≠ w.heap.size + 1 := by omega
        have HM1 : Hid (At2 w1 mq 64 (lo : Int) (hi : Int)) := (hg1.block _ HM.out.lt (fun e => by injection e with e; omega)).trans HM.out
        have HZ1 : Hid (At2 w1 (w.heap.size + 1) 64 0 0) := (hg1.block _ HZ.out.lt (fun e => by injection e with e; omega)).trans HZ.out
        have HB1 : Hid (Below w.heap.size w w1) := HB.out.grown hg1 HB.out.size (fun j e => by injection e with e; omega)
        have HRG1 := Lib.hid hrg1
        have HLT := Lib.hid hlt
        have hmu := many_le u
        clear hkey hlx hy hat1 hrg1 hlt hg1 hs1 hLu hrg HMID HLO HM HZ HB
        generalize hmm : many u = mu at *
        have HMU := Lib.hid hmm
        clear hmm
        go_wp2_with fail
        refine wp_region_noPanic ?_
        have hS : (fun W' : World => Below w1.heap.size w1 W') w1.drew := (Below.refl _ _).drew
        refine wp_region_any (by kernel_rfl) (wpAny_of_T (S := fun W' : World => Below w1.heap.size w1 W') (m := 13) _ _ _ _ ?_)
        refine' T_take (i := 0) (v := _) rfl (by kernel_rfl) (by kernel_rfl) (by kernel_rfl) (by kernel_rfl) (fun _ _ _ h => h) (by rfl) hS ?_ ?_
        rotate_left 1
        · intro Wv hW
          obtain ⟨⟨f0, f1⟩, -⟩ := (HM1.out.step hW).cells
          go_simp
          first | done | with_reducible rfl
        try simp only [Act.put, List.setIfInBounds_toArray, List.set_cons_zero, List.set_cons_succ]
        refine' T_take (i := 1) (v := _) rfl (by kernel_rfl) (by kernel_rfl) (by kernel_rfl) (by kernel_rfl) (fun _ _ _ h => h) (by rfl) hS ?_ ?_
        rotate_left 1
        · intro Wv hW
          obtain ⟨⟨f0, f1⟩, -⟩ := (HM1.out.step hW).cells
          go_simp
          first | done | with_reducible rfl
        try simp only [Act.put, List.setIfInBounds_toArray, List.set_cons_zero, List.set_cons_succ]
        refine' T_take (i := 2) (v := _) rfl (by kernel_rfl) (by kernel_rfl) (by kernel_rfl) (by kernel_rfl) (fun _ _ _ h => h) (by rfl) hS ?_ ?_
        rotate_left 1
        · intro Wv hW
          obtain ⟨⟨f0, f1⟩, -⟩ := (HM1.out.step hW).cells
          go_simp
          first | done | with_reducible rfl
        try simp only [Act.put, List.setIfInBounds_toArray, List.set_cons_zero, List.set_cons_succ]
        refine' T_take (i := 6) (v := _) rfl (by kernel_rfl) (by kernel_rfl) (by kernel_rfl) (by kernel_rfl) (fun _ _ _ h => h) (by rfl) hS ?_ ?_
        rotate_left 1
        · intro Wv hW
          obtain ⟨⟨f0, f1⟩, -⟩ := (HM1.out.step hW).cells
          go_simp
          first | done | with_reducible rfl
        try simp only [Act.put, List.setIfInBounds_toArray, List.set_cons_zero, List.set_cons_succ]
        refine' T_take (i := 7) (v := _) rfl (by kernel_rfl) (by kernel_rfl) (by kernel_rfl) (by kernel_rfl) (fun _ _ _ h => h) (by rfl) hS ?_ ?_
        rotate_left 1
        · intro Wv hW
          obtain ⟨⟨f0, f1⟩, -⟩ := (HM1.out.step hW).cells
          go_simp
          first | done | with_reducible rfl
        try simp only [Act.put, List.setIfInBounds_toArray, List.set_cons_zero, List.set_cons_succ]
        refine' T_take (i := 8) (v := _) rfl (by kernel_rfl) (by kernel_rfl) (by kernel_rfl) (by kernel_rfl) (fun _ _ _ h => h) (by rfl) hS ?_ ?_
        rotate_left 1
        · intro Wv hW
          obtain ⟨⟨f0, f1⟩, -⟩ := (HM1.out.step hW).cells
          go_simp
          first | done | with_reducible rfl
        try simp only [Act.put, List.setIfInBounds_toArray, List.set_cons_zero, List.set_cons_succ]
        refine T_ready (rs := [3]) (by kernel_rfl) (by simp) ?_
        refine TReady.cons rfl (fun K hK => ?_) TReady.nil
        try go_simp
        refine (many_c u _ hu).mono ?_
        rintro e w3 ⟨rfl, hb⟩
        rw [HMU.out]
        try go_simp
        have hS2 : Below w1.heap.size w1 w3 := below_drew_l hb
        refine hK.out _ _ (fun _ => hS2) (fun _ => ?_)
        clear hK K hS hb
        replace hS := hS2
        clear hS2
        try simp only [Act.put, List.setIfInBounds_toArray, List.set_cons_zero, List.set_cons_succ]
        refine T_ready (rs := [4]) (by kernel_rfl) (by simp) ?_
        refine TReady.cons rfl (fun K hK => ?_) TReady.nil
        try go_simp
        refine hK.out _ _ (fun _ => hS.alloc hS.size _) (fun hS2 => ?_)
        replace hS := hS2 (by decide)
        clear hS2 hK K
        try simp only [Act.put, List.setIfInBounds_toArray, List.set_cons_zero, List.set_cons_succ]
        refine T_ready (rs := [5]) (by kernel_rfl) (by simp) ?_
        refine TReady.cons rfl (fun K hK => ?_) TReady.nil
        try go_simp
        refine (least_c _ (lo : Int) (mu : Int) _ (by go_simp) (by go_simp)).mono ?_
        rintro e w4 ⟨rfl, rfl⟩
        try go_simp
        refine hK.out _ _ (fun _ => hS) (fun _ => ?_)
        clear hK K
        try simp only [Act.put, List.setIfInBounds_toArray, List.set_cons_zero, List.set_cons_succ]
        refine T_ready (rs := [9]) (by kernel_rfl) (by simp) ?_
        refine TReady.cons rfl (fun K hK => ?_) TReady.nil
        try go_simp
        refine (many_c u _ hu).mono ?_
        rintro e w5 ⟨rfl, hb⟩
        rw [HMU.out]
        try go_simp
        have hS2 : Below w1.heap.size w1 w5 := below_cat hb hS
        refine hK.out _ _ (fun _ => hS2) (fun _ => ?_)
        clear hK K hS hb
        replace hS := hS2
        clear hS2
        try simp only [Act.put, List.setIfInBounds_toArray, List.set_cons_zero, List.set_cons_succ]
        refine T_ready (rs := [10]) (by kernel_rfl) (by simp) ?_
        refine TReady.cons rfl (fun K hK => ?_) TReady.nil
        try go_simp
        refine hK.out _ _ (fun _ => hS.alloc hS.size _) (fun hS2 => ?_)
        replace hS := hS2 (by decide)
        clear hS2 hK K
        try simp only [Act.put, List.setIfInBounds_toArray, List.set_cons_zero, List.set_cons_succ]
        refine T_ready (rs := [11]) (by kernel_rfl) (by simp) ?_
        refine TReady.cons rfl (fun K hK => ?_) TReady.nil
        try go_simp
        refine (greatest_c _ (hi : Int) (mu : Int) _ (by go_simp) (by go_simp)).mono ?_
        rintro e w6 ⟨rfl, rfl⟩
        try go_simp
        refine hK.out _ _ (fun _ => hS) (fun _ => ?_)
        clear hK K
        try simp only [Act.put, List.setIfInBounds_toArray, List.set_cons_zero, List.set_cons_succ]
        refine' T_take (i := 12) (v := _) rfl (by kernel_rfl) (by kernel_rfl) (by kernel_rfl) (by kernel_rfl) (fun _ _ _ h => h) (by rfl) hS ?_ ?_
        rotate_left 1
        · intro Wv hW
          skip
          go_simp
          first | done | with_reducible rfl
        try simp only [Act.put, List.setIfInBounds_toArray, List.set_cons_zero, List.set_cons_succ]
        generalize w5.alloc (.cells #[.int .i64 (hi : Int), .int .i64 (mu : Int)] 3) = w7 at *
        refine T_ready (rs := [13]) (by kernel_rfl) (by simp) ?_
        refine TReady.cons rfl (fun K hK => ?_) TReady.nil
        have HM7 := HM1.out.step hS
        obtain ⟨⟨m0, m1⟩, mf⟩ := HM7.cells
        have mf0 := mf 0
        have mf1 := mf 1
        have hmin : min (lo : Int) (mu : Int) = ((min lo mu : Nat) : Int) := by omega
        have hmax : max (hi : Int) (mu : Int) = ((max hi mu : Nat) : Int) := by omega
        rw [hmin, hmax]
        clear mf hmin hmax
        try go_simp
        refine hK.out _ _ (fun h => absurd h (by decide)) (fun _ => ?_)
        clear hK K
        try simp only [Act.put, List.setIfInBounds_toArray, List.set_cons_zero, List.set_cons_succ]
        refine T_done (by kernel_rfl) ?_ _
        refine NoPanic.normal ?_
        have HG7 : Hid (w1.grownBy ((w7.setCell ⟨mq, 0, none⟩ (.int .i64 ((min lo mu : Nat) : Int))).setCell ⟨mq, 1, none⟩ (.int .i64 ((max hi mu : Nat) : Int))) (some mq)) := only_setCell (only_setCell (only_below hS (some mq)) (.inl rfl) _) (.inl rfl) _
        have HM8 := Lib.hid (HM7.set ((min lo mu : Nat) : Int) ((max hi mu : Nat) : Int))
        clear HM7 m0 m1 mf0 mf1 hS
        generalize (w7.setCell ⟨mq, 0, none⟩ (.int .i64 ((min lo mu : Nat) : Int))).setCell ⟨mq, 1, none⟩ (.int .i64 ((max hi mu : Nat) : Int)) = w8 at *
        go_wp2_with fail
        have hrg8 := HRG1.out.kept HG7.out (by simp; omega) (by simp; omega)
        go_roundw
        case rel =>
          refine ⟨_, cnt1, min lo mu, max hi mu, hrg8, HLO1.out, ?_, by omega, by omega, HM8.out, (HG7.out.block _ HZ1.out.lt (fun e => by injection e with e; omega)).trans HZ1.out, HB1.out.grown HG7.out HB1.out.size (fun j e => by injection e with e; omega)⟩
          exact HMID1.out
        case measure =>
          have := HLT.out
          rw [hrg8.left_eq, HRG.out.left_eq]
          omega
  · rw [if_neg he] at HLV HTV
    have hne : (thrErr r xs ball != 0) = true := by simp [he]
    clear he
    go_enter Try.func21, Try.ntmps21
    go_wp2_with fail
    generalize ((w.alloc (.cells #[.int .i64 r.rows, .int .i64 r.mid, .int .i64 r.gap, .int .i64 r.reach, .slice A r.links.length c] 69)).alloc (.cells #[.int .i64 0, .int .i64 0] 64)) = x2 at *
    refine (thrown_c r A xA Ab c cx cb xs ball _ HL.out hc HX.out hcx HBa.out hcb).mono ?_
    rw [HTV.out]
    rintro e x3 ⟨rfl, hb⟩
    replace HL := Lib.hid (HL.out.step hb)
    replace HX := Lib.hid (HX.out.step hb)
    replace HBa := Lib.hid (HBa.out.step hb)
    replace k0 := cell_of_ans hb k0
    replace k1 := cell_of_ans hb k1
    replace k2 := cell_of_ans hb k2
    replace k3 := cell_of_ans hb k3
    replace k4 := cell_of_ans hb k4
    replace HZ := Lib.hid (HZ.out.step hb)
    replace HB := Lib.hid (HB.out.trans (hb.mono HB.out.size))
    clear hb
    have lz := HZ.out.lt
    go_upto_region 3 with fail
    have hb : Below x3.heap.size x3 (x3.alloc (.cells #[.int .i64 0, .int .i64 0, .int .i64 0, .int .i64 0, .slice none 0 0, .int .u16 0] 158)) := (Below.refl _ _).alloc (Nat.le_refl _) _
    replace HL := Lib.hid (HL.out.step hb)
    replace HX := Lib.hid (HX.out.step hb)
    replace HBa := Lib.hid (HBa.out.step hb)
    replace k0 := cell_of_ans hb k0
    replace k1 := cell_of_ans hb k1
    replace k2 := cell_of_ans hb k2
    replace k3 := cell_of_ans hb k3
    replace k4 := cell_of_ans hb k4
    replace HZ := Lib.hid (HZ.out.step hb)
    replace HB := Lib.hid (HB.out.trans (hb.mono HB.out.size))
    clear hb
    generalize x3.alloc (.cells #[.int .i64 0, .int .i64 0, .int .i64 0, .int .i64 0, .slice none 0 0, .int .u16 0] 158) = x4 at *
    obtain ⟨⟨z0, z1⟩, zf⟩ := HZ.out.cells
    have zf0 := zf 0
    have zf1 := zf 1
    have HF := Lib.hid (HZ.out.set (0) (0))
    have HBF : Hid (Below w.heap.size w ((x4.setCell ⟨w.heap.size + 1, 0, none⟩ (.int .i64 (0))).setCell ⟨w.heap.size + 1, 1, none⟩ (.int .i64 (0)))) := (HB.out.setCell (by simp) _).setCell (by simp) _
    clear zf
    go_wp2_with fail
    generalize (x4.setCell ⟨w.heap.size + 1, 0, none⟩ (.int .i64 (0))).setCell ⟨w.heap.size + 1, 1, none⟩ (.int .i64 (0)) = W9 at *
    obtain ⟨⟨y0, y1⟩, -⟩ := HF.out.cells
    refine bodyPost_ret (v := .tuple #[.agg #[.int .i64 (0), .int .i64 (0)], .int .i64 (thrErr r xs ball)]) (by simp [results, Try.results21, go_sem, y0, y1]) rfl ?_
    exact ⟨by rw [HLV.out]; rfl, HBF.out⟩
end

section
open Go.RowKit
def cellsK (x : Lk) : List Value := [.int .i64 x.f, .int .i64 x.t, .bool x.s]
def flatK (ls : List Lk) : List Value := ls.flatMap cellsK
theorem flatK_append (ws vs : List Lk) : flatK (ws ++ vs) = flatK ws ++ flatK vs := by simp [flatK]
theorem flatK_at : ∀ (ls : List Lk) (k : Nat), k < ls.length → (flatK ls)[k * 3]? = some (.int .i64 (lx ls k).f) ∧ (flatK ls)[k * 3 + 1]? = some (.int .i64 (lx ls k).t) ∧ (flatK ls)[k * 3 + 2]? = some (.bool (lx ls k).s)
  | x :: xs, 0, _ => by simp [flatK, cellsK, lx]
  | x :: xs, k + 1, h => by
    have := flatK_at xs k (by simpa using h)
    simp only [flatK, cellsK, List.flatMap_cons, lx, List.getD_cons_succ] at *
    rw [show (k + 1) * 3 = k * 3 + 3 by omega]
    simpa using this
theorem one_flatK (ls : List Lk) : ∀ v ∈ flatK ls, v.oneCell' = true := by
  intro v hv
  simp only [flatK, cellsK, List.mem_flatMap] at hv
  obtain ⟨p, _, hv⟩ := hv
  simp at hv
  rcases hv with rfl | rfl | rfl <;> rfl
def OwnK (e : TypeId) (base : Nat) (w : World) (u : Value) (ls : List Lk) : Prop := w.ownsRow base e 3 u ls.length (flatK ls)
theorem OwnK.form {e : TypeId} {base : Nat} {w : World} {u : Value} {ls : List Lk} (h : OwnK e base w u ls) : ∃ A c, u = .slice A ls.length c := ownsRow_form h
theorem OwnK.nil (e : TypeId) (base : Nat) (w : World) : OwnK e base w (.slice none 0 0) [] := World.ownsRow_nil _ _ _ _
theorem OwnK.kept {e : TypeId} {base : Nat} {w w' : World} {u : Value} {ls : List Lk} (h : OwnK e base w u ls) (hb : Below w.heap.size w w') : OwnK e base w' u ls := World.ownsRow.kept h (only_below hb none) (by cases u.ownBlock <;> simp)
theorem OwnK.keptBy {e : TypeId} {base g : Nat} {w w' : World} {u : Value} {ls : List Lk} (h : OwnK e base w u ls) (hg : w.grownBy w' (some g)) (hb : g < base) : OwnK e base w' u ls := World.ownsRow.kept h hg (.inr fun e => by
  have := (World.ownsRow.lt h g e).1
  omega)
theorem OwnK.parts {e : TypeId} {base : Nat} {w : World} {A : Option Addr} {n c : Nat} {ls : List Lk} (h : OwnK e base w (.slice A n c) ls) : ls.length ≤ c ∧ c ≤ 9223372036854775807 ∧ Lks w.heap.size w A ls := by
  rcases h.2 with ⟨e, h0⟩ | ⟨g, cap, cur, e, hb, hg, hn, hm, hs, ht⟩
  · injection e with e1 e2 e3
    subst e1 e3
    exact ⟨by omega, by omega, fun hp => by omega⟩
  · injection e with e1 e2 e3
    subst e1 e3
    refine ⟨hn, by unfold maxLen at hm; omega, fun hp => ⟨g, 0, rfl, (Array.getElem?_eq_some_iff.1 hg).1, fun k hk => ?_⟩⟩
    obtain ⟨a0, a1, a2⟩ := flatK_at ls k hk
    have b0 := h.cells (g := g) rfl _ _ a0
    have b1 := h.cells (g := g) rfl _ _ a1
    have b2 := h.cells (g := g) rfl _ _ a2
    rw [add_eq] at b0 b1 b2
    exact ⟨b0, by rw [Nat.add_assoc]; exact b1, by rw [Nat.add_assoc]; exact b2⟩
theorem infoK99 : (Try.prog.info? 165).map (fun i => (i.zero, i.size, i.bytes)) = some (some (.agg #[.int .i64 0, .int .i64 0, .bool false]), 3, 24) := by kernel_rfl
theorem infoK28 : (Try.prog.info? 154).map (fun i => (i.zero, i.size, i.bytes)) = some (some (.agg #[.int .i64 0, .int .i64 0, .bool false]), 3, 24) := by kernel_rfl
def KTy (t e : TypeId) : Prop := (t = 67 ∧ e = 165) ∨ (t = 56 ∧ e = 154)
theorem tyK {t e : TypeId} (h : KTy t e) : Try.prog.underlying t = some (.slice e) ∧ ∃ i, Try.prog.info? e = some i ∧ i.zero = some (.agg #[.int .i64 0, .int .i64 0, .bool false]) ∧ i.size = 3 ∧ i.bytes = 24 := by
  rcases h with ⟨rfl, rfl⟩ | ⟨rfl, rfl⟩
  · obtain ⟨i, a, b, c, d⟩ := info_parts infoK99
    exact ⟨by kernel_rfl, i, a, b, c, d⟩
  · obtain ⟨i, a, b, c, d⟩ := info_parts infoK28
    exact ⟨by kernel_rfl, i, a, b, c, d⟩
theorem srcK (w : World) (x : Lk) (e : TypeId) : Src (w.alloc (.cells #[.int .i64 x.f, .int .i64 x.t, .bool x.s] e)) 3 (some ⟨w.heap.size, 0, none⟩) 1 (flatK [x]) := by
  refine ⟨rfl, (fun h => by cases h), fun ad hA j u hu => ?_⟩
  injection hA with hA
  subst hA
  rw [add_eq]
  rcases j with _ | _ | _ | j <;> simp [flatK, cellsK] at hu
  all_goals
    subst hu
    simp
section
variable {t e : TypeId} {ops : Array Oper} {rest : List Oper} {o : Oper} {a : Act} {K : Act → World → Prop} {Q : Exit → Act → World → Prop} {E : Prop}
theorem run_appK (hT : KTy t e) (ty : TypeId) (base : Nat) (w : World) (u : Value) (ls : List Lk) (x : Lk) (hown : OwnK e base w u ls) (hl : ls.length ≤ 1000000) (hb : base ≤ w.heap.size) :
    ∃ A c w', (Builtin.append_ #[t, t] ty #[u, .slice (some ⟨w.heap.size, 0, none⟩) 1 1]).run Try.prog (w.alloc (.cells #[.int .i64 x.f, .int .i64 x.t, .bool x.s] e)) = .ok (.slice A (ls.length + 1) c) w' ∧ OwnK e base w' (.slice A (ls.length + 1) c) (ls ++ [x]) ∧ Below base w w' := by
  obtain ⟨hu, i, hi, hz, hz1, hz2⟩ := tyK hT
  have hO : w.ownsRow base e 3 u ls.length (flatK ls) := hown
  obtain ⟨u', w', hr, h1, h2, h3⟩ := run_append_src (P := Try.prog) (w := w.alloc (.cells #[.int .i64 x.f, .int .i64 x.t, .bool x.s] e)) base t ty e i _ 3 24 hu hi hz hz1 hz2 rfl (by decide) u ls.length (flatK ls) (hO.alloc _) (some ⟨w.heap.size, 0, none⟩) 1 1 (flatK [x]) (srcK w x e) (one_flatK [x]) (by unfold maxLen; omega) (by omega) (by simp; omega)
  obtain ⟨A, c, rfl⟩ := ownsRow_form h1
  refine ⟨A, c, w', hr, ?_, ((Below.refl base w).alloc hb _).grown h2 (by simp; omega) (fun k e => (hO.lt k e).1)⟩
  unfold OwnK
  rw [flatK_append, List.length_append]
  exact h1
theorem step_appK (hT : KTy t e) (s y : Operand) (hgd : o.guard = none) (ho : o.op = .call { callee := .builtin .append, args := #[s, y], argTypes := #[t, t] }) (base : Nat) (w : World) (u : Value) (ls : List Lk) (x : Lk)
    (hv : a.eval s = u) (hx : a.eval y = .slice (some ⟨w.heap.size, 0, none⟩) 1 1) (hown : Hid (OwnK e base w u ls)) (hl : ls.length ≤ 1000000) (hb : base ≤ w.heap.size)
    (hK : ∀ A c w', Hid (OwnK e base w' (.slice A (ls.length + 1) c) (ls ++ [x])) → Hid (Below base w w') → K (a.put o.dst (.slice A (ls.length + 1) c)) w') :
    if Region.wanted o (yielded ops a.tmps) = true then Oper.wp Try.prog o a (w.alloc (.cells #[.int .i64 x.f, .int .i64 x.t, .bool x.s] e)) K Q else E := by
  rw [if_pos (by simp [Region.wanted, hgd])]
  obtain ⟨A, c, w', hr, h1, h2⟩ := run_appK hT o.type base w u ls x hown.out hl hb
  unfold Oper.wp execOp
  simp only [ho, resolve, invoke, builtin, Sem.run_bind, Sem.run_pure, Result.andThen_ok, List.map_toArray, List.map_cons, List.map_nil, hv, hx, hr]
  exact hK _ _ _ h1 h2
end
def cellsG (x : Rg) : List Value := [.int .i64 x.lo, .int .i64 x.hi]
def flatG (ls : List Rg) : List Value := ls.flatMap cellsG
theorem flatG_append (ws vs : List Rg) : flatG (ws ++ vs) = flatG ws ++ flatG vs := by simp [flatG]
theorem flatG_at : ∀ (ls : List Rg) (k : Nat), k < ls.length → (flatG ls)[k * 2]? = some (.int .i64 (gx ls k).lo) ∧ (flatG ls)[k * 2 + 1]? = some (.int .i64 (gx ls k).hi)
  | x :: xs, 0, _ => by simp [flatG, cellsG, gx]
  | x :: xs, k + 1, h => by
    have := flatG_at xs k (by simpa using h)
    simp only [flatG, cellsG, List.flatMap_cons, gx, List.getD_cons_succ] at *
    rw [show (k + 1) * 2 = k * 2 + 2 by omega]
    simpa using this
theorem one_flatG (ls : List Rg) : ∀ v ∈ flatG ls, v.oneCell' = true := by
  intro v hv
  simp only [flatG, cellsG, List.mem_flatMap] at hv
  obtain ⟨p, _, hv⟩ := hv
  simp at hv
  rcases hv with rfl | rfl <;> rfl
def OwnG (e : TypeId) (base : Nat) (w : World) (u : Value) (ls : List Rg) : Prop := w.ownsRow base e 2 u ls.length (flatG ls)
theorem OwnG.form {e : TypeId} {base : Nat} {w : World} {u : Value} {ls : List Rg} (h : OwnG e base w u ls) : ∃ A c, u = .slice A ls.length c := ownsRow_form h
theorem OwnG.nil (e : TypeId) (base : Nat) (w : World) : OwnG e base w (.slice none 0 0) [] := World.ownsRow_nil _ _ _ _
theorem OwnG.kept {e : TypeId} {base : Nat} {w w' : World} {u : Value} {ls : List Rg} (h : OwnG e base w u ls) (hb : Below w.heap.size w w') : OwnG e base w' u ls := World.ownsRow.kept h (only_below hb none) (by cases u.ownBlock <;> simp)
theorem OwnG.keptBy {e : TypeId} {base g : Nat} {w w' : World} {u : Value} {ls : List Rg} (h : OwnG e base w u ls) (hg : w.grownBy w' (some g)) (hb : g < base) : OwnG e base w' u ls := World.ownsRow.kept h hg (.inr fun e => by
  have := (World.ownsRow.lt h g e).1
  omega)
theorem OwnG.parts {e : TypeId} {base : Nat} {w : World} {A : Option Addr} {n c : Nat} {ls : List Rg} (h : OwnG e base w (.slice A n c) ls) : ls.length ≤ c ∧ c ≤ 9223372036854775807 ∧ Rgs w.heap.size w A ls := by
  rcases h.2 with ⟨e, h0⟩ | ⟨g, cap, cur, e, hb, hg, hn, hm, hs, ht⟩
  · injection e with e1 e2 e3
    subst e1 e3
    exact ⟨by omega, by omega, fun hp => by omega⟩
  · injection e with e1 e2 e3
    subst e1 e3
    refine ⟨hn, by unfold maxLen at hm; omega, fun hp => ⟨g, 0, rfl, (Array.getElem?_eq_some_iff.1 hg).1, fun k hk => ?_⟩⟩
    obtain ⟨a0, a1⟩ := flatG_at ls k hk
    have b0 := h.cells (g := g) rfl _ _ a0
    have b1 := h.cells (g := g) rfl _ _ a1
    rw [add_eq] at b0 b1
    exact ⟨b0, by rw [Nat.add_assoc]; exact b1⟩
theorem infoG44 : (Try.prog.info? 64).map (fun i => (i.zero, i.size, i.bytes)) = some (some (.agg #[.int .i64 0, .int .i64 0]), 2, 16) := by kernel_rfl
theorem infoG33 : (Try.prog.info? 155).map (fun i => (i.zero, i.size, i.bytes)) = some (some (.agg #[.int .i64 0, .int .i64 0]), 2, 16) := by kernel_rfl
def GTy (t e : TypeId) : Prop := (t = 71 ∧ e = 64) ∨ (t = 59 ∧ e = 155)
theorem tyG {t e : TypeId} (h : GTy t e) : Try.prog.underlying t = some (.slice e) ∧ ∃ i, Try.prog.info? e = some i ∧ i.zero = some (.agg #[.int .i64 0, .int .i64 0]) ∧ i.size = 2 ∧ i.bytes = 16 := by
  rcases h with ⟨rfl, rfl⟩ | ⟨rfl, rfl⟩
  · obtain ⟨i, a, b, c, d⟩ := info_parts infoG44
    exact ⟨by kernel_rfl, i, a, b, c, d⟩
  · obtain ⟨i, a, b, c, d⟩ := info_parts infoG33
    exact ⟨by kernel_rfl, i, a, b, c, d⟩
theorem srcG (w : World) (x : Rg) (e : TypeId) : Src (w.alloc (.cells #[.int .i64 x.lo, .int .i64 x.hi] e)) 2 (some ⟨w.heap.size, 0, none⟩) 1 (flatG [x]) := by
  refine ⟨rfl, (fun h => by cases h), fun ad hA j u hu => ?_⟩
  injection hA with hA
  subst hA
  rw [add_eq]
  rcases j with _ | _ | j <;> simp [flatG, cellsG] at hu
  all_goals
    subst hu
    simp
section
variable {t e : TypeId} {ops : Array Oper} {rest : List Oper} {o : Oper} {a : Act} {K : Act → World → Prop} {Q : Exit → Act → World → Prop} {E : Prop}
theorem run_appG (hT : GTy t e) (ty : TypeId) (base : Nat) (w : World) (u : Value) (ls : List Rg) (x : Rg) (hown : OwnG e base w u ls) (hl : ls.length ≤ 1000000) (hb : base ≤ w.heap.size) :
    ∃ A c w', (Builtin.append_ #[t, t] ty #[u, .slice (some ⟨w.heap.size, 0, none⟩) 1 1]).run Try.prog (w.alloc (.cells #[.int .i64 x.lo, .int .i64 x.hi] e)) = .ok (.slice A (ls.length + 1) c) w' ∧ OwnG e base w' (.slice A (ls.length + 1) c) (ls ++ [x]) ∧ Below base w w' := by
  obtain ⟨hu, i, hi, hz, hz1, hz2⟩ := tyG hT
  have hO : w.ownsRow base e 2 u ls.length (flatG ls) := hown
  obtain ⟨u', w', hr, h1, h2, h3⟩ := run_append_src (P := Try.prog) (w := w.alloc (.cells #[.int .i64 x.lo, .int .i64 x.hi] e)) base t ty e i _ 2 16 hu hi hz hz1 hz2 rfl (by decide) u ls.length (flatG ls) (hO.alloc _) (some ⟨w.heap.size, 0, none⟩) 1 1 (flatG [x]) (srcG w x e) (one_flatG [x]) (by unfold maxLen; omega) (by omega) (by simp; omega)
  obtain ⟨A, c, rfl⟩ := ownsRow_form h1
  refine ⟨A, c, w', hr, ?_, ((Below.refl base w).alloc hb _).grown h2 (by simp; omega) (fun k e => (hO.lt k e).1)⟩
  unfold OwnG
  rw [flatG_append, List.length_append]
  exact h1
theorem step_appG (hT : GTy t e) (s y : Operand) (hgd : o.guard = none) (ho : o.op = .call { callee := .builtin .append, args := #[s, y], argTypes := #[t, t] }) (base : Nat) (w : World) (u : Value) (ls : List Rg) (x : Rg)
    (hv : a.eval s = u) (hx : a.eval y = .slice (some ⟨w.heap.size, 0, none⟩) 1 1) (hown : Hid (OwnG e base w u ls)) (hl : ls.length ≤ 1000000) (hb : base ≤ w.heap.size)
    (hK : ∀ A c w', Hid (OwnG e base w' (.slice A (ls.length + 1) c) (ls ++ [x])) → Hid (Below base w w') → K (a.put o.dst (.slice A (ls.length + 1) c)) w') :
    if Region.wanted o (yielded ops a.tmps) = true then Oper.wp Try.prog o a (w.alloc (.cells #[.int .i64 x.lo, .int .i64 x.hi] e)) K Q else E := by
  rw [if_pos (by simp [Region.wanted, hgd])]
  obtain ⟨A, c, w', hr, h1, h2⟩ := run_appG hT o.type base w u ls x hown.out hl hb
  unfold Oper.wp execOp
  simp only [ho, resolve, invoke, builtin, Sem.run_bind, Sem.run_pure, Result.andThen_ok, List.map_toArray, List.map_cons, List.map_nil, hv, hx, hr]
  exact hK _ _ _ h1 h2
end
def cellsB (x : Bool) : List Value := [.bool x]
def flatB (ls : List Bool) : List Value := ls.flatMap cellsB
theorem flatB_append (ws vs : List Bool) : flatB (ws ++ vs) = flatB ws ++ flatB vs := by simp [flatB]
theorem flatB_at : ∀ (ls : List Bool) (k : Nat), k < ls.length → (flatB ls)[k * 1]? = some (.bool (bx ls k))
  | x :: xs, 0, _ => by simp [flatB, cellsB, bx]
  | x :: xs, k + 1, h => by
    have := flatB_at xs k (by simpa using h)
    simp only [flatB, cellsB, List.flatMap_cons, bx, List.getD_cons_succ] at *
    rw [show (k + 1) * 1 = k * 1 + 1 by omega]
    simpa using this
theorem one_flatB (ls : List Bool) : ∀ v ∈ flatB ls, v.oneCell' = true := by
  intro v hv
  simp only [flatB, cellsB, List.mem_flatMap] at hv
  obtain ⟨p, _, hv⟩ := hv
  simp at hv
  subst hv; rfl
def OwnB (e : TypeId) (base : Nat) (w : World) (u : Value) (ls : List Bool) : Prop := w.ownsRow base e 1 u ls.length (flatB ls)
theorem OwnB.form {e : TypeId} {base : Nat} {w : World} {u : Value} {ls : List Bool} (h : OwnB e base w u ls) : ∃ A c, u = .slice A ls.length c := ownsRow_form h
theorem OwnB.nil (e : TypeId) (base : Nat) (w : World) : OwnB e base w (.slice none 0 0) [] := World.ownsRow_nil _ _ _ _
theorem OwnB.kept {e : TypeId} {base : Nat} {w w' : World} {u : Value} {ls : List Bool} (h : OwnB e base w u ls) (hb : Below w.heap.size w w') : OwnB e base w' u ls := World.ownsRow.kept h (only_below hb none) (by cases u.ownBlock <;> simp)
theorem OwnB.keptBy {e : TypeId} {base g : Nat} {w w' : World} {u : Value} {ls : List Bool} (h : OwnB e base w u ls) (hg : w.grownBy w' (some g)) (hb : g < base) : OwnB e base w' u ls := World.ownsRow.kept h hg (.inr fun e => by
  have := (World.ownsRow.lt h g e).1
  omega)
theorem OwnB.parts {e : TypeId} {base : Nat} {w : World} {A : Option Addr} {n c : Nat} {ls : List Bool} (h : OwnB e base w (.slice A n c) ls) : ls.length ≤ c ∧ c ≤ 9223372036854775807 ∧ Bls w.heap.size w A ls := by
  rcases h.2 with ⟨e, h0⟩ | ⟨g, cap, cur, e, hb, hg, hn, hm, hs, ht⟩
  · injection e with e1 e2 e3
    subst e1 e3
    exact ⟨by omega, by omega, fun hp => by omega⟩
  · injection e with e1 e2 e3
    subst e1 e3
    refine ⟨hn, by unfold maxLen at hm; omega, fun hp => ⟨g, 0, rfl, (Array.getElem?_eq_some_iff.1 hg).1, fun k hk => ?_⟩⟩
    have a0 := flatB_at ls k hk
    have b0 := h.cells (g := g) rfl _ _ a0
    rw [add_eq] at b0
    simpa using b0
theorem infoB4 : (Try.prog.info? 4).map (fun i => (i.zero, i.size, i.bytes)) = some (some (.bool false), 1, 1) := by kernel_rfl
def BTy (t e : TypeId) : Prop := (t = 74 ∧ e = 4)
theorem tyB {t e : TypeId} (h : BTy t e) : Try.prog.underlying t = some (.slice e) ∧ ∃ i, Try.prog.info? e = some i ∧ i.zero = some (.bool false) ∧ i.size = 1 ∧ i.bytes = 1 := by
  obtain ⟨rfl, rfl⟩ := h
  obtain ⟨i, a, b, c, d⟩ := info_parts infoB4
  exact ⟨by kernel_rfl, i, a, b, c, d⟩
theorem srcB (w : World) (x : Bool) (e : TypeId) : Src (w.alloc (.cells #[.bool x] e)) 1 (some ⟨w.heap.size, 0, none⟩) 1 (flatB [x]) := by
  refine ⟨rfl, (fun h => by cases h), fun ad hA j u hu => ?_⟩
  injection hA with hA
  subst hA
  rw [add_eq]
  rcases j with _ | j <;> simp [flatB, cellsB] at hu
  all_goals
    subst hu
    simp
section
variable {t e : TypeId} {ops : Array Oper} {rest : List Oper} {o : Oper} {a : Act} {K : Act → World → Prop} {Q : Exit → Act → World → Prop} {E : Prop}
theorem run_appB (hT : BTy t e) (ty : TypeId) (base : Nat) (w : World) (u : Value) (ls : List Bool) (x : Bool) (hown : OwnB e base w u ls) (hl : ls.length ≤ 1000000) (hb : base ≤ w.heap.size) :
    ∃ A c w', (Builtin.append_ #[t, t] ty #[u, .slice (some ⟨w.heap.size, 0, none⟩) 1 1]).run Try.prog (w.alloc (.cells #[.bool x] e)) = .ok (.slice A (ls.length + 1) c) w' ∧ OwnB e base w' (.slice A (ls.length + 1) c) (ls ++ [x]) ∧ Below base w w' := by
  obtain ⟨hu, i, hi, hz, hz1, hz2⟩ := tyB hT
  have hO : w.ownsRow base e 1 u ls.length (flatB ls) := hown
  obtain ⟨u', w', hr, h1, h2, h3⟩ := run_append_src (P := Try.prog) (w := w.alloc (.cells #[.bool x] e)) base t ty e i _ 1 1 hu hi hz hz1 hz2 rfl (by decide) u ls.length (flatB ls) (hO.alloc _) (some ⟨w.heap.size, 0, none⟩) 1 1 (flatB [x]) (srcB w x e) (one_flatB [x]) (by unfold maxLen; omega) (by omega) (by simp; omega)
  obtain ⟨A, c, rfl⟩ := ownsRow_form h1
  refine ⟨A, c, w', hr, ?_, ((Below.refl base w).alloc hb _).grown h2 (by simp; omega) (fun k e => (hO.lt k e).1)⟩
  unfold OwnB
  rw [flatB_append, List.length_append]
  exact h1
theorem wpList_appB (hT : BTy t e) (s y : Operand) (hgd : o.guard = none) (ho : o.op = .call { callee := .builtin .append, args := #[s, y], argTypes := #[t, t] }) (base : Nat) (w : World) (u : Value) (ls : List Bool) (x : Bool)
    (hv : a.eval s = u) (hx : a.eval y = .slice (some ⟨w.heap.size, 0, none⟩) 1 1) (hown : Hid (OwnB e base w u ls)) (hl : ls.length ≤ 1000000) (hb : base ≤ w.heap.size)
    (h : ∀ A c w', Hid (OwnB e base w' (.slice A (ls.length + 1) c) (ls ++ [x])) → Hid (Below base w w') → wpList Try.prog ops Q rest (a.put o.dst (.slice A (ls.length + 1) c)) w') :
    wpList Try.prog ops Q (o :: rest) a (w.alloc (.cells #[.bool x] e)) := by
  refine wpList_plain hgd fun K hK => ?_
  obtain ⟨A, c, w', hr, h1, h2⟩ := run_appB hT o.type base w u ls x hown.out hl hb
  unfold Oper.wp execOp
  simp only [ho, resolve, invoke, builtin, Sem.run_bind, Sem.run_pure, Result.andThen_ok, List.map_toArray, List.map_cons, List.map_nil, hv, hx, hr]
  exact hK _ _ (h _ _ _ h1 h2)
end
section
variable {ops : Array Oper} {o : Oper} {a : Act} {K : Act → World → Prop} {Q : Exit → Act → World → Prop} {E : Prop}
theorem step_app_int (s x : Operand) (hgd : o.guard = none) (ho : o.op = .call { callee := .builtin .append, args := #[s, x], argTypes := #[42, 42] }) (base : Nat) (w : World) (u : Value) (xs : List Int) (y : Int)
    (hv : a.eval s = u) (hx : a.eval x = .slice (some ⟨w.heap.size, 0, none⟩) 1 1) (hown : Hid (OwnI base w u xs)) (hl : xs.length ≤ 1000000) (hb : base ≤ w.heap.size)
    (hK : ∀ A c w', Hid (OwnI base w' (.slice A (xs.length + 1) c) (xs ++ [y])) → Hid (Below base w w') → K (a.put o.dst (.slice A (xs.length + 1) c)) w') :
    if Region.wanted o (yielded ops a.tmps) = true then Oper.wp Try.prog o a (w.alloc (.cells #[.int .i64 y] 3)) K Q else E := by
  rw [if_pos (by simp [Region.wanted, hgd])]
  obtain ⟨i0, hi, hz0, hz1, hz2⟩ := info_parts infoInt
  have hO : w.ownsRow base 3 1 u xs.length (xs.map (Value.int .i64)) := hown.out
  obtain ⟨u', w', hr, h1, h2, h3⟩ := run_append_src (P := Try.prog) (w := w.alloc (.cells #[.int .i64 y] 3)) base 42 o.type 3 i0 _ 1 8 Try.underlying42 hi hz0 hz1 hz2 rfl (by decide) u xs.length (xs.map (Value.int .i64)) (hO.alloc _) (some ⟨w.heap.size, 0, none⟩) 1 1 [.int .i64 y] (src_int w y) (one_ints [y]) (by unfold maxLen; omega) (by omega) (by simp; omega)
  obtain ⟨A, c, rfl⟩ := ownsRow_form h1
  unfold Oper.wp execOp
  simp only [ho, resolve, invoke, builtin, Sem.run_bind, Sem.run_pure, Result.andThen_ok, List.map_toArray, List.map_cons, List.map_nil, hv, hx, hr]
  refine hK A c w' ?_ (own_below hO hb h2)
  show OwnI _ _ _ _
  unfold OwnI
  simpa using h1
end
end

section
open Go.RowKit
attribute [local go_sem] Oper.semAt_some
theorem in_e {n lo hi : Int} {b : Bool} {w : World} (h : inB n lo hi = b) : Calls Try.prog 52 #[.int .i64 n, .int .i64 lo, .int .i64 hi] w (Same w (.bool b)) := by
  rw [← h]
  exact in_c n lo hi w
theorem T_skip {P : Program} {ops : Array Oper} {Q : Exit → Act → World → Prop} {md : Region.Mode} {S : World → Prop} {m i : Nat} {oi : Oper} {fuel : Nat} {listed : Array Bool} {a : Act} {w : World} (hi : ops[i]? = some oi)
    (hs : Region.noSelect ops = true) (hf : Region.free md ops listed i = true) (hr : (Region.ready md ops listed).contains i = true) (hwt : tailWaits md ops m i = true)
    (hQ : ∀ c a w, Q (.panic c) (a.put oi.dst undef) w → Q (.panic c) a w) (hw : Region.wanted oi (yielded ops a.tmps) = false) (hS : S w)
    (h : wpAnyT P md ops Q S m fuel (listed.setIfInBounds i true) (a.put oi.dst undef) w) : wpAnyT P md ops Q S m (fuel + 1) listed a w :=
  wpAnyT_first hi (Region.noSelect_spec hs) hQ hwt fuel listed a w (Region.free_spec hi hf) (by simpa using hr) (.inr ⟨hw, rfl⟩) hS h
set_option maxHeartbeats 400000 in
theorem pins40_c (rows mid gap reach : Int) (A : Option Addr) (n c : Nat) (w : World) (h1 : 1 ≤ rows) (h4 : rows ≤ 4) :
    Calls Try.prog 53 #[.agg #[.int .i64 rows, .int .i64 mid, .int .i64 gap, .int .i64 reach, .slice A n c]] w (Ans w (.int .i64 (pn rows : Int))) := by
  have hb0 : Below w.heap.size w (w.alloc (.cells #[.int .i64 rows, .int .i64 mid, .int .i64 gap, .int .i64 reach, .slice A n c] 58)) := (Below.refl _ _).alloc (Nat.le_refl _) _
  have HB := Lib.hid hb0
  clear hb0
  rcases rows4 h1 h4 with rfl | rfl | rfl | rfl
  all_goals
    go_enter Try.func53, Try.ntmps53
    go_wp2
    go_ret
    exact ⟨rfl, HB.out⟩
end

end Go.Proofs.Ytenpiinkbfancaa.Rk
