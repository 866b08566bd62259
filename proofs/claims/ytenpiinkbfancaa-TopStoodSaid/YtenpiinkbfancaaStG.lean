/-
  What the rounds of TopStood keep: an own list of words, an own list of own rows, the words that turn.
-/
import Derived.Test.YtenpiinkbfancaaFl
import Derived.Test.YtenpiinkbfancaaSnE
import Derived.Test.YtenpiinkbfancaaStoodR
import Derived.ArgAppend
namespace Go.Proofs.Ytenpiinkbfancaa
open Go.RowKit
set_option linter.unusedSimpArgs false
set_option linter.unusedVariables false

theorem RowsN.grown {base : Nat} {w w' : World} {u : Value} {vs : List Value} {R : List (List Int)} {row : Option Nat} (h : RowsN base w u vs R) (hg : w.grownBy w' row) (h0 : u.ownBlock = none ∨ u.ownBlock ≠ row) (hr : ∀ k, k < R.length → (vx vs k).ownBlock = none ∨ (vx vs k).ownBlock ≠ row) : RowsN base w' u vs R :=
  ⟨World.ownsRow.kept h.own hg h0, h.len, fun k hk => (h.rows k hk).grown hg (hr k hk), h.out, h.two⟩
/-- A row has come. -/
theorem RowsN.push2 {base : Nat} {w w' : World} {u u' y : Value} {ys : List Int} {vs : List Value} {R : List (List Int)} (h : RowsN base w u vs R) (hy : OwnN base w y ys) (hyu : Dis y u) (hyr : ∀ k, k < R.length → Dis y (vx vs k))
    (ho : w'.ownsRow base 42 1 u' (vs.length + 1) (vs ++ [y])) (hg : w.grownBy w' u.ownBlock) (hd : u'.ownBlock = u.ownBlock ∨ ∃ k, u'.ownBlock = some k ∧ w.heap.size ≤ k) : RowsN base w' u' (vs ++ [y]) (R ++ [ys]) := by
  have hl := h.len
  have key : ∀ k, k < (R ++ [ys]).length → k < R.length ∨ k = R.length := fun k hk => by simp at hk; omega
  have hlast : vx (vs ++ [y]) R.length = y := by rw [← hl]; exact vx_last
  refine ⟨by simpa using ho, by simp [hl], fun k hk => ?_, fun k hk => ?_, fun i j hi hj hij => ?_⟩
  · rcases key k hk with c | rfl
    · rw [vx_snoc (by omega), rx_snoc' c]
      exact (h.rows k c).grown hg (dis_row (h.out k c).symm)
    · rw [hlast, rx_last']
      exact hy.grown hg hyu
  · rcases key k hk with c | rfl
    · rw [vx_snoc (by omega)]
      exact ((h.out k c).symm.app (h.rows k c) (Nat.le_refl _) hd).symm
    · rw [hlast]
      exact (hyu.symm.app hy (Nat.le_refl _) hd).symm
  · rcases key i hi with c | rfl <;> rcases key j hj with d | rfl
    · rw [vx_snoc (by omega), vx_snoc (by omega)]
      exact h.two i j c d hij
    · rw [hlast, vx_snoc (by omega)]
      exact (hyr i c).symm
    · rw [hlast, vx_snoc (by omega)]
      exact hyr j d
    · exact absurd rfl hij
/-- The words uw, the game ug (rows vs), the words that turn (A, ts). -/
structure StG (z : Nat) (W : World) (uw : Value) (ws : List Sn.Wd) (ug : Value) (vs : List Value) (R : List (List Int)) (A : Option Addr) (ts : List Int) : Prop where
  ow : Sn.OwnW 82 z W uw ws
  og : RowsN z W ug vs R
  dg : Dis uw ug
  dr : ∀ k, k < R.length → Dis uw (vx vs k)
  wd : Rk.Wds W.heap.size W A ts
  dw : 0 < ts.length → ∀ b o, A = some ⟨b, o, none⟩ → uw.ownBlock ≠ some b ∧ ug.ownBlock ≠ some b
section
variable {z : Nat} {W W' : World} {uw uw' ug ug' : Value} {ws ws' : List Sn.Wd} {vs : List Value} {R : List (List Int)} {A : Option Addr} {ts : List Int}
theorem ownW_lt (h : Sn.OwnW 82 z W uw ws) : ∀ k, uw.ownBlock = some k → z ≤ k ∧ k < W.heap.size := World.ownsRow.lt h
theorem StG.kept (h : StG z W uw ws ug vs R A ts) (hb : Below W.heap.size W W') : StG z W' uw ws ug vs R A ts :=
  ⟨World.ownsRow.kept h.ow (only_below hb none) (by cases uw.ownBlock <;> simp), h.og.kept hb, h.dg, h.dr, h.wd.step hb, h.dw⟩
theorem wds_grown {row : Option Nat} (h : Rk.Wds W.heap.size W A ts) (hg : W.grownBy W' row) (hd : 0 < ts.length → ∀ b o, A = some ⟨b, o, none⟩ → row ≠ some b) : Rk.Wds W'.heap.size W' A ts := fun hp => by
  obtain ⟨b, o, hA, hb, hc⟩ := h hp
  refine ⟨b, o, hA, Nat.lt_of_lt_of_le hb hg.size, fun k hk => ⟨?_, (hc k hk).2⟩⟩
  have hne := hd hp b o hA
  have := (hc k hk).1
  unfold World.cell? at this ⊢
  rw [hg.block b hb (fun e => hne e.symm)]
  exact this
theorem StG.word (h : StG z W uw ws ug vs R A ts) (hA : Sn.AppW 82 z W uw ws ws' W' uw') : StG z W' uw' (ws ++ ws') ug vs R A ts := by
  have hlt := h.og.lt
  have hd : ∀ v : Value, Dis uw v → (∀ k, v.ownBlock = some k → k < W.heap.size) → Dis uw' v := fun v hv hl => by
    rcases hA.alt with e | e
    · unfold Dis at *
      rw [e]
      exact hv
    · refine .inr ?_
      rw [e]
      intro e2
      have := hl _ e2.symm
      omega
  refine ⟨hA.own, h.og.grown hA.grw (dis_row h.dg) (fun k hk => dis_row (h.dr k hk)), hd _ h.dg (fun k e => (hlt k e).2), fun k hk => hd _ (h.dr k hk) (fun j e => ((h.og.rows k hk).lt j e).2), wds_grown h.wd hA.grw (fun hp b o e => (h.dw hp b o e).1), fun hp b o e => ⟨?_, (h.dw hp b o e).2⟩⟩
  rcases hA.alt with e2 | e2
  · rw [e2]; exact (h.dw hp b o e).1
  · rw [e2]
    intro e3
    obtain ⟨b', o', hA', hb', -⟩ := h.wd hp
    rw [e] at hA'
    injection hA' with hA'
    injection hA' with hA'
    injection e3 with e3
    omega
theorem StG.set (h : StG z W uw ws ug vs R A ts) {ad : Addr} (ha : ad.block < z) (hw : 0 < ts.length → ∀ b o, A = some ⟨b, o, none⟩ → b ≠ ad.block) (x : Value) : StG z (W.setCell ad x) uw ws ug vs R A ts := by
  have hS : W.grownBy (W.setCell ad x) (some ad.block) := only_setCell (World.grownBy.refl W (some ad.block)) (.inl rfl) x
  exact ⟨World.ownsRow.kept h.ow hS (.inr fun e => by have := (ownW_lt h.ow _ e).1; omega), h.og.far ha x, h.dg, h.dr, wds_grown h.wd hS (fun hp b o e e2 => by injection e2 with e2; exact hw hp b o e e2.symm), h.dw⟩
/-- Other words that turn, in a new block. -/
theorem StG.turn (h : StG z W uw ws ug vs R A ts) {B : Option Addr} {us : List Int} (hu : Rk.Wds W.heap.size W B us) (hd : 0 < us.length → ∀ b o, B = some ⟨b, o, none⟩ → uw.ownBlock ≠ some b ∧ ug.ownBlock ≠ some b) : StG z W uw ws ug vs R B us :=
  ⟨h.ow, h.og, h.dg, h.dr, hu, hd⟩
/-- A row is appended: it lies in block W.heap.size, behind it the list of it alone. -/
theorem StG.row {ys : List Int} {m : Nat} (h : StG z W uw ws ug vs R A ts) (hz : z ≤ W.heap.size) (hm : ys.length = m) (hm2 : m ≤ 1000) (ho : W'.ownsRow z 42 1 ug' (vs.length + 1) (vs ++ [.slice (some ⟨W.heap.size, 0, none⟩) m m]))
    (hg : ((W.alloc (.cells (ys.map (Value.int .i64)).toArray 3)).alloc (.cells #[.slice (some ⟨W.heap.size, 0, none⟩) m m] 42)).grownBy W' ug.ownBlock) (hd : ug'.ownBlock = ug.ownBlock ∨ ∃ k, ug'.ownBlock = some k ∧ W.heap.size + 2 ≤ k) :
    StG z W' uw ws ug' (vs ++ [.slice (some ⟨W.heap.size, 0, none⟩) m m]) (R ++ [ys]) A ts := by
  subst hm
  have hb1 : Below W.heap.size W ((W.alloc (.cells (ys.map (Value.int .i64)).toArray 3)).alloc (.cells #[.slice (some ⟨W.heap.size, 0, none⟩) ys.length ys.length] 42)) := below_two _ _
  have h1 := h.kept hb1
  have hz1 : ((W.alloc (.cells (ys.map (Value.int .i64)).toArray 3)).alloc (.cells #[.slice (some ⟨W.heap.size, 0, none⟩) ys.length ys.length] 42)).heap.size = W.heap.size + 2 := by simp
  have hy : OwnN z ((W.alloc (.cells (ys.map (Value.int .i64)).toArray 3)).alloc (.cells #[.slice (some ⟨W.heap.size, 0, none⟩) ys.length ys.length] 42)) (.slice (some ⟨W.heap.size, 0, none⟩) ys.length ys.length) ys := by
    have := World.ownsRow_lit (base := z) (e := 3) (size := 1) W (ys.map (Value.int .i64)).toArray ys.length hz (by unfold maxLen; omega) (by simp)
    exact OwnN.kept (w := W.alloc (.cells (ys.map (Value.int .i64)).toArray 3)) this ((Below.refl _ _).alloc (Nat.le_refl _) _)
  have hyb : (Value.slice (some ⟨W.heap.size, 0, none⟩) ys.length ys.length).ownBlock = some W.heap.size := rfl
  have hne : ∀ v : Value, (∀ k, v.ownBlock = some k → k < W.heap.size) → Dis (.slice (some ⟨W.heap.size, 0, none⟩) ys.length ys.length) v := fun v hv => .inr (by
    rw [hyb]
    intro e
    have := hv _ e.symm
    omega)
  have hgl : ∀ k, ug.ownBlock = some k → k < W.heap.size := fun k e => (h.og.lt k e).2
  have hd1 : ug'.ownBlock = ug.ownBlock ∨ ∃ k, ug'.ownBlock = some k ∧ ((W.alloc (.cells (ys.map (Value.int .i64)).toArray 3)).alloc (.cells #[.slice (some ⟨W.heap.size, 0, none⟩) ys.length ys.length] 42)).heap.size ≤ k := by rw [hz1]; exact hd
  have hrl : ∀ k, k < R.length → ∀ j, (vx vs k).ownBlock = some j → j < W.heap.size := fun k hk j e => ((h.og.rows k hk).lt j e).2
  have hl := h.og.len
  have hdu : Dis uw ug' := by
    rcases hd with e | ⟨k, e, hk⟩
    · have := h.dg
      unfold Dis at *
      rw [e]
      exact this
    · refine .inr ?_
      rw [e]
      intro e2
      have := (ownW_lt h.ow _ e2).2
      omega
  refine ⟨World.ownsRow.kept h1.ow hg (h.dg), h1.og.push2 hy (hne _ hgl) (fun k hk => hne _ (hrl k hk)) ho hg hd1, hdu, fun k hk => ?_, wds_grown h1.wd hg (fun hp b o e => (h.dw hp b o e).2), fun hp b o e => ⟨(h.dw hp b o e).1, ?_⟩⟩
  · by_cases c : k < R.length
    · rw [vx_snoc (by omega)]
      exact h.dr k c
    · have : k = vs.length := by simp at hk; omega
      rw [this, vx_last]
      exact (hne _ (fun j e => (ownW_lt h.ow j e).2)).symm
  · rcases hd with e2 | ⟨k, e2, hk⟩
    · rw [e2]; exact (h.dw hp b o e).2
    · rw [e2]
      intro e3
      obtain ⟨b', o', hA', hb', -⟩ := h.wd hp
      rw [e] at hA'
      injection hA' with hA'
      injection hA' with hA'
      injection e3 with e3
      omega
end
theorem srcL (w : World) (v : Value) : Src (w.alloc (.cells #[v] 42)) 1 (some ⟨w.heap.size, 0, none⟩) 1 [v] := by
  refine ⟨rfl, (fun h => by cases h), fun ad hA j x hx => ?_⟩
  injection hA with hA
  subst hA
  cases j with
  | zero =>
    simp at hx
    subst hx
    rw [add_eq]
    simp
  | succ j => simp at hx
/-- An append of a row to the game. -/
theorem wpList_appG {ops : Array Oper} {rest : List Oper} {o : Oper} {a : Act} {Q : Exit → Act → World → Prop} (s x : Operand) (hgd : o.guard = none) (ho : o.op = .call { callee := .builtin .append, args := #[s, x], argTypes := #[29, 29] })
    {z : Nat} {W : World} {uw ug : Value} {ws : List Sn.Wd} {vs : List Value} {R : List (List Int)} {A : Option Addr} {ts ys : List Int} {m n q0 q1 : Nat} {cs : Array Value} (hcs : cs = (ys.map (Value.int .i64)).toArray)
    (hv : a.eval s = ug) (hx : a.eval x = .slice (some ⟨q1, 0, none⟩) 1 1) (hq0 : q0 = W.heap.size) (hq1 : q1 = W.heap.size + 1) (h : Hid (StG z W uw ws ug vs R A ts)) (hn : Hid (R.length = n)) (hl : n ≤ 1000) (hz : z ≤ W.heap.size) (hm : Hid (ys.length = m)) (hm2 : m ≤ 1000)
    (hK : ∀ B c W', Hid (StG z W' uw ws (.slice B (n + 1) c) (vs ++ [.slice (some ⟨W.heap.size, 0, none⟩) m m]) (R ++ [ys]) A ts) → Hid (W.grownBy W' ug.ownBlock) → wpList Try.prog ops Q rest (a.put o.dst (.slice B (n + 1) c)) W') :
    wpList Try.prog ops Q (o :: rest) a ((W.alloc (.cells cs 3)).alloc (.cells #[.slice (some ⟨q0, 0, none⟩) m m] 42)) := by
  subst hcs hq0 hq1
  obtain ⟨i0, hi, hz0, hz1, hz2⟩ := info_parts3 infoR
  have hL := h.out.og.len
  have hR := hn.out
  have hb1 : Below W.heap.size W ((W.alloc (.cells (ys.map (Value.int .i64)).toArray 3)).alloc (.cells #[.slice (some ⟨W.heap.size, 0, none⟩) m m] 42)) := below_two _ _
  have h1 := (h.out.og.kept hb1).own
  have hs := srcL (W.alloc (.cells (ys.map (Value.int .i64)).toArray 3)) (.slice (some ⟨W.heap.size, 0, none⟩) m m)
  rw [World.size_alloc] at hs
  refine wpList_append_src hgd s x 29 ho z 42 i0 _ 1 24 Try.underlying29 hi hz0 hz1 hz2 rfl (by decide) ug vs.length vs hv h1 (some ⟨W.heap.size + 1, 0, none⟩) 1 1 [.slice (some ⟨W.heap.size, 0, none⟩) m m] hx hs (fun v hv => by simp at hv; subst hv; rfl) (by unfold maxLen; omega) (by omega) (by simp; omega) ?_
  intro v' w' g1 g2 g3
  obtain ⟨B, c, rfl⟩ := ownsRow_form g1
  rw [hL, hR] at g1 g3 ⊢
  have hd : (Value.slice B (n + 1) c).ownBlock = ug.ownBlock ∨ ∃ k, (Value.slice B (n + 1) c).ownBlock = some k ∧ W.heap.size + 2 ≤ k := by
    rcases g3 with e | e
    · exact .inl e
    · exact .inr ⟨_, e, by simp⟩
  refine hK B c w' (h.out.row hz hm.out hm2 (by rw [hL, hR]; exact g1) g2 hd) ?_
  exact ((World.grownBy_alloc W _ _).trans (World.grownBy_alloc _ _ _)).trans g2
theorem below_grown {B : Nat} {w w' : World} {row : Option Nat} (hg : w.grownBy w' row) (hb : B ≤ w.heap.size) (hr : ∀ k, row = some k → B ≤ k) : Below B w w' :=
  ⟨hg.os, hg.tape, hg.output, hg.size, fun k hk => hg.block k (by omega) (fun e => by have := hr k e.symm; omega)⟩
theorem LB_grown {w w' : World} {g : Nat} {fr : Int} {u : Value} {ty : TypeId} {row : Option Nat} (h : Sn.LB w g fr u ty) (hg : w.grownBy w' row) (hne : row ≠ some g) : Sn.LB w' g fr u ty := (hg.block g h.lt (fun e => hne e.symm)).trans h
theorem infoU : (Try.prog.info? 73).map (fun i => (i.zero, i.size, i.bytes)) = some (some (.int .u16 0), 1, 2) := by kernel_rfl
/-- The words turned: the rest of them with the first one behind, in a new block. -/
theorem run_rot {w : World} {b o n : Nat} {B0 : Addr} {ts : List Int} (ty : TypeId) (hB0 : n ≠ 0 → B0 = ⟨b, o + 1, none⟩) (hn : ts.length = n + 1) (hw : Rk.Wds w.heap.size w (some ⟨b, o, none⟩) ts) (hl : n ≤ 70368744177000) :
    ∃ g c w', (Builtin.append_ #[25, 25] ty #[.slice (some B0) n n, .slice (some ⟨w.heap.size, 0, none⟩) 1 1]).run Try.prog (w.alloc (.cells #[.int .u16 (ix ts 0)] 73)) = .ok (.slice (some ⟨g, 0, none⟩) (n + 1) c) w' ∧ (n + 1 ≤ c ∧ c ≤ 9223372036854775807) ∧ w.heap.size < g ∧
      Rk.Wds w'.heap.size w' (some ⟨g, 0, none⟩) (Rk.rot ts) ∧ Below w.heap.size w w' := by
  obtain ⟨i0, hi, hz0, hz1, hz2⟩ := info_parts3 infoU
  obtain ⟨x, l, rfl⟩ : ∃ x l, ts = x :: l := by cases ts with | nil => simp at hn | cons x l => exact ⟨x, l, rfl⟩
  have hll : l.length = n := by simpa using hn
  obtain ⟨b', o', hA, hb, hc⟩ := hw (by simp)
  injection hA with hA
  injection hA with h1 h2
  subst h1 h2
  have hbl : Below w.heap.size w (w.alloc (.cells #[.int .u16 (ix (x :: l) 0)] 73)) := (Below.refl _ _).alloc (Nat.le_refl _) _
  have hix : ∀ j, j < l.length → ix (x :: l) (j + 1) = ix l j := fun j hj => by simp [ix]
  obtain ⟨v', w', hr, ho, hg⟩ := run_append_arg_grows (P := Try.prog) (w := w.alloc (.cells #[.int .u16 (ix (x :: l) 0)] 73)) 25 ty 73 i0 (.int .u16 0) 1 2 Try.underlying25 hi hz0 hz1 hz2 rfl (by decide) B0 n n (l.map (Value.int .u16)) (by simp [hll]) (fun j u hu => by
      have hj : j < l.length := by
        rw [List.getElem?_map] at hu
        rcases Nat.lt_or_ge j l.length with h | h
        · exact h
        · rw [List.getElem?_eq_none h] at hu; simp at hu
      have := (hc (j + 1) (by simp; omega)).1
      rw [hix j hj] at this
      rw [List.getElem?_map, List.getElem?_eq_getElem hj] at hu
      simp at hu
      subst hu
      rw [hB0 (by omega), add_eq, hbl.cell (by dsimp only; omega)]
      rw [show o + 1 + j = o + (j + 1) by omega, this, ix_lt hj])
    ⟨w.heap.size, 0, none⟩ 1 1 [.int .u16 (ix (x :: l) 0)] (by simp) (fun j u hu => by
      cases j with
      | zero =>
        simp at hu
        subst hu
        rw [add_eq]
        simp
      | succ j => simp at hu) (by omega) (by unfold maxLen; omega) (by omega)
  rcases ho.2 with ⟨-, h0⟩ | ⟨g, cap, cur, e, hgb, hgh, hgn, hgm, hgs, hgt⟩
  · omega
  · subst e
    simp only [World.size_alloc] at hgb
    refine ⟨g, cap, w', hr, ⟨hgn, by unfold maxLen at hgm; omega⟩, by omega, fun hp => ⟨g, 0, rfl, (Array.getElem?_eq_some_iff.1 hgh).1, fun k hk => ?_⟩, hbl.trans ⟨hg.os, hg.tape, hg.output, hg.size, fun k hk => hg.block k (by simp; omega) (by simp)⟩⟩
    have hrl : (Rk.rot (x :: l)).length = n + 1 := by simp [Rk.rot, hll]
    have hkv : (l.map (Value.int .u16) ++ [.int .u16 (ix (x :: l) 0)])[k]? = some (.int .u16 (ix (Rk.rot (x :: l)) k)) := by
      simp only [Rk.rot]
      rcases (by omega : k < l.length ∨ k = l.length) with h | h
      · rw [List.getElem?_append_left (by simpa using h), List.getElem?_map, List.getElem?_eq_getElem h, ix_snoc h, ix_lt h]
        rfl
      · subst h
        rw [List.getElem?_append_right (by simp), ix_last]
        simp [ix]
    have hkb : 0 ≤ ix (Rk.rot (x :: l)) k ∧ ix (Rk.rot (x :: l)) k ≤ 65535 := by
      simp only [Rk.rot]
      rcases (by omega : k < l.length ∨ k = l.length) with h | h
      · rw [ix_snoc h, ← hix k h]
        exact (hc (k + 1) (by simp; omega)).2
      · subst h
        rw [ix_last]
        exact (hc 0 (by simp)).2
    have := ho.cells (g := g) rfl k _ hkv
    rw [add_eq] at this
    exact ⟨this, hkb⟩
section
variable {ops : Array Oper} {o : Oper} {a : Act} {KK : Act → World → Prop} {Q : Exit → Act → World → Prop} {E : Prop}
/-- The words turned, in a region whose order is drawn. -/
theorem step_rot (s x : Operand) (hgd : o.guard = none) (ho : o.op = .call { callee := .builtin .append, args := #[s, x], argTypes := #[25, 25] }) (w : World) (b off n : Nat) (B0 : Addr) (hB0 : n ≠ 0 → B0 = ⟨b, off + 1, none⟩) (ts : List Int) (v : Int)
    {q0 : Nat} (hv : a.eval s = .slice (some B0) n n) (hx : a.eval x = .slice (some ⟨q0, 0, none⟩) 1 1) (hq0 : q0 = w.heap.size) (hv0 : v = ix ts 0) (hn : Hid (ts.length = n + 1)) (hw : Hid (Rk.Wds w.heap.size w (some ⟨b, off, none⟩) ts)) (hl : n ≤ 70368744177000)
    (hK : ∀ g c w', Hid (n + 1 ≤ c ∧ c ≤ 9223372036854775807) → Hid (w.heap.size < g) → Hid (Rk.Wds w'.heap.size w' (some ⟨g, 0, none⟩) (Rk.rot ts)) → Below w.heap.size w w' → KK (a.put o.dst (.slice (some ⟨g, 0, none⟩) (n + 1) c)) w') :
    if Region.wanted o (yielded ops a.tmps) = true then Oper.wp Try.prog o a (w.alloc (.cells #[.int .u16 v] 73)) KK Q else E := by
  rw [if_pos (by simp [Region.wanted, hgd])]
  subst hq0 hv0
  obtain ⟨g, c, w', hr, h1, h2, h3, h4⟩ := run_rot (w := w) o.type hB0 hn.out hw.out hl
  unfold Oper.wp execOp
  simp only [ho, resolve, invoke, builtin, Sem.run_bind, Sem.run_pure, Result.andThen_ok, List.map_toArray, List.map_cons, List.map_nil, hv, hx, hr]
  exact hK g c w' h1 h2 h3 h4
end
end Go.Proofs.Ytenpiinkbfancaa
