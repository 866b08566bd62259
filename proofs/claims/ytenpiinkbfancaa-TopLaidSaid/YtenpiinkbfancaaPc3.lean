/-
  path: a ball: the levels of all boards.
-/
import Derived.Test.YtenpiinkbfancaaPc2
import Derived.Test.YtenpiinkbfancaaPb5
namespace Go.Proofs.Ytenpiinkbfancaa.Pa
open Go.RowKit
set_option linter.unusedSimpArgs false
set_option linter.unusedVariables false

attribute [local go_sem] Oper.semAt_some
/-- The table of the levels: m rows of 41. -/
def TabG (W : World) (g m : Nat) (T : Nat → Nat → Int) : Prop :=
  ∃ arr : Array Value, W.heap[g]? = some (.cells arr 260) ∧ arr.size = m * 41 ∧ ∀ r b, r < m → b < 41 → arr[r * 41 + b]? = some (.int .i64 (T r b))
theorem tab_ne {r b r' b' : Nat} (h : b < 41) (h' : b' < 41) (e : r * 41 + b = r' * 41 + b') : r = r' ∧ b = b' := by omega
section
variable {W W' : World} {g m : Nat} {T T' : Nat → Nat → Int}
theorem TabG.lt (h : TabG W g m T) : g < W.heap.size := by
  obtain ⟨arr, h1, _⟩ := h
  exact (Array.getElem?_eq_some_iff.1 h1).1
theorem TabG.cell (h : TabG W g m T) {r b : Nat} (hr : r < m) (hb : b < 41) : W.cell? ⟨g, r * 41 + b, none⟩ = some (.int .i64 (T r b)) := by
  obtain ⟨arr, h1, _, h3⟩ := h
  simp [World.cell?, h1, h3 r b hr hb]
theorem TabG.frozen (h : TabG W g m T) (o : Nat) : W.frozen? ⟨g, o, none⟩ = false := by
  obtain ⟨arr, h1, _⟩ := h
  simp [World.frozen?, h1]
theorem TabG.step (h : TabG W g m T) (hb : Below W.heap.size W W') : TabG W' g m T := by
  have hl := h.lt
  obtain ⟨arr, h1, h2⟩ := h
  exact ⟨arr, (hb.block g hl).trans h1, h2⟩
theorem TabG.far (h : TabG W g m T) {ad : Addr} (hp : g ≠ ad.block) (x : Value) : TabG (W.setCell ad x) g m T := by
  obtain ⟨arr, h1, h2⟩ := h
  exact ⟨arr, (Below.heap_setCell W ad x g hp).trans h1, h2⟩
theorem TabG.congr (h : TabG W g m T) (e : ∀ r b, r < m → b < 41 → T r b = T' r b) : TabG W g m T' := by
  obtain ⟨arr, h1, h2, h3⟩ := h
  exact ⟨arr, h1, h2, fun r b hr hb => by rw [← e r b hr hb]; exact h3 r b hr hb⟩
theorem TabG.set (h : TabG W g m T) {r b : Nat} (hr : r < m) (hb : b < 41) (v : Int) (e : ∀ r' b', r' < m → b' < 41 → T' r' b' = if r' = r ∧ b' = b then v else T r' b') : TabG (W.setCell ⟨g, r * 41 + b, none⟩ (.int .i64 v)) g m T' := by
  obtain ⟨arr, h1, h2, h3⟩ := h
  refine ⟨arr.setIfInBounds (r * 41 + b) (.int .i64 v), ?_, by simpa using h2, fun r' b' hr' hb' => ?_⟩
  · simp [World.setCell, Array.getElem?_modify, h1]
  · rw [e r' b' hr' hb']
    have hlt : r' * 41 + b' < arr.size := by rw [h2]; omega
    rw [Array.getElem?_setIfInBounds]
    by_cases hh : r' = r ∧ b' = b
    · obtain ⟨rfl, rfl⟩ := hh
      simp [hlt]
    · rw [if_neg hh, if_neg (fun e => hh (by have := tab_ne hb hb' e; exact ⟨this.1.symm, this.2.symm⟩))]
      exact h3 r' b' hr' hb'
end
theorem info260 : (Try.prog.info? 260).map (fun i => (i.zero, i.size, i.bytes)) = some (some (.agg (Array.replicate 41 (.int .i64 0))), 41, 328) := by kernel_rfl
theorem made41 (n i : Nat) (h : i < n) : (madeCells (Array.replicate 41 (Value.int .i64 0)) n)[i]? = some (.int .i64 0) := by
  have : i % 41 < 41 := Nat.mod_lt _ (by omega)
  simp [madeCells, h, this]
theorem run_mk (m : Nat) (h : m ≤ 1000) (W : World) : (Instr.makeSlice 187 (.int .i64 (m : Int)) (.int .i64 (m : Int))).run Try.prog W = .ok (.slice (some ⟨W.heap.size, 0, none⟩) m m) (W.alloc (.cells (madeCells (Array.replicate 41 (.int .i64 0)) (m * 41)) 260)) := by
  obtain ⟨i, hi, hz0, hz1, hz2⟩ := info_parts info260
  have := run_make (P := Try.prog) W 187 260 i _ Try.underlying187 hi hz0 .i64 .i64 m m (by omega) (Int.le_refl _) (by rw [hz2]; omega) (by omega)
  rw [this, hz1]
  simp [Value.cells]
theorem tab_new (w : World) (m : Nat) : TabG (w.alloc (.cells (madeCells (Array.replicate 41 (.int .i64 0)) (m * 41)) 260)) w.heap.size m (fun _ _ => 0) :=
  ⟨_, World.alloc_heap_new w _, size_madeCells _ _, fun r b hr hb => made41 _ _ (by omega)⟩
/-- A ball. -/
def BV (l : Ln) (H P : Option Addr) (ch cp g m : Nat) : Value := .agg #[.int .i64 l.nb, .int .i64 l.nr, .slice H l.hk.length ch, .slice P l.pt.length cp, .slice (some ⟨g, 0, none⟩) m m]
/-- What the program gets. -/
def BallP (l : Ln) (H P : Option Addr) (ch cp : Nat) (w : World) (e : Ending) (w' : World) : Prop :=
  ∃ g m : Nat, e = .returned (BV l H P ch cp g m) ∧ (m : Int) = l.nr ∧ TabG w' g m (fun r b => level l r b) ∧ Below w.heap.size w w'
/-- The box of the ball. -/
def BxB (W : World) (q : Nat) (l : Ln) (H P : Option Addr) (ch cp g m : Nat) : Prop := W.heap[q]? = some (.cells #[.int .i64 l.nb, .int .i64 l.nr, .slice H l.hk.length ch, .slice P l.pt.length cp, .slice (some ⟨g, 0, none⟩) m m] 189)
theorem BxB.cells {W : World} {q g m : Nat} {l : Ln} {H P : Option Addr} {ch cp : Nat} (h : BxB W q l H P ch cp g m) : W.cell? ⟨q, 0, none⟩ = some (.int .i64 l.nb) ∧ W.cell? ⟨q, 1, none⟩ = some (.int .i64 l.nr) ∧ W.cell? ⟨q, 2, none⟩ = some (.slice H l.hk.length ch) ∧ W.cell? ⟨q, 3, none⟩ = some (.slice P l.pt.length cp) ∧ W.cell? ⟨q, 4, none⟩ = some (.slice (some ⟨g, 0, none⟩) m m) := by
  unfold BxB at h
  simp [World.cell?, h]
theorem BxB.grown {W W' : World} {q g m : Nat} {l : Ln} {H P : Option Addr} {ch cp : Nat} {row : Option Nat} (h : BxB W q l H P ch cp g m) (hg : W.grownBy W' row) (hne : row ≠ some q) : BxB W' q l H P ch cp g m := (hg.block q (Array.getElem?_eq_some_iff.1 h).1 (fun e => hne e.symm)).trans h
/-- Patch k is being laid: rows under i are done. -/
def lvR (l : Ln) (k i r b : Nat) : Int := if ix (rx l.pt k) 0 ≤ r ∧ r < i ∧ ix (rx l.pt k) 2 ≤ b ∧ (b : Int) ≤ ix (rx l.pt k) 3 then ix (rx l.pt k) 4 else lvl l r b k
/-- .. and of row i the boards under j. -/
def lvB (l : Ln) (k i j r b : Nat) : Int := if r = i ∧ ix (rx l.pt k) 2 ≤ b ∧ b < j then ix (rx l.pt k) 4 else lvR l k i r b
theorem lvR_start (l : Ln) (k i r b : Nat) (h : (i : Int) = ix (rx l.pt k) 0) : lvR l k i r b = lvl l r b k := by
  unfold lvR
  rw [if_neg (by omega)]
theorem lvR_end (l : Ln) (k i r b : Nat) (h : (i : Int) = ix (rx l.pt k) 1 + 1) : lvR l k i r b = lvl l r b (k + 1) := by
  unfold lvR
  simp only [lvl, overB, inB, Bool.and_eq_true, decide_eq_true_eq]
  by_cases h1 : ix (rx l.pt k) 0 ≤ r ∧ r < i ∧ ix (rx l.pt k) 2 ≤ b ∧ (b : Int) ≤ ix (rx l.pt k) 3
  · rw [if_pos h1, if_pos (by omega)]
  · rw [if_neg h1, if_neg (by omega)]
theorem lvB_start (l : Ln) (k i j r b : Nat) (h : (j : Int) = ix (rx l.pt k) 2) : lvB l k i j r b = lvR l k i r b := by
  unfold lvB
  rw [if_neg (by omega)]
theorem lvB_end (l : Ln) (k i j r b : Nat) (h : (j : Int) = ix (rx l.pt k) 3 + 1) (hi : ix (rx l.pt k) 0 ≤ i) : lvB l k i j r b = lvR l k (i + 1) r b := by
  unfold lvB lvR
  by_cases h1 : r = i
  · subst h1
    by_cases h2 : ix (rx l.pt k) 2 ≤ b ∧ b < j
    · rw [if_pos ⟨rfl, h2⟩, if_pos (by omega)]
    · rw [if_neg (by omega), if_neg (by omega), if_neg (by omega)]
  · rw [if_neg (by omega)]
    by_cases h2 : ix (rx l.pt k) 0 ≤ r ∧ r < i ∧ ix (rx l.pt k) 2 ≤ b ∧ (b : Int) ≤ ix (rx l.pt k) 3
    · rw [if_pos h2, if_pos (by omega)]
    · rw [if_neg h2, if_neg (by omega)]
theorem lvB_succ (l : Ln) (k i j r b : Nat) (h : ix (rx l.pt k) 2 ≤ j) : lvB l k i (j + 1) r b = if r = i ∧ b = j then ix (rx l.pt k) 4 else lvB l k i j r b := by
  unfold lvB
  by_cases h1 : r = i ∧ b = j
  · rw [if_pos h1, if_pos (by omega)]
  · rw [if_neg h1]
    by_cases h2 : r = i ∧ ix (rx l.pt k) 2 ≤ b ∧ b < j
    · rw [if_pos h2, if_pos (by omega)]
    · rw [if_neg h2, if_neg (by omega)]
theorem gr_cell {W W' : World} {g : Nat} (h : W.grownBy W' (some g)) {p : Addr} {v : Value} (hc : W.cell? p = some v) (hne : p.block ≠ g) : W'.cell? p = some v := by
  have hl := World.block_lt_of_cell? W p hc
  have e := h.block p.block hl (fun e => hne (by injection e))
  unfold World.cell? at hc ⊢
  rw [e]
  exact hc
theorem gr_drew {w w' : World} {row : Option Nat} (h : w.grownBy w' row) : w.grownBy w'.drew row := ⟨h.os, h.tape, h.output, h.size, h.block⟩
theorem five_set {W : World} {g : Nat} {a b c d e x y z u s : Value} {t : TypeId} (h : W.heap[g]? = some (.cells #[a, b, c, d, e] t)) : (((((W.setCell ⟨g, 0, none⟩ x).setCell ⟨g, 1, none⟩ y).setCell ⟨g, 2, none⟩ z).setCell ⟨g, 3, none⟩ u).setCell ⟨g, 4, none⟩ s).heap[g]? = some (.cells #[x, y, z, u, s] t) := by
  simp [World.setCell, Array.getElem?_modify, h]
set_option maxRecDepth 100000 in
set_option maxHeartbeats 8000000 in
theorem ball127_c (l : Ln) (H P : Option Addr) (ch cp : Nat) (w : World) (hok : Ok l) (hP : Recs 5 w.heap.size w P l.pt) :
    Calls Try.prog 127 #[LV l H P ch cp] w (BallP l H P ch cp w) := by
  unfold LV
  have hb0 : Below w.heap.size w ((w.alloc (.cells #[.int .i64 l.nb, .int .i64 l.nr, .slice H l.hk.length ch, .slice P l.pt.length cp] 103)).alloc (.cells #[.int .i64 0, .int .i64 0, .slice none 0 0, .slice none 0 0, .slice none 0 0] 189)) := below_two2 _ _ _
  have k0 : ((w.alloc (.cells #[.int .i64 l.nb, .int .i64 l.nr, .slice H l.hk.length ch, .slice P l.pt.length cp] 103)).alloc (.cells #[.int .i64 0, .int .i64 0, .slice none 0 0, .slice none 0 0, .slice none 0 0] 189)).cell? ⟨w.heap.size, 0, none⟩ = some (.int .i64 l.nb) := by go_simp
  have k1 : ((w.alloc (.cells #[.int .i64 l.nb, .int .i64 l.nr, .slice H l.hk.length ch, .slice P l.pt.length cp] 103)).alloc (.cells #[.int .i64 0, .int .i64 0, .slice none 0 0, .slice none 0 0, .slice none 0 0] 189)).cell? ⟨w.heap.size, 1, none⟩ = some (.int .i64 l.nr) := by go_simp
  have k2 : ((w.alloc (.cells #[.int .i64 l.nb, .int .i64 l.nr, .slice H l.hk.length ch, .slice P l.pt.length cp] 103)).alloc (.cells #[.int .i64 0, .int .i64 0, .slice none 0 0, .slice none 0 0, .slice none 0 0] 189)).cell? ⟨w.heap.size, 2, none⟩ = some (.slice H l.hk.length ch) := by go_simp
  have k3 : ((w.alloc (.cells #[.int .i64 l.nb, .int .i64 l.nr, .slice H l.hk.length ch, .slice P l.pt.length cp] 103)).alloc (.cells #[.int .i64 0, .int .i64 0, .slice none 0 0, .slice none 0 0, .slice none 0 0] 189)).cell? ⟨w.heap.size, 3, none⟩ = some (.slice P l.pt.length cp) := by go_simp
  have HN : Hid (((w.alloc (.cells #[.int .i64 l.nb, .int .i64 l.nr, .slice H l.hk.length ch, .slice P l.pt.length cp] 103)).alloc (.cells #[.int .i64 0, .int .i64 0, .slice none 0 0, .slice none 0 0, .slice none 0 0] 189)).heap[w.heap.size + 1]? = some (.cells #[.int .i64 0, .int .i64 0, .slice none 0 0, .slice none 0 0, .slice none 0 0] 189)) := by
    have := World.alloc_heap_new (w.alloc (.cells #[.int .i64 l.nb, .int .i64 l.nr, .slice H l.hk.length ch, .slice P l.pt.length cp] 103)) (.cells #[.int .i64 0, .int .i64 0, .slice none 0 0, .slice none 0 0, .slice none 0 0] 189)
    rw [World.size_alloc] at this
    exact this
  have HZ : Hid (((w.alloc (.cells #[.int .i64 l.nb, .int .i64 l.nr, .slice H l.hk.length ch, .slice P l.pt.length cp] 103)).alloc (.cells #[.int .i64 0, .int .i64 0, .slice none 0 0, .slice none 0 0, .slice none 0 0] 189)).heap.size = w.heap.size + 2) := by show _ = _; simp
  have HB := Lib.hid hb0
  have HPt := Lib.hid hP
  have HOK := Lib.hid hok
  have hr0 := hok.r0
  have hr1 := hok.r1
  obtain ⟨m, hm⟩ : ∃ m : Nat, (m : Int) = l.nr := ⟨l.nr.toNat, by omega⟩
  have HM := Lib.hid hm
  have hmk : ∀ W, (Instr.makeSlice 187 (.int .i64 l.nr) (.int .i64 l.nr)).run Try.prog W = .ok (.slice (some ⟨W.heap.size, 0, none⟩) m m) (W.alloc (.cells (madeCells (Array.replicate 41 (.int .i64 0)) (m * 41)) 260)) := fun W => by rw [← hm]; exact run_mk m (by omega) W
  clear hb0 hP hok hm hr0 hr1
  have HKS := Lib.hid (fun W' (h : Below ((w.alloc (.cells #[.int .i64 l.nb, .int .i64 l.nr, .slice H l.hk.length ch, .slice P l.pt.length cp] 103)).alloc (.cells #[.int .i64 0, .int .i64 0, .slice none 0 0, .slice none 0 0, .slice none 0 0] 189)).heap.size ((w.alloc (.cells #[.int .i64 l.nb, .int .i64 l.nr, .slice H l.hk.length ch, .slice P l.pt.length cp] 103)).alloc (.cells #[.int .i64 0, .int .i64 0, .slice none 0 0, .slice none 0 0, .slice none 0 0] 189)) W') => And.intro (cell_of_ans h k0) (And.intro (cell_of_ans h k1) (And.intro (cell_of_ans h k2) (cell_of_ans h k3))))
  go_enter Try.func127, Try.ntmps127
  go_upto_region 1 with fail
  generalize ((w.alloc (.cells #[.int .i64 l.nb, .int .i64 l.nr, .slice H l.hk.length ch, .slice P l.pt.length cp] 103)).alloc (.cells #[.int .i64 0, .int .i64 0, .slice none 0 0, .slice none 0 0, .slice none 0 0] 189)) = W0 at *
  refine wp_region_noPanic ?_
  have hS : (fun W' : World => Below W0.heap.size W0 W') W0.drew := (Below.refl _ _).drew
  refine wp_region_any (by kernel_rfl) (wpAny_of_T (S := fun W' : World => Below W0.heap.size W0 W') (m := 6) _ _ _ _ ?_)
  refine' T_take (i := 0) (v := _) rfl (by kernel_rfl) (by kernel_rfl) (by kernel_rfl) (by kernel_rfl) (fun _ _ _ h => h) (by kernel_rfl) hS ?_ ?_
  rotate_left 1
  · intro Wv hW
    obtain ⟨s0, s1, s2, s3⟩ := HKS.out _ hW
    go_simp
    first | done | with_reducible rfl | omega
  try simp only [Act.put, List.setIfInBounds_toArray, List.set_cons_zero, List.set_cons_succ]
  refine' T_take (i := 1) (v := _) rfl (by kernel_rfl) (by kernel_rfl) (by kernel_rfl) (by kernel_rfl) (fun _ _ _ h => h) (by kernel_rfl) hS ?_ ?_
  rotate_left 1
  · intro Wv hW
    obtain ⟨s0, s1, s2, s3⟩ := HKS.out _ hW
    go_simp
    first | done | with_reducible rfl | omega
  try simp only [Act.put, List.setIfInBounds_toArray, List.set_cons_zero, List.set_cons_succ]
  refine' T_take (i := 2) (v := _) rfl (by kernel_rfl) (by kernel_rfl) (by kernel_rfl) (by kernel_rfl) (fun _ _ _ h => h) (by kernel_rfl) hS ?_ ?_
  rotate_left 1
  · intro Wv hW
    obtain ⟨s0, s1, s2, s3⟩ := HKS.out _ hW
    go_simp
    first | done | with_reducible rfl | omega
  try simp only [Act.put, List.setIfInBounds_toArray, List.set_cons_zero, List.set_cons_succ]
  refine T_ready (rs := [3, 5]) (by kernel_rfl) (by simp) ?_
  refine TReady.cons rfl (fun K hK => ?_) (TReady.cons rfl (fun K hK => ?_) TReady.nil)
  · try go_simp
    refine hK.out _ _ (fun _ => hS.alloc hS.size _) (fun hS2 => ?_)
    replace hS := hS2 (by decide)
    clear hS2 hK K
    try simp only [Act.put, List.setIfInBounds_toArray, List.set_cons_zero, List.set_cons_succ]
    refine' T_take (i := 4) (v := _) rfl (by kernel_rfl) (by kernel_rfl) (by kernel_rfl) (by kernel_rfl) (fun _ _ _ h => h) (by kernel_rfl) hS ?_ ?_
    rotate_left 1
    · intro Wv hW
      obtain ⟨s0, s1, s2, s3⟩ := HKS.out _ hW
      go_simp
      first | done | with_reducible rfl | omega
    try simp only [Act.put, List.setIfInBounds_toArray, List.set_cons_zero, List.set_cons_succ]
    refine T_ready (rs := [5]) (by kernel_rfl) (by simp) ?_
    refine TReady.cons rfl (fun K hK => ?_) TReady.nil
    try go_simp
    refine hK.out _ _ (fun _ => hS.alloc hS.size _) (fun hS2 => ?_)
    replace hS := hS2 (by decide)
    clear hS2 hK K
    try simp only [Act.put, List.setIfInBounds_toArray, List.set_cons_zero, List.set_cons_succ]
    refine T_ready (rs := [6]) (by kernel_rfl) (by simp) ?_
    refine TReady.cons rfl (fun K hK => ?_) TReady.nil
    try go_simp
    refine hK.out _ _ (fun h => absurd h (by decide)) (fun _ => ?_)
    clear hK K hS hmk
    try simp only [Act.put, List.setIfInBounds_toArray, List.set_cons_zero, List.set_cons_succ]
    refine T_done (by kernel_rfl) ?_ _
    refine NoPanic.normal ?_
    try go_simp
    have HT : Hid (TabG ((W0.alloc (.cells (madeCells (Array.replicate 41 (.int .i64 0)) (m * 41)) 260)).alloc (.cells #[.int .i64 l.nb, .int .i64 l.nr, .slice H l.hk.length ch, .slice P l.pt.length cp, .slice (some ⟨W0.heap.size, 0, none⟩) m m] 189)).drew (W0.heap.size) m (fun _ _ => 0)) := (tab_new W0 m).step (((Below.refl _ _).alloc (Nat.le_refl _) _).drew)
    have HX : Hid (BxB ((W0.alloc (.cells (madeCells (Array.replicate 41 (.int .i64 0)) (m * 41)) 260)).alloc (.cells #[.int .i64 l.nb, .int .i64 l.nr, .slice H l.hk.length ch, .slice P l.pt.length cp, .slice (some ⟨W0.heap.size, 0, none⟩) m m] 189)).drew (W0.heap.size + 1) l H P ch cp (W0.heap.size) m) := by
      have := World.alloc_heap_new (W0.alloc (.cells (madeCells (Array.replicate 41 (.int .i64 0)) (m * 41)) 260)) (.cells #[.int .i64 l.nb, .int .i64 l.nr, .slice H l.hk.length ch, .slice P l.pt.length cp, .slice (some ⟨W0.heap.size, 0, none⟩) m m] 189)
      rw [World.size_alloc] at this
      exact this
    have HBW : Hid (Below (w.heap.size + 2) W0 ((W0.alloc (.cells (madeCells (Array.replicate 41 (.int .i64 0)) (m * 41)) 260)).alloc (.cells #[.int .i64 l.nb, .int .i64 l.nr, .slice H l.hk.length ch, .slice P l.pt.length cp, .slice (some ⟨W0.heap.size, 0, none⟩) m m] 189)).drew) := by
      rw [← HZ.out]
      exact (((Below.refl _ _).alloc (Nat.le_refl _) _).alloc (by simp) _).drew
    obtain ⟨g, hg⟩ : ∃ g, g = W0.heap.size := ⟨_, rfl⟩
    obtain ⟨q, hq⟩ : ∃ q, q = W0.heap.size + 1 := ⟨_, rfl⟩
    have HGQ : Hid (w.heap.size + 2 ≤ g ∧ w.heap.size + 2 ≤ q ∧ g ≠ q) := by have := HZ.out; show _ ∧ _; omega
    generalize ((W0.alloc (.cells (madeCells (Array.replicate 41 (.int .i64 0)) (m * 41)) 260)).alloc (.cells #[.int .i64 l.nb, .int .i64 l.nr, .slice H l.hk.length ch, .slice P l.pt.length cp, .slice (some ⟨W0.heap.size, 0, none⟩) m m] 189)).drew = W1 at HT HX HBW ⊢
    simp only [← hq] at HT HX ⊢
    simp only [← hg] at HT HX ⊢
    clear hg hq
    have HW2 : Hid (∀ W, W1.grownBy W (some g) → Below (w.heap.size + 2) W0 W) := fun W hW => HBW.out.trans (below_gr hW (by have := HBW.out.size; have := HZ.out; omega) (fun k e => by have := HGQ.out; injection e; omega))
    have s3 := (HKS.out W1 (by rw [HZ.out]; exact HBW.out)).2.2.2
    go_wp2_with fail
    clear s3
    go_loopw [16] (fun iv wx => ∃ k : Nat, k ≤ l.pt.length ∧ iv = .int .i64 (k : Int) ∧ TabG wx g m (fun r b => lvl l r b k) ∧ W1.grownBy wx (some g)) (fun iv _ => l.pt.length - (intOf iv).toNat)
    case atStart => exact ⟨0, by omega, rfl, HT.out, World.grownBy.refl _ _⟩
    case round =>
      obtain ⟨k, hk, rfl, htab, hgr⟩ := hrel
      have HTB := Lib.hid htab
      have HGR := Lib.hid hgr
      clear htab
      by_cases h1 : k < l.pt.length
      · obtain ⟨b1, o1, hA1, hb1, c0, c1, c2, c3, c4⟩ := HPt.out.at5 h1
        have hWw : Below w.heap.size w wr := HB.out.trans ((HW2.out wr hgr).mono (by omega))
        subst hA1
        replace c0 := (hWw.cell (p := ⟨b1, o1 + k * 5, none⟩) hb1).trans c0
        replace c1 := (hWw.cell (p := ⟨b1, o1 + k * 5 + 1, none⟩) hb1).trans c1
        replace c2 := (hWw.cell (p := ⟨b1, o1 + k * 5 + 2, none⟩) hb1).trans c2
        replace c3 := (hWw.cell (p := ⟨b1, o1 + k * 5 + 3, none⟩) hb1).trans c3
        replace c4 := (hWw.cell (p := ⟨b1, o1 + k * 5 + 4, none⟩) hb1).trans c4
        obtain ⟨⟨p0, p1, p2⟩, ⟨p3, p4, p5⟩, p6, p7⟩ := patch_bd HOK.out h1
        have hm := HM.out
        have hnb := HOK.out.b1
        have hnr := HOK.out.r1
        obtain ⟨y0, hy0⟩ : ∃ y : Nat, (y : Int) = ix (rx l.pt k) 0 := ⟨(ix (rx l.pt k) 0).toNat, by omega⟩
        obtain ⟨y1, hy1⟩ : ∃ y : Nat, (y : Int) = ix (rx l.pt k) 1 := ⟨(ix (rx l.pt k) 1).toNat, by omega⟩
        obtain ⟨y2, hy2⟩ : ∃ y : Nat, (y : Int) = ix (rx l.pt k) 2 := ⟨(ix (rx l.pt k) 2).toNat, by omega⟩
        obtain ⟨y3, hy3⟩ : ∃ y : Nat, (y : Int) = ix (rx l.pt k) 3 := ⟨(ix (rx l.pt k) 3).toNat, by omega⟩
        obtain ⟨v4, hv4⟩ : ∃ y : Int, y = ix (rx l.pt k) 4 := ⟨_, rfl⟩
        rw [← hy0] at c0 p0 p1
        rw [← hy1] at c1 p1 p2
        rw [← hy2] at c2 p3 p4
        rw [← hy3] at c3 p4 p5
        rw [← hv4] at c4
        have HY0 := Lib.hid hy0
        have HY1 := Lib.hid hy1
        have HY2 := Lib.hid hy2
        have HY3 := Lib.hid hy3
        have HV4 := Lib.hid hv4
        have hym : y1 < m := by omega
        have hm12 : m ≤ 12 := by omega
        have hyn : y3 < 41 := by omega
        have h01 : y0 ≤ y1 := by omega
        have h23 : y2 ≤ y3 := by omega
        clear p0 p1 p2 p3 p4 p5 p6 p7 hy0 hy1 hy2 hy3 hv4 hm hnb hnr hWw hgr
        go_wp2_with fail
        clear c0 c1 c2 c3 c4 hb1
        have HGL : Hid (wr.heap.size ≠ g) := by have := HTB.out.lt; show _ ≠ _; omega
        have e0 : (wr.alloc (.cells #[.int .i64 (y0 : Int), .int .i64 (y1 : Int), .int .i64 (y2 : Int), .int .i64 (y3 : Int), .int .i64 v4] 198)).cell? ⟨wr.heap.size, 0, none⟩ = some (.int .i64 (y0 : Int)) := by simp
        have e1 : (wr.alloc (.cells #[.int .i64 (y0 : Int), .int .i64 (y1 : Int), .int .i64 (y2 : Int), .int .i64 (y3 : Int), .int .i64 v4] 198)).cell? ⟨wr.heap.size, 1, none⟩ = some (.int .i64 (y1 : Int)) := by simp
        have e2 : (wr.alloc (.cells #[.int .i64 (y0 : Int), .int .i64 (y1 : Int), .int .i64 (y2 : Int), .int .i64 (y3 : Int), .int .i64 v4] 198)).cell? ⟨wr.heap.size, 2, none⟩ = some (.int .i64 (y2 : Int)) := by simp
        have e3 : (wr.alloc (.cells #[.int .i64 (y0 : Int), .int .i64 (y1 : Int), .int .i64 (y2 : Int), .int .i64 (y3 : Int), .int .i64 v4] 198)).cell? ⟨wr.heap.size, 3, none⟩ = some (.int .i64 (y3 : Int)) := by simp
        have e4 : (wr.alloc (.cells #[.int .i64 (y0 : Int), .int .i64 (y1 : Int), .int .i64 (y2 : Int), .int .i64 (y3 : Int), .int .i64 v4] 198)).cell? ⟨wr.heap.size, 4, none⟩ = some (.int .i64 v4) := by simp
        have HT2 : Hid (TabG (wr.alloc (.cells #[.int .i64 (y0 : Int), .int .i64 (y1 : Int), .int .i64 (y2 : Int), .int .i64 (y3 : Int), .int .i64 v4] 198)) g m (fun r b => lvR l k y0 r b)) := (HTB.out.step ((Below.refl _ _).alloc (Nat.le_refl _) _)).congr (fun r b _ _ => (lvR_start l k y0 r b HY0.out).symm)
        have HG2 : Hid (W1.grownBy (wr.alloc (.cells #[.int .i64 (y0 : Int), .int .i64 (y1 : Int), .int .i64 (y2 : Int), .int .i64 (y3 : Int), .int .i64 v4] 198)) (some g)) := only_alloc HGR.out _
        generalize (wr.alloc (.cells #[.int .i64 (y0 : Int), .int .i64 (y1 : Int), .int .i64 (y2 : Int), .int .i64 (y3 : Int), .int .i64 v4] 198)) = wz at *
        generalize wr.heap.size = g5 at *
        have HE := Lib.hid (And.intro e0 (And.intro e1 (And.intro e2 (And.intro e3 e4))))
        clear e0 e1 e2 e3 e4
        go_loopw [6] (fun iv wx => ∃ i : Nat, y0 ≤ i ∧ i ≤ y1 + 1 ∧ iv = .int .i64 (i : Int) ∧ TabG wx g m (fun r b => lvR l k i r b) ∧ wz.grownBy wx (some g)) (fun iv _ => y1 + 1 - (intOf iv).toNat)
        case atStart => exact ⟨y0, Nat.le_refl _, by omega, rfl, HT2.out, World.grownBy.refl _ _⟩
        case round =>
          obtain ⟨i, hi0, hi1, rfl, htab, hgr⟩ := hrel
          have HTI := Lib.hid htab
          have HGI := Lib.hid hgr
          clear htab
          have hz := HGI.out.size
          by_cases h2 : i ≤ y1
          · have h2i : (i : Int) ≤ (y1 : Int) := by omega
            have hw1 : IntKind.i64.wrap ((i : Int) + 1) = (i : Int) + 1 := IntWalk.i64_in _ (by omega)
            have e1 := gr_cell hgr HE.out.2.1 (by dsimp only; exact HGL.out)
            have e2 := gr_cell hgr HE.out.2.2.1 (by dsimp only; exact HGL.out)
            clear hgr
            go_wp2_with fail
            clear e1 e2
            go_loopw [7] (fun iv wx => ∃ j : Nat, y2 ≤ j ∧ j ≤ y3 + 1 ∧ iv = .int .i64 (j : Int) ∧ TabG wx g m (fun r b => lvB l k i j r b) ∧ wz.grownBy wx (some g)) (fun iv _ => y3 + 1 - (intOf iv).toNat)
            case atStart => exact ⟨y2, Nat.le_refl _, by omega, rfl, HTI.out.congr (fun r b _ _ => (lvB_start l k i y2 r b HY2.out).symm), HGI.out⟩
            case round =>
              clear hz
              obtain ⟨j, hj0, hj1, rfl, htab, hgr⟩ := hrel
              have HTJ := Lib.hid htab
              have HGJ := Lib.hid hgr
              clear htab
              by_cases h3 : j ≤ y3
              · have h3i : (j : Int) ≤ (y3 : Int) := by omega
                have hw2 : IntKind.i64.wrap ((j : Int) + 1) = (j : Int) + 1 := IntWalk.i64_in _ (by omega)
                have e3 := gr_cell hgr HE.out.2.2.2.1 (by dsimp only; exact HGL.out)
                have e4 := gr_cell hgr HE.out.2.2.2.2 (by dsimp only; exact HGL.out)
                have b4 := gr_cell (HG2.out.trans hgr) HX.out.cells.2.2.2.2 (by dsimp only; exact HGQ.out.2.2.symm)
                have him : (i : Int) < (m : Int) := by omega
                have hj41 : (j : Int) < 41 := by omega
                clear hgr
                have HTD := Lib.hid (HTJ.out.step (Below.refl wr.heap.size wr).drew)
                have tc := HTD.out.cell (r := i) (b := j) (by omega) (by omega)
                have tf := HTD.out.frozen (i * 41 + j)
                have ne1 : g ≠ q := HGQ.out.2.2
                have ne2 : g ≠ g5 := HGL.out.symm
                have ne3 : q ≠ g := ne1.symm
                have ne4 : g5 ≠ g := ne2.symm
                have x1 := cell_set_keep (u := .int .i64 v4) (p := ⟨g, i * 41 + j, none⟩) b4 (by dsimp only; exact ne1)
                have x2 := cell_set_keep (u := .int .i64 v4) (p := ⟨g, i * 41 + j, none⟩) e4 (by dsimp only; exact ne2)
                go_wp2_with fail
                go_region_held3 (fun w' => w'.cell? ⟨q, 4, none⟩ = some (.slice (some ⟨g, 0, none⟩) m m) ∧ w'.cell? ⟨g5, 4, none⟩ = some (.int .i64 v4)) (go_keep) (first | fail)
                have HTN : Hid (TabG (wr.setCell ⟨g, i * 41 + j, none⟩ (.int .i64 v4)).drew g m (fun r b => lvB l k i (j + 1) r b)) := (HTJ.out.set (r := i) (b := j) (by omega) (by omega) v4 (fun r' b' _ _ => by rw [HV4.out]; exact lvB_succ l k i j r' b' (by have := HY2.out; omega))).step (Below.refl _ _).drew
                have HGN : Hid (wz.grownBy (wr.setCell ⟨g, i * 41 + j, none⟩ (.int .i64 v4)).drew (some g)) := gr_drew (only_setCell HGJ.out (p := ⟨g, i * 41 + j, none⟩) (.inl rfl) (.int .i64 v4))
                clear tc tf x1 x2
                go_wp2_with fail
                go_roundw
                case rel => exact ⟨j + 1, by omega, by omega, by go_num, HTN.out, HGN.out⟩
                case measure => simp [intOf]; omega
              · obtain rfl : j = y3 + 1 := by omega
                have h3i : ¬ (((y3 + 1 : Nat) : Int) ≤ (y3 : Int)) := by omega
                have e3 := gr_cell hgr HE.out.2.2.2.1 (by dsimp only; exact HGL.out)
                clear hgr
                have HTN : Hid (TabG wr g m (fun r b => lvR l k (i + 1) r b)) := HTJ.out.congr (fun r b _ _ => lvB_end l k i (y3 + 1) r b (by have := HY3.out; omega) (by have := HY0.out; omega))
                go_wp2_with fail
                go_roundw
                case rel => exact ⟨i + 1, by omega, by omega, by go_num, HTN.out, HGJ.out⟩
                case measure => simp [intOf]; omega
          · obtain rfl : i = y1 + 1 := by omega
            have h2i : ¬ (((y1 + 1 : Nat) : Int) ≤ (y1 : Int)) := by omega
            have e1 := gr_cell hgr HE.out.2.1 (by dsimp only; exact HGL.out)
            have hw3 : IntKind.i64.wrap ((k : Int) + 1) = (k : Int) + 1 := IntWalk.i64_in _ (by have := HOK.out.p8; omega)
            clear hgr
            have HTN : Hid (TabG wr g m (fun r b => lvl l r b (k + 1))) := HTI.out.congr (fun r b _ _ => lvR_end l k (y1 + 1) r b (by have := HY1.out; omega))
            go_wp2_with fail
            go_roundw
            case rel => exact ⟨k + 1, by omega, by go_num, HTN.out, HG2.out.trans HGI.out⟩
            case measure => simp [intOf]; omega
      · obtain rfl : k = l.pt.length := by omega
        have hxx := HX.out.grown hgr (fun e => HGQ.out.2.2 (by injection e))
        obtain ⟨b0, b1, b2, b3, b4⟩ := hxx.cells
        have hb2 := HW2.out wr hgr
        have hG : wr.heap[w.heap.size + 1]? = some (.cells #[.int .i64 0, .int .i64 0, .slice none 0 0, .slice none 0 0, .slice none 0 0] 189) := (hb2.block _ (by omega)).trans HN.out
        have g0 : wr.cell? ⟨w.heap.size + 1, 0, none⟩ = some (.int .i64 0) := by simp [World.cell?, hG]
        have g1 : wr.cell? ⟨w.heap.size + 1, 1, none⟩ = some (.int .i64 0) := by simp [World.cell?, hG]
        have g2 : wr.cell? ⟨w.heap.size + 1, 2, none⟩ = some (.slice none 0 0) := by simp [World.cell?, hG]
        have g3 : wr.cell? ⟨w.heap.size + 1, 3, none⟩ = some (.slice none 0 0) := by simp [World.cell?, hG]
        have g4 : wr.cell? ⟨w.heap.size + 1, 4, none⟩ = some (.slice none 0 0) := by simp [World.cell?, hG]
        have gf : ∀ o, wr.frozen? ⟨w.heap.size + 1, o, none⟩ = false := by simp [World.frozen?, hG]
        have hF := five_set (x := .int .i64 l.nb) (y := .int .i64 l.nr) (z := .slice H l.hk.length ch) (u := .slice P l.pt.length cp) (s := .slice (some ⟨g, 0, none⟩) m m) hG
        have HF := Lib.hid hF
        have hgne : g ≠ w.heap.size + 1 := by have := HGQ.out.1; omega
        have HBE : Hid (Below w.heap.size w (((((wr.setCell ⟨w.heap.size + 1, 0, none⟩ (.int .i64 l.nb)).setCell ⟨w.heap.size + 1, 1, none⟩ (.int .i64 l.nr)).setCell ⟨w.heap.size + 1, 2, none⟩ (.slice H l.hk.length ch)).setCell ⟨w.heap.size + 1, 3, none⟩ (.slice P l.pt.length cp)).setCell ⟨w.heap.size + 1, 4, none⟩ (.slice (some ⟨g, 0, none⟩) m m))) := (((((HB.out.trans (hb2.mono (by omega))).setCell (by dsimp only; omega) _).setCell (by dsimp only; omega) _).setCell (by dsimp only; omega) _).setCell (by dsimp only; omega) _).setCell (by dsimp only; omega) _
        have HTE : Hid (TabG (((((wr.setCell ⟨w.heap.size + 1, 0, none⟩ (.int .i64 l.nb)).setCell ⟨w.heap.size + 1, 1, none⟩ (.int .i64 l.nr)).setCell ⟨w.heap.size + 1, 2, none⟩ (.slice H l.hk.length ch)).setCell ⟨w.heap.size + 1, 3, none⟩ (.slice P l.pt.length cp)).setCell ⟨w.heap.size + 1, 4, none⟩ (.slice (some ⟨g, 0, none⟩) m m)) g m (fun r b => level l r b)) := ((((HTB.out.far (ad := ⟨w.heap.size + 1, 0, none⟩) hgne _).far (ad := ⟨w.heap.size + 1, 1, none⟩) hgne _).far (ad := ⟨w.heap.size + 1, 2, none⟩) hgne _).far (ad := ⟨w.heap.size + 1, 3, none⟩) hgne _).far (ad := ⟨w.heap.size + 1, 4, none⟩) hgne _
        clear hG hF hxx hb2 hgr
        go_wp2_with fail
        have hF := HF.out
        refine bodyPost_ret (v := BV l H P ch cp g m) (by simp [BV, results, Try.results127, go_sem, World.cell?, hF]) rfl ?_
        exact ⟨g, m, rfl, HM.out, HTE.out, HBE.out⟩
  · try go_simp
    refine hK.out _ _ (fun _ => hS.alloc hS.size _) (fun hS2 => ?_)
    replace hS := hS2 (by decide)
    clear hS2 hK K
    try simp only [Act.put, List.setIfInBounds_toArray, List.set_cons_zero, List.set_cons_succ]
    refine T_ready (rs := [3]) (by kernel_rfl) (by simp) ?_
    refine TReady.cons rfl (fun K hK => ?_) TReady.nil
    try go_simp
    refine hK.out _ _ (fun _ => hS.alloc hS.size _) (fun hS2 => ?_)
    replace hS := hS2 (by decide)
    clear hS2 hK K
    try simp only [Act.put, List.setIfInBounds_toArray, List.set_cons_zero, List.set_cons_succ]
    refine' T_take (i := 4) (v := _) rfl (by kernel_rfl) (by kernel_rfl) (by kernel_rfl) (by kernel_rfl) (fun _ _ _ h => h) (by kernel_rfl) hS ?_ ?_
    rotate_left 1
    · intro Wv hW
      obtain ⟨s0, s1, s2, s3⟩ := HKS.out _ hW
      go_simp
      first | done | with_reducible rfl | omega
    try simp only [Act.put, List.setIfInBounds_toArray, List.set_cons_zero, List.set_cons_succ]
    refine T_ready (rs := [6]) (by kernel_rfl) (by simp) ?_
    refine TReady.cons rfl (fun K hK => ?_) TReady.nil
    try go_simp
    refine hK.out _ _ (fun h => absurd h (by decide)) (fun _ => ?_)
    clear hK K hS hmk
    try simp only [Act.put, List.setIfInBounds_toArray, List.set_cons_zero, List.set_cons_succ]
    refine T_done (by kernel_rfl) ?_ _
    refine NoPanic.normal ?_
    try go_simp
    have HT : Hid (TabG ((W0.alloc (.cells #[.int .i64 l.nb, .int .i64 l.nr, .slice H l.hk.length ch, .slice P l.pt.length cp, .slice (some ⟨W0.heap.size + 1, 0, none⟩) m m] 189)).alloc (.cells (madeCells (Array.replicate 41 (.int .i64 0)) (m * 41)) 260)).drew (W0.heap.size + 1) m (fun _ _ => 0)) := by
      have := tab_new (W0.alloc (.cells #[.int .i64 l.nb, .int .i64 l.nr, .slice H l.hk.length ch, .slice P l.pt.length cp, .slice (some ⟨W0.heap.size + 1, 0, none⟩) m m] 189)) m
      rw [World.size_alloc] at this
      exact this.step (Below.refl _ _).drew
    have HX : Hid (BxB ((W0.alloc (.cells #[.int .i64 l.nb, .int .i64 l.nr, .slice H l.hk.length ch, .slice P l.pt.length cp, .slice (some ⟨W0.heap.size + 1, 0, none⟩) m m] 189)).alloc (.cells (madeCells (Array.replicate 41 (.int .i64 0)) (m * 41)) 260)).drew (W0.heap.size) l H P ch cp (W0.heap.size + 1) m) := ((((Below.refl (W0.alloc (.cells #[.int .i64 l.nb, .int .i64 l.nr, .slice H l.hk.length ch, .slice P l.pt.length cp, .slice (some ⟨W0.heap.size + 1, 0, none⟩) m m] 189)).heap.size (W0.alloc (.cells #[.int .i64 l.nb, .int .i64 l.nr, .slice H l.hk.length ch, .slice P l.pt.length cp, .slice (some ⟨W0.heap.size + 1, 0, none⟩) m m] 189))).alloc (Nat.le_refl _) (.cells (madeCells (Array.replicate 41 (.int .i64 0)) (m * 41)) 260)).drew).block _ (by simp)).trans (World.alloc_heap_new W0 (.cells #[.int .i64 l.nb, .int .i64 l.nr, .slice H l.hk.length ch, .slice P l.pt.length cp, .slice (some ⟨W0.heap.size + 1, 0, none⟩) m m] 189))
    have HBW : Hid (Below (w.heap.size + 2) W0 ((W0.alloc (.cells #[.int .i64 l.nb, .int .i64 l.nr, .slice H l.hk.length ch, .slice P l.pt.length cp, .slice (some ⟨W0.heap.size + 1, 0, none⟩) m m] 189)).alloc (.cells (madeCells (Array.replicate 41 (.int .i64 0)) (m * 41)) 260)).drew) := by
      rw [← HZ.out]
      exact (((Below.refl _ _).alloc (Nat.le_refl _) _).alloc (by simp) _).drew
    obtain ⟨g, hg⟩ : ∃ g, g = W0.heap.size + 1 := ⟨_, rfl⟩
    obtain ⟨q, hq⟩ : ∃ q, q = W0.heap.size := ⟨_, rfl⟩
    have HGQ : Hid (w.heap.size + 2 ≤ g ∧ w.heap.size + 2 ≤ q ∧ g ≠ q) := by have := HZ.out; show _ ∧ _; omega
    generalize ((W0.alloc (.cells #[.int .i64 l.nb, .int .i64 l.nr, .slice H l.hk.length ch, .slice P l.pt.length cp, .slice (some ⟨W0.heap.size + 1, 0, none⟩) m m] 189)).alloc (.cells (madeCells (Array.replicate 41 (.int .i64 0)) (m * 41)) 260)).drew = W1 at HT HX HBW ⊢
    simp only [← hg] at HT HX ⊢
    simp only [← hq] at HT HX ⊢
    clear hg hq
    have HW2 : Hid (∀ W, W1.grownBy W (some g) → Below (w.heap.size + 2) W0 W) := fun W hW => HBW.out.trans (below_gr hW (by have := HBW.out.size; have := HZ.out; omega) (fun k e => by have := HGQ.out; injection e; omega))
    have s3 := (HKS.out W1 (by rw [HZ.out]; exact HBW.out)).2.2.2
    go_wp2_with fail
    clear s3
    go_loopw [16] (fun iv wx => ∃ k : Nat, k ≤ l.pt.length ∧ iv = .int .i64 (k : Int) ∧ TabG wx g m (fun r b => lvl l r b k) ∧ W1.grownBy wx (some g)) (fun iv _ => l.pt.length - (intOf iv).toNat)
    case atStart => exact ⟨0, by omega, rfl, HT.out, World.grownBy.refl _ _⟩
    case round =>
      obtain ⟨k, hk, rfl, htab, hgr⟩ := hrel
      have HTB := Lib.hid htab
      have HGR := Lib.hid hgr
      clear htab
      by_cases h1 : k < l.pt.length
      · obtain ⟨b1, o1, hA1, hb1, c0, c1, c2, c3, c4⟩ := HPt.out.at5 h1
        have hWw : Below w.heap.size w wr := HB.out.trans ((HW2.out wr hgr).mono (by omega))
        subst hA1
        replace c0 := (hWw.cell (p := ⟨b1, o1 + k * 5, none⟩) hb1).trans c0
        replace c1 := (hWw.cell (p := ⟨b1, o1 + k * 5 + 1, none⟩) hb1).trans c1
        replace c2 := (hWw.cell (p := ⟨b1, o1 + k * 5 + 2, none⟩) hb1).trans c2
        replace c3 := (hWw.cell (p := ⟨b1, o1 + k * 5 + 3, none⟩) hb1).trans c3
        replace c4 := (hWw.cell (p := ⟨b1, o1 + k * 5 + 4, none⟩) hb1).trans c4
        obtain ⟨⟨p0, p1, p2⟩, ⟨p3, p4, p5⟩, p6, p7⟩ := patch_bd HOK.out h1
        have hm := HM.out
        have hnb := HOK.out.b1
        have hnr := HOK.out.r1
        obtain ⟨y0, hy0⟩ : ∃ y : Nat, (y : Int) = ix (rx l.pt k) 0 := ⟨(ix (rx l.pt k) 0).toNat, by omega⟩
        obtain ⟨y1, hy1⟩ : ∃ y : Nat, (y : Int) = ix (rx l.pt k) 1 := ⟨(ix (rx l.pt k) 1).toNat, by omega⟩
        obtain ⟨y2, hy2⟩ : ∃ y : Nat, (y : Int) = ix (rx l.pt k) 2 := ⟨(ix (rx l.pt k) 2).toNat, by omega⟩
        obtain ⟨y3, hy3⟩ : ∃ y : Nat, (y : Int) = ix (rx l.pt k) 3 := ⟨(ix (rx l.pt k) 3).toNat, by omega⟩
        obtain ⟨v4, hv4⟩ : ∃ y : Int, y = ix (rx l.pt k) 4 := ⟨_, rfl⟩
        rw [← hy0] at c0 p0 p1
        rw [← hy1] at c1 p1 p2
        rw [← hy2] at c2 p3 p4
        rw [← hy3] at c3 p4 p5
        rw [← hv4] at c4
        have HY0 := Lib.hid hy0
        have HY1 := Lib.hid hy1
        have HY2 := Lib.hid hy2
        have HY3 := Lib.hid hy3
        have HV4 := Lib.hid hv4
        have hym : y1 < m := by omega
        have hm12 : m ≤ 12 := by omega
        have hyn : y3 < 41 := by omega
        have h01 : y0 ≤ y1 := by omega
        have h23 : y2 ≤ y3 := by omega
        clear p0 p1 p2 p3 p4 p5 p6 p7 hy0 hy1 hy2 hy3 hv4 hm hnb hnr hWw hgr
        go_wp2_with fail
        clear c0 c1 c2 c3 c4 hb1
        have HGL : Hid (wr.heap.size ≠ g) := by have := HTB.out.lt; show _ ≠ _; omega
        have e0 : (wr.alloc (.cells #[.int .i64 (y0 : Int), .int .i64 (y1 : Int), .int .i64 (y2 : Int), .int .i64 (y3 : Int), .int .i64 v4] 198)).cell? ⟨wr.heap.size, 0, none⟩ = some (.int .i64 (y0 : Int)) := by simp
        have e1 : (wr.alloc (.cells #[.int .i64 (y0 : Int), .int .i64 (y1 : Int), .int .i64 (y2 : Int), .int .i64 (y3 : Int), .int .i64 v4] 198)).cell? ⟨wr.heap.size, 1, none⟩ = some (.int .i64 (y1 : Int)) := by simp
        have e2 : (wr.alloc (.cells #[.int .i64 (y0 : Int), .int .i64 (y1 : Int), .int .i64 (y2 : Int), .int .i64 (y3 : Int), .int .i64 v4] 198)).cell? ⟨wr.heap.size, 2, none⟩ = some (.int .i64 (y2 : Int)) := by simp
        have e3 : (wr.alloc (.cells #[.int .i64 (y0 : Int), .int .i64 (y1 : Int), .int .i64 (y2 : Int), .int .i64 (y3 : Int), .int .i64 v4] 198)).cell? ⟨wr.heap.size, 3, none⟩ = some (.int .i64 (y3 : Int)) := by simp
        have e4 : (wr.alloc (.cells #[.int .i64 (y0 : Int), .int .i64 (y1 : Int), .int .i64 (y2 : Int), .int .i64 (y3 : Int), .int .i64 v4] 198)).cell? ⟨wr.heap.size, 4, none⟩ = some (.int .i64 v4) := by simp
        have HT2 : Hid (TabG (wr.alloc (.cells #[.int .i64 (y0 : Int), .int .i64 (y1 : Int), .int .i64 (y2 : Int), .int .i64 (y3 : Int), .int .i64 v4] 198)) g m (fun r b => lvR l k y0 r b)) := (HTB.out.step ((Below.refl _ _).alloc (Nat.le_refl _) _)).congr (fun r b _ _ => (lvR_start l k y0 r b HY0.out).symm)
        have HG2 : Hid (W1.grownBy (wr.alloc (.cells #[.int .i64 (y0 : Int), .int .i64 (y1 : Int), .int .i64 (y2 : Int), .int .i64 (y3 : Int), .int .i64 v4] 198)) (some g)) := only_alloc HGR.out _
        generalize (wr.alloc (.cells #[.int .i64 (y0 : Int), .int .i64 (y1 : Int), .int .i64 (y2 : Int), .int .i64 (y3 : Int), .int .i64 v4] 198)) = wz at *
        generalize wr.heap.size = g5 at *
        have HE := Lib.hid (And.intro e0 (And.intro e1 (And.intro e2 (And.intro e3 e4))))
        clear e0 e1 e2 e3 e4
        go_loopw [6] (fun iv wx => ∃ i : Nat, y0 ≤ i ∧ i ≤ y1 + 1 ∧ iv = .int .i64 (i : Int) ∧ TabG wx g m (fun r b => lvR l k i r b) ∧ wz.grownBy wx (some g)) (fun iv _ => y1 + 1 - (intOf iv).toNat)
        case atStart => exact ⟨y0, Nat.le_refl _, by omega, rfl, HT2.out, World.grownBy.refl _ _⟩
        case round =>
          obtain ⟨i, hi0, hi1, rfl, htab, hgr⟩ := hrel
          have HTI := Lib.hid htab
          have HGI := Lib.hid hgr
          clear htab
          have hz := HGI.out.size
          by_cases h2 : i ≤ y1
          · have h2i : (i : Int) ≤ (y1 : Int) := by omega
            have hw1 : IntKind.i64.wrap ((i : Int) + 1) = (i : Int) + 1 := IntWalk.i64_in _ (by omega)
            have e1 := gr_cell hgr HE.out.2.1 (by dsimp only; exact HGL.out)
            have e2 := gr_cell hgr HE.out.2.2.1 (by dsimp only; exact HGL.out)
            clear hgr
            go_wp2_with fail
            clear e1 e2
            go_loopw [7] (fun iv wx => ∃ j : Nat, y2 ≤ j ∧ j ≤ y3 + 1 ∧ iv = .int .i64 (j : Int) ∧ TabG wx g m (fun r b => lvB l k i j r b) ∧ wz.grownBy wx (some g)) (fun iv _ => y3 + 1 - (intOf iv).toNat)
            case atStart => exact ⟨y2, Nat.le_refl _, by omega, rfl, HTI.out.congr (fun r b _ _ => (lvB_start l k i y2 r b HY2.out).symm), HGI.out⟩
            case round =>
              clear hz
              obtain ⟨j, hj0, hj1, rfl, htab, hgr⟩ := hrel
              have HTJ := Lib.hid htab
              have HGJ := Lib.hid hgr
              clear htab
              by_cases h3 : j ≤ y3
              · have h3i : (j : Int) ≤ (y3 : Int) := by omega
                have hw2 : IntKind.i64.wrap ((j : Int) + 1) = (j : Int) + 1 := IntWalk.i64_in _ (by omega)
                have e3 := gr_cell hgr HE.out.2.2.2.1 (by dsimp only; exact HGL.out)
                have e4 := gr_cell hgr HE.out.2.2.2.2 (by dsimp only; exact HGL.out)
                have b4 := gr_cell (HG2.out.trans hgr) HX.out.cells.2.2.2.2 (by dsimp only; exact HGQ.out.2.2.symm)
                have him : (i : Int) < (m : Int) := by omega
                have hj41 : (j : Int) < 41 := by omega
                clear hgr
                have HTD := Lib.hid (HTJ.out.step (Below.refl wr.heap.size wr).drew)
                have tc := HTD.out.cell (r := i) (b := j) (by omega) (by omega)
                have tf := HTD.out.frozen (i * 41 + j)
                have ne1 : g ≠ q := HGQ.out.2.2
                have ne2 : g ≠ g5 := HGL.out.symm
                have ne3 : q ≠ g := ne1.symm
                have ne4 : g5 ≠ g := ne2.symm
                have x1 := cell_set_keep (u := .int .i64 v4) (p := ⟨g, i * 41 + j, none⟩) b4 (by dsimp only; exact ne1)
                have x2 := cell_set_keep (u := .int .i64 v4) (p := ⟨g, i * 41 + j, none⟩) e4 (by dsimp only; exact ne2)
                go_wp2_with fail
                go_region_held3 (fun w' => w'.cell? ⟨q, 4, none⟩ = some (.slice (some ⟨g, 0, none⟩) m m) ∧ w'.cell? ⟨g5, 4, none⟩ = some (.int .i64 v4)) (go_keep) (first | fail)
                have HTN : Hid (TabG (wr.setCell ⟨g, i * 41 + j, none⟩ (.int .i64 v4)).drew g m (fun r b => lvB l k i (j + 1) r b)) := (HTJ.out.set (r := i) (b := j) (by omega) (by omega) v4 (fun r' b' _ _ => by rw [HV4.out]; exact lvB_succ l k i j r' b' (by have := HY2.out; omega))).step (Below.refl _ _).drew
                have HGN : Hid (wz.grownBy (wr.setCell ⟨g, i * 41 + j, none⟩ (.int .i64 v4)).drew (some g)) := gr_drew (only_setCell HGJ.out (p := ⟨g, i * 41 + j, none⟩) (.inl rfl) (.int .i64 v4))
                clear tc tf x1 x2
                go_wp2_with fail
                go_roundw
                case rel => exact ⟨j + 1, by omega, by omega, by go_num, HTN.out, HGN.out⟩
                case measure => simp [intOf]; omega
              · obtain rfl : j = y3 + 1 := by omega
                have h3i : ¬ (((y3 + 1 : Nat) : Int) ≤ (y3 : Int)) := by omega
                have e3 := gr_cell hgr HE.out.2.2.2.1 (by dsimp only; exact HGL.out)
                clear hgr
                have HTN : Hid (TabG wr g m (fun r b => lvR l k (i + 1) r b)) := HTJ.out.congr (fun r b _ _ => lvB_end l k i (y3 + 1) r b (by have := HY3.out; omega) (by have := HY0.out; omega))
                go_wp2_with fail
                go_roundw
                case rel => exact ⟨i + 1, by omega, by omega, by go_num, HTN.out, HGJ.out⟩
                case measure => simp [intOf]; omega
          · obtain rfl : i = y1 + 1 := by omega
            have h2i : ¬ (((y1 + 1 : Nat) : Int) ≤ (y1 : Int)) := by omega
            have e1 := gr_cell hgr HE.out.2.1 (by dsimp only; exact HGL.out)
            have hw3 : IntKind.i64.wrap ((k : Int) + 1) = (k : Int) + 1 := IntWalk.i64_in _ (by have := HOK.out.p8; omega)
            clear hgr
            have HTN : Hid (TabG wr g m (fun r b => lvl l r b (k + 1))) := HTI.out.congr (fun r b _ _ => lvR_end l k (y1 + 1) r b (by have := HY1.out; omega))
            go_wp2_with fail
            go_roundw
            case rel => exact ⟨k + 1, by omega, by go_num, HTN.out, HG2.out.trans HGI.out⟩
            case measure => simp [intOf]; omega
      · obtain rfl : k = l.pt.length := by omega
        have hxx := HX.out.grown hgr (fun e => HGQ.out.2.2 (by injection e))
        obtain ⟨b0, b1, b2, b3, b4⟩ := hxx.cells
        have hb2 := HW2.out wr hgr
        have hG : wr.heap[w.heap.size + 1]? = some (.cells #[.int .i64 0, .int .i64 0, .slice none 0 0, .slice none 0 0, .slice none 0 0] 189) := (hb2.block _ (by omega)).trans HN.out
        have g0 : wr.cell? ⟨w.heap.size + 1, 0, none⟩ = some (.int .i64 0) := by simp [World.cell?, hG]
        have g1 : wr.cell? ⟨w.heap.size + 1, 1, none⟩ = some (.int .i64 0) := by simp [World.cell?, hG]
        have g2 : wr.cell? ⟨w.heap.size + 1, 2, none⟩ = some (.slice none 0 0) := by simp [World.cell?, hG]
        have g3 : wr.cell? ⟨w.heap.size + 1, 3, none⟩ = some (.slice none 0 0) := by simp [World.cell?, hG]
        have g4 : wr.cell? ⟨w.heap.size + 1, 4, none⟩ = some (.slice none 0 0) := by simp [World.cell?, hG]
        have gf : ∀ o, wr.frozen? ⟨w.heap.size + 1, o, none⟩ = false := by simp [World.frozen?, hG]
        have hF := five_set (x := .int .i64 l.nb) (y := .int .i64 l.nr) (z := .slice H l.hk.length ch) (u := .slice P l.pt.length cp) (s := .slice (some ⟨g, 0, none⟩) m m) hG
        have HF := Lib.hid hF
        have hgne : g ≠ w.heap.size + 1 := by have := HGQ.out.1; omega
        have HBE : Hid (Below w.heap.size w (((((wr.setCell ⟨w.heap.size + 1, 0, none⟩ (.int .i64 l.nb)).setCell ⟨w.heap.size + 1, 1, none⟩ (.int .i64 l.nr)).setCell ⟨w.heap.size + 1, 2, none⟩ (.slice H l.hk.length ch)).setCell ⟨w.heap.size + 1, 3, none⟩ (.slice P l.pt.length cp)).setCell ⟨w.heap.size + 1, 4, none⟩ (.slice (some ⟨g, 0, none⟩) m m))) := (((((HB.out.trans (hb2.mono (by omega))).setCell (by dsimp only; omega) _).setCell (by dsimp only; omega) _).setCell (by dsimp only; omega) _).setCell (by dsimp only; omega) _).setCell (by dsimp only; omega) _
        have HTE : Hid (TabG (((((wr.setCell ⟨w.heap.size + 1, 0, none⟩ (.int .i64 l.nb)).setCell ⟨w.heap.size + 1, 1, none⟩ (.int .i64 l.nr)).setCell ⟨w.heap.size + 1, 2, none⟩ (.slice H l.hk.length ch)).setCell ⟨w.heap.size + 1, 3, none⟩ (.slice P l.pt.length cp)).setCell ⟨w.heap.size + 1, 4, none⟩ (.slice (some ⟨g, 0, none⟩) m m)) g m (fun r b => level l r b)) := ((((HTB.out.far (ad := ⟨w.heap.size + 1, 0, none⟩) hgne _).far (ad := ⟨w.heap.size + 1, 1, none⟩) hgne _).far (ad := ⟨w.heap.size + 1, 2, none⟩) hgne _).far (ad := ⟨w.heap.size + 1, 3, none⟩) hgne _).far (ad := ⟨w.heap.size + 1, 4, none⟩) hgne _
        clear hG hF hxx hb2 hgr
        go_wp2_with fail
        have hF := HF.out
        refine bodyPost_ret (v := BV l H P ch cp g m) (by simp [BV, results, Try.results127, go_sem, World.cell?, hF]) rfl ?_
        exact ⟨g, m, rfl, HM.out, HTE.out, HBE.out⟩
end Go.Proofs.Ytenpiinkbfancaa.Pa
