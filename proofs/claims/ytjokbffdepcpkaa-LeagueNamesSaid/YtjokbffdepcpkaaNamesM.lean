/-
  The examples of LeagueNames, worked out. Closed facts.
-/
import Derived.Test.YtjokbffdepcpkaaReasonsM
import Derived.Laws.MakeOwn
namespace Go.Proofs.Ytjokbffdepcpkaa
open Go.RowKit
set_option linter.unusedSimpArgs false
set_option linter.unusedVariables false

theorem nm_r1 : rankL playedL [1] = [1, 1, 1, 4] ∧ rankErr playedL [1] = 0 := by decide +kernel
theorem nm_r2 : rankL playedL [1, 3, 3] = [1, 2, 3, 4] ∧ rankErr playedL [1, 3, 3] = 0 := by decide +kernel
theorem nm_r3 : rankL playedL [1, 4] = [3, 1, 2, 4] ∧ rankErr playedL [1, 4] = 0 := by decide +kernel
theorem nm_r4 : rankL playedL [0, 0, 0, 0, 0, 0, 0] = [] ∧ rankErr playedL [0, 0, 0, 0, 0, 0, 0] = 3 := by decide +kernel
theorem nm_r5 : rankL playedL [5] = [] ∧ rankErr playedL [5] = 2 := by decide +kernel
theorem nm_a1 : afL playedL [1] = [] ∧ afErr playedL [1] = 2 := by decide +kernel
theorem nm_a2 : afL playedL [1, 4] = [] ∧ afErr playedL [1, 4] = 2 := by decide +kernel
theorem nm_s1 : reasonL playedL 0 = [] ∧ reasonE playedL 0 = 7 := by decide +kernel
theorem nm_s2 : reasonL playedL 4 = [] ∧ reasonE playedL 4 = 2 := by decide +kernel
theorem nm_o1 : outB playedL 2 [0, 1, 3] = true := by decide +kernel
theorem nm_o2 : outB playedL 2 [0, 3] = false := by decide +kernel
theorem nm_o3 : outB playedL 2 [0, 1, 2, 3] = false := by decide +kernel
theorem nm_v : Valid playedL := valid_iff.1 (by decide +kernel)
theorem nm_c0 : canB playedL 0 = true := (can_reason nm_v (by decide)).2 (by decide +kernel)
theorem nm_c3 : canB playedL 3 = true := (can_reason nm_v (by decide)).2 (by decide +kernel)
theorem nm_c2 : canB playedL 2 = false := by
  cases h : canB playedL 2
  · rfl
  · have := (can_reason nm_v (p := 2) (by decide)).1 h
    have h2 : reasonF playedL ((2 : Nat) : Int) = some [0, 1, 3] := by decide +kernel
    rw [h2] at this
    cases this
theorem nm_ask : askedL playedL 0 = 0 ∧ askedL playedL 2 = 0 ∧ askedL playedL 3 = 0 := by decide +kernel
theorem nm_k0 : canL playedL 0 = true := by
  unfold canL
  rw [decide_eq_true nm_ask.1, Bool.true_and]
  exact nm_c0
theorem nm_k3 : canL playedL 3 = true := by
  unfold canL
  rw [decide_eq_true nm_ask.2.2, Bool.true_and]
  exact nm_c3
theorem nm_k2 : canL playedL 2 = false := by
  unfold canL
  rw [decide_eq_true nm_ask.2.1, Bool.true_and]
  exact nm_c2
theorem nm_u6 : unS 6 (buildS 6) = 1 ∧ unE 6 (buildS 6) = 0 := by decide +kernel
theorem nm_u5 : unE 5 (buildS 6) = 10 := by decide +kernel
theorem nm_b5 : 0 < (buildS 6).length ∧ 0 < (rowx (buildS 6) 0).length ∧ ((5 : Nat) : Int) ≤ (mtx (rowx (buildS 6) 0) 0).b := by decide +kernel
theorem nm_b6 : allF 6 (buildS 6) st0 ≠ none := by decide +kernel
def sameG : List Gm := playedG.set 0 ⟨0, 0, 700, 650, false⟩
def manyG : List Gm := List.replicate 21 ⟨0, 0, 0, 0, false⟩
def wildG : List Gm := playedG.set 3 ⟨0, 3, 1, 0, true⟩
theorem nm_f1 : faultL ⟨4, sameG⟩ = 1 := by decide +kernel
theorem nm_f2 : faultL ⟨4, manyG⟩ = 3 := by decide +kernel
theorem nm_f3 : faultL ⟨4, wildG⟩ = 1 := by decide +kernel
theorem nm_f4 : faultL ⟨1, []⟩ = 1 := by decide +kernel
/-- A block of games. -/
def BlkM (W : World) (q : Nat) (gs : List Gm) : Prop := W.heap[q]? = some (.cells (flatM gs).toArray 85)
theorem BlkM.lt {W : World} {q : Nat} {gs : List Gm} (h : BlkM W q gs) : q < W.heap.size := (Array.getElem?_eq_some_iff.1 h).1
theorem BlkM.step {W W' : World} {q : Nat} {gs : List Gm} (h : BlkM W q gs) (hb : Below W.heap.size W W') : BlkM W' q gs := (hb.block q h.lt).trans h
theorem BlkM.far {W : World} {q : Nat} {gs : List Gm} (h : BlkM W q gs) {p : Addr} (hp : p.block ≠ q) (v : Value) : BlkM (W.setCell p v) q gs := (Below.heap_setCell W p v q (fun e => hp e.symm)).trans h
theorem BlkM.cell {W : World} {q : Nat} {gs : List Gm} (h : BlkM W q gs) {k : Nat} {v : Value} (hv : (flatM gs)[k]? = some v) : W.cell? ⟨q, k, none⟩ = some v ∧ W.frozen? ⟨q, k, none⟩ = false := by
  unfold BlkM at h
  constructor
  · simp [World.cell?, h, hv]
  · simp [World.frozen?, h]
theorem At2.farM {W : World} {q t : Nat} {v0 v1 : Value} (h : At2 W q t v0 v1) {p : Addr} (hp : p.block ≠ q) (v : Value) : At2 (W.setCell p v) q t v0 v1 := (Below.heap_setCell W p v q (fun e => hp e.symm)).trans h
/-- The chapter's league, in a new block. -/
def PlayedX (w : World) (e : Ending) (w' : World) : Prop := ∃ q, e = .returned (.agg #[.int .i64 4, .slice (some ⟨q, 0, none⟩) 5 5]) ∧ BlkM w' q playedG ∧ w.heap.size ≤ q ∧ Below w.heap.size w w'
theorem gms_of {W : World} {q : Nat} {gs : List Gm} {t : TypeId} (h : W.heap[q]? = some (.cells (flatM gs).toArray t)) : Gms W.heap.size W (some ⟨q, 0, none⟩) gs := fun _ => by
  refine ⟨q, 0, rfl, (Array.getElem?_eq_some_iff.1 h).1, fun k hk => ?_⟩
  obtain ⟨a0, a1, a2, a3, a4⟩ := flatM_at gs k hk
  unfold W5
  simp only [Nat.zero_add]
  simp [World.cell?, h, a0, a1, a2, a3, a4]
set_option maxRecDepth 100000 in
set_option maxHeartbeats 4000000 in
theorem played49_x (w : World) : Calls Try.prog 49 #[] w (PlayedX w) := by
  go_enter Try.func49, Try.ntmps49
  go_wp2_with fail
  have hX : ((w.alloc (.cells #[.int .i64 4, .slice (some ⟨w.heap.size + 1, 0, none⟩) 5 5] 32)).alloc (.cells #[.int .i64 0, .int .i64 1, .int .i64 700, .int .i64 650, .bool false, .int .i64 2, .int .i64 3, .int .i64 610, .int .i64 600, .bool false, .int .i64 1, .int .i64 2, .int .i64 680, .int .i64 640, .bool false, .int .i64 0, .int .i64 3, .int .i64 0, .int .i64 0, .bool true, .int .i64 1, .int .i64 3, .int .i64 0, .int .i64 0, .bool true] 85)).heap[w.heap.size + 1]? = some (.cells #[.int .i64 0, .int .i64 1, .int .i64 700, .int .i64 650, .bool false, .int .i64 2, .int .i64 3, .int .i64 610, .int .i64 600, .bool false, .int .i64 1, .int .i64 2, .int .i64 680, .int .i64 640, .bool false, .int .i64 0, .int .i64 3, .int .i64 0, .int .i64 0, .bool true, .int .i64 1, .int .i64 3, .int .i64 0, .int .i64 0, .bool true] 85) := by
    have := World.alloc_heap_new (w.alloc (.cells #[.int .i64 4, .slice (some ⟨w.heap.size + 1, 0, none⟩) 5 5] 32)) (.cells #[.int .i64 0, .int .i64 1, .int .i64 700, .int .i64 650, .bool false, .int .i64 2, .int .i64 3, .int .i64 610, .int .i64 600, .bool false, .int .i64 1, .int .i64 2, .int .i64 680, .int .i64 640, .bool false, .int .i64 0, .int .i64 3, .int .i64 0, .int .i64 0, .bool true, .int .i64 1, .int .i64 3, .int .i64 0, .int .i64 0, .bool true] 85)
    rwa [World.size_alloc] at this
  have h0 : ((w.alloc (.cells #[.int .i64 4, .slice (some ⟨w.heap.size + 1, 0, none⟩) 5 5] 32)).alloc (.cells #[.int .i64 0, .int .i64 1, .int .i64 700, .int .i64 650, .bool false, .int .i64 2, .int .i64 3, .int .i64 610, .int .i64 600, .bool false, .int .i64 1, .int .i64 2, .int .i64 680, .int .i64 640, .bool false, .int .i64 0, .int .i64 3, .int .i64 0, .int .i64 0, .bool true, .int .i64 1, .int .i64 3, .int .i64 0, .int .i64 0, .bool true] 85)).heap[w.heap.size]? = some (.cells #[.int .i64 4, .slice (some ⟨w.heap.size + 1, 0, none⟩) 5 5] 32) := (heap_alloc_old _ _ (by simp)).trans (World.alloc_heap_new _ _)
  have hb : Below w.heap.size w ((w.alloc (.cells #[.int .i64 4, .slice (some ⟨w.heap.size + 1, 0, none⟩) 5 5] 32)).alloc (.cells #[.int .i64 0, .int .i64 1, .int .i64 700, .int .i64 650, .bool false, .int .i64 2, .int .i64 3, .int .i64 610, .int .i64 600, .bool false, .int .i64 1, .int .i64 2, .int .i64 680, .int .i64 640, .bool false, .int .i64 0, .int .i64 3, .int .i64 0, .int .i64 0, .bool true, .int .i64 1, .int .i64 3, .int .i64 0, .int .i64 0, .bool true] 85)) := ((Below.refl _ _).alloc (Nat.le_refl _) _).alloc (by simp) _
  generalize ((w.alloc (.cells #[.int .i64 4, .slice (some ⟨w.heap.size + 1, 0, none⟩) 5 5] 32)).alloc (.cells #[.int .i64 0, .int .i64 1, .int .i64 700, .int .i64 650, .bool false, .int .i64 2, .int .i64 3, .int .i64 610, .int .i64 600, .bool false, .int .i64 1, .int .i64 2, .int .i64 680, .int .i64 640, .bool false, .int .i64 0, .int .i64 3, .int .i64 0, .int .i64 0, .bool true, .int .i64 1, .int .i64 3, .int .i64 0, .int .i64 0, .bool true] 85)) = W at *
  refine bodyPost_ret (v := .agg #[.int .i64 4, .slice (some ⟨w.heap.size + 1, 0, none⟩) 5 5]) (by simp [results, Try.results49, go_sem, World.cell?, h0]) rfl ?_
  exact ⟨w.heap.size + 1, rfl, hX, by omega, hb⟩
theorem BlkM.gms {W : World} {q : Nat} {gs : List Gm} (h : BlkM W q gs) : Gms W.heap.size W (some ⟨q, 0, none⟩) gs := gms_of h
theorem many_cells : madeCells #[Value.int .i64 0, .int .i64 0, .int .i64 0, .int .i64 0, .bool false] (21 * 5) = (flatM manyG).toArray := by first | kernel_rfl | (simp [madeCells, flatM, manyG, cellsM, List.replicate]; done) | (unfold madeCells; kernel_rfl)
theorem many_make : ∀ W : World, (Instr.makeSlice 30 (.int .i64 21) (.int .i64 21)).run Try.prog W = .ok (.slice (some ⟨W.heap.size, 0, none⟩) 21 21) (W.alloc (.cells (flatM manyG).toArray 85)) := fun W => by
  obtain ⟨hu, i, hi, hz, hz1, hz2⟩ := tyM (t := 30) (e := 85) (.inl ⟨rfl, rfl⟩)
  have h := run_makeSlice (P := Try.prog) (w := W) 30 85 i _ hu hi hz .i64 .i64 21 21 (by decide) (by decide) (by rw [hz1]; decide) (by rw [hz2]; decide) (by decide)
  rw [hz1] at h
  rw [← many_cells]
  exact h
theorem BlkM.same {W : World} {q : Nat} (h : BlkM W q playedG) : BlkM (W.setCell ⟨q, 1, none⟩ (.int .i64 0)) q sameG := by
  unfold BlkM at h ⊢
  simp [World.setCell, Array.getElem?_modify, h]
  rfl
theorem BlkM.wild {W : World} {q : Nat} (h : BlkM W q playedG) : BlkM (W.setCell ⟨q, 17, none⟩ (.int .i64 1)) q wildG := by
  unfold BlkM at h ⊢
  simp [World.setCell, Array.getElem?_modify, h]
  rfl
end Go.Proofs.Ytjokbffdepcpkaa
