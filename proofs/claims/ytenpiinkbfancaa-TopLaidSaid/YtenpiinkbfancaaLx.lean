/-
  TopLaid: one ball, and one cell.
-/
import Derived.Test.YtenpiinkbfancaaPc5
import Derived.Test.YtenpiinkbfancaaTlM
namespace Go.Proofs.Ytenpiinkbfancaa.Pa
open Go.RowKit
set_option linter.unusedSimpArgs false
set_option linter.unusedVariables false

attribute [local go_sem] Oper.semAt_some
theorem grd_one {W : World} {b : Nat} {A : Option Addr} {xs : List Int} (hb : b < W.heap.size) (h : W.cell? ⟨b, 0, none⟩ = some (.slice A xs.length xs.length)) (hl : xs.length ≤ 1000) (hi : Ints W.heap.size W A xs) : Grd W.heap.size W (some ⟨b, 0, none⟩) [xs] := fun _ =>
  ⟨b, 0, rfl, hb, fun k hk => by
    obtain rfl : k = 0 := by simpa using hk
    exact ⟨_, h, A, xs.length, rfl, Nat.le_refl _, by omega, hi⟩⟩
theorem ints_one {W : World} {a : Nat} {x : Int} (ha : a < W.heap.size) (h : W.cell? ⟨a, 0, none⟩ = some (.int .i64 x)) : Ints W.heap.size W (some ⟨a, 0, none⟩) [x] := fun _ =>
  ⟨a, 0, rfl, ha, fun k hk => by
    obtain rfl : k = 0 := by simpa using hk
    exact h⟩
theorem ints_two {W : World} {a : Nat} {x y : Int} (ha : a < W.heap.size) (h : W.cell? ⟨a, 0, none⟩ = some (.int .i64 x)) (h1 : W.cell? ⟨a, 1, none⟩ = some (.int .i64 y)) : Ints W.heap.size W (some ⟨a, 0, none⟩) [x, y] := fun _ =>
  ⟨a, 0, rfl, ha, fun k hk => by
    rcases k with _ | _ | k
    · exact h
    · exact h1
    · simp at hk; omega⟩
theorem up_alloc {w : World} {k : Nat} {o o' : Obj} (h : w.heap[k]? = some o) : (w.alloc o').heap[k]? = some o := (Below.heap_alloc _ _ _ (Array.getElem?_eq_some_iff.1 h).1).trans h
theorem new_at {w : World} {n : Nat} (o : Obj) (h : w.heap.size = n) : (w.alloc o).heap[n]? = some o := by rw [← h]; exact World.alloc_heap_new _ _
theorem six_new (w : World) (o1 o2 o3 o4 o5 o6 : Obj) : ∃ W, W = ((((((w.alloc o1).alloc o2).alloc o3).alloc o4).alloc o5).alloc o6) ∧ W.heap[w.heap.size]? = some o1 ∧ W.heap[w.heap.size + 1]? = some o2 ∧ W.heap[w.heap.size + 1 + 1]? = some o3 ∧ W.heap[w.heap.size + 1 + 1 + 1]? = some o4 ∧ W.heap[w.heap.size + 1 + 1 + 1 + 1]? = some o5 ∧ W.heap[w.heap.size + 1 + 1 + 1 + 1 + 1]? = some o6 ∧ W.heap.size = w.heap.size + 6 :=
  ⟨_, rfl, up_alloc (up_alloc (up_alloc (up_alloc (up_alloc (new_at o1 rfl))))), up_alloc (up_alloc (up_alloc (up_alloc (new_at o2 (by simp))))), up_alloc (up_alloc (up_alloc (new_at o3 (by simp)))), up_alloc (up_alloc (new_at o4 (by simp))), up_alloc (new_at o5 (by simp)), new_at o6 (by simp), by simp⟩
def L0 : Ln := ⟨2, 1, [[0, 0]], []⟩
theorem ok_L0 : Ok L0 := ⟨by decide, by decide, by decide, by decide, by decide, by decide, by decide, fun k hk => by
  obtain rfl : k = 0 := by simpa [L0] using hk
  decide, fun k hk => by simp [L0] at hk⟩
theorem rolls_L0 : rolls L0 (2, 0) [] 0 := ⟨fun j hj => by omega, fun h => by have := h.1; simp [L0] at this⟩
theorem play_L0 (w : World) : Calls Try.prog 31 #[.agg #[.int .i64 2, .int .i64 1, .slice (some ⟨w.heap.size, 0, none⟩) 1 1, .slice none 0 0], .agg #[.int .i64 2, .int .i64 0], .slice none 0 0] (w.alloc (.cells #[.int .i64 0, .int .i64 0] 186)) (PlayP L0 (2, 0) [] 0 (w.alloc (.cells #[.int .i64 0, .int .i64 0] 186))) :=
  play31_c L0 (some ⟨w.heap.size, 0, none⟩) none 1 0 (2, 0) [] 0 none 0 (w.alloc (.cells #[.int .i64 0, .int .i64 0] 186)) ok_L0 (fun _ => ⟨w.heap.size, 0, rfl, by simp, fun n hn j hj => by
    obtain rfl : n = 0 := by simpa [L0] using hn
    rcases j with _ | _ | j
    · simp [L0, ix, rx]
    · simp [L0, ix, rx]
    · omega⟩) (fun hp => by simp [L0] at hp) (by decide) (fun j => by simp [ix]) rolls_L0 (fun hp => by simp [turnsL] at hp) ⟨by omega, by omega⟩
theorem le_oil : Ol.ballsErr [[5, 9]] 3 3 0 [[1]] = 0 := by
  refine mk_ballsErr (mk_laneErr (nb := 2) (by simp) (by simp) (by omega) (fun k hk => ?_) (by omega) (by omega)) (by simp) (fun k hk => ?_)
  · obtain rfl : k = 0 := by simpa using hk
    refine ⟨rfl, fun j hj => ?_⟩
    rcases j with _ | _ | j
    · simp [rx, ix]
    · simp [rx, ix]
    · omega
  · obtain rfl : k = 0 := by simpa using hk
    refine ⟨rfl, fun j hj => ?_⟩
    obtain rfl : j = 0 := by simpa using hj
    simp [rx, ix]
theorem wears_oil : Ol.wearsB 1 3 3 [[1]] [[3]] = true := by
  simp only [Ol.wearsB, Bool.and_eq_true, decide_eq_true_eq, Ol.allB_iff]
  refine ⟨rfl, fun k hk => ?_⟩
  obtain rfl : k = 0 := by simpa using hk
  simp only [Ol.wearB, Bool.and_eq_true, decide_eq_true_eq, Ol.allB_iff]
  refine ⟨rfl, fun j hj => ?_⟩
  obtain rfl : j = 0 := by simpa [rx] using hj
  decide
theorem oil0 : ix (rx (Ol.playX [[5, 9]] [[1]] [[3]] 0) 0) 0 = 5 := by
  rw [Ol.playX_at le_oil (by simp) (by simp [rx])]
  decide
theorem oil1 : ix (rx (Ol.playX [[5, 9]] [[1]] [[3]] 0) 0) 1 = 6 := by
  rw [Ol.playX_at le_oil (by simp) (by simp [rx])]
  decide
set_option maxRecDepth 100000 in
set_option maxHeartbeats 8000000 in
theorem laid30_c (w : World) : Calls Try.prog 30 #[] w (Ans w (.bool true)) := by
  have hb1 : Below w.heap.size w (w.alloc (.cells #[.int .i64 0, .int .i64 0] 186)) := (Below.refl _ _).alloc (Nat.le_refl _) _
  have HB1 := Lib.hid hb1
  have HP := Lib.hid (play_L0 w)
  clear hb1
  go_enter Try.func30, Try.ntmps30
  go_wp2_with fail
  generalize (w.alloc (.cells #[.int .i64 0, .int .i64 0] 186)) = W1 at *
  refine HP.out.mono ?_
  rintro e w2 ⟨A, n, c, gut, rfl, hb2, hgut, hrest⟩
  obtain rfl : gut = false := by rw [hgut]; decide
  obtain ⟨-, rfl, hc, -⟩ := hrest rfl
  have HB2 := Lib.hid (HB1.out.trans (hb2.mono HB1.out.size))
  have hb8 : Below w2.heap.size w2 ((((((w2.alloc (.cells #[.int .i64 5, .int .i64 9] 3)).alloc (.cells #[.slice (some ⟨w2.heap.size, 0, none⟩) 2 2] 42)).alloc (.cells #[.int .i64 1] 3)).alloc (.cells #[.slice (some ⟨w2.heap.size + 1 + 1, 0, none⟩) 1 1] 42)).alloc (.cells #[.int .i64 3] 3)).alloc (.cells #[.slice (some ⟨w2.heap.size + 1 + 1 + 1 + 1, 0, none⟩) 1 1] 42)) := ((((((Below.refl _ _).alloc (Nat.le_refl _) _).alloc (by simp) _).alloc (by simp; omega) _).alloc (by simp; omega) _).alloc (by simp; omega) _).alloc (by simp; omega) _
  have HB8 := Lib.hid hb8
  obtain ⟨W8, hW8, t1, t2, t3, t4, t5, t6, hz8⟩ := six_new w2 (.cells #[.int .i64 5, .int .i64 9] 3) (.cells #[.slice (some ⟨w2.heap.size, 0, none⟩) 2 2] 42) (.cells #[.int .i64 1] 3) (.cells #[.slice (some ⟨w2.heap.size + 1 + 1, 0, none⟩) 1 1] 42) (.cells #[.int .i64 3] 3) (.cells #[.slice (some ⟨w2.heap.size + 1 + 1 + 1 + 1, 0, none⟩) 1 1] 42)
  rw [← hW8] at hb8 HB8
  have G1 : Grd W8.heap.size W8 (some ⟨w2.heap.size + 1, 0, none⟩) [[5, 9]] := grd_one (A := some ⟨w2.heap.size, 0, none⟩) (by omega) (by simp [World.cell?, t2]) (by simp) (ints_two (by omega) (by simp [World.cell?, t1]) (by simp [World.cell?, t1]))
  have G2 : Grd W8.heap.size W8 (some ⟨w2.heap.size + 1 + 1 + 1, 0, none⟩) [[1]] := grd_one (A := some ⟨w2.heap.size + 1 + 1, 0, none⟩) (by omega) (by simp [World.cell?, t4]) (by simp) (ints_one (by omega) (by simp [World.cell?, t3]))
  have G3 : Grd W8.heap.size W8 (some ⟨w2.heap.size + 1 + 1 + 1 + 1 + 1, 0, none⟩) [[3]] := grd_one (A := some ⟨w2.heap.size + 1 + 1 + 1 + 1, 0, none⟩) (by omega) (by simp [World.cell?, t6]) (by simp) (ints_one (by omega) (by simp [World.cell?, t5]))
  have HO := Lib.hid (Ol.play_ok_c (some ⟨w2.heap.size + 1, 0, none⟩) (some ⟨w2.heap.size + 1 + 1 + 1, 0, none⟩) (some ⟨w2.heap.size + 1 + 1 + 1 + 1 + 1, 0, none⟩) [[5, 9]] [[1]] [[3]] 1 1 1 3 3 0 W8 G1 G2 G3 ⟨by simp, by omega⟩ ⟨by simp, by omega⟩ ⟨by simp, by omega⟩ (mk_playErr le_oil wears_oil))
  rw [hW8] at HO
  clear hb2 hgut hrest hb8 hz8 G1 G2 G3 HP t1 t2 t3 t4 t5 t6
  simp only [List.length_cons, List.length_nil, Nat.zero_add] at HO
  go_wp2_with fail
  refine HO.out.mono ?_
  rintro e w3 ⟨A3, c3, rfl, hc3, hg3, hb3⟩
  rw [← hW8] at hb3
  have h1 := playX_len [[5, 9]] [[1]] [[3]] 0
  have h2 := playX_row (xss := [[5, 9]]) (bss := [[1]]) (wss := [[3]]) (ca := 0) (r := 0) (by simp)
  have h3 := oil0
  have h4 := oil1
  generalize Ol.playX [[5, 9]] [[1]] [[3]] 0 = X at *
  obtain ⟨bx, ox, A4, c4, rfl, -, k0, -, -, hin⟩ := hg3.at_ (k := 0) (by rw [h1]; simp)
  rw [h2] at k0
  obtain ⟨bi, oi, rfl, -, hi⟩ := hin (by rw [h2]; simp [rx])
  have k1 := hi 0 (by rw [h2]; simp [rx])
  have k2 := hi 1 (by rw [h2]; simp [rx])
  rw [h3] at k1
  rw [h4] at k2
  rw [h1]
  have e2 : (rx [[5, 9]] 0).length = 2 := rfl
  rw [e2] at k0
  simp only [Nat.add_zero, List.length_cons, List.length_nil, Nat.zero_add] at k0 k1 k2 ⊢
  have HF := Lib.hid (HB2.out.trans ((HB8.out.mono HB2.out.size).trans (hb3.mono (Nat.le_trans HB2.out.size HB8.out.size))))
  clear h1 h2 h3 h4 hin hi hg3 hb3 hc3 e2
  go_wp2_with fail
  go_ret
  exact ⟨rfl, HF.out⟩
end Go.Proofs.Ytenpiinkbfancaa.Pa
