/-
  The walk of the law SeenNames.
-/
import Derived.Test.YtadjkinpimmhkaaWakes
import Derived.Test.YtadjkinpimmhkaaPvA
import Derived.Test.YtadjkinpimmhkaaRegW
import Derived.Test.YtadjkinpimmhkaaSuresM
import Derived.Test.YtadjkinpimmhkaaChosen
namespace Go.Proofs.Ytadjkinpimmhkaa
open Go.RowKit
set_option linter.unusedSimpArgs false
set_option linter.unusedVariables false

def Night2 (w : World) (e : Ending) (w' : World) : Prop := ∃ g, e = .returned (.agg #[.int .i64 2, .slice (some ⟨g, 0, none⟩) 5 5]) ∧ OwnW 85 w.heap.size w' (.slice (some ⟨g, 0, none⟩) 5 5) nightW ∧ Below w.heap.size w w'
set_option maxRecDepth 100000 in
set_option maxHeartbeats 8000000 in
theorem night2_c (w : World) : Calls Try.prog 49 #[] w (Night2 w) := by
  have hb0 : Below w.heap.size w (w.alloc (.cells #[.int .i64 0, .slice none 0 0] 32)) := (Below.refl _ _).alloc (Nat.le_refl _) _
  have hz : (w.alloc (.cells #[.int .i64 0, .slice none 0 0] 32)).heap[w.heap.size]? = some (.cells #[.int .i64 0, .slice none 0 0] 32 (0, 0)) := World.alloc_heap_new _ _
  have H50 := Lib.hid word50_c
  have HB := Lib.hid hb0
  have HZ := Lib.hid hz
  clear hb0 hz
  go_enter Try.func49, Try.ntmps49
  go_wp2_with fail
  generalize w.alloc (.cells #[.int .i64 0, .slice none 0 0] 32) = W0 at HB HZ ⊢
  refine (H50.out _ _ _ _ _ _).mono ?_
  rintro e w1 ⟨rfl, hb⟩
  replace HZ := Lib.hid ((hb.block _ (Array.getElem?_eq_some_iff.1 HZ.out).1).trans HZ.out)
  replace HB := Lib.hid (HB.out.trans (hb.mono HB.out.size))
  clear hb
  go_wp2_with fail
  refine (H50.out _ _ _ _ _ _).mono ?_
  rintro e w2 ⟨rfl, hb⟩
  replace HZ := Lib.hid ((hb.block _ (Array.getElem?_eq_some_iff.1 HZ.out).1).trans HZ.out)
  replace HB := Lib.hid (HB.out.trans (hb.mono HB.out.size))
  clear hb
  go_wp2_with fail
  refine (H50.out _ _ _ _ _ _).mono ?_
  rintro e w3 ⟨rfl, hb⟩
  replace HZ := Lib.hid ((hb.block _ (Array.getElem?_eq_some_iff.1 HZ.out).1).trans HZ.out)
  replace HB := Lib.hid (HB.out.trans (hb.mono HB.out.size))
  clear hb
  go_wp2_with fail
  refine (H50.out _ _ _ _ _ _).mono ?_
  rintro e w4 ⟨rfl, hb⟩
  replace HZ := Lib.hid ((hb.block _ (Array.getElem?_eq_some_iff.1 HZ.out).1).trans HZ.out)
  replace HB := Lib.hid (HB.out.trans (hb.mono HB.out.size))
  clear hb
  go_wp2_with fail
  refine (H50.out _ _ _ _ _ _).mono ?_
  rintro e w5 ⟨rfl, hb⟩
  replace HZ := Lib.hid ((hb.block _ (Array.getElem?_eq_some_iff.1 HZ.out).1).trans HZ.out)
  replace HB := Lib.hid (HB.out.trans (hb.mono HB.out.size))
  have z0 : w5.cell? ⟨w.heap.size, 0, none⟩ = some (.int .i64 0) := by simp [World.cell?, HZ.out]
  have z1 : w5.cell? ⟨w.heap.size, 1, none⟩ = some (.slice none 0 0) := by simp [World.cell?, HZ.out]
  have z2 : w5.frozen? ⟨w.heap.size, 0, none⟩ = false := by simp [World.frozen?, HZ.out]
  have z3 : w5.frozen? ⟨w.heap.size, 1, none⟩ = false := by simp [World.frozen?, HZ.out]
  have hlt : w.heap.size < w5.heap.size := (Array.getElem?_eq_some_iff.1 HZ.out).1
  clear hb
  go_wp2_with fail
  have hb2 : Below w.heap.size w (w5.setCell ⟨w.heap.size, 0, none⟩ (.int .i64 2)) := HB.out.setCell (by dsimp only; omega) _
  have hb3 : Below w.heap.size w ((w5.setCell ⟨w.heap.size, 0, none⟩ (.int .i64 2)).setCell ⟨w.heap.size, 1, none⟩ (.slice (some ⟨w5.heap.size, 0, none⟩) 5 5)) := hb2.setCell (by dsimp only; omega) _
  have hsz : ((w5.setCell ⟨w.heap.size, 0, none⟩ (.int .i64 2)).setCell ⟨w.heap.size, 1, none⟩ (.slice (some ⟨w5.heap.size, 0, none⟩) 5 5)).heap.size = w5.heap.size := by simp [World.setCell]
  have hw6 : ((w5.setCell ⟨w.heap.size, 0, none⟩ (.int .i64 2)).setCell ⟨w.heap.size, 1, none⟩ (.slice (some ⟨w5.heap.size, 0, none⟩) 5 5)).heap[w.heap.size]? = some (.cells #[.int .i64 2, .slice (some ⟨w5.heap.size, 0, none⟩) 5 5] 32 (0, 0)) := by
    simp [World.setCell, Array.getElem?_modify, HZ.out]
  generalize ((w5.setCell ⟨w.heap.size, 0, none⟩ (.int .i64 2)).setCell ⟨w.heap.size, 1, none⟩ (.slice (some ⟨w5.heap.size, 0, none⟩) 5 5)) = w6 at hb3 hsz hw6 ⊢
  have y0 : w6.cell? ⟨w.heap.size, 0, none⟩ = some (.int .i64 2) := by simp [World.cell?, hw6]
  have y1 : w6.cell? ⟨w.heap.size, 1, none⟩ = some (.slice (some ⟨w5.heap.size, 0, none⟩) 5 5) := by simp [World.cell?, hw6]
  have y2 := cell_alloc_keep (.cells #[.int .i64 0, .int .i64 0, .int .i64 0, .int .i64 3, .int .i64 3, .int .i64 0, .int .i64 1, .int .i64 0, .int .i64 0, .int .i64 2, .int .i64 0, .int .i64 0, .int .i64 1, .int .i64 2, .int .i64 4, .int .i64 1, .int .i64 0, .int .i64 1, .int .i64 6, .int .i64 6, .int .i64 1, .int .i64 0, .int .i64 2, .int .i64 0, .int .i64 1] 85) y0
  have y3 := cell_alloc_keep (.cells #[.int .i64 0, .int .i64 0, .int .i64 0, .int .i64 3, .int .i64 3, .int .i64 0, .int .i64 1, .int .i64 0, .int .i64 0, .int .i64 2, .int .i64 0, .int .i64 0, .int .i64 1, .int .i64 2, .int .i64 4, .int .i64 1, .int .i64 0, .int .i64 1, .int .i64 6, .int .i64 6, .int .i64 1, .int .i64 0, .int .i64 2, .int .i64 0, .int .i64 1] 85) y1
  refine bodyPost_ret (v := .agg #[.int .i64 2, .slice (some ⟨w5.heap.size, 0, none⟩) 5 5]) (by simp [results, Try.results49, go_sem, y2, y3]) rfl ⟨w5.heap.size, rfl, ⟨rfl, .inr ⟨w5.heap.size, 5, #[.int .i64 0, .int .i64 0, .int .i64 0, .int .i64 3, .int .i64 3, .int .i64 0, .int .i64 1, .int .i64 0, .int .i64 0, .int .i64 2, .int .i64 0, .int .i64 0, .int .i64 1, .int .i64 2, .int .i64 4, .int .i64 1, .int .i64 0, .int .i64 1, .int .i64 6, .int .i64 6, .int .i64 1, .int .i64 0, .int .i64 2, .int .i64 0, .int .i64 1], rfl, HB.out.size, ?_, by decide, by simp [maxLen], rfl, rfl⟩⟩, hb3.alloc (by omega) _⟩
  have := World.alloc_heap_new w6 (.cells #[.int .i64 0, .int .i64 0, .int .i64 0, .int .i64 3, .int .i64 3, .int .i64 0, .int .i64 1, .int .i64 0, .int .i64 0, .int .i64 2, .int .i64 0, .int .i64 0, .int .i64 1, .int .i64 2, .int .i64 4, .int .i64 1, .int .i64 0, .int .i64 1, .int .i64 6, .int .i64 6, .int .i64 1, .int .i64 0, .int .i64 2, .int .i64 0, .int .i64 1] 85)
  rw [hsz] at this
  exact this
def moreW : List Wd := nightW ++ [⟨0, 1, 1, 9, 9⟩]
def oddW : List Wd := [⟨0, 0, 0, 3, 11⟩, ⟨0, 1, 0, 0, 2⟩, ⟨0, 0, 1, 2, 4⟩, ⟨1, 0, 1, 6, 6⟩, ⟨1, 0, 2, 0, 1⟩]
def farW : List Wd := [⟨2, 0, 0, 3, 3⟩, ⟨0, 1, 0, 0, 2⟩, ⟨0, 0, 1, 2, 4⟩, ⟨1, 0, 1, 6, 6⟩, ⟨1, 0, 2, 0, 1⟩]
def manyW : List Wd := List.replicate 31 ⟨0, 0, 0, 0, 0⟩
theorem nk_a0 : askErr 2 nightW [0] = 0 := by decide +kernel
theorem nk_e0 : explB 2 nightW (offT [0]) = false := by decide +kernel
theorem nk_x2 : exErr 2 nightW [2] = 0 := by decide +kernel
theorem nk_m2 : manyP nightW (offT [2]) 2 = 21 := by decide +kernel
theorem nk_bv : blameV (explB 2 nightW) = 0 := by decide +kernel
theorem nk_be : blameE (explB 2 nightW) = 7 := by decide +kernel
theorem nk_s1 : sureL nightW (offT [1]) 2 = [(0, 0)] := by decide +kernel
theorem nk_l : laneErr 2 moreW = 0 := by decide +kernel
theorem nk_mv : blameV (explB 2 moreW) = 1 := by decide +kernel
theorem nk_me : blameE (explB 2 moreW) = 0 := by decide +kernel
theorem nk_p1 : proveB 2 nightW (offT [1]) [[7, 1], [10]] = true := by decide +kernel
theorem nk_p2 : proveB 2 nightW (offT [1]) [[7, 0], [10]] = false := by decide +kernel
theorem nk_p3 : proveB 2 nightW (offT [1]) [[7, 1], [10, 0]] = false := by decide +kernel
theorem nk_p4 : proveB 2 nightW (offT []) [[7, 1], [10]] = false := by decide +kernel
theorem nk_a11 : askErr 2 nightW [1, 1] = 2 := by decide +kernel
theorem nk_x4 : exErr 2 nightW [4] = 2 := by decide +kernel
theorem nk_x : exErr 2 nightW [] = 9 := by decide +kernel
theorem nk_x0 : exErr 2 nightW [0] = 9 := by decide +kernel
theorem nk_lo : laneErr 2 oddW = 1 := by decide +kernel
theorem nk_lf : laneErr 2 farW = 1 := by decide +kernel
theorem nk_l0 : laneErr 0 [] = 1 := by decide +kernel
theorem nk_lm : laneErr 2 manyW = 3 := by decide +kernel
theorem nk_x5 : exErr 5 [] [] = 0 := by decide +kernel
theorem nk_m5 : manyP [] (offT []) 5 = 1252332576 := by decide +kernel

theorem many_wds {w : World} {b : Nat} (h : w.heap[b]? = some (.cells (Array.replicate 155 (.int .i64 0)) 85 (0, 0))) : Wds w.heap.size w (some ⟨b, 0, none⟩) manyW := fun _ => ⟨b, 0, rfl, (Array.getElem?_eq_some_iff.1 h).1, fun k hk => by
  have hk2 : k < 31 := by rw [show manyW.length = 31 from rfl] at hk; exact hk
  have hx : wx manyW k = ⟨0, 0, 0, 0, 0⟩ := by
    unfold wx manyW
    rw [List.getD_eq_getElem?_getD, List.getElem?_replicate, if_pos hk2]
    rfl
  have hc : ∀ j, j < 155 → w.cell? ⟨b, j, none⟩ = some (.int .i64 0) := fun j hj => by
    have e : (Array.replicate 155 (Value.int .i64 0))[j]? = some (.int .i64 0) := by rw [Array.getElem?_replicate, if_pos hj]
    simp only [World.cell?, h]
    exact e
  rw [hx]
  exact ⟨hc _ (by omega), hc _ (by omega), hc _ (by omega), hc _ (by omega), hc _ (by omega)⟩⟩
theorem grown_set (w : World) (b o : Nat) (v : Value) : w.grownBy (w.setCell ⟨b, o, none⟩ v) (some b) := only_setCell (World.grownBy.refl w (some b)) (.inl rfl) _
theorem OwnW.step {e : TypeId} {base : Nat} {w w' : World} {u : Value} {ws : List Wd} (h : OwnW e base w u ws) (hb : Below w.heap.size w w') : OwnW e base w' u ws := World.ownsRow.kept h (only_below hb none) (own_ne _)
theorem ints_two (W : World) (a b : Int) : Ints (W.alloc (.cells #[.int .i64 a, .int .i64 b] 3)).heap.size (W.alloc (.cells #[.int .i64 a, .int .i64 b] 3)) (some ⟨W.heap.size, 0, none⟩) [a, b] := fun _ => ⟨W.heap.size, 0, rfl, by simp, fun k hk => by
  rcases (by simp at hk; omega : k = 0 ∨ k = 1) with rfl | rfl <;> simp [ix]⟩
theorem grd_lit (W : World) (q : Nat) (hq : W.heap.size = q) (a b c : Int) : Grd (((W.alloc (.cells #[.int .i64 a, .int .i64 b] 3)).alloc (.cells #[.int .i64 c] 3)).alloc (.cells #[.slice (some ⟨q, 0, none⟩) 2 2, .slice (some ⟨q + 1, 0, none⟩) 1 1] 25)).heap.size (((W.alloc (.cells #[.int .i64 a, .int .i64 b] 3)).alloc (.cells #[.int .i64 c] 3)).alloc (.cells #[.slice (some ⟨q, 0, none⟩) 2 2, .slice (some ⟨q + 1, 0, none⟩) 1 1] 25)) (some ⟨q + 1 + 1, 0, none⟩) [[a, b], [c]] := fun _ => by
  subst hq
  refine ⟨_, 0, rfl, by simp, fun k hk => ?_⟩
  rcases (by simp at hk; omega : k = 0 ∨ k = 1) with rfl | rfl
  · refine ⟨.slice (some ⟨W.heap.size, 0, none⟩) 2 2, by go_simp, some ⟨W.heap.size, 0, none⟩, 2, rfl, (by show 2 ≤ 2; omega), (by decide), fun _ => ⟨W.heap.size, 0, rfl, by simp; omega, fun j hj => ?_⟩⟩
    rcases (by simp [rx] at hj; omega : j = 0 ∨ j = 1) with rfl | rfl <;> go_simp <;> simp [ix, rx]
  · refine ⟨.slice (some ⟨W.heap.size + 1, 0, none⟩) 1 1, by go_simp, some ⟨W.heap.size + 1, 0, none⟩, 1, rfl, (by show 1 ≤ 1; omega), (by decide), fun _ => ⟨W.heap.size + 1, 0, rfl, by simp, fun j hj => ?_⟩⟩
    obtain rfl : j = 0 := by simp [rx] at hj; omega
    go_simp
    try simp [ix, rx]
theorem grd_lit2 (W : World) (q : Nat) (hq : W.heap.size = q) (a b c d : Int) : Grd (((W.alloc (.cells #[.int .i64 a, .int .i64 b] 3)).alloc (.cells #[.int .i64 c, .int .i64 d] 3)).alloc (.cells #[.slice (some ⟨q, 0, none⟩) 2 2, .slice (some ⟨q + 1, 0, none⟩) 2 2] 25)).heap.size (((W.alloc (.cells #[.int .i64 a, .int .i64 b] 3)).alloc (.cells #[.int .i64 c, .int .i64 d] 3)).alloc (.cells #[.slice (some ⟨q, 0, none⟩) 2 2, .slice (some ⟨q + 1, 0, none⟩) 2 2] 25)) (some ⟨q + 1 + 1, 0, none⟩) [[a, b], [c, d]] := fun _ => by
  subst hq
  refine ⟨_, 0, rfl, by simp, fun k hk => ?_⟩
  rcases (by simp at hk; omega : k = 0 ∨ k = 1) with rfl | rfl
  · refine ⟨.slice (some ⟨W.heap.size, 0, none⟩) 2 2, by go_simp, some ⟨W.heap.size, 0, none⟩, 2, rfl, (by show 2 ≤ 2; omega), (by decide), fun _ => ⟨W.heap.size, 0, rfl, by simp; omega, fun j hj => ?_⟩⟩
    rcases (by simp [rx] at hj; omega : j = 0 ∨ j = 1) with rfl | rfl <;> go_simp <;> simp [ix, rx]
  · refine ⟨.slice (some ⟨W.heap.size + 1, 0, none⟩) 2 2, by go_simp, some ⟨W.heap.size + 1, 0, none⟩, 2, rfl, (by show 2 ≤ 2; omega), (by decide), fun _ => ⟨W.heap.size + 1, 0, rfl, by simp, fun j hj => ?_⟩⟩
    rcases (by simp [rx] at hj; omega : j = 0 ∨ j = 1) with rfl | rfl <;> go_simp <;> simp [ix, rx]
theorem step_wordsO {ops : Array Oper} {o : Oper} {a : Act} {K : Act → World → Prop} {Q : Exit → Act → World → Prop} {E : Prop} (s x : Operand) (hgd : o.guard = none) (ho : o.op = .call { callee := .builtin .append, args := #[s, x], argTypes := #[30, 30] })
    (base : Nat) (w : World) (u : Value) (l vs zs : List Wd) (A : Option Addr) (m c : Nat) (hm : m = vs.length) (hz : zs = l ++ vs) (hv : a.eval s = u) (hx : a.eval x = .slice A m c) (hL : Hid (OwnW 85 base w u l)) (hs : Src w 5 A m (flatW vs)) (hl : l.length ≤ 1000000) (hl2 : vs.length ≤ 1000000) (hb : base ≤ w.heap.size)
    (h : ∀ A' c' w', Hid (AppW 85 base w u l vs w' (.slice A' zs.length c')) → K (a.put o.dst (.slice A' zs.length c')) w') :
    if Region.wanted o (yielded ops a.tmps) = true then Oper.wp Try.prog o a w K Q else E := by
  rw [if_pos (by simp [Region.wanted, hgd])]
  subst hz
  obtain ⟨u', w', hr, hA⟩ := run_app_words (t := 30) (e := 85) (.inl ⟨rfl, rfl⟩) o.type A m c hm hL.out hs hl hl2 hb
  obtain ⟨A', c', rfl⟩ := hA.own.form
  unfold Oper.wp execOp
  simp only [ho, resolve, invoke, builtin, Sem.run_bind, Sem.run_pure, Result.andThen_ok, List.map_toArray, List.map_cons, List.map_nil, hv, hx, hr]
  exact h A' c' w' hA
section
variable (W : World) (g : Nat) (h : Wds W.heap.size W (some ⟨g, 0, none⟩) nightW)
include h
theorem nx_w (x : Int) : Wds (W.alloc (.cells #[.int .i64 (x)] 3)).heap.size (W.alloc (.cells #[.int .i64 (x)] 3)) (some ⟨g, 0, none⟩) nightW := h.step ((Below.refl _ _).alloc (Nat.le_refl _) _)
theorem nx_e0 : Calls Try.prog 21 #[.agg #[.int .i64 2, .slice (some ⟨g, 0, none⟩) 5 5], .slice (some ⟨W.heap.size, 0, none⟩) 1 1] (W.alloc (.cells #[.int .i64 (0)] 3)) (Ans (W.alloc (.cells #[.int .i64 (0)] 3)) (.tuple #[.bool false, .int .i64 0])) := by
  have h1 := explains_c (some ⟨g, 0, none⟩) (some ⟨W.heap.size, 0, none⟩) nightW [0] 5 1 2 _ (nx_w W g h 0) (ints_one W 0) (by decide) (by decide)
  rw [nk_a0, nk_e0] at h1
  exact h1
theorem nx_m2 : Calls Try.prog 30 #[.agg #[.int .i64 2, .slice (some ⟨g, 0, none⟩) 5 5], .slice (some ⟨W.heap.size, 0, none⟩) 1 1] (W.alloc (.cells #[.int .i64 (2)] 3)) (Ans (W.alloc (.cells #[.int .i64 (2)] 3)) (.tuple #[.int .i64 21, .int .i64 0])) := by
  have h1 := many_ok (some ⟨g, 0, none⟩) (some ⟨W.heap.size, 0, none⟩) nightW [2] 5 1 2 _ (nx_w W g h 2) (ints_one W 2) (by decide) (by decide) nk_x2
  rw [show (2 : Int).toNat = 2 from rfl, nk_m2] at h1
  exact h1
theorem nx_b : Calls Try.prog 35 #[.agg #[.int .i64 2, .slice (some ⟨g, 0, none⟩) 5 5]] W (Ans W (.tuple #[.int .i64 0, .int .i64 7])) := by
  have h1 := blame_ok (some ⟨g, 0, none⟩) nightW 5 2 W h (by decide) night_err
  rw [nk_bv, nk_be] at h1
  exact h1
def NSu (w : World) (e : Ending) (w' : World) : Prop := ∃ b o c, e = .returned (.tuple #[.slice (some ⟨b, o, none⟩) 1 c, .int .i64 0]) ∧ 1 ≤ c ∧ w'.cell? ⟨b, o, none⟩ = some (.int .i64 0) ∧ w'.cell? ⟨b, o + 1, none⟩ = some (.int .i64 0) ∧ Below w.heap.size w w'
theorem nx_s : Calls Try.prog 41 #[.agg #[.int .i64 2, .slice (some ⟨g, 0, none⟩) 5 5], .slice (some ⟨W.heap.size, 0, none⟩) 1 1] (W.alloc (.cells #[.int .i64 (1)] 3)) (NSu (W.alloc (.cells #[.int .i64 (1)] 3))) := by
  have h1 := sure_ok (some ⟨g, 0, none⟩) (some ⟨W.heap.size, 0, none⟩) nightW [1] 5 1 2 _ (nx_w W g h 1) (ints_one W 1) (by decide) (by decide) night_exe
  rw [show (2 : Int).toNat = 2 from rfl, nk_s1] at h1
  refine h1.mono ?_
  rintro e w' ⟨A', c', rfl, hO, hb⟩
  obtain ⟨i1, i2, i3⟩ := hO.rgs
  obtain ⟨b, o, rfl, _, hc⟩ := i3 (by decide)
  have c0 := hc 0 (by decide)
  exact ⟨b, o, c', rfl, i1, c0.1, c0.2, hb⟩
theorem nx_p1 : Calls Try.prog 46 #[.agg #[.int .i64 2, .slice (some ⟨g, 0, none⟩) 5 5], .slice (some ⟨W.heap.size, 0, none⟩) 1 1, .slice (some ⟨W.heap.size + 1 + 1 + 1, 0, none⟩) 2 2] ((((W.alloc (.cells #[.int .i64 (1)] 3)).alloc (.cells #[.int .i64 7, .int .i64 1] 3)).alloc (.cells #[.int .i64 10] 3)).alloc (.cells #[.slice (some ⟨W.heap.size + 1, 0, none⟩) 2 2, .slice (some ⟨W.heap.size + 1 + 1, 0, none⟩) 1 1] 25)) (Ans ((((W.alloc (.cells #[.int .i64 (1)] 3)).alloc (.cells #[.int .i64 7, .int .i64 1] 3)).alloc (.cells #[.int .i64 10] 3)).alloc (.cells #[.slice (some ⟨W.heap.size + 1, 0, none⟩) 2 2, .slice (some ⟨W.heap.size + 1 + 1, 0, none⟩) 1 1] 25)) (.bool true)) := by
  have hb : Below (W.alloc (.cells #[.int .i64 (1)] 3)).heap.size (W.alloc (.cells #[.int .i64 (1)] 3)) ((((W.alloc (.cells #[.int .i64 (1)] 3)).alloc (.cells #[.int .i64 7, .int .i64 1] 3)).alloc (.cells #[.int .i64 10] 3)).alloc (.cells #[.slice (some ⟨W.heap.size + 1, 0, none⟩) 2 2, .slice (some ⟨W.heap.size + 1 + 1, 0, none⟩) 1 1] 25)) := (((Below.refl _ _).alloc (Nat.le_refl _) _).alloc (by simp) _).alloc (by simp; try omega) _
  have h1 := prove_ok (some ⟨g, 0, none⟩) (some ⟨W.heap.size, 0, none⟩) (some ⟨W.heap.size + 1 + 1 + 1, 0, none⟩) nightW [1] [[7, 1], [10]] 5 1 2 2 ((((W.alloc (.cells #[.int .i64 (1)] 3)).alloc (.cells #[.int .i64 7, .int .i64 1] 3)).alloc (.cells #[.int .i64 10] 3)).alloc (.cells #[.slice (some ⟨W.heap.size + 1, 0, none⟩) 2 2, .slice (some ⟨W.heap.size + 1 + 1, 0, none⟩) 1 1] 25)) (Wds.step (nx_w W g h 1) hb) (Ints.step (ints_one W 1) hb) (grd_lit (W.alloc (.cells #[.int .i64 (1)] 3)) (W.heap.size + 1) (by simp) 7 1 10) (by decide) (by decide) (by decide) night_ask1
  rw [nk_p1] at h1
  exact h1
theorem nx_p2 : Calls Try.prog 46 #[.agg #[.int .i64 2, .slice (some ⟨g, 0, none⟩) 5 5], .slice (some ⟨W.heap.size, 0, none⟩) 1 1, .slice (some ⟨W.heap.size + 1 + 1 + 1, 0, none⟩) 2 2] ((((W.alloc (.cells #[.int .i64 (1)] 3)).alloc (.cells #[.int .i64 7, .int .i64 0] 3)).alloc (.cells #[.int .i64 10] 3)).alloc (.cells #[.slice (some ⟨W.heap.size + 1, 0, none⟩) 2 2, .slice (some ⟨W.heap.size + 1 + 1, 0, none⟩) 1 1] 25)) (Ans ((((W.alloc (.cells #[.int .i64 (1)] 3)).alloc (.cells #[.int .i64 7, .int .i64 0] 3)).alloc (.cells #[.int .i64 10] 3)).alloc (.cells #[.slice (some ⟨W.heap.size + 1, 0, none⟩) 2 2, .slice (some ⟨W.heap.size + 1 + 1, 0, none⟩) 1 1] 25)) (.bool false)) := by
  have hb : Below (W.alloc (.cells #[.int .i64 (1)] 3)).heap.size (W.alloc (.cells #[.int .i64 (1)] 3)) ((((W.alloc (.cells #[.int .i64 (1)] 3)).alloc (.cells #[.int .i64 7, .int .i64 0] 3)).alloc (.cells #[.int .i64 10] 3)).alloc (.cells #[.slice (some ⟨W.heap.size + 1, 0, none⟩) 2 2, .slice (some ⟨W.heap.size + 1 + 1, 0, none⟩) 1 1] 25)) := (((Below.refl _ _).alloc (Nat.le_refl _) _).alloc (by simp) _).alloc (by simp; try omega) _
  have h1 := prove_ok (some ⟨g, 0, none⟩) (some ⟨W.heap.size, 0, none⟩) (some ⟨W.heap.size + 1 + 1 + 1, 0, none⟩) nightW [1] [[7, 0], [10]] 5 1 2 2 ((((W.alloc (.cells #[.int .i64 (1)] 3)).alloc (.cells #[.int .i64 7, .int .i64 0] 3)).alloc (.cells #[.int .i64 10] 3)).alloc (.cells #[.slice (some ⟨W.heap.size + 1, 0, none⟩) 2 2, .slice (some ⟨W.heap.size + 1 + 1, 0, none⟩) 1 1] 25)) (Wds.step (nx_w W g h 1) hb) (Ints.step (ints_one W 1) hb) (grd_lit (W.alloc (.cells #[.int .i64 (1)] 3)) (W.heap.size + 1) (by simp) 7 0 10) (by decide) (by decide) (by decide) night_ask1
  rw [nk_p2] at h1
  exact h1
theorem nx_p3 : Calls Try.prog 46 #[.agg #[.int .i64 2, .slice (some ⟨g, 0, none⟩) 5 5], .slice (some ⟨W.heap.size, 0, none⟩) 1 1, .slice (some ⟨W.heap.size + 1 + 1 + 1, 0, none⟩) 2 2] ((((W.alloc (.cells #[.int .i64 (1)] 3)).alloc (.cells #[.int .i64 7, .int .i64 1] 3)).alloc (.cells #[.int .i64 10, .int .i64 0] 3)).alloc (.cells #[.slice (some ⟨W.heap.size + 1, 0, none⟩) 2 2, .slice (some ⟨W.heap.size + 1 + 1, 0, none⟩) 2 2] 25)) (Ans ((((W.alloc (.cells #[.int .i64 (1)] 3)).alloc (.cells #[.int .i64 7, .int .i64 1] 3)).alloc (.cells #[.int .i64 10, .int .i64 0] 3)).alloc (.cells #[.slice (some ⟨W.heap.size + 1, 0, none⟩) 2 2, .slice (some ⟨W.heap.size + 1 + 1, 0, none⟩) 2 2] 25)) (.bool false)) := by
  have hb : Below (W.alloc (.cells #[.int .i64 (1)] 3)).heap.size (W.alloc (.cells #[.int .i64 (1)] 3)) ((((W.alloc (.cells #[.int .i64 (1)] 3)).alloc (.cells #[.int .i64 7, .int .i64 1] 3)).alloc (.cells #[.int .i64 10, .int .i64 0] 3)).alloc (.cells #[.slice (some ⟨W.heap.size + 1, 0, none⟩) 2 2, .slice (some ⟨W.heap.size + 1 + 1, 0, none⟩) 2 2] 25)) := (((Below.refl _ _).alloc (Nat.le_refl _) _).alloc (by simp) _).alloc (by simp; try omega) _
  have h1 := prove_ok (some ⟨g, 0, none⟩) (some ⟨W.heap.size, 0, none⟩) (some ⟨W.heap.size + 1 + 1 + 1, 0, none⟩) nightW [1] [[7, 1], [10, 0]] 5 1 2 2 ((((W.alloc (.cells #[.int .i64 (1)] 3)).alloc (.cells #[.int .i64 7, .int .i64 1] 3)).alloc (.cells #[.int .i64 10, .int .i64 0] 3)).alloc (.cells #[.slice (some ⟨W.heap.size + 1, 0, none⟩) 2 2, .slice (some ⟨W.heap.size + 1 + 1, 0, none⟩) 2 2] 25)) (Wds.step (nx_w W g h 1) hb) (Ints.step (ints_one W 1) hb) (grd_lit2 (W.alloc (.cells #[.int .i64 (1)] 3)) (W.heap.size + 1) (by simp) 7 1 10 0) (by decide) (by decide) (by decide) night_ask1
  rw [nk_p3] at h1
  exact h1
theorem nx_p4 : Calls Try.prog 46 #[.agg #[.int .i64 2, .slice (some ⟨g, 0, none⟩) 5 5], .slice none 0 0, .slice (some ⟨W.heap.size + 1 + 1, 0, none⟩) 2 2] (((W.alloc (.cells #[.int .i64 7, .int .i64 1] 3)).alloc (.cells #[.int .i64 10] 3)).alloc (.cells #[.slice (some ⟨W.heap.size, 0, none⟩) 2 2, .slice (some ⟨W.heap.size + 1, 0, none⟩) 1 1] 25)) (Ans (((W.alloc (.cells #[.int .i64 7, .int .i64 1] 3)).alloc (.cells #[.int .i64 10] 3)).alloc (.cells #[.slice (some ⟨W.heap.size, 0, none⟩) 2 2, .slice (some ⟨W.heap.size + 1, 0, none⟩) 1 1] 25)) (.bool false)) := by
  have hb : Below W.heap.size W (((W.alloc (.cells #[.int .i64 7, .int .i64 1] 3)).alloc (.cells #[.int .i64 10] 3)).alloc (.cells #[.slice (some ⟨W.heap.size, 0, none⟩) 2 2, .slice (some ⟨W.heap.size + 1, 0, none⟩) 1 1] 25)) := (((Below.refl _ _).alloc (Nat.le_refl _) _).alloc (by simp) _).alloc (by simp; try omega) _
  have h1 := prove_ok (some ⟨g, 0, none⟩) none (some ⟨W.heap.size + 1 + 1, 0, none⟩) nightW [] [[7, 1], [10]] 5 0 2 2 (((W.alloc (.cells #[.int .i64 7, .int .i64 1] 3)).alloc (.cells #[.int .i64 10] 3)).alloc (.cells #[.slice (some ⟨W.heap.size, 0, none⟩) 2 2, .slice (some ⟨W.heap.size + 1, 0, none⟩) 1 1] 25)) (Wds.step h hb) (fun hp => by simp at hp) (grd_lit W (W.heap.size) (by simp) 7 1 10) (by decide) (by decide) (by decide) night_ask0
  rw [nk_p4] at h1
  exact h1
theorem nx_e11 : Calls Try.prog 21 #[.agg #[.int .i64 2, .slice (some ⟨g, 0, none⟩) 5 5], .slice (some ⟨W.heap.size, 0, none⟩) 2 2] (W.alloc (.cells #[.int .i64 1, .int .i64 1] 3)) (Ans (W.alloc (.cells #[.int .i64 1, .int .i64 1] 3)) (.tuple #[.bool false, .int .i64 2])) := by
  have h1 := explains_c (some ⟨g, 0, none⟩) (some ⟨W.heap.size, 0, none⟩) nightW [1, 1] 5 2 2 _ (h.step ((Below.refl _ _).alloc (Nat.le_refl _) _)) (ints_two W 1 1) (by decide) (by decide)
  rw [nk_a11] at h1
  exact h1
theorem nx_r4 : Calls Try.prog 26 #[.agg #[.int .i64 2, .slice (some ⟨g, 0, none⟩) 5 5], .slice (some ⟨W.heap.size, 0, none⟩) 1 1] (W.alloc (.cells #[.int .i64 (4)] 3)) (Ans (W.alloc (.cells #[.int .i64 (4)] 3)) (.tuple #[.slice none 0 0, .agg #[.int .i64 0, .int .i64 0], .int .i64 2])) := by
  have h1 := ranges_bad (some ⟨g, 0, none⟩) (some ⟨W.heap.size, 0, none⟩) nightW [4] 5 1 2 _ (nx_w W g h 4) (ints_one W 4) (by decide) (by decide) (by rw [nk_x4]; decide)
  rw [nk_x4] at h1
  exact h1
theorem nx_m : Calls Try.prog 30 #[.agg #[.int .i64 2, .slice (some ⟨g, 0, none⟩) 5 5], .slice none 0 0] W (Ans W (.tuple #[.int .i64 0, .int .i64 9])) := by
  have h1 := many_bad (some ⟨g, 0, none⟩) none nightW [] 5 0 2 W h (fun hp => by simp at hp) (by decide) (by decide) (by rw [nk_x]; decide)
  rw [nk_x] at h1
  exact h1
theorem nx_s0 : Calls Try.prog 41 #[.agg #[.int .i64 2, .slice (some ⟨g, 0, none⟩) 5 5], .slice (some ⟨W.heap.size, 0, none⟩) 1 1] (W.alloc (.cells #[.int .i64 (0)] 3)) (Ans (W.alloc (.cells #[.int .i64 (0)] 3)) (.tuple #[.slice none 0 0, .int .i64 9])) := by
  have h1 := sure_bad (some ⟨g, 0, none⟩) (some ⟨W.heap.size, 0, none⟩) nightW [0] 5 1 2 _ (nx_w W g h 0) (ints_one W 0) (by decide) (by decide) (by rw [nk_x0]; decide)
  rw [nk_x0] at h1
  exact h1
end
theorem nx_m5 (W : World) : Calls Try.prog 30 #[.agg #[.int .i64 5, .slice none 0 0], .slice none 0 0] W (Ans W (.tuple #[.int .i64 1252332576, .int .i64 0])) := by
  have h1 := many_ok none none [] [] 0 0 5 W (wds_nil _ _) (fun hp => by simp at hp) (by decide) (by decide) nk_x5
  rw [show (5 : Int).toNat = 5 from rfl, nk_m5] at h1
  exact h1
theorem nx_l0 (W : World) : Calls Try.prog 19 #[.agg #[.int .i64 0, .slice none 0 0]] W (Ans W (.int .i64 1)) := by
  have h1 := checkLane_c (B := W.heap.size) none [] 0 0 W (Nat.le_refl _) (wds_nil _ _) (by decide)
  rw [nk_l0] at h1
  exact h1

set_option maxRecDepth 100000 in
set_option maxHeartbeats 32000000 in
theorem seenNames_c (w : World) : Calls Try.prog 16 #[] w (Ans w (.bool true)) := by
  have HN := Lib.hid night2_c
  have HWK := Lib.hid wakes_c
  have HB : Hid (Below w.heap.size w w) := Below.refl _ _
  go_enter Try.func16, Try.ntmps16
  go_wp2_with fail
  refine (HN.out _).mono ?_
  rintro e y1 ⟨g1, rfl, ho, hb⟩
  obtain ⟨-, -, ho⟩ := ho.wds
  have HW := Lib.hid ho
  clear ho
  replace HB := Lib.hid (HB.out.trans (hb.mono HB.out.size))
  clear hb
  go_wp2_with fail
  refine (nx_e0 _ _ HW.out).mono ?_
  rintro e y2 ⟨rfl, hb⟩
  replace hb : Below y1.heap.size y1 y2 := (show Below y1.heap.size y1 (y1.alloc (.cells #[.int .i64 (0)] 3)) from ((Below.refl _ _).alloc (by simp; try omega) _)).trans (hb.mono (by simp; try omega))
  replace HB := Lib.hid (HB.out.trans (hb.mono HB.out.size))
  clear hb
  clear HW
  go_wp2_with fail
  refine (HN.out _).mono ?_
  rintro e y3 ⟨g2, rfl, ho, hb⟩
  obtain ⟨-, -, ho⟩ := ho.wds
  have HW := Lib.hid ho
  clear ho
  replace HB := Lib.hid (HB.out.trans (hb.mono HB.out.size))
  clear hb
  go_wp2_with fail
  refine (nx_m2 _ _ HW.out).mono ?_
  rintro e y4 ⟨rfl, hb⟩
  replace hb : Below y3.heap.size y3 y4 := (show Below y3.heap.size y3 (y3.alloc (.cells #[.int .i64 (2)] 3)) from ((Below.refl _ _).alloc (by simp; try omega) _)).trans (hb.mono (by simp; try omega))
  replace HB := Lib.hid (HB.out.trans (hb.mono HB.out.size))
  clear hb
  clear HW
  go_wp2_with fail
  refine (HN.out _).mono ?_
  rintro e y5 ⟨g3, rfl, ho, hb⟩
  obtain ⟨-, -, ho⟩ := ho.wds
  have HW := Lib.hid ho
  clear ho
  replace HB := Lib.hid (HB.out.trans (hb.mono HB.out.size))
  clear hb
  go_wp2_with fail
  refine (nx_b _ _ HW.out).mono ?_
  rintro e y6 ⟨rfl, hb⟩
  replace HB := Lib.hid (HB.out.trans (hb.mono HB.out.size))
  clear hb
  clear HW
  go_wp2_with fail
  refine (HN.out _).mono ?_
  rintro e y7 ⟨g4, rfl, ho, hb⟩
  obtain ⟨-, -, ho⟩ := ho.wds
  have HW := Lib.hid ho
  clear ho
  replace HB := Lib.hid (HB.out.trans (hb.mono HB.out.size))
  clear hb
  go_wp2_with fail
  refine (nx_s _ _ HW.out).mono ?_
  rintro e y8 ⟨bp, op, cp, rfl, hcp, r0, r1, hb⟩
  replace hb : Below y7.heap.size y7 y8 := (show Below y7.heap.size y7 (y7.alloc (.cells #[.int .i64 (1)] 3)) from ((Below.refl _ _).alloc (by simp; try omega) _)).trans (hb.mono (by simp; try omega))
  replace HB := Lib.hid (HB.out.trans (hb.mono HB.out.size))
  clear hb
  clear HW
  go_wp2_with fail
  refine (HN.out _).mono ?_
  rintro e y9 ⟨g5, rfl, ho, hbn⟩
  have hsn := hbn.size
  have HO := Lib.hid ho
  have hg5 := World.ownsRow.lt ho g5 rfl
  clear ho
  go_upto_region 6 with fail
  have y0 : (y9.alloc (.cells #[.int .i64 2, .slice (some ⟨g5, 0, none⟩) 5 5] 32)).cell? ⟨y9.heap.size, 0, none⟩ = some (.int .i64 2) := by simp
  have y1 : (y9.alloc (.cells #[.int .i64 2, .slice (some ⟨g5, 0, none⟩) 5 5] 32)).cell? ⟨y9.heap.size, 1, none⟩ = some (.slice (some ⟨g5, 0, none⟩) 5 5) := by simp
  have hbl : (y9.alloc (.cells #[.int .i64 2, .slice (some ⟨g5, 0, none⟩) 5 5] 32)).heap[y9.heap.size]? = some (.cells #[.int .i64 2, .slice (some ⟨g5, 0, none⟩) 5 5] 32 (0, 0)) := World.alloc_heap_new _ _
  have hbm : Below y8.heap.size y8 (y9.alloc (.cells #[.int .i64 2, .slice (some ⟨g5, 0, none⟩) 5 5] 32)) := hbn.alloc hsn _
  replace HO := Lib.hid (OwnW.step HO.out ((Below.refl _ _).alloc (Nat.le_refl _) (.cells #[.int .i64 2, .slice (some ⟨g5, 0, none⟩) 5 5] 32)))
  have hqm : g5 ≠ y9.heap.size := by omega
  generalize (y9.alloc (.cells #[.int .i64 2, .slice (some ⟨g5, 0, none⟩) 5 5] 32)) = wm at HO y0 y1 hbl hbm ⊢
  generalize y9.heap.size = qm at *
  clear hbn
  refine wp_region_noPanic ?_
  have hS : (fun w' : World => Below y8.heap.size y8 w' ∧ w'.heap[qm]? = some (.cells #[.int .i64 2, .slice (some ⟨g5, 0, none⟩) 5 5] 32 (0, 0))) wm.drew := ⟨hbm.drew, hbl⟩
  refine wp_region_any (by kernel_rfl) (wpAny_of_T (S := fun w' : World => Below y8.heap.size y8 w' ∧ w'.heap[qm]? = some (.cells #[.int .i64 2, .slice (some ⟨g5, 0, none⟩) 5 5] 32 (0, 0))) (m := 6) _ _ _ _ ?_)
  have hX0 := hS.1
  have hQ0 := hS.2
  replace HO := Lib.hid (OwnW.step HO.out (Below.refl _ _).drew)
  change wpAnyT _ _ _ _ _ _ _ _ _ wm.drew
  generalize wm.drew = wv0 at *
  refine' T_take (i := 0) (v := _) rfl (by kernel_rfl) (by kernel_rfl) (by kernel_rfl) (by kernel_rfl) (fun _ _ _ h => h) (by rfl) hS ?_ ?_
  rotate_left 1
  · intro Wv hW
    have l1 : Wv.cell? ⟨qm, 1, none⟩ = some (.slice (some ⟨g5, 0, none⟩) 5 5) := by have := hW.2; simp [World.cell?, this]
    go_simp
    first | done | with_reducible rfl
  try simp only [Act.put, List.setIfInBounds_toArray, List.set_cons_zero, List.set_cons_succ]
  refine' T_take (i := 1) (v := _) rfl (by kernel_rfl) (by kernel_rfl) (by kernel_rfl) (by kernel_rfl) (fun _ _ _ h => h) (by rfl) hS ?_ ?_
  rotate_left 1
  · intro Wv hW
    have l1 : Wv.cell? ⟨qm, 1, none⟩ = some (.slice (some ⟨g5, 0, none⟩) 5 5) := by have := hW.2; simp [World.cell?, this]
    go_simp
    first | done | with_reducible rfl
  try simp only [Act.put, List.setIfInBounds_toArray, List.set_cons_zero, List.set_cons_succ]
  refine T_ready (rs := [2]) (by kernel_rfl) (by simp) ?_
  refine TReady.cons rfl (fun K hK => ?_) TReady.nil
  try go_simp
  refine (word50_c _ _ _ _ _ _).mono ?_
  rintro e wv2 ⟨rfl, hb⟩
  have hX2 := hX0.trans (hb.mono hX0.size)
  have hQ2 := (hb.block qm (Array.getElem?_eq_some_iff.1 hQ0).1).trans hQ0
  replace HO := Lib.hid (OwnW.step HO.out hb)
  clear hb
  try go_simp
  refine hK.out _ _ (fun _ => ⟨hX2, hQ2⟩) (fun hS => ?_)
  replace hS := hS (by decide)
  clear hK K
  try simp only [Act.put, List.setIfInBounds_toArray, List.set_cons_zero, List.set_cons_succ]
  refine T_ready (rs := [3]) (by kernel_rfl) (by simp) ?_
  refine TReady.cons rfl (fun K hK => ?_) TReady.nil
  try go_simp
  have hb : Below wv2.heap.size wv2 (wv2.alloc (.cells #[.int .i64 0, .int .i64 1, .int .i64 1, .int .i64 9, .int .i64 9] 85)) := (Below.refl _ _).alloc (Nat.le_refl _) _
  have hX3 := hX2.trans (hb.mono hX2.size)
  have hQ3 := (hb.block qm (Array.getElem?_eq_some_iff.1 hQ2).1).trans hQ2
  replace HO := Lib.hid (OwnW.step HO.out hb)
  have HS := Lib.hid (src_word wv2 ⟨0, 1, 1, 9, 9⟩ 85)
  clear hb
  refine hK.out _ _ (fun _ => ⟨hX3, hQ3⟩) (fun hS => ?_)
  replace hS := hS (by decide)
  clear hK K
  try simp only [Act.put, List.setIfInBounds_toArray, List.set_cons_zero, List.set_cons_succ]
  generalize (wv2.alloc (.cells #[.int .i64 0, .int .i64 1, .int .i64 1, .int .i64 9, .int .i64 9] 85)) = wv3 at *
  generalize wv2.heap.size = q2 at *
  refine T_ready (rs := [4]) (by kernel_rfl) (by simp) ?_
  refine TReady.cons rfl (fun K hK => ?_) TReady.nil
  refine step_wordsO (.tmp 41) (.tmp 43) rfl rfl y8.heap.size _ (.slice (some ⟨g5, 0, none⟩) 5 5) nightW [⟨0, 1, 1, 9, 9⟩] moreW (some ⟨q2, 0, none⟩) 1 1 rfl rfl rfl rfl HO HS.out (by decide) (by decide) hX3.size ?_
  intro A6 c6 wv4 HA
  have hX4 := hX3.grown HA.out.grw hX3.size (fun j ej => (World.ownsRow.lt HO.out j ej).1)
  have hQ4 := (HA.out.grw.block qm (Array.getElem?_eq_some_iff.1 hQ3).1 (fun e => hqm (by injection e with e; exact e.symm))).trans hQ3
  refine hK.out _ _ (fun _ => ⟨hX4, hQ4⟩) (fun hS => ?_)
  replace hS := hS (by decide)
  clear hK K
  try simp only [Act.put, List.setIfInBounds_toArray, List.set_cons_zero, List.set_cons_succ]
  refine' T_take (i := 5) (v := _) rfl (by kernel_rfl) (by kernel_rfl) (by kernel_rfl) (by kernel_rfl) (fun _ _ _ h => h) (by rfl) hS ?_ ?_
  rotate_left 1
  · intro Wv hW
    have l1 : Wv.cell? ⟨qm, 1, none⟩ = some (.slice (some ⟨g5, 0, none⟩) 5 5) := by have := hW.2; simp [World.cell?, this]
    go_simp
    first | done | with_reducible rfl
  try simp only [Act.put, List.setIfInBounds_toArray, List.set_cons_zero, List.set_cons_succ]
  refine T_ready (rs := [6]) (by kernel_rfl) (by simp) ?_
  refine TReady.cons rfl (fun K hK => ?_) TReady.nil
  have z0 : wv4.cell? ⟨qm, 1, none⟩ = some (.slice (some ⟨g5, 0, none⟩) 5 5) := by simp [World.cell?, hQ4]
  have z1 : wv4.frozen? ⟨qm, 1, none⟩ = false := by simp [World.frozen?, hQ4]
  try go_simp
  refine hK.out _ _ (fun h => absurd h (by decide)) (fun hS => ?_)
  clear hK K hS
  try simp only [Act.put, List.setIfInBounds_toArray, List.set_cons_zero, List.set_cons_succ]
  refine T_done (by kernel_rfl) ?_ _
  refine NoPanic.normal ?_
  have hb : Below y8.heap.size y8 (wv4.setCell ⟨qm, 1, none⟩ (.slice A6 moreW.length c6)) := hX4.setCell (by dsimp only; omega) _
  have hbf : (wv4.setCell ⟨qm, 1, none⟩ (.slice A6 moreW.length c6)).heap[qm]? = some (.cells #[.int .i64 2, .slice A6 moreW.length c6] 32 (0, 0)) := by simp [World.setCell, Array.getElem?_modify, hQ4]
  have HOF : Hid (OwnW 85 y8.heap.size (wv4.setCell ⟨qm, 1, none⟩ (.slice A6 moreW.length c6)) (.slice A6 moreW.length c6) moreW) := World.ownsRow.kept HA.out.own (only_setCell (World.grownBy.refl wv4 (some qm)) (.inl rfl) _) (by
    rcases HA.out.alt with e | e
    · exact .inr (fun e' => hqm (by rw [e] at e'; simpa [Value.ownBlock] using e'))
    · refine .inr (fun e' => ?_)
      rw [e] at e'
      have hq9 := (Array.getElem?_eq_some_iff.1 hQ3).1
      simp at e'
      omega)
  obtain ⟨hc61, hc62, hwf⟩ := HOF.out.wds
  have HW := Lib.hid hwf
  have x0 : (wv4.setCell ⟨qm, 1, none⟩ (.slice A6 moreW.length c6)).cell? ⟨qm, 0, none⟩ = some (.int .i64 2) := by simp [World.cell?, hbf]
  have x1 : (wv4.setCell ⟨qm, 1, none⟩ (.slice A6 moreW.length c6)).cell? ⟨qm, 1, none⟩ = some (.slice A6 moreW.length c6) := by simp [World.cell?, hbf]
  replace r0 := cell_of_ans hb r0
  replace r1 := cell_of_ans hb r1
  replace HB := Lib.hid (HB.out.trans (hb.mono HB.out.size))
  clear hb
  clear HOF hwf hbf HA HO HS hX4 hQ4 hX3 hQ3 hX2 hQ2 hX0 hQ0 z0 z1 hbl hbm y0 y1
  generalize (wv4.setCell ⟨qm, 1, none⟩ (.slice A6 moreW.length c6)) = y10 at *
  go_wp2_with fail
  have HBM := Lib.hid (blame_ok A6 moreW c6 2 y10 HW.out ⟨hc61, hc62⟩ nk_l)
  rw [nk_mv, nk_me] at HBM
  clear x0 x1
  refine (HBM.out).mono ?_
  rintro e y11 ⟨rfl, hb⟩
  replace r0 := cell_of_ans hb r0
  replace r1 := cell_of_ans hb r1
  replace HB := Lib.hid (HB.out.trans (hb.mono HB.out.size))
  clear hb
  clear HW
  clear HBM
  have n74 : ∀ W, (binOp .neq 74 (.agg #[.int .i64 0, .int .i64 0]) (.agg #[.int .i64 0, .int .i64 0])).run Try.prog W = .ok (.bool false) W := fun W => by kernel_rfl
  go_wp2_with fail
  refine (HN.out _).mono ?_
  rintro e y12 ⟨h0, rfl, ho, hb⟩
  obtain ⟨-, -, ho⟩ := ho.wds
  have HW := Lib.hid ho
  clear ho
  replace r0 := cell_of_ans hb r0
  replace r1 := cell_of_ans hb r1
  replace HB := Lib.hid (HB.out.trans (hb.mono HB.out.size))
  clear hb
  go_wp2_with fail
  refine (nx_p1 _ _ HW.out).mono ?_
  rintro e y13 ⟨rfl, hb⟩
  replace hb : Below y12.heap.size y12 y13 := (show Below y12.heap.size y12 ((((y12.alloc (.cells #[.int .i64 (1)] 3)).alloc (.cells #[.int .i64 7, .int .i64 1] 3)).alloc (.cells #[.int .i64 10] 3)).alloc (.cells #[.slice (some ⟨y12.heap.size + 1, 0, none⟩) 2 2, .slice (some ⟨y12.heap.size + 1 + 1, 0, none⟩) 1 1] 25)) from (((((Below.refl _ _).alloc (by simp; try omega) _).alloc (by simp; try omega) _).alloc (by simp; try omega) _).alloc (by simp; try omega) _)).trans (hb.mono (by simp; try omega))
  replace r0 := cell_of_ans hb r0
  replace r1 := cell_of_ans hb r1
  replace HB := Lib.hid (HB.out.trans (hb.mono HB.out.size))
  clear hb
  clear HW
  go_wp2_with fail
  refine (HN.out _).mono ?_
  rintro e y14 ⟨h1, rfl, ho, hb⟩
  obtain ⟨-, -, ho⟩ := ho.wds
  have HW := Lib.hid ho
  clear ho
  replace r0 := cell_of_ans hb r0
  replace r1 := cell_of_ans hb r1
  replace HB := Lib.hid (HB.out.trans (hb.mono HB.out.size))
  clear hb
  go_wp2_with fail
  refine (nx_p2 _ _ HW.out).mono ?_
  rintro e y15 ⟨rfl, hb⟩
  replace hb : Below y14.heap.size y14 y15 := (show Below y14.heap.size y14 ((((y14.alloc (.cells #[.int .i64 (1)] 3)).alloc (.cells #[.int .i64 7, .int .i64 0] 3)).alloc (.cells #[.int .i64 10] 3)).alloc (.cells #[.slice (some ⟨y14.heap.size + 1, 0, none⟩) 2 2, .slice (some ⟨y14.heap.size + 1 + 1, 0, none⟩) 1 1] 25)) from (((((Below.refl _ _).alloc (by simp; try omega) _).alloc (by simp; try omega) _).alloc (by simp; try omega) _).alloc (by simp; try omega) _)).trans (hb.mono (by simp; try omega))
  replace r0 := cell_of_ans hb r0
  replace r1 := cell_of_ans hb r1
  replace HB := Lib.hid (HB.out.trans (hb.mono HB.out.size))
  clear hb
  clear HW
  go_wp2_with fail
  refine (HN.out _).mono ?_
  rintro e y16 ⟨h2, rfl, ho, hb⟩
  obtain ⟨-, -, ho⟩ := ho.wds
  have HW := Lib.hid ho
  clear ho
  replace r0 := cell_of_ans hb r0
  replace r1 := cell_of_ans hb r1
  replace HB := Lib.hid (HB.out.trans (hb.mono HB.out.size))
  clear hb
  go_wp2_with fail
  refine (nx_p3 _ _ HW.out).mono ?_
  rintro e y17 ⟨rfl, hb⟩
  replace hb : Below y16.heap.size y16 y17 := (show Below y16.heap.size y16 ((((y16.alloc (.cells #[.int .i64 (1)] 3)).alloc (.cells #[.int .i64 7, .int .i64 1] 3)).alloc (.cells #[.int .i64 10, .int .i64 0] 3)).alloc (.cells #[.slice (some ⟨y16.heap.size + 1, 0, none⟩) 2 2, .slice (some ⟨y16.heap.size + 1 + 1, 0, none⟩) 2 2] 25)) from (((((Below.refl _ _).alloc (by simp; try omega) _).alloc (by simp; try omega) _).alloc (by simp; try omega) _).alloc (by simp; try omega) _)).trans (hb.mono (by simp; try omega))
  replace r0 := cell_of_ans hb r0
  replace r1 := cell_of_ans hb r1
  replace HB := Lib.hid (HB.out.trans (hb.mono HB.out.size))
  clear hb
  clear HW
  go_wp2_with fail
  refine (HN.out _).mono ?_
  rintro e y18 ⟨h3, rfl, ho, hb⟩
  obtain ⟨-, -, ho⟩ := ho.wds
  have HW := Lib.hid ho
  clear ho
  replace r0 := cell_of_ans hb r0
  replace r1 := cell_of_ans hb r1
  replace HB := Lib.hid (HB.out.trans (hb.mono HB.out.size))
  clear hb
  go_wp2_with fail
  refine (nx_p4 _ _ HW.out).mono ?_
  rintro e y19 ⟨rfl, hb⟩
  replace hb : Below y18.heap.size y18 y19 := (show Below y18.heap.size y18 (((y18.alloc (.cells #[.int .i64 7, .int .i64 1] 3)).alloc (.cells #[.int .i64 10] 3)).alloc (.cells #[.slice (some ⟨y18.heap.size, 0, none⟩) 2 2, .slice (some ⟨y18.heap.size + 1, 0, none⟩) 1 1] 25)) from ((((Below.refl _ _).alloc (by simp; try omega) _).alloc (by simp; try omega) _).alloc (by simp; try omega) _)).trans (hb.mono (by simp; try omega))
  replace r0 := cell_of_ans hb r0
  replace r1 := cell_of_ans hb r1
  replace HB := Lib.hid (HB.out.trans (hb.mono HB.out.size))
  clear hb
  clear HW
  clear r0 r1
  go_wp2_with fail
  refine (HN.out _).mono ?_
  rintro e y20 ⟨i1, rfl, ho, hb⟩
  obtain ⟨-, -, ho⟩ := ho.wds
  have HW := Lib.hid ho
  clear ho
  replace HB := Lib.hid (HB.out.trans (hb.mono HB.out.size))
  clear hb
  go_wp2_with fail
  refine (nx_e11 _ _ HW.out).mono ?_
  rintro e y21 ⟨rfl, hb⟩
  replace hb : Below y20.heap.size y20 y21 := (show Below y20.heap.size y20 (y20.alloc (.cells #[.int .i64 1, .int .i64 1] 3)) from ((Below.refl _ _).alloc (by simp; try omega) _)).trans (hb.mono (by simp; try omega))
  replace HB := Lib.hid (HB.out.trans (hb.mono HB.out.size))
  clear hb
  clear HW
  go_wp2_with fail
  refine (HN.out _).mono ?_
  rintro e y22 ⟨i2, rfl, ho, hb⟩
  obtain ⟨-, -, ho⟩ := ho.wds
  have HW := Lib.hid ho
  clear ho
  replace HB := Lib.hid (HB.out.trans (hb.mono HB.out.size))
  clear hb
  go_wp2_with fail
  refine (nx_r4 _ _ HW.out).mono ?_
  rintro e y23 ⟨rfl, hb⟩
  replace hb : Below y22.heap.size y22 y23 := (show Below y22.heap.size y22 (y22.alloc (.cells #[.int .i64 (4)] 3)) from ((Below.refl _ _).alloc (by simp; try omega) _)).trans (hb.mono (by simp; try omega))
  replace HB := Lib.hid (HB.out.trans (hb.mono HB.out.size))
  clear hb
  clear HW
  go_wp2_with fail
  refine (HN.out _).mono ?_
  rintro e y24 ⟨i3, rfl, ho, hb⟩
  obtain ⟨-, -, ho⟩ := ho.wds
  have HW := Lib.hid ho
  clear ho
  replace HB := Lib.hid (HB.out.trans (hb.mono HB.out.size))
  clear hb
  go_wp2_with fail
  refine (nx_m _ _ HW.out).mono ?_
  rintro e y25 ⟨rfl, hb⟩
  replace HB := Lib.hid (HB.out.trans (hb.mono HB.out.size))
  clear hb
  clear HW
  go_wp2_with fail
  refine (HN.out _).mono ?_
  rintro e y26 ⟨i4, rfl, ho, hb⟩
  obtain ⟨-, -, ho⟩ := ho.wds
  have HW := Lib.hid ho
  clear ho
  replace HB := Lib.hid (HB.out.trans (hb.mono HB.out.size))
  clear hb
  go_wp2_with fail
  refine (nx_s0 _ _ HW.out).mono ?_
  rintro e y27 ⟨rfl, hb⟩
  replace hb : Below y26.heap.size y26 y27 := (show Below y26.heap.size y26 (y26.alloc (.cells #[.int .i64 (0)] 3)) from ((Below.refl _ _).alloc (by simp; try omega) _)).trans (hb.mono (by simp; try omega))
  replace HB := Lib.hid (HB.out.trans (hb.mono HB.out.size))
  clear hb
  clear HW
  go_wp2_with fail
  refine (HN.out _).mono ?_
  rintro e y28 ⟨ga, rfl, -, hb⟩
  replace HB := Lib.hid (HB.out.trans (hb.mono HB.out.size))
  clear hb
  have HW9 := HB.out.size
  go_wp2_with fail
  refine (HN.out _).mono ?_
  rintro e y29 ⟨gb, rfl, ho, hb⟩
  have hgb := World.ownsRow.lt ho gb rfl
  have HOb := Lib.hid ho
  have hsb := hb.size
  clear ho
  replace HB := Lib.hid (HB.out.trans (hb.mono HB.out.size))
  clear hb
  go_wp2_with fail
  refine (HN.out _).mono ?_
  rintro e y30 ⟨gc, rfl, ho, hb⟩
  have hgc := World.ownsRow.lt ho gc rfl
  have HOc := Lib.hid ho
  replace HOb := Lib.hid (OwnW.step HOb.out hb)
  have hsc := hb.size
  clear ho
  replace HB := Lib.hid (HB.out.trans (hb.mono HB.out.size))
  clear hb
  go_upto_region 15 with fail
  have hb : Below y30.heap.size y30 (((y30.alloc (.cells #[.int .i64 2, .slice (some ⟨ga, 0, none⟩) 5 5] 32)).alloc (.cells #[.int .i64 2, .slice (some ⟨gb, 0, none⟩) 5 5] 32)).alloc (.cells #[.int .i64 2, .slice (some ⟨gc, 0, none⟩) 5 5] 32)) := (((Below.refl _ _).alloc (Nat.le_refl _) _).alloc (by simp) _).alloc (by simp; omega) _
  have bA : (((y30.alloc (.cells #[.int .i64 2, .slice (some ⟨ga, 0, none⟩) 5 5] 32)).alloc (.cells #[.int .i64 2, .slice (some ⟨gb, 0, none⟩) 5 5] 32)).alloc (.cells #[.int .i64 2, .slice (some ⟨gc, 0, none⟩) 5 5] 32)).heap[y30.heap.size]? = some (.cells #[.int .i64 2, .slice (some ⟨ga, 0, none⟩) 5 5] 32 (0, 0)) := by
    rw [heap_alloc_old _ _ (by simp; omega), heap_alloc_old _ _ (by simp)]
    exact World.alloc_heap_new _ _
  have bB : (((y30.alloc (.cells #[.int .i64 2, .slice (some ⟨ga, 0, none⟩) 5 5] 32)).alloc (.cells #[.int .i64 2, .slice (some ⟨gb, 0, none⟩) 5 5] 32)).alloc (.cells #[.int .i64 2, .slice (some ⟨gc, 0, none⟩) 5 5] 32)).heap[y30.heap.size + 1]? = some (.cells #[.int .i64 2, .slice (some ⟨gb, 0, none⟩) 5 5] 32 (0, 0)) := by
    rw [heap_alloc_old _ _ (by simp)]
    have := World.alloc_heap_new (y30.alloc (.cells #[.int .i64 2, .slice (some ⟨ga, 0, none⟩) 5 5] 32)) (.cells #[.int .i64 2, .slice (some ⟨gb, 0, none⟩) 5 5] 32)
    rwa [World.size_alloc] at this
  have bC : (((y30.alloc (.cells #[.int .i64 2, .slice (some ⟨ga, 0, none⟩) 5 5] 32)).alloc (.cells #[.int .i64 2, .slice (some ⟨gb, 0, none⟩) 5 5] 32)).alloc (.cells #[.int .i64 2, .slice (some ⟨gc, 0, none⟩) 5 5] 32)).heap[y30.heap.size + 1 + 1]? = some (.cells #[.int .i64 2, .slice (some ⟨gc, 0, none⟩) 5 5] 32 (0, 0)) := by
    have := World.alloc_heap_new ((y30.alloc (.cells #[.int .i64 2, .slice (some ⟨ga, 0, none⟩) 5 5] 32)).alloc (.cells #[.int .i64 2, .slice (some ⟨gb, 0, none⟩) 5 5] 32)) (.cells #[.int .i64 2, .slice (some ⟨gc, 0, none⟩) 5 5] 32)
    rwa [World.size_alloc, World.size_alloc] at this
  have hsz : (((y30.alloc (.cells #[.int .i64 2, .slice (some ⟨ga, 0, none⟩) 5 5] 32)).alloc (.cells #[.int .i64 2, .slice (some ⟨gb, 0, none⟩) 5 5] 32)).alloc (.cells #[.int .i64 2, .slice (some ⟨gc, 0, none⟩) 5 5] 32)).heap.size = y30.heap.size + 1 + 1 + 1 := by simp
  replace HOb := Lib.hid (OwnW.step HOb.out hb)
  replace HOc := Lib.hid (OwnW.step HOc.out hb)
  have HW0 := HB.out.size
  replace HB := Lib.hid (HB.out.trans (hb.mono HB.out.size))
  clear hb
  generalize (((y30.alloc (.cells #[.int .i64 2, .slice (some ⟨ga, 0, none⟩) 5 5] 32)).alloc (.cells #[.int .i64 2, .slice (some ⟨gb, 0, none⟩) 5 5] 32)).alloc (.cells #[.int .i64 2, .slice (some ⟨gc, 0, none⟩) 5 5] 32)) = wz at *
  obtain ⟨qa, hqa⟩ : ∃ q, q = y30.heap.size := ⟨_, rfl⟩
  rw [← hqa] at bA bB bC hsz ⊢
  have n1 : gb < qa := by omega
  have n2 : gc < qa := by omega
  have n3 : gb ≠ gc := by omega
  have hwq : w.heap.size ≤ qa := by rw [hqa]; exact HW0
  clear hqa
  have hwgb : w.heap.size ≤ gb := by omega
  have hwgc : w.heap.size ≤ gc := by omega
  have hmk : ∀ w, (Instr.makeSlice 30 (.int .i64 31) (.int .i64 31)).run Try.prog w = .ok (.slice (some ⟨w.heap.size, 0, none⟩) 31 31) (w.alloc (.cells (Array.replicate 155 (.int .i64 0)) 85)) := fun _ => by kernel_rfl
  have e0 : (wz.alloc (.cells (Array.replicate 155 (.int .i64 0)) 85)).cell? ⟨qa, 1, none⟩ = some (.slice (some ⟨ga, 0, none⟩) 5 5) := by
    have b' := (((Below.refl _ _).alloc (Nat.le_refl _) (.cells (Array.replicate 155 (.int .i64 0)) 85) : Below wz.heap.size wz (wz.alloc (.cells (Array.replicate 155 (.int .i64 0)) 85))).block qa (by omega)).trans bA
    simp [World.cell?, b']
  have e1 : (wz.alloc (.cells (Array.replicate 155 (.int .i64 0)) 85)).frozen? ⟨qa, 1, none⟩ = false := by
    have b' := (((Below.refl _ _).alloc (Nat.le_refl _) (.cells (Array.replicate 155 (.int .i64 0)) 85) : Below wz.heap.size wz (wz.alloc (.cells (Array.replicate 155 (.int .i64 0)) 85))).block qa (by omega)).trans bA
    simp [World.frozen?, b']
  go_upto_region 16 with fail
  clear hmk e0 e1
  have hz1 : (wz.setCell ⟨qa, 1, none⟩ (.slice (some ⟨qa + 1 + 1 + 1, 0, none⟩) 31 31)).heap.size = qa + 1 + 1 + 1 := by rw [World.size_setCell]; exact hsz
  have cA : ((wz.setCell ⟨qa, 1, none⟩ (.slice (some ⟨qa + 1 + 1 + 1, 0, none⟩) 31 31)).alloc (.cells (Array.replicate 155 (.int .i64 0)) 85)).heap[qa]? = some (.cells #[.int .i64 2, .slice (some ⟨qa + 1 + 1 + 1, 0, none⟩) 31 31] 32 (0, 0)) := by
    rw [heap_alloc_old _ _ (by omega)]
    simp [World.setCell, Array.getElem?_modify, bA]
  have cB : ((wz.setCell ⟨qa, 1, none⟩ (.slice (some ⟨qa + 1 + 1 + 1, 0, none⟩) 31 31)).alloc (.cells (Array.replicate 155 (.int .i64 0)) 85)).heap[qa + 1]? = some (.cells #[.int .i64 2, .slice (some ⟨gb, 0, none⟩) 5 5] 32 (0, 0)) := by
    rw [heap_alloc_old _ _ (by omega), Below.heap_setCell _ _ _ _ (by dsimp only; omega)]
    exact bB
  have cC : ((wz.setCell ⟨qa, 1, none⟩ (.slice (some ⟨qa + 1 + 1 + 1, 0, none⟩) 31 31)).alloc (.cells (Array.replicate 155 (.int .i64 0)) 85)).heap[qa + 1 + 1]? = some (.cells #[.int .i64 2, .slice (some ⟨gc, 0, none⟩) 5 5] 32 (0, 0)) := by
    rw [heap_alloc_old _ _ (by omega), Below.heap_setCell _ _ _ _ (by dsimp only; omega)]
    exact bC
  have cZ : ((wz.setCell ⟨qa, 1, none⟩ (.slice (some ⟨qa + 1 + 1 + 1, 0, none⟩) 31 31)).alloc (.cells (Array.replicate 155 (.int .i64 0)) 85)).heap[qa + 1 + 1 + 1]? = some (.cells (Array.replicate 155 (.int .i64 0)) 85 (0, 0)) := by
    have := World.alloc_heap_new (wz.setCell ⟨qa, 1, none⟩ (.slice (some ⟨qa + 1 + 1 + 1, 0, none⟩) 31 31)) (.cells (Array.replicate 155 (.int .i64 0)) 85)
    rw [hz1] at this
    exact this
  replace HOb := Lib.hid (OwnW.step (World.ownsRow.kept HOb.out (grown_set wz (qa) 1 (.slice (some ⟨qa + 1 + 1 + 1, 0, none⟩) 31 31)) (.inr (fun e => (by omega : gb ≠ qa) (by injection e)))) ((Below.refl _ _).alloc (Nat.le_refl _) (.cells (Array.replicate 155 (.int .i64 0)) 85)))
  replace HOc := Lib.hid (OwnW.step (World.ownsRow.kept HOc.out (grown_set wz (qa) 1 (.slice (some ⟨qa + 1 + 1 + 1, 0, none⟩) 31 31)) (.inr (fun e => (by omega : gc ≠ qa) (by injection e)))) ((Below.refl _ _).alloc (Nat.le_refl _) (.cells (Array.replicate 155 (.int .i64 0)) 85)))
  replace HB := Lib.hid ((HB.out.setCell (show w.heap.size ≤ (⟨qa, 1, none⟩ : Addr).block from hwq) (.slice (some ⟨qa + 1 + 1 + 1, 0, none⟩) 31 31)).alloc (by rw [hz1]; omega) (.cells (Array.replicate 155 (.int .i64 0)) 85))
  have hs2 : ((wz.setCell ⟨qa, 1, none⟩ (.slice (some ⟨qa + 1 + 1 + 1, 0, none⟩) 31 31)).alloc (.cells (Array.replicate 155 (.int .i64 0)) 85)).heap.size = qa + 1 + 1 + 1 + 1 := by rw [World.size_alloc, hz1]
  generalize ((wz.setCell ⟨qa, 1, none⟩ (.slice (some ⟨qa + 1 + 1 + 1, 0, none⟩) 31 31)).alloc (.cells (Array.replicate 155 (.int .i64 0)) 85)) = w4 at *
  clear bA bB bC hz1 hsz
  have HCA := Lib.hid cA
  have HCZ := Lib.hid cZ
  clear cA cZ
  have e0 : w4.cell? ⟨qa + 1, 1, none⟩ = some (.slice (some ⟨gb, 0, none⟩) 5 5) := by simp [World.cell?, cB]
  have e1 : w4.cell? ⟨gb, 4, none⟩ = some (.int .i64 3) := by have := World.ownsRow.cells HOb.out (g := gb) rfl 4 _ rfl; rwa [add_eq, Nat.zero_add] at this
  have e2 : w4.frozen? ⟨gb, 4, none⟩ = false := World.ownsRow.frozenAt HOb.out 4
  go_upto_region 17 with fail
  clear e0 e1 e2
  have hst := World.ownsRow.stored HOb.out 4 (.int .i64 11)
  replace HOb := Lib.hid (show OwnW 85 _ (w4.setCell ⟨gb, 4, none⟩ (.int .i64 11)) (.slice (some ⟨gb, 0, none⟩) 5 5) oddW from hst.1)
  replace HOc := Lib.hid (World.ownsRow.kept HOc.out (grown_set w4 (gb) 4 (.int .i64 11)) (.inr (fun e => (by omega : gc ≠ gb) (by injection e))))
  have h5 : ∀ k, k ≠ gb → (w4.setCell ⟨gb, 4, none⟩ (.int .i64 11)).heap[k]? = w4.heap[k]? := fun k hk => Below.heap_setCell w4 ⟨gb, 4, none⟩ (.int .i64 11) k hk
  replace HCA := Lib.hid ((h5 qa (by omega)).trans HCA.out)
  replace HCZ := Lib.hid ((h5 (qa + 1 + 1 + 1) (by omega)).trans HCZ.out)
  replace cB := (h5 (qa + 1) (by omega)).trans cB
  replace cC := (h5 (qa + 1 + 1) (by omega)).trans cC
  replace HB := Lib.hid (HB.out.setCell (show w.heap.size ≤ (⟨gb, 4, none⟩ : Addr).block from hwgb) (.int .i64 11))
  have hs5 : (w4.setCell ⟨gb, 4, none⟩ (.int .i64 11)).heap.size = qa + 1 + 1 + 1 + 1 := by rw [World.size_setCell]; exact hs2
  clear hst h5 hs2
  generalize (w4.setCell ⟨gb, 4, none⟩ (.int .i64 11)) = w5 at *
  have e0 : w5.cell? ⟨qa + 1 + 1, 1, none⟩ = some (.slice (some ⟨gc, 0, none⟩) 5 5) := by simp [World.cell?, cC]
  have e1 : w5.cell? ⟨gc, 0, none⟩ = some (.int .i64 0) := by have := World.ownsRow.cells HOc.out (g := gc) rfl 0 _ rfl; rwa [add_eq, Nat.zero_add] at this
  have e2 : w5.frozen? ⟨gc, 0, none⟩ = false := World.ownsRow.frozenAt HOc.out 0
  go_upto_region 18 with fail
  clear e0 e1 e2
  have hst := World.ownsRow.stored HOc.out 0 (.int .i64 2)
  replace HOc := Lib.hid (show OwnW 85 _ (w5.setCell ⟨gc, 0, none⟩ (.int .i64 2)) (.slice (some ⟨gc, 0, none⟩) 5 5) farW from hst.1)
  replace HOb := Lib.hid (World.ownsRow.kept HOb.out (grown_set w5 (gc) 0 (.int .i64 2)) (.inr (fun e => (by omega : gb ≠ gc) (by injection e))))
  have h5 : ∀ k, k ≠ gc → (w5.setCell ⟨gc, 0, none⟩ (.int .i64 2)).heap[k]? = w5.heap[k]? := fun k hk => Below.heap_setCell w5 ⟨gc, 0, none⟩ (.int .i64 2) k hk
  replace HCA := Lib.hid ((h5 qa (by omega)).trans HCA.out)
  replace HCZ := Lib.hid ((h5 (qa + 1 + 1 + 1) (by omega)).trans HCZ.out)
  replace cB := (h5 (qa + 1) (by omega)).trans cB
  replace cC := (h5 (qa + 1 + 1) (by omega)).trans cC
  replace HB := Lib.hid (HB.out.setCell (show w.heap.size ≤ (⟨gc, 0, none⟩ : Addr).block from hwgc) (.int .i64 2))
  have hs6 : (w5.setCell ⟨gc, 0, none⟩ (.int .i64 2)).heap.size = qa + 1 + 1 + 1 + 1 := by rw [World.size_setCell]; exact hs5
  clear hst h5 hs5
  generalize w5.setCell ⟨gc, 0, none⟩ (.int .i64 2) = w6 at *
  obtain ⟨-, -, hwb⟩ := OwnW.wds (e := 85) (ws := oddW) HOb.out
  obtain ⟨-, -, hwc⟩ := OwnW.wds (e := 85) (ws := farW) HOc.out
  have HWB := Lib.hid hwb
  have HWC := Lib.hid hwc
  have hcz := HCZ.out
  have HWA : Hid (Wds w6.heap.size w6 (some ⟨qa + 1 + 1 + 1, 0, none⟩) manyW) := many_wds hcz
  have hca := HCA.out
  have a0 : w6.cell? ⟨qa, 0, none⟩ = some (.int .i64 2) := by simp [World.cell?, hca]
  have a1 : w6.cell? ⟨qa, 1, none⟩ = some (.slice (some ⟨qa + 1 + 1 + 1, 0, none⟩) 31 31) := by simp [World.cell?, hca]
  have b0 : w6.cell? ⟨qa + 1, 0, none⟩ = some (.int .i64 2) := by simp [World.cell?, cB]
  have b1 : w6.cell? ⟨qa + 1, 1, none⟩ = some (.slice (some ⟨gb, 0, none⟩) 5 5) := by simp [World.cell?, cB]
  have c0 : w6.cell? ⟨qa + 1 + 1, 0, none⟩ = some (.int .i64 2) := by simp [World.cell?, cC]
  have c1 : w6.cell? ⟨qa + 1 + 1, 1, none⟩ = some (.slice (some ⟨gc, 0, none⟩) 5 5) := by simp [World.cell?, cC]
  clear hwb hwc hcz hca HCA HCZ cB cC HOb HOc hs6
  obtain ⟨qm4, hqm4⟩ : ∃ q, q = qa + 1 + 1 + 1 := ⟨_, rfl⟩
  rw [← hqm4] at a1 HWA
  obtain ⟨qb, hqb⟩ : ∃ q, q = qa + 1 := ⟨_, rfl⟩
  obtain ⟨qc, hqc⟩ : ∃ q, q = qa + 1 + 1 := ⟨_, rfl⟩
  rw [← hqc] at c0 c1
  rw [← hqb] at b0 b1
  rw [← hqc, ← hqb]
  clear hqm4 hqb hqc
  have HM5 := Lib.hid nx_m5
  have HL0 := Lib.hid nx_l0
  have HLA := Lib.hid (fun W (h : Wds W.heap.size W (some ⟨qm4, 0, none⟩) manyW) => checkLane_c (B := W.heap.size) (some ⟨qm4, 0, none⟩) manyW 31 2 W (Nat.le_refl _) h (by decide))
  have HLB := Lib.hid (fun W (h : Wds W.heap.size W (some ⟨gb, 0, none⟩) oddW) => checkLane_c (B := W.heap.size) (some ⟨gb, 0, none⟩) oddW 5 2 W (Nat.le_refl _) h (by decide))
  have HLC := Lib.hid (fun W (h : Wds W.heap.size W (some ⟨gc, 0, none⟩) farW) => checkLane_c (B := W.heap.size) (some ⟨gc, 0, none⟩) farW 5 2 W (Nat.le_refl _) h (by decide))
  rw [nk_lm] at HLA
  rw [nk_lo] at HLB
  rw [nk_lf] at HLC
  go_wp2_with fail
  refine (HM5.out _).mono ?_
  rintro e y31 ⟨rfl, hb⟩
  replace HWA := Lib.hid (HWA.out.step hb)
  replace HWB := Lib.hid (HWB.out.step hb)
  replace HWC := Lib.hid (HWC.out.step hb)
  replace a0 := cell_of_ans hb a0
  replace a1 := cell_of_ans hb a1
  replace b0 := cell_of_ans hb b0
  replace b1 := cell_of_ans hb b1
  replace c0 := cell_of_ans hb c0
  replace c1 := cell_of_ans hb c1
  replace HB := Lib.hid (HB.out.trans (hb.mono HB.out.size))
  clear hb
  go_wp2_with fail
  refine (HLA.out _ HWA.out).mono ?_
  rintro e y32 ⟨rfl, hb⟩
  replace HWA := Lib.hid (HWA.out.step hb)
  replace HWB := Lib.hid (HWB.out.step hb)
  replace HWC := Lib.hid (HWC.out.step hb)
  replace a0 := cell_of_ans hb a0
  replace a1 := cell_of_ans hb a1
  replace b0 := cell_of_ans hb b0
  replace b1 := cell_of_ans hb b1
  replace c0 := cell_of_ans hb c0
  replace c1 := cell_of_ans hb c1
  replace HB := Lib.hid (HB.out.trans (hb.mono HB.out.size))
  clear hb
  clear HWA a0 a1
  go_wp2_with fail
  refine (HLB.out _ HWB.out).mono ?_
  rintro e y33 ⟨rfl, hb⟩
  replace HWB := Lib.hid (HWB.out.step hb)
  replace HWC := Lib.hid (HWC.out.step hb)
  replace b0 := cell_of_ans hb b0
  replace b1 := cell_of_ans hb b1
  replace c0 := cell_of_ans hb c0
  replace c1 := cell_of_ans hb c1
  replace HB := Lib.hid (HB.out.trans (hb.mono HB.out.size))
  clear hb
  clear HWB b0 b1
  go_wp2_with fail
  refine (HLC.out _ HWC.out).mono ?_
  rintro e y34 ⟨rfl, hb⟩
  replace HWC := Lib.hid (HWC.out.step hb)
  replace c0 := cell_of_ans hb c0
  replace c1 := cell_of_ans hb c1
  replace HB := Lib.hid (HB.out.trans (hb.mono HB.out.size))
  clear hb
  clear HWC c0 c1
  go_wp2_with fail
  refine (HL0.out _).mono ?_
  rintro e y35 ⟨rfl, hb⟩
  replace HB := Lib.hid (HB.out.trans (hb.mono HB.out.size))
  clear hb
  go_wp2_with fail
  refine (HWK.out _).mono ?_
  rintro e y36 ⟨rfl, hb⟩
  replace HB := Lib.hid (HB.out.trans (hb.mono HB.out.size))
  clear hb
  go_wp2_with fail
  go_ret
  exact ⟨rfl, HB.out⟩
end Go.Proofs.Ytadjkinpimmhkaa
