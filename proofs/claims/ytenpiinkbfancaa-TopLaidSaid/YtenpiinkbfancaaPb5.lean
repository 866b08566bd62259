/-
  A lane of the reference, for the program.
-/
import Derived.Test.YtenpiinkbfancaaPb1
namespace Go.Proofs.Ytenpiinkbfancaa.Pa
open Go.RowKit
set_option linter.unusedSimpArgs false
set_option linter.unusedVariables false

attribute [local go_sem] Oper.semAt_some
/-- A box that holds a lane. -/
def LnB (W : World) (g : Nat) (l : Ln) (u v : Value) : Prop := W.heap[g]? = some (.cells #[.int .i64 l.nb, .int .i64 l.nr, u, v] 103)
section
variable {W W' : World} {g : Nat} {l : Ln} {u v x : Value}
theorem LnB.lt (h : LnB W g l u v) : g < W.heap.size := (Array.getElem?_eq_some_iff.1 h).1
theorem LnB.cells (h : LnB W g l u v) : (W.cell? ⟨g, 0, none⟩ = some (.int .i64 l.nb) ∧ W.cell? ⟨g, 1, none⟩ = some (.int .i64 l.nr) ∧ W.cell? ⟨g, 2, none⟩ = some u ∧ W.cell? ⟨g, 3, none⟩ = some v) ∧ ∀ o, W.frozen? ⟨g, o, none⟩ = false := by
  unfold LnB at h
  simp [World.cell?, World.frozen?, h]
theorem LnB.step (h : LnB W g l u v) (hb : Below W.heap.size W W') : LnB W' g l u v := (hb.block g h.lt).trans h
theorem LnB.grown {row : Option Nat} (h : LnB W g l u v) (hg : W.grownBy W' row) (hne : row ≠ some g) : LnB W' g l u v := (hg.block g h.lt (fun e => hne e.symm)).trans h
theorem LnB.set2 (h : LnB W g l u v) (x : Value) : LnB (W.setCell ⟨g, 2, none⟩ x) g l x v := by
  unfold LnB at h ⊢
  simp [World.setCell, Array.getElem?_modify, h]
theorem LnB.set3 (h : LnB W g l u v) (x : Value) : LnB (W.setCell ⟨g, 3, none⟩ x) g l u x := by
  unfold LnB at h ⊢
  simp [World.setCell, Array.getElem?_modify, h]
end
theorem below_gr {B : Nat} {w w' : World} {row : Option Nat} (hg : w.grownBy w' row) (hb : B ≤ w.heap.size) (hr : ∀ k, row = some k → B ≤ k) : Below B w w' :=
  ⟨hg.os, hg.tape, hg.output, hg.size, fun k hk => hg.block k (by omega) (fun e => by have := hr k e.symm; omega)⟩
theorem two_eq {r : List Int} (h : r.length = 2) : r = [ix r 0, ix r 1] := by
  match r, h with
  | [a, b], _ => rfl
theorem five_eq {r : List Int} (h : r.length = 5) : r = [ix r 0, ix r 1, ix r 2, ix r 3, ix r 4] := by
  match r, h with
  | [a, b, c, d, e], _ => rfl
theorem four_set {W : World} {g : Nat} {a b c d x y z u : Value} {t : TypeId} (h : W.heap[g]? = some (.cells #[a, b, c, d] t)) : ((((W.setCell ⟨g, 0, none⟩ x).setCell ⟨g, 1, none⟩ y).setCell ⟨g, 2, none⟩ z).setCell ⟨g, 3, none⟩ u).cell? ⟨g, 0, none⟩ = some x ∧ ((((W.setCell ⟨g, 0, none⟩ x).setCell ⟨g, 1, none⟩ y).setCell ⟨g, 2, none⟩ z).setCell ⟨g, 3, none⟩ u).cell? ⟨g, 1, none⟩ = some y ∧ ((((W.setCell ⟨g, 0, none⟩ x).setCell ⟨g, 1, none⟩ y).setCell ⟨g, 2, none⟩ z).setCell ⟨g, 3, none⟩ u).cell? ⟨g, 2, none⟩ = some z ∧ ((((W.setCell ⟨g, 0, none⟩ x).setCell ⟨g, 1, none⟩ y).setCell ⟨g, 2, none⟩ z).setCell ⟨g, 3, none⟩ u).cell? ⟨g, 3, none⟩ = some u := by
  simp [World.setCell, World.cell?, Array.getElem?_modify, h]
/-- What lies below z is as it was; block q holds o. -/
def SX (z q : Nat) (o : Obj) (wb W : World) : Prop := Below z wb W ∧ W.heap[q]? = some o
theorem SX.step {z q : Nat} {o : Obj} {wb W W' : World} (h : SX z q o wb W) (hz : z ≤ wb.heap.size) (hb : Below W.heap.size W W') : SX z q o wb W' := ⟨h.1.trans (hb.mono (Nat.le_trans hz h.1.size)), (hb.block q (Array.getElem?_eq_some_iff.1 h.2).1).trans h.2⟩
theorem SX.grown {z q : Nat} {o : Obj} {wb W W' : World} {row : Option Nat} (h : SX z q o wb W) (hz : z ≤ wb.heap.size) (hg : W.grownBy W' row) (hr : ∀ k, row = some k → z ≤ k) (hq : row ≠ some q) : SX z q o wb W' :=
  ⟨h.1.trans (below_gr hg (Nat.le_trans hz h.1.size) hr), (hg.block q (Array.getElem?_eq_some_iff.1 h.2).1 (fun e => hq e.symm)).trans h.2⟩
def Dis2 (u v : Value) : Prop := u.ownBlock = none ∨ u.ownBlock ≠ v.ownBlock
/-- What the program gets. -/
def LaneP (l : Ln) (w : World) (e : Ending) (w' : World) : Prop :=
  ∃ H P ch cp, e = .returned (LV l H P ch cp) ∧ (l.hk.length ≤ ch ∧ ch ≤ 9223372036854775807) ∧ (l.pt.length ≤ cp ∧ cp ≤ 9223372036854775807) ∧ Recs 2 w'.heap.size w' H l.hk ∧ Recs 5 w'.heap.size w' P l.pt ∧ Below w.heap.size w w'
set_option maxRecDepth 100000 in
set_option maxHeartbeats 8000000 in
theorem lane32_c (l : Ln) (H P : Option Addr) (ch cp : Nat) (w : World) (hH : Recs 2 w.heap.size w H l.hk) (hP : Recs 5 w.heap.size w P l.pt) (hh : l.hk.length ≤ 1000) (hp : l.pt.length ≤ 1000) (h2 : ∀ r ∈ l.hk, r.length = 2) (h5 : ∀ r ∈ l.pt, r.length = 5) :
    Calls Try.prog 32 #[LV l H P ch cp] w (LaneP l w) := by
  unfold LV
  have hb0 : Below w.heap.size w (((w.alloc (.cells #[.int .i64 l.nb, .int .i64 l.nr, .slice H l.hk.length ch, .slice P l.pt.length cp] 88)).alloc (.cells #[.int .i64 0, .int .i64 0, .slice none 0 0, .slice none 0 0] 103)).alloc (.cells #[.int .i64 l.nb, .int .i64 l.nr, .slice none 0 0, .slice none 0 0] 103)) := (((Below.refl _ _).alloc (Nat.le_refl _) _).alloc (by simp) _).alloc (by simp; omega) _
  have k2 : (((w.alloc (.cells #[.int .i64 l.nb, .int .i64 l.nr, .slice H l.hk.length ch, .slice P l.pt.length cp] 88)).alloc (.cells #[.int .i64 0, .int .i64 0, .slice none 0 0, .slice none 0 0] 103)).alloc (.cells #[.int .i64 l.nb, .int .i64 l.nr, .slice none 0 0, .slice none 0 0] 103)).cell? ⟨w.heap.size, 2, none⟩ = some (.slice H l.hk.length ch) := by go_simp
  have k3 : (((w.alloc (.cells #[.int .i64 l.nb, .int .i64 l.nr, .slice H l.hk.length ch, .slice P l.pt.length cp] 88)).alloc (.cells #[.int .i64 0, .int .i64 0, .slice none 0 0, .slice none 0 0] 103)).alloc (.cells #[.int .i64 l.nb, .int .i64 l.nr, .slice none 0 0, .slice none 0 0] 103)).cell? ⟨w.heap.size, 3, none⟩ = some (.slice P l.pt.length cp) := by go_simp
  have HT : Hid (LnB (((w.alloc (.cells #[.int .i64 l.nb, .int .i64 l.nr, .slice H l.hk.length ch, .slice P l.pt.length cp] 88)).alloc (.cells #[.int .i64 0, .int .i64 0, .slice none 0 0, .slice none 0 0] 103)).alloc (.cells #[.int .i64 l.nb, .int .i64 l.nr, .slice none 0 0, .slice none 0 0] 103)) (w.heap.size + 2) l (.slice none 0 0) (.slice none 0 0)) := by
    have := World.alloc_heap_new ((w.alloc (.cells #[.int .i64 l.nb, .int .i64 l.nr, .slice H l.hk.length ch, .slice P l.pt.length cp] 88)).alloc (.cells #[.int .i64 0, .int .i64 0, .slice none 0 0, .slice none 0 0] 103)) (.cells #[.int .i64 l.nb, .int .i64 l.nr, .slice none 0 0, .slice none 0 0] 103)
    rw [World.size_alloc, World.size_alloc] at this
    exact this
  have HR : Hid ((((w.alloc (.cells #[.int .i64 l.nb, .int .i64 l.nr, .slice H l.hk.length ch, .slice P l.pt.length cp] 88)).alloc (.cells #[.int .i64 0, .int .i64 0, .slice none 0 0, .slice none 0 0] 103)).alloc (.cells #[.int .i64 l.nb, .int .i64 l.nr, .slice none 0 0, .slice none 0 0] 103)).heap[w.heap.size + 1]? = some (.cells #[.int .i64 0, .int .i64 0, .slice none 0 0, .slice none 0 0] 103)) := by
    have := World.alloc_heap_new (w.alloc (.cells #[.int .i64 l.nb, .int .i64 l.nr, .slice H l.hk.length ch, .slice P l.pt.length cp] 88)) (.cells #[.int .i64 0, .int .i64 0, .slice none 0 0, .slice none 0 0] 103)
    rw [World.size_alloc] at this
    exact (Below.heap_alloc _ _ _ (by simp)).trans this
  have HZ : Hid ((((w.alloc (.cells #[.int .i64 l.nb, .int .i64 l.nr, .slice H l.hk.length ch, .slice P l.pt.length cp] 88)).alloc (.cells #[.int .i64 0, .int .i64 0, .slice none 0 0, .slice none 0 0] 103)).alloc (.cells #[.int .i64 l.nb, .int .i64 l.nr, .slice none 0 0, .slice none 0 0] 103)).heap.size = w.heap.size + 3) := by show _ = _; simp
  have HHk := Lib.hid (hH.step hb0)
  have HPt := Lib.hid (hP.step hb0)
  have HHw := Lib.hid hH
  have HPw := Lib.hid hP
  have HB := Lib.hid hb0
  have H2 := Lib.hid h2
  have H5 := Lib.hid h5
  clear hb0 hH hP h2 h5
  have HK := Lib.hid (And.intro k2 k3)
  go_enter Try.func32, Try.ntmps32
  go_wp2_with fail
  generalize (((w.alloc (.cells #[.int .i64 l.nb, .int .i64 l.nr, .slice H l.hk.length ch, .slice P l.pt.length cp] 88)).alloc (.cells #[.int .i64 0, .int .i64 0, .slice none 0 0, .slice none 0 0] 103)).alloc (.cells #[.int .i64 l.nb, .int .i64 l.nr, .slice none 0 0, .slice none 0 0] 103)) = W0 at *
  go_loopw [4] (fun iv wx => ∃ (k : Nat) (u : Value), k ≤ l.hk.length ∧ iv = .int .i64 (k : Int) ∧ LnB wx (w.heap.size + 2) l u (.slice none 0 0) ∧ OwnK 186 2 (w.heap.size + 3) wx u (l.hk.take k) ∧ Below (w.heap.size + 2) W0 wx) (fun iv _ => l.hk.length - (intOf iv).toNat)
  case atStart => exact ⟨0, .slice none 0 0, by omega, rfl, HT.out, OwnK.nil _ _ _ _, Below.refl _ _⟩
  case round =>
    obtain ⟨k, u, hk, rfl, hln, hou, hbw⟩ := hrel
    have HLN := Lib.hid hln
    have HBW := Lib.hid hbw
    have hlen0 : (l.hk.take k).length = k := by rw [List.length_take]; omega
    obtain ⟨Au, cu, hue⟩ := hou.form
    rw [hlen0] at hue
    subst hue
    have HOU := Lib.hid hou
    have hou9 := hou
    have HLE0 := Lib.hid hlen0
    have hzr : w.heap.size + 3 ≤ wr.heap.size := hln.lt
    have hw7 : IntKind.i64.wrap ((k : Int) + 1) = (k : Int) + 1 := IntWalk.i64_in _ (by omega)
    have K2 := HK.out.1
    have K3 := HK.out.2
    have j2 : wr.cell? ⟨w.heap.size, 2, none⟩ = some (.slice H l.hk.length ch) := (hbw.cell (by dsimp only; omega)).trans K2
    have j3 : wr.cell? ⟨w.heap.size, 3, none⟩ = some (.slice P l.pt.length cp) := (hbw.cell (by dsimp only; omega)).trans K3
    clear K2 K3 hou hlen0 hln
    by_cases h1 : k < l.hk.length
    · have h1i : (k : Int) < (l.hk.length : Int) := by omega
      obtain ⟨b1, o1, hA1, hb1, c0, c1⟩ := HHw.out.at2 h1
      have hz1 : b1 < w.heap.size + 3 := by omega
      replace c0 := (hbw.cell (p := ⟨b1, o1 + k * 2, none⟩) (by dsimp only; omega)).trans ((HB.out.cell (p := ⟨b1, o1 + k * 2, none⟩) hb1).trans c0)
      replace c1 := (hbw.cell (p := ⟨b1, o1 + k * 2 + 1, none⟩) (by dsimp only; omega)).trans ((HB.out.cell (p := ⟨b1, o1 + k * 2 + 1, none⟩) hb1).trans c1)
      rw [hA1] at j2 ⊢
      have l2 := HLN.out.cells.1.2.2.1
      obtain ⟨x, hx⟩ : ∃ x, x = ix (rx l.hk k) 0 := ⟨_, rfl⟩
      obtain ⟨y, hy⟩ : ∃ y, y = ix (rx l.hk k) 1 := ⟨_, rfl⟩
      have hrow : rx l.hk k = [x, y] := by
        have h2 := H2.out (rx l.hk k) (by rw [rx_lt h1]; exact List.getElem_mem _)
        rw [hx, hy]
        exact two_eq h2
      rw [← hx] at c0
      rw [← hy] at c1
      have HROW := Lib.hid hrow
      have HS := Lib.hid (fun W' (h : Below (w.heap.size + 3) wr W') => And.intro ((h.cell (p := ⟨w.heap.size + 2, 2, none⟩) (by dsimp only; omega)).trans l2) (And.intro ((h.cell (p := ⟨w.heap.size, 2, none⟩) (by dsimp only; omega)).trans j2) (And.intro ((h.cell (p := ⟨b1, o1 + k * 2, none⟩) hz1).trans c0) ((h.cell (p := ⟨b1, o1 + k * 2 + 1, none⟩) hz1).trans c1))))
      have HTO := Lib.hid (fun W => to76_c x y W)
      clear hx hy hrow c0 c1 l2
      go_upto_region 5 with fail
      clear j2 j3
      refine wp_region_noPanic ?_
      have hS : (fun W' : World => Below (w.heap.size + 3) wr W') wr.drew := (Below.refl _ _).drew
      refine wp_region_any (by kernel_rfl) (wpAny_of_T (S := fun W' : World => Below (w.heap.size + 3) wr W') (m := 11) _ _ _ _ ?_)
      refine' T_take (i := 0) (v := _) rfl (by kernel_rfl) (by kernel_rfl) (by kernel_rfl) (by kernel_rfl) (fun _ _ _ h => h) (by kernel_rfl) hS ?_ ?_
      rotate_left 1
      · intro Wv hW
        obtain ⟨s1, s2, s3, s4⟩ := HS.out _ hW
        go_simp
        first | done | with_reducible rfl | omega
      try simp only [Act.put, List.setIfInBounds_toArray, List.set_cons_zero, List.set_cons_succ]
      refine' T_take (i := 1) (v := _) rfl (by kernel_rfl) (by kernel_rfl) (by kernel_rfl) (by kernel_rfl) (fun _ _ _ h => h) (by kernel_rfl) hS ?_ ?_
      rotate_left 1
      · intro Wv hW
        obtain ⟨s1, s2, s3, s4⟩ := HS.out _ hW
        go_simp
        first | done | with_reducible rfl | omega
      try simp only [Act.put, List.setIfInBounds_toArray, List.set_cons_zero, List.set_cons_succ]
      refine' T_take (i := 2) (v := _) rfl (by kernel_rfl) (by kernel_rfl) (by kernel_rfl) (by kernel_rfl) (fun _ _ _ h => h) (by kernel_rfl) hS ?_ ?_
      rotate_left 1
      · intro Wv hW
        obtain ⟨s1, s2, s3, s4⟩ := HS.out _ hW
        go_simp
        first | done | with_reducible rfl | omega
      try simp only [Act.put, List.setIfInBounds_toArray, List.set_cons_zero, List.set_cons_succ]
      refine' T_take (i := 3) (v := _) rfl (by kernel_rfl) (by kernel_rfl) (by kernel_rfl) (by kernel_rfl) (fun _ _ _ h => h) (by kernel_rfl) hS ?_ ?_
      rotate_left 1
      · intro Wv hW
        obtain ⟨s1, s2, s3, s4⟩ := HS.out _ hW
        go_simp
        first | done | with_reducible rfl | omega
      try simp only [Act.put, List.setIfInBounds_toArray, List.set_cons_zero, List.set_cons_succ]
      refine' T_take (i := 4) (v := _) rfl (by kernel_rfl) (by kernel_rfl) (by kernel_rfl) (by kernel_rfl) (fun _ _ _ h => h) (by kernel_rfl) hS ?_ ?_
      rotate_left 1
      · intro Wv hW
        obtain ⟨s1, s2, s3, s4⟩ := HS.out _ hW
        go_simp
        first | done | with_reducible rfl | omega
      try simp only [Act.put, List.setIfInBounds_toArray, List.set_cons_zero, List.set_cons_succ]
      refine' T_take (i := 5) (v := _) rfl (by kernel_rfl) (by kernel_rfl) (by kernel_rfl) (by kernel_rfl) (fun _ _ _ h => h) (by kernel_rfl) hS ?_ ?_
      rotate_left 1
      · intro Wv hW
        obtain ⟨s1, s2, s3, s4⟩ := HS.out _ hW
        go_simp
        first | done | with_reducible rfl | omega
      try simp only [Act.put, List.setIfInBounds_toArray, List.set_cons_zero, List.set_cons_succ]
      refine' T_take (i := 6) (v := _) rfl (by kernel_rfl) (by kernel_rfl) (by kernel_rfl) (by kernel_rfl) (fun _ _ _ h => h) (by kernel_rfl) hS ?_ ?_
      rotate_left 1
      · intro Wv hW
        obtain ⟨s1, s2, s3, s4⟩ := HS.out _ hW
        go_simp
        first | done | with_reducible rfl | omega
      try simp only [Act.put, List.setIfInBounds_toArray, List.set_cons_zero, List.set_cons_succ]
      refine T_ready (rs := [7]) (by kernel_rfl) (by simp) ?_
      refine TReady.cons rfl (fun K hK => ?_) TReady.nil
      try go_simp
      refine (HTO.out _).mono ?_
      rintro e w7 ⟨rfl, hb⟩
      have hS2 : Below (w.heap.size + 3) wr w7 := Below.trans hS (hb.mono (Nat.le_trans hzr hS.size))
      have HB7 := Lib.hid hb
      try go_simp
      refine hK.out _ _ (fun _ => hS2) (fun _ => ?_)
      clear hK K hS hb
      replace hS := hS2
      clear hS2
      try simp only [Act.put, List.setIfInBounds_toArray, List.set_cons_zero, List.set_cons_succ]
      refine T_ready (rs := [8]) (by kernel_rfl) (by simp) ?_
      refine TReady.cons rfl (fun K hK => ?_) TReady.nil
      try go_simp
      refine hK.out _ _ (fun _ => hS.alloc (Nat.le_trans hzr hS.size) _) (fun hS2 => ?_)
      replace hS := hS2 (by decide)
      clear hS2 hK K
      try simp only [Act.put, List.setIfInBounds_toArray, List.set_cons_zero, List.set_cons_succ]
      refine T_ready (rs := [9]) (by kernel_rfl) (by simp) ?_
      refine TReady.cons rfl (fun K hK => ?_) TReady.nil
      refine step_appK ty100 (.tmp 20) (.tmp 27) rfl rfl (w.heap.size + 3) w7 (.slice Au k cu) (l.hk.take k) [x, y] k (cs := #[.int .i64 x, .int .i64 y]) rfl rfl rfl rfl (Lib.hid ((HOU.out.kept ((Below.refl wr.heap.size wr).drew)).kept HB7.out)) HLE0 rfl (by omega) (Nat.le_trans hzr HB7.out.size) ?_
      intro A9 c9 w9 HO9 HG9 HD9
      have HBG := Lib.hid (below_gr HG9.out (Nat.le_trans hzr HB7.out.size) (fun j e => (HOU.out.lt j e).1))
      have hS2 : Below (w.heap.size + 3) wr w9 := ((Below.refl (w.heap.size + 3) wr).drew.trans (HB7.out.mono hzr)).trans HBG.out
      refine hK.out _ _ (fun _ => hS2) (fun _ => ?_)
      clear hK K hS
      have hS := hS2
      clear hS2
      try simp only [Act.put, List.setIfInBounds_toArray, List.set_cons_zero, List.set_cons_succ]
      refine' T_take (i := 10) (v := _) rfl (by kernel_rfl) (by kernel_rfl) (by kernel_rfl) (by kernel_rfl) (fun _ _ _ h => h) (by kernel_rfl) hS ?_ ?_
      rotate_left 1
      · intro Wv hW
        obtain ⟨s1, s2, s3, s4⟩ := HS.out _ hW
        go_simp
        first | done | with_reducible rfl | omega
      try simp only [Act.put, List.setIfInBounds_toArray, List.set_cons_zero, List.set_cons_succ]
      refine T_ready (rs := [11]) (by kernel_rfl) (by simp) ?_
      refine TReady.cons rfl (fun K hK => ?_) TReady.nil
      have HLN9 := Lib.hid (((HLN.out.step (Below.refl wr.heap.size wr).drew).step HB7.out).grown HG9.out (fun e => by have := (HOU.out.lt _ e).1; omega))
      have y1 := HLN9.out.cells.1.2.2.1
      have y2 := HLN9.out.cells.2
      try go_simp
      refine hK.out _ _ (fun h => absurd h (by decide)) (fun _ => ?_)
      clear hK K
      try simp only [Act.put, List.setIfInBounds_toArray, List.set_cons_zero, List.set_cons_succ]
      refine T_done (by kernel_rfl) ?_ _
      refine NoPanic.normal ?_
      try go_simp
      have HN : Hid (l.hk.take (k + 1) = l.hk.take k ++ [[x, y]]) := by show _ = _; rw [List.take_succ_eq_append_getElem h1, ← rx_lt h1, HROW.out]
      have HLF := Lib.hid (HLN9.out.set2 (.slice A9 (k + 1) c9))
      have HOF := Lib.hid (HO9.out.set (ad := ⟨w.heap.size + 2, 2, none⟩) (by dsimp only; omega) (.slice A9 (k + 1) c9))
      have HBF : Hid (Below (w.heap.size + 2) W0 (w9.setCell ⟨w.heap.size + 2, 2, none⟩ (.slice A9 (k + 1) c9))) := (HBW.out.trans (hS.mono (by omega))).setCell (by dsimp only; omega) _
      go_wp2_with fail
      go_roundw
      case rel => exact ⟨k + 1, _, by omega, by go_num, HLF.out, by rw [HN.out]; exact HOF.out, HBF.out⟩
      case measure => simp [intOf]; omega
    · obtain rfl : k = l.hk.length := by omega
      have h1i : ¬ (l.hk.length : Int) < (l.hk.length : Int) := by omega
      rw [List.take_of_length_le (Nat.le_refl _)] at HOU
      go_wp2_with fail
      have HT2 := HLN
      have HBW1 := HBW
      have HOH := HOU
      obtain ⟨Ah, hAh⟩ : ∃ A, A = Au := ⟨_, rfl⟩
      obtain ⟨chh, hchh⟩ : ∃ A, A = cu := ⟨_, rfl⟩
      subst hAh
      subst hchh
      clear HLN HBW HOU HLE0 hk h1 j2 j3 hzr hbw
      generalize wr = wt at *
      go_loopw [5, 6] (fun iv bx wx => ∃ (k : Nat) (u : Value), k ≤ l.pt.length ∧ iv = .int .i64 (k : Int) ∧ LnB wx (w.heap.size + 2) l (.slice Ah l.hk.length chh) u ∧ OwnK 198 5 (w.heap.size + 3) wx u (l.pt.take k) ∧ Below (w.heap.size + 2) W0 wx ∧ OwnK 186 2 (w.heap.size + 3) wx (.slice Ah l.hk.length chh) l.hk ∧ Dis2 u (.slice Ah l.hk.length chh)) (fun iv _ _ => l.pt.length - (intOf iv).toNat)
      case atStart => exact ⟨0, .slice none 0 0, by omega, rfl, HT2.out, OwnK.nil _ _ _ _, HBW1.out, HOH.out, .inl rfl⟩
      case round =>
        obtain ⟨k, u, hk, rfl, hln, hou, hbw, hoh, hdis⟩ := hrel
        have HLN := Lib.hid hln
        have HBW := Lib.hid hbw
        have hlen0 : (l.pt.take k).length = k := by rw [List.length_take]; omega
        obtain ⟨Au, cu, hue⟩ := hou.form
        rw [hlen0] at hue
        subst hue
        have HOU := Lib.hid hou
        have hou9 := hou
        have HLE0 := Lib.hid hlen0
        have HOHk := Lib.hid hoh
        have HDIS := Lib.hid hdis
        clear hoh hdis
        have hzr : w.heap.size + 3 ≤ wr.heap.size := hln.lt
        have hw7 : IntKind.i64.wrap ((k : Int) + 1) = (k : Int) + 1 := IntWalk.i64_in _ (by omega)
        have K2 := HK.out.1
        have K3 := HK.out.2
        have j2 : wr.cell? ⟨w.heap.size, 2, none⟩ = some (.slice H l.hk.length ch) := (hbw.cell (by dsimp only; omega)).trans K2
        have j3 : wr.cell? ⟨w.heap.size, 3, none⟩ = some (.slice P l.pt.length cp) := (hbw.cell (by dsimp only; omega)).trans K3
        clear K2 K3 hou hlen0 hln
        by_cases h1 : k < l.pt.length
        · have h1i : (k : Int) < (l.pt.length : Int) := by omega
          obtain ⟨b1, o1, hA1, hb1, c0, c1, c2, c3, c4⟩ := HPw.out.at5 h1
          have hz1 : b1 < w.heap.size + 2 := by omega
          replace c0 := (hbw.cell (p := ⟨b1, o1 + k * 5, none⟩) (by dsimp only; omega)).trans ((HB.out.cell (p := ⟨b1, o1 + k * 5, none⟩) hb1).trans c0)
          replace c1 := (hbw.cell (p := ⟨b1, o1 + k * 5 + 1, none⟩) (by dsimp only; omega)).trans ((HB.out.cell (p := ⟨b1, o1 + k * 5 + 1, none⟩) hb1).trans c1)
          replace c2 := (hbw.cell (p := ⟨b1, o1 + k * 5 + 2, none⟩) (by dsimp only; omega)).trans ((HB.out.cell (p := ⟨b1, o1 + k * 5 + 2, none⟩) hb1).trans c2)
          replace c3 := (hbw.cell (p := ⟨b1, o1 + k * 5 + 3, none⟩) (by dsimp only; omega)).trans ((HB.out.cell (p := ⟨b1, o1 + k * 5 + 3, none⟩) hb1).trans c3)
          replace c4 := (hbw.cell (p := ⟨b1, o1 + k * 5 + 4, none⟩) (by dsimp only; omega)).trans ((HB.out.cell (p := ⟨b1, o1 + k * 5 + 4, none⟩) hb1).trans c4)
          rw [hA1] at j3 ⊢
          have l2 := HLN.out.cells.1.2.2.2
          obtain ⟨p0, hp0⟩ : ∃ x, x = ix (rx l.pt k) 0 := ⟨_, rfl⟩
          obtain ⟨p1, hp1⟩ : ∃ x, x = ix (rx l.pt k) 1 := ⟨_, rfl⟩
          obtain ⟨p2, hp2⟩ : ∃ x, x = ix (rx l.pt k) 2 := ⟨_, rfl⟩
          obtain ⟨p3, hp3⟩ : ∃ x, x = ix (rx l.pt k) 3 := ⟨_, rfl⟩
          obtain ⟨p4, hp4⟩ : ∃ x, x = ix (rx l.pt k) 4 := ⟨_, rfl⟩
          have hrow : rx l.pt k = [p0, p1, p2, p3, p4] := by
            have h5 := H5.out (rx l.pt k) (by rw [rx_lt h1]; exact List.getElem_mem _)
            rw [hp0, hp1, hp2, hp3, hp4]
            exact five_eq h5
          rw [← hp0] at c0
          rw [← hp1] at c1
          rw [← hp2] at c2
          rw [← hp3] at c3
          rw [← hp4] at c4
          have HROW := Lib.hid hrow
          clear hp0 hp1 hp2 hp3 hp4 hrow
          go_upto_region 10 with fail
          have hbx : Below wr.heap.size wr (wr.alloc (.cells #[.int .i64 p0, .int .i64 p1, .int .i64 p2, .int .i64 p3, .int .i64 p4] 185)) := (Below.refl _ _).alloc (Nat.le_refl _) _
          have hob : (wr.alloc (.cells #[.int .i64 p0, .int .i64 p1, .int .i64 p2, .int .i64 p3, .int .i64 p4] 185)).heap[wr.heap.size]? = some (.cells #[.int .i64 p0, .int .i64 p1, .int .i64 p2, .int .i64 p3, .int .i64 p4] 185) := World.alloc_heap_new _ _
          have hsz : (wr.alloc (.cells #[.int .i64 p0, .int .i64 p1, .int .i64 p2, .int .i64 p3, .int .i64 p4] 185)).heap.size = wr.heap.size + 1 := by simp
          replace HLN := Lib.hid (HLN.out.step hbx)
          replace HOU := Lib.hid (HOU.out.kept hbx)
          replace HOHk := Lib.hid (HOHk.out.kept hbx)
          have HUL : Hid (∀ j, (Value.slice Au k cu).ownBlock = some j → j < wr.heap.size) := fun j e => (hou9.lt j e).2
          have HBWx := Lib.hid (HBW.out.trans (hbx.mono (Nat.le_trans (by omega) hzr)))
          generalize (wr.alloc (.cells #[.int .i64 p0, .int .i64 p1, .int .i64 p2, .int .i64 p3, .int .i64 p4] 185)) = wb at *
          have hzb : w.heap.size + 3 ≤ wb.heap.size := by omega
          obtain ⟨qb, hqb⟩ : ∃ q, q = wr.heap.size := ⟨_, rfl⟩
          have hqz : w.heap.size + 3 ≤ qb := by omega
          rw [← hqb] at hob HUL ⊢
          have HHS : Hid (Hid (SX (w.heap.size + 3) qb (.cells #[.int .i64 p0, .int .i64 p1, .int .i64 p2, .int .i64 p3, .int .i64 p4] 185) wb wb)) := ⟨Below.refl _ _, hob⟩
          have l9 := HLN.out.cells.1.2.2.2
          have HS : Hid (∀ W', SX (w.heap.size + 3) qb (.cells #[.int .i64 p0, .int .i64 p1, .int .i64 p2, .int .i64 p3, .int .i64 p4] 185) wb W' → W'.cell? ⟨w.heap.size + 2, 3, none⟩ = some (.slice Au k cu) ∧ W'.cell? ⟨qb, 0, none⟩ = some (.int .i64 p0) ∧ W'.cell? ⟨qb, 1, none⟩ = some (.int .i64 p1) ∧ W'.cell? ⟨qb, 2, none⟩ = some (.int .i64 p2) ∧ W'.cell? ⟨qb, 3, none⟩ = some (.int .i64 p3) ∧ W'.cell? ⟨qb, 4, none⟩ = some (.int .i64 p4)) := fun W' h => by
            refine ⟨(h.1.cell (p := ⟨w.heap.size + 2, 3, none⟩) (by dsimp only; omega)).trans l9, ?_⟩
            have := h.2
            simp [World.cell?, this]
          have HTO := Lib.hid (fun x y W => to76_c x y W)
          clear c0 c1 c2 c3 c4 l2 l9 hob hsz hbx hqb j2 j3 hou9
          refine wp_region_noPanic ?_
          have hS : SX (w.heap.size + 3) qb (.cells #[.int .i64 p0, .int .i64 p1, .int .i64 p2, .int .i64 p3, .int .i64 p4] 185) wb wb.drew := (HHS.out.out).step hzb (Below.refl _ _).drew
          refine wp_region_any (by kernel_rfl) (wpAny_of_T (S := fun W => SX (w.heap.size + 3) qb (.cells #[.int .i64 p0, .int .i64 p1, .int .i64 p2, .int .i64 p3, .int .i64 p4] 185) wb W) (m := 14) _ _ _ _ ?_)
          refine' T_take (i := 0) (v := _) rfl (by kernel_rfl) (by kernel_rfl) (by kernel_rfl) (by kernel_rfl) (fun _ _ _ h => h) (by kernel_rfl) hS ?_ ?_
          rotate_left 1
          · intro Wv hW
            obtain ⟨s0, s1, s2, s3, s4, s5⟩ := HS.out _ hW
            go_simp
            first | done | with_reducible rfl | omega
          try simp only [Act.put, List.setIfInBounds_toArray, List.set_cons_zero, List.set_cons_succ]
          refine' T_take (i := 1) (v := _) rfl (by kernel_rfl) (by kernel_rfl) (by kernel_rfl) (by kernel_rfl) (fun _ _ _ h => h) (by kernel_rfl) hS ?_ ?_
          rotate_left 1
          · intro Wv hW
            obtain ⟨s0, s1, s2, s3, s4, s5⟩ := HS.out _ hW
            go_simp
            first | done | with_reducible rfl | omega
          try simp only [Act.put, List.setIfInBounds_toArray, List.set_cons_zero, List.set_cons_succ]
          refine' T_take (i := 2) (v := _) rfl (by kernel_rfl) (by kernel_rfl) (by kernel_rfl) (by kernel_rfl) (fun _ _ _ h => h) (by kernel_rfl) hS ?_ ?_
          rotate_left 1
          · intro Wv hW
            obtain ⟨s0, s1, s2, s3, s4, s5⟩ := HS.out _ hW
            go_simp
            first | done | with_reducible rfl | omega
          try simp only [Act.put, List.setIfInBounds_toArray, List.set_cons_zero, List.set_cons_succ]
          refine' T_take (i := 3) (v := _) rfl (by kernel_rfl) (by kernel_rfl) (by kernel_rfl) (by kernel_rfl) (fun _ _ _ h => h) (by kernel_rfl) hS ?_ ?_
          rotate_left 1
          · intro Wv hW
            obtain ⟨s0, s1, s2, s3, s4, s5⟩ := HS.out _ hW
            go_simp
            first | done | with_reducible rfl | omega
          try simp only [Act.put, List.setIfInBounds_toArray, List.set_cons_zero, List.set_cons_succ]
          refine' T_take (i := 5) (v := _) rfl (by kernel_rfl) (by kernel_rfl) (by kernel_rfl) (by kernel_rfl) (fun _ _ _ h => h) (by kernel_rfl) hS ?_ ?_
          rotate_left 1
          · intro Wv hW
            obtain ⟨s0, s1, s2, s3, s4, s5⟩ := HS.out _ hW
            go_simp
            first | done | with_reducible rfl | omega
          try simp only [Act.put, List.setIfInBounds_toArray, List.set_cons_zero, List.set_cons_succ]
          refine' T_take (i := 6) (v := _) rfl (by kernel_rfl) (by kernel_rfl) (by kernel_rfl) (by kernel_rfl) (fun _ _ _ h => h) (by kernel_rfl) hS ?_ ?_
          rotate_left 1
          · intro Wv hW
            obtain ⟨s0, s1, s2, s3, s4, s5⟩ := HS.out _ hW
            go_simp
            first | done | with_reducible rfl | omega
          try simp only [Act.put, List.setIfInBounds_toArray, List.set_cons_zero, List.set_cons_succ]
          refine' T_take (i := 8) (v := _) rfl (by kernel_rfl) (by kernel_rfl) (by kernel_rfl) (by kernel_rfl) (fun _ _ _ h => h) (by kernel_rfl) hS ?_ ?_
          rotate_left 1
          · intro Wv hW
            obtain ⟨s0, s1, s2, s3, s4, s5⟩ := HS.out _ hW
            go_simp
            first | done | with_reducible rfl | omega
          try simp only [Act.put, List.setIfInBounds_toArray, List.set_cons_zero, List.set_cons_succ]
          refine' T_take (i := 9) (v := _) rfl (by kernel_rfl) (by kernel_rfl) (by kernel_rfl) (by kernel_rfl) (fun _ _ _ h => h) (by kernel_rfl) hS ?_ ?_
          rotate_left 1
          · intro Wv hW
            obtain ⟨s0, s1, s2, s3, s4, s5⟩ := HS.out _ hW
            go_simp
            first | done | with_reducible rfl | omega
          try simp only [Act.put, List.setIfInBounds_toArray, List.set_cons_zero, List.set_cons_succ]
          refine T_ready (rs := [4]) (by kernel_rfl) (by simp) ?_
          refine TReady.cons rfl (fun K hK => ?_) TReady.nil
          try go_simp
          refine (HTO.out p0 p1 _).mono ?_
          rintro e w6 ⟨rfl, hb⟩
          have HB6 := Lib.hid hb
          have hS2 := hS.step hzb hb
          try go_simp
          refine hK.out _ _ (fun _ => hS2) (fun _ => ?_)
          clear hK K hS hb
          have hS := hS2
          clear hS2
          try simp only [Act.put, List.setIfInBounds_toArray, List.set_cons_zero, List.set_cons_succ]
          refine T_ready (rs := [7]) (by kernel_rfl) (by simp) ?_
          refine TReady.cons rfl (fun K hK => ?_) TReady.nil
          try go_simp
          refine (HTO.out p2 p3 _).mono ?_
          rintro e w7 ⟨rfl, hb⟩
          have HB7 := Lib.hid hb
          have hS2 := hS.step hzb hb
          try go_simp
          refine hK.out _ _ (fun _ => hS2) (fun _ => ?_)
          clear hK K hS hb
          have hS := hS2
          clear hS2
          try simp only [Act.put, List.setIfInBounds_toArray, List.set_cons_zero, List.set_cons_succ]
          refine' T_take (i := 10) (v := _) rfl (by kernel_rfl) (by kernel_rfl) (by kernel_rfl) (by kernel_rfl) (fun _ _ _ h => h) (by kernel_rfl) hS ?_ ?_
          rotate_left 1
          · intro Wv hW
            obtain ⟨s0, s1, s2, s3, s4, s5⟩ := HS.out _ hW
            go_simp
            first | done | with_reducible rfl | omega
          try simp only [Act.put, List.setIfInBounds_toArray, List.set_cons_zero, List.set_cons_succ]
          refine T_ready (rs := [11]) (by kernel_rfl) (by simp) ?_
          refine TReady.cons rfl (fun K hK => ?_) TReady.nil
          have HS7 := Lib.hid hS
          try go_simp
          refine hK.out _ _ (fun _ => hS.step hzb ((Below.refl _ _).alloc (Nat.le_refl _) _)) (fun hS2 => ?_)
          replace hS := hS2 (by decide)
          clear hS2 hK K
          try simp only [Act.put, List.setIfInBounds_toArray, List.set_cons_zero, List.set_cons_succ]
          refine T_ready (rs := [12]) (by kernel_rfl) (by simp) ?_
          refine TReady.cons rfl (fun K hK => ?_) TReady.nil
          refine step_appK ty101 (.tmp 43) (.tmp 53) rfl rfl (w.heap.size + 3) w7 (.slice Au k cu) (l.pt.take k) [p0, p1, p2, p3, p4] k (cs := #[.int .i64 p0, .int .i64 p1, .int .i64 p2, .int .i64 p3, .int .i64 p4]) rfl rfl rfl rfl (Lib.hid (((HOU.out.kept ((Below.refl wb.heap.size wb).drew)).kept HB6.out).kept HB7.out)) HLE0 rfl (by omega) (Nat.le_trans hzb HS7.out.1.size) ?_
          intro A9 c9 w9 HO9 HG9 HD9
          have hS2 := SX.grown (W := w7) HS7.out hzb HG9.out (fun j e => (HOU.out.lt j e).1) (fun e => by have := HUL.out _ e; omega)
          refine hK.out _ _ (fun _ => hS2) (fun _ => ?_)
          clear hK K hS
          have hS := hS2
          clear hS2
          try simp only [Act.put, List.setIfInBounds_toArray, List.set_cons_zero, List.set_cons_succ]
          refine' T_take (i := 13) (v := _) rfl (by kernel_rfl) (by kernel_rfl) (by kernel_rfl) (by kernel_rfl) (fun _ _ _ h => h) (by kernel_rfl) hS ?_ ?_
          rotate_left 1
          · intro Wv hW
            obtain ⟨s0, s1, s2, s3, s4, s5⟩ := HS.out _ hW
            go_simp
            first | done | with_reducible rfl | omega
          try simp only [Act.put, List.setIfInBounds_toArray, List.set_cons_zero, List.set_cons_succ]
          refine T_ready (rs := [14]) (by kernel_rfl) (by simp) ?_
          refine TReady.cons rfl (fun K hK => ?_) TReady.nil
          have HLN9 := Lib.hid ((((HLN.out.step ((Below.refl wb.heap.size wb).drew)).step HB6.out).step HB7.out).grown HG9.out (fun e => by have := (HOU.out.lt _ e).1; omega))
          have y1 := HLN9.out.cells.1.2.2.2
          have y2 := HLN9.out.cells.2
          try go_simp
          refine hK.out _ _ (fun h => absurd h (by decide)) (fun _ => ?_)
          clear hK K
          try simp only [Act.put, List.setIfInBounds_toArray, List.set_cons_zero, List.set_cons_succ]
          refine T_done (by kernel_rfl) ?_ _
          refine NoPanic.normal ?_
          try go_simp
          have HN : Hid (l.pt.take (k + 1) = l.pt.take k ++ [[p0, p1, p2, p3, p4]]) := by show _ = _; rw [List.take_succ_eq_append_getElem h1, ← rx_lt h1, HROW.out]
          have HLF := Lib.hid (HLN9.out.set3 (.slice A9 (k + 1) c9))
          have HOF := Lib.hid (HO9.out.set (ad := ⟨w.heap.size + 2, 3, none⟩) (by dsimp only; omega) (.slice A9 (k + 1) c9))
          have HBF : Hid (Below (w.heap.size + 2) W0 (w9.setCell ⟨w.heap.size + 2, 3, none⟩ (.slice A9 (k + 1) c9))) := (HBWx.out.trans (hS.1.mono (by omega))).setCell (by dsimp only; omega) _
          have HOHF := Lib.hid ((((((HOHk.out.kept ((Below.refl wb.heap.size wb).drew)).kept HB6.out).kept HB7.out)).grown HG9.out (by
            rcases HDIS.out with e | e
            · by_cases hv : (Value.slice Ah l.hk.length chh).ownBlock = none
              · exact .inl hv
              · exact .inr (by rw [e]; exact hv)
            · exact .inr (Ne.symm e))).set (ad := ⟨w.heap.size + 2, 3, none⟩) (by dsimp only; omega) (.slice A9 (k + 1) c9))
          have HDF : Hid (Dis2 (.slice A9 (k + 1) c9) (.slice Ah l.hk.length chh)) := by
            rcases HD9.out with e | ⟨j, e, hj⟩
            · show Dis2 _ _
              unfold Dis2
              rw [e]
              exact HDIS.out
            · refine .inr ?_
              rw [e]
              intro e2
              have := (((((HOHk.out.kept ((Below.refl wb.heap.size wb).drew)).kept HB6.out).kept HB7.out)).lt j e2.symm).2
              omega
          go_wp2_with fail
          go_roundw
          case rel => exact ⟨k + 1, _, by omega, by go_num, HLF.out, by rw [HN.out]; exact HOF.out, HBF.out, HOHF.out, HDF.out⟩
          case measure => simp [intOf]; omega
        · obtain rfl : k = l.pt.length := by omega
          have h1i : ¬ (l.pt.length : Int) < (l.pt.length : Int) := by omega
          rw [List.take_of_length_le (Nat.le_refl _)] at HOU
          have hG : wr.heap[w.heap.size + 1]? = some (.cells #[.int .i64 0, .int .i64 0, .slice none 0 0, .slice none 0 0] 103) := (hbw.block _ (by omega)).trans HR.out
          obtain ⟨⟨m0, m1, m2, m3⟩, -⟩ := HLN.out.cells
          have g0 : wr.cell? ⟨w.heap.size + 1, 0, none⟩ = some (.int .i64 0) := by simp [World.cell?, hG]
          have g1 : wr.cell? ⟨w.heap.size + 1, 1, none⟩ = some (.int .i64 0) := by simp [World.cell?, hG]
          have g2 : wr.cell? ⟨w.heap.size + 1, 2, none⟩ = some (.slice none 0 0) := by simp [World.cell?, hG]
          have g3 : wr.cell? ⟨w.heap.size + 1, 3, none⟩ = some (.slice none 0 0) := by simp [World.cell?, hG]
          have gf : ∀ o, wr.frozen? ⟨w.heap.size + 1, o, none⟩ = false := by simp [World.frozen?, hG]
          have HF := Lib.hid (four_set (x := .int .i64 l.nb) (y := .int .i64 l.nr) (z := .slice Ah l.hk.length chh) (u := .slice Au l.pt.length cu) hG)
          have HO1 := Lib.hid ((((HOHk.out.set (ad := ⟨w.heap.size + 1, 0, none⟩) (by dsimp only; omega) (.int .i64 l.nb)).set (ad := ⟨w.heap.size + 1, 1, none⟩) (by dsimp only; omega) (.int .i64 l.nr)).set (ad := ⟨w.heap.size + 1, 2, none⟩) (by dsimp only; omega) (.slice Ah l.hk.length chh)).set (ad := ⟨w.heap.size + 1, 3, none⟩) (by dsimp only; omega) (.slice Au l.pt.length cu))
          have HO2 := Lib.hid ((((HOU.out.set (ad := ⟨w.heap.size + 1, 0, none⟩) (by dsimp only; omega) (.int .i64 l.nb)).set (ad := ⟨w.heap.size + 1, 1, none⟩) (by dsimp only; omega) (.int .i64 l.nr)).set (ad := ⟨w.heap.size + 1, 2, none⟩) (by dsimp only; omega) (.slice Ah l.hk.length chh)).set (ad := ⟨w.heap.size + 1, 3, none⟩) (by dsimp only; omega) (.slice Au l.pt.length cu))
          have HBE := Lib.hid (((((HB.out.trans (HBW.out.mono (by omega))).setCell (p := ⟨w.heap.size + 1, 0, none⟩) (by dsimp only; omega) (.int .i64 l.nb)).setCell (p := ⟨w.heap.size + 1, 1, none⟩) (by dsimp only; omega) (.int .i64 l.nr)).setCell (p := ⟨w.heap.size + 1, 2, none⟩) (by dsimp only; omega) (.slice Ah l.hk.length chh)).setCell (p := ⟨w.heap.size + 1, 3, none⟩) (by dsimp only; omega) (.slice Au l.pt.length cu))
          clear hG hbw hzr
          go_wp2_with fail
          obtain ⟨e0, e1, e2, e3⟩ := HF.out
          refine bodyPost_ret (v := LV l Ah Au chh cu) (by simp [LV, results, Try.results32, go_sem, e0, e1, e2, e3]) rfl ?_
          obtain ⟨-, a1, a2, a3⟩ := HO1.out.recs
          obtain ⟨-, d1, d2, d3⟩ := HO2.out.recs
          exact ⟨Ah, Au, chh, cu, rfl, ⟨a1, a2⟩, ⟨d1, d2⟩, a3, d3, HBE.out⟩
end Go.Proofs.Ytenpiinkbfancaa.Pa
