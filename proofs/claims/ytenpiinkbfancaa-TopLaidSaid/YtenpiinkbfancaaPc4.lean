/-
  path: the hooks of a state; a ball that has started.
-/
import Derived.Test.YtenpiinkbfancaaPc3
namespace Go.Proofs.Ytenpiinkbfancaa.Pa
open Go.RowKit
set_option linter.unusedSimpArgs false
set_option linter.unusedVariables false

attribute [local go_sem] Oper.semAt_some
theorem below_three (w : World) (o o' o'' : Obj) : Below w.heap.size w (((w.alloc o).alloc o').alloc o'') := (below_two2 w o o').alloc (by simp; omega) _
set_option maxRecDepth 100000 in
set_option maxHeartbeats 4000000 in
theorem hooks72_c (l : Ln) (H P : Option Addr) (ch cp g m r b : Nat) (d : Int) (w : World) (hok : Ok l) (hH : Recs 2 w.heap.size w H l.hk) (hT : TabG w g m (fun r b => level l r b)) (hr : r < m) (hm : m ≤ 12) (hb : b < 41) :
    Calls Try.prog 72 #[BV l H P ch cp g m, .int .i64 (r : Int), .agg #[.int .i64 (b : Int), .int .i64 d]] w (Ans w (.agg #[.int .i64 (hkLo l r b), .int .i64 (hkHi l r b)])) := by
  unfold BV hkLo hkHi
  have hlb := lvl_bd hok r b _ (Nat.le_refl _)
  have hh4 := hok.h4
  obtain ⟨v, hv⟩ : ∃ v : Nat, (v : Int) = level l r b := ⟨(level l r b).toNat, by unfold level; omega⟩
  have hvl : v < l.hk.length := by unfold level at hv; omega
  obtain ⟨bh, oh, hA, hbh, c0, c1⟩ := hH.at2 hvl
  have tc := hT.cell hr hb
  have hgl := hT.lt
  rw [← hv] at tc ⊢
  rw [Int.toNat_natCast]
  subst hA
  generalize ix (rx l.hk v) 0 = x at *
  generalize ix (rx l.hk v) 1 = y at *
  have hb3 := below_three w (.cells #[.int .i64 l.nb, .int .i64 l.nr, .slice (some ⟨bh, oh, none⟩) l.hk.length ch, .slice P l.pt.length cp, .slice (some ⟨g, 0, none⟩) m m] 189) (.cells #[.int .i64 (b : Int), .int .i64 d] 105) (.cells #[.int .i64 0, .int .i64 0] 186)
  have HB := Lib.hid hb3
  replace c0 := cell_of_ans hb3 c0
  replace c1 := cell_of_ans hb3 c1
  replace tc := cell_of_ans hb3 tc
  have k2 : (((w.alloc (.cells #[.int .i64 l.nb, .int .i64 l.nr, .slice (some ⟨bh, oh, none⟩) l.hk.length ch, .slice P l.pt.length cp, .slice (some ⟨g, 0, none⟩) m m] 189)).alloc (.cells #[.int .i64 (b : Int), .int .i64 d] 105)).alloc (.cells #[.int .i64 0, .int .i64 0] 186)).cell? ⟨w.heap.size, 2, none⟩ = some (.slice (some ⟨bh, oh, none⟩) l.hk.length ch) := by go_simp
  have k4 : (((w.alloc (.cells #[.int .i64 l.nb, .int .i64 l.nr, .slice (some ⟨bh, oh, none⟩) l.hk.length ch, .slice P l.pt.length cp, .slice (some ⟨g, 0, none⟩) m m] 189)).alloc (.cells #[.int .i64 (b : Int), .int .i64 d] 105)).alloc (.cells #[.int .i64 0, .int .i64 0] 186)).cell? ⟨w.heap.size, 4, none⟩ = some (.slice (some ⟨g, 0, none⟩) m m) := by go_simp
  have k5 : (((w.alloc (.cells #[.int .i64 l.nb, .int .i64 l.nr, .slice (some ⟨bh, oh, none⟩) l.hk.length ch, .slice P l.pt.length cp, .slice (some ⟨g, 0, none⟩) m m] 189)).alloc (.cells #[.int .i64 (b : Int), .int .i64 d] 105)).alloc (.cells #[.int .i64 0, .int .i64 0] 186)).cell? ⟨w.heap.size + 1, 0, none⟩ = some (.int .i64 (b : Int)) := by go_simp
  have hk6 : (((w.alloc (.cells #[.int .i64 l.nb, .int .i64 l.nr, .slice (some ⟨bh, oh, none⟩) l.hk.length ch, .slice P l.pt.length cp, .slice (some ⟨g, 0, none⟩) m m] 189)).alloc (.cells #[.int .i64 (b : Int), .int .i64 d] 105)).alloc (.cells #[.int .i64 0, .int .i64 0] 186)).heap[w.heap.size + 2]? = some (.cells #[.int .i64 0, .int .i64 0] 186) := by
    have := World.alloc_heap_new ((w.alloc (.cells #[.int .i64 l.nb, .int .i64 l.nr, .slice (some ⟨bh, oh, none⟩) l.hk.length ch, .slice P l.pt.length cp, .slice (some ⟨g, 0, none⟩) m m] 189)).alloc (.cells #[.int .i64 (b : Int), .int .i64 d] 105)) (.cells #[.int .i64 0, .int .i64 0] 186)
    rw [World.size_alloc, World.size_alloc] at this
    exact this
  have HK6 := Lib.hid hk6
  have hri : (r : Int) < (m : Int) := by omega
  have hbi : (b : Int) < 41 := by omega
  have hvi : (v : Int) < (l.hk.length : Int) := by omega
  clear hb3 hlb hv hH hT hok hk6
  go_enter Try.func72, Try.ntmps72
  go_wp2_with fail
  generalize (((w.alloc (.cells #[.int .i64 l.nb, .int .i64 l.nr, .slice (some ⟨bh, oh, none⟩) l.hk.length ch, .slice P l.pt.length cp, .slice (some ⟨g, 0, none⟩) m m] 189)).alloc (.cells #[.int .i64 (b : Int), .int .i64 d] 105)).alloc (.cells #[.int .i64 0, .int .i64 0] 186)) = W0 at *
  have q0 : W0.cell? ⟨w.heap.size + 2, 0, none⟩ = some (.int .i64 0) := by simp [World.cell?, HK6.out]
  have q1 : W0.cell? ⟨w.heap.size + 2, 1, none⟩ = some (.int .i64 0) := by simp [World.cell?, HK6.out]
  have qf : ∀ o, W0.frozen? ⟨w.heap.size + 2, o, none⟩ = false := by simp [World.frozen?, HK6.out]
  have x1 := cell_set_keep (u := .int .i64 y) (p := ⟨w.heap.size + 2, 1, none⟩) (cell_set_keep (u := .int .i64 x) (p := ⟨w.heap.size + 2, 0, none⟩) k2 (by dsimp only; omega)) (by dsimp only; omega)
  have x2 := cell_set_keep (u := .int .i64 y) (p := ⟨w.heap.size + 2, 1, none⟩) (cell_set_keep (u := .int .i64 x) (p := ⟨w.heap.size + 2, 0, none⟩) k4 (by dsimp only; omega)) (by dsimp only; omega)
  have x3 := cell_set_keep (u := .int .i64 y) (p := ⟨w.heap.size + 2, 1, none⟩) (cell_set_keep (u := .int .i64 x) (p := ⟨w.heap.size + 2, 0, none⟩) k5 (by dsimp only; omega)) (by dsimp only; omega)
  have x4 := cell_set_keep (u := .int .i64 y) (p := ⟨w.heap.size + 2, 1, none⟩) (cell_set_keep (u := .int .i64 x) (p := ⟨w.heap.size + 2, 0, none⟩) tc (by dsimp only; omega)) (by dsimp only; omega)
  have x5 := cell_set_keep (u := .int .i64 y) (p := ⟨w.heap.size + 2, 1, none⟩) (cell_set_keep (u := .int .i64 x) (p := ⟨w.heap.size + 2, 0, none⟩) c0 (by dsimp only; omega)) (by dsimp only; omega)
  have x6 := cell_set_keep (u := .int .i64 y) (p := ⟨w.heap.size + 2, 1, none⟩) (cell_set_keep (u := .int .i64 x) (p := ⟨w.heap.size + 2, 0, none⟩) c1 (by dsimp only; omega)) (by dsimp only; omega)
  have HF := Lib.hid (two_set (x := .int .i64 x) (y := .int .i64 y) HK6.out)
  rw [show w.heap.size + 1 + 1 = w.heap.size + 2 from rfl]
  go_region_held3 (fun w' => w'.cell? ⟨w.heap.size, 2, none⟩ = some (.slice (some ⟨bh, oh, none⟩) l.hk.length ch) ∧ w'.cell? ⟨w.heap.size, 4, none⟩ = some (.slice (some ⟨g, 0, none⟩) m m) ∧ w'.cell? ⟨w.heap.size + 1, 0, none⟩ = some (.int .i64 (b : Int)) ∧ w'.cell? ⟨g, r * 41 + b, none⟩ = some (.int .i64 (v : Int)) ∧ w'.cell? ⟨bh, oh + v * 2, none⟩ = some (.int .i64 x) ∧ w'.cell? ⟨bh, oh + v * 2 + 1, none⟩ = some (.int .i64 y)) (go_keep) (first | fail)
  have e0 := cell_of_ans (Below.refl _ _).drew HF.out.1
  have e1 := cell_of_ans (Below.refl _ _).drew HF.out.2
  have HBE := Lib.hid (((HB.out.setCell (p := ⟨w.heap.size + 2, 0, none⟩) (by dsimp only; omega) (.int .i64 x)).setCell (p := ⟨w.heap.size + 2, 1, none⟩) (by dsimp only; omega) (.int .i64 y)).drew)
  clear x1 x2 x3 x4 x5 x6
  go_wp2_with fail
  refine bodyPost_ret (v := .agg #[.int .i64 x, .int .i64 y]) (by simp [results, Try.results72, go_sem, e0, e1]) rfl ?_
  exact ⟨rfl, HBE.out⟩
/-- A ball that has started. -/
def StartP (l : Ln) (H P : Option Addr) (ch cp : Nat) (w : World) (e : Ending) (w' : World) : Prop :=
  ∃ g m : Nat, e = .returned (.tuple #[BV l H P ch cp g m, .int .i64 0]) ∧ (m : Int) = l.nr ∧ TabG w' g m (fun r b => level l r b) ∧ Below w.heap.size w w'
set_option maxRecDepth 100000 in
set_option maxHeartbeats 4000000 in
theorem started71_c (l : Ln) (H P : Option Addr) (ch cp : Nat) (b d : Int) (w : World) (hok : Ok l) (hH : Recs 2 w.heap.size w H l.hk) (hP : Recs 5 w.heap.size w P l.pt) (hs : startB l (b, d) = true) :
    Calls Try.prog 71 #[LV l H P ch cp, .agg #[.int .i64 b, .int .i64 d]] w (StartP l H P ch cp w) := by
  unfold LV
  have hb3 := below_three w (.cells #[.int .i64 l.nb, .int .i64 l.nr, .slice H l.hk.length ch, .slice P l.pt.length cp] 103) (.cells #[.int .i64 b, .int .i64 d] 105) (.cells #[.int .i64 0, .int .i64 0, .slice none 0 0, .slice none 0 0, .slice none 0 0] 189)
  have HB := Lib.hid hb3
  have hs1 : onB l (b, d) = true ∧ inB d (-5) 5 = true := by
    unfold startB at hs
    simpa using hs
  have k0 : (((w.alloc (.cells #[.int .i64 l.nb, .int .i64 l.nr, .slice H l.hk.length ch, .slice P l.pt.length cp] 103)).alloc (.cells #[.int .i64 b, .int .i64 d] 105)).alloc (.cells #[.int .i64 0, .int .i64 0, .slice none 0 0, .slice none 0 0, .slice none 0 0] 189)).cell? ⟨w.heap.size, 0, none⟩ = some (.int .i64 l.nb) := by go_simp
  have k1 : (((w.alloc (.cells #[.int .i64 l.nb, .int .i64 l.nr, .slice H l.hk.length ch, .slice P l.pt.length cp] 103)).alloc (.cells #[.int .i64 b, .int .i64 d] 105)).alloc (.cells #[.int .i64 0, .int .i64 0, .slice none 0 0, .slice none 0 0, .slice none 0 0] 189)).cell? ⟨w.heap.size, 1, none⟩ = some (.int .i64 l.nr) := by go_simp
  have k2 : (((w.alloc (.cells #[.int .i64 l.nb, .int .i64 l.nr, .slice H l.hk.length ch, .slice P l.pt.length cp] 103)).alloc (.cells #[.int .i64 b, .int .i64 d] 105)).alloc (.cells #[.int .i64 0, .int .i64 0, .slice none 0 0, .slice none 0 0, .slice none 0 0] 189)).cell? ⟨w.heap.size, 2, none⟩ = some (.slice H l.hk.length ch) := by go_simp
  have k3 : (((w.alloc (.cells #[.int .i64 l.nb, .int .i64 l.nr, .slice H l.hk.length ch, .slice P l.pt.length cp] 103)).alloc (.cells #[.int .i64 b, .int .i64 d] 105)).alloc (.cells #[.int .i64 0, .int .i64 0, .slice none 0 0, .slice none 0 0, .slice none 0 0] 189)).cell? ⟨w.heap.size, 3, none⟩ = some (.slice P l.pt.length cp) := by go_simp
  have k4 : (((w.alloc (.cells #[.int .i64 l.nb, .int .i64 l.nr, .slice H l.hk.length ch, .slice P l.pt.length cp] 103)).alloc (.cells #[.int .i64 b, .int .i64 d] 105)).alloc (.cells #[.int .i64 0, .int .i64 0, .slice none 0 0, .slice none 0 0, .slice none 0 0] 189)).cell? ⟨w.heap.size + 1, 0, none⟩ = some (.int .i64 b) := by go_simp
  have k5 : (((w.alloc (.cells #[.int .i64 l.nb, .int .i64 l.nr, .slice H l.hk.length ch, .slice P l.pt.length cp] 103)).alloc (.cells #[.int .i64 b, .int .i64 d] 105)).alloc (.cells #[.int .i64 0, .int .i64 0, .slice none 0 0, .slice none 0 0, .slice none 0 0] 189)).cell? ⟨w.heap.size + 1, 1, none⟩ = some (.int .i64 d) := by go_simp
  have HN : Hid ((((w.alloc (.cells #[.int .i64 l.nb, .int .i64 l.nr, .slice H l.hk.length ch, .slice P l.pt.length cp] 103)).alloc (.cells #[.int .i64 b, .int .i64 d] 105)).alloc (.cells #[.int .i64 0, .int .i64 0, .slice none 0 0, .slice none 0 0, .slice none 0 0] 189)).heap[w.heap.size + 2]? = some (.cells #[.int .i64 0, .int .i64 0, .slice none 0 0, .slice none 0 0, .slice none 0 0] 189)) := by
    have := World.alloc_heap_new (((w.alloc (.cells #[.int .i64 l.nb, .int .i64 l.nr, .slice H l.hk.length ch, .slice P l.pt.length cp] 103)).alloc (.cells #[.int .i64 b, .int .i64 d] 105))) (.cells #[.int .i64 0, .int .i64 0, .slice none 0 0, .slice none 0 0, .slice none 0 0] 189)
    rw [World.size_alloc, World.size_alloc] at this
    exact this
  have HZ : Hid ((((w.alloc (.cells #[.int .i64 l.nb, .int .i64 l.nr, .slice H l.hk.length ch, .slice P l.pt.length cp] 103)).alloc (.cells #[.int .i64 b, .int .i64 d] 105)).alloc (.cells #[.int .i64 0, .int .i64 0, .slice none 0 0, .slice none 0 0, .slice none 0 0] 189)).heap.size = w.heap.size + 3) := by show _ = _; simp
  have HC := Lib.hid (check126_c l H P ch cp (((w.alloc (.cells #[.int .i64 l.nb, .int .i64 l.nr, .slice H l.hk.length ch, .slice P l.pt.length cp] 103)).alloc (.cells #[.int .i64 b, .int .i64 d] 105)).alloc (.cells #[.int .i64 0, .int .i64 0, .slice none 0 0, .slice none 0 0, .slice none 0 0] 189)) hok (hH.step hb3) (hP.step hb3))
  have HO : Hid (∀ W, Calls Try.prog 75 #[LV l H P ch cp, .agg #[.int .i64 b, .int .i64 d]] W (Ans W (.bool true))) := fun W => by rw [← hs1.1]; exact on75_c l H P ch cp b d W
  have HI : Hid (∀ W, Calls Try.prog 94 #[.int .i64 d, .int .i64 (-5), .int .i64 5] W (Same W (.bool true))) := fun W => by rw [← hs1.2]; exact within94_c d (-5) 5 W
  have HL : Hid (∀ W, Below w.heap.size w W → Calls Try.prog 127 #[LV l H P ch cp] W (BallP l H P ch cp W)) := fun W h => ball127_c l H P ch cp W hok (hP.step h)
  clear hb3 hs hs1 hok hH hP
  unfold LV at HC HO HL
  go_enter Try.func71, Try.ntmps71
  go_wp2_with fail
  generalize (((w.alloc (.cells #[.int .i64 l.nb, .int .i64 l.nr, .slice H l.hk.length ch, .slice P l.pt.length cp] 103)).alloc (.cells #[.int .i64 b, .int .i64 d] 105)).alloc (.cells #[.int .i64 0, .int .i64 0, .slice none 0 0, .slice none 0 0, .slice none 0 0] 189)) = W0 at *
  refine HC.out.mono ?_
  rintro e w1 ⟨rfl, hb⟩
  replace k0 := cell_of_ans hb k0
  replace k1 := cell_of_ans hb k1
  replace k2 := cell_of_ans hb k2
  replace k3 := cell_of_ans hb k3
  replace k4 := cell_of_ans hb k4
  replace k5 := cell_of_ans hb k5
  have HB1 := Lib.hid hb
  clear hb HC
  go_wp2_with fail
  refine (HO.out w1).mono ?_
  rintro e w2 ⟨rfl, hb⟩
  replace k0 := cell_of_ans hb k0
  replace k1 := cell_of_ans hb k1
  replace k2 := cell_of_ans hb k2
  replace k3 := cell_of_ans hb k3
  replace k5 := cell_of_ans hb k5
  have HB2 : Hid (Below W0.heap.size W0 w2) := HB1.out.trans (hb.mono HB1.out.size)
  clear hb k4
  go_wp2_with fail
  refine (HI.out w2).mono ?_
  rintro e w3 ⟨rfl, rfl⟩
  go_wp2_with fail
  refine (HL.out w2 (HB.out.trans (HB2.out.mono HB.out.size))).mono ?_
  rintro e wb ⟨g, m, rfl, hm, hT, hb⟩
  have HM := Lib.hid hm
  have HT := Lib.hid hT
  have HBb : Hid (Below W0.heap.size W0 wb) := HB2.out.trans (hb.mono HB2.out.size)
  have HGE := Lib.hid hT.lt
  have hz := HZ.out
  have hG : wb.heap[w.heap.size + 2]? = some (.cells #[.int .i64 0, .int .i64 0, .slice none 0 0, .slice none 0 0, .slice none 0 0] 189) := (HBb.out.block _ (by omega)).trans HN.out
  have g0 : wb.cell? ⟨w.heap.size + 2, 0, none⟩ = some (.int .i64 0) := by simp [World.cell?, hG]
  have g1 : wb.cell? ⟨w.heap.size + 2, 1, none⟩ = some (.int .i64 0) := by simp [World.cell?, hG]
  have g2 : wb.cell? ⟨w.heap.size + 2, 2, none⟩ = some (.slice none 0 0) := by simp [World.cell?, hG]
  have g3 : wb.cell? ⟨w.heap.size + 2, 3, none⟩ = some (.slice none 0 0) := by simp [World.cell?, hG]
  have g4 : wb.cell? ⟨w.heap.size + 2, 4, none⟩ = some (.slice none 0 0) := by simp [World.cell?, hG]
  have gf : ∀ o, wb.frozen? ⟨w.heap.size + 2, o, none⟩ = false := by simp [World.frozen?, hG]
  have HF := Lib.hid (five_set (x := .int .i64 l.nb) (y := .int .i64 l.nr) (z := .slice H l.hk.length ch) (u := .slice P l.pt.length cp) (s := .slice (some ⟨g, 0, none⟩) m m) hG)
  have hgne : g ≠ w.heap.size + 2 := by
    rintro rfl
    obtain ⟨arr, ha, _⟩ := hT
    rw [hG] at ha
    simp at ha
  have HBE : Hid (Below w.heap.size w (((((wb.setCell ⟨w.heap.size + 2, 0, none⟩ (.int .i64 l.nb)).setCell ⟨w.heap.size + 2, 1, none⟩ (.int .i64 l.nr)).setCell ⟨w.heap.size + 2, 2, none⟩ (.slice H l.hk.length ch)).setCell ⟨w.heap.size + 2, 3, none⟩ (.slice P l.pt.length cp)).setCell ⟨w.heap.size + 2, 4, none⟩ (.slice (some ⟨g, 0, none⟩) m m))) := (((((HB.out.trans (HBb.out.mono HB.out.size)).setCell (by dsimp only; omega) _).setCell (by dsimp only; omega) _).setCell (by dsimp only; omega) _).setCell (by dsimp only; omega) _).setCell (by dsimp only; omega) _
  have HTE : Hid (TabG (((((wb.setCell ⟨w.heap.size + 2, 0, none⟩ (.int .i64 l.nb)).setCell ⟨w.heap.size + 2, 1, none⟩ (.int .i64 l.nr)).setCell ⟨w.heap.size + 2, 2, none⟩ (.slice H l.hk.length ch)).setCell ⟨w.heap.size + 2, 3, none⟩ (.slice P l.pt.length cp)).setCell ⟨w.heap.size + 2, 4, none⟩ (.slice (some ⟨g, 0, none⟩) m m)) g m (fun r b => level l r b)) := ((((HT.out.far (ad := ⟨w.heap.size + 2, 0, none⟩) hgne _).far (ad := ⟨w.heap.size + 2, 1, none⟩) hgne _).far (ad := ⟨w.heap.size + 2, 2, none⟩) hgne _).far (ad := ⟨w.heap.size + 2, 3, none⟩) hgne _).far (ad := ⟨w.heap.size + 2, 4, none⟩) hgne _
  clear hG hT hm hb
  unfold BV
  go_wp2_with fail
  have hF := HF.out
  refine bodyPost_ret (v := .tuple #[BV l H P ch cp g m, .int .i64 0]) (by simp [BV, results, Try.results71, go_sem, World.cell?, hF]) rfl ?_
  exact ⟨g, m, rfl, HM.out, HTE.out, HBE.out⟩
end Go.Proofs.Ytenpiinkbfancaa.Pa
