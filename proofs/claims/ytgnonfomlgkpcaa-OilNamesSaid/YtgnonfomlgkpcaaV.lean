/-
  The chapter's own example: the walk.
-/
import Derived.Test.YtgnonfomlgkpcaaU
namespace Go.Proofs.Ytgnonfomlgkpcaa
open Go.RowKit

abbrev lit1 (w : World) (a b c d e f : Int) : World := (w.alloc (.cells #[.int .i64 a, .int .i64 b, .int .i64 c] 3)).alloc (.cells #[.int .i64 d, .int .i64 e, .int .i64 f] 3)
theorem isInts3 {B : Nat} {w : World} {A : Option Addr} {n c : Nat} {xs : List Int} (h : IsInts B w (.slice A n c) xs) : Ints B w A xs := by
  obtain ⟨A', c', e, _, _, h⟩ := h
  injection e with e1
  subst e1
  exact h
theorem lit1_x (w : World) (a b c d e f : Int) : Ints (lit1 w a b c d e f).heap.size (lit1 w a b c d e f) (some ⟨w.heap.size, 0, none⟩) [a, b, c] := isInts3 (ints3 (by go_simp) (by go_simp) (by go_simp))
theorem lit1_y (w : World) (a b c d e f : Int) : Ints (lit1 w a b c d e f).heap.size (lit1 w a b c d e f) (some ⟨w.heap.size + 1, 0, none⟩) [d, e, f] := isInts3 (ints3 (by go_simp) (by go_simp) (by go_simp))
theorem lit1_below (w : World) (a b c d e f : Int) : Below w.heap.size w (lit1 w a b c d e f) := ((Below.refl _ _).alloc (Nat.le_refl _) _).alloc (by simp) _

/-- Two equal patterns. -/
theorem awRows_c {B : Nat} (A : Option Addr) (c : Nat) (w W : World) (a1 a2 a3 b1 b2 b3 c1 c2 c3 : Int) (hg : Grd B w A [[a1, a2, a3], [b1, b2, b3], [c1, c2, c3]]) (hc : 3 ≤ c ∧ c ≤ 9223372036854775807) (hb : Below B w W) (hB : B ≤ W.heap.size) :
    Calls Try.prog 24 #[.slice A 3 c, .slice (some ⟨W.heap.size + 3, 0, none⟩) 3 3] (lit3 W a1 a2 a3 b1 b2 b3 c1 c2 c3) (Ans W (.bool true)) := by
  have h := rows_c (B := (lit3 W a1 a2 a3 b1 b2 b3 c1 c2 c3).heap.size) A (some ⟨W.heap.size + 3, 0, none⟩) [[a1, a2, a3], [b1, b2, b3], [c1, c2, c3]] [[a1, a2, a3], [b1, b2, b3], [c1, c2, c3]] c 3 (lit3 W a1 a2 a3 b1 b2 b3 c1 c2 c3) (((hg.below hb).below ((lit3_below W a1 a2 a3 b1 b2 b3 c1 c2 c3).mono hB)).more (Nat.le_trans hB (lit3_below W a1 a2 a3 b1 b2 b3 c1 c2 c3).size)) (lit3_grd W a1 a2 a3 b1 b2 b3 c1 c2 c3) hc ⟨by simp, by omega⟩
  refine h.mono fun e w' h' => ?_
  obtain ⟨rfl, hb'⟩ := h'.ans
  exact ⟨by simp [eqGB], (lit3_below W a1 a2 a3 b1 b2 b3 c1 c2 c3).trans (hb'.mono (lit3_below W a1 a2 a3 b1 b2 b3 c1 c2 c3).size)⟩

set_option maxRecDepth 100000 in
set_option maxHeartbeats 4000000 in
theorem awake_c (w : World) : Calls Try.prog 17 #[] w (Ans w (.bool true)) := by
  go_enter Try.func17, Try.ntmps17
  go_upto_region 2 with (first | (go_at_call 51; refine (laid_c _).mono ?_; rintro e w1 ⟨A1, c1, rfl, hc1, hg1, hb1⟩; simp only [laidX, List.length_cons, List.length_nil, Nat.reduceAdd] at hc1; have HG1 := Lib.hid hg1; have HB1 := Lib.hid hb1; clear hg1 hb1) | (go_at_call 52; refine (rolled_c _).mono ?_; rintro e w2 ⟨_, rfl, ⟨A2, c2, rfl, l2, m2, hg2⟩, hb2⟩; simp only [rolledX, List.length_cons, List.length_nil, Nat.reduceAdd] at l2; have HG2 := Lib.hid hg2; have HB2 := Lib.hid hb2; clear hg2 hb2) | (go_at_call 20; refine (awPlay_c (B := (lit2 w2 2 3 4 5 5 5).heap.size) A1 A2 (some ⟨w2.heap.size + 2, 0, none⟩) c1 c2 2 (lit2 w2 2 3 4 5 5 5) (Nat.le_refl _) (((HG1.out.below HB2.out).below ((lit2_below w2 2 3 4 5 5 5).mono HB2.out.size)).more (Nat.le_trans HB2.out.size (lit2_below w2 2 3 4 5 5 5).size)) ((HG2.out.below (lit2_below w2 2 3 4 5 5 5)).more (lit2_below w2 2 3 4 5 5 5).size) (lit2_grd w2 2 3 4 5 5 5) hc1 ⟨l2, m2⟩ ⟨by omega, by omega⟩).mono ?_; rintro e w3 ⟨A3, c3, rfl, hc3, hg3, hb3⟩; have HG3 := Lib.hid hg3; have HB3 := Lib.hid (((HB1.out.trans (HB2.out.mono HB1.out.size)).trans ((lit2_below w2 2 3 4 5 5 5).mono (Nat.le_trans HB1.out.size HB2.out.size))).trans (hb3.mono (Nat.le_trans (Nat.le_trans HB1.out.size HB2.out.size) (lit2_below w2 2 3 4 5 5 5).size))); clear hg3 hb3 HG1 HG2 HB1 HB2))
  go_upto_region 3 with (first | (go_at_call 51; refine (laid_c _).mono ?_; rintro e w4 ⟨A4, c4, rfl, hc4, hg4, hb4⟩; simp only [laidX, List.length_cons, List.length_nil, Nat.reduceAdd] at hc4; have HG4 := Lib.hid hg4; have HB4 := Lib.hid hb4; clear hg4 hb4) | (go_at_call 52; refine (rolled_c _).mono ?_; rintro e w5 ⟨_, rfl, ⟨A5, c5, rfl, l5, m5, hg5⟩, hb5⟩; simp only [rolledX, List.length_cons, List.length_nil, Nat.reduceAdd] at l5; have HG5 := Lib.hid hg5; have HB5 := Lib.hid hb5; clear hg5 hb5) | (go_at_call 26; refine (awBounds_c (B := w5.heap.size) A4 A5 c4 c5 w5 (Nat.le_refl _) ((HG4.out.below HB5.out).more HB5.out.size) HG5.out hc4 ⟨l5, m5⟩).mono ?_; rintro e w6 ⟨A6, c6, A7, c7, rfl, hc6, hc7, hg6, hg7, hb6⟩; have HG6 := Lib.hid hg6; have HG7 := Lib.hid hg7; have HB6 := Lib.hid ((HB4.out.trans (HB5.out.mono HB4.out.size)).trans (hb6.mono (Nat.le_trans HB4.out.size HB5.out.size))); clear hg6 hg7 hb6 HG4 HG5 HB4 HB5))
  go_upto_region 4 with (first | (go_at_call 51; refine (laid_c _).mono ?_; rintro e w8 ⟨A8, c8, rfl, hc8, hg8, hb8⟩; simp only [laidX, List.length_cons, List.length_nil, Nat.reduceAdd] at hc8; have HG8 := Lib.hid hg8; have HB8 := Lib.hid hb8; clear hg8 hb8) | (go_at_call 36; refine (awLasts_c (B := (lit1 w8 0 0 0 10 0 0).heap.size) A8 (some ⟨w8.heap.size, 0, none⟩) (some ⟨w8.heap.size + 1, 0, none⟩) c8 3 3 (lit1 w8 0 0 0 10 0 0) (Nat.le_refl _) ((HG8.out.below (lit1_below w8 0 0 0 10 0 0)).more (lit1_below w8 0 0 0 10 0 0).size) (lit1_x w8 0 0 0 10 0 0) (lit1_y w8 0 0 0 10 0 0) hc8 ⟨by omega, by omega⟩ ⟨by omega, by omega⟩).mono ?_; rintro e w9 ⟨rfl, hb9⟩; have HB9 := Lib.hid ((HB8.out.trans ((lit1_below w8 0 0 0 10 0 0).mono HB8.out.size)).trans (hb9.mono (Nat.le_trans HB8.out.size (lit1_below w8 0 0 0 10 0 0).size))); clear hb9 HG8 HB8))
  have HB9' := Lib.hid (HB6.out.trans (HB9.out.mono HB6.out.size))
  go_wp2_with fail
  refine (awRows_c (B := w3.heap.size) A3 c3 w3 w9 _ _ _ _ _ _ _ _ _ HG3.out hc3 HB9'.out HB9'.out.size).mono ?_
  rintro e wa ⟨rfl, hba⟩
  have HBa := Lib.hid hba
  clear hba
  go_wp2_with fail
  refine (awRows_c (B := w6.heap.size) A6 c6 w6 wa _ _ _ _ _ _ _ _ _ HG6.out hc6 (HB9.out.trans (HBa.out.mono HB9.out.size)) (Nat.le_trans HB9.out.size HBa.out.size)).mono ?_
  rintro e wb ⟨rfl, hbb⟩
  have HBb := Lib.hid hbb
  clear hbb
  go_wp2_with fail
  refine (awRows_c (B := w6.heap.size) A7 c7 w6 wb _ _ _ _ _ _ _ _ _ HG7.out hc7 ((HB9.out.trans (HBa.out.mono HB9.out.size)).trans (HBb.out.mono (Nat.le_trans HB9.out.size HBa.out.size))) (Nat.le_trans (Nat.le_trans HB9.out.size HBa.out.size) HBb.out.size)).mono ?_
  rintro e wc ⟨rfl, hbc⟩
  have HBc := Lib.hid hbc
  clear hbc
  go_wp2_with fail
  go_ret
  have z3 := HB3.out.size
  have z9 := HB9'.out.size
  have za := HBa.out.size
  have zb := HBb.out.size
  exact ⟨rfl, (((HB3.out.trans (HB9'.out.mono z3)).trans (HBa.out.mono (Nat.le_trans z3 z9))).trans (HBb.out.mono (Nat.le_trans (Nat.le_trans z3 z9) za))).trans (HBc.out.mono (Nat.le_trans (Nat.le_trans (Nat.le_trans z3 z9) za) zb))⟩
end Go.Proofs.Ytgnonfomlgkpcaa
