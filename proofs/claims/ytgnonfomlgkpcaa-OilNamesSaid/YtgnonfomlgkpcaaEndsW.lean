/-
  OilEnds: the walk.
-/
import Derived.Test.YtgnonfomlgkpcaaEnded
import Derived.Deep.RegionHeld3
namespace Go.Proofs.Ytgnonfomlgkpcaa
open Go.RowKit

/-- Two new patterns and no error. -/
def OkGrd2 (w : World) (yss zss : List (List Int)) (e : Ending) (w' : World) : Prop :=
  ∃ A c A' c', e = .returned (.tuple #[.slice A yss.length c, .slice A' zss.length c', .int .i64 0]) ∧ (yss.length ≤ c ∧ c ≤ 9223372036854775807) ∧ (zss.length ≤ c' ∧ c' ≤ 9223372036854775807) ∧ Grd w'.heap.size w' A yss ∧ Grd w'.heap.size w' A' zss ∧ Below w.heap.size w w'
/-- The bounds. -/
noncomputable def lowX (xss bss : List (List Int)) (lo hi ca : Int) : List (List Int) := rowsOf (endO ca xss.length bss lo hi (oilOf xss) bss.length) (rx xss 0).length xss.length
noncomputable def highX (xss bss : List (List Int)) (lo hi ca : Int) : List (List Int) := rowsOf (endO ca xss.length bss hi lo (oilOf xss) bss.length) (rx xss 0).length xss.length
theorem lowX_len (xss bss : List (List Int)) (lo hi ca : Int) : (lowX xss bss lo hi ca).length = xss.length := rowsOf_len _ _ _
theorem highX_len (xss bss : List (List Int)) (lo hi ca : Int) : (highX xss bss lo hi ca).length = xss.length := rowsOf_len _ _ _
theorem playX_len (xss bss wss : List (List Int)) (ca : Int) : (playX xss bss wss ca).length = xss.length := rowsOf_len _ _ _

theorem bounds_ok_c (A Ab : Option Addr) (xss bss : List (List Int)) (c cb : Nat) (lo hi ca : Int) (w : World) (hr : Grd w.heap.size w A xss) (hb : Grd w.heap.size w Ab bss) (hc : xss.length ≤ c ∧ c ≤ 9223372036854775807) (hcb : bss.length ≤ cb ∧ cb ≤ 9223372036854775807) (h : ballsErr xss lo hi ca bss = 0) :
    Calls Try.prog 26 #[.agg #[.slice A xss.length c, .int .i64 lo, .int .i64 hi, .int .i64 ca], .slice Ab bss.length cb] w (OkGrd2 w (lowX xss bss lo hi ca) (highX xss bss lo hi ca)) := by
  refine (bounds_c A Ab xss bss c cb lo hi ca w (Nat.le_refl _) hr hb hc hcb).mono ?_
  rintro e w' (⟨h1, _⟩ | ⟨_, v, u, rfl, ⟨A1, c1, rfl, a1, a2, a3⟩, ⟨A2, c2, rfl, b1, b2, b3⟩, hb⟩)
  · exact absurd h h1
  · exact ⟨A1, c1, A2, c2, rfl, ⟨a1, a2⟩, ⟨b1, b2⟩, a3, b3, hb⟩
theorem bounds_bad_c (A Ab : Option Addr) (xss bss : List (List Int)) (c cb : Nat) (lo hi ca : Int) (w : World) (hr : Grd w.heap.size w A xss) (hb : Grd w.heap.size w Ab bss) (hc : xss.length ≤ c ∧ c ≤ 9223372036854775807) (hcb : bss.length ≤ cb ∧ cb ≤ 9223372036854775807) (h : ballsErr xss lo hi ca bss ≠ 0) :
    Calls Try.prog 26 #[.agg #[.slice A xss.length c, .int .i64 lo, .int .i64 hi, .int .i64 ca], .slice Ab bss.length cb] w (Ans w (.tuple #[.slice none 0 0, .slice none 0 0, .int .i64 (ballsErr xss lo hi ca bss)])) := by
  refine (bounds_c A Ab xss bss c cb lo hi ca w (Nat.le_refl _) hr hb hc hcb).mono ?_
  rintro e w' (⟨_, h1, h2⟩ | ⟨h1, _⟩)
  · exact ⟨h1, h2⟩
  · exact absurd h1 h

theorem readyB_ok {xss bss : List (List Int)} {lo hi ca : Int} (h : readyB xss lo hi ca bss = true) : shortB 12 xss = true ∧ shortB 25 bss = true ∧ ballsErr xss lo hi ca bss = 0 := by
  simp only [readyB, Bool.and_eq_true, decide_eq_true_eq] at h
  exact ⟨h.1.1, h.1.2, h.2⟩
theorem playErr_ended {xss bss : List (List Int)} {lo hi ca : Int} (h : ballsErr xss lo hi ca bss = 0) (r : Nat) (high : Bool) : playErr xss lo hi ca bss (endedX xss.length bss.length lo hi r high) = 0 := by
  have hle := laneOk (ballsOk h).1
  simp [playErr, h, ended_wears bss hle.2.2.2.2.2.1]
theorem tmod_nat (k : Int) (n : Nat) (h0 : 0 ≤ k) (hn : 0 < n) : ∃ r : Nat, r < n ∧ k.tmod (n : Int) = (r : Int) := by
  refine ⟨(k % (n : Int)).toNat, ?_, ?_⟩
  · have := Int.emod_lt_of_pos k (b := (n : Int)) (by omega)
    have := Int.emod_nonneg k (b := (n : Int)) (by omega)
    omega
  · rw [Int.tmod_eq_emod_of_nonneg h0]
    have := Int.emod_nonneg k (b := (n : Int)) (by omega)
    omega
theorem emod_nat (k : Int) (n : Nat) (hn : 0 < n) : ∃ r : Nat, r < n ∧ k % (n : Int) = (r : Int) := by
  refine ⟨(k % (n : Int)).toNat, ?_, ?_⟩
  · have := Int.emod_lt_of_pos k (b := (n : Int)) (by omega)
    have := Int.emod_nonneg k (b := (n : Int)) (by omega)
    omega
  · have := Int.emod_nonneg k (b := (n : Int)) (by omega)
    omega

theorem ints_same_c (A A' : Option Addr) (xs ys : List Int) (c c' : Nat) (w : World) (hx : Ints w.heap.size w A xs) (hy : Ints w.heap.size w A' ys) (hc : xs.length ≤ c ∧ c ≤ 9223372036854775807) (hc' : ys.length ≤ c' ∧ c' ≤ 9223372036854775807) (h : xs = ys) :
    Calls Try.prog 30 #[.slice A xs.length c, .slice A' ys.length c'] w (Ans w (.bool true)) := by
  refine (ints_c A A' xs ys c c' w hx hy hc hc').mono fun e w' h' => ?_
  have e : eqB xs ys = true := by simp [eqB, h]
  rw [e] at h'
  exact h'.ans

set_option maxRecDepth 100000 in
set_option maxHeartbeats 8000000 in
theorem oilEnds_c (A Ab : Option Addr) (xss bss : List (List Int)) (c cb : Nat) (lo hi ca which : Int) (w : World) (hx : Grd w.heap.size w A xss) (hbs : Grd w.heap.size w Ab bss) (hc : xss.length ≤ c ∧ c ≤ 9223372036854775807) (hcb : bss.length ≤ cb ∧ cb ≤ 9223372036854775807) (hw0 : 0 ≤ which) (hw1 : which ≤ 255) :
    Calls Try.prog 5 #[.agg #[.slice A xss.length c, .int .i64 lo, .int .i64 hi, .int .i64 ca], .slice Ab bss.length cb, .int .u8 which] w (Ans w (.bool true)) := by
  have hb0 : Below w.heap.size w (w.alloc (.cells #[.slice A xss.length c, .int .i64 lo, .int .i64 hi, .int .i64 ca] 26)) := (Below.refl _ _).alloc (Nat.le_refl _) _
  have k0 : (w.alloc (.cells #[.slice A xss.length c, .int .i64 lo, .int .i64 hi, .int .i64 ca] 26)).cell? ⟨w.heap.size, 0, none⟩ = some (.slice A xss.length c) := by simp
  have k1 : (w.alloc (.cells #[.slice A xss.length c, .int .i64 lo, .int .i64 hi, .int .i64 ca] 26)).cell? ⟨w.heap.size, 1, none⟩ = some (.int .i64 lo) := by simp
  have k2 : (w.alloc (.cells #[.slice A xss.length c, .int .i64 lo, .int .i64 hi, .int .i64 ca] 26)).cell? ⟨w.heap.size, 2, none⟩ = some (.int .i64 hi) := by simp
  have k3 : (w.alloc (.cells #[.slice A xss.length c, .int .i64 lo, .int .i64 hi, .int .i64 ca] 26)).cell? ⟨w.heap.size, 3, none⟩ = some (.int .i64 ca) := by simp
  have HX := Lib.hid (hx.step hb0)
  have HBs := Lib.hid (hbs.step hb0)
  have HB := Lib.hid hb0
  clear hb0 hx hbs
  go_enter Try.func5, Try.ntmps5
  go_wp2_with fail
  generalize (w.alloc (.cells #[.slice A xss.length c, .int .i64 lo, .int .i64 hi, .int .i64 ca] 26)) = W0 at k0 k1 k2 k3 HX HBs HB ⊢
  cases hP : readyB xss lo hi ca bss
  · have HP := Lib.hid hP
    clear hP
    refine (ready_c A Ab xss bss c cb lo hi ca _ HX.out HBs.out hc hcb).mono ?_
    rw [HP.out]
    rintro e w1 ⟨rfl, hb⟩
    replace HX := Lib.hid (HX.out.step hb)
    replace HBs := Lib.hid (HBs.out.step hb)
    replace k0 := cell_of_ans hb k0
    replace k1 := cell_of_ans hb k1
    replace k2 := cell_of_ans hb k2
    replace k3 := cell_of_ans hb k3
    replace HB := Lib.hid (HB.out.trans (hb.mono HB.out.size))
    clear hb
    go_wp2_with fail
    refine (awake_c _).mono ?_
    rintro e w9 ⟨rfl, hb⟩
    replace HX := Lib.hid (HX.out.step hb)
    replace HBs := Lib.hid (HBs.out.step hb)
    replace k0 := cell_of_ans hb k0
    replace k1 := cell_of_ans hb k1
    replace k2 := cell_of_ans hb k2
    replace k3 := cell_of_ans hb k3
    replace HB := Lib.hid (HB.out.trans (hb.mono HB.out.size))
    clear hb
    go_wp2_with fail
    go_ret
    exact ⟨rfl, HB.out⟩
  · have HP := Lib.hid hP
    clear hP
    refine (ready_c A Ab xss bss c cb lo hi ca _ HX.out HBs.out hc hcb).mono ?_
    rw [HP.out]
    rintro e w1 ⟨rfl, hb⟩
    replace HX := Lib.hid (HX.out.step hb)
    replace HBs := Lib.hid (HBs.out.step hb)
    replace k0 := cell_of_ans hb k0
    replace k1 := cell_of_ans hb k1
    replace k2 := cell_of_ans hb k2
    replace k3 := cell_of_ans hb k3
    replace HB := Lib.hid (HB.out.trans (hb.mono HB.out.size))
    clear hb
    obtain ⟨hs1, hs2, hE⟩ := readyB_ok HP.out
    have HS1 := Lib.hid hs1
    have HS2 := Lib.hid hs2
    have HE := Lib.hid hE
    obtain ⟨hn0, hn8, -⟩ := laneOk (ballsOk hE).1
    have hm20 := (ballsOk hE).2.1
    clear hs1 hs2 hE
    obtain ⟨r, hr, her⟩ := emod_nat which xss.length hn0
    have HER := Lib.hid her
    clear her
    go_wp2_with fail
    refine (lane_c A xss c lo hi ca _ (Nat.le_refl _) HX.out (shortB_big (by omega) HS1.out).1 (shortB_big (by omega) HS1.out).2).mono ?_
    rintro e w2 ⟨A2, c2, rfl, hc2, g2, hb⟩
    replace HX := Lib.hid (HX.out.step hb)
    replace HBs := Lib.hid (HBs.out.step hb)
    replace k0 := cell_of_ans hb k0
    replace k1 := cell_of_ans hb k1
    replace k2 := cell_of_ans hb k2
    replace k3 := cell_of_ans hb k3
    replace HB := Lib.hid (HB.out.trans (hb.mono HB.out.size))
    clear hb
    have Hg2 := Lib.hid g2
    clear g2
    go_wp2_with fail
    refine (copied_new_c Ab bss cb _ HBs.out (shortB_big (by omega) HS2.out).1 (shortB_big (by omega) HS2.out).2).mono ?_
    rintro e w3 ⟨A3, c3, rfl, hc3, g3, hb⟩
    replace HX := Lib.hid (HX.out.step hb)
    replace HBs := Lib.hid (HBs.out.step hb)
    replace k0 := cell_of_ans hb k0
    replace k1 := cell_of_ans hb k1
    replace k2 := cell_of_ans hb k2
    replace k3 := cell_of_ans hb k3
    replace Hg2 := Lib.hid (Hg2.out.step hb)
    replace HB := Lib.hid (HB.out.trans (hb.mono HB.out.size))
    clear hb
    have Hg3 := Lib.hid g3
    clear g3
    go_wp2_with fail
    refine (bounds_ok_c A2 A3 xss bss c2 c3 lo hi ca _ Hg2.out Hg3.out hc2 hc3 HE.out).mono ?_
    rintro e w4 ⟨A4, c4, A5, c5, rfl, hc4, hc5, g4, g5, hb⟩
    replace HX := Lib.hid (HX.out.step hb)
    replace HBs := Lib.hid (HBs.out.step hb)
    replace k0 := cell_of_ans hb k0
    replace k1 := cell_of_ans hb k1
    replace k2 := cell_of_ans hb k2
    replace k3 := cell_of_ans hb k3
    replace Hg2 := Lib.hid (Hg2.out.step hb)
    replace Hg3 := Lib.hid (Hg3.out.step hb)
    replace HB := Lib.hid (HB.out.trans (hb.mono HB.out.size))
    clear hb
    have Hg4 := Lib.hid g4
    clear g4
    have Hg5 := Lib.hid g5
    clear g5
    clear Hg2 Hg3
    go_wp2_with fail
    rw [HER.out]
    have hd : Below w4.heap.size w4 w4.drew := (Below.refl _ _).drew
    replace HX := Lib.hid (HX.out.step hd)
    replace HBs := Lib.hid (HBs.out.step hd)
    replace Hg4 := Lib.hid (Hg4.out.step hd)
    replace Hg5 := Lib.hid (Hg5.out.step hd)
    replace HB := Lib.hid (HB.out.trans (hd.mono HB.out.size))
    clear hd
    have HLb : Hid ((endedX xss.length bss.length lo hi r false).length = bss.length) := by show _ = _; simp [endedX]
    go_region_held3 (fun w' => w'.cell? ⟨w.heap.size, 0, none⟩ = some (.slice A xss.length c) ∧ w'.cell? ⟨w.heap.size, 1, none⟩ = some (.int .i64 lo) ∧ w'.cell? ⟨w.heap.size, 2, none⟩ = some (.int .i64 hi) ∧ w'.cell? ⟨w.heap.size, 3, none⟩ = some (.int .i64 ca)) (go_keep) (first | (go_at_call 19; refine (lane_c A xss c lo hi ca _ (Nat.le_refl _) HX.out (shortB_big (by omega) HS1.out).1 (shortB_big (by omega) HS1.out).2).mono ?_; rintro e w5 ⟨A6, c6, rfl, hc6, g6, hb⟩; replace HX := Lib.hid (HX.out.step hb); replace HBs := Lib.hid (HBs.out.step hb); replace k0 := cell_of_ans (below_drew_l hb) k0; replace k1 := cell_of_ans (below_drew_l hb) k1; replace k2 := cell_of_ans (below_drew_l hb) k2; replace k3 := cell_of_ans (below_drew_l hb) k3; replace Hg4 := Lib.hid (Hg4.out.step hb); replace Hg5 := Lib.hid (Hg5.out.step hb); replace HB := Lib.hid (HB.out.trans (hb.mono HB.out.size)); clear hb; have Hg6 := Lib.hid g6; clear g6) | (go_at_call 21; refine (copied_new_c Ab bss cb _ HBs.out (shortB_big (by omega) HS2.out).1 (shortB_big (by omega) HS2.out).2).mono ?_; rintro e w6 ⟨A7, c7, rfl, hc7, g7, hb⟩; replace HX := Lib.hid (HX.out.step hb); replace HBs := Lib.hid (HBs.out.step hb); replace k0 := cell_of_ans hb k0; replace k1 := cell_of_ans hb k1; replace k2 := cell_of_ans hb k2; replace k3 := cell_of_ans hb k3; replace Hg4 := Lib.hid (Hg4.out.step hb); replace Hg5 := Lib.hid (Hg5.out.step hb); replace Hg6 := Lib.hid (Hg6.out.step hb); replace HB := Lib.hid (HB.out.trans (hb.mono HB.out.size)); clear hb; have Hg7 := Lib.hid g7; clear g7) | (go_at_call 29; refine (ended_c A Ab xss.length bss.length c cb lo hi ca r false _ (by omega) (by omega)).mono ?_; rintro e w7 ⟨A8, c8, rfl, hc8, g8, hb⟩; replace HX := Lib.hid (HX.out.step hb); replace HBs := Lib.hid (HBs.out.step hb); replace k0 := cell_of_ans hb k0; replace k1 := cell_of_ans hb k1; replace k2 := cell_of_ans hb k2; replace k3 := cell_of_ans hb k3; replace Hg4 := Lib.hid (Hg4.out.step hb); replace Hg5 := Lib.hid (Hg5.out.step hb); replace Hg6 := Lib.hid (Hg6.out.step hb); replace Hg7 := Lib.hid (Hg7.out.step hb); replace HB := Lib.hid (HB.out.trans (hb.mono HB.out.size)); clear hb; have Hg8 := Lib.hid g8; clear g8) | (go_at_call 20; refine (play_ok_c A6 A7 A8 xss bss (endedX xss.length bss.length lo hi r false) c6 c7 c8 lo hi ca _ Hg6.out Hg7.out Hg8.out hc6 hc7 hc8 (playErr_ended HE.out r false)).mono ?_; rintro e w8 ⟨Ap, cp, rfl, hcp, gp, hb⟩; replace HX := Lib.hid (HX.out.step hb); replace HBs := Lib.hid (HBs.out.step hb); replace k0 := cell_of_ans hb k0; replace k1 := cell_of_ans hb k1; replace k2 := cell_of_ans hb k2; replace k3 := cell_of_ans hb k3; replace Hg4 := Lib.hid (Hg4.out.step hb); replace Hg5 := Lib.hid (Hg5.out.step hb); replace Hg6 := Lib.hid (Hg6.out.step hb); replace Hg7 := Lib.hid (Hg7.out.step hb); replace Hg8 := Lib.hid (Hg8.out.step hb); replace HB := Lib.hid (HB.out.trans (hb.mono HB.out.size)); clear hb; have Hgp := Lib.hid gp; clear gp))
    clear Hg6 Hg7 Hg8
    clear HLb hc6 hc7 hc8
    go_wp2_with fail
    have hd : Below w8.heap.size w8 w8.drew := (Below.refl _ _).drew
    replace HX := Lib.hid (HX.out.step hd)
    replace HBs := Lib.hid (HBs.out.step hd)
    replace Hg4 := Lib.hid (Hg4.out.step hd)
    replace Hg5 := Lib.hid (Hg5.out.step hd)
    replace Hgp := Lib.hid (Hgp.out.step hd)
    replace HB := Lib.hid (HB.out.trans (hd.mono HB.out.size))
    clear hd
    have HLb : Hid ((endedX xss.length bss.length lo hi r true).length = bss.length) := by show _ = _; simp [endedX]
    go_region_held3 (fun w' => w'.cell? ⟨w.heap.size, 0, none⟩ = some (.slice A xss.length c) ∧ w'.cell? ⟨w.heap.size, 1, none⟩ = some (.int .i64 lo) ∧ w'.cell? ⟨w.heap.size, 2, none⟩ = some (.int .i64 hi) ∧ w'.cell? ⟨w.heap.size, 3, none⟩ = some (.int .i64 ca)) (go_keep) (first | (go_at_call 19; refine (lane_c A xss c lo hi ca _ (Nat.le_refl _) HX.out (shortB_big (by omega) HS1.out).1 (shortB_big (by omega) HS1.out).2).mono ?_; rintro e w9 ⟨A6, c6, rfl, hc6, g6, hb⟩; replace HX := Lib.hid (HX.out.step hb); replace HBs := Lib.hid (HBs.out.step hb); replace k0 := cell_of_ans (below_drew_l hb) k0; replace k1 := cell_of_ans (below_drew_l hb) k1; replace k2 := cell_of_ans (below_drew_l hb) k2; replace k3 := cell_of_ans (below_drew_l hb) k3; replace Hg4 := Lib.hid (Hg4.out.step hb); replace Hg5 := Lib.hid (Hg5.out.step hb); replace Hgp := Lib.hid (Hgp.out.step hb); replace HB := Lib.hid (HB.out.trans (hb.mono HB.out.size)); clear hb; have Hg6 := Lib.hid g6; clear g6) | (go_at_call 21; refine (copied_new_c Ab bss cb _ HBs.out (shortB_big (by omega) HS2.out).1 (shortB_big (by omega) HS2.out).2).mono ?_; rintro e w10 ⟨A7, c7, rfl, hc7, g7, hb⟩; replace HX := Lib.hid (HX.out.step hb); replace HBs := Lib.hid (HBs.out.step hb); replace k0 := cell_of_ans hb k0; replace k1 := cell_of_ans hb k1; replace k2 := cell_of_ans hb k2; replace k3 := cell_of_ans hb k3; replace Hg4 := Lib.hid (Hg4.out.step hb); replace Hg5 := Lib.hid (Hg5.out.step hb); replace Hgp := Lib.hid (Hgp.out.step hb); replace Hg6 := Lib.hid (Hg6.out.step hb); replace HB := Lib.hid (HB.out.trans (hb.mono HB.out.size)); clear hb; have Hg7 := Lib.hid g7; clear g7) | (go_at_call 29; refine (ended_c A Ab xss.length bss.length c cb lo hi ca r true _ (by omega) (by omega)).mono ?_; rintro e w11 ⟨A8, c8, rfl, hc8, g8, hb⟩; replace HX := Lib.hid (HX.out.step hb); replace HBs := Lib.hid (HBs.out.step hb); replace k0 := cell_of_ans hb k0; replace k1 := cell_of_ans hb k1; replace k2 := cell_of_ans hb k2; replace k3 := cell_of_ans hb k3; replace Hg4 := Lib.hid (Hg4.out.step hb); replace Hg5 := Lib.hid (Hg5.out.step hb); replace Hgp := Lib.hid (Hgp.out.step hb); replace Hg6 := Lib.hid (Hg6.out.step hb); replace Hg7 := Lib.hid (Hg7.out.step hb); replace HB := Lib.hid (HB.out.trans (hb.mono HB.out.size)); clear hb; have Hg8 := Lib.hid g8; clear g8) | (go_at_call 20; refine (play_ok_c A6 A7 A8 xss bss (endedX xss.length bss.length lo hi r true) c6 c7 c8 lo hi ca _ Hg6.out Hg7.out Hg8.out hc6 hc7 hc8 (playErr_ended HE.out r true)).mono ?_; rintro e w12 ⟨Aq, cq, rfl, hcq, gq, hb⟩; replace HX := Lib.hid (HX.out.step hb); replace HBs := Lib.hid (HBs.out.step hb); replace k0 := cell_of_ans hb k0; replace k1 := cell_of_ans hb k1; replace k2 := cell_of_ans hb k2; replace k3 := cell_of_ans hb k3; replace Hg4 := Lib.hid (Hg4.out.step hb); replace Hg5 := Lib.hid (Hg5.out.step hb); replace Hgp := Lib.hid (Hgp.out.step hb); replace Hg6 := Lib.hid (Hg6.out.step hb); replace Hg7 := Lib.hid (Hg7.out.step hb); replace Hg8 := Lib.hid (Hg8.out.step hb); replace HB := Lib.hid (HB.out.trans (hb.mono HB.out.size)); clear hb; have Hgq := Lib.hid gq; clear gq))
    clear Hg6 Hg7 Hg8
    clear HLb hc6 hc7 hc8
    have t1 : (((lowX xss bss lo hi ca).length : Int) != (xss.length : Int)) = false := by rw [lowX_len]; simp
    have t2 : (((highX xss bss lo hi ca).length : Int) != ((lowX xss bss lo hi ca).length : Int)) = false := by rw [lowX_len, highX_len]; simp
    have t3 : (((playX xss bss (endedX xss.length bss.length lo hi r false) ca).length : Int) != ((lowX xss bss lo hi ca).length : Int)) = false := by rw [lowX_len, playX_len]; simp
    have t4 : (((playX xss bss (endedX xss.length bss.length lo hi r true) ca).length : Int) != ((lowX xss bss lo hi ca).length : Int)) = false := by rw [lowX_len, playX_len]; simp
    go_wp2_with fail
    clear t1 t2 t3 t4
    obtain ⟨ba, oa, Aa1, ca1, rfl, _, ea, la, ma, ia⟩ := Hg4.out.at_ (k := r) (by rw [lowX_len]; exact hr)
    have ra : (r : Int) < ((lowX xss bss lo hi ca).length : Int) := by rw [lowX_len]; omega
    have Ia := Lib.hid ia
    clear ia
    obtain ⟨bp, op, Ap1, cp1, rfl, _, ep, lp, mp, ip⟩ := Hgp.out.at_ (k := r) (by rw [playX_len]; exact hr)
    have rp : (r : Int) < ((playX xss bss (endedX xss.length bss.length lo hi r false) ca).length : Int) := by rw [playX_len]; omega
    have Ip := Lib.hid ip
    clear ip
    obtain ⟨bb, ob, Ab1, cb1, rfl, _, eb, lb, mb, ib⟩ := Hg5.out.at_ (k := r) (by rw [highX_len]; exact hr)
    have rb : (r : Int) < ((highX xss bss lo hi ca).length : Int) := by rw [highX_len]; omega
    have Ib := Lib.hid ib
    clear ib
    obtain ⟨bq, oq, Aq1, cq1, rfl, _, eq, lq, mq, iq⟩ := Hgq.out.at_ (k := r) (by rw [playX_len]; exact hr)
    have rq : (r : Int) < ((playX xss bss (endedX xss.length bss.length lo hi r true) ca).length : Int) := by rw [playX_len]; omega
    have Iq := Lib.hid iq
    clear iq
    have r0 : (0 : Int) ≤ (r : Int) := by omega
    clear Hg4 Hg5 Hgp Hgq HX HBs k0 k1 k2 k3
    have HEQ1 : Hid (rx (lowX xss bss lo hi ca) r = rx (playX xss bss (endedX xss.length bss.length lo hi r false) ca) r) := ended_low HE.out hr
    have HEQ2 : Hid (rx (highX xss bss lo hi ca) r = rx (playX xss bss (endedX xss.length bss.length lo hi r true) ca) r) := ended_high HE.out hr
    have HT1 : Hid True := trivial
    have hd : Below w12.heap.size w12 w12.drew := (Below.refl _ _).drew
    replace Ia := Lib.hid (Ia.out.step hd)
    replace Ip := Lib.hid (Ip.out.step hd)
    replace Ib := Lib.hid (Ib.out.step hd)
    replace Iq := Lib.hid (Iq.out.step hd)
    replace HB := Lib.hid (HB.out.trans (hd.mono HB.out.size))
    clear hd
    go_region_held3 (fun w' => w'.cell? ⟨ba, oa + r, none⟩ = some (.slice Aa1 (rx (lowX xss bss lo hi ca) r).length ca1) ∧ w'.cell? ⟨bp, op + r, none⟩ = some (.slice Ap1 (rx (playX xss bss (endedX xss.length bss.length lo hi r false) ca) r).length cp1) ∧ w'.cell? ⟨bb, ob + r, none⟩ = some (.slice Ab1 (rx (highX xss bss lo hi ca) r).length cb1) ∧ w'.cell? ⟨bq, oq + r, none⟩ = some (.slice Aq1 (rx (playX xss bss (endedX xss.length bss.length lo hi r true) ca) r).length cq1)) (go_keep) (first | (go_at_call 30; have _t := HT1; refine (ints_same_c Aa1 Ap1 _ _ ca1 cp1 _ Ia.out Ip.out ⟨la, ma⟩ ⟨lp, mp⟩ HEQ1.out).mono ?_; rintro e w13 ⟨rfl, hb⟩; replace Ia := Lib.hid (Ia.out.step hb); replace Ip := Lib.hid (Ip.out.step hb); replace Ib := Lib.hid (Ib.out.step hb); replace Iq := Lib.hid (Iq.out.step hb); replace ea := cell_of_ans (below_drew_l hb) ea; replace ep := cell_of_ans (below_drew_l hb) ep; replace eb := cell_of_ans (below_drew_l hb) eb; replace eq := cell_of_ans (below_drew_l hb) eq; replace HB := Lib.hid (HB.out.trans (hb.mono HB.out.size)); clear hb; clear HT1) | (go_at_call 30; refine (ints_same_c Ab1 Aq1 _ _ cb1 cq1 _ Ib.out Iq.out ⟨lb, mb⟩ ⟨lq, mq⟩ HEQ2.out).mono ?_; rintro e w14 ⟨rfl, hb⟩; replace Ia := Lib.hid (Ia.out.step hb); replace Ip := Lib.hid (Ip.out.step hb); replace Ib := Lib.hid (Ib.out.step hb); replace Iq := Lib.hid (Iq.out.step hb); replace ea := cell_of_ans hb ea; replace ep := cell_of_ans hb ep; replace eb := cell_of_ans hb eb; replace eq := cell_of_ans hb eq; replace HB := Lib.hid (HB.out.trans (hb.mono HB.out.size)); clear hb) | (go_at_call 17; refine (awake_c _).mono ?_; rintro e w15 ⟨rfl, hb⟩; replace Ia := Lib.hid (Ia.out.step hb); replace Ip := Lib.hid (Ip.out.step hb); replace Ib := Lib.hid (Ib.out.step hb); replace Iq := Lib.hid (Iq.out.step hb); replace ea := cell_of_ans hb ea; replace ep := cell_of_ans hb ep; replace eb := cell_of_ans hb eb; replace eq := cell_of_ans hb eq; replace HB := Lib.hid (HB.out.trans (hb.mono HB.out.size)); clear hb))
    go_wp2_with fail
    go_ret
    exact ⟨rfl, HB.out⟩
end Go.Proofs.Ytgnonfomlgkpcaa
