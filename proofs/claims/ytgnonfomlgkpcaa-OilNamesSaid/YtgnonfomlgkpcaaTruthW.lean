/-
  OilTruth: the plain law and the walk.
-/
import Derived.Test.YtgnonfomlgkpcaaLine
namespace Go.Proofs.Ytgnonfomlgkpcaa
open Go.RowKit

theorem wornF_mono {ca x x' b b' o o' : Int} (hc : 0 ≤ ca) (hx : x ≤ x') (hb : b ≤ b') (ho : o' ≤ o) : wornF ca x b o ≤ wornF ca x' b' o' := by
  have h1 : ca * b ≤ ca * b' := Int.mul_le_mul_of_nonneg_left hb hc
  simp only [wornF]
  omega
theorem cellO_mono {ca : Int} (hc : 0 ≤ ca) (bss : List (List Int)) (r b : Nat) {bf ow bf' ow' : Nat → Int} {x x' : Int} (hx : x ≤ x') : ∀ k, (∀ i, i < k → bf i ≤ bf' i ∧ ow' i ≤ ow i) → cellO ca bss r b bf ow x k ≤ cellO ca bss r b bf' ow' x' k
  | 0, _ => hx
  | k + 1, h => by
    have ih := cellO_mono hc bss r b hx k (fun i hi => h i (by omega))
    simp only [cellO]
    split
    · exact wornF_mono hc ih (h k (by omega)).1 (h k (by omega)).2
    · exact ih
theorem cellO_bd (ca : Int) (bss : List (List Int)) (r b : Nat) {bf ow : Nat → Int} {x : Int} (h0 : 0 ≤ x) (h1 : x ≤ 100) : ∀ k, (∀ i, i < k → 0 ≤ ow i) → 0 ≤ cellO ca bss r b bf ow x k ∧ cellO ca bss r b bf ow x k ≤ 100
  | 0, _ => ⟨h0, h1⟩
  | k + 1, h => by
    have ih := cellO_bd ca bss r b h0 h1 k (bf := bf) (fun i hi => h i (by omega))
    simp only [cellO]
    split
    · exact wornF_lvl _ _ _ _ (h k (by omega))
    · exact ih

theorem truth_cell {xss bss wss : List (List Int)} {lo hi ca : Int} (h : ballsErr xss lo hi ca bss = 0) (hw : wearsB xss.length lo hi bss wss = true) {r b : Nat} (hr : r < xss.length) (hb : b < (rx xss 0).length) :
    ix (rx (lowX xss bss lo hi ca) r) b ≤ ix (rx (playX xss bss wss ca) r) b ∧ ix (rx (playX xss bss wss ca) r) b ≤ ix (rx (highX xss bss lo hi ca) r) b ∧ 0 ≤ ix (rx (lowX xss bss lo hi ca) r) b ∧ ix (rx (highX xss bss lo hi ca) r) b ≤ 100 := by
  obtain ⟨_, _, _, _, hlo, hlh, hhi, hca, _⟩ := laneOk (ballsOk h).1
  have hf := fresh_bd h hr hb
  have hwx := (wearsOk hw).2
  rw [lowX_at h hr hb, highX_at h hr hb, playX_at h hr hb]
  refine ⟨cellO_mono hca _ _ _ (Int.le_refl _) _ fun i hi => ?_, cellO_mono hca _ _ _ (Int.le_refl _) _ fun i hi => ?_, (cellO_bd _ _ _ _ hf.1 hf.2 _ fun i hi => by omega).1, (cellO_bd _ _ _ _ hf.1 hf.2 _ fun i hi => hlo).2⟩
  · refine ⟨?_, ((hwx i hi).2 r hr).2⟩
    split
    · exact ((hwx i hi).2 (r - 1) (by omega)).1
    · exact Int.le_refl _
  · refine ⟨?_, ((hwx i hi).2 r hr).1⟩
    split
    · exact ((hwx i hi).2 (r - 1) (by omega)).2
    · exact Int.le_refl _
theorem truth_line {xss bss : List (List Int)} {x nd : List Int} {lo hi ca : Int} (_h : ballsErr xss lo hi ca bss = 0) (hl : lineB xss x nd = true) (he : enB x nd (endO ca xss.length bss lo hi (oilOf xss) bss.length) = true) {r : Nat} (hr : r < xss.length) :
    ix nd r ≤ ix (rx (lowX xss bss lo hi ca) r) (ix x r).toNat := by
  obtain ⟨⟨hxl, hxb⟩, _, _⟩ := lineOk hl
  simp only [enB, List.all_eq_true, List.mem_range, enAt, decide_eq_true_eq] at he
  have := he r (by omega)
  have hb := hxb r hr
  rw [lowX, rx_rowsOf _ hr, ix_rowOf _ (by omega)]
  exact this

theorem few1_c (A' An : Option Addr) (x nd : List Int) (c' cn : Nat) (W : World) (hx : Ints W.heap.size W A' x) (hn : Ints W.heap.size W An nd) (hc' : x.length ≤ c' ∧ c' ≤ 9223372036854775807) (hcn : nd.length ≤ cn ∧ cn ≤ 9223372036854775807) :
    Calls Try.prog 33 #[.slice (some ⟨W.heap.size, 0, none⟩) 1 1] (W.alloc (.cells #[.slice A' x.length c', .slice An nd.length cn] 55)) (Ans W (.bool (fewB [(x, nd)]))) := by
  have hb : Below W.heap.size W (W.alloc (.cells #[.slice A' x.length c', .slice An nd.length cn] 55)) := (Below.refl _ _).alloc (Nat.le_refl _) _
  have hL : Lns (W.alloc (.cells #[.slice A' x.length c', .slice An nd.length cn] 55)).heap.size (W.alloc (.cells #[.slice A' x.length c', .slice An nd.length cn] 55)) (some ⟨W.heap.size, 0, none⟩) [(x, nd)] := fun _ => by
    refine ⟨W.heap.size, 0, rfl, by simp, fun k hk => ?_⟩
    obtain rfl : k = 0 := by simpa using hk
    exact ⟨_, _, by simp; rfl, by simp; rfl, ⟨A', c', rfl, hc'.1, hc'.2, hx.step hb⟩, ⟨An, cn, rfl, hcn.1, hcn.2, hn.step hb⟩⟩
  refine (few33_c (some ⟨W.heap.size, 0, none⟩) [(x, nd)] 1 _ hL ⟨by simp, by omega⟩).mono ?_
  rintro e w' ⟨rfl, rfl⟩
  exact ⟨rfl, hb⟩
theorem fewB1_le {x nd : List Int} (h : fewB [(x, nd)] = true) : x.length ≤ 16 ∧ nd.length ≤ 16 := by
  simp only [fewB, Bool.and_eq_true, decide_eq_true_eq, allB_iff] at h
  simpa [lx] using h.2 0 (by simp)

set_option maxRecDepth 100000 in
set_option maxHeartbeats 8000000 in
theorem oilTruth_c (A Ab Aw A' An : Option Addr) (xss bss : List (List Int)) (ws x nd : List Int) (c cb cw c' cn : Nat) (lo hi ca : Int) (w : World) (hx : Grd w.heap.size w A xss) (hbs : Grd w.heap.size w Ab bss) (hws : Wds w.heap.size w Aw ws) (hi_ : Ints w.heap.size w A' x) (hn_ : Ints w.heap.size w An nd) (hc : xss.length ≤ c ∧ c ≤ 9223372036854775807) (hcb : bss.length ≤ cb ∧ cb ≤ 9223372036854775807) (hcw : ws.length ≤ cw ∧ cw ≤ 9223372036854775807) (hc' : x.length ≤ c' ∧ c' ≤ 9223372036854775807) (hcn : nd.length ≤ cn ∧ cn ≤ 9223372036854775807) :
    Calls Try.prog 9 #[.agg #[.slice A xss.length c, .int .i64 lo, .int .i64 hi, .int .i64 ca], .slice Ab bss.length cb, .slice Aw ws.length cw, .agg #[.slice A' x.length c', .slice An nd.length cn]] w (Ans w (.bool true)) := by
  have hb0 : Below w.heap.size w ((w.alloc (.cells #[.slice A xss.length c, .int .i64 lo, .int .i64 hi, .int .i64 ca] 26)).alloc (.cells #[.slice A' x.length c', .slice An nd.length cn] 55)) := ((Below.refl _ _).alloc (Nat.le_refl _) _).alloc (by simp) _
  have k0 : ((w.alloc (.cells #[.slice A xss.length c, .int .i64 lo, .int .i64 hi, .int .i64 ca] 26)).alloc (.cells #[.slice A' x.length c', .slice An nd.length cn] 55)).cell? ⟨w.heap.size, 0, none⟩ = some (.slice A xss.length c) := by go_simp
  have k1 : ((w.alloc (.cells #[.slice A xss.length c, .int .i64 lo, .int .i64 hi, .int .i64 ca] 26)).alloc (.cells #[.slice A' x.length c', .slice An nd.length cn] 55)).cell? ⟨w.heap.size, 1, none⟩ = some (.int .i64 lo) := by go_simp
  have k2 : ((w.alloc (.cells #[.slice A xss.length c, .int .i64 lo, .int .i64 hi, .int .i64 ca] 26)).alloc (.cells #[.slice A' x.length c', .slice An nd.length cn] 55)).cell? ⟨w.heap.size, 2, none⟩ = some (.int .i64 hi) := by go_simp
  have k3 : ((w.alloc (.cells #[.slice A xss.length c, .int .i64 lo, .int .i64 hi, .int .i64 ca] 26)).alloc (.cells #[.slice A' x.length c', .slice An nd.length cn] 55)).cell? ⟨w.heap.size, 3, none⟩ = some (.int .i64 ca) := by go_simp
  have j0 : ((w.alloc (.cells #[.slice A xss.length c, .int .i64 lo, .int .i64 hi, .int .i64 ca] 26)).alloc (.cells #[.slice A' x.length c', .slice An nd.length cn] 55)).cell? ⟨w.heap.size + 1, 0, none⟩ = some (.slice A' x.length c') := by go_simp
  have j1 : ((w.alloc (.cells #[.slice A xss.length c, .int .i64 lo, .int .i64 hi, .int .i64 ca] 26)).alloc (.cells #[.slice A' x.length c', .slice An nd.length cn] 55)).cell? ⟨w.heap.size + 1, 1, none⟩ = some (.slice An nd.length cn) := by go_simp
  have HX := Lib.hid (hx.step hb0)
  have HBs := Lib.hid (hbs.step hb0)
  have HWs := Lib.hid (hws.step hb0)
  have HI := Lib.hid (hi_.step hb0)
  have HN := Lib.hid (hn_.step hb0)
  have HB := Lib.hid hb0
  clear hb0 hx hbs hws hi_ hn_
  go_enter Try.func9, Try.ntmps9
  go_wp2_with fail
  generalize ((w.alloc (.cells #[.slice A xss.length c, .int .i64 lo, .int .i64 hi, .int .i64 ca] 26)).alloc (.cells #[.slice A' x.length c', .slice An nd.length cn] 55)) = W0 at k0 k1 k2 k3 j0 j1 HX HBs HWs HI HN HB ⊢
  cases hP : readyB xss lo hi ca bss
  · have HP := Lib.hid hP
    clear hP
    refine (ready_c A Ab xss bss c cb lo hi ca _ HX.out HBs.out hc hcb).mono ?_
    rw [HP.out]
    rintro e w1 ⟨rfl, hb⟩
    replace HX := Lib.hid (HX.out.step hb)
    replace HBs := Lib.hid (HBs.out.step hb)
    replace HWs := Lib.hid (HWs.out.step hb)
    replace HI := Lib.hid (HI.out.step hb)
    replace HN := Lib.hid (HN.out.step hb)
    replace k0 := cell_of_ans hb k0
    replace k1 := cell_of_ans hb k1
    replace k2 := cell_of_ans hb k2
    replace k3 := cell_of_ans hb k3
    replace j0 := cell_of_ans hb j0
    replace j1 := cell_of_ans hb j1
    replace HB := Lib.hid (HB.out.trans (hb.mono HB.out.size))
    clear hb
    go_wp2_with fail
    refine (awake_c _).mono ?_
    rintro e w9 ⟨rfl, hb⟩
    replace HX := Lib.hid (HX.out.step hb)
    replace HBs := Lib.hid (HBs.out.step hb)
    replace HWs := Lib.hid (HWs.out.step hb)
    replace HI := Lib.hid (HI.out.step hb)
    replace HN := Lib.hid (HN.out.step hb)
    replace k0 := cell_of_ans hb k0
    replace k1 := cell_of_ans hb k1
    replace k2 := cell_of_ans hb k2
    replace k3 := cell_of_ans hb k3
    replace j0 := cell_of_ans hb j0
    replace j1 := cell_of_ans hb j1
    replace HB := Lib.hid (HB.out.trans (hb.mono HB.out.size))
    clear hb
    go_wp2_with fail
    go_ret
    exact ⟨rfl, HB.out⟩
  · have HP := Lib.hid hP
    clear hP
    refine (ready_c A Ab xss bss c cb lo hi ca _ HX.out HBs.out hc hcb).mono ?_
    rw [HP.out]
    rintro e w1 ⟨rfl, hb⟩
    replace HX := Lib.hid (HX.out.step hb)
    replace HBs := Lib.hid (HBs.out.step hb)
    replace HWs := Lib.hid (HWs.out.step hb)
    replace HI := Lib.hid (HI.out.step hb)
    replace HN := Lib.hid (HN.out.step hb)
    replace k0 := cell_of_ans hb k0
    replace k1 := cell_of_ans hb k1
    replace k2 := cell_of_ans hb k2
    replace k3 := cell_of_ans hb k3
    replace j0 := cell_of_ans hb j0
    replace j1 := cell_of_ans hb j1
    replace HB := Lib.hid (HB.out.trans (hb.mono HB.out.size))
    clear hb
    obtain ⟨hs1, hs2, hE⟩ := readyB_ok HP.out
    have HE := Lib.hid hE
    obtain ⟨hn0, hn8, -, -, hlo, hlh, hhi, -, -⟩ := laneOk (ballsOk hE).1
    have HLE := Lib.hid (ballsOk hE).1
    have hm20 := (ballsOk hE).2.1
    clear hs1 hs2 hE
    have HWE := Lib.hid (picked_wears (n := xss.length) ws bss hlh)
    go_wp2_with fail
    have hd : Below w1.heap.size w1 w1.drew := (Below.refl _ _).drew
    replace HX := Lib.hid (HX.out.step hd)
    replace HBs := Lib.hid (HBs.out.step hd)
    replace HWs := Lib.hid (HWs.out.step hd)
    replace HI := Lib.hid (HI.out.step hd)
    replace HN := Lib.hid (HN.out.step hd)
    replace HB := Lib.hid (HB.out.trans (hd.mono HB.out.size))
    clear hd
    go_region_held3 (fun w' => w'.cell? ⟨w.heap.size, 0, none⟩ = some (.slice A xss.length c) ∧ w'.cell? ⟨w.heap.size, 1, none⟩ = some (.int .i64 lo) ∧ w'.cell? ⟨w.heap.size, 2, none⟩ = some (.int .i64 hi) ∧ w'.cell? ⟨w.heap.size, 3, none⟩ = some (.int .i64 ca)) (go_keep) (first | (go_at_call 19; refine (lane_c A xss c lo hi ca _ (Nat.le_refl _) HX.out (small_lane HLE.out).1 (small_lane HLE.out).2).mono ?_; rintro e w2 ⟨A2, c2, rfl, hc2, g2, hb⟩; replace HX := Lib.hid (HX.out.step hb); replace HBs := Lib.hid (HBs.out.step hb); replace HWs := Lib.hid (HWs.out.step hb); replace HI := Lib.hid (HI.out.step hb); replace HN := Lib.hid (HN.out.step hb); replace k0 := cell_of_ans (below_drew_l hb) k0; replace k1 := cell_of_ans (below_drew_l hb) k1; replace k2 := cell_of_ans (below_drew_l hb) k2; replace k3 := cell_of_ans (below_drew_l hb) k3; replace j0 := cell_of_ans (below_drew_l hb) j0; replace j1 := cell_of_ans (below_drew_l hb) j1; replace HB := Lib.hid (HB.out.trans (hb.mono HB.out.size)); clear hb; have Hg2 := Lib.hid g2; clear g2) | (go_at_call 21; refine (copied_new_c Ab bss cb _ HBs.out (small_balls HE.out).1 (small_balls HE.out).2).mono ?_; rintro e w3 ⟨A3, c3, rfl, hc3, g3, hb⟩; replace HX := Lib.hid (HX.out.step hb); replace HBs := Lib.hid (HBs.out.step hb); replace HWs := Lib.hid (HWs.out.step hb); replace HI := Lib.hid (HI.out.step hb); replace HN := Lib.hid (HN.out.step hb); replace k0 := cell_of_ans hb k0; replace k1 := cell_of_ans hb k1; replace k2 := cell_of_ans hb k2; replace k3 := cell_of_ans hb k3; replace j0 := cell_of_ans hb j0; replace j1 := cell_of_ans hb j1; replace Hg2 := Lib.hid (Hg2.out.step hb); replace HB := Lib.hid (HB.out.trans (hb.mono HB.out.size)); clear hb; have Hg3 := Lib.hid g3; clear g3) | (go_at_call 31; refine (picked_c A Ab Aw xss.length bss.length c cb cw ws lo hi ca _ HWs.out hcw (by omega) (by omega) hlo hlh hhi).mono ?_; rintro e w4 ⟨A4, c4, rfl, hc4, g4, hb⟩; replace HX := Lib.hid (HX.out.step hb); replace HBs := Lib.hid (HBs.out.step hb); replace HWs := Lib.hid (HWs.out.step hb); replace HI := Lib.hid (HI.out.step hb); replace HN := Lib.hid (HN.out.step hb); replace k0 := cell_of_ans hb k0; replace k1 := cell_of_ans hb k1; replace k2 := cell_of_ans hb k2; replace k3 := cell_of_ans hb k3; replace j0 := cell_of_ans hb j0; replace j1 := cell_of_ans hb j1; replace Hg2 := Lib.hid (Hg2.out.step hb); replace Hg3 := Lib.hid (Hg3.out.step hb); replace HB := Lib.hid (HB.out.trans (hb.mono HB.out.size)); clear hb; have Hg4 := Lib.hid g4; clear g4) | (go_at_call 20; refine (play_ok_c A2 A3 A4 xss bss (pickedX xss.length bss.length lo hi ws) c2 c3 c4 lo hi ca _ Hg2.out Hg3.out Hg4.out hc2 hc3 hc4 (mk_playErr HE.out HWE.out)).mono ?_; rintro e w5 ⟨Ap, cp, rfl, hcp, gp, hb⟩; replace HX := Lib.hid (HX.out.step hb); replace HBs := Lib.hid (HBs.out.step hb); replace HWs := Lib.hid (HWs.out.step hb); replace HI := Lib.hid (HI.out.step hb); replace HN := Lib.hid (HN.out.step hb); replace k0 := cell_of_ans hb k0; replace k1 := cell_of_ans hb k1; replace k2 := cell_of_ans hb k2; replace k3 := cell_of_ans hb k3; replace j0 := cell_of_ans hb j0; replace j1 := cell_of_ans hb j1; replace Hg2 := Lib.hid (Hg2.out.step hb); replace Hg3 := Lib.hid (Hg3.out.step hb); replace Hg4 := Lib.hid (Hg4.out.step hb); replace HB := Lib.hid (HB.out.trans (hb.mono HB.out.size)); clear hb; have Hgp := Lib.hid gp; clear gp))
    clear Hg2 Hg3 Hg4 HWs
    clear hc2 hc3 hc4
    go_wp2_with fail
    refine (lane_c A xss c lo hi ca _ (Nat.le_refl _) HX.out (small_lane HLE.out).1 (small_lane HLE.out).2).mono ?_
    rintro e w6 ⟨A6, c6, rfl, hc6, g6, hb⟩
    replace HX := Lib.hid (HX.out.step hb)
    replace HBs := Lib.hid (HBs.out.step hb)
    replace HI := Lib.hid (HI.out.step hb)
    replace HN := Lib.hid (HN.out.step hb)
    replace k0 := cell_of_ans hb k0
    replace k1 := cell_of_ans hb k1
    replace k2 := cell_of_ans hb k2
    replace k3 := cell_of_ans hb k3
    replace j0 := cell_of_ans hb j0
    replace j1 := cell_of_ans hb j1
    replace Hgp := Lib.hid (Hgp.out.step hb)
    replace HB := Lib.hid (HB.out.trans (hb.mono HB.out.size))
    clear hb
    have Hg6 := Lib.hid g6
    clear g6
    go_wp2_with fail
    refine (copied_new_c Ab bss cb _ HBs.out (small_balls HE.out).1 (small_balls HE.out).2).mono ?_
    rintro e w7 ⟨A7, c7, rfl, hc7, g7, hb⟩
    replace HX := Lib.hid (HX.out.step hb)
    replace HBs := Lib.hid (HBs.out.step hb)
    replace HI := Lib.hid (HI.out.step hb)
    replace HN := Lib.hid (HN.out.step hb)
    replace k0 := cell_of_ans hb k0
    replace k1 := cell_of_ans hb k1
    replace k2 := cell_of_ans hb k2
    replace k3 := cell_of_ans hb k3
    replace j0 := cell_of_ans hb j0
    replace j1 := cell_of_ans hb j1
    replace Hgp := Lib.hid (Hgp.out.step hb)
    replace Hg6 := Lib.hid (Hg6.out.step hb)
    replace HB := Lib.hid (HB.out.trans (hb.mono HB.out.size))
    clear hb
    have Hg7 := Lib.hid g7
    clear g7
    go_wp2_with fail
    refine (bounds_ok_c A6 A7 xss bss c6 c7 lo hi ca _ Hg6.out Hg7.out hc6 hc7 HE.out).mono ?_
    rintro e w8 ⟨Aa, c8, Ad, c9, rfl, hc8, hc9, ga, gd, hb⟩
    replace HX := Lib.hid (HX.out.step hb)
    replace HBs := Lib.hid (HBs.out.step hb)
    replace HI := Lib.hid (HI.out.step hb)
    replace HN := Lib.hid (HN.out.step hb)
    replace k0 := cell_of_ans hb k0
    replace k1 := cell_of_ans hb k1
    replace k2 := cell_of_ans hb k2
    replace k3 := cell_of_ans hb k3
    replace j0 := cell_of_ans hb j0
    replace j1 := cell_of_ans hb j1
    replace Hgp := Lib.hid (Hgp.out.step hb)
    replace Hg6 := Lib.hid (Hg6.out.step hb)
    replace Hg7 := Lib.hid (Hg7.out.step hb)
    replace HB := Lib.hid (HB.out.trans (hb.mono HB.out.size))
    clear hb
    have Hga := Lib.hid ga
    clear ga
    have Hgd := Lib.hid gd
    clear gd
    clear Hg6 Hg7
    clear hc6 hc7
    have HPL := Lib.hid (playX_len xss bss (pickedX xss.length bss.length lo hi ws) ca)
    have HAL := Lib.hid (lowX_len xss bss lo hi ca)
    have HDL := Lib.hid (highX_len xss bss lo hi ca)
    have HPR : Hid (∀ r, r < xss.length → (rx (playX xss bss (pickedX xss.length bss.length lo hi ws) ca) r).length = (rx xss 0).length) := fun r hr => playX_row hr
    have HAR : Hid (∀ r, r < xss.length → (rx (lowX xss bss lo hi ca) r).length = (rx xss 0).length) := fun r hr => lowX_row hr
    have HDR : Hid (∀ r, r < xss.length → (rx (highX xss bss lo hi ca) r).length = (rx xss 0).length) := fun r hr => highX_row hr
    have HTC : Hid (∀ r b, r < xss.length → b < (rx xss 0).length → ix (rx (lowX xss bss lo hi ca) r) b ≤ ix (rx (playX xss bss (pickedX xss.length bss.length lo hi ws) ca) r) b ∧ ix (rx (playX xss bss (pickedX xss.length bss.length lo hi ws) ca) r) b ≤ ix (rx (highX xss bss lo hi ca) r) b ∧ 0 ≤ ix (rx (lowX xss bss lo hi ca) r) b ∧ ix (rx (highX xss bss lo hi ca) r) b ≤ 100) := fun r b hr hb => truth_cell HE.out HWE.out hr hb
    have HTL : Hid (lineB xss x nd = true → enB x nd (endO ca xss.length bss lo hi (oilOf xss) bss.length) = true → ∀ r, r < xss.length → ix nd r ≤ ix (rx (lowX xss bss lo hi ca) r) (ix x r).toNat) := fun hl he r hr => truth_line HE.out hl he hr
    have HROW : Hid (∀ r, r < xss.length → (rx xss r).length = (rx xss 0).length) := fun r hr => ((laneOk HLE.out).2.2.1 r hr).2.1
    generalize playX xss bss (pickedX xss.length bss.length lo hi ws) ca = P at *
    generalize lowX xss bss lo hi ca = L at *
    generalize highX xss bss lo hi ca = D at *
    have t1 : ((P.length : Int) != (xss.length : Int)) = false := by rw [HPL.out]; simp
    have t2 : ((L.length : Int) != (P.length : Int)) = false := by rw [HPL.out, HAL.out]; simp
    have t3 : ((D.length : Int) != (P.length : Int)) = false := by rw [HPL.out, HDL.out]; simp
    obtain ⟨bp, op, rfl⟩ := Hgp.out.addr (by rw [HPL.out]; omega)
    obtain ⟨ba, oa, rfl⟩ := Hga.out.addr (by rw [HAL.out]; omega)
    obtain ⟨bd, od, rfl⟩ := Hgd.out.addr (by rw [HDL.out]; omega)
    obtain ⟨bx, ox, rfl⟩ := HX.out.addr (by omega)
    go_wp2_with fail
    clear t1 t2 t3
    go_loopw [14] (fun i wr => ∃ r n : Nat, r ≤ P.length ∧ i = .int .i64 r ∧ wr = w8.drewN n) (fun i _ => P.length - (intOf i).toNat)
    case atStart => exact ⟨0, 0, by omega, rfl, rfl⟩
    case round =>
      obtain ⟨r, n, hr, rfl, rfl⟩ := hrel
      by_cases h1 : r < P.length
      · have hrx : r < xss.length := by have := HPL.out; omega
        have hra : r < L.length := by have := HAL.out; omega
        have hrd : r < D.length := by have := HDL.out; omega
        obtain ⟨Ar, cr, er, lr, mr, ir⟩ := Hgp.out.at2 h1
        obtain ⟨Ae, ce, ee, le, me, ie⟩ := Hgd.out.at2 hrd
        obtain ⟨Ag, cg, eg, lg, mg, ig⟩ := Hga.out.at2 hra
        obtain ⟨Af, cf, ef, lf, mf, if_⟩ := HX.out.at2 hrx
        have HPr := Lib.hid (HPR.out r hrx)
        have HDr := Lib.hid (HDR.out r hrx)
        have HAr := Lib.hid (HAR.out r hrx)
        have HFr := Lib.hid (HROW.out r hrx)
        have IR := Lib.hid ir
        have IE := Lib.hid ie
        have IG := Lib.hid ig
        clear ir if_ ie ig
        have hri : (r : Int) < (P.length : Int) := by omega
        have hri2 : (r : Int) < (D.length : Int) := by omega
        have hri3 : (r : Int) < (xss.length : Int) := by omega
        have hri4 : (r : Int) < (L.length : Int) := by omega
        have hr0 : (0 : Int) ≤ (r : Int) := by omega
        have t3 : (((rx P r).length : Int) != ((rx xss r).length : Int)) = false := by rw [HPr.out, HFr.out]; simp
        have t4 : (((rx L r).length : Int) != ((rx P r).length : Int)) = false := by rw [HPr.out, HAr.out]; simp
        have t5 : (((rx D r).length : Int) != ((rx P r).length : Int)) = false := by rw [HPr.out, HDr.out]; simp
        go_wp2_with fail
        go_quiet (fail)
        go_wp2_with fail
        clear t3 t4 t5
        go_loopw [15] (fun i wr => ∃ b n : Nat, b ≤ (rx P r).length ∧ i = .int .i64 b ∧ wr = w8.drewN n) (fun i _ => (rx P r).length - (intOf i).toNat)
        case atStart => exact ⟨0, _, by omega, rfl, World.drewN_drewN _ _ _⟩
        case round =>
          obtain ⟨b, n, hb, rfl, rfl⟩ := hrel
          by_cases h2 : b < (rx P r).length
          · have h2a : b < (rx L r).length := by have := HPr.out; have := HAr.out; omega
            have h2e : b < (rx D r).length := by have := HPr.out; have := HDr.out; omega
            obtain ⟨b2, o2, rfl, _, e2⟩ := IR.out.at_ h2
            obtain ⟨b3, o3, rfl, _, e3⟩ := IG.out.at_ h2a
            obtain ⟨b5, o5, rfl, _, e5⟩ := IE.out.at_ h2e
            have hbi : (b : Int) < ((rx P r).length : Int) := by omega
            have hbi' : (b : Int) < ((rx L r).length : Int) := by omega
            have hbi2 : (b : Int) < ((rx D r).length : Int) := by omega
            have hb0 : (0 : Int) ≤ (b : Int) := by omega
            obtain ⟨f0, f1, f2, f3⟩ := HTC.out r b hrx (by have := HPr.out; omega)
            have u1 : decide (ix (rx P r) b < ix (rx L r) b) = false := by simp; omega
            have u2 : decide (ix (rx D r) b < ix (rx P r) b) = false := by simp; omega
            have u3 : decide (ix (rx L r) b < 0) = false := by simp; omega
            have u4 : decide (100 < ix (rx D r) b) = false := by simp; omega
            go_wp2_with fail
            go_quiet (fail)
            go_wp2_with fail
            go_roundw
            case rel => exact ⟨b + 1, _, by omega, by go_num, rfl⟩
            case measure => simp [intOf]; omega
          · go_wp2_with fail
            go_roundw
            case rel => exact ⟨r + 1, _, by omega, by go_num, rfl⟩
            case measure => simp [intOf]; omega
      · have hd8 : Below w8.heap.size w8 (w8.drewN n) := below_drewN (Below.refl _ _) n
        generalize w8.drewN n = w9 at *
        have hb := hd8
        clear hd8
        replace HX := Lib.hid (HX.out.step hb)
        replace HBs := Lib.hid (HBs.out.step hb)
        replace HI := Lib.hid (HI.out.step hb)
        replace HN := Lib.hid (HN.out.step hb)
        replace k0 := cell_of_ans hb k0
        replace k1 := cell_of_ans hb k1
        replace k2 := cell_of_ans hb k2
        replace k3 := cell_of_ans hb k3
        replace j0 := cell_of_ans hb j0
        replace j1 := cell_of_ans hb j1
        replace Hgp := Lib.hid (Hgp.out.step hb)
        replace HB := Lib.hid (HB.out.trans (hb.mono HB.out.size))
        clear hb
        cases hF : fewB [(x, nd)]
        · have HF := Lib.hid hF
          clear hF
          go_wp2_with fail
          refine (few1_c A' An x nd c' cn _ HI.out HN.out hc' hcn).mono ?_
          rw [HF.out]
          rintro e w10 ⟨rfl, hb⟩
          replace HX := Lib.hid (HX.out.step hb)
          replace HBs := Lib.hid (HBs.out.step hb)
          replace HI := Lib.hid (HI.out.step hb)
          replace HN := Lib.hid (HN.out.step hb)
          replace k0 := cell_of_ans hb k0
          replace k1 := cell_of_ans hb k1
          replace k2 := cell_of_ans hb k2
          replace k3 := cell_of_ans hb k3
          replace j0 := cell_of_ans hb j0
          replace j1 := cell_of_ans hb j1
          replace Hgp := Lib.hid (Hgp.out.step hb)
          replace HB := Lib.hid (HB.out.trans (hb.mono HB.out.size))
          clear hb
          go_wp2_with fail
          refine (awake_c _).mono ?_
          rintro e w19 ⟨rfl, hb⟩
          replace HX := Lib.hid (HX.out.step hb)
          replace HBs := Lib.hid (HBs.out.step hb)
          replace HI := Lib.hid (HI.out.step hb)
          replace HN := Lib.hid (HN.out.step hb)
          replace k0 := cell_of_ans hb k0
          replace k1 := cell_of_ans hb k1
          replace k2 := cell_of_ans hb k2
          replace k3 := cell_of_ans hb k3
          replace j0 := cell_of_ans hb j0
          replace j1 := cell_of_ans hb j1
          replace Hgp := Lib.hid (Hgp.out.step hb)
          replace HB := Lib.hid (HB.out.trans (hb.mono HB.out.size))
          clear hb
          go_wp2_with fail
          go_ret
          exact ⟨rfl, HB.out⟩
        · have HF := Lib.hid hF
          clear hF
          go_wp2_with fail
          refine (few1_c A' An x nd c' cn _ HI.out HN.out hc' hcn).mono ?_
          rw [HF.out]
          rintro e w10 ⟨rfl, hb⟩
          replace HX := Lib.hid (HX.out.step hb)
          replace HBs := Lib.hid (HBs.out.step hb)
          replace HI := Lib.hid (HI.out.step hb)
          replace HN := Lib.hid (HN.out.step hb)
          replace k0 := cell_of_ans hb k0
          replace k1 := cell_of_ans hb k1
          replace k2 := cell_of_ans hb k2
          replace k3 := cell_of_ans hb k3
          replace j0 := cell_of_ans hb j0
          replace j1 := cell_of_ans hb j1
          replace Hgp := Lib.hid (Hgp.out.step hb)
          replace HB := Lib.hid (HB.out.trans (hb.mono HB.out.size))
          clear hb
          cases hL : lineB xss x nd
          · have HL := Lib.hid hL
            clear hL
            go_wp2_with fail
            refine (isLine_c _ A' An xss x nd c c' cn lo hi ca _ HX.out HI.out HN.out hn0 hc' hcn).mono ?_
            rw [HL.out]
            rintro e w11 ⟨rfl, hb⟩
            replace HX := Lib.hid (HX.out.step hb)
            replace HBs := Lib.hid (HBs.out.step hb)
            replace HI := Lib.hid (HI.out.step hb)
            replace HN := Lib.hid (HN.out.step hb)
            replace k0 := cell_of_ans hb k0
            replace k1 := cell_of_ans hb k1
            replace k2 := cell_of_ans hb k2
            replace k3 := cell_of_ans hb k3
            replace j0 := cell_of_ans hb j0
            replace j1 := cell_of_ans hb j1
            replace Hgp := Lib.hid (Hgp.out.step hb)
            replace HB := Lib.hid (HB.out.trans (hb.mono HB.out.size))
            clear hb
            go_wp2_with fail
            refine (awake_c _).mono ?_
            rintro e w19 ⟨rfl, hb⟩
            replace HX := Lib.hid (HX.out.step hb)
            replace HBs := Lib.hid (HBs.out.step hb)
            replace HI := Lib.hid (HI.out.step hb)
            replace HN := Lib.hid (HN.out.step hb)
            replace k0 := cell_of_ans hb k0
            replace k1 := cell_of_ans hb k1
            replace k2 := cell_of_ans hb k2
            replace k3 := cell_of_ans hb k3
            replace j0 := cell_of_ans hb j0
            replace j1 := cell_of_ans hb j1
            replace Hgp := Lib.hid (Hgp.out.step hb)
            replace HB := Lib.hid (HB.out.trans (hb.mono HB.out.size))
            clear hb
            go_wp2_with fail
            go_ret
            exact ⟨rfl, HB.out⟩
          · have HL := Lib.hid hL
            have HOK := Lib.hid (lineOk hL)
            clear hL
            go_wp2_with fail
            refine (isLine_c _ A' An xss x nd c c' cn lo hi ca _ HX.out HI.out HN.out hn0 hc' hcn).mono ?_
            rw [HL.out]
            rintro e w11 ⟨rfl, hb⟩
            replace HX := Lib.hid (HX.out.step hb)
            replace HBs := Lib.hid (HBs.out.step hb)
            replace HI := Lib.hid (HI.out.step hb)
            replace HN := Lib.hid (HN.out.step hb)
            replace k0 := cell_of_ans hb k0
            replace k1 := cell_of_ans hb k1
            replace k2 := cell_of_ans hb k2
            replace k3 := cell_of_ans hb k3
            replace j0 := cell_of_ans hb j0
            replace j1 := cell_of_ans hb j1
            replace Hgp := Lib.hid (Hgp.out.step hb)
            replace HB := Lib.hid (HB.out.trans (hb.mono HB.out.size))
            clear hb
            obtain ⟨hx16, hn16⟩ := fewB1_le HF.out
            go_wp2_with fail
            have hd : Below w11.heap.size w11 w11.drew := (Below.refl _ _).drew
            replace HX := Lib.hid (HX.out.step hd)
            replace HBs := Lib.hid (HBs.out.step hd)
            replace HI := Lib.hid (HI.out.step hd)
            replace HN := Lib.hid (HN.out.step hd)
            replace Hgp := Lib.hid (Hgp.out.step hd)
            replace HB := Lib.hid (HB.out.trans (hd.mono HB.out.size))
            clear hd
            go_region_held3 (fun w' => w'.cell? ⟨w.heap.size, 0, none⟩ = some (.slice (some ⟨bx, ox, none⟩) xss.length c) ∧ w'.cell? ⟨w.heap.size, 1, none⟩ = some (.int .i64 lo) ∧ w'.cell? ⟨w.heap.size, 2, none⟩ = some (.int .i64 hi) ∧ w'.cell? ⟨w.heap.size, 3, none⟩ = some (.int .i64 ca) ∧ w'.cell? ⟨w.heap.size + 1, 0, none⟩ = some (.slice A' x.length c') ∧ w'.cell? ⟨w.heap.size + 1, 1, none⟩ = some (.slice An nd.length cn)) (go_keep) (first | (go_at_call 19; refine (lane_c _ xss c lo hi ca _ (Nat.le_refl _) HX.out (small_lane HLE.out).1 (small_lane HLE.out).2).mono ?_; rintro e w12 ⟨A2, c2, rfl, hc2, g2, hb⟩; replace HX := Lib.hid (HX.out.step hb); replace HBs := Lib.hid (HBs.out.step hb); replace HI := Lib.hid (HI.out.step hb); replace HN := Lib.hid (HN.out.step hb); replace k0 := cell_of_ans (below_drew_l hb) k0; replace k1 := cell_of_ans (below_drew_l hb) k1; replace k2 := cell_of_ans (below_drew_l hb) k2; replace k3 := cell_of_ans (below_drew_l hb) k3; replace j0 := cell_of_ans (below_drew_l hb) j0; replace j1 := cell_of_ans (below_drew_l hb) j1; replace Hgp := Lib.hid (Hgp.out.step hb); replace HB := Lib.hid (HB.out.trans (hb.mono HB.out.size)); clear hb; have Hg2 := Lib.hid g2; clear g2) | (go_at_call 21; refine (copied_new_c Ab bss cb _ HBs.out (small_balls HE.out).1 (small_balls HE.out).2).mono ?_; rintro e w13 ⟨A3, c3, rfl, hc3, g3, hb⟩; replace HX := Lib.hid (HX.out.step hb); replace HBs := Lib.hid (HBs.out.step hb); replace HI := Lib.hid (HI.out.step hb); replace HN := Lib.hid (HN.out.step hb); replace k0 := cell_of_ans hb k0; replace k1 := cell_of_ans hb k1; replace k2 := cell_of_ans hb k2; replace k3 := cell_of_ans hb k3; replace j0 := cell_of_ans hb j0; replace j1 := cell_of_ans hb j1; replace Hgp := Lib.hid (Hgp.out.step hb); replace Hg2 := Lib.hid (Hg2.out.step hb); replace HB := Lib.hid (HB.out.trans (hb.mono HB.out.size)); clear hb; have Hg3 := Lib.hid g3; clear g3) | (go_at_call 35; refine (line35_c A' An x nd c' cn _ HI.out HN.out (by omega) (by omega)).mono ?_; rintro e w14 ⟨A4, c4, A5, c5, rfl, hc4, hc5, g4, g5, hb⟩; replace HX := Lib.hid (HX.out.step hb); replace HBs := Lib.hid (HBs.out.step hb); replace HI := Lib.hid (HI.out.step hb); replace HN := Lib.hid (HN.out.step hb); replace k0 := cell_of_ans hb k0; replace k1 := cell_of_ans hb k1; replace k2 := cell_of_ans hb k2; replace k3 := cell_of_ans hb k3; replace j0 := cell_of_ans hb j0; replace j1 := cell_of_ans hb j1; replace Hgp := Lib.hid (Hgp.out.step hb); replace Hg2 := Lib.hid (Hg2.out.step hb); replace Hg3 := Lib.hid (Hg3.out.step hb); replace HB := Lib.hid (HB.out.trans (hb.mono HB.out.size)); clear hb; have Hg4 := Lib.hid g4; clear g4; have Hg5 := Lib.hid g5; clear g5) | (go_at_call 34; refine (playable_ok A2 A3 A4 A5 xss bss x nd c2 c3 c4 c5 lo hi ca _ Hg2.out Hg3.out Hg4.out Hg5.out hc2 hc3 hc4 hc5 HE.out HL.out).mono ?_; rintro e w15 ⟨rfl, hb⟩; replace HX := Lib.hid (HX.out.step hb); replace HBs := Lib.hid (HBs.out.step hb); replace HI := Lib.hid (HI.out.step hb); replace HN := Lib.hid (HN.out.step hb); replace k0 := cell_of_ans hb k0; replace k1 := cell_of_ans hb k1; replace k2 := cell_of_ans hb k2; replace k3 := cell_of_ans hb k3; replace j0 := cell_of_ans hb j0; replace j1 := cell_of_ans hb j1; replace Hgp := Lib.hid (Hgp.out.step hb); replace Hg2 := Lib.hid (Hg2.out.step hb); replace Hg3 := Lib.hid (Hg3.out.step hb); replace Hg4 := Lib.hid (Hg4.out.step hb); replace Hg5 := Lib.hid (Hg5.out.step hb); replace HB := Lib.hid (HB.out.trans (hb.mono HB.out.size)); clear hb))
            clear Hg2 Hg3 Hg4 Hg5
            clear hc2 hc3 hc4 hc5
            have HEN : Hid (enB x nd (endO ca xss.length bss lo hi (oilOf xss) bss.length) = true → ∀ r, r < xss.length → ix nd r ≤ ix (rx L r) (ix x r).toNat) := HTL.out HL.out
            generalize enB x nd (endO ca xss.length bss lo hi (oilOf xss) bss.length) = en at *
            cases hen : en
            · subst hen
              go_wp2_with fail
              go_loop [18] (fun i => i = .int .i64 0) (fun _ => 0)
              case atStart => rfl
              case round =>
                subst hrel
                go_wp2_with fail
                all_goals
                  refine (awake_c _).mono ?_
                  rintro e w16 ⟨rfl, hb⟩
                  go_wp2_with fail
                  go_ret
                  exact ⟨rfl, HB.out.trans (hb.mono HB.out.size)⟩
            · subst hen
              have HEN2 := Lib.hid (HEN.out rfl)
              go_wp2_with fail
              go_loopw [18] (fun i wr => ∃ r n : Nat, r ≤ x.length ∧ i = .int .i64 r ∧ wr = w15.drewN n) (fun i _ => x.length - (intOf i).toNat)
              case atStart => exact ⟨0, 0, by omega, rfl, rfl⟩
              case round =>
                obtain ⟨r, n, hr, rfl, rfl⟩ := hrel
                by_cases h1 : r < x.length
                · have hrx : r < xss.length := by have := HOK.out.1.1; omega
                  have hrp : r < P.length := by have := HPL.out; omega
                  have hrn : r < nd.length := by have := HOK.out.2.1; omega
                  obtain ⟨hx0, hx1⟩ := HOK.out.1.2 r hrx
                  obtain ⟨bi, hbi⟩ : ∃ bi : Nat, ix x r = (bi : Int) := ⟨(ix x r).toNat, by omega⟩
                  have hle := HEN2.out r hrx
                  rw [hbi, Int.toNat_natCast] at hle
                  have hbn : bi < (rx P r).length := by have := HPR.out r hrx; omega
                  have htc := (HTC.out r bi hrx (by have := HPR.out r hrx; omega)).1
                  obtain ⟨Ar, cr, er, lr, mr, ir⟩ := Hgp.out.at2 hrp
                  obtain ⟨b2, o2, rfl, _, e2⟩ := ir.at_ hbn
                  obtain ⟨b3, o3, rfl, _, e3⟩ := HI.out.at_ h1
                  obtain ⟨b4, o4, rfl, _, e4⟩ := HN.out.at_ hrn
                  rw [hbi] at e3
                  have r1 : (r : Int) < (P.length : Int) := by omega
                  have r2 : (r : Int) < (x.length : Int) := by omega
                  have r3 : (r : Int) < (nd.length : Int) := by omega
                  have r4 : (bi : Int) < ((rx P r).length : Int) := by omega
                  have r5 : (0 : Int) ≤ (r : Int) := by omega
                  have r6 : (0 : Int) ≤ (bi : Int) := by omega
                  have u1 : decide (ix (rx P r) bi < ix nd r) = false := by simp; omega
                  clear ir hbi
                  go_wp2_with fail
                  go_quiet (fail)
                  go_wp2_with fail
                  go_roundw
                  case rel => exact ⟨r + 1, _, by omega, by go_num, rfl⟩
                  case measure => simp [intOf]; omega
                · go_wp2_with fail
                  refine (awake_c _).mono ?_
                  rintro e w16 ⟨rfl, hb⟩
                  go_wp2_with fail
                  go_ret
                  exact ⟨rfl, HB.out.trans ((below_drewN_l hb).mono HB.out.size)⟩
end Go.Proofs.Ytgnonfomlgkpcaa
