/-
  OilDry: the walk.
-/
import Derived.Test.YtgnonfomlgkpcaaDryM
namespace Go.Proofs.Ytgnonfomlgkpcaa
open Go.RowKit

def CopyNew (w : World) (xss : List (List Int)) (e : Ending) (w' : World) : Prop :=
  ∃ A c vs, e = .returned (.slice A xss.length c) ∧ Rws w.heap.size w' (.slice A xss.length c) xss.length vs (rx xss) ∧ Below w.heap.size w w'
theorem copied_n_c (A : Option Addr) (xss : List (List Int)) (n c : Nat) (w : World) (hn : xss.length = n) (hx : Grd w.heap.size w A xss) (hl : xss.length ≤ 1000000) (hr : ∀ k, k < xss.length → (rx xss k).length ≤ 1000000) : Calls Try.prog 21 #[.slice A n c] w (CopyNew w xss) := by
  subst hn
  refine (copied_c A xss c w (Nat.le_refl _) hx hl hr).mono ?_
  rintro e w' ⟨v, vs, rfl, h, hb⟩
  obtain ⟨A', c', rfl⟩ := ownsRow_form h.1
  exact ⟨A', c', vs, rfl, h, hb⟩

set_option maxRecDepth 100000 in
set_option maxHeartbeats 8000000 in
theorem oilDry_c (A Ab : Option Addr) (xss bss : List (List Int)) (c cb : Nat) (lo hi ca which : Int) (w : World) (hx : Grd w.heap.size w A xss) (hbs : Grd w.heap.size w Ab bss) (hc : xss.length ≤ c ∧ c ≤ 9223372036854775807) (hcb : bss.length ≤ cb ∧ cb ≤ 9223372036854775807) (hw0 : 0 ≤ which) (hw1 : which ≤ 255) :
    Calls Try.prog 7 #[.agg #[.slice A xss.length c, .int .i64 lo, .int .i64 hi, .int .i64 ca], .slice Ab bss.length cb, .int .u8 which] w (Ans w (.bool true)) := by
  have hb0 : Below w.heap.size w ((w.alloc (.cells #[.slice A xss.length c, .int .i64 lo, .int .i64 hi, .int .i64 ca] 26)).alloc (.cells #[.slice A xss.length c, .int .i64 lo, .int .i64 hi, .int .i64 0] 26)) := ((Below.refl _ _).alloc (Nat.le_refl _) _).alloc (by simp) _
  have k0 : ((w.alloc (.cells #[.slice A xss.length c, .int .i64 lo, .int .i64 hi, .int .i64 ca] 26)).alloc (.cells #[.slice A xss.length c, .int .i64 lo, .int .i64 hi, .int .i64 0] 26)).cell? ⟨w.heap.size, 0, none⟩ = some (.slice A xss.length c) := by go_simp
  have k1 : ((w.alloc (.cells #[.slice A xss.length c, .int .i64 lo, .int .i64 hi, .int .i64 ca] 26)).alloc (.cells #[.slice A xss.length c, .int .i64 lo, .int .i64 hi, .int .i64 0] 26)).cell? ⟨w.heap.size, 1, none⟩ = some (.int .i64 lo) := by go_simp
  have k2 : ((w.alloc (.cells #[.slice A xss.length c, .int .i64 lo, .int .i64 hi, .int .i64 ca] 26)).alloc (.cells #[.slice A xss.length c, .int .i64 lo, .int .i64 hi, .int .i64 0] 26)).cell? ⟨w.heap.size, 2, none⟩ = some (.int .i64 hi) := by go_simp
  have k3 : ((w.alloc (.cells #[.slice A xss.length c, .int .i64 lo, .int .i64 hi, .int .i64 ca] 26)).alloc (.cells #[.slice A xss.length c, .int .i64 lo, .int .i64 hi, .int .i64 0] 26)).cell? ⟨w.heap.size, 3, none⟩ = some (.int .i64 ca) := by go_simp
  have j0 : ((w.alloc (.cells #[.slice A xss.length c, .int .i64 lo, .int .i64 hi, .int .i64 ca] 26)).alloc (.cells #[.slice A xss.length c, .int .i64 lo, .int .i64 hi, .int .i64 0] 26)).cell? ⟨w.heap.size + 1, 0, none⟩ = some (.slice A xss.length c) := by go_simp
  have j1 : ((w.alloc (.cells #[.slice A xss.length c, .int .i64 lo, .int .i64 hi, .int .i64 ca] 26)).alloc (.cells #[.slice A xss.length c, .int .i64 lo, .int .i64 hi, .int .i64 0] 26)).cell? ⟨w.heap.size + 1, 1, none⟩ = some (.int .i64 lo) := by go_simp
  have j2 : ((w.alloc (.cells #[.slice A xss.length c, .int .i64 lo, .int .i64 hi, .int .i64 ca] 26)).alloc (.cells #[.slice A xss.length c, .int .i64 lo, .int .i64 hi, .int .i64 0] 26)).cell? ⟨w.heap.size + 1, 2, none⟩ = some (.int .i64 hi) := by go_simp
  have j3 : ((w.alloc (.cells #[.slice A xss.length c, .int .i64 lo, .int .i64 hi, .int .i64 ca] 26)).alloc (.cells #[.slice A xss.length c, .int .i64 lo, .int .i64 hi, .int .i64 0] 26)).cell? ⟨w.heap.size + 1, 3, none⟩ = some (.int .i64 0) := by go_simp
  have HX := Lib.hid (hx.step hb0)
  have HBs := Lib.hid (hbs.step hb0)
  have HB := Lib.hid hb0
  clear hb0 hx hbs
  go_enter Try.func7, Try.ntmps7
  go_wp2_with fail
  generalize ((w.alloc (.cells #[.slice A xss.length c, .int .i64 lo, .int .i64 hi, .int .i64 ca] 26)).alloc (.cells #[.slice A xss.length c, .int .i64 lo, .int .i64 hi, .int .i64 0] 26)) = W0 at k0 k1 k2 k3 j0 j1 j2 j3 HX HBs HB ⊢
  cases hP : readyB xss lo hi 0 bss
  · have HP := Lib.hid hP
    clear hP
    refine (ready_c A Ab xss bss c cb lo hi 0 _ HX.out HBs.out hc hcb).mono ?_
    rw [HP.out]
    rintro e w1 ⟨rfl, hb⟩
    replace HX := Lib.hid (HX.out.step hb)
    replace HBs := Lib.hid (HBs.out.step hb)
    replace k0 := cell_of_ans hb k0
    replace k1 := cell_of_ans hb k1
    replace k2 := cell_of_ans hb k2
    replace k3 := cell_of_ans hb k3
    replace j0 := cell_of_ans hb j0
    replace j1 := cell_of_ans hb j1
    replace j2 := cell_of_ans hb j2
    replace j3 := cell_of_ans hb j3
    replace HB := Lib.hid (HB.out.trans (hb.mono HB.out.size))
    clear hb
    go_wp2_with fail
    refine (awake_c _).mono ?_
    rintro e w9 ⟨rfl, hb⟩
    replace HX := Lib.hid (HX.out.step hb)
    replace HBs := Lib.hid (HBs.out.step hb)
    replace k0 := cell_of_ans hb k0
    replace k1 := cell_of_ans hb k1
    replace k2 := cell_of_ans hb k2
    replace k3 := cell_of_ans hb k3
    replace j0 := cell_of_ans hb j0
    replace j1 := cell_of_ans hb j1
    replace j2 := cell_of_ans hb j2
    replace j3 := cell_of_ans hb j3
    replace HB := Lib.hid (HB.out.trans (hb.mono HB.out.size))
    clear hb
    go_wp2_with fail
    go_ret
    exact ⟨rfl, HB.out⟩
  · have HP := Lib.hid hP
    clear hP
    refine (ready_c A Ab xss bss c cb lo hi 0 _ HX.out HBs.out hc hcb).mono ?_
    rw [HP.out]
    rintro e w1 ⟨rfl, hb⟩
    replace HX := Lib.hid (HX.out.step hb)
    replace HBs := Lib.hid (HBs.out.step hb)
    replace k0 := cell_of_ans hb k0
    replace k1 := cell_of_ans hb k1
    replace k2 := cell_of_ans hb k2
    replace k3 := cell_of_ans hb k3
    replace j0 := cell_of_ans hb j0
    replace j1 := cell_of_ans hb j1
    replace j2 := cell_of_ans hb j2
    replace j3 := cell_of_ans hb j3
    replace HB := Lib.hid (HB.out.trans (hb.mono HB.out.size))
    clear hb
    by_cases hz : bss.length = 0
    · have hz' : ((bss.length : Int) == 0) = true := by simp [hz]
      clear hz
      go_wp2_with fail
      refine (awake_c _).mono ?_
      rintro e w9 ⟨rfl, hb⟩
      replace HX := Lib.hid (HX.out.step hb)
      replace HBs := Lib.hid (HBs.out.step hb)
      replace k0 := cell_of_ans hb k0
      replace k1 := cell_of_ans hb k1
      replace k2 := cell_of_ans hb k2
      replace k3 := cell_of_ans hb k3
      replace j0 := cell_of_ans hb j0
      replace j1 := cell_of_ans hb j1
      replace j2 := cell_of_ans hb j2
      replace j3 := cell_of_ans hb j3
      replace HB := Lib.hid (HB.out.trans (hb.mono HB.out.size))
      clear hb
      go_wp2_with fail
      go_ret
      exact ⟨rfl, HB.out⟩
    · have hz' : ((bss.length : Int) == 0) = false := by rw [beq_eq_false_iff_ne]; omega
      obtain ⟨hs1, hs2, hE⟩ := readyB_ok HP.out
      have HE := Lib.hid hE
      obtain ⟨hn0, hn8, -, -, hlo, hlh, hhi, -, -⟩ := laneOk (ballsOk hE).1
      have HLE := Lib.hid (ballsOk hE).1
      have hm20 := (ballsOk hE).2.1
      clear hs1 hs2 hE
      obtain ⟨bb, ob, rfl⟩ := HBs.out.addr (by omega)
      obtain ⟨m, hm, her⟩ := emod_nat which bss.length (by omega)
      have hmb : (m : Int) ≤ (cb : Int) := by omega
      have hmb2 : (m : Int) ≤ (bss.length : Int) := by omega
      have hmb3 : m < cb := by omega
      have hmb5 : ¬ (cb = m) := by omega
      have hmb4 : m ≤ bss.length := by omega
      have hm0 : (0 : Int) ≤ (m : Int) := by omega
      have hbp : 0 < bss.length := by omega
      clear hz
      have GbT := Lib.hid (HBs.out.takeL (m := m))
      have GbD := Lib.hid (HBs.out.dropL (m := m))
      have HL1 : Hid ((bss.take m).length = m) := by show _ = _; rw [List.length_take]; omega
      have HL2 : Hid ((bss.drop m).length = bss.length - m) := List.length_drop
      have HE2 := Lib.hid (turned_ok HE.out m hmb4)
      have HT := Lib.hid (turn_low HE.out m hmb4)
      have HT' := Lib.hid (turn_high HE.out m hmb4)
      have HS1 : Hid (∀ k, k < (bss.take m).length → (rx (bss.take m) k).length ≤ 1000000) := fun k hk => by rw [rx_takeL (by have := HL1.out; omega)]; exact (small_balls HE.out).2 k (by have := HL1.out; omega)
      have HS2 : Hid (∀ k, k < (bss.drop m).length → (rx (bss.drop m) k).length ≤ 1000000) := fun k hk => by rw [rx_drop]; exact (small_balls HE.out).2 _ (by have := HL2.out; omega)
      obtain ⟨zs, hzs⟩ : ∃ zs, zs = bss.drop m ++ bss.take m := ⟨_, rfl⟩
      rw [← hzs] at HE2 HT HT'
      have HZS := Lib.hid hzs
      clear hzs
      generalize bss.take m = bT at *
      generalize bss.drop m = bD at *
      go_wp2_with fail
      clear hz'
      have hd : Below w1.heap.size w1 w1.drew := (Below.refl _ _).drew
      replace HX := Lib.hid (HX.out.step hd)
      replace HBs := Lib.hid (HBs.out.step hd)
      replace GbT := Lib.hid (GbT.out.step hd)
      replace GbD := Lib.hid (GbD.out.step hd)
      replace HB := Lib.hid (HB.out.trans (hd.mono HB.out.size))
      clear hd
      have HT1 : Hid True := trivial
      go_region_held3 (fun w' => w'.cell? ⟨w.heap.size, 0, none⟩ = some (.slice A xss.length c)) (go_keep) (first | (go_at_call 21; have _t := HT1; refine (copied_n_c _ bD _ _ _ (by have := HL2.out; omega) GbD.out (by have := HL2.out; omega) HS2.out).mono ?_; rintro e w3 ⟨A3, c3, vs3, rfl, h3, hb3⟩; have HR3 := Lib.hid h3; have HB3 := Lib.hid hb3; have q3 := cell_of_ans (below_drew_l hb3) k0; clear h3 hb3 HT1) | (go_at_call 21; refine (copied_n_c _ bT _ _ _ (by have := HL1.out; omega) (GbT.out.step HB3.out) (by have := HL1.out; omega) HS1.out).mono ?_; rintro e w4 ⟨A4, c4, vs4, rfl, h4, hb4⟩; have HR4 := Lib.hid h4; have HB4 := Lib.hid hb4; have q4 := cell_of_ans hb4 q3; clear h4 hb4) | (refine step_app_rows (.tmp 40) (.tmp 44) rfl rfl w1.drew.heap.size w3 w4 _ vs3 vs4 bD bT zs _ _ rfl rfl HR3 HR4 HB4 (by have := HL1.out; have := HL2.out; omega) HB3.out.size HZS.out ?_; intro A5 c5 w5 hc5 G5 HB5; have hb := HB3.out.trans HB5.out; replace HX := Lib.hid (HX.out.step hb); replace HBs := Lib.hid (HBs.out.step hb); replace k0 := cell_of_ans (below_drew_l hb) k0; replace k1 := cell_of_ans (below_drew_l hb) k1; replace k2 := cell_of_ans (below_drew_l hb) k2; replace k3 := cell_of_ans (below_drew_l hb) k3; replace j0 := cell_of_ans (below_drew_l hb) j0; replace j1 := cell_of_ans (below_drew_l hb) j1; replace j2 := cell_of_ans (below_drew_l hb) j2; replace j3 := cell_of_ans (below_drew_l hb) j3; replace HB := Lib.hid (HB.out.trans (hb.mono HB.out.size)); clear hb HB5 HB4 HB3 HR3 HR4 q3 q4))
      clear GbT GbD
      go_wp2_with fail
      refine (lane_c A xss c lo hi 0 _ (Nat.le_refl _) HX.out (small_lane HLE.out).1 (small_lane HLE.out).2).mono ?_
      rintro e w6 ⟨A6, c6, rfl, hc6, g6, hb⟩
      replace HX := Lib.hid (HX.out.step hb)
      replace HBs := Lib.hid (HBs.out.step hb)
      replace k0 := cell_of_ans hb k0
      replace k1 := cell_of_ans hb k1
      replace k2 := cell_of_ans hb k2
      replace k3 := cell_of_ans hb k3
      replace j0 := cell_of_ans hb j0
      replace j1 := cell_of_ans hb j1
      replace j2 := cell_of_ans hb j2
      replace j3 := cell_of_ans hb j3
      replace G5 := Lib.hid (G5.out.step hb)
      replace HB := Lib.hid (HB.out.trans (hb.mono HB.out.size))
      clear hb
      have Hg6 := Lib.hid g6
      clear g6
      go_wp2_with fail
      refine (copied_new_c _ bss cb _ HBs.out (small_balls HE.out).1 (small_balls HE.out).2).mono ?_
      rintro e w7 ⟨A7, c7, rfl, hc7, g7, hb⟩
      replace HX := Lib.hid (HX.out.step hb)
      replace HBs := Lib.hid (HBs.out.step hb)
      replace k0 := cell_of_ans hb k0
      replace k1 := cell_of_ans hb k1
      replace k2 := cell_of_ans hb k2
      replace k3 := cell_of_ans hb k3
      replace j0 := cell_of_ans hb j0
      replace j1 := cell_of_ans hb j1
      replace j2 := cell_of_ans hb j2
      replace j3 := cell_of_ans hb j3
      replace G5 := Lib.hid (G5.out.step hb)
      replace Hg6 := Lib.hid (Hg6.out.step hb)
      replace HB := Lib.hid (HB.out.trans (hb.mono HB.out.size))
      clear hb
      have Hg7 := Lib.hid g7
      clear g7
      go_wp2_with fail
      refine (bounds_ok_c A6 A7 xss bss c6 c7 lo hi 0 _ Hg6.out Hg7.out hc6 hc7 HE.out).mono ?_
      rintro e w8 ⟨Aa, c8, Ad, c9, rfl, hc8, hc9, ga, gd, hb⟩
      replace HX := Lib.hid (HX.out.step hb)
      replace HBs := Lib.hid (HBs.out.step hb)
      replace k0 := cell_of_ans hb k0
      replace k1 := cell_of_ans hb k1
      replace k2 := cell_of_ans hb k2
      replace k3 := cell_of_ans hb k3
      replace j0 := cell_of_ans hb j0
      replace j1 := cell_of_ans hb j1
      replace j2 := cell_of_ans hb j2
      replace j3 := cell_of_ans hb j3
      replace G5 := Lib.hid (G5.out.step hb)
      replace Hg6 := Lib.hid (Hg6.out.step hb)
      replace Hg7 := Lib.hid (Hg7.out.step hb)
      replace HB := Lib.hid (HB.out.trans (hb.mono HB.out.size))
      clear hb
      have Hga := Lib.hid ga
      clear ga
      have Hgd := Lib.hid gd
      clear gd
      clear Hg6 Hg7
      go_wp2_with fail
      refine (lane_c A xss c lo hi 0 _ (Nat.le_refl _) HX.out (small_lane HLE.out).1 (small_lane HLE.out).2).mono ?_
      rintro e w10 ⟨A10, c10, rfl, hc10, g10, hb⟩
      replace HX := Lib.hid (HX.out.step hb)
      replace HBs := Lib.hid (HBs.out.step hb)
      replace k0 := cell_of_ans hb k0
      replace k1 := cell_of_ans hb k1
      replace k2 := cell_of_ans hb k2
      replace k3 := cell_of_ans hb k3
      replace j0 := cell_of_ans hb j0
      replace j1 := cell_of_ans hb j1
      replace j2 := cell_of_ans hb j2
      replace j3 := cell_of_ans hb j3
      replace G5 := Lib.hid (G5.out.step hb)
      replace Hga := Lib.hid (Hga.out.step hb)
      replace Hgd := Lib.hid (Hgd.out.step hb)
      replace HB := Lib.hid (HB.out.trans (hb.mono HB.out.size))
      clear hb
      have Hg10 := Lib.hid g10
      clear g10
      go_wp2_with fail
      refine (bounds_ok_c A10 A5 xss zs c10 c5 lo hi 0 _ Hg10.out G5.out hc10 hc5 HE2.out).mono ?_
      rintro e w11 ⟨A11, c11, A12, c12, rfl, hc11, hc12, g11, g12, hb⟩
      replace HX := Lib.hid (HX.out.step hb)
      replace HBs := Lib.hid (HBs.out.step hb)
      replace k0 := cell_of_ans hb k0
      replace k1 := cell_of_ans hb k1
      replace k2 := cell_of_ans hb k2
      replace k3 := cell_of_ans hb k3
      replace j0 := cell_of_ans hb j0
      replace j1 := cell_of_ans hb j1
      replace j2 := cell_of_ans hb j2
      replace j3 := cell_of_ans hb j3
      replace G5 := Lib.hid (G5.out.step hb)
      replace Hga := Lib.hid (Hga.out.step hb)
      replace Hgd := Lib.hid (Hgd.out.step hb)
      replace Hg10 := Lib.hid (Hg10.out.step hb)
      replace HB := Lib.hid (HB.out.trans (hb.mono HB.out.size))
      clear hb
      have Hg11 := Lib.hid g11
      clear g11
      have Hg12 := Lib.hid g12
      clear g12
      clear Hg10 G5 j0 j1 j2 j3
      have HAL := Lib.hid (lowX_len xss bss lo hi 0)
      have HDL := Lib.hid (highX_len xss bss lo hi 0)
      have HAR : Hid (∀ r, r < xss.length → (rx (lowX xss bss lo hi 0) r).length = (rx xss 0).length) := fun r hr => lowX_row hr
      have HDR : Hid (∀ r, r < xss.length → (rx (highX xss bss lo hi 0) r).length = (rx xss 0).length) := fun r hr => highX_row hr
      have HAM : Hid (∀ r b, r < xss.length → b < (rx xss 0).length → ix (rx (lowX xss bss lo hi 0) r) b = max 0 (ix (rx xss r) b - (cntO bss r b : Int) * hi)) := fun r b hr hb => dry_low HE.out hr hb
      have HDM : Hid (∀ r b, r < xss.length → b < (rx xss 0).length → ix (rx (highX xss bss lo hi 0) r) b = max 0 (ix (rx xss r) b - (cntO bss r b : Int) * lo)) := fun r b hr hb => dry_high HE.out hr hb
      generalize lowX xss bss lo hi 0 = P at *
      generalize highX xss bss lo hi 0 = D at *
      go_wp2_with fail
      refine (rows_same_c Aa A11 _ _ c8 c11 _ Hga.out Hg11.out hc8 hc11 HT.out).mono ?_
      rintro e w12 ⟨rfl, hb⟩
      replace HX := Lib.hid (HX.out.step hb)
      replace HBs := Lib.hid (HBs.out.step hb)
      replace k0 := cell_of_ans hb k0
      replace k1 := cell_of_ans hb k1
      replace k2 := cell_of_ans hb k2
      replace k3 := cell_of_ans hb k3
      replace Hga := Lib.hid (Hga.out.step hb)
      replace Hgd := Lib.hid (Hgd.out.step hb)
      replace Hg11 := Lib.hid (Hg11.out.step hb)
      replace Hg12 := Lib.hid (Hg12.out.step hb)
      replace HB := Lib.hid (HB.out.trans (hb.mono HB.out.size))
      clear hb
      go_wp2_with fail
      refine (rows_same_c Ad A12 _ _ c9 c12 _ Hgd.out Hg12.out hc9 hc12 HT'.out).mono ?_
      rintro e w13 ⟨rfl, hb⟩
      replace HX := Lib.hid (HX.out.step hb)
      replace HBs := Lib.hid (HBs.out.step hb)
      replace k0 := cell_of_ans hb k0
      replace k1 := cell_of_ans hb k1
      replace k2 := cell_of_ans hb k2
      replace k3 := cell_of_ans hb k3
      replace Hga := Lib.hid (Hga.out.step hb)
      replace Hgd := Lib.hid (Hgd.out.step hb)
      replace Hg11 := Lib.hid (Hg11.out.step hb)
      replace Hg12 := Lib.hid (Hg12.out.step hb)
      replace HB := Lib.hid (HB.out.trans (hb.mono HB.out.size))
      clear hb
      clear Hg11 Hg12
      clear hc11 hc12
      have t1 : ((P.length : Int) != (xss.length : Int)) = false := by rw [HAL.out]; simp
      have t2 : ((D.length : Int) != (P.length : Int)) = false := by rw [HAL.out, HDL.out]; simp
      obtain ⟨bp, op, rfl⟩ := Hga.out.addr (by rw [HAL.out]; omega)
      obtain ⟨bd, od, rfl⟩ := Hgd.out.addr (by rw [HDL.out]; omega)
      obtain ⟨bx, ox, rfl⟩ := HX.out.addr (by omega)
      go_wp2_with fail
      clear t1 t2 k3
      have HROW : Hid (∀ r, r < xss.length → (rx xss r).length = (rx xss 0).length) := fun r hr => ((laneOk HLE.out).2.2.1 r hr).2.1
      have HBL : Hid (∀ i, i < bss.length → (rx bss i).length = xss.length) := fun i hi => ((ballsOk HE.out).2.2 i hi).1
      have HFB : Hid (∀ r b, r < xss.length → b < (rx xss 0).length → 0 ≤ ix (rx xss r) b ∧ ix (rx xss r) b ≤ 100) := fun r b hr hb => fresh_bd HE.out hr hb
      go_loopw [16] (fun i wr => ∃ r n : Nat, r ≤ P.length ∧ i = .int .i64 r ∧ wr = w13.drewN n) (fun i _ => P.length - (intOf i).toNat)
      case atStart => exact ⟨0, 0, by omega, rfl, rfl⟩
      case round =>
        obtain ⟨r, n, hr, rfl, rfl⟩ := hrel
        by_cases h1 : r < P.length
        · have hrx : r < xss.length := by have := HAL.out; omega
          have hrd : r < D.length := by have := HDL.out; omega
          obtain ⟨Ar, cr, er, lr, mr, ir⟩ := Hga.out.at2 h1
          obtain ⟨Ae, ce, ee, le, me, ie⟩ := Hgd.out.at2 hrd
          obtain ⟨Af, cf, ef, lf, mf, if_⟩ := HX.out.at2 hrx
          have HPr := Lib.hid (HAR.out r hrx)
          have HDr := Lib.hid (HDR.out r hrx)
          have HFr := Lib.hid (HROW.out r hrx)
          have IR := Lib.hid ir
          have IE := Lib.hid ie
          have IF := Lib.hid if_
          clear ir if_ ie
          have hri : (r : Int) < (P.length : Int) := by omega
          have hri2 : (r : Int) < (D.length : Int) := by omega
          have hri3 : (r : Int) < (xss.length : Int) := by omega
          have hr0 : (0 : Int) ≤ (r : Int) := by omega
          have t3 : (((rx P r).length : Int) != ((rx xss r).length : Int)) = false := by rw [HPr.out, HFr.out]; simp
          have t4 : (((rx D r).length : Int) != ((rx P r).length : Int)) = false := by rw [HPr.out, HDr.out]; simp
          go_wp2_with fail
          go_quiet (fail)
          go_wp2_with fail
          clear t3 t4
          go_loopw [17] (fun i wr => ∃ b n : Nat, b ≤ (rx P r).length ∧ i = .int .i64 b ∧ wr = w13.drewN n) (fun i _ => (rx P r).length - (intOf i).toNat)
          case atStart => exact ⟨0, _, by omega, rfl, World.drewN_drewN _ _ _⟩
          case round =>
            obtain ⟨b, n, hb, rfl, rfl⟩ := hrel
            by_cases h2 : b < (rx P r).length
            · have h2' : b < (rx xss r).length := by have := HPr.out; have := HFr.out; omega
              have h2e : b < (rx D r).length := by have := HPr.out; have := HDr.out; omega
              obtain ⟨b2, o2, rfl, _, e2⟩ := IR.out.at_ h2
              obtain ⟨b3, o3, rfl, _, e3⟩ := IF.out.at_ h2'
              obtain ⟨b5, o5, rfl, _, e5⟩ := IE.out.at_ h2e
              have hbi : (b : Int) < ((rx P r).length : Int) := by omega
              have hbi' : (b : Int) < ((rx xss r).length : Int) := by omega
              have hbi2 : (b : Int) < ((rx D r).length : Int) := by omega
              have hb0 : (0 : Int) ≤ (b : Int) := by omega
              obtain ⟨f0, f1⟩ := HFB.out r b hrx (by have := HPr.out; omega)
              go_wp2_with fail
              go_loop [19, 18] (fun i v => ∃ k : Nat, k ≤ bss.length ∧ i = .int .i64 k ∧ v = .int .i64 (cntO (bss.take k) r b : Int)) (fun i _ => bss.length - (intOf i).toNat)
              case atStart => exact ⟨0, by omega, rfl, by simp [cntO]⟩
              case round =>
                obtain ⟨k, hk, rfl, rfl⟩ := hrel
                have hcl := cntO_le (bss.take k) r b
                rw [List.length_take] at hcl
                by_cases h3 : k < bss.length
                · obtain ⟨Ak, ck, ek, lk, mk, ik⟩ := HBs.out.at2 h3
                  obtain ⟨b4, o4, rfl, _, e4⟩ := ik.at_ (k := r) (by rw [HBL.out k h3]; exact hrx)
                  have hrk : (r : Int) < ((rx bss k).length : Int) := by rw [HBL.out k h3]; omega
                  clear ik
                  by_cases ho : ix (rx bss k) r = (b : Int)
                  · have HO : Hid (cntO (bss.take (k + 1)) r b = cntO (bss.take k) r b + 1) := by show _ = _; rw [cntO_succ h3, if_pos ho]
                    have hob : (ix (rx bss k) r == (b : Int)) = true := by simp [ho]
                    clear ho
                    go_wp2_with fail
                    go_round
                    case rel => exact ⟨k + 1, by omega, by go_num, by rw [HO.out]; go_num⟩
                    case measure => simp [intOf]; omega
                  · have HO : Hid (cntO (bss.take (k + 1)) r b = cntO (bss.take k) r b) := by show _ = _; rw [cntO_succ h3, if_neg ho]
                    have hob : (ix (rx bss k) r == (b : Int)) = false := by simp [ho]
                    clear ho
                    go_wp2_with fail
                    go_round
                    case rel => exact ⟨k + 1, by omega, by go_num, by rw [HO.out]⟩
                    case measure => simp [intOf]; omega
                · obtain rfl : k = bss.length := by omega
                  have hA := HAM.out r b hrx (by have := HPr.out; omega)
                  have hD := HDM.out r b hrx (by have := HPr.out; omega)
                  have ht : bss.take bss.length = bss := List.take_length
                  rw [ht] at hcl ⊢
                  generalize cntO bss r b = n0 at *
                  have c0 : (0 : Int) ≤ (n0 : Int) * hi := Int.mul_nonneg (by omega) (by omega)
                  have c1 : (n0 : Int) * hi ≤ 180 := by
                    have := Int.mul_le_mul (show (n0 : Int) ≤ 20 by omega) (show hi ≤ 9 by omega) (show 0 ≤ hi by omega) (show (0 : Int) ≤ 20 by omega)
                    omega
                  have c2 : (0 : Int) ≤ (n0 : Int) * lo := Int.mul_nonneg (by omega) (by omega)
                  have c3 : (n0 : Int) * lo ≤ 180 := by
                    have := Int.mul_le_mul (show (n0 : Int) ≤ 20 by omega) (show lo ≤ 9 by omega) (show 0 ≤ lo by omega) (show (0 : Int) ≤ 20 by omega)
                    omega
                  have z1 : IntKind.i64.wrap ((n0 : Int) * hi) = (n0 : Int) * hi := IntWalk.i64_in _ (by omega)
                  have z2 : IntKind.i64.wrap ((n0 : Int) * lo) = (n0 : Int) * lo := IntWalk.i64_in _ (by omega)
                  have z3 : IntKind.i64.wrap (ix (rx xss r) b - (n0 : Int) * hi) = ix (rx xss r) b - (n0 : Int) * hi := IntWalk.i64_in _ (by omega)
                  have z4 : IntKind.i64.wrap (ix (rx xss r) b - (n0 : Int) * lo) = ix (rx xss r) b - (n0 : Int) * lo := IntWalk.i64_in _ (by omega)
                  have hA' : ix (rx P r) b = if (n0 : Int) * hi < ix (rx xss r) b then ix (rx xss r) b - (n0 : Int) * hi else 0 := by rw [hA]; split <;> omega
                  have hD' : ix (rx D r) b = if (n0 : Int) * lo < ix (rx xss r) b then ix (rx xss r) b - (n0 : Int) * lo else 0 := by rw [hD]; split <;> omega
                  clear hA hD ht c0 c1 c2 c3 hcl
                  go_wp2_with fail
                  go_quiet (fail)
                  clear hA' hD' z1 z2 z3 z4
                  go_wp2_with fail
                  go_roundw
                  case rel => exact ⟨b + 1, _, by omega, by go_num, rfl⟩
                  case measure => simp [intOf]; omega
            · go_wp2_with fail
              go_roundw
              case rel => exact ⟨r + 1, _, by omega, by go_num, rfl⟩
              case measure => simp [intOf]; omega
        · go_wp2_with fail
          refine (awake_c _).mono ?_
          rintro e w18 ⟨rfl, hb⟩
          go_wp2_with fail
          go_ret
          exact ⟨rfl, HB.out.trans ((below_drewN_l hb).mono HB.out.size)⟩
end Go.Proofs.Ytgnonfomlgkpcaa
