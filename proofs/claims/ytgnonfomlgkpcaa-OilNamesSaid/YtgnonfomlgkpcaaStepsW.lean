/-
  OilSteps: the walk.
-/
import Derived.Test.YtgnonfomlgkpcaaStepsM
namespace Go.Proofs.Ytgnonfomlgkpcaa
open Go.RowKit

theorem Grd.takeL {B : Nat} {w : World} {b off m : Nat} {xss : List (List Int)} (h : Grd B w (some ⟨b, off, none⟩) xss) : Grd B w (some ⟨b, off, none⟩) (xss.take m) := fun hp => by
  rw [List.length_take] at hp
  obtain ⟨b', off', e, hb, hc⟩ := h (by omega)
  injection e with e
  injection e with e1 e2
  subst e1 e2
  refine ⟨b, off, rfl, hb, fun k hk => ?_⟩
  rw [List.length_take] at hk
  rw [rx_takeL (by omega)]
  exact hc k (by omega)
theorem Grd.dropL {B : Nat} {w : World} {b off m : Nat} {xss : List (List Int)} (h : Grd B w (some ⟨b, off, none⟩) xss) : Grd B w (some ⟨b, off + m, none⟩) (xss.drop m) := fun hp => by
  rw [List.length_drop] at hp
  obtain ⟨b', off', e, hb, hc⟩ := h (by omega)
  injection e with e
  injection e with e1 e2
  subst e1 e2
  refine ⟨b, off + m, rfl, hb, fun k hk => ?_⟩
  rw [List.length_drop] at hk
  rw [rx_drop, show off + m + k = off + (m + k) by omega]
  exact hc (m + k) (by omega)
theorem Grd.addr {B : Nat} {w : World} {A : Option Addr} {xss : List (List Int)} (h : Grd B w A xss) (hp : 0 < xss.length) : ∃ b off, A = some ⟨b, off, none⟩ := by
  obtain ⟨b, off, e, _⟩ := h hp
  exact ⟨b, off, e⟩
theorem copied_len_c (A : Option Addr) (xss : List (List Int)) (n c : Nat) (w : World) (hn : xss.length = n) (hx : Grd w.heap.size w A xss) (hl : xss.length ≤ 1000000) (hr : ∀ k, k < xss.length → (rx xss k).length ≤ 1000000) : Calls Try.prog 21 #[.slice A n c] w (IsNew w xss) := by
  subst hn
  exact copied_new_c A xss c w hx hl hr
theorem fault0_c (A : Option Addr) (xss : List (List Int)) (c : Nat) (lo hi ca : Int) (w : World) (hr : Grd w.heap.size w A xss) (hc : xss.length ≤ c ∧ c ≤ 9223372036854775807) (h : laneErr xss lo hi ca = 0) :
    Calls Try.prog 32 #[.agg #[.slice A xss.length c, .int .i64 lo, .int .i64 hi, .int .i64 ca]] w (Ans w (.int .i64 0)) := by
  have := fault_c A xss c lo hi ca w (Nat.le_refl _) hr hc
  rwa [h] at this
theorem rows_same_c (A A' : Option Addr) (xss yss : List (List Int)) (c c' : Nat) (w : World) (hx : Grd w.heap.size w A xss) (hy : Grd w.heap.size w A' yss) (hc : xss.length ≤ c ∧ c ≤ 9223372036854775807) (hc' : yss.length ≤ c' ∧ c' ≤ 9223372036854775807) (h : xss = yss) :
    Calls Try.prog 24 #[.slice A xss.length c, .slice A' yss.length c'] w (Ans w (.bool true)) := by
  refine (rows_c A A' xss yss c c' w hx hy hc hc').mono fun e w' h' => ?_
  have e : eqGB xss yss = true := by simp [eqGB, h]
  rw [e] at h'
  exact h'.ans

theorem small_lane {xss : List (List Int)} {lo hi ca : Int} (h : laneErr xss lo hi ca = 0) : xss.length ≤ 1000000 ∧ ∀ k, k < xss.length → (rx xss k).length ≤ 1000000 := by
  obtain ⟨_, h8, hr, _⟩ := laneOk h
  exact ⟨by omega, fun k hk => by have := (hr k hk).2.2; omega⟩
theorem small_balls {xss bss : List (List Int)} {lo hi ca : Int} (h : ballsErr xss lo hi ca bss = 0) : bss.length ≤ 1000000 ∧ ∀ k, k < bss.length → (rx bss k).length ≤ 1000000 := by
  obtain ⟨hle, h20, hb⟩ := ballsOk h
  obtain ⟨_, h8, _⟩ := laneOk hle
  exact ⟨by omega, fun k hk => by have := (hb k hk).1; omega⟩
theorem small_wears {xss bss wss : List (List Int)} {lo hi ca : Int} (h : ballsErr xss lo hi ca bss = 0) (hw : wearsB xss.length lo hi bss wss = true) : wss.length ≤ 1000000 ∧ ∀ k, k < wss.length → (rx wss k).length ≤ 1000000 := by
  obtain ⟨hle, h20, hb⟩ := ballsOk h
  obtain ⟨_, h8, _⟩ := laneOk hle
  obtain ⟨hl, hx⟩ := wearsOk hw
  exact ⟨by omega, fun k hk => by have := (hx k (by omega)).1; omega⟩
theorem playErr_parts {xss bss wss : List (List Int)} {lo hi ca : Int} (he : playErr xss lo hi ca bss wss = 0) : ballsErr xss lo hi ca bss = 0 ∧ wearsB xss.length lo hi bss wss = true := by
  have hb : ballsErr xss lo hi ca bss = 0 := by
    by_cases e : ballsErr xss lo hi ca bss = 0
    · exact e
    · rw [playErr, if_neg e] at he; exact absurd he e
  refine ⟨hb, ?_⟩
  rw [playErr, if_pos hb] at he
  by_cases e : wearsB xss.length lo hi bss wss = true
  · exact e
  · rw [if_neg e] at he; cases he

theorem Grd.at2 {B : Nat} {w : World} {b off k : Nat} {xss : List (List Int)} (h : Grd B w (some ⟨b, off, none⟩) xss) (hk : k < xss.length) : ∃ A' c', w.cell? ⟨b, off + k, none⟩ = some (.slice A' (rx xss k).length c') ∧ (rx xss k).length ≤ c' ∧ c' ≤ 9223372036854775807 ∧ Ints B w A' (rx xss k) := by
  obtain ⟨b', off', A', c', e, _, h1, h2, h3, h4⟩ := h.at_ hk
  injection e with e
  injection e with e1 e2
  subst e1 e2
  exact ⟨A', c', h1, h2, h3, h4⟩
def overB (bss : List (List Int)) (r b k : Nat) : Bool := (List.range k).any fun i => ix (rx bss i) r == (b : Int)
theorem overB_succ (bss : List (List Int)) (r b k : Nat) : overB bss r b (k + 1) = (overB bss r b k || ix (rx bss k) r == (b : Int)) := by simp [overB, List.range_succ]
theorem overB_false {bss : List (List Int)} {r b k : Nat} (h : overB bss r b k = false) : ∀ i, i < k → ix (rx bss i) r ≠ (b : Int) := fun i hi e => by
  simp only [overB, List.any_eq_false, List.mem_range] at h
  exact h i hi (by simp [e])
theorem below_drewN_l {a w : World} {n : Nat} (h : Below (a.drewN n).heap.size (a.drewN n) w) : Below a.heap.size a w := by
  have e : (a.drewN n).heap = a.heap := by rw [World.heap_drewN]
  rw [e] at h
  exact ((below_drewN (Below.refl a.heap.size a) n)).trans h

set_option maxRecDepth 100000 in
set_option maxHeartbeats 8000000 in
theorem oilSteps_c (A Ab Aw : Option Addr) (xss bss : List (List Int)) (ws : List Int) (c cb cw : Nat) (lo hi ca : Int) (w : World) (hx : Grd w.heap.size w A xss) (hbs : Grd w.heap.size w Ab bss) (hws : Wds w.heap.size w Aw ws) (hc : xss.length ≤ c ∧ c ≤ 9223372036854775807) (hcb : bss.length ≤ cb ∧ cb ≤ 9223372036854775807) (hcw : ws.length ≤ cw ∧ cw ≤ 9223372036854775807) :
    Calls Try.prog 6 #[.agg #[.slice A xss.length c, .int .i64 lo, .int .i64 hi, .int .i64 ca], .slice Ab bss.length cb, .slice Aw ws.length cw] w (Ans w (.bool true)) := by
  have hb0 : Below w.heap.size w (w.alloc (.cells #[.slice A xss.length c, .int .i64 lo, .int .i64 hi, .int .i64 ca] 26)) := (Below.refl _ _).alloc (Nat.le_refl _) _
  have k0 : (w.alloc (.cells #[.slice A xss.length c, .int .i64 lo, .int .i64 hi, .int .i64 ca] 26)).cell? ⟨w.heap.size, 0, none⟩ = some (.slice A xss.length c) := by simp
  have k1 : (w.alloc (.cells #[.slice A xss.length c, .int .i64 lo, .int .i64 hi, .int .i64 ca] 26)).cell? ⟨w.heap.size, 1, none⟩ = some (.int .i64 lo) := by simp
  have k2 : (w.alloc (.cells #[.slice A xss.length c, .int .i64 lo, .int .i64 hi, .int .i64 ca] 26)).cell? ⟨w.heap.size, 2, none⟩ = some (.int .i64 hi) := by simp
  have k3 : (w.alloc (.cells #[.slice A xss.length c, .int .i64 lo, .int .i64 hi, .int .i64 ca] 26)).cell? ⟨w.heap.size, 3, none⟩ = some (.int .i64 ca) := by simp
  have HX := Lib.hid (hx.step hb0)
  have HBs := Lib.hid (hbs.step hb0)
  have HWs := Lib.hid (hws.step hb0)
  have HB := Lib.hid hb0
  clear hb0 hx hbs hws
  go_enter Try.func6, Try.ntmps6
  go_wp2_with fail
  generalize (w.alloc (.cells #[.slice A xss.length c, .int .i64 lo, .int .i64 hi, .int .i64 ca] 26)) = W0 at k0 k1 k2 k3 HX HBs HWs HB ⊢
  cases hP : readyB xss lo hi ca bss
  · have HP := Lib.hid hP
    clear hP
    refine (ready_c A Ab xss bss c cb lo hi ca _ HX.out HBs.out hc hcb).mono ?_
    rw [HP.out]
    rintro e w1 ⟨rfl, hb⟩
    replace HX := Lib.hid (HX.out.step hb)
    replace HBs := Lib.hid (HBs.out.step hb)
    replace HWs := Lib.hid (HWs.out.step hb)
    replace k0 := cell_of_ans hb k0
    replace k1 := cell_of_ans hb k1
    replace k2 := cell_of_ans hb k2
    replace k3 := cell_of_ans hb k3
    replace HB := Lib.hid (HB.out.trans (hb.mono HB.out.size))
    clear hb
    go_wp2_with fail
    refine (awake_c _).mono ?_
    rintro e w9 ⟨rfl, hb⟩
    replace HX := Lib.hid (HX.out.step hb)
    replace HBs := Lib.hid (HBs.out.step hb)
    replace HWs := Lib.hid (HWs.out.step hb)
    replace k0 := cell_of_ans hb k0
    replace k1 := cell_of_ans hb k1
    replace k2 := cell_of_ans hb k2
    replace k3 := cell_of_ans hb k3
    replace HB := Lib.hid (HB.out.trans (hb.mono HB.out.size))
    clear hb
    go_wp2_with fail
    go_ret
    exact ⟨rfl, HB.out⟩
  · have HP := Lib.hid hP
    clear hP
    refine (ready_c A Ab xss bss c cb lo hi ca _ HX.out HBs.out hc hcb).mono ?_
    rw [HP.out]
    rintro e w1 ⟨rfl, hb⟩
    replace HX := Lib.hid (HX.out.step hb)
    replace HBs := Lib.hid (HBs.out.step hb)
    replace HWs := Lib.hid (HWs.out.step hb)
    replace k0 := cell_of_ans hb k0
    replace k1 := cell_of_ans hb k1
    replace k2 := cell_of_ans hb k2
    replace k3 := cell_of_ans hb k3
    replace HB := Lib.hid (HB.out.trans (hb.mono HB.out.size))
    clear hb
    by_cases hz : bss.length = 0
    · have hz' : ((bss.length : Int) == 0) = true := by simp [hz]
      clear hz
      go_wp2_with fail
      refine (awake_c _).mono ?_
      rintro e w9 ⟨rfl, hb⟩
      replace HX := Lib.hid (HX.out.step hb)
      replace HBs := Lib.hid (HBs.out.step hb)
      replace HWs := Lib.hid (HWs.out.step hb)
      replace k0 := cell_of_ans hb k0
      replace k1 := cell_of_ans hb k1
      replace k2 := cell_of_ans hb k2
      replace k3 := cell_of_ans hb k3
      replace HB := Lib.hid (HB.out.trans (hb.mono HB.out.size))
      clear hb
      go_wp2_with fail
      go_ret
      exact ⟨rfl, HB.out⟩
    · have hz' : ((bss.length : Int) == 0) = false := by rw [beq_eq_false_iff_ne]; omega
      obtain ⟨hs1, hs2, hE⟩ := readyB_ok HP.out
      have HE := Lib.hid hE
      obtain ⟨hn0, hn8, -, -, hlo, hlh, hhi, -, -⟩ := laneOk (ballsOk hE).1
      have HLE := Lib.hid (ballsOk hE).1
      have hm20 := (ballsOk hE).2.1
      clear hs1 hs2 hE
      obtain ⟨bb, ob, rfl⟩ := HBs.out.addr (by omega)
      obtain ⟨m, hm⟩ : ∃ m, bss.length = m + 1 := ⟨bss.length - 1, by omega⟩
      have HM := Lib.hid hm
      have HM7 : Hid ((bss.length : Int) - 1 = (m : Int)) := by show _ = _; omega
      have hmb : (m : Int) ≤ (cb : Int) := by omega
      have hmb2 : (m : Int) ≤ (bss.length : Int) := by omega
      have hmb3 : m < cb := by omega
      have hmb4 : m ≤ bss.length := by omega
      have hm0 : (0 : Int) ≤ (m : Int) := by omega
      clear hm hz
      go_wp2_with fail
      rw [HM7.out]
      refine (picked_c A _ Aw xss.length bss.length c cb cw ws lo hi ca _ HWs.out hcw (by omega) (by omega) hlo hlh hhi).mono ?_
      rintro e w2 ⟨A1, c1, rfl, hc1, g1, hb⟩
      replace HX := Lib.hid (HX.out.step hb)
      replace HBs := Lib.hid (HBs.out.step hb)
      replace HWs := Lib.hid (HWs.out.step hb)
      replace k0 := cell_of_ans hb k0
      replace k1 := cell_of_ans hb k1
      replace k2 := cell_of_ans hb k2
      replace k3 := cell_of_ans hb k3
      replace HB := Lib.hid (HB.out.trans (hb.mono HB.out.size))
      clear hb
      have Hg1 := Lib.hid g1
      clear g1
      clear hz'
      clear HWs
      have HWE := Lib.hid (picked_wears (n := xss.length) ws bss hlh)
      have HWL : Hid ((pickedX xss.length bss.length lo hi ws).length = bss.length) := pickedX_len _ _ _ _ _
      generalize pickedX xss.length bss.length lo hi ws = wss at Hg1 hc1 HWE HWL ⊢
      obtain ⟨b1, o1, rfl⟩ := Hg1.out.addr (by rw [HWL.out]; have := HM.out; omega)
      have GbT := Lib.hid (HBs.out.takeL (m := m))
      have GbD := Lib.hid (HBs.out.dropL (m := m))
      have GwT := Lib.hid (Hg1.out.takeL (m := m))
      have GwD := Lib.hid (Hg1.out.dropL (m := m))
      have HE1 := Lib.hid (steps_take (m := m) HE.out HWE.out)
      have HE2 := Lib.hid (steps_lane (m := m) HE.out HWE.out)
      have HE3 := Lib.hid (steps_drop (m := m) HE.out HWE.out)
      have HE4 := Lib.hid (steps_last (m := m) HE.out HWE.out HM.out)
      have HL1 : Hid ((bss.take m).length = m) := by show _ = _; rw [List.length_take]; have := HM.out; omega
      have HL2 : Hid ((bss.drop m).length = 1) := by show _ = _; rw [List.length_drop]; have := HM.out; omega
      have HL3 : Hid ((wss.take m).length = m) := by show _ = _; rw [List.length_take]; have := HM.out; have := HWL.out; omega
      have HL4 : Hid ((wss.drop m).length = 1) := by show _ = _; rw [List.length_drop]; have := HM.out; have := HWL.out; omega
      generalize bss.take m = bT at *
      generalize bss.drop m = bD at *
      generalize wss.take m = wT at *
      generalize wss.drop m = wD at *
      go_wp2_with fail
      refine (lane_c A xss c lo hi ca _ (Nat.le_refl _) HX.out (small_lane HLE.out).1 (small_lane HLE.out).2).mono ?_
      rintro e w3 ⟨A2, c2, rfl, hc2, g2, hb⟩
      replace HX := Lib.hid (HX.out.step hb)
      replace HBs := Lib.hid (HBs.out.step hb)
      replace k0 := cell_of_ans hb k0
      replace k1 := cell_of_ans hb k1
      replace k2 := cell_of_ans hb k2
      replace k3 := cell_of_ans hb k3
      replace Hg1 := Lib.hid (Hg1.out.step hb)
      replace GbT := Lib.hid (GbT.out.step hb)
      replace GbD := Lib.hid (GbD.out.step hb)
      replace GwT := Lib.hid (GwT.out.step hb)
      replace GwD := Lib.hid (GwD.out.step hb)
      replace HB := Lib.hid (HB.out.trans (hb.mono HB.out.size))
      clear hb
      have Hg2 := Lib.hid g2
      clear g2
      go_wp2_with fail
      refine (copied_new_c _ bss cb _ HBs.out (small_balls HE.out).1 (small_balls HE.out).2).mono ?_
      rintro e w4 ⟨A3, c3, rfl, hc3, g3, hb⟩
      replace HX := Lib.hid (HX.out.step hb)
      replace HBs := Lib.hid (HBs.out.step hb)
      replace k0 := cell_of_ans hb k0
      replace k1 := cell_of_ans hb k1
      replace k2 := cell_of_ans hb k2
      replace k3 := cell_of_ans hb k3
      replace Hg1 := Lib.hid (Hg1.out.step hb)
      replace GbT := Lib.hid (GbT.out.step hb)
      replace GbD := Lib.hid (GbD.out.step hb)
      replace GwT := Lib.hid (GwT.out.step hb)
      replace GwD := Lib.hid (GwD.out.step hb)
      replace Hg2 := Lib.hid (Hg2.out.step hb)
      replace HB := Lib.hid (HB.out.trans (hb.mono HB.out.size))
      clear hb
      have Hg3 := Lib.hid g3
      clear g3
      go_wp2_with fail
      refine (copied_new_c _ wss c1 _ Hg1.out (small_wears HE.out HWE.out).1 (small_wears HE.out HWE.out).2).mono ?_
      rintro e w5 ⟨A4, c4, rfl, hc4, g4, hb⟩
      replace HX := Lib.hid (HX.out.step hb)
      replace HBs := Lib.hid (HBs.out.step hb)
      replace k0 := cell_of_ans hb k0
      replace k1 := cell_of_ans hb k1
      replace k2 := cell_of_ans hb k2
      replace k3 := cell_of_ans hb k3
      replace Hg1 := Lib.hid (Hg1.out.step hb)
      replace GbT := Lib.hid (GbT.out.step hb)
      replace GbD := Lib.hid (GbD.out.step hb)
      replace GwT := Lib.hid (GwT.out.step hb)
      replace GwD := Lib.hid (GwD.out.step hb)
      replace Hg2 := Lib.hid (Hg2.out.step hb)
      replace Hg3 := Lib.hid (Hg3.out.step hb)
      replace HB := Lib.hid (HB.out.trans (hb.mono HB.out.size))
      clear hb
      have Hg4 := Lib.hid g4
      clear g4
      go_wp2_with fail
      refine (play_ok_c A2 A3 A4 xss bss wss c2 c3 c4 lo hi ca _ Hg2.out Hg3.out Hg4.out hc2 hc3 hc4 (mk_playErr HE.out HWE.out)).mono ?_
      rintro e w6 ⟨Ap, cp, rfl, hcp, gp, hb⟩
      replace HX := Lib.hid (HX.out.step hb)
      replace HBs := Lib.hid (HBs.out.step hb)
      replace k0 := cell_of_ans hb k0
      replace k1 := cell_of_ans hb k1
      replace k2 := cell_of_ans hb k2
      replace k3 := cell_of_ans hb k3
      replace Hg1 := Lib.hid (Hg1.out.step hb)
      replace GbT := Lib.hid (GbT.out.step hb)
      replace GbD := Lib.hid (GbD.out.step hb)
      replace GwT := Lib.hid (GwT.out.step hb)
      replace GwD := Lib.hid (GwD.out.step hb)
      replace Hg2 := Lib.hid (Hg2.out.step hb)
      replace Hg3 := Lib.hid (Hg3.out.step hb)
      replace Hg4 := Lib.hid (Hg4.out.step hb)
      replace HB := Lib.hid (HB.out.trans (hb.mono HB.out.size))
      clear hb
      have Hgp := Lib.hid gp
      clear gp
      clear Hg2 Hg3 Hg4
      clear hc2 hc3 hc4
      have hwm : (m : Int) ≤ (c1 : Int) := by have := HWL.out; have := HM.out; omega
      have hwm2 : (m : Int) ≤ (wss.length : Int) := by have := HWL.out; have := HM.out; omega
      have hwm3 : m < c1 := by have := HWL.out; have := HM.out; omega
      have hwm4 : m ≤ wss.length := by have := HWL.out; have := HM.out; omega
      go_wp2_with fail
      have hd : Below w6.heap.size w6 w6.drew := (Below.refl _ _).drew
      replace HX := Lib.hid (HX.out.step hd)
      replace HBs := Lib.hid (HBs.out.step hd)
      replace Hg1 := Lib.hid (Hg1.out.step hd)
      replace GbT := Lib.hid (GbT.out.step hd)
      replace GbD := Lib.hid (GbD.out.step hd)
      replace GwT := Lib.hid (GwT.out.step hd)
      replace GwD := Lib.hid (GwD.out.step hd)
      replace Hgp := Lib.hid (Hgp.out.step hd)
      replace HB := Lib.hid (HB.out.trans (hd.mono HB.out.size))
      clear hd
      have HT1 : Hid True := trivial
      have HT2 : Hid True := trivial
      go_region_held3 (fun w' => w'.cell? ⟨w.heap.size, 0, none⟩ = some (.slice A xss.length c) ∧ w'.cell? ⟨w.heap.size, 1, none⟩ = some (.int .i64 lo) ∧ w'.cell? ⟨w.heap.size, 2, none⟩ = some (.int .i64 hi) ∧ w'.cell? ⟨w.heap.size, 3, none⟩ = some (.int .i64 ca)) (go_keep) (first | (go_at_call 19; have _t := HT1; refine (lane_c A xss c lo hi ca _ (Nat.le_refl _) HX.out (small_lane HLE.out).1 (small_lane HLE.out).2).mono ?_; rintro e w7 ⟨A6, c6, rfl, hc6, g6, hb⟩; replace HX := Lib.hid (HX.out.step hb); replace HBs := Lib.hid (HBs.out.step hb); replace k0 := cell_of_ans (below_drew_l hb) k0; replace k1 := cell_of_ans (below_drew_l hb) k1; replace k2 := cell_of_ans (below_drew_l hb) k2; replace k3 := cell_of_ans (below_drew_l hb) k3; replace Hg1 := Lib.hid (Hg1.out.step hb); replace GbT := Lib.hid (GbT.out.step hb); replace GbD := Lib.hid (GbD.out.step hb); replace GwT := Lib.hid (GwT.out.step hb); replace GwD := Lib.hid (GwD.out.step hb); replace Hgp := Lib.hid (Hgp.out.step hb); replace HB := Lib.hid (HB.out.trans (hb.mono HB.out.size)); clear hb; have Hg6 := Lib.hid g6; clear g6; clear HT1) | (go_at_call 21; have _t := HT2; refine (copied_len_c _ bT m cb _ HL1.out GbT.out (small_balls (playErr_parts HE1.out).1).1 (small_balls (playErr_parts HE1.out).1).2).mono ?_; rintro e w8 ⟨A7, c7, rfl, hc7, g7, hb⟩; replace HX := Lib.hid (HX.out.step hb); replace HBs := Lib.hid (HBs.out.step hb); replace k0 := cell_of_ans hb k0; replace k1 := cell_of_ans hb k1; replace k2 := cell_of_ans hb k2; replace k3 := cell_of_ans hb k3; replace Hg1 := Lib.hid (Hg1.out.step hb); replace GbT := Lib.hid (GbT.out.step hb); replace GbD := Lib.hid (GbD.out.step hb); replace GwT := Lib.hid (GwT.out.step hb); replace GwD := Lib.hid (GwD.out.step hb); replace Hgp := Lib.hid (Hgp.out.step hb); replace Hg6 := Lib.hid (Hg6.out.step hb); replace HB := Lib.hid (HB.out.trans (hb.mono HB.out.size)); clear hb; have Hg7 := Lib.hid g7; clear g7; clear HT2) | (go_at_call 21; refine (copied_len_c _ wT m c1 _ HL3.out GwT.out (small_wears (playErr_parts HE1.out).1 (playErr_parts HE1.out).2).1 (small_wears (playErr_parts HE1.out).1 (playErr_parts HE1.out).2).2).mono ?_; rintro e w9 ⟨A8, c8, rfl, hc8, g8, hb⟩; replace HX := Lib.hid (HX.out.step hb); replace HBs := Lib.hid (HBs.out.step hb); replace k0 := cell_of_ans hb k0; replace k1 := cell_of_ans hb k1; replace k2 := cell_of_ans hb k2; replace k3 := cell_of_ans hb k3; replace Hg1 := Lib.hid (Hg1.out.step hb); replace GbT := Lib.hid (GbT.out.step hb); replace GbD := Lib.hid (GbD.out.step hb); replace GwT := Lib.hid (GwT.out.step hb); replace GwD := Lib.hid (GwD.out.step hb); replace Hgp := Lib.hid (Hgp.out.step hb); replace Hg6 := Lib.hid (Hg6.out.step hb); replace Hg7 := Lib.hid (Hg7.out.step hb); replace HB := Lib.hid (HB.out.trans (hb.mono HB.out.size)); clear hb; have Hg8 := Lib.hid g8; clear g8) | (go_at_call 20; refine (play_ok_c A6 A7 A8 xss bT wT c6 c7 c8 lo hi ca _ Hg6.out Hg7.out Hg8.out hc6 hc7 hc8 HE1.out).mono ?_; rintro e w10 ⟨Aq, cq, rfl, hcq, gq, hb⟩; replace HX := Lib.hid (HX.out.step hb); replace HBs := Lib.hid (HBs.out.step hb); replace k0 := cell_of_ans hb k0; replace k1 := cell_of_ans hb k1; replace k2 := cell_of_ans hb k2; replace k3 := cell_of_ans hb k3; replace Hg1 := Lib.hid (Hg1.out.step hb); replace GbT := Lib.hid (GbT.out.step hb); replace GbD := Lib.hid (GbD.out.step hb); replace GwT := Lib.hid (GwT.out.step hb); replace GwD := Lib.hid (GwD.out.step hb); replace Hgp := Lib.hid (Hgp.out.step hb); replace Hg6 := Lib.hid (Hg6.out.step hb); replace Hg7 := Lib.hid (Hg7.out.step hb); replace Hg8 := Lib.hid (Hg8.out.step hb); replace HB := Lib.hid (HB.out.trans (hb.mono HB.out.size)); clear hb; have Hgq := Lib.hid gq; clear gq))
      clear Hg6 Hg7 Hg8 GbT GwT
      clear hc6 hc7 hc8
      have HPL := Lib.hid (playX_len xss bss wss ca)
      have HQL := Lib.hid (playX_len xss bT wT ca)
      have HPR : Hid (∀ r, r < xss.length → (rx (playX xss bss wss ca) r).length = (rx xss 0).length) := fun r hr => playX_row hr
      have HSM : Hid (∀ r b, r < xss.length → b < (rx xss 0).length → (∀ i, i < bss.length → ix (rx bss i) r ≠ (b : Int)) → ix (rx (playX xss bss wss ca) r) b = ix (rx xss r) b) := fun r b hr hb hn => steps_same HE.out hr hb hn
      generalize playX xss bT wT ca = Q at *
      generalize playX xss bss wss ca = P at *
      go_wp2_with fail
      have hb : Below w10.heap.size w10 (w10.alloc (.cells #[.slice Aq Q.length cq, .int .i64 lo, .int .i64 hi, .int .i64 ca] 26)) := (Below.refl _ _).alloc (Nat.le_refl _) _
      replace HX := Lib.hid (HX.out.step hb)
      replace HBs := Lib.hid (HBs.out.step hb)
      replace k0 := cell_of_ans hb k0
      replace k1 := cell_of_ans hb k1
      replace k2 := cell_of_ans hb k2
      replace k3 := cell_of_ans hb k3
      replace Hg1 := Lib.hid (Hg1.out.step hb)
      replace GbD := Lib.hid (GbD.out.step hb)
      replace GwD := Lib.hid (GwD.out.step hb)
      replace Hgp := Lib.hid (Hgp.out.step hb)
      replace Hgq := Lib.hid (Hgq.out.step hb)
      replace HB := Lib.hid (HB.out.trans (hb.mono HB.out.size))
      clear hb
      have j0 : (w10.alloc (.cells #[.slice Aq Q.length cq, .int .i64 lo, .int .i64 hi, .int .i64 ca] 26)).cell? ⟨w10.heap.size, 0, none⟩ = some (.slice Aq Q.length cq) := by simp
      have j1 : (w10.alloc (.cells #[.slice Aq Q.length cq, .int .i64 lo, .int .i64 hi, .int .i64 ca] 26)).cell? ⟨w10.heap.size, 1, none⟩ = some (.int .i64 lo) := by simp
      have j2 : (w10.alloc (.cells #[.slice Aq Q.length cq, .int .i64 lo, .int .i64 hi, .int .i64 ca] 26)).cell? ⟨w10.heap.size, 2, none⟩ = some (.int .i64 hi) := by simp
      have j3 : (w10.alloc (.cells #[.slice Aq Q.length cq, .int .i64 lo, .int .i64 hi, .int .i64 ca] 26)).cell? ⟨w10.heap.size, 3, none⟩ = some (.int .i64 ca) := by simp
      generalize (w10.alloc (.cells #[.slice Aq Q.length cq, .int .i64 lo, .int .i64 hi, .int .i64 ca] 26)) = w11 at HX HBs k0 k1 k2 k3 Hg1 GbD GwD Hgp Hgq j0 j1 j2 j3 HB ⊢
      have t1 : ((P.length : Int) != (xss.length : Int)) = false := by rw [HPL.out]; simp
      have t2 : ((Q.length : Int) != (P.length : Int)) = false := by rw [HPL.out, HQL.out]; simp
      refine (fault0_c Aq Q cq lo hi ca _ Hgq.out hcq HE2.out).mono ?_
      rintro e w12 ⟨rfl, hb⟩
      replace HX := Lib.hid (HX.out.step hb)
      replace HBs := Lib.hid (HBs.out.step hb)
      replace k0 := cell_of_ans hb k0
      replace k1 := cell_of_ans hb k1
      replace k2 := cell_of_ans hb k2
      replace k3 := cell_of_ans hb k3
      replace Hg1 := Lib.hid (Hg1.out.step hb)
      replace GbD := Lib.hid (GbD.out.step hb)
      replace GwD := Lib.hid (GwD.out.step hb)
      replace Hgp := Lib.hid (Hgp.out.step hb)
      replace Hgq := Lib.hid (Hgq.out.step hb)
      replace j0 := cell_of_ans hb j0
      replace j1 := cell_of_ans hb j1
      replace j2 := cell_of_ans hb j2
      replace j3 := cell_of_ans hb j3
      replace HB := Lib.hid (HB.out.trans (hb.mono HB.out.size))
      clear hb
      go_wp2_with fail
      clear t1 t2
      have hd : Below w12.heap.size w12 w12.drew := (Below.refl _ _).drew
      replace HX := Lib.hid (HX.out.step hd)
      replace HBs := Lib.hid (HBs.out.step hd)
      replace Hg1 := Lib.hid (Hg1.out.step hd)
      replace GbD := Lib.hid (GbD.out.step hd)
      replace GwD := Lib.hid (GwD.out.step hd)
      replace Hgp := Lib.hid (Hgp.out.step hd)
      replace Hgq := Lib.hid (Hgq.out.step hd)
      replace HB := Lib.hid (HB.out.trans (hd.mono HB.out.size))
      clear hd
      have HT1 : Hid True := trivial
      have HT2 : Hid True := trivial
      go_region_held3 (fun w' => w'.cell? ⟨w10.heap.size, 0, none⟩ = some (.slice Aq Q.length cq) ∧ w'.cell? ⟨w10.heap.size, 1, none⟩ = some (.int .i64 lo) ∧ w'.cell? ⟨w10.heap.size, 2, none⟩ = some (.int .i64 hi) ∧ w'.cell? ⟨w10.heap.size, 3, none⟩ = some (.int .i64 ca)) (go_keep) (first | (go_at_call 19; have _t := HT1; refine (lane_c Aq Q cq lo hi ca _ (Nat.le_refl _) Hgq.out (small_lane HE2.out).1 (small_lane HE2.out).2).mono ?_; rintro e w13 ⟨A6, c6, rfl, hc6, g6, hb⟩; replace HX := Lib.hid (HX.out.step hb); replace HBs := Lib.hid (HBs.out.step hb); replace k0 := cell_of_ans (below_drew_l hb) k0; replace k1 := cell_of_ans (below_drew_l hb) k1; replace k2 := cell_of_ans (below_drew_l hb) k2; replace k3 := cell_of_ans (below_drew_l hb) k3; replace Hg1 := Lib.hid (Hg1.out.step hb); replace GbD := Lib.hid (GbD.out.step hb); replace GwD := Lib.hid (GwD.out.step hb); replace Hgp := Lib.hid (Hgp.out.step hb); replace Hgq := Lib.hid (Hgq.out.step hb); replace j0 := cell_of_ans (below_drew_l hb) j0; replace j1 := cell_of_ans (below_drew_l hb) j1; replace j2 := cell_of_ans (below_drew_l hb) j2; replace j3 := cell_of_ans (below_drew_l hb) j3; replace HB := Lib.hid (HB.out.trans (hb.mono HB.out.size)); clear hb; have Hg6 := Lib.hid g6; clear g6; clear HT1) | (go_at_call 21; have _t := HT2; refine (copied_len_c _ bD _ _ _ (by have := HL2.out; have := HM.out; omega) GbD.out (small_balls (playErr_parts HE3.out).1).1 (small_balls (playErr_parts HE3.out).1).2).mono ?_; rintro e w14 ⟨A7, c7, rfl, hc7, g7, hb⟩; replace HX := Lib.hid (HX.out.step hb); replace HBs := Lib.hid (HBs.out.step hb); replace k0 := cell_of_ans hb k0; replace k1 := cell_of_ans hb k1; replace k2 := cell_of_ans hb k2; replace k3 := cell_of_ans hb k3; replace Hg1 := Lib.hid (Hg1.out.step hb); replace GbD := Lib.hid (GbD.out.step hb); replace GwD := Lib.hid (GwD.out.step hb); replace Hgp := Lib.hid (Hgp.out.step hb); replace Hgq := Lib.hid (Hgq.out.step hb); replace j0 := cell_of_ans hb j0; replace j1 := cell_of_ans hb j1; replace j2 := cell_of_ans hb j2; replace j3 := cell_of_ans hb j3; replace Hg6 := Lib.hid (Hg6.out.step hb); replace HB := Lib.hid (HB.out.trans (hb.mono HB.out.size)); clear hb; have Hg7 := Lib.hid g7; clear g7; clear HT2) | (go_at_call 21; refine (copied_len_c _ wD _ _ _ (by have := HL4.out; have := HM.out; have := HWL.out; omega) GwD.out (small_wears (playErr_parts HE3.out).1 (playErr_parts HE3.out).2).1 (small_wears (playErr_parts HE3.out).1 (playErr_parts HE3.out).2).2).mono ?_; rintro e w15 ⟨A8, c8, rfl, hc8, g8, hb⟩; replace HX := Lib.hid (HX.out.step hb); replace HBs := Lib.hid (HBs.out.step hb); replace k0 := cell_of_ans hb k0; replace k1 := cell_of_ans hb k1; replace k2 := cell_of_ans hb k2; replace k3 := cell_of_ans hb k3; replace Hg1 := Lib.hid (Hg1.out.step hb); replace GbD := Lib.hid (GbD.out.step hb); replace GwD := Lib.hid (GwD.out.step hb); replace Hgp := Lib.hid (Hgp.out.step hb); replace Hgq := Lib.hid (Hgq.out.step hb); replace j0 := cell_of_ans hb j0; replace j1 := cell_of_ans hb j1; replace j2 := cell_of_ans hb j2; replace j3 := cell_of_ans hb j3; replace Hg6 := Lib.hid (Hg6.out.step hb); replace Hg7 := Lib.hid (Hg7.out.step hb); replace HB := Lib.hid (HB.out.trans (hb.mono HB.out.size)); clear hb; have Hg8 := Lib.hid g8; clear g8) | (go_at_call 20; refine (play_ok_c A6 A7 A8 Q bD wD c6 c7 c8 lo hi ca _ Hg6.out Hg7.out Hg8.out hc6 hc7 hc8 HE3.out).mono ?_; rintro e w16 ⟨Ao, co, rfl, hco, go, hb⟩; replace HX := Lib.hid (HX.out.step hb); replace HBs := Lib.hid (HBs.out.step hb); replace k0 := cell_of_ans hb k0; replace k1 := cell_of_ans hb k1; replace k2 := cell_of_ans hb k2; replace k3 := cell_of_ans hb k3; replace Hg1 := Lib.hid (Hg1.out.step hb); replace GbD := Lib.hid (GbD.out.step hb); replace GwD := Lib.hid (GwD.out.step hb); replace Hgp := Lib.hid (Hgp.out.step hb); replace Hgq := Lib.hid (Hgq.out.step hb); replace j0 := cell_of_ans hb j0; replace j1 := cell_of_ans hb j1; replace j2 := cell_of_ans hb j2; replace j3 := cell_of_ans hb j3; replace Hg6 := Lib.hid (Hg6.out.step hb); replace Hg7 := Lib.hid (Hg7.out.step hb); replace Hg8 := Lib.hid (Hg8.out.step hb); replace HB := Lib.hid (HB.out.trans (hb.mono HB.out.size)); clear hb; have Hgo := Lib.hid go; clear go))
      clear Hg6 Hg7 Hg8 GbD GwD j0 j1 j2 j3 Hgq Hg1
      clear hc6 hc7 hc8
      go_wp2_with fail
      refine (rows_same_c Ao Ap _ _ co cp _ Hgo.out Hgp.out hco hcp HE4.out).mono ?_
      rintro e w17 ⟨rfl, hb⟩
      replace HX := Lib.hid (HX.out.step hb)
      replace HBs := Lib.hid (HBs.out.step hb)
      replace k0 := cell_of_ans hb k0
      replace k1 := cell_of_ans hb k1
      replace k2 := cell_of_ans hb k2
      replace k3 := cell_of_ans hb k3
      replace Hgp := Lib.hid (Hgp.out.step hb)
      replace Hgo := Lib.hid (Hgo.out.step hb)
      replace HB := Lib.hid (HB.out.trans (hb.mono HB.out.size))
      clear hb
      clear Hgo
      obtain ⟨bp, op, rfl⟩ := Hgp.out.addr (by rw [HPL.out]; omega)
      obtain ⟨bx, ox, rfl⟩ := HX.out.addr (by omega)
      go_wp2_with fail
      have HROW : Hid (∀ r, r < xss.length → (rx xss r).length = (rx xss 0).length) := fun r hr => ((laneOk HLE.out).2.2.1 r hr).2.1
      have HBL : Hid (∀ i, i < bss.length → (rx bss i).length = xss.length) := fun i hi => ((ballsOk HE.out).2.2 i hi).1
      clear k1 k2 k3
      go_loopw [16] (fun i wr => ∃ r n : Nat, r ≤ P.length ∧ i = .int .i64 r ∧ wr = w17.drewN n) (fun i _ => P.length - (intOf i).toNat)
      case atStart => exact ⟨0, 0, by omega, rfl, rfl⟩
      case round =>
        obtain ⟨r, n, hr, rfl, rfl⟩ := hrel
        by_cases h1 : r < P.length
        · have hrx : r < xss.length := by have := HPL.out; omega
          obtain ⟨Ar, cr, er, lr, mr, ir⟩ := Hgp.out.at2 h1
          obtain ⟨Af, cf, ef, lf, mf, if_⟩ := HX.out.at2 hrx
          have HPr := Lib.hid (HPR.out r hrx)
          have HFr := Lib.hid (HROW.out r hrx)
          have IR := Lib.hid ir
          have IF := Lib.hid if_
          clear ir if_
          go_wp2_with fail
          go_loopw [17] (fun i wr => ∃ b n : Nat, b ≤ (rx P r).length ∧ i = .int .i64 b ∧ wr = w17.drewN n) (fun i _ => (rx P r).length - (intOf i).toNat)
          case atStart => exact ⟨0, _, by omega, rfl, rfl⟩
          case round =>
            obtain ⟨b, n, hb, rfl, rfl⟩ := hrel
            by_cases h2 : b < (rx P r).length
            · have h2' : b < (rx xss r).length := by have := HPr.out; have := HFr.out; omega
              obtain ⟨b2, o2, rfl, _, e2⟩ := IR.out.at_ h2
              obtain ⟨b3, o3, rfl, _, e3⟩ := IF.out.at_ h2'
              have hbi : (b : Int) < ((rx P r).length : Int) := by omega
              have hbi' : (b : Int) < ((rx xss r).length : Int) := by omega
              go_wp2_with fail
              go_loop [19, 18] (fun i v => ∃ k : Nat, k ≤ bss.length ∧ i = .int .i64 k ∧ v = .bool (overB bss r b k)) (fun i _ => bss.length - (intOf i).toNat)
              case atStart => exact ⟨0, by omega, rfl, rfl⟩
              case round =>
                obtain ⟨k, hk, rfl, rfl⟩ := hrel
                by_cases h3 : k < bss.length
                · obtain ⟨Ak, ck, ek, lk, mk, ik⟩ := HBs.out.at2 h3
                  obtain ⟨b4, o4, rfl, _, e4⟩ := ik.at_ (k := r) (by rw [HBL.out k h3]; exact hrx)
                  have hri : (r : Int) < ((rx bss k).length : Int) := by rw [HBL.out k h3]; omega
                  clear ik
                  cases ho : overB bss r b k
                  · have HO : Hid (overB bss r b (k + 1) = (ix (rx bss k) r == (b : Int))) := by show _ = _; rw [overB_succ, ho, Bool.false_or]
                    clear ho
                    go_wp2_with fail
                    go_round
                    case rel => exact ⟨k + 1, by omega, by go_num, by rw [HO.out]⟩
                    case measure => simp [intOf]; omega
                  · have HO : Hid (overB bss r b (k + 1) = true) := by show _ = _; rw [overB_succ, ho, Bool.true_or]
                    clear ho
                    go_wp2_with fail
                    go_round
                    case rel => exact ⟨k + 1, by omega, by go_num, by rw [HO.out]⟩
                    case measure => simp [intOf]; omega
                · obtain rfl : k = bss.length := by omega
                  cases ho : overB bss r b bss.length
                  · have hne : (ix (rx P r) b != ix (rx xss r) b) = false := by
                      rw [HSM.out r b hrx (by have := HPr.out; omega) (overB_false ho)]
                      simp
                    clear ho
                    go_wp2_with fail
                    go_quiet (fail)
                    go_wp2_with fail
                    go_roundw
                    case rel => exact ⟨b + 1, _, by omega, by go_num, rfl⟩
                    case measure => simp [intOf]; omega
                  · clear ho
                    go_wp2_with fail
                    go_quiet (fail)
                    go_wp2_with fail
                    go_roundw
                    case rel => exact ⟨b + 1, _, by omega, by go_num, rfl⟩
                    case measure => simp [intOf]; omega
            · go_wp2_with fail
              go_roundw
              case rel => exact ⟨r + 1, _, by omega, by go_num, rfl⟩
              case measure => simp [intOf]; omega
        · go_wp2_with fail
          refine (awake_c _).mono ?_
          rintro e w18 ⟨rfl, hb⟩
          go_wp2_with fail
          go_ret
          exact ⟨rfl, HB.out.trans ((below_drewN_l hb).mono HB.out.size)⟩
end Go.Proofs.Ytgnonfomlgkpcaa
