/-
  TopLaid: the walk.
-/
import Derived.Test.YtenpiinkbfancaaRh
import Derived.Test.YtenpiinkbfancaaLx
import Derived.Test.YtenpiinkbfancaaTlB
import Derived.Test.YtenpiinkbfancaaPb5
import Derived.Test.YtenpiinkbfancaaPb4
namespace Go.Proofs.Ytenpiinkbfancaa.Pa
open Go.RowKit
set_option linter.unusedSimpArgs false
set_option linter.unusedVariables false

attribute [local go_sem] Oper.semAt_some
structure Cont (P : Prop) : Prop where
  out : P
theorem feed {P G : Prop} (f : Cont P → G) (x : P) : G := f ⟨x⟩
theorem four_heap {W : World} {g : Nat} {a b c d x : Value} {t : TypeId} (h : W.heap[g]? = some (.cells #[a, b, c, d] t)) : (W.setCell ⟨g, 0, none⟩ x).heap[g]? = some (.cells #[x, b, c, d] t) := by
  simp [World.setCell, Array.getElem?_modify, h]
theorem four_cells {W : World} {g : Nat} {a b c d : Value} {t : TypeId} (h : W.heap[g]? = some (.cells #[a, b, c, d] t)) : (W.cell? ⟨g, 0, none⟩ = some a ∧ W.cell? ⟨g, 1, none⟩ = some b ∧ W.cell? ⟨g, 2, none⟩ = some c ∧ W.cell? ⟨g, 3, none⟩ = some d) ∧ ∀ o, W.frozen? ⟨g, o, none⟩ = false := by
  simp [World.cell?, World.frozen?, h]
set_option maxRecDepth 100000 in
set_option maxHeartbeats 16000000 in
theorem topLaid5_c (l : Ln) (H P : Option Addr) (ch cp : Nat) (s : Int × Int) (A : Option Addr) (ws : List Int) (cw : Nat) (Ao : Option Addr) (os : List Int) (co many : Nat) (w : World) (hH : Recs 2 w.heap.size w H l.hk) (hP : Recs 5 w.heap.size w P l.pt) (h2 : ∀ r ∈ l.hk, r.length = 2) (h5 : ∀ r ∈ l.pt, r.length = 5)
    (hws : W16 w.heap.size w A ws) (hcw : ws.length ≤ cw ∧ cw ≤ 9223372036854775807) (hlw : ws.length ≤ 70368744177664) (hos : W16 w.heap.size w Ao os) (hco : os.length ≤ co ∧ co ≤ 9223372036854775807) (hlo : os.length ≤ 70368744177664) (hm : many ≤ 255) :
    Calls Try.prog 5 #[LV l H P ch cp, .agg #[.int .i64 s.1, .int .i64 s.2], .slice A ws.length cw, .slice Ao os.length co, .int .u8 (many : Int)] w (Ans w (.bool true)) := by
  have hb2 := below_two2 w (.cells #[.int .i64 l.nb, .int .i64 l.nr, .slice H l.hk.length ch, .slice P l.pt.length cp] 88) (.cells #[.int .i64 s.1, .int .i64 s.2] 90)
  have HB := Lib.hid hb2
  have k0 : ((w.alloc (.cells #[.int .i64 l.nb, .int .i64 l.nr, .slice H l.hk.length ch, .slice P l.pt.length cp] 88)).alloc (.cells #[.int .i64 s.1, .int .i64 s.2] 90)).cell? ⟨w.heap.size, 0, none⟩ = some (.int .i64 l.nb) := by go_simp
  have k1 : ((w.alloc (.cells #[.int .i64 l.nb, .int .i64 l.nr, .slice H l.hk.length ch, .slice P l.pt.length cp] 88)).alloc (.cells #[.int .i64 s.1, .int .i64 s.2] 90)).cell? ⟨w.heap.size, 1, none⟩ = some (.int .i64 l.nr) := by go_simp
  have k2 : ((w.alloc (.cells #[.int .i64 l.nb, .int .i64 l.nr, .slice H l.hk.length ch, .slice P l.pt.length cp] 88)).alloc (.cells #[.int .i64 s.1, .int .i64 s.2] 90)).cell? ⟨w.heap.size, 2, none⟩ = some (.slice H l.hk.length ch) := by go_simp
  have k3 : ((w.alloc (.cells #[.int .i64 l.nb, .int .i64 l.nr, .slice H l.hk.length ch, .slice P l.pt.length cp] 88)).alloc (.cells #[.int .i64 s.1, .int .i64 s.2] 90)).cell? ⟨w.heap.size, 3, none⟩ = some (.slice P l.pt.length cp) := by go_simp
  have j0 : ((w.alloc (.cells #[.int .i64 l.nb, .int .i64 l.nr, .slice H l.hk.length ch, .slice P l.pt.length cp] 88)).alloc (.cells #[.int .i64 s.1, .int .i64 s.2] 90)).cell? ⟨w.heap.size + 1, 0, none⟩ = some (.int .i64 s.1) := by go_simp
  have j1 : ((w.alloc (.cells #[.int .i64 l.nb, .int .i64 l.nr, .slice H l.hk.length ch, .slice P l.pt.length cp] 88)).alloc (.cells #[.int .i64 s.1, .int .i64 s.2] 90)).cell? ⟨w.heap.size + 1, 1, none⟩ = some (.int .i64 s.2) := by go_simp
  have HZ : Hid (((w.alloc (.cells #[.int .i64 l.nb, .int .i64 l.nr, .slice H l.hk.length ch, .slice P l.pt.length cp] 88)).alloc (.cells #[.int .i64 s.1, .int .i64 s.2] 90)).heap.size = w.heap.size + 2) := by show _ = _; simp
  have HH := Lib.hid (hH.step hb2)
  have HP := Lib.hid (hP.step hb2)
  have HW := Lib.hid (hws.step hb2)
  have HO := Lib.hid (hos.step hb2)
  have HL2 := Lib.hid h2
  have HL5 := Lib.hid h5
  have HCW := Lib.hid hcw
  have HCO := Lib.hid hco
  have H27 := Lib.hid (fun W' => thin27_c l H P ch cp W')
  have H29 := Lib.hid (fun W' => isStart29_c l H P ch cp s.1 s.2 W')
  have H30 := Lib.hid (fun W' => laid30_c W')
  unfold LV at H27 H29 ⊢
  clear hb2 hH hP hws hos h2 h5 hcw hco
  go_enter Try.func5, Try.ntmps5
  go_wp2_with fail
  generalize ((w.alloc (.cells #[.int .i64 l.nb, .int .i64 l.nr, .slice H l.hk.length ch, .slice P l.pt.length cp] 88)).alloc (.cells #[.int .i64 s.1, .int .i64 s.2] 90)) = W0 at *
  cases hT : decide (l.pt.length ≤ 12) && decide (l.hk.length ≤ 6)
  · rw [hT] at H27
    refine (H27.out _).mono ?_
    rintro e w1 ⟨rfl, hb1⟩
    have HB1 := Lib.hid (HB.out.trans (hb1.mono HB.out.size))
    clear hb1 hT k0 k1 k2 k3 j0 j1
    go_wp2_with (go_at_call 30; refine (H30.out _).mono ?_; rintro e w9 ⟨rfl, hb9⟩)
    go_ret
    exact ⟨rfl, HB1.out.trans (hb9.mono HB1.out.size)⟩
  rw [hT] at H27
  simp only [Bool.and_eq_true, decide_eq_true_eq] at hT
  have HLH := Lib.hid hT
  refine (H27.out _).mono ?_
  rintro e w1 ⟨rfl, hb1⟩
  replace k0 := cell_of_ans hb1 k0; replace k1 := cell_of_ans hb1 k1; replace k2 := cell_of_ans hb1 k2; replace k3 := cell_of_ans hb1 k3; replace j0 := cell_of_ans hb1 j0; replace j1 := cell_of_ans hb1 j1
  have HB1 := Lib.hid hb1
  have HBw1 := Lib.hid (HB.out.trans (hb1.mono HB.out.size))
  have H28 := Lib.hid (fault28_c l H P ch cp w1 (HH.out.step hb1) (HP.out.step hb1))
  unfold LV at H28
  clear hb1 hT H27
  go_wp2_with fail
  refine H28.out.mono ?_
  rintro e w2 ⟨v, rfl, hv, hb2⟩
  have HBw2 := Lib.hid (HBw1.out.trans (hb2.mono HBw1.out.size))
  by_cases hv0 : v = 0
  rotate_left 1
  · have hv1 : (v != 0) = true := by simp [hv0]
    clear hb2 hv hv0 k0 k1 k2 k3 j0 j1
    go_wp2_with (go_at_call 30; refine (H30.out _).mono ?_; rintro e w9 ⟨rfl, hb9⟩)
    go_ret
    exact ⟨rfl, HBw2.out.trans (hb9.mono HBw2.out.size)⟩
  have HOK := Lib.hid (hv hv0)
  subst hv0
  replace k0 := cell_of_ans hb2 k0; replace k1 := cell_of_ans hb2 k1; replace k2 := cell_of_ans hb2 k2; replace k3 := cell_of_ans hb2 k3; replace j0 := cell_of_ans hb2 j0; replace j1 := cell_of_ans hb2 j1
  have HB2 := Lib.hid (HB1.out.trans (hb2.mono HB1.out.size))
  clear hb2 hv H28
  cases hS : startB l (s.1, s.2)
  · rw [hS] at H29
    clear hS
    go_wp2_with fail
    refine (H29.out _).mono ?_
    rintro e w3 ⟨rfl, hb3⟩
    have HBw3 := Lib.hid (HBw2.out.trans (hb3.mono HBw2.out.size))
    clear hb3 k0 k1 k2 k3 j0 j1
    go_wp2_with (go_at_call 30; refine (H30.out _).mono ?_; rintro e w9 ⟨rfl, hb9⟩)
    go_ret
    exact ⟨rfl, HBw3.out.trans (hb9.mono HBw3.out.size)⟩
  rw [hS] at H29
  have HST : Hid (startB l s = true) := hS
  clear hS
  go_wp2_with fail
  refine (H29.out _).mono ?_
  rintro e w3 ⟨rfl, hb3⟩
  have HBw3 := Lib.hid (HBw2.out.trans (hb3.mono HBw2.out.size))
  have HB3 := Lib.hid (HB2.out.trans (hb3.mono HB2.out.size))
  replace k0 := cell_of_ans hb3 k0; replace k1 := cell_of_ans hb3 k1; replace k2 := cell_of_ans hb3 k2; replace k3 := cell_of_ans hb3 k3; replace j0 := cell_of_ans hb3 j0; replace j1 := cell_of_ans hb3 j1
  clear hb3 H29
  by_cases h8 : l.nr ≤ 8
  rotate_left 1
  · have h8' : l.nr > 8 := by omega
    go_wp2_with (go_at_call 30; refine (H30.out _).mono ?_; rintro e w9 ⟨rfl, hb9⟩)
    go_ret
    exact ⟨rfl, HBw3.out.trans (hb9.mono HBw3.out.size)⟩
  by_cases h12 : l.nb ≤ 12
  rotate_left 1
  · have h12' : l.nb > 12 := by omega
    have h8' : ¬ (l.nr > 8) := by omega
    go_wp2_with (go_at_call 30; refine (H30.out _).mono ?_; rintro e w9 ⟨rfl, hb9⟩)
    go_ret
    exact ⟨rfl, HBw3.out.trans (hb9.mono HBw3.out.size)⟩
  by_cases hw0 : 0 < ws.length
  rotate_left 1
  · have h12' : ¬ (l.nb > 12) := by omega
    have h8' : ¬ (l.nr > 8) := by omega
    have hw0' : ((ws.length : Int) == 0) = true := by rw [beq_iff_eq]; omega
    go_wp2_with (go_at_call 30; refine (H30.out _).mono ?_; rintro e w9 ⟨rfl, hb9⟩)
    go_ret
    exact ⟨rfl, HBw3.out.trans (hb9.mono HBw3.out.size)⟩
  have hw0' : ((ws.length : Int) == 0) = false := by rw [beq_eq_false_iff_ne]; omega
  by_cases ho2 : 2 ≤ os.length
  rotate_left 1
  · have h12' : ¬ (l.nb > 12) := by omega
    have h8' : ¬ (l.nr > 8) := by omega
    have ho2' : (os.length : Int) < 2 := by omega
    go_wp2_with (go_at_call 30; refine (H30.out _).mono ?_; rintro e w9 ⟨rfl, hb9⟩)
    go_ret
    exact ⟨rfl, HBw3.out.trans (hb9.mono HBw3.out.size)⟩
  have ho2' : ¬ ((os.length : Int) < 2) := by omega
  have h12' : ¬ (l.nb > 12) := by omega
  have h8' : ¬ (l.nr > 8) := by omega
  obtain ⟨bo, oo, hAo, hbo, hcells⟩ := (HO.out.step HB3.out) (by omega)
  subst hAo
  have hoc := nonneg_all (fun k hk => (hcells k hk).2)
  have HOC := Lib.hid hoc
  have o0 := (hcells 0 (by omega)).1
  have o1 := (hcells 1 (by omega)).1
  have HOS := Lib.hid (fun k hk => (hcells k hk).1)
  have hx0 := hoc 0
  have hx1 := hoc 1
  clear hoc hcells
  generalize hv0 : ix os 0 = v0 at *
  generalize hv1 : ix os 1 = v1 at *
  have t0 := tmod_bd hx0.1 (n := 5) (by omega)
  have t1 := tmod_bd hx1.1 (n := 5) (by omega)
  have t2 := tmod_bd hx1.1 (n := 101) (by omega)
  have z0 : IntKind.i64.wrap v0 = v0 := IntWalk.i64_in _ (by omega)
  have z1 : IntKind.i64.wrap v1 = v1 := IntWalk.i64_in _ (by omega)
  obtain ⟨lo, hlo'⟩ : ∃ lo, lo = v0.tmod 5 := ⟨_, rfl⟩
  obtain ⟨dd, hdd⟩ : ∃ dd, dd = v1.tmod 5 := ⟨_, rfl⟩
  obtain ⟨ca, hca⟩ : ∃ ca, ca = v1.tmod 101 := ⟨_, rfl⟩
  rw [← hlo'] at t0
  rw [← hdd] at t1
  rw [← hca] at t2
  have y0 : v0.tmod 5 = lo := hlo'.symm
  have y1 : v1.tmod 5 = dd := hdd.symm
  have y2 : v1.tmod 101 = ca := hca.symm
  have z2 : IntKind.i64.wrap lo = lo := IntWalk.i64_in _ (by omega)
  have z3 : IntKind.i64.wrap dd = dd := IntWalk.i64_in _ (by omega)
  have z4 : IntKind.i64.wrap ca = ca := IntWalk.i64_in _ (by omega)
  have z5 : IntKind.i64.wrap (lo + dd) = lo + dd := IntWalk.i64_in _ (by omega)
  clear hlo' hdd hca
  simp only [Nat.add_zero] at o0
  have hol1 : (1 : Int) < (os.length : Int) := by omega
  have hol0 : (0 : Int) < (os.length : Int) := by omega
  have hoN : 0 < os.length := by omega
  go_wp2_with fail
  refine' feed (fun HCONT => ?main) ?cont
  case main =>
    go_region_held3 (fun w' => w'.cell? ⟨bo, oo, none⟩ = some (.int .u16 v0) ∧ w'.cell? ⟨bo, oo + 1, none⟩ = some (.int .u16 v1)) (go_keep) (first | fail)
    all_goals exact HCONT.out
  clear y0 y1 y2 z0 z1 z2 z3 z4 z5 o0 o1 hv0 hv1 hx0 hx1
  have HGB : Hid ((w3.alloc (.cells #[.slice none 0 0, .int .i64 lo, .int .i64 (lo + dd), .int .i64 ca] 96)).drew.heap[w3.heap.size]? = some (.cells #[.slice none 0 0, .int .i64 lo, .int .i64 (lo + dd), .int .i64 ca] 96)) := World.alloc_heap_new _ _
  have HBL : Hid (Below w3.heap.size w3 (w3.alloc (.cells #[.slice none 0 0, .int .i64 lo, .int .i64 (lo + dd), .int .i64 ca] 96)).drew) := ((Below.refl _ w3).alloc (Nat.le_refl _) _).drew
  have HZL : Hid ((w3.alloc (.cells #[.slice none 0 0, .int .i64 lo, .int .i64 (lo + dd), .int .i64 ca] 96)).drew.heap.size = w3.heap.size + 1) := World.size_alloc _ _
  generalize (w3.alloc (.cells #[.slice none 0 0, .int .i64 lo, .int .i64 (lo + dd), .int .i64 ca] 96)).drew = WL at *
  obtain ⟨nb, hnb⟩ : ∃ nb : Nat, (nb : Int) = l.nb := ⟨l.nb.toNat, by have := HOK.out.b0; omega⟩
  obtain ⟨nr, hnr⟩ : ∃ nr : Nat, (nr : Int) = l.nr := ⟨l.nr.toNat, by have := HOK.out.r0; omega⟩
  have HNB := Lib.hid hnb
  have HNR := Lib.hid hnr
  have hnb12 : 0 < nb ∧ nb ≤ 12 := by have := HOK.out.b0; omega
  have hnr8 : 0 < nr ∧ nr ≤ 8 := by have := HOK.out.r0; omega
  obtain ⟨hi, hhi⟩ : ∃ hi, hi = lo + dd := ⟨_, rfl⟩
  have hhi2 : lo ≤ hi ∧ hi ≤ 8 := by omega
  have HLE : Hid (Ol.laneErr (freshX os nb nr) lo hi ca = 0) := by rw [hhi]; exact fresh_lane HOC.out hnb12 hnr8 t0 t1 t2
  rw [← hhi] at HGB
  clear hhi h8 h12 h12' h8' hw0' ho2' hol1 hol0 hnb hnr t1
  go_wp2_with fail
  go_loopw [12] (fun i wr => ∃ (k : Nat) (v : Value) (vs : List Value), k ≤ nr ∧ i = .int .i64 (k : Int) ∧ Ol.Rws (w3.heap.size + 1) wr v k vs (freshR os nb) ∧ wr.heap[w3.heap.size]? = some (.cells #[v, .int .i64 lo, .int .i64 hi, .int .i64 ca] 96) ∧ Below w3.heap.size w3 wr ∧ w3.heap.size + 1 ≤ wr.heap.size) (fun i _ => nr - (intOf i).toNat)
  case atStart => exact ⟨0, _, [], by omega, rfl, Ol.Rws.nil _ _ _, HGB.out, HBL.out, by have := HZL.out; omega⟩
  case round =>
    obtain ⟨k, v, vs, hk, rfl, hR, hbx, hbw, hzw⟩ := hrel
    have HR := Lib.hid hR
    have HBX := Lib.hid hbx
    have HBW := Lib.hid hbw
    have r0 := cell_of_ans hbw k0
    have r1 := cell_of_ans hbw k1
    clear hR hbx hbw HGB HBL HZL
    by_cases h1 : k < nr
    · have h1' : ((k : Nat) : Int) < l.nr := by have := HNR.out; omega
      obtain ⟨wo, hwo⟩ : ∃ wo, wo = wr := ⟨_, rfl⟩
      subst hwo
      go_wp2_with fail
      go_loopw [14, 13] (fun i u wr => ∃ b : Nat, b ≤ nb ∧ i = .int .i64 (b : Int) ∧ Ol.OwnI wo.heap.size wr u ((freshR os nb k).take b) ∧ Below wo.heap.size wo wr) (fun i _ _ => nb - (intOf i).toNat)
      case atStart => exact ⟨0, by omega, rfl, Ol.OwnI.nil _ _, Below.refl _ _⟩
      case round =>
        obtain ⟨b, hb, rfl, hU, hbx2⟩ := hrel
        have HU := Lib.hid hU
        have HBX2 := Lib.hid hbx2
        have x0 := cell_of_ans hbx2 r0
        have x1 := cell_of_ans hbx2 r1
        clear hU r0 r1
        by_cases hb1 : b < nb
        · have hb1' : ((b : Nat) : Int) < l.nb := by have := HNB.out; omega
          have m1 : IntKind.i64.wrap (5 * (k : Int)) = 5 * (k : Int) := IntWalk.i64_in _ (by omega)
          have m2 : IntKind.i64.wrap (5 * (k : Int) + (b : Int)) = 5 * (k : Int) + (b : Int) := IntWalk.i64_in _ (by omega)
          obtain ⟨j, hj⟩ : ∃ j, j = (5 * k + b) % os.length := ⟨_, rfl⟩
          have hjl : j < os.length := by rw [hj]; exact Nat.mod_lt _ (by omega)
          have m3 : (5 * (k : Int) + (b : Int)).tmod (os.length : Int) = (j : Int) := by
            rw [show (5 * (k : Int) + (b : Int)) = ((5 * k + b : Nat) : Int) by omega, Int.tmod_eq_emod_of_nonneg (by omega), hj]
            exact (Int.natCast_emod _ _).symm
          have m4 : IntKind.i64.wrap (j : Int) = (j : Int) := IntWalk.i64_in _ (by have := HCO.out; omega)
          have m5 : ¬ (os.length : Int) = 0 := by omega
          have m6 : ((j : Nat) : Int) < (os.length : Int) := by omega
          have cx := (HBX2.out.cell (p := ⟨bo, oo + j, none⟩) (by dsimp only; omega)).trans ((HBW.out.cell (p := ⟨bo, oo + j, none⟩) (by dsimp only; omega)).trans (HOS.out j hjl))
          obtain ⟨x, hx⟩ : ∃ x, x = ix os j := ⟨_, rfl⟩
          obtain ⟨y, hy⟩ : ∃ y, y = fcell os k b := ⟨_, rfl⟩
          rw [← hx] at cx
          have hxb := HOC.out j
          rw [← hx] at hxb
          have hyb := fcell_bd HOC.out k b
          rw [← hy] at hyb
          have m7 : IntKind.i64.wrap x = x := IntWalk.i64_in _ (by omega)
          have m8 : x.tmod 101 = y := by rw [hy, fcell, ← hj, hx]
          have m9 : IntKind.i64.wrap y = y := IntWalk.i64_in _ (by omega)
          have HTL : Hid (((freshR os nb k).take b).length = b) := by show _ = _; rw [List.length_take, freshR_len]; omega
          have HTS : Hid ((freshR os nb k).take (b + 1) = (freshR os nb k).take b ++ [y]) := by
            show _ = _
            rw [hy]
            exact Ol.take_map_range nb b (fun b => fcell os k b) hb1
          have hzx := HBX2.out.size
          clear hj hx hy hxb hbx2
          go_wp2_with (at_builtin; refine wpList_appI (.tmp 106) (.tmp 119) rfl rfl wo.heap.size wr _ ((freshR os nb k).take b) y b HTL.out rfl rfl HU (by rw [HTL.out]; omega) hzx ?_; intro A6 c6 w6 HO6 HB6 HG6)
          go_roundw
          case rel => exact ⟨b + 1, by omega, by go_num, by rw [HTS.out]; exact HO6.out, HBX2.out.trans HB6.out⟩
          case measure => simp [intOf]; omega
        · obtain rfl : b = nb := by omega
          have e : (freshR os b k).take b = freshR os b k := List.take_of_length_le (by rw [freshR_len]; omega)
          rw [e] at HU
          have HL : Hid ((freshR os b k).length = b) := freshR_len _ _ _
          obtain ⟨Au, cu, hu⟩ := HU.out.form
          rw [HL.out] at hu
          subst hu
          have hb1' : ¬ (((b : Nat) : Int) < l.nb) := by have := HNB.out; omega
          obtain ⟨⟨q0, q1, q2, q3⟩, qf⟩ := four_cells ((HBX2.out.block _ (by omega)).trans HBX.out)
          have hzx := HBX2.out.size
          clear hbx2 e
          go_wp2_with (at_builtin; refine Ol.wpList_app_row (.tmp 122) (.tmp 124) rfl rfl (w3.heap.size + 1) wo wr v k vs (freshR os b) Au b cu rfl rfl HR HL.out HU HBX2 (by omega) hzw ?_; intro A7 c7 vs7 w7 HO7 HB7; obtain ⟨⟨q0, q1, q2, q3⟩, qf⟩ := four_cells ((HB7.out.block _ (by omega)).trans HBX.out))
          have h7 := (HB7.out.block _ (by omega)).trans HBX.out
          have hz7 := HB7.out.size
          go_roundw
          case rel => exact ⟨k + 1, _, vs7, by omega, by go_num, HO7.out.keptBy (only_setCell (World.grownBy.refl _ (some w3.heap.size)) (.inl rfl) _) (show w3.heap.size < w3.heap.size + 1 by omega), four_heap h7, (HBW.out.trans (HB7.out.mono (by omega))).setCell (by dsimp only; omega) _, by simp [World.setCell]; omega⟩
          case measure => simp [intOf]; omega
    · obtain rfl : nr = k := by omega
      have h1' : ¬ (((nr : Nat) : Int) < l.nr) := by have := HNR.out; omega
      have hR' : Ol.Rws (w3.heap.size + 1) wr v (freshX os nb nr).length vs (rx (freshX os nb nr)) := by
        rw [freshX_len]
        exact HR.out.congr (fun j hj => freshX_row _ _ hj)
      obtain ⟨Ax, cx, hv, hcx, hcm, hgx⟩ := hR'.grd
      rw [freshX_len] at hv hcx
      subst hv
      have HGX := Lib.hid hgx
      have HCX := Lib.hid (And.intro hcx hcm)
      replace HH := Lib.hid ((HH.out.step HB3.out).step HBW.out)
      replace HP := Lib.hid ((HP.out.step HB3.out).step HBW.out)
      replace HW := Lib.hid ((HW.out.step HB3.out).step HBW.out)
      replace HO := Lib.hid ((HO.out.step HB3.out).step HBW.out)
      replace HB := Lib.hid (HBw3.out.trans (HBW.out.mono HBw3.out.size))
      obtain ⟨⟨f0, f1, f2, f3⟩, -⟩ := four_cells HBX.out
      have r2 := cell_of_ans HBW.out k2
      have r3 := cell_of_ans HBW.out k3
      have i0 := cell_of_ans HBW.out j0
      have i1 := cell_of_ans HBW.out j1
      obtain ⟨bw, ow, hA, hbw2, hwc⟩ := HW.out hw0
      subst hA
      have HWC := Lib.hid hwc
      obtain ⟨mm, hmm⟩ : ∃ mm, mm = many % 9 := ⟨_, rfl⟩
      have hm8 : mm ≤ 8 := by omega
      have n1 : IntKind.i64.wrap (many : Int) = (many : Int) := IntWalk.i64_in _ (by omega)
      have n2 : (many : Int).tmod 9 = (mm : Int) := by rw [Int.tmod_eq_emod_of_nonneg (by omega), hmm]; omega
      have n3 : IntKind.i64.wrap (mm : Int) = (mm : Int) := IntWalk.i64_in _ (by omega)
      have hzq : w.heap.size + 2 ≤ wr.heap.size := by have := HZ.out; have := HB3.out.size; omega
      clear hR' hgx hcx hcm HR HBX HBW k0 k1 k2 k3 j0 j1 hwc HOS hmm HB1 HBw1 HB2 HBw2 HB3 HBw3 HZ
      obtain ⟨wm, hwm⟩ : ∃ wm, wm = wr := ⟨_, rfl⟩
      subst hwm
      go_wp2_with fail

      go_loopw [16, 15] (fun i u wr => ∃ (q : Nat) (bss : List (List Int)) (vs2 : List Value), q ≤ mm ∧ i = .int .i64 (q : Int) ∧ bss.length ≤ q ∧ AllGood l s bss ∧ Ol.Rws wm.heap.size wr u bss.length vs2 (rx bss) ∧ Below wm.heap.size wm wr) (fun i _ _ => mm - (intOf i).toNat)
      case atStart => exact ⟨0, [], [], by omega, rfl, by simp, AllGood.nil _ _, Ol.Rws.nil _ _ _, Below.refl _ _⟩
      case round =>
        obtain ⟨q, bss, vs2, hq, rfl, hbl, hag, hR2, hbr⟩ := hrel
        obtain ⟨wo, hwo⟩ : ∃ wo, wo = wr := ⟨_, rfl⟩
        subst hwo
        have HAG := Lib.hid hag
        have HR2 := Lib.hid hR2
        have HBR := Lib.hid hbr
        have a0 := cell_of_ans hbr r0
        have a1 := cell_of_ans hbr r1
        have a2 := cell_of_ans hbr r2
        have a3 := cell_of_ans hbr r3
        have b0 := cell_of_ans hbr i0
        have b1 := cell_of_ans hbr i1
        have HHo := Lib.hid (HH.out.step hbr)
        have HPo := Lib.hid (HP.out.step hbr)
        have HBo := Lib.hid (HB.out.trans (hbr.mono HB.out.size))
        have hzo := hbr.size
        clear hag hR2 hbr
        by_cases hqm : q < mm
        · have hqm' : ((q : Nat) : Int) < (mm : Int) := by omega
          obtain ⟨at_, hat⟩ : ∃ at_, at_ = q % ws.length := ⟨_, rfl⟩
          have hatl : at_ < ws.length := by rw [hat]; exact Nat.mod_lt _ hw0
          have o1 : ((q : Nat) : Int).tmod (ws.length : Int) = (at_ : Int) := by
            rw [Int.tmod_eq_emod_of_nonneg (by omega), hat]
            exact (Int.natCast_emod _ _).symm
          have o2 : IntKind.i64.wrap (at_ : Int) = (at_ : Int) := IntWalk.i64_in _ (by have := HCW.out; omega)
          have o3 : ¬ (ws.length : Int) = 0 := by omega
          have hs1 := fun W' : World => slice_from W' bw ow ws.length cw at_ (by omega) HCW.out.1 (by have := HCW.out; omega)
          have hs2 := fun W' : World => slice_to W' bw ow ws.length cw at_ (by omega) HCW.out.1 (by have := HCW.out; omega)
          have HFR : Hid (OwnW wo.heap.size (wo.alloc (.cells #[] 73)).drew (.slice (some ⟨wo.heap.size, 0, none⟩) 0 0) []) := OwnW.fresh (w := wo) (Nat.le_refl _)
          have HZ0 : Hid (([] : List Int).length = 0) := rfl
          have HN1 : Hid ((ws.drop at_).length = ws.length - at_) := List.length_drop
          have HN2 : Hid ((ws.take at_).length = at_) := by show _ = _; rw [List.length_take]; omega
          have HN3 : Hid (([] ++ ws.drop at_).length = ws.length - at_) := by show _ = _; rw [List.nil_append]; exact List.length_drop
          have hcw1 : ∀ k, k < ws.length → wo.cell? ⟨bw, ow + k, none⟩ = some (.int .u16 (ix ws k)) := fun k hk => (HBR.out.cell (p := ⟨bw, ow + k, none⟩) hbw2).trans (HWC.out k hk).1
          have HS1 : Hid (Src (wo.alloc (.cells #[] 73)).drew 1 (some ⟨bw, ow + at_, none⟩) (ws.drop at_).length ((ws.drop at_).map (Value.int .u16))) := src_drop (B := 0) (w := wo.alloc (.cells #[] 73)) (fun k hk => cell_alloc_keep _ (hcw1 k hk)) at_
          have hcw2 : ∀ k, k < ws.length → (wo.alloc (.cells #[] 73)).drew.cell? ⟨bw, ow + k, none⟩ = some (.int .u16 (ix ws k)) := fun k hk => cell_alloc_keep _ (hcw1 k hk)
          have HCC := Lib.hid hcw2
          have hln : 0 + (ws.length - at_) + at_ = ws.length := by omega
          have hln2 : ws.length - at_ + at_ = ws.length := by omega
          have hzx : wo.heap.size ≤ (wo.alloc (.cells #[] 73)).drew.heap.size := by show wo.heap.size ≤ (wo.alloc (.cells #[] 73)).heap.size; simp
          clear hcw1 hcw2 hat
          go_wp2_with fail
          go_region_held3 (fun _ => True) (trivial) (first | (refine step_appW (.tmp 138) (.tmp 141) rfl rfl wo.heap.size (wo.alloc (.cells #[] 73)).drew _ [] (ws.drop at_) 0 (ws.length - at_) (some ⟨bw, ow + at_, none⟩) (cw - at_) rfl rfl HFR HZ0 HN1 HS1 (by omega) hzx ?_; intro A6 c6 w6 HO6 HB6 HG6) | (refine step_appW (.tmp 142) (.tmp 145) rfl rfl wo.heap.size w6 _ ([] ++ ws.drop at_) (ws.take at_) (0 + (ws.length - at_)) at_ (some ⟨bw, ow, none⟩) cw rfl rfl HO6 (by rw [Nat.zero_add]; exact HN3) HN2 (src_take (B := 0) (fun k hk => (HB6.out.cell (p := ⟨bw, ow + k, none⟩) (by dsimp only; omega)).trans (HCC.out k hk)) at_) (by omega) (by have := HG6.out.size; simp only [World.size_drew, World.size_alloc] at this; omega) ?_; intro A7 c7 w7 HO7 HB7 HG7))
          try simp only [hln]
          try simp only [hln2]
          have h7 : OwnW wo.heap.size w7 (.slice A7 ws.length c7) (turnW ws at_) := by
            have := HO7.out
            rw [hln, List.nil_append] at this
            exact this
          have hBa : Below wo.heap.size wo (wo.alloc (.cells #[] 73)).drew := ((Below.refl _ wo).alloc (Nat.le_refl _) _).drew
          have HBq := Lib.hid ((hBa.trans HB6.out).trans HB7.out)
          obtain ⟨-, hc7, hw7⟩ := h7.w16 (turnW_bd (fun k hk => (HWC.out k hk).2) at_)
          have HWt := Lib.hid hw7
          have HTB := Lib.hid (nonneg_all (turnW_bd (fun k hk => (HWC.out k hk).2) at_))
          have HTL : Hid ((turnW ws at_).length = ws.length) := turnW_len ws (by omega)
          obtain ⟨tw, htw⟩ : ∃ tw, tw = turnW ws at_ := ⟨_, rfl⟩
          rw [← htw] at HWt HTB HTL hc7
          have HC7 := Lib.hid hc7
          replace HHo := Lib.hid (HHo.out.step HBq.out)
          replace HPo := Lib.hid (HPo.out.step HBq.out)
          replace a0 := cell_of_ans HBq.out a0
          replace a1 := cell_of_ans HBq.out a1
          replace a2 := cell_of_ans HBq.out a2
          replace a3 := cell_of_ans HBq.out a3
          replace b0 := cell_of_ans HBq.out b0
          replace b1 := cell_of_ans HBq.out b1
          have HB := Lib.hid (HBo.out.trans (HBq.out.mono HBo.out.size))
          clear h7 hBa hw7 hc7 HFR HZ0 HN1 HN2 HN3 HS1 HCC hzx hs1 hs2 o1 o2 htw HO6 HO7 HB6 HB7 HG6 HG7 HBo
          go_wp2_with fail
          have hd : Below w7.heap.size w7 w7.drew := (Below.refl _ _).drew
          replace HHo := Lib.hid (HHo.out.step hd)
          replace HPo := Lib.hid (HPo.out.step hd)
          replace HWt := Lib.hid (HWt.out.step hd)
          replace HBq := Lib.hid (HBq.out.trans (hd.mono HBq.out.size))
          replace HB := Lib.hid (HB.out.trans (hd.mono HB.out.size))
          clear hd
          go_region_held3 (fun w' => w'.cell? ⟨w.heap.size, 0, none⟩ = some (.int .i64 l.nb) ∧ w'.cell? ⟨w.heap.size, 1, none⟩ = some (.int .i64 l.nr) ∧ w'.cell? ⟨w.heap.size, 2, none⟩ = some (.slice H l.hk.length ch) ∧ w'.cell? ⟨w.heap.size, 3, none⟩ = some (.slice P l.pt.length cp) ∧ w'.cell? ⟨w.heap.size + 1, 0, none⟩ = some (.int .i64 s.1) ∧ w'.cell? ⟨w.heap.size + 1, 1, none⟩ = some (.int .i64 s.2)) (go_keep) (first | (go_at_call 32; refine (c32 l H P ch cp _ HOK.out HHo.out HPo.out HL2.out HL5.out).mono ?_; rintro e w8 ⟨H1, P1, ch1, cp1, rfl, hch1, hcp1, g1, g2, hb⟩; replace HHo := Lib.hid (HHo.out.step hb); replace HPo := Lib.hid (HPo.out.step hb); replace HWt := Lib.hid (HWt.out.step hb); replace a0 := cell_of_ans (below_drew_l hb) a0; replace a1 := cell_of_ans (below_drew_l hb) a1; replace a2 := cell_of_ans (below_drew_l hb) a2; replace a3 := cell_of_ans (below_drew_l hb) a3; replace b0 := cell_of_ans (below_drew_l hb) b0; replace b1 := cell_of_ans (below_drew_l hb) b1; replace HBq := Lib.hid (HBq.out.trans (hb.mono HBq.out.size)); replace HB := Lib.hid (HB.out.trans (hb.mono HB.out.size)); clear hb; have Hg1 := Lib.hid g1; clear g1; have Hg2 := Lib.hid g2; clear g2) | (go_at_call 33; refine (start33_c s.1 s.2 _).mono ?_; rintro e w9 ⟨rfl, hb⟩; replace HHo := Lib.hid (HHo.out.step hb); replace HPo := Lib.hid (HPo.out.step hb); replace HWt := Lib.hid (HWt.out.step hb); replace a0 := cell_of_ans hb a0; replace a1 := cell_of_ans hb a1; replace a2 := cell_of_ans hb a2; replace a3 := cell_of_ans hb a3; replace b0 := cell_of_ans hb b0; replace b1 := cell_of_ans hb b1; replace HBq := Lib.hid (HBq.out.trans (hb.mono HBq.out.size)); replace Hg1 := Lib.hid (Hg1.out.step hb); replace Hg2 := Lib.hid (Hg2.out.step hb); replace HB := Lib.hid (HB.out.trans (hb.mono HB.out.size)); clear hb) | (go_at_call 34; refine (c34 l H P ch cp s A7 tw ws.length c7 _ HOK.out HHo.out HPo.out HST.out HWt.out HC7.out HTL.out).mono ?_; rintro e w10 ⟨kk, At, ct, rfl, hrl, hct, hti, hb⟩; replace HHo := Lib.hid (HHo.out.step hb); replace HPo := Lib.hid (HPo.out.step hb); replace HWt := Lib.hid (HWt.out.step hb); replace a0 := cell_of_ans hb a0; replace a1 := cell_of_ans hb a1; replace a2 := cell_of_ans hb a2; replace a3 := cell_of_ans hb a3; replace b0 := cell_of_ans hb b0; replace b1 := cell_of_ans hb b1; replace HBq := Lib.hid (HBq.out.trans (hb.mono HBq.out.size)); replace Hg1 := Lib.hid (Hg1.out.step hb); replace Hg2 := Lib.hid (Hg2.out.step hb); replace HB := Lib.hid (HB.out.trans (hb.mono HB.out.size)); clear hb; have Hhti := Lib.hid hti; clear hti; have HRL := Lib.hid hrl; have HCT := Lib.hid hct; clear hrl hct) | (go_at_call 31; refine (c31 l H1 P1 ch1 cp1 s tw kk At ct _ HOK.out Hg1.out Hg2.out HST.out HTB.out HRL.out Hhti.out HCT.out).mono ?_; rintro e w11 ⟨Ap, np, cq, gut, rfl, hb, hgut, hres⟩; replace HHo := Lib.hid (HHo.out.step hb); replace HPo := Lib.hid (HPo.out.step hb); replace HWt := Lib.hid (HWt.out.step hb); replace a0 := cell_of_ans hb a0; replace a1 := cell_of_ans hb a1; replace a2 := cell_of_ans hb a2; replace a3 := cell_of_ans hb a3; replace b0 := cell_of_ans hb b0; replace b1 := cell_of_ans hb b1; replace HBq := Lib.hid (HBq.out.trans (hb.mono HBq.out.size)); replace Hg1 := Lib.hid (Hg1.out.step hb); replace Hg2 := Lib.hid (Hg2.out.step hb); replace Hhti := Lib.hid (Hhti.out.step hb); replace HB := Lib.hid (HB.out.trans (hb.mono HB.out.size)); clear hb; have HRES := Lib.hid hres; have HGUT := Lib.hid hgut; clear hres hgut))
          have HBW := Lib.hid (HBR.out.trans (HBq.out.mono (by omega)))
          have hw3 : IntKind.i64.wrap ((q : Int) + 1) = (q : Int) + 1 := IntWalk.i64_in _ (by omega)
          cases gut
          rotate_left 1
          · go_wp2_with fail
            go_roundw
            case rel => exact ⟨q + 1, bss, vs2, by omega, by go_num, by omega, HAG.out, HR2.out.kept HBq.out, HBW.out⟩
            case measure => simp [intOf]; omega
          · obtain ⟨hon, hnp, hcq, hrec⟩ := HRES.out rfl
            subst hnp
            have HON := Lib.hid hon
            have HREC := Lib.hid hrec
            have hk12 := goes_bd HOK.out HRL.out.1
            have HGB := Lib.hid (good_ball HOK.out (fun j => (HTB.out j).1) HRL.out hon)
            have hzs : wo.heap.size ≤ w11.heap.size := HBq.out.size
            clear hon hrec hcq
            go_wp2_with fail
            obtain ⟨wp, hwp⟩ : ∃ wp, wp = w11 := ⟨_, rfl⟩
            subst hwp
            go_loopw [23, 22] (fun i u wr => ∃ j : Nat, j ≤ kk + 1 ∧ i = .int .i64 (j : Int) ∧ Ol.OwnI wp.heap.size wr u ((ballL l s tw (kk + 1)).take j) ∧ Below wp.heap.size wp wr) (fun i _ _ => kk + 1 - (intOf i).toNat)
            case atStart => exact ⟨0, by omega, rfl, Ol.OwnI.nil _ _, Below.refl _ _⟩
            case round =>
              obtain ⟨j, hj, rfl, hU, hbx⟩ := hrel
              have HU := Lib.hid hU
              have HBX := Lib.hid hbx
              have hzx := hbx.size
              clear hU hbx
              by_cases hjk : j < kk + 1
              · have hjk' : ((j : Nat) : Int) < ((kk + 1 : Nat) : Int) := by omega
                obtain ⟨bA, oA, rfl, hbA, cA, -⟩ := HREC.out.at2 (n := j) (by rw [overL_len]; omega)
                rw [overL_at _ _ _ hjk] at cA
                replace cA := (HBX.out.cell (p := ⟨bA, oA + j * 2, none⟩) (by dsimp only; omega)).trans cA
                have hgb := (HGB.out.at_ j (by rw [ballL_len]; omega)).1
                rw [ballL_at _ _ _ hjk] at hgb
                obtain ⟨y, hy⟩ : ∃ y, y = (stI l s tw j).1 := ⟨_, rfl⟩
                rw [← hy] at cA hgb
                have hnb40 := HOK.out.b1
                have z1 : IntKind.i64.wrap (y - 1) = y - 1 := IntWalk.i64_in _ (by omega)
                have HTK : Hid (((ballL l s tw (kk + 1)).take j).length = j) := by show _ = _; rw [List.length_take, ballL_len]; omega
                have HTS : Hid ((ballL l s tw (kk + 1)).take (j + 1) = (ballL l s tw (kk + 1)).take j ++ [y - 1]) := by
                  show _ = _
                  rw [hy]
                  exact Ol.take_map_range (kk + 1) j (fun j => (stI l s tw j).1 - 1) hjk
                have hj0 : (0 : Int) ≤ (j : Int) := by omega
                have hjk2 : (j : Int) < (kk : Int) + 1 := by omega
                clear hy hgb
                go_wp2_with (at_builtin; refine wpList_appI (.tmp 169) (.tmp 176) rfl rfl wp.heap.size wr _ ((ballL l s tw (kk + 1)).take j) (y - 1) j HTK.out rfl rfl HU (by rw [HTK.out]; omega) hzx ?_; intro A6 c6 w6 HO6 HB6 HG6)
                go_roundw
                case rel => exact ⟨j + 1, by omega, by go_num, by rw [HTS.out]; exact HO6.out, HBX.out.trans HB6.out⟩
                case measure => simp [intOf]; omega
              · have hjk' : ¬ (((j : Nat) : Int) < ((kk + 1 : Nat) : Int)) := by omega
                have hjk2 : ¬ ((j : Int) < (kk : Int) + 1) := by omega
                have e : (ballL l s tw (kk + 1)).take j = ballL l s tw (kk + 1) := List.take_of_length_le (by rw [ballL_len]; omega)
                rw [e] at HU
                obtain ⟨Au, cu, hu⟩ := HU.out.form
                rw [ballL_len] at hu
                subst hu
                have HR3 := Lib.hid ((HR2.out.kept HBq.out).congr (rows' := rx (bss ++ [ballL l s tw (kk + 1)])) (fun j hj => rx_snoc_lt hj))
                have HL3 : Hid ((rx (bss ++ [ballL l s tw (kk + 1)]) bss.length).length = kk + 1) := by show _ = _; rw [rx_snoc_eq, ballL_len]
                have HU3 : Hid (Ol.OwnI wp.heap.size wr (.slice Au (kk + 1) cu) (rx (bss ++ [ballL l s tw (kk + 1)]) bss.length)) := by show Ol.OwnI _ _ _ _; rw [rx_snoc_eq]; exact HU.out
                clear e
                go_wp2_with (at_builtin; refine Ol.wpList_app_row (.tmp 178) (.tmp 180) rfl rfl wm.heap.size wp wr _ bss.length vs2 (rx (bss ++ [ballL l s tw (kk + 1)])) Au (kk + 1) cu rfl rfl HR3 HL3.out HU3 HBX (by omega) (by omega) ?_; intro A8 c8 vs8 w12 HO8 HB8)
                go_roundw
                case rel => exact ⟨q + 1, bss ++ [ballL l s tw (kk + 1)], vs8, by omega, by go_num, by simp; omega, HAG.out.snoc HGB.out, by rw [List.length_append]; exact HO8.out, (HBW.out.mono (Nat.le_refl _)).trans HB8.out⟩
                case measure => simp [intOf]; omega
        · have hqm2 : mm = q := by omega
          subst hqm2
          have hqm' : ¬ (((mm : Nat) : Int) < (mm : Int)) := by omega
          obtain ⟨Ab, cb, hvb, hcb, hcm, hgb⟩ := HR2.out.grd
          subst hvb
          have Hgb := Lib.hid hgb
          have HCB : Hid (bss.length ≤ cb ∧ cb ≤ 9223372036854775807) := ⟨hcb, hcm⟩
          have HGXo := Lib.hid (HGX.out.step HBR.out)
          have HOo := Lib.hid (HO.out.step HBR.out)
          have g0 := cell_of_ans HBR.out f0
          have g1 := cell_of_ans HBR.out f1
          have g2 := cell_of_ans HBR.out f2
          have g3 := cell_of_ans HBR.out f3
          have hll : (0 : Int) ≤ lo ∧ lo ≤ hi ∧ hi ≤ 9 := by omega
          have HBE := Lib.hid (good_err HAG.out (by omega) HNB.out HNR.out hnr8.1 HLE.out)
          have HXL : Hid ((freshX os nb nr).length = nr) := freshX_len _ _ _
          have HWE : Hid (Ol.wearsB nr lo hi bss (Ol.pickedX nr bss.length lo hi os) = true) := Ol.picked_wears os bss hll.2.1
          have HLA := Lib.hid (laid_all HAG.out HNB.out HNR.out hnr8.1 HBE.out HWE.out)
          have HB := Lib.hid HBo.out
          have hb8 : bss.length ≤ 8 := by omega
          clear HR2 hgb hcb hcm HBo HAG HBR hbl
          go_wp2_with fail
          have hd : Below wo.heap.size wo wo.drew := (Below.refl _ _).drew
          replace HGXo := Lib.hid (HGXo.out.step hd)
          replace Hgb := Lib.hid (Hgb.out.step hd)
          replace HOo := Lib.hid (HOo.out.step hd)
          replace HHo := Lib.hid (HHo.out.step hd)
          replace HPo := Lib.hid (HPo.out.step hd)
          replace HB := Lib.hid (HB.out.trans (hd.mono HB.out.size))
          clear hd
          go_region_held3 (fun w' => w'.cell? ⟨w3.heap.size, 0, none⟩ = some (.slice Ax nr cx) ∧ w'.cell? ⟨w3.heap.size, 1, none⟩ = some (.int .i64 lo) ∧ w'.cell? ⟨w3.heap.size, 2, none⟩ = some (.int .i64 hi) ∧ w'.cell? ⟨w3.heap.size, 3, none⟩ = some (.int .i64 ca)) (go_keep) (first | (go_at_call 36; refine (o36 Ax cx nr _ HGXo.out HLE.out HXL.out).mono ?_; rintro e w5 ⟨A2, c2, rfl, hc2, m2, hb⟩; replace HGXo := Lib.hid (HGXo.out.step hb); replace Hgb := Lib.hid (Hgb.out.step hb); replace HOo := Lib.hid (HOo.out.step hb); replace HHo := Lib.hid (HHo.out.step hb); replace HPo := Lib.hid (HPo.out.step hb); replace a0 := cell_of_ans (below_drew_l hb) a0; replace a1 := cell_of_ans (below_drew_l hb) a1; replace a2 := cell_of_ans (below_drew_l hb) a2; replace a3 := cell_of_ans (below_drew_l hb) a3; replace b0 := cell_of_ans (below_drew_l hb) b0; replace b1 := cell_of_ans (below_drew_l hb) b1; replace g0 := cell_of_ans (below_drew_l hb) g0; replace g1 := cell_of_ans (below_drew_l hb) g1; replace g2 := cell_of_ans (below_drew_l hb) g2; replace g3 := cell_of_ans (below_drew_l hb) g3; replace HB := Lib.hid (HB.out.trans (hb.mono HB.out.size)); clear hb; have Hm2 := Lib.hid m2; clear m2; have HC2 := Lib.hid hc2; clear hc2) | (go_at_call 37; refine (o37 Ab cb _ Hgb.out HBE.out).mono ?_; rintro e w6 ⟨A3, c3, rfl, hc3, m3, hb⟩; replace HGXo := Lib.hid (HGXo.out.step hb); replace Hgb := Lib.hid (Hgb.out.step hb); replace HOo := Lib.hid (HOo.out.step hb); replace HHo := Lib.hid (HHo.out.step hb); replace HPo := Lib.hid (HPo.out.step hb); replace a0 := cell_of_ans hb a0; replace a1 := cell_of_ans hb a1; replace a2 := cell_of_ans hb a2; replace a3 := cell_of_ans hb a3; replace b0 := cell_of_ans hb b0; replace b1 := cell_of_ans hb b1; replace g0 := cell_of_ans hb g0; replace g1 := cell_of_ans hb g1; replace g2 := cell_of_ans hb g2; replace g3 := cell_of_ans hb g3; replace Hm2 := Lib.hid (Hm2.out.step hb); replace HB := Lib.hid (HB.out.trans (hb.mono HB.out.size)); clear hb; have Hm3 := Lib.hid m3; clear m3; have HC3 := Lib.hid hc3; clear hc3) | (go_at_call 38; refine (o38 Ax Ab (some ⟨bo, oo, none⟩) nr bss.length cx cb co os _ HOo.out HCO.out (by omega) (by omega) hll).mono ?_; rintro e w7 ⟨A4, c4, rfl, hc4, m4, hb⟩; replace HGXo := Lib.hid (HGXo.out.step hb); replace Hgb := Lib.hid (Hgb.out.step hb); replace HOo := Lib.hid (HOo.out.step hb); replace HHo := Lib.hid (HHo.out.step hb); replace HPo := Lib.hid (HPo.out.step hb); replace a0 := cell_of_ans hb a0; replace a1 := cell_of_ans hb a1; replace a2 := cell_of_ans hb a2; replace a3 := cell_of_ans hb a3; replace b0 := cell_of_ans hb b0; replace b1 := cell_of_ans hb b1; replace g0 := cell_of_ans hb g0; replace g1 := cell_of_ans hb g1; replace g2 := cell_of_ans hb g2; replace g3 := cell_of_ans hb g3; replace Hm2 := Lib.hid (Hm2.out.step hb); replace Hm3 := Lib.hid (Hm3.out.step hb); replace HB := Lib.hid (HB.out.trans (hb.mono HB.out.size)); clear hb; have Hm4 := Lib.hid m4; clear m4; have HC4 := Lib.hid hc4; clear hc4) | (go_at_call 35; refine (o35 A2 A3 A4 c2 c3 c4 nr _ Hm2.out Hm3.out Hm4.out HC2.out HC3.out HC4.out HXL.out HBE.out HWE.out).mono ?_; rintro e w8 ⟨Ap, cq, rfl, gp, hb⟩; replace HGXo := Lib.hid (HGXo.out.step hb); replace Hgb := Lib.hid (Hgb.out.step hb); replace HOo := Lib.hid (HOo.out.step hb); replace HHo := Lib.hid (HHo.out.step hb); replace HPo := Lib.hid (HPo.out.step hb); replace a0 := cell_of_ans hb a0; replace a1 := cell_of_ans hb a1; replace a2 := cell_of_ans hb a2; replace a3 := cell_of_ans hb a3; replace b0 := cell_of_ans hb b0; replace b1 := cell_of_ans hb b1; replace g0 := cell_of_ans hb g0; replace g1 := cell_of_ans hb g1; replace g2 := cell_of_ans hb g2; replace g3 := cell_of_ans hb g3; replace Hm2 := Lib.hid (Hm2.out.step hb); replace Hm3 := Lib.hid (Hm3.out.step hb); replace Hm4 := Lib.hid (Hm4.out.step hb); replace HB := Lib.hid (HB.out.trans (hb.mono HB.out.size)); clear hb; have Hgp := Lib.hid gp; clear gp))
          clear Hm2 Hm3 Hm4
          clear HC2 HC3 HC4
          go_wp2_with fail
          refine (o36 Ax cx nr _ HGXo.out HLE.out HXL.out).mono ?_
          rintro e w9 ⟨A6, c6, rfl, hc6, m6, hb⟩
          replace HGXo := Lib.hid (HGXo.out.step hb)
          replace Hgb := Lib.hid (Hgb.out.step hb)
          replace HOo := Lib.hid (HOo.out.step hb)
          replace HHo := Lib.hid (HHo.out.step hb)
          replace HPo := Lib.hid (HPo.out.step hb)
          replace a0 := cell_of_ans hb a0
          replace a1 := cell_of_ans hb a1
          replace a2 := cell_of_ans hb a2
          replace a3 := cell_of_ans hb a3
          replace b0 := cell_of_ans hb b0
          replace b1 := cell_of_ans hb b1
          replace g0 := cell_of_ans hb g0
          replace g1 := cell_of_ans hb g1
          replace g2 := cell_of_ans hb g2
          replace g3 := cell_of_ans hb g3
          replace Hgp := Lib.hid (Hgp.out.step hb)
          replace HB := Lib.hid (HB.out.trans (hb.mono HB.out.size))
          clear hb
          have Hm6 := Lib.hid m6
          clear m6
          have HC6 := Lib.hid hc6
          clear hc6
          go_wp2_with fail
          refine (o37 Ab cb _ Hgb.out HBE.out).mono ?_
          rintro e w10 ⟨A7, c7, rfl, hc7, m7, hb⟩
          replace HGXo := Lib.hid (HGXo.out.step hb)
          replace Hgb := Lib.hid (Hgb.out.step hb)
          replace HOo := Lib.hid (HOo.out.step hb)
          replace HHo := Lib.hid (HHo.out.step hb)
          replace HPo := Lib.hid (HPo.out.step hb)
          replace a0 := cell_of_ans hb a0
          replace a1 := cell_of_ans hb a1
          replace a2 := cell_of_ans hb a2
          replace a3 := cell_of_ans hb a3
          replace b0 := cell_of_ans hb b0
          replace b1 := cell_of_ans hb b1
          replace g0 := cell_of_ans hb g0
          replace g1 := cell_of_ans hb g1
          replace g2 := cell_of_ans hb g2
          replace g3 := cell_of_ans hb g3
          replace Hgp := Lib.hid (Hgp.out.step hb)
          replace Hm6 := Lib.hid (Hm6.out.step hb)
          replace HB := Lib.hid (HB.out.trans (hb.mono HB.out.size))
          clear hb
          have Hm7 := Lib.hid m7
          clear m7
          have HC7 := Lib.hid hc7
          clear hc7
          go_wp2_with fail
          refine (o39 A6 A7 c6 c7 nr _ Hm6.out Hm7.out HC6.out HC7.out HXL.out HBE.out).mono ?_
          rintro e w11 ⟨Aa, ca8, Ad, cd8, rfl, ga, gd, hb⟩
          replace HGXo := Lib.hid (HGXo.out.step hb)
          replace Hgb := Lib.hid (Hgb.out.step hb)
          replace HOo := Lib.hid (HOo.out.step hb)
          replace HHo := Lib.hid (HHo.out.step hb)
          replace HPo := Lib.hid (HPo.out.step hb)
          replace a0 := cell_of_ans hb a0
          replace a1 := cell_of_ans hb a1
          replace a2 := cell_of_ans hb a2
          replace a3 := cell_of_ans hb a3
          replace b0 := cell_of_ans hb b0
          replace b1 := cell_of_ans hb b1
          replace g0 := cell_of_ans hb g0
          replace g1 := cell_of_ans hb g1
          replace g2 := cell_of_ans hb g2
          replace g3 := cell_of_ans hb g3
          replace Hgp := Lib.hid (Hgp.out.step hb)
          replace Hm6 := Lib.hid (Hm6.out.step hb)
          replace Hm7 := Lib.hid (Hm7.out.step hb)
          replace HB := Lib.hid (HB.out.trans (hb.mono HB.out.size))
          clear hb
          have Hga := Lib.hid ga
          clear ga
          have Hgd := Lib.hid gd
          clear gd
          clear Hm6 Hm7 Hgb HOo
          clear HC6 HC7 HWE HBE HLE
          obtain ⟨X, hX⟩ : ∃ X, X = freshX os nb nr := ⟨_, rfl⟩
          rw [← hX] at HGXo HLA HXL Hga Hgd Hgp
          obtain ⟨PP, hPP⟩ : ∃ PP, PP = Ol.playX X bss (Ol.pickedX nr bss.length lo hi os) ca := ⟨_, rfl⟩
          obtain ⟨LL, hLL⟩ : ∃ LL, LL = Ol.lowX X bss lo hi ca := ⟨_, rfl⟩
          obtain ⟨DD, hDD⟩ : ∃ DD, DD = Ol.highX X bss lo hi ca := ⟨_, rfl⟩
          rw [← hPP] at HLA Hgp
          rw [← hLL] at HLA Hga
          rw [← hDD] at HLA Hgd
          clear hX hPP hLL hDD HXL
          obtain ⟨bp, op, rfl⟩ := grd_addr Hgp.out (by have := HLA.out.pl; omega)
          obtain ⟨ba, oa, rfl⟩ := grd_addr Hga.out (by have := HLA.out.ll; omega)
          obtain ⟨bd, od, rfl⟩ := grd_addr Hgd.out (by have := HLA.out.dl; omega)
          obtain ⟨bx, ox, rfl⟩ := grd_addr HGXo.out (by have := HLA.out.xl; omega)
          have t1 : ((nr : Int) != l.nr) = false := by rw [HNR.out]; simp
          go_wp2_with fail
          clear t1
          go_loopw [29] (fun i wr => ∃ r : Nat, r ≤ nr ∧ i = .int .i64 (r : Int) ∧ Below w11.heap.size w11 wr) (fun i _ => nr - (intOf i).toNat)
          case atStart => exact ⟨0, by omega, rfl, Below.refl _ _⟩
          case round =>
            obtain ⟨r, hr, rfl, hbr⟩ := hrel
            obtain ⟨wo2, hwo2⟩ : ∃ wo2, wo2 = wr := ⟨_, rfl⟩
            subst hwo2
            have HBR := Lib.hid hbr
            have hb := hbr
            clear hbr
            replace HGXo := Lib.hid (HGXo.out.step hb)
            replace HHo := Lib.hid (HHo.out.step hb)
            replace HPo := Lib.hid (HPo.out.step hb)
            replace a0 := cell_of_ans hb a0
            replace a1 := cell_of_ans hb a1
            replace a2 := cell_of_ans hb a2
            replace a3 := cell_of_ans hb a3
            replace b0 := cell_of_ans hb b0
            replace b1 := cell_of_ans hb b1
            replace g0 := cell_of_ans hb g0
            replace g1 := cell_of_ans hb g1
            replace g2 := cell_of_ans hb g2
            replace g3 := cell_of_ans hb g3
            replace Hgp := Lib.hid (Hgp.out.step hb)
            replace Hga := Lib.hid (Hga.out.step hb)
            replace Hgd := Lib.hid (Hgd.out.step hb)
            replace HB := Lib.hid (HB.out.trans (hb.mono HB.out.size))
            clear hb
            by_cases h1 : r < nr
            · have h1' : ((r : Nat) : Int) < l.nr := by have := HNR.out; omega
              go_wp2_with fail
              have hd : Below wo2.heap.size wo2 wo2.drew := (Below.refl _ _).drew
              replace HGXo := Lib.hid (HGXo.out.step hd)
              replace HHo := Lib.hid (HHo.out.step hd)
              replace HPo := Lib.hid (HPo.out.step hd)
              replace Hgp := Lib.hid (Hgp.out.step hd)
              replace Hga := Lib.hid (Hga.out.step hd)
              replace Hgd := Lib.hid (Hgd.out.step hd)
              replace HBR := Lib.hid (HBR.out.trans (hd.mono HBR.out.size))
              replace HB := Lib.hid (HB.out.trans (hd.mono HB.out.size))
              clear hd
              go_region_held3 (fun w' => w'.cell? ⟨w.heap.size, 0, none⟩ = some (.int .i64 l.nb) ∧ w'.cell? ⟨w.heap.size, 1, none⟩ = some (.int .i64 l.nr) ∧ w'.cell? ⟨w.heap.size, 2, none⟩ = some (.slice H l.hk.length ch) ∧ w'.cell? ⟨w.heap.size, 3, none⟩ = some (.slice P l.pt.length cp) ∧ w'.cell? ⟨w.heap.size + 1, 0, none⟩ = some (.int .i64 s.1) ∧ w'.cell? ⟨w.heap.size + 1, 1, none⟩ = some (.int .i64 s.2)) (go_keep) (first | (go_at_call 32; refine (c32 l H P ch cp _ HOK.out HHo.out HPo.out HL2.out HL5.out).mono ?_; rintro e w12 ⟨H1, P1, ch1, cp1, rfl, hch1, hcp1, m1, m2, hb⟩; replace HGXo := Lib.hid (HGXo.out.step hb); replace HHo := Lib.hid (HHo.out.step hb); replace HPo := Lib.hid (HPo.out.step hb); replace a0 := cell_of_ans (below_drew_l hb) a0; replace a1 := cell_of_ans (below_drew_l hb) a1; replace a2 := cell_of_ans (below_drew_l hb) a2; replace a3 := cell_of_ans (below_drew_l hb) a3; replace b0 := cell_of_ans (below_drew_l hb) b0; replace b1 := cell_of_ans (below_drew_l hb) b1; replace g0 := cell_of_ans (below_drew_l hb) g0; replace g1 := cell_of_ans (below_drew_l hb) g1; replace g2 := cell_of_ans (below_drew_l hb) g2; replace g3 := cell_of_ans (below_drew_l hb) g3; replace Hgp := Lib.hid (Hgp.out.step hb); replace Hga := Lib.hid (Hga.out.step hb); replace Hgd := Lib.hid (Hgd.out.step hb); replace HBR := Lib.hid (HBR.out.trans (hb.mono HBR.out.size)); replace HB := Lib.hid (HB.out.trans (hb.mono HB.out.size)); clear hb; have Hm1 := Lib.hid m1; clear m1; have Hm2 := Lib.hid m2; clear m2) | (go_at_call 33; refine (start33_c s.1 s.2 _).mono ?_; rintro e w13 ⟨rfl, hb⟩; replace HGXo := Lib.hid (HGXo.out.step hb); replace HHo := Lib.hid (HHo.out.step hb); replace HPo := Lib.hid (HPo.out.step hb); replace a0 := cell_of_ans hb a0; replace a1 := cell_of_ans hb a1; replace a2 := cell_of_ans hb a2; replace a3 := cell_of_ans hb a3; replace b0 := cell_of_ans hb b0; replace b1 := cell_of_ans hb b1; replace g0 := cell_of_ans hb g0; replace g1 := cell_of_ans hb g1; replace g2 := cell_of_ans hb g2; replace g3 := cell_of_ans hb g3; replace Hgp := Lib.hid (Hgp.out.step hb); replace Hga := Lib.hid (Hga.out.step hb); replace Hgd := Lib.hid (Hgd.out.step hb); replace HBR := Lib.hid (HBR.out.trans (hb.mono HBR.out.size)); replace Hm1 := Lib.hid (Hm1.out.step hb); replace Hm2 := Lib.hid (Hm2.out.step hb); replace HB := Lib.hid (HB.out.trans (hb.mono HB.out.size)); clear hb) | (go_at_call 40; refine (reach40_c l H1 P1 ch1 cp1 s r _ HOK.out Hm1.out Hm2.out HST.out h1').mono ?_; rintro e w14 ⟨Au, cu, gv, us, rfl, hb, hcu, hru, hcan⟩; replace HGXo := Lib.hid (HGXo.out.step hb); replace HHo := Lib.hid (HHo.out.step hb); replace HPo := Lib.hid (HPo.out.step hb); replace a0 := cell_of_ans hb a0; replace a1 := cell_of_ans hb a1; replace a2 := cell_of_ans hb a2; replace a3 := cell_of_ans hb a3; replace b0 := cell_of_ans hb b0; replace b1 := cell_of_ans hb b1; replace g0 := cell_of_ans hb g0; replace g1 := cell_of_ans hb g1; replace g2 := cell_of_ans hb g2; replace g3 := cell_of_ans hb g3; replace Hgp := Lib.hid (Hgp.out.step hb); replace Hga := Lib.hid (Hga.out.step hb); replace Hgd := Lib.hid (Hgd.out.step hb); replace HBR := Lib.hid (HBR.out.trans (hb.mono HBR.out.size)); replace Hm1 := Lib.hid (Hm1.out.step hb); replace Hm2 := Lib.hid (Hm2.out.step hb); replace HB := Lib.hid (HB.out.trans (hb.mono HB.out.size)); clear hb; have Hhru := Lib.hid hru; clear hru; have HCAN := Lib.hid hcan; clear hcan))
              clear Hm1 Hm2
              have hz14 := HBR.out.size
              obtain ⟨Ar, cr, er, lr, mr, ir⟩ := grd_at2 Hgp.out (k := r) (by have := HLA.out.pl; omega)
              obtain ⟨Ae, ce, ee, le, me, ie⟩ := grd_at2 Hgd.out (k := r) (by have := HLA.out.dl; omega)
              obtain ⟨Ag, cg, eg, lg, mg, ig⟩ := grd_at2 Hga.out (k := r) (by have := HLA.out.ll; omega)
              obtain ⟨Af, cf, ef, lf, mf, if_⟩ := grd_at2 HGXo.out (k := r) (by have := HLA.out.xl; omega)
              rw [HLA.out.pr r h1] at er
              rw [HLA.out.dr r h1] at ee
              rw [HLA.out.lr r h1] at eg
              rw [HLA.out.xr r h1] at ef
              have IR := Lib.hid ir
              have IE := Lib.hid ie
              have IG := Lib.hid ig
              have IF := Lib.hid if_
              clear ir ie ig if_
              have hri : (r : Int) < (nr : Int) := by omega
              have hr0 : (0 : Int) ≤ (r : Int) := by omega
              have t3 : ((nb : Int) != l.nb) = false := by rw [HNB.out]; simp
              go_wp2_with fail
              go_quiet (fail)
              go_wp2_with fail
              clear t3
              obtain ⟨wq, hwq⟩ : ∃ wq, wq = w14 := ⟨_, rfl⟩
              subst hwq
              refine loop10 (c := _) (by kernel_rfl) HLA.out h1 HNB.out a0 g0 er ee eg ef IR.out IE.out IG.out IF.out Hhru.out HCAN.out hcu hnb12.2 ?_
              intros
              rename_i n
              have hd8 : Below wq.heap.size wq (wq.drewN n) := below_drewN (Below.refl _ _) n
              go_wp2_with fail
              go_roundw
              case rel => exact ⟨r + 1, by omega, by go_num, HBR.out.trans (below_drewN (Below.refl _ _) _)⟩
              case measure => simp [intOf]; omega
            · have h1' : ¬ (((r : Nat) : Int) < l.nr) := by have := HNR.out; omega
              go_wp2_with (go_at_call 30; refine (H30.out _).mono ?_; rintro e w19 ⟨rfl, hb19⟩)
              go_ret
              exact ⟨rfl, HB.out.trans (hb19.mono HB.out.size)⟩
end Go.Proofs.Ytenpiinkbfancaa.Pa
