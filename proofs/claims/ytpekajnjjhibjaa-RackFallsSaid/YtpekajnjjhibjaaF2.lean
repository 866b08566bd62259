/-
  The reference's Fallen, walked.
-/
import Derived.Test.YtpekajnjjhibjaaF2M
namespace Go.Proofs.Ytpekajnjjhibjaa
open Go.RowKit
set_option linter.unusedSimpArgs false
set_option linter.unusedVariables false

attribute [local go_sem] Oper.semAt_some
set_option maxRecDepth 100000 in
set_option maxHeartbeats 8000000 in
theorem fallen46_c (r : Rk) (A xA yA sA : Option Addr) (c cx cy cs : Nat) (xs ys : List Int) (bs : List Bool) (w : World) (hl : Lks w.heap.size w A r.links) (hc : r.links.length ≤ c ∧ c ≤ 9223372036854775807) (hx : Ints w.heap.size w xA xs) (hcx : xs.length ≤ cx ∧ cx ≤ 9223372036854775807) (hy : Ints w.heap.size w yA ys) (hcy : ys.length ≤ cy ∧ cy ≤ 9223372036854775807) (hcs : Bls w.heap.size w sA bs) (hcs2 : bs.length ≤ cs ∧ cs ≤ 9223372036854775807)
    (he : pinErr r xs = 0) (hyl : ys.length = r.rows.toNat) (hyb : ∀ k, k < ys.length → -1000 ≤ ix ys k ∧ ix ys k ≤ 1000) (hbl : bs.length = r.links.length) :
    Calls Try.prog 46 #[.agg #[.int .i64 r.rows, .int .i64 r.mid, .int .i64 r.gap, .int .i64 r.reach, .slice A r.links.length c], .slice xA xs.length cx, .slice yA ys.length cy, .slice sA bs.length cs] w (NewO w (natsI (listS (felledS r (pinS r xs) (ix ys) (bx bs))))) := by
  have hb : Below w.heap.size w (w.alloc (.cells #[.int .i64 r.rows, .int .i64 r.mid, .int .i64 r.gap, .int .i64 r.reach, .slice A r.links.length c] 24)) := (Below.refl _ _).alloc (Nat.le_refl _) _
  have HB := Lib.hid hb
  have HL := Lib.hid (hl.step hb)
  have HX := Lib.hid (hx.step hb)
  have HY := Lib.hid (hy.step hb)
  have HC := Lib.hid (hcs.step hb)
  clear hb hl hx hy hcs
  have k0 : (w.alloc (.cells #[.int .i64 r.rows, .int .i64 r.mid, .int .i64 r.gap, .int .i64 r.reach, .slice A r.links.length c] 24)).cell? ⟨w.heap.size, 0, none⟩ = some (.int .i64 r.rows) := by simp
  have k1 : (w.alloc (.cells #[.int .i64 r.rows, .int .i64 r.mid, .int .i64 r.gap, .int .i64 r.reach, .slice A r.links.length c] 24)).cell? ⟨w.heap.size, 1, none⟩ = some (.int .i64 r.mid) := by simp
  have k2 : (w.alloc (.cells #[.int .i64 r.rows, .int .i64 r.mid, .int .i64 r.gap, .int .i64 r.reach, .slice A r.links.length c] 24)).cell? ⟨w.heap.size, 2, none⟩ = some (.int .i64 r.gap) := by simp
  have k3 : (w.alloc (.cells #[.int .i64 r.rows, .int .i64 r.mid, .int .i64 r.gap, .int .i64 r.reach, .slice A r.links.length c] 24)).cell? ⟨w.heap.size, 3, none⟩ = some (.int .i64 r.reach) := by simp
  have k4 : (w.alloc (.cells #[.int .i64 r.rows, .int .i64 r.mid, .int .i64 r.gap, .int .i64 r.reach, .slice A r.links.length c] 24)).cell? ⟨w.heap.size, 4, none⟩ = some (.slice A r.links.length c) := by simp
  have ho := rackOk (pinErr_rack he)
  have hpn := pn_le ho.rows1 ho.rows4
  have HFB := Lib.hid (fallen_bits (ys := ys) (bs := bs) he)
  have HFL := Lib.hid (fallen_list (ys := ys) (bs := bs) he)
  have HPX : Hid (∀ k, k < xs.length → ∃ p : Nat, ix xs k = (p : Int) ∧ p < pn r.rows ∧ rowP p < ys.length) := by
    intro k hk
    obtain ⟨h1, _, h3⟩ := pins_nats he
    have h4 : (xs.map Int.toNat)[k]'(by simpa using hk) < pn r.rows := h3 _ (List.getElem_mem _)
    exact ⟨_, (congrArg (ix · k) h1).trans (ix_nats (by simpa using hk)), h4, by rw [hyl]; exact rowP_lt ho.rows1 ho.rows4 h4⟩
  have HLK : Hid (∀ k, k < r.links.length → ∃ f s : Nat, (lx r.links k).f = (f : Int) ∧ (lx r.links k).t = (s : Int) ∧ f < pn r.rows ∧ s < pn r.rows) := by
    intro k hk
    have h1 := ho.link k hk
    simp only [linkB, Bool.and_eq_true, inB_eq] at h1
    exact ⟨(lx r.links k).f.toNat, (lx r.links k).t.toNat, by omega, by omega, by omega, by omega⟩
  have HBL := Lib.hid hbl
  clear hyl hbl
  have HPI := Lib.hid (fun W => pins40_c r.rows r.mid r.gap r.reach A r.links.length c W ho.rows1 ho.rows4)
  have HBO := Lib.hid (fun p W (h : p < 10) => board80_c r A c p W ho h)
  have hr0 := ho.reach0
  have hr10 := ho.reach10
  have hlen := ho.len
  have HBD : Hid (∀ p, p < 10 → -1000 ≤ boardP r p ∧ boardP r p ≤ 1000) := fun p hp => by have := board_in ho hp; omega
  have HSTEP : Hid (∀ k p, ix xs k = ((p : Nat) : Int) → initD r xs ys (k + 1) = upd (initD r xs ys k) p (reachB r p (ix ys (rowP p)))) := fun k p h => by rw [initD, h]; rfl
  obtain ⟨m, hm⟩ : ∃ m, m = pn r.rows := ⟨_, rfl⟩
  rw [← hm] at hpn HFB HFL HPX HLK HPI
  clear hm
  have hmk : ∀ W, (Instr.makeSlice 71 (.int .i64 (m : Int)) (.int .i64 (m : Int))).run Try.prog W = .ok (.slice (some ⟨W.heap.size, 0, none⟩) m m) (W.alloc (.cells (madeCells #[.bool false] m) 4)) := fun W => run_make_row' 71 4 (.bool false) 1 (by kernel_rfl) infoB4 rfl .i64 .i64 m (by omega) (by omega) W
  clear ho
  go_enter Try.func46, Try.ntmps46
  go_wp2_with fail
  generalize (w.alloc (.cells #[.int .i64 r.rows, .int .i64 r.mid, .int .i64 r.gap, .int .i64 r.reach, .slice A r.links.length c] 24)) = x1 at *
  refine (HPI.out _).mono ?_
  rintro e x2 ⟨rfl, hb⟩
  replace k0 := cell_of_ans hb k0
  replace k1 := cell_of_ans hb k1
  replace k2 := cell_of_ans hb k2
  replace k3 := cell_of_ans hb k3
  replace k4 := cell_of_ans hb k4
  replace HL := Lib.hid (HL.out.step hb)
  replace HX := Lib.hid (HX.out.step hb)
  replace HY := Lib.hid (HY.out.step hb)
  replace HC := Lib.hid (HC.out.step hb)
  replace HB := Lib.hid (HB.out.trans (hb.mono HB.out.size))
  clear hb
  have ltk4 := World.block_lt_of_cell? _ _ k4
  dsimp only at ltk4
  have HB0 := Lib.hid HB.out
  clear HB HPI
  have HD0 := Lib.hid (dn_new x2 m)
  have HB1 : Hid (Below x2.heap.size x2 (x2.alloc (.cells (madeCells #[.bool false] m) 4))) := (Below.refl _ _).alloc (Nat.le_refl _) _
  go_wp2_with fail
  go_loopw [10] (fun i wr => ∃ k : Nat, k ≤ xs.length ∧ i = .int .i64 k ∧ Dn wr x2.heap.size (initD r xs ys k) m ∧ Below x2.heap.size x2 wr) (fun i _ => xs.length - (intOf i).toNat)
  case atStart => exact ⟨0, by omega, rfl, HD0.out, HB1.out⟩
  case round =>
    clear HD0 HB1 hmk
    obtain ⟨k, hk, rfl, hD, hbr⟩ := hrel
    have HD := Lib.hid hD
    have HB := Lib.hid hbr
    clear hD hbr
    by_cases hk1 : k < xs.length
    · obtain ⟨p, hp, hpm, hrow⟩ := HPX.out k hk1
      have hp10 : p < 10 := by omega
      have hmi : (p : Int) < (m : Int) := by omega
      have hki : (k : Int) < (xs.length : Int) := by omega
      obtain ⟨b1, o1, hA1, hlt1, c1⟩ := (HX.out.below HB.out).at_ hk1
      obtain ⟨b2, o2, hA2, hlt2, c2⟩ := (HY.out.below HB.out).at_ hrow
      rw [hp] at c1
      have hrowi : (rowP p : Int) < (ys.length : Int) := by omega
      replace k0 := (HB.out.cell (p := ⟨w.heap.size, 0, none⟩) ltk4).trans k0
      replace k1 := (HB.out.cell (p := ⟨w.heap.size, 1, none⟩) ltk4).trans k1
      replace k2 := (HB.out.cell (p := ⟨w.heap.size, 2, none⟩) ltk4).trans k2
      replace k3 := (HB.out.cell (p := ⟨w.heap.size, 3, none⟩) ltk4).trans k3
      replace k4 := (HB.out.cell (p := ⟨w.heap.size, 4, none⟩) ltk4).trans k4
      have HSC := Lib.hid (HSTEP.out k p hp)
      have hyk := hyb _ hrow
      have hbp := HBD.out p hp10
      have HPL := Lib.hid (fun W => place79_c p W hp10)
      have HBP := Lib.hid (fun W => HBO.out p W hp10)
      obtain ⟨d1, d2⟩ := HD.out.cell hpm
      have HIN : Hid (∀ b, reachB r p (ix ys (rowP p)) = b → inB (boardP r p - ix ys (rowP p)) (-r.reach) r.reach = b) := fun b h => h
      generalize ix ys (rowP p) = y at *
      generalize initD r xs ys k = D at *
      generalize reachB r p y = rb at *
      generalize boardP r p = bo at *
      generalize rowP p = row at *
      generalize atP p = at' at *
      have HI2 := Lib.hid (HIN.out _ rfl)
      have hw1 : IntKind.i64.wrap (bo - y) = bo - y := IntWalk.i64_in _ (by omega)
      have hw2 : IntKind.i64.wrap (-r.reach) = -r.reach := IntWalk.i64_in _ (by omega)
      clear HIN hp
      subst hA1 hA2
      go_wp2_with fail
      refine (HPL.out _).mono ?_
      rintro e w1 ⟨rfl, rfl⟩
      go_upto_region 6 with fail
      have hd : Below wr.heap.size wr wr.drew := (Below.refl _ _).drew
      replace HD := Lib.hid (HD.out.step hd)
      replace HB := Lib.hid (HB.out.trans (hd.mono HB.out.size))
      clear hd
      go_region_held3 (fun w' => w'.cell? ⟨w.heap.size, 0, none⟩ = some (.int .i64 r.rows) ∧ w'.cell? ⟨w.heap.size, 1, none⟩ = some (.int .i64 r.mid) ∧ w'.cell? ⟨w.heap.size, 2, none⟩ = some (.int .i64 r.gap) ∧ w'.cell? ⟨w.heap.size, 3, none⟩ = some (.int .i64 r.reach) ∧ w'.cell? ⟨w.heap.size, 4, none⟩ = some (.slice A r.links.length c) ∧ w'.cell? ⟨b1, o1 + k, none⟩ = some (.int .i64 (p : Int)) ∧ w'.cell? ⟨b2, o2 + row, none⟩ = some (.int .i64 y)) (go_keep) (first | (go_at_call 80; refine (HBP.out _).mono ?_; rintro e w2 ⟨rfl, hb⟩; replace k0 := cell_of_ans (below_drew_l hb) k0; replace k1 := cell_of_ans (below_drew_l hb) k1; replace k2 := cell_of_ans (below_drew_l hb) k2; replace k3 := cell_of_ans (below_drew_l hb) k3; replace k4 := cell_of_ans (below_drew_l hb) k4; replace HD := Lib.hid (HD.out.step hb); replace c1 := cell_of_ans (below_drew_l hb) c1; replace c2 := cell_of_ans (below_drew_l hb) c2; replace d1 := cell_of_ans (below_drew_l hb) d1; replace HB := Lib.hid (HB.out.trans (hb.mono HB.out.size)); clear hb))
      go_upto_region 7 with fail
      refine wp_region_noPanic ?_
      have hS : (fun W' : World => Below w2.heap.size w2 W') w2.drew := (Below.refl _ _).drew
      refine wp_region_any (by kernel_rfl) (wpAny_of_T (S := fun W' : World => Below w2.heap.size w2 W') (m := 13) _ _ _ _ ?_)
      refine' T_take (i := 0) (v := _) rfl (by kernel_rfl) (by kernel_rfl) (by kernel_rfl) (by kernel_rfl) (fun _ _ _ h => h) (by kernel_rfl) hS ?_ ?_
      rotate_left 1
      · intro Wv hW
        replace k3 := cell_of_ans hW k3
        replace c1 := cell_of_ans hW c1
        go_simp
        first | done | with_reducible rfl
      try simp only [Act.put, List.setIfInBounds_toArray, List.set_cons_zero, List.set_cons_succ]
      refine' T_take (i := 1) (v := _) rfl (by kernel_rfl) (by kernel_rfl) (by kernel_rfl) (by kernel_rfl) (fun _ _ _ h => h) (by kernel_rfl) hS ?_ ?_
      rotate_left 1
      · intro Wv hW
        replace k3 := cell_of_ans hW k3
        replace c1 := cell_of_ans hW c1
        go_simp
        first | done | with_reducible rfl
      try simp only [Act.put, List.setIfInBounds_toArray, List.set_cons_zero, List.set_cons_succ]
      refine' T_take (i := 2) (v := _) rfl (by kernel_rfl) (by kernel_rfl) (by kernel_rfl) (by kernel_rfl) (fun _ _ _ h => h) (by kernel_rfl) hS ?_ ?_
      rotate_left 1
      · intro Wv hW
        replace k3 := cell_of_ans hW k3
        replace c1 := cell_of_ans hW c1
        go_simp
        first | done | with_reducible rfl
      try simp only [Act.put, List.setIfInBounds_toArray, List.set_cons_zero, List.set_cons_succ]
      refine' T_take (i := 3) (v := _) rfl (by kernel_rfl) (by kernel_rfl) (by kernel_rfl) (by kernel_rfl) (fun _ _ _ h => h) (by kernel_rfl) hS ?_ ?_
      rotate_left 1
      · intro Wv hW
        replace k3 := cell_of_ans hW k3
        replace c1 := cell_of_ans hW c1
        go_simp
        first | done | with_reducible rfl
      try simp only [Act.put, List.setIfInBounds_toArray, List.set_cons_zero, List.set_cons_succ]
      refine' T_take (i := 4) (v := _) rfl (by kernel_rfl) (by kernel_rfl) (by kernel_rfl) (by kernel_rfl) (fun _ _ _ h => h) (by kernel_rfl) hS ?_ ?_
      rotate_left 1
      · intro Wv hW
        replace k3 := cell_of_ans hW k3
        replace c1 := cell_of_ans hW c1
        go_simp
        first | done | with_reducible rfl
      try simp only [Act.put, List.setIfInBounds_toArray, List.set_cons_zero, List.set_cons_succ]
      refine' T_take (i := 5) (v := _) rfl (by kernel_rfl) (by kernel_rfl) (by kernel_rfl) (by kernel_rfl) (fun _ _ _ h => h) (by kernel_rfl) hS ?_ ?_
      rotate_left 1
      · intro Wv hW
        replace k3 := cell_of_ans hW k3
        replace c1 := cell_of_ans hW c1
        go_simp
        first | done | with_reducible rfl
      try simp only [Act.put, List.setIfInBounds_toArray, List.set_cons_zero, List.set_cons_succ]
      refine' T_take (i := 6) (v := _) rfl (by kernel_rfl) (by kernel_rfl) (by kernel_rfl) (by kernel_rfl) (fun _ _ _ h => h) (by kernel_rfl) hS ?_ ?_
      rotate_left 1
      · intro Wv hW
        replace k3 := cell_of_ans hW k3
        replace c1 := cell_of_ans hW c1
        go_simp
        first | done | with_reducible rfl
      try simp only [Act.put, List.setIfInBounds_toArray, List.set_cons_zero, List.set_cons_succ]
      refine' T_take (i := 7) (v := _) rfl (by kernel_rfl) (by kernel_rfl) (by kernel_rfl) (by kernel_rfl) (fun _ _ _ h => h) (by kernel_rfl) hS ?_ ?_
      rotate_left 1
      · intro Wv hW
        replace k3 := cell_of_ans hW k3
        replace c1 := cell_of_ans hW c1
        go_simp
        first | done | with_reducible rfl
      try simp only [Act.put, List.setIfInBounds_toArray, List.set_cons_zero, List.set_cons_succ]
      refine' T_take (i := 8) (v := _) rfl (by kernel_rfl) (by kernel_rfl) (by kernel_rfl) (by kernel_rfl) (fun _ _ _ h => h) (by kernel_rfl) hS ?_ ?_
      rotate_left 1
      · intro Wv hW
        replace k3 := cell_of_ans hW k3
        replace c1 := cell_of_ans hW c1
        go_simp
        first | done | with_reducible rfl
      try simp only [Act.put, List.setIfInBounds_toArray, List.set_cons_zero, List.set_cons_succ]
      refine' T_take (i := 9) (v := _) rfl (by kernel_rfl) (by kernel_rfl) (by kernel_rfl) (by kernel_rfl) (fun _ _ _ h => h) (by kernel_rfl) hS ?_ ?_
      rotate_left 1
      · intro Wv hW
        replace k3 := cell_of_ans hW k3
        replace c1 := cell_of_ans hW c1
        go_simp
        first | done | with_reducible rfl
      try simp only [Act.put, List.setIfInBounds_toArray, List.set_cons_zero, List.set_cons_succ]
      refine' T_take (i := 10) (v := _) rfl (by kernel_rfl) (by kernel_rfl) (by kernel_rfl) (by kernel_rfl) (fun _ _ _ h => h) (by kernel_rfl) hS ?_ ?_
      rotate_left 1
      · intro Wv hW
        replace k3 := cell_of_ans hW k3
        replace c1 := cell_of_ans hW c1
        go_simp
        first | done | with_reducible rfl
      try simp only [Act.put, List.setIfInBounds_toArray, List.set_cons_zero, List.set_cons_succ]
      refine T_ready (rs := [11]) (by kernel_rfl) (by simp) ?_
      refine TReady.cons rfl (fun K hK => ?_) TReady.nil
      try go_simp
      refine (in_e HI2.out).mono ?_
      rintro e w6 ⟨rfl, rfl⟩
      try go_simp
      refine hK.out _ _ (fun _ => hS) (fun _ => ?_)
      clear hK K
      try simp only [Act.put, List.setIfInBounds_toArray, List.set_cons_zero, List.set_cons_succ]
      refine' T_take (i := 12) (v := _) rfl (by kernel_rfl) (by kernel_rfl) (by kernel_rfl) (by kernel_rfl) (fun _ _ _ h => h) (by kernel_rfl) hS ?_ ?_
      rotate_left 1
      · intro Wv hW
        replace k3 := cell_of_ans hW k3
        replace c1 := cell_of_ans hW c1
        go_simp
        first | done | with_reducible rfl
      try simp only [Act.put, List.setIfInBounds_toArray, List.set_cons_zero, List.set_cons_succ]
      refine T_ready (rs := [13]) (by kernel_rfl) (by simp) ?_
      refine TReady.cons rfl (fun K hK => ?_) TReady.nil
      obtain ⟨e1, e2⟩ := (HD.out.step hS).cell hpm
      try go_simp
      refine hK.out _ _ (fun h => absurd h (by decide)) (fun _ => ?_)
      clear hK K
      try simp only [Act.put, List.setIfInBounds_toArray, List.set_cons_zero, List.set_cons_succ]
      refine T_done (by kernel_rfl) ?_ _
      refine NoPanic.normal ?_
      try go_simp
      go_wp2_with fail
      go_roundw
      case rel => exact ⟨k + 1, by omega, by go_num, by rw [HSC.out]; exact (HD.out.step hS).set p rb, (HB.out.trans (hS.mono HB.out.size)).setCell (p := ⟨x2.heap.size, p, none⟩) (Nat.le_refl _) _⟩
      case measure => simp [intOf]; omega
    · obtain rfl : k = xs.length := by omega
      clear hk hk1 HPX HSTEP HBO HBD
      go_wp2_with fail
      go_loopw [14] (fun i wt => ∃ n : Nat, n ≤ m ∧ i = .int .i64 n ∧ Dn wt x2.heap.size (iterD r.links bs xs (initD r xs ys xs.length) n) m ∧ Below x2.heap.size x2 wt) (fun i _ => m - (intOf i).toNat)
      case atStart => exact ⟨0, by omega, rfl, HD.out, HB.out⟩
      case round =>
        clear HD HB
        obtain ⟨n, hn, rfl, hD, hbr⟩ := hrel
        have HD := Lib.hid hD
        have HB := Lib.hid hbr
        clear hD hbr
        by_cases hn1 : n < m
        · have hni : (n : Int) < (m : Int) := by omega
          have HIT : Hid (iterD r.links bs xs (initD r xs ys xs.length) (n + 1) = passD r.links bs xs (iterD r.links bs xs (initD r xs ys xs.length) n) r.links.length) := rfl
          generalize iterD r.links bs xs (initD r xs ys xs.length) n = D0 at *
          go_wp2_with fail
          generalize wr = wt at *
          go_loopw [15] (fun i wu => ∃ j : Nat, j ≤ r.links.length ∧ i = .int .i64 j ∧ Dn wu x2.heap.size (passD r.links bs xs D0 j) m ∧ Below x2.heap.size x2 wu) (fun i _ => r.links.length - (intOf i).toNat)
          case atStart => exact ⟨0, by omega, rfl, HD.out, HB.out⟩
          case round =>
            clear HD HB
            obtain ⟨j, hj, rfl, hD, hbr⟩ := hrel
            have HD := Lib.hid hD
            have HB := Lib.hid hbr
            clear hD hbr
            replace k4 := (HB.out.cell (p := ⟨w.heap.size, 4, none⟩) ltk4).trans k4
            by_cases hj1 : j < r.links.length
            · obtain ⟨f, s, hf, hs, hfm, hsm⟩ := HLK.out j hj1
              obtain ⟨b1, o1, hA1, hlt1, c1, c2, c3⟩ := (HL.out.below HB.out).at_ hj1
              obtain ⟨b2, o2, hA2, hlt2, y0⟩ := (HC.out.below HB.out).at_ (k := j) (by have := HBL.out; omega)
              have hji : (j : Int) < (r.links.length : Int) := by omega
              have hjb : (j : Int) < (bs.length : Int) := by have := HBL.out; omega
              have hfi : (f : Int) < (m : Int) := by omega
              have hsi : (s : Int) < (m : Int) := by omega
              rw [hf] at c1
              rw [hs] at c2
              have HSC : Hid (passD r.links bs xs D0 (j + 1) = if (bx bs j && passD r.links bs xs D0 j f) && hasB xs (s : Int) then upd (passD r.links bs xs D0 j) s true else passD r.links bs xs D0 j) := by
                show passD r.links bs xs D0 (j + 1) = _
                rw [passD, linkD, hf, hs]
                rfl
              obtain ⟨d1, d2⟩ := HD.out.cell hfm
              obtain ⟨d3, d4⟩ := HD.out.cell hsm
              have hdl := HD.out.lt
              have hsz := HB.out.size
              have HHX := Lib.hid (fun o => (HX.out.below HB.out).alloc HB.out.size o)
              have HHS := Lib.hid (fun W h => has35_c (B := x2.heap.size) xA xs cx (s : Int) W h hcx)
              clear hf hs
              generalize passD r.links bs xs D0 j = D at *
              generalize bx bs j = cj at *
              generalize (lx r.links j).s = sr at *
              subst hA1 hA2
              have hb1 : b1 < wr.heap.size := by omega
              have hb2 : b2 < wr.heap.size := by omega
              have hw4 : w.heap.size < wr.heap.size := by omega
              cases cj
              · go_wp2_with fail
                go_roundw
                case rel => exact ⟨j + 1, by omega, by go_num, by rw [HSC.out]; exact HD.out.step ((Below.refl wr.heap.size wr).alloc (Nat.le_refl _) _), HB.out.alloc HB.out.size _⟩
                case measure => simp [intOf]; omega
              · generalize hdf : D f = df at *
                cases df
                · go_wp2_with fail
                  go_roundw
                  case rel => exact ⟨j + 1, by omega, by go_num, by rw [HSC.out]; exact HD.out.step ((Below.refl wr.heap.size wr).alloc (Nat.le_refl _) _), HB.out.alloc HB.out.size _⟩
                  case measure => simp [intOf]; omega
                · generalize hasB xs (s : Int) = hv at *
                  cases hv
                  · go_wp2_with (go_at_call 35; refine (HHS.out _ (HHX.out _)).mono ?_; rintro e w1 ⟨rfl, rfl⟩)
                    go_roundw
                    case rel => exact ⟨j + 1, by omega, by go_num, by rw [HSC.out]; exact HD.out.step ((Below.refl wr.heap.size wr).alloc (Nat.le_refl _) _), HB.out.alloc HB.out.size _⟩
                    case measure => simp [intOf]; omega
                  · go_wp2_with (go_at_call 35; refine (HHS.out _ (HHX.out _)).mono ?_; rintro e w1 ⟨rfl, rfl⟩)
                    go_roundw
                    case rel => exact ⟨j + 1, by omega, by go_num, by rw [HSC.out]; exact (HD.out.set s true).step ((Below.refl _ _).alloc (Nat.le_refl _) _), (HB.out.setCell (p := ⟨x2.heap.size, s, none⟩) (Nat.le_refl _) _).alloc (HB.out.setCell (p := ⟨x2.heap.size, s, none⟩) (Nat.le_refl _) (.bool true)).size _⟩
                    case measure => simp [intOf]; omega
            · obtain rfl : j = r.links.length := by omega
              go_wp2_with fail
              go_roundw
              case rel => exact ⟨n + 1, by omega, by go_num, by rw [HIT.out]; exact HD.out, HB.out⟩
              case measure => simp [intOf]; omega
        · obtain rfl : m = n := by omega
          rw [HFB.out] at HD
          clear HFB HLK HL HX HY HC k0 k1 k2 k3 k4
          generalize felledS r (pinS r xs) (ix ys) (bx bs) = F at *
          have hdl := HD.out.lt
          go_wp2_with fail
          generalize wr = wt at *
          go_loopw [17, 18] (fun o i wv => ∃ q : Nat, q ≤ m ∧ i = .int .i64 q ∧ OwnI wt.heap.size wv o (natsI ((List.range q).filter F.testBit)) ∧ Below wt.heap.size wt wv) (fun _ i _ => m - (intOf i).toNat)
          case atStart => exact ⟨0, by omega, rfl, OwnI.nil _ _, Below.refl _ _⟩
          case round =>
            obtain ⟨q, hq, rfl, hO, hbv⟩ := hrel
            have HO := Lib.hid hO
            have HBV := Lib.hid hbv
            obtain ⟨Ao, co, rfl⟩ := hO.form
            have hwr : wt.heap.size ≤ wr.heap.size := hbv.size
            clear hO hbv
            by_cases hq1 : q < m
            · obtain ⟨d1, d2⟩ := (HD.out.step HBV.out).cell hq1
              have hqi : (q : Int) < (m : Int) := by omega
              have hln : (natsI ((List.range q).filter F.testBit)).length ≤ q := by
                rw [natsI_len]
                exact Nat.le_trans (List.length_filter_le _ _) (by simp)
              cases e1 : F.testBit q
              · have HT := Lib.hid (listS_skip F q e1)
                rw [e1] at d1
                generalize natsI ((List.range q).filter F.testBit) = os at *
                go_wp2_with fail
                go_roundw
                case rel => exact ⟨q + 1, by omega, by go_num, by rw [HT.out]; exact HO.out, HBV.out⟩
                case measure => simp [intOf]; omega
              · have HT := Lib.hid (listS_take F q e1)
                rw [e1] at d1
                generalize natsI ((List.range q).filter F.testBit) = os at *
                go_wp2_with (at_builtin; refine wpList_app_int (.tmp 109) (.tmp 111) rfl rfl wt.heap.size _ _ os (q : Int) rfl rfl HO (by omega) hwr ?_; intro A2 c2 wn HO2 HB2)
                go_roundw
                case rel => exact ⟨q + 1, by omega, by go_num, by rw [HT.out]; exact HO2.out, HBV.out.trans HB2.out⟩
                case measure => simp [intOf]; omega
            · obtain rfl : m = q := by omega
              rw [HFL.out] at HO ⊢
              go_wp2_with fail
              go_ret
              exact ⟨_, _, rfl, ownsRow_base HO.out (Nat.le_trans HB0.out.size HB.out.size), HB0.out.trans ((HB.out.trans (HBV.out.mono HB.out.size)).mono HB0.out.size)⟩
end Go.Proofs.Ytpekajnjjhibjaa
