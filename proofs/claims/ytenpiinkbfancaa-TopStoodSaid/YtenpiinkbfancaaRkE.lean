/-
  rack: how many pins a ball can leave; what it leaves in a truth (carried over from the proofs of the chapter 02).
-/
import Derived.Test.YtenpiinkbfancaaRkD
namespace Go.Proofs.Ytenpiinkbfancaa.Rk
open Go.RowKit
set_option linter.unusedSimpArgs false
set_option linter.unusedVariables false

section
open Go.RowKit
attribute [local go_sem] Oper.semAt_some
set_option maxRecDepth 100000 in
set_option maxHeartbeats 8000000 in
theorem fault68_c (r : Rk) (A : Option Addr) (c : Nat) (w : World) (hl : Lks w.heap.size w A r.links) (hc : r.links.length ≤ c ∧ c ≤ 9223372036854775807) :
    Calls Try.prog 18 #[.agg #[.int .i64 r.rows, .int .i64 r.mid, .int .i64 r.gap, .int .i64 r.reach, .slice A r.links.length c]] w (Ans w (.int .i64 (rackErr r))) := by
  have HB := Lib.hid (Below.refl w.heap.size w)
  have HX := Lib.hid hl
  clear hl
  have hb : Below w.heap.size w (w.alloc (.cells #[.int .i64 r.rows, .int .i64 r.mid, .int .i64 r.gap, .int .i64 r.reach, .slice A r.links.length c] 58)) := (Below.refl _ _).alloc (Nat.le_refl _) _
  replace HX := Lib.hid (HX.out.step hb)
  replace HB := Lib.hid (HB.out.trans (hb.mono HB.out.size))
  clear hb
  have k0 : (w.alloc (.cells #[.int .i64 r.rows, .int .i64 r.mid, .int .i64 r.gap, .int .i64 r.reach, .slice A r.links.length c] 58)).cell? ⟨w.heap.size, 0, none⟩ = some (.int .i64 r.rows) := by simp
  have k1 : (w.alloc (.cells #[.int .i64 r.rows, .int .i64 r.mid, .int .i64 r.gap, .int .i64 r.reach, .slice A r.links.length c] 58)).cell? ⟨w.heap.size, 1, none⟩ = some (.int .i64 r.mid) := by simp
  have k2 : (w.alloc (.cells #[.int .i64 r.rows, .int .i64 r.mid, .int .i64 r.gap, .int .i64 r.reach, .slice A r.links.length c] 58)).cell? ⟨w.heap.size, 2, none⟩ = some (.int .i64 r.gap) := by simp
  have k3 : (w.alloc (.cells #[.int .i64 r.rows, .int .i64 r.mid, .int .i64 r.gap, .int .i64 r.reach, .slice A r.links.length c] 58)).cell? ⟨w.heap.size, 3, none⟩ = some (.int .i64 r.reach) := by simp
  have k4 : (w.alloc (.cells #[.int .i64 r.rows, .int .i64 r.mid, .int .i64 r.gap, .int .i64 r.reach, .slice A r.links.length c] 58)).cell? ⟨w.heap.size, 4, none⟩ = some (.slice A r.links.length c) := by simp
  have hmt := mayTo_le r.links
  have HMT := Lib.hid hmt
  clear hmt
  go_enter Try.func18, Try.ntmps18
  go_wp2_with fail
  generalize (w.alloc (.cells #[.int .i64 r.rows, .int .i64 r.mid, .int .i64 r.gap, .int .i64 r.reach, .slice A r.links.length c] 58)) = x1 at *
  go_loopw [3, 4] (fun m i wr => ∃ k : Nat, k ≤ r.links.length ∧ i = .int .i64 k ∧ m = .int .i64 (mayTo r.links k : Int) ∧ x1 = wr) (fun _ i _ => r.links.length - (intOf i).toNat)
  case atStart => exact ⟨0, by omega, rfl, rfl, rfl⟩
  case round =>
    obtain ⟨k, hk, rfl, rfl, rfl⟩ := hrel
    by_cases h1 : k < r.links.length
    · obtain ⟨b, off, rfl, hb1, c1, c2, c3⟩ := HX.out.at_ h1
      have HM : Hid (mayTo r.links (k + 1) = mayTo r.links k + (if (lx r.links k).s then 0 else 1)) := rfl
      have hm := HMT.out k
      generalize mayTo r.links k = m at *
      generalize lx r.links k = x at *
      obtain ⟨xf, xt, xs⟩ := x
      dsimp only at c1 c2 c3 HM
      have h1i : (k : Int) < (r.links.length : Int) := by omega
      cases xs
      all_goals
        go_wp2_with fail
        go_roundw
        case rel => exact ⟨k + 1, by omega, by go_num, by rw [HM.out]; simp, by first | rfl | trivial⟩
        case measure => simp [intOf]; omega
    · obtain rfl : k = r.links.length := by omega
      have hm := HMT.out r.links.length
      by_cases t0 : r.links.length ≤ 12
      · by_cases t1 : mayTo r.links r.links.length ≤ 6
        · have HT1 := Lib.hid t1
          have ht0 : decide ((12 : Int) < (r.links.length : Int)) = false := by simp; omega
          have ht1 : decide ((6 : Int) < ((mayTo r.links r.links.length : Nat) : Int)) = false := by simp; omega
          have ht2 : decide (12 < r.links.length) = false := by simp; omega
          have ht3 : decide (6 < mayTo r.links r.links.length) = false := by simp; omega
          have HRE : Hid (∀ b, (inB r.rows 1 4 && (inB r.mid 0 60 && (inB r.gap 1 8 && (inB r.reach 0 10 && allB r.links.length (fun k => linkB r.rows (lx r.links k)))))) = b → rackErr r = if b then 0 else 1) := fun b h => by unfold rackErr; rw [if_pos ⟨t0, HT1.out⟩, h]
          generalize mayTo r.links r.links.length = m at *
          clear t1
          cases e0 : inB r.rows 1 4
          · have HR := Lib.hid (HRE.out false (by rw [e0]; rfl))
            go_wp2_with (go_at_call 52; refine (in_c _ _ _ _).mono ?_; rintro e w6 ⟨rfl, rfl⟩)
            go_ret
            exact ⟨ret_int HR.out.symm, HB.out⟩
          · cases e3 : inB r.mid 0 60
            · have HR := Lib.hid (HRE.out false (by rw [e0, e3]; rfl))
              go_wp2_with (go_at_call 52; refine (in_c _ _ _ _).mono ?_; rintro e w6 ⟨rfl, rfl⟩)
              go_ret
              exact ⟨ret_int HR.out.symm, HB.out⟩
            · cases e4 : inB r.gap 1 8
              · have HR := Lib.hid (HRE.out false (by rw [e0, e3, e4]; rfl))
                go_wp2_with (go_at_call 52; refine (in_c _ _ _ _).mono ?_; rintro e w6 ⟨rfl, rfl⟩)
                go_ret
                exact ⟨ret_int HR.out.symm, HB.out⟩
              · cases e5 : inB r.reach 0 10
                · have HR := Lib.hid (HRE.out false (by rw [e0, e3, e4, e5]; rfl))
                  go_wp2_with (go_at_call 52; refine (in_c _ _ _ _).mono ?_; rintro e w6 ⟨rfl, rfl⟩)
                  go_ret
                  exact ⟨ret_int HR.out.symm, HB.out⟩
                · obtain ⟨hr1, hr4⟩ := (inB_eq _ _ _).1 e0
                  have HRA : Hid (∀ b, allB r.links.length (fun k => linkB r.rows (lx r.links k)) = b → rackErr r = if b then 0 else 1) := fun b h => HRE.out b (by rw [e0, e3, e4, e5, h]; rfl)
                  have hpn := pn_le hr1 hr4
                  have hwr : IntKind.i64.wrap ((pn r.rows : Int) - 1) = (pn r.rows : Int) - 1 := IntWalk.i64_in _ (by omega)
                  clear HRE
                  go_wp2_with (go_at_call 52; refine (in_c _ _ _ _).mono ?_; rintro e w6 ⟨rfl, rfl⟩)
                  clear e0 e3 e4 e5
                  go_loopw [5] (fun i wr => ∃ k : Nat, k ≤ r.links.length ∧ i = .int .i64 k ∧ AllB k (fun k => linkB r.rows (lx r.links k)) ∧ Below x1.heap.size x1 wr) (fun i _ => r.links.length - (intOf i).toNat)
                  case atStart => exact ⟨0, by omega, rfl, fun j hj => by omega, Below.refl _ _⟩
                  case round =>
                    obtain ⟨k, hk, rfl, ha, hb⟩ := hrel
                    rename World => wr
                    have HA := Lib.hid ha
                    clear ha
                    by_cases h1 : k < r.links.length
                    · obtain ⟨b, off, rfl, hb1, c1, c2, c3⟩ := (HX.out.step hb).at_ h1
                      have h1i : (k : Int) < (r.links.length : Int) := by omega
                      have HNO : Hid (linkB r.rows (lx r.links k) = false → rackErr r = 1) := fun h => HRA.out false (allB_false h1 h)
                      have HYE : Hid (linkB r.rows (lx r.links k) = true → AllB (k + 1) (fun k => linkB r.rows (lx r.links k))) := fun h => HA.out.succ h
                      generalize lx r.links k = x at *
                      obtain ⟨xf, xt, xs⟩ := x
                      dsimp only at c1 c2 c3
                      have HLB : Hid (linkB r.rows ⟨xf, xt, xs⟩ = (inB xf 0 ((pn r.rows : Int) - 1) && (inB xt 0 ((pn r.rows : Int) - 1) && !decide (xf = xt)))) := rfl
                      replace k0 := cell_of_ans hb k0
                      replace k1 := cell_of_ans hb k1
                      replace k2 := cell_of_ans hb k2
                      replace k3 := cell_of_ans hb k3
                      replace k4 := cell_of_ans hb k4
                      have hb2 : Below wr.heap.size wr (wr.alloc (.cells #[.int .i64 xf, .int .i64 xt, .bool xs] 154)) := (Below.refl _ _).alloc (Nat.le_refl _) _
                      have HBQ : Hid (Below x1.heap.size x1 (wr.alloc (.cells #[.int .i64 xf, .int .i64 xt, .bool xs] 154))) := hb.alloc hb.size _
                      go_upto_region 15 with fail
                      replace k0 := cell_of_ans hb2 k0
                      replace k1 := cell_of_ans hb2 k1
                      replace k2 := cell_of_ans hb2 k2
                      replace k3 := cell_of_ans hb2 k3
                      replace k4 := cell_of_ans hb2 k4
                      have d1 : (wr.alloc (.cells #[.int .i64 xf, .int .i64 xt, .bool xs] 154)).cell? ⟨wr.heap.size, 0, none⟩ = some (.int .i64 xf) := by simp
                      have d2 : (wr.alloc (.cells #[.int .i64 xf, .int .i64 xt, .bool xs] 154)).cell? ⟨wr.heap.size, 1, none⟩ = some (.int .i64 xt) := by simp
                      clear c1 c2 c3 hb hb2
                      have c1 := d1
                      have c2 := d2
                      clear d1 d2
                      generalize wr.alloc (.cells #[.int .i64 xf, .int .i64 xt, .bool xs] 154) = wq at *
                      cases e1 : inB xf 0 ((pn r.rows : Int) - 1)
                      · have HR := Lib.hid (HNO.out (by rw [HLB.out, e1]; rfl))
                        refine wp_region_noPanic ?_
                        have hS : (fun W' : World => Below wq.heap.size wq W') wq.drew := (Below.refl _ _).drew
                        refine wp_region_any (by kernel_rfl) (wpAny_of_T (S := fun W' : World => Below wq.heap.size wq W') (m := 23) _ _ _ _ ?_)
                        refine' T_take (i := 0) (v := _) rfl (by kernel_rfl) (by kernel_rfl) (by kernel_rfl) (by kernel_rfl) (fun _ _ _ h => h) (by kernel_rfl) hS ?_ ?_
                        rotate_left 1
                        · intro Wv hW
                          replace k0 := cell_of_ans hW k0
                          replace k1 := cell_of_ans hW k1
                          replace k2 := cell_of_ans hW k2
                          replace k3 := cell_of_ans hW k3
                          replace k4 := cell_of_ans hW k4
                          replace c1 := cell_of_ans hW c1
                          replace c2 := cell_of_ans hW c2
                          go_simp
                          first | done | with_reducible rfl
                        try simp only [Act.put, List.setIfInBounds_toArray, List.set_cons_zero, List.set_cons_succ]
                        refine' T_take (i := 1) (v := _) rfl (by kernel_rfl) (by kernel_rfl) (by kernel_rfl) (by kernel_rfl) (fun _ _ _ h => h) (by kernel_rfl) hS ?_ ?_
                        rotate_left 1
                        · intro Wv hW
                          replace k0 := cell_of_ans hW k0
                          replace k1 := cell_of_ans hW k1
                          replace k2 := cell_of_ans hW k2
                          replace k3 := cell_of_ans hW k3
                          replace k4 := cell_of_ans hW k4
                          replace c1 := cell_of_ans hW c1
                          replace c2 := cell_of_ans hW c2
                          go_simp
                          first | done | with_reducible rfl
                        try simp only [Act.put, List.setIfInBounds_toArray, List.set_cons_zero, List.set_cons_succ]
                        refine' T_take (i := 2) (v := _) rfl (by kernel_rfl) (by kernel_rfl) (by kernel_rfl) (by kernel_rfl) (fun _ _ _ h => h) (by kernel_rfl) hS ?_ ?_
                        rotate_left 1
                        · intro Wv hW
                          replace k0 := cell_of_ans hW k0
                          replace k1 := cell_of_ans hW k1
                          replace k2 := cell_of_ans hW k2
                          replace k3 := cell_of_ans hW k3
                          replace k4 := cell_of_ans hW k4
                          replace c1 := cell_of_ans hW c1
                          replace c2 := cell_of_ans hW c2
                          go_simp
                          first | done | with_reducible rfl
                        try simp only [Act.put, List.setIfInBounds_toArray, List.set_cons_zero, List.set_cons_succ]
                        refine T_ready (rs := [3]) (by kernel_rfl) (by simp) ?_
                        refine TReady.cons rfl (fun K hK => ?_) TReady.nil
                        try go_simp
                        refine (pins40_c r.rows r.mid r.gap r.reach _ r.links.length c _ hr1 hr4).mono ?_
                        rintro e w5 ⟨rfl, hb⟩
                        have hS2 : Below wq.heap.size wq w5 := below_cat hb hS
                        try go_simp
                        refine hK.out _ _ (fun _ => hS2) (fun _ => ?_)
                        clear hK K hS hb
                        replace hS := hS2
                        clear hS2
                        try simp only [Act.put, List.setIfInBounds_toArray, List.set_cons_zero, List.set_cons_succ]
                        refine' T_take (i := 4) (v := _) rfl (by kernel_rfl) (by kernel_rfl) (by kernel_rfl) (by kernel_rfl) (fun _ _ _ h => h) (by kernel_rfl) hS ?_ ?_
                        rotate_left 1
                        · intro Wv hW
                          replace k0 := cell_of_ans hW k0
                          replace k1 := cell_of_ans hW k1
                          replace k2 := cell_of_ans hW k2
                          replace k3 := cell_of_ans hW k3
                          replace k4 := cell_of_ans hW k4
                          replace c1 := cell_of_ans hW c1
                          replace c2 := cell_of_ans hW c2
                          go_simp
                          first | done | with_reducible rfl
                        try simp only [Act.put, List.setIfInBounds_toArray, List.set_cons_zero, List.set_cons_succ]
                        refine T_ready (rs := [5]) (by kernel_rfl) (by simp) ?_
                        refine TReady.cons rfl (fun K hK => ?_) TReady.nil
                        try go_simp
                        refine (in_e e1).mono ?_
                        rintro e w6 ⟨rfl, rfl⟩
                        try go_simp
                        refine hK.out _ _ (fun _ => hS) (fun _ => ?_)
                        clear hK K
                        try simp only [Act.put, List.setIfInBounds_toArray, List.set_cons_zero, List.set_cons_succ]
                        refine' T_take (i := 6) (v := _) rfl (by kernel_rfl) (by kernel_rfl) (by kernel_rfl) (by kernel_rfl) (fun _ _ _ h => h) (by kernel_rfl) hS ?_ ?_
                        rotate_left 1
                        · intro Wv hW
                          replace k0 := cell_of_ans hW k0
                          replace k1 := cell_of_ans hW k1
                          replace k2 := cell_of_ans hW k2
                          replace k3 := cell_of_ans hW k3
                          replace k4 := cell_of_ans hW k4
                          replace c1 := cell_of_ans hW c1
                          replace c2 := cell_of_ans hW c2
                          go_simp
                          first | done | with_reducible rfl
                        try simp only [Act.put, List.setIfInBounds_toArray, List.set_cons_zero, List.set_cons_succ]
                        refine' T_take (i := 7) (v := _) rfl (by kernel_rfl) (by kernel_rfl) (by kernel_rfl) (by kernel_rfl) (fun _ _ _ h => h) (by kernel_rfl) hS ?_ ?_
                        rotate_left 1
                        · intro Wv hW
                          replace k0 := cell_of_ans hW k0
                          replace k1 := cell_of_ans hW k1
                          replace k2 := cell_of_ans hW k2
                          replace k3 := cell_of_ans hW k3
                          replace k4 := cell_of_ans hW k4
                          replace c1 := cell_of_ans hW c1
                          replace c2 := cell_of_ans hW c2
                          go_simp
                          first | done | with_reducible rfl
                        try simp only [Act.put, List.setIfInBounds_toArray, List.set_cons_zero, List.set_cons_succ]
                        refine' T_skip (i := 8) rfl (by kernel_rfl) (by kernel_rfl) (by kernel_rfl) (by kernel_rfl) (fun _ _ _ h => h) (by kernel_rfl) hS ?_
                        try simp only [Act.put, List.setIfInBounds_toArray, List.set_cons_zero, List.set_cons_succ]
                        refine' T_skip (i := 9) rfl (by kernel_rfl) (by kernel_rfl) (by kernel_rfl) (by kernel_rfl) (fun _ _ _ h => h) (by kernel_rfl) hS ?_
                        try simp only [Act.put, List.setIfInBounds_toArray, List.set_cons_zero, List.set_cons_succ]
                        refine' T_skip (i := 10) rfl (by kernel_rfl) (by kernel_rfl) (by kernel_rfl) (by kernel_rfl) (fun _ _ _ h => h) (by kernel_rfl) hS ?_
                        try simp only [Act.put, List.setIfInBounds_toArray, List.set_cons_zero, List.set_cons_succ]
                        refine' T_skip (i := 11) rfl (by kernel_rfl) (by kernel_rfl) (by kernel_rfl) (by kernel_rfl) (fun _ _ _ h => h) (by kernel_rfl) hS ?_
                        try simp only [Act.put, List.setIfInBounds_toArray, List.set_cons_zero, List.set_cons_succ]
                        refine' T_skip (i := 12) rfl (by kernel_rfl) (by kernel_rfl) (by kernel_rfl) (by kernel_rfl) (fun _ _ _ h => h) (by kernel_rfl) hS ?_
                        try simp only [Act.put, List.setIfInBounds_toArray, List.set_cons_zero, List.set_cons_succ]
                        refine' T_skip (i := 13) rfl (by kernel_rfl) (by kernel_rfl) (by kernel_rfl) (by kernel_rfl) (fun _ _ _ h => h) (by kernel_rfl) hS ?_
                        try simp only [Act.put, List.setIfInBounds_toArray, List.set_cons_zero, List.set_cons_succ]
                        refine' T_skip (i := 14) rfl (by kernel_rfl) (by kernel_rfl) (by kernel_rfl) (by kernel_rfl) (fun _ _ _ h => h) (by kernel_rfl) hS ?_
                        try simp only [Act.put, List.setIfInBounds_toArray, List.set_cons_zero, List.set_cons_succ]
                        refine' T_take (i := 15) (v := _) rfl (by kernel_rfl) (by kernel_rfl) (by kernel_rfl) (by kernel_rfl) (fun _ _ _ h => h) (by kernel_rfl) hS ?_ ?_
                        rotate_left 1
                        · intro Wv hW
                          replace k0 := cell_of_ans hW k0
                          replace k1 := cell_of_ans hW k1
                          replace k2 := cell_of_ans hW k2
                          replace k3 := cell_of_ans hW k3
                          replace k4 := cell_of_ans hW k4
                          replace c1 := cell_of_ans hW c1
                          replace c2 := cell_of_ans hW c2
                          go_simp
                          first | done | with_reducible rfl
                        try simp only [Act.put, List.setIfInBounds_toArray, List.set_cons_zero, List.set_cons_succ]
                        refine' T_take (i := 16) (v := _) rfl (by kernel_rfl) (by kernel_rfl) (by kernel_rfl) (by kernel_rfl) (fun _ _ _ h => h) (by kernel_rfl) hS ?_ ?_
                        rotate_left 1
                        · intro Wv hW
                          replace k0 := cell_of_ans hW k0
                          replace k1 := cell_of_ans hW k1
                          replace k2 := cell_of_ans hW k2
                          replace k3 := cell_of_ans hW k3
                          replace k4 := cell_of_ans hW k4
                          replace c1 := cell_of_ans hW c1
                          replace c2 := cell_of_ans hW c2
                          go_simp
                          first | done | with_reducible rfl
                        try simp only [Act.put, List.setIfInBounds_toArray, List.set_cons_zero, List.set_cons_succ]
                        refine' T_skip (i := 17) rfl (by kernel_rfl) (by kernel_rfl) (by kernel_rfl) (by kernel_rfl) (fun _ _ _ h => h) (by kernel_rfl) hS ?_
                        try simp only [Act.put, List.setIfInBounds_toArray, List.set_cons_zero, List.set_cons_succ]
                        refine' T_skip (i := 18) rfl (by kernel_rfl) (by kernel_rfl) (by kernel_rfl) (by kernel_rfl) (fun _ _ _ h => h) (by kernel_rfl) hS ?_
                        try simp only [Act.put, List.setIfInBounds_toArray, List.set_cons_zero, List.set_cons_succ]
                        refine' T_skip (i := 19) rfl (by kernel_rfl) (by kernel_rfl) (by kernel_rfl) (by kernel_rfl) (fun _ _ _ h => h) (by kernel_rfl) hS ?_
                        try simp only [Act.put, List.setIfInBounds_toArray, List.set_cons_zero, List.set_cons_succ]
                        refine' T_skip (i := 20) rfl (by kernel_rfl) (by kernel_rfl) (by kernel_rfl) (by kernel_rfl) (fun _ _ _ h => h) (by kernel_rfl) hS ?_
                        try simp only [Act.put, List.setIfInBounds_toArray, List.set_cons_zero, List.set_cons_succ]
                        refine' T_skip (i := 21) rfl (by kernel_rfl) (by kernel_rfl) (by kernel_rfl) (by kernel_rfl) (fun _ _ _ h => h) (by kernel_rfl) hS ?_
                        try simp only [Act.put, List.setIfInBounds_toArray, List.set_cons_zero, List.set_cons_succ]
                        refine' T_take (i := 22) (v := _) rfl (by kernel_rfl) (by kernel_rfl) (by kernel_rfl) (by kernel_rfl) (fun _ _ _ h => h) (by kernel_rfl) hS ?_ ?_
                        rotate_left 1
                        · intro Wv hW
                          replace k0 := cell_of_ans hW k0
                          replace k1 := cell_of_ans hW k1
                          replace k2 := cell_of_ans hW k2
                          replace k3 := cell_of_ans hW k3
                          replace k4 := cell_of_ans hW k4
                          replace c1 := cell_of_ans hW c1
                          replace c2 := cell_of_ans hW c2
                          go_simp
                          first | done | with_reducible rfl
                        try simp only [Act.put, List.setIfInBounds_toArray, List.set_cons_zero, List.set_cons_succ]
                        refine T_done (by kernel_rfl) ?_ _
                        refine NoPanic.normal ?_
                        try go_simp
                        go_wp2_with fail
                        go_ret
                        exact ⟨ret_int HR.out.symm, HB.out.trans ((below_cat hS HBQ.out).mono HB.out.size)⟩
                      · cases e2 : inB xt 0 ((pn r.rows : Int) - 1)
                        · have HR := Lib.hid (HNO.out (by rw [HLB.out, e1, e2]; rfl))
                          refine wp_region_noPanic ?_
                          have hS : (fun W' : World => Below wq.heap.size wq W') wq.drew := (Below.refl _ _).drew
                          refine wp_region_any (by kernel_rfl) (wpAny_of_T (S := fun W' : World => Below wq.heap.size wq W') (m := 23) _ _ _ _ ?_)
                          refine' T_take (i := 0) (v := _) rfl (by kernel_rfl) (by kernel_rfl) (by kernel_rfl) (by kernel_rfl) (fun _ _ _ h => h) (by kernel_rfl) hS ?_ ?_
                          rotate_left 1
                          · intro Wv hW
                            replace k0 := cell_of_ans hW k0
                            replace k1 := cell_of_ans hW k1
                            replace k2 := cell_of_ans hW k2
                            replace k3 := cell_of_ans hW k3
                            replace k4 := cell_of_ans hW k4
                            replace c1 := cell_of_ans hW c1
                            replace c2 := cell_of_ans hW c2
                            go_simp
                            first | done | with_reducible rfl
                          try simp only [Act.put, List.setIfInBounds_toArray, List.set_cons_zero, List.set_cons_succ]
                          refine' T_take (i := 1) (v := _) rfl (by kernel_rfl) (by kernel_rfl) (by kernel_rfl) (by kernel_rfl) (fun _ _ _ h => h) (by kernel_rfl) hS ?_ ?_
                          rotate_left 1
                          · intro Wv hW
                            replace k0 := cell_of_ans hW k0
                            replace k1 := cell_of_ans hW k1
                            replace k2 := cell_of_ans hW k2
                            replace k3 := cell_of_ans hW k3
                            replace k4 := cell_of_ans hW k4
                            replace c1 := cell_of_ans hW c1
                            replace c2 := cell_of_ans hW c2
                            go_simp
                            first | done | with_reducible rfl
                          try simp only [Act.put, List.setIfInBounds_toArray, List.set_cons_zero, List.set_cons_succ]
                          refine' T_take (i := 2) (v := _) rfl (by kernel_rfl) (by kernel_rfl) (by kernel_rfl) (by kernel_rfl) (fun _ _ _ h => h) (by kernel_rfl) hS ?_ ?_
                          rotate_left 1
                          · intro Wv hW
                            replace k0 := cell_of_ans hW k0
                            replace k1 := cell_of_ans hW k1
                            replace k2 := cell_of_ans hW k2
                            replace k3 := cell_of_ans hW k3
                            replace k4 := cell_of_ans hW k4
                            replace c1 := cell_of_ans hW c1
                            replace c2 := cell_of_ans hW c2
                            go_simp
                            first | done | with_reducible rfl
                          try simp only [Act.put, List.setIfInBounds_toArray, List.set_cons_zero, List.set_cons_succ]
                          refine T_ready (rs := [3]) (by kernel_rfl) (by simp) ?_
                          refine TReady.cons rfl (fun K hK => ?_) TReady.nil
                          try go_simp
                          refine (pins40_c r.rows r.mid r.gap r.reach _ r.links.length c _ hr1 hr4).mono ?_
                          rintro e w5 ⟨rfl, hb⟩
                          have hS2 : Below wq.heap.size wq w5 := below_cat hb hS
                          try go_simp
                          refine hK.out _ _ (fun _ => hS2) (fun _ => ?_)
                          clear hK K hS hb
                          replace hS := hS2
                          clear hS2
                          try simp only [Act.put, List.setIfInBounds_toArray, List.set_cons_zero, List.set_cons_succ]
                          refine' T_take (i := 4) (v := _) rfl (by kernel_rfl) (by kernel_rfl) (by kernel_rfl) (by kernel_rfl) (fun _ _ _ h => h) (by kernel_rfl) hS ?_ ?_
                          rotate_left 1
                          · intro Wv hW
                            replace k0 := cell_of_ans hW k0
                            replace k1 := cell_of_ans hW k1
                            replace k2 := cell_of_ans hW k2
                            replace k3 := cell_of_ans hW k3
                            replace k4 := cell_of_ans hW k4
                            replace c1 := cell_of_ans hW c1
                            replace c2 := cell_of_ans hW c2
                            go_simp
                            first | done | with_reducible rfl
                          try simp only [Act.put, List.setIfInBounds_toArray, List.set_cons_zero, List.set_cons_succ]
                          refine T_ready (rs := [5]) (by kernel_rfl) (by simp) ?_
                          refine TReady.cons rfl (fun K hK => ?_) TReady.nil
                          try go_simp
                          refine (in_e e1).mono ?_
                          rintro e w6 ⟨rfl, rfl⟩
                          try go_simp
                          refine hK.out _ _ (fun _ => hS) (fun _ => ?_)
                          clear hK K
                          try simp only [Act.put, List.setIfInBounds_toArray, List.set_cons_zero, List.set_cons_succ]
                          refine' T_take (i := 6) (v := _) rfl (by kernel_rfl) (by kernel_rfl) (by kernel_rfl) (by kernel_rfl) (fun _ _ _ h => h) (by kernel_rfl) hS ?_ ?_
                          rotate_left 1
                          · intro Wv hW
                            replace k0 := cell_of_ans hW k0
                            replace k1 := cell_of_ans hW k1
                            replace k2 := cell_of_ans hW k2
                            replace k3 := cell_of_ans hW k3
                            replace k4 := cell_of_ans hW k4
                            replace c1 := cell_of_ans hW c1
                            replace c2 := cell_of_ans hW c2
                            go_simp
                            first | done | with_reducible rfl
                          try simp only [Act.put, List.setIfInBounds_toArray, List.set_cons_zero, List.set_cons_succ]
                          refine' T_take (i := 7) (v := _) rfl (by kernel_rfl) (by kernel_rfl) (by kernel_rfl) (by kernel_rfl) (fun _ _ _ h => h) (by kernel_rfl) hS ?_ ?_
                          rotate_left 1
                          · intro Wv hW
                            replace k0 := cell_of_ans hW k0
                            replace k1 := cell_of_ans hW k1
                            replace k2 := cell_of_ans hW k2
                            replace k3 := cell_of_ans hW k3
                            replace k4 := cell_of_ans hW k4
                            replace c1 := cell_of_ans hW c1
                            replace c2 := cell_of_ans hW c2
                            go_simp
                            first | done | with_reducible rfl
                          try simp only [Act.put, List.setIfInBounds_toArray, List.set_cons_zero, List.set_cons_succ]
                          refine' T_take (i := 8) (v := _) rfl (by kernel_rfl) (by kernel_rfl) (by kernel_rfl) (by kernel_rfl) (fun _ _ _ h => h) (by kernel_rfl) hS ?_ ?_
                          rotate_left 1
                          · intro Wv hW
                            replace k0 := cell_of_ans hW k0
                            replace k1 := cell_of_ans hW k1
                            replace k2 := cell_of_ans hW k2
                            replace k3 := cell_of_ans hW k3
                            replace k4 := cell_of_ans hW k4
                            replace c1 := cell_of_ans hW c1
                            replace c2 := cell_of_ans hW c2
                            go_simp
                            first | done | with_reducible rfl
                          try simp only [Act.put, List.setIfInBounds_toArray, List.set_cons_zero, List.set_cons_succ]
                          refine' T_take (i := 9) (v := _) rfl (by kernel_rfl) (by kernel_rfl) (by kernel_rfl) (by kernel_rfl) (fun _ _ _ h => h) (by kernel_rfl) hS ?_ ?_
                          rotate_left 1
                          · intro Wv hW
                            replace k0 := cell_of_ans hW k0
                            replace k1 := cell_of_ans hW k1
                            replace k2 := cell_of_ans hW k2
                            replace k3 := cell_of_ans hW k3
                            replace k4 := cell_of_ans hW k4
                            replace c1 := cell_of_ans hW c1
                            replace c2 := cell_of_ans hW c2
                            go_simp
                            first | done | with_reducible rfl
                          try simp only [Act.put, List.setIfInBounds_toArray, List.set_cons_zero, List.set_cons_succ]
                          refine' T_take (i := 10) (v := _) rfl (by kernel_rfl) (by kernel_rfl) (by kernel_rfl) (by kernel_rfl) (fun _ _ _ h => h) (by kernel_rfl) hS ?_ ?_
                          rotate_left 1
                          · intro Wv hW
                            replace k0 := cell_of_ans hW k0
                            replace k1 := cell_of_ans hW k1
                            replace k2 := cell_of_ans hW k2
                            replace k3 := cell_of_ans hW k3
                            replace k4 := cell_of_ans hW k4
                            replace c1 := cell_of_ans hW c1
                            replace c2 := cell_of_ans hW c2
                            go_simp
                            first | done | with_reducible rfl
                          try simp only [Act.put, List.setIfInBounds_toArray, List.set_cons_zero, List.set_cons_succ]
                          refine T_ready (rs := [11]) (by kernel_rfl) (by simp) ?_
                          refine TReady.cons rfl (fun K hK => ?_) TReady.nil
                          try go_simp
                          refine (pins40_c r.rows r.mid r.gap r.reach _ r.links.length c _ hr1 hr4).mono ?_
                          rintro e w7 ⟨rfl, hb⟩
                          have hS2 : Below wq.heap.size wq w7 := below_cat hb hS
                          try go_simp
                          refine hK.out _ _ (fun _ => hS2) (fun _ => ?_)
                          clear hK K hS hb
                          replace hS := hS2
                          clear hS2
                          try simp only [Act.put, List.setIfInBounds_toArray, List.set_cons_zero, List.set_cons_succ]
                          refine' T_take (i := 12) (v := _) rfl (by kernel_rfl) (by kernel_rfl) (by kernel_rfl) (by kernel_rfl) (fun _ _ _ h => h) (by kernel_rfl) hS ?_ ?_
                          rotate_left 1
                          · intro Wv hW
                            replace k0 := cell_of_ans hW k0
                            replace k1 := cell_of_ans hW k1
                            replace k2 := cell_of_ans hW k2
                            replace k3 := cell_of_ans hW k3
                            replace k4 := cell_of_ans hW k4
                            replace c1 := cell_of_ans hW c1
                            replace c2 := cell_of_ans hW c2
                            go_simp
                            first | done | with_reducible rfl
                          try simp only [Act.put, List.setIfInBounds_toArray, List.set_cons_zero, List.set_cons_succ]
                          refine T_ready (rs := [13]) (by kernel_rfl) (by simp) ?_
                          refine TReady.cons rfl (fun K hK => ?_) TReady.nil
                          try go_simp
                          refine (in_e e2).mono ?_
                          rintro e w8 ⟨rfl, rfl⟩
                          try go_simp
                          refine hK.out _ _ (fun _ => hS) (fun _ => ?_)
                          clear hK K
                          try simp only [Act.put, List.setIfInBounds_toArray, List.set_cons_zero, List.set_cons_succ]
                          refine' T_take (i := 14) (v := _) rfl (by kernel_rfl) (by kernel_rfl) (by kernel_rfl) (by kernel_rfl) (fun _ _ _ h => h) (by kernel_rfl) hS ?_ ?_
                          rotate_left 1
                          · intro Wv hW
                            replace k0 := cell_of_ans hW k0
                            replace k1 := cell_of_ans hW k1
                            replace k2 := cell_of_ans hW k2
                            replace k3 := cell_of_ans hW k3
                            replace k4 := cell_of_ans hW k4
                            replace c1 := cell_of_ans hW c1
                            replace c2 := cell_of_ans hW c2
                            go_simp
                            first | done | with_reducible rfl
                          try simp only [Act.put, List.setIfInBounds_toArray, List.set_cons_zero, List.set_cons_succ]
                          refine' T_take (i := 15) (v := _) rfl (by kernel_rfl) (by kernel_rfl) (by kernel_rfl) (by kernel_rfl) (fun _ _ _ h => h) (by kernel_rfl) hS ?_ ?_
                          rotate_left 1
                          · intro Wv hW
                            replace k0 := cell_of_ans hW k0
                            replace k1 := cell_of_ans hW k1
                            replace k2 := cell_of_ans hW k2
                            replace k3 := cell_of_ans hW k3
                            replace k4 := cell_of_ans hW k4
                            replace c1 := cell_of_ans hW c1
                            replace c2 := cell_of_ans hW c2
                            go_simp
                            first | done | with_reducible rfl
                          try simp only [Act.put, List.setIfInBounds_toArray, List.set_cons_zero, List.set_cons_succ]
                          refine' T_take (i := 16) (v := _) rfl (by kernel_rfl) (by kernel_rfl) (by kernel_rfl) (by kernel_rfl) (fun _ _ _ h => h) (by kernel_rfl) hS ?_ ?_
                          rotate_left 1
                          · intro Wv hW
                            replace k0 := cell_of_ans hW k0
                            replace k1 := cell_of_ans hW k1
                            replace k2 := cell_of_ans hW k2
                            replace k3 := cell_of_ans hW k3
                            replace k4 := cell_of_ans hW k4
                            replace c1 := cell_of_ans hW c1
                            replace c2 := cell_of_ans hW c2
                            go_simp
                            first | done | with_reducible rfl
                          try simp only [Act.put, List.setIfInBounds_toArray, List.set_cons_zero, List.set_cons_succ]
                          refine' T_skip (i := 17) rfl (by kernel_rfl) (by kernel_rfl) (by kernel_rfl) (by kernel_rfl) (fun _ _ _ h => h) (by kernel_rfl) hS ?_
                          try simp only [Act.put, List.setIfInBounds_toArray, List.set_cons_zero, List.set_cons_succ]
                          refine' T_skip (i := 18) rfl (by kernel_rfl) (by kernel_rfl) (by kernel_rfl) (by kernel_rfl) (fun _ _ _ h => h) (by kernel_rfl) hS ?_
                          try simp only [Act.put, List.setIfInBounds_toArray, List.set_cons_zero, List.set_cons_succ]
                          refine' T_skip (i := 19) rfl (by kernel_rfl) (by kernel_rfl) (by kernel_rfl) (by kernel_rfl) (fun _ _ _ h => h) (by kernel_rfl) hS ?_
                          try simp only [Act.put, List.setIfInBounds_toArray, List.set_cons_zero, List.set_cons_succ]
                          refine' T_skip (i := 20) rfl (by kernel_rfl) (by kernel_rfl) (by kernel_rfl) (by kernel_rfl) (fun _ _ _ h => h) (by kernel_rfl) hS ?_
                          try simp only [Act.put, List.setIfInBounds_toArray, List.set_cons_zero, List.set_cons_succ]
                          refine' T_skip (i := 21) rfl (by kernel_rfl) (by kernel_rfl) (by kernel_rfl) (by kernel_rfl) (fun _ _ _ h => h) (by kernel_rfl) hS ?_
                          try simp only [Act.put, List.setIfInBounds_toArray, List.set_cons_zero, List.set_cons_succ]
                          refine' T_take (i := 22) (v := _) rfl (by kernel_rfl) (by kernel_rfl) (by kernel_rfl) (by kernel_rfl) (fun _ _ _ h => h) (by kernel_rfl) hS ?_ ?_
                          rotate_left 1
                          · intro Wv hW
                            replace k0 := cell_of_ans hW k0
                            replace k1 := cell_of_ans hW k1
                            replace k2 := cell_of_ans hW k2
                            replace k3 := cell_of_ans hW k3
                            replace k4 := cell_of_ans hW k4
                            replace c1 := cell_of_ans hW c1
                            replace c2 := cell_of_ans hW c2
                            go_simp
                            first | done | with_reducible rfl
                          try simp only [Act.put, List.setIfInBounds_toArray, List.set_cons_zero, List.set_cons_succ]
                          refine T_done (by kernel_rfl) ?_ _
                          refine NoPanic.normal ?_
                          try go_simp
                          go_wp2_with fail
                          go_ret
                          exact ⟨ret_int HR.out.symm, HB.out.trans ((below_cat hS HBQ.out).mono HB.out.size)⟩
                        · by_cases he : xf = xt
                          · have HR := Lib.hid (HNO.out (by rw [HLB.out, e1, e2, decide_eq_true he]; rfl))
                            have he' : (xf == xt) = true := by simp [he]
                            clear he
                            refine wp_region_noPanic ?_
                            have hS : (fun W' : World => Below wq.heap.size wq W') wq.drew := (Below.refl _ _).drew
                            refine wp_region_any (by kernel_rfl) (wpAny_of_T (S := fun W' : World => Below wq.heap.size wq W') (m := 23) _ _ _ _ ?_)
                            refine' T_take (i := 0) (v := _) rfl (by kernel_rfl) (by kernel_rfl) (by kernel_rfl) (by kernel_rfl) (fun _ _ _ h => h) (by kernel_rfl) hS ?_ ?_
                            rotate_left 1
                            · intro Wv hW
                              replace k0 := cell_of_ans hW k0
                              replace k1 := cell_of_ans hW k1
                              replace k2 := cell_of_ans hW k2
                              replace k3 := cell_of_ans hW k3
                              replace k4 := cell_of_ans hW k4
                              replace c1 := cell_of_ans hW c1
                              replace c2 := cell_of_ans hW c2
                              go_simp
                              first | done | with_reducible rfl
                            try simp only [Act.put, List.setIfInBounds_toArray, List.set_cons_zero, List.set_cons_succ]
                            refine' T_take (i := 1) (v := _) rfl (by kernel_rfl) (by kernel_rfl) (by kernel_rfl) (by kernel_rfl) (fun _ _ _ h => h) (by kernel_rfl) hS ?_ ?_
                            rotate_left 1
                            · intro Wv hW
                              replace k0 := cell_of_ans hW k0
                              replace k1 := cell_of_ans hW k1
                              replace k2 := cell_of_ans hW k2
                              replace k3 := cell_of_ans hW k3
                              replace k4 := cell_of_ans hW k4
                              replace c1 := cell_of_ans hW c1
                              replace c2 := cell_of_ans hW c2
                              go_simp
                              first | done | with_reducible rfl
                            try simp only [Act.put, List.setIfInBounds_toArray, List.set_cons_zero, List.set_cons_succ]
                            refine' T_take (i := 2) (v := _) rfl (by kernel_rfl) (by kernel_rfl) (by kernel_rfl) (by kernel_rfl) (fun _ _ _ h => h) (by kernel_rfl) hS ?_ ?_
                            rotate_left 1
                            · intro Wv hW
                              replace k0 := cell_of_ans hW k0
                              replace k1 := cell_of_ans hW k1
                              replace k2 := cell_of_ans hW k2
                              replace k3 := cell_of_ans hW k3
                              replace k4 := cell_of_ans hW k4
                              replace c1 := cell_of_ans hW c1
                              replace c2 := cell_of_ans hW c2
                              go_simp
                              first | done | with_reducible rfl
                            try simp only [Act.put, List.setIfInBounds_toArray, List.set_cons_zero, List.set_cons_succ]
                            refine T_ready (rs := [3]) (by kernel_rfl) (by simp) ?_
                            refine TReady.cons rfl (fun K hK => ?_) TReady.nil
                            try go_simp
                            refine (pins40_c r.rows r.mid r.gap r.reach _ r.links.length c _ hr1 hr4).mono ?_
                            rintro e w5 ⟨rfl, hb⟩
                            have hS2 : Below wq.heap.size wq w5 := below_cat hb hS
                            try go_simp
                            refine hK.out _ _ (fun _ => hS2) (fun _ => ?_)
                            clear hK K hS hb
                            replace hS := hS2
                            clear hS2
                            try simp only [Act.put, List.setIfInBounds_toArray, List.set_cons_zero, List.set_cons_succ]
                            refine' T_take (i := 4) (v := _) rfl (by kernel_rfl) (by kernel_rfl) (by kernel_rfl) (by kernel_rfl) (fun _ _ _ h => h) (by kernel_rfl) hS ?_ ?_
                            rotate_left 1
                            · intro Wv hW
                              replace k0 := cell_of_ans hW k0
                              replace k1 := cell_of_ans hW k1
                              replace k2 := cell_of_ans hW k2
                              replace k3 := cell_of_ans hW k3
                              replace k4 := cell_of_ans hW k4
                              replace c1 := cell_of_ans hW c1
                              replace c2 := cell_of_ans hW c2
                              go_simp
                              first | done | with_reducible rfl
                            try simp only [Act.put, List.setIfInBounds_toArray, List.set_cons_zero, List.set_cons_succ]
                            refine T_ready (rs := [5]) (by kernel_rfl) (by simp) ?_
                            refine TReady.cons rfl (fun K hK => ?_) TReady.nil
                            try go_simp
                            refine (in_e e1).mono ?_
                            rintro e w6 ⟨rfl, rfl⟩
                            try go_simp
                            refine hK.out _ _ (fun _ => hS) (fun _ => ?_)
                            clear hK K
                            try simp only [Act.put, List.setIfInBounds_toArray, List.set_cons_zero, List.set_cons_succ]
                            refine' T_take (i := 6) (v := _) rfl (by kernel_rfl) (by kernel_rfl) (by kernel_rfl) (by kernel_rfl) (fun _ _ _ h => h) (by kernel_rfl) hS ?_ ?_
                            rotate_left 1
                            · intro Wv hW
                              replace k0 := cell_of_ans hW k0
                              replace k1 := cell_of_ans hW k1
                              replace k2 := cell_of_ans hW k2
                              replace k3 := cell_of_ans hW k3
                              replace k4 := cell_of_ans hW k4
                              replace c1 := cell_of_ans hW c1
                              replace c2 := cell_of_ans hW c2
                              go_simp
                              first | done | with_reducible rfl
                            try simp only [Act.put, List.setIfInBounds_toArray, List.set_cons_zero, List.set_cons_succ]
                            refine' T_take (i := 7) (v := _) rfl (by kernel_rfl) (by kernel_rfl) (by kernel_rfl) (by kernel_rfl) (fun _ _ _ h => h) (by kernel_rfl) hS ?_ ?_
                            rotate_left 1
                            · intro Wv hW
                              replace k0 := cell_of_ans hW k0
                              replace k1 := cell_of_ans hW k1
                              replace k2 := cell_of_ans hW k2
                              replace k3 := cell_of_ans hW k3
                              replace k4 := cell_of_ans hW k4
                              replace c1 := cell_of_ans hW c1
                              replace c2 := cell_of_ans hW c2
                              go_simp
                              first | done | with_reducible rfl
                            try simp only [Act.put, List.setIfInBounds_toArray, List.set_cons_zero, List.set_cons_succ]
                            refine' T_take (i := 8) (v := _) rfl (by kernel_rfl) (by kernel_rfl) (by kernel_rfl) (by kernel_rfl) (fun _ _ _ h => h) (by kernel_rfl) hS ?_ ?_
                            rotate_left 1
                            · intro Wv hW
                              replace k0 := cell_of_ans hW k0
                              replace k1 := cell_of_ans hW k1
                              replace k2 := cell_of_ans hW k2
                              replace k3 := cell_of_ans hW k3
                              replace k4 := cell_of_ans hW k4
                              replace c1 := cell_of_ans hW c1
                              replace c2 := cell_of_ans hW c2
                              go_simp
                              first | done | with_reducible rfl
                            try simp only [Act.put, List.setIfInBounds_toArray, List.set_cons_zero, List.set_cons_succ]
                            refine' T_take (i := 9) (v := _) rfl (by kernel_rfl) (by kernel_rfl) (by kernel_rfl) (by kernel_rfl) (fun _ _ _ h => h) (by kernel_rfl) hS ?_ ?_
                            rotate_left 1
                            · intro Wv hW
                              replace k0 := cell_of_ans hW k0
                              replace k1 := cell_of_ans hW k1
                              replace k2 := cell_of_ans hW k2
                              replace k3 := cell_of_ans hW k3
                              replace k4 := cell_of_ans hW k4
                              replace c1 := cell_of_ans hW c1
                              replace c2 := cell_of_ans hW c2
                              go_simp
                              first | done | with_reducible rfl
                            try simp only [Act.put, List.setIfInBounds_toArray, List.set_cons_zero, List.set_cons_succ]
                            refine' T_take (i := 10) (v := _) rfl (by kernel_rfl) (by kernel_rfl) (by kernel_rfl) (by kernel_rfl) (fun _ _ _ h => h) (by kernel_rfl) hS ?_ ?_
                            rotate_left 1
                            · intro Wv hW
                              replace k0 := cell_of_ans hW k0
                              replace k1 := cell_of_ans hW k1
                              replace k2 := cell_of_ans hW k2
                              replace k3 := cell_of_ans hW k3
                              replace k4 := cell_of_ans hW k4
                              replace c1 := cell_of_ans hW c1
                              replace c2 := cell_of_ans hW c2
                              go_simp
                              first | done | with_reducible rfl
                            try simp only [Act.put, List.setIfInBounds_toArray, List.set_cons_zero, List.set_cons_succ]
                            refine T_ready (rs := [11]) (by kernel_rfl) (by simp) ?_
                            refine TReady.cons rfl (fun K hK => ?_) TReady.nil
                            try go_simp
                            refine (pins40_c r.rows r.mid r.gap r.reach _ r.links.length c _ hr1 hr4).mono ?_
                            rintro e w7 ⟨rfl, hb⟩
                            have hS2 : Below wq.heap.size wq w7 := below_cat hb hS
                            try go_simp
                            refine hK.out _ _ (fun _ => hS2) (fun _ => ?_)
                            clear hK K hS hb
                            replace hS := hS2
                            clear hS2
                            try simp only [Act.put, List.setIfInBounds_toArray, List.set_cons_zero, List.set_cons_succ]
                            refine' T_take (i := 12) (v := _) rfl (by kernel_rfl) (by kernel_rfl) (by kernel_rfl) (by kernel_rfl) (fun _ _ _ h => h) (by kernel_rfl) hS ?_ ?_
                            rotate_left 1
                            · intro Wv hW
                              replace k0 := cell_of_ans hW k0
                              replace k1 := cell_of_ans hW k1
                              replace k2 := cell_of_ans hW k2
                              replace k3 := cell_of_ans hW k3
                              replace k4 := cell_of_ans hW k4
                              replace c1 := cell_of_ans hW c1
                              replace c2 := cell_of_ans hW c2
                              go_simp
                              first | done | with_reducible rfl
                            try simp only [Act.put, List.setIfInBounds_toArray, List.set_cons_zero, List.set_cons_succ]
                            refine T_ready (rs := [13]) (by kernel_rfl) (by simp) ?_
                            refine TReady.cons rfl (fun K hK => ?_) TReady.nil
                            try go_simp
                            refine (in_e e2).mono ?_
                            rintro e w8 ⟨rfl, rfl⟩
                            try go_simp
                            refine hK.out _ _ (fun _ => hS) (fun _ => ?_)
                            clear hK K
                            try simp only [Act.put, List.setIfInBounds_toArray, List.set_cons_zero, List.set_cons_succ]
                            refine' T_take (i := 14) (v := _) rfl (by kernel_rfl) (by kernel_rfl) (by kernel_rfl) (by kernel_rfl) (fun _ _ _ h => h) (by kernel_rfl) hS ?_ ?_
                            rotate_left 1
                            · intro Wv hW
                              replace k0 := cell_of_ans hW k0
                              replace k1 := cell_of_ans hW k1
                              replace k2 := cell_of_ans hW k2
                              replace k3 := cell_of_ans hW k3
                              replace k4 := cell_of_ans hW k4
                              replace c1 := cell_of_ans hW c1
                              replace c2 := cell_of_ans hW c2
                              go_simp
                              first | done | with_reducible rfl
                            try simp only [Act.put, List.setIfInBounds_toArray, List.set_cons_zero, List.set_cons_succ]
                            refine' T_take (i := 15) (v := _) rfl (by kernel_rfl) (by kernel_rfl) (by kernel_rfl) (by kernel_rfl) (fun _ _ _ h => h) (by kernel_rfl) hS ?_ ?_
                            rotate_left 1
                            · intro Wv hW
                              replace k0 := cell_of_ans hW k0
                              replace k1 := cell_of_ans hW k1
                              replace k2 := cell_of_ans hW k2
                              replace k3 := cell_of_ans hW k3
                              replace k4 := cell_of_ans hW k4
                              replace c1 := cell_of_ans hW c1
                              replace c2 := cell_of_ans hW c2
                              go_simp
                              first | done | with_reducible rfl
                            try simp only [Act.put, List.setIfInBounds_toArray, List.set_cons_zero, List.set_cons_succ]
                            refine' T_take (i := 16) (v := _) rfl (by kernel_rfl) (by kernel_rfl) (by kernel_rfl) (by kernel_rfl) (fun _ _ _ h => h) (by kernel_rfl) hS ?_ ?_
                            rotate_left 1
                            · intro Wv hW
                              replace k0 := cell_of_ans hW k0
                              replace k1 := cell_of_ans hW k1
                              replace k2 := cell_of_ans hW k2
                              replace k3 := cell_of_ans hW k3
                              replace k4 := cell_of_ans hW k4
                              replace c1 := cell_of_ans hW c1
                              replace c2 := cell_of_ans hW c2
                              go_simp
                              first | done | with_reducible rfl
                            try simp only [Act.put, List.setIfInBounds_toArray, List.set_cons_zero, List.set_cons_succ]
                            refine' T_take (i := 17) (v := _) rfl (by kernel_rfl) (by kernel_rfl) (by kernel_rfl) (by kernel_rfl) (fun _ _ _ h => h) (by kernel_rfl) hS ?_ ?_
                            rotate_left 1
                            · intro Wv hW
                              replace k0 := cell_of_ans hW k0
                              replace k1 := cell_of_ans hW k1
                              replace k2 := cell_of_ans hW k2
                              replace k3 := cell_of_ans hW k3
                              replace k4 := cell_of_ans hW k4
                              replace c1 := cell_of_ans hW c1
                              replace c2 := cell_of_ans hW c2
                              go_simp
                              first | done | with_reducible rfl
                            try simp only [Act.put, List.setIfInBounds_toArray, List.set_cons_zero, List.set_cons_succ]
                            refine' T_take (i := 18) (v := _) rfl (by kernel_rfl) (by kernel_rfl) (by kernel_rfl) (by kernel_rfl) (fun _ _ _ h => h) (by kernel_rfl) hS ?_ ?_
                            rotate_left 1
                            · intro Wv hW
                              replace k0 := cell_of_ans hW k0
                              replace k1 := cell_of_ans hW k1
                              replace k2 := cell_of_ans hW k2
                              replace k3 := cell_of_ans hW k3
                              replace k4 := cell_of_ans hW k4
                              replace c1 := cell_of_ans hW c1
                              replace c2 := cell_of_ans hW c2
                              go_simp
                              first | done | with_reducible rfl
                            try simp only [Act.put, List.setIfInBounds_toArray, List.set_cons_zero, List.set_cons_succ]
                            refine' T_take (i := 19) (v := _) rfl (by kernel_rfl) (by kernel_rfl) (by kernel_rfl) (by kernel_rfl) (fun _ _ _ h => h) (by kernel_rfl) hS ?_ ?_
                            rotate_left 1
                            · intro Wv hW
                              replace k0 := cell_of_ans hW k0
                              replace k1 := cell_of_ans hW k1
                              replace k2 := cell_of_ans hW k2
                              replace k3 := cell_of_ans hW k3
                              replace k4 := cell_of_ans hW k4
                              replace c1 := cell_of_ans hW c1
                              replace c2 := cell_of_ans hW c2
                              go_simp
                              first | done | with_reducible rfl
                            try simp only [Act.put, List.setIfInBounds_toArray, List.set_cons_zero, List.set_cons_succ]
                            refine' T_take (i := 20) (v := _) rfl (by kernel_rfl) (by kernel_rfl) (by kernel_rfl) (by kernel_rfl) (fun _ _ _ h => h) (by kernel_rfl) hS ?_ ?_
                            rotate_left 1
                            · intro Wv hW
                              replace k0 := cell_of_ans hW k0
                              replace k1 := cell_of_ans hW k1
                              replace k2 := cell_of_ans hW k2
                              replace k3 := cell_of_ans hW k3
                              replace k4 := cell_of_ans hW k4
                              replace c1 := cell_of_ans hW c1
                              replace c2 := cell_of_ans hW c2
                              go_simp
                              first | done | with_reducible rfl
                            try simp only [Act.put, List.setIfInBounds_toArray, List.set_cons_zero, List.set_cons_succ]
                            refine' T_take (i := 21) (v := _) rfl (by kernel_rfl) (by kernel_rfl) (by kernel_rfl) (by kernel_rfl) (fun _ _ _ h => h) (by kernel_rfl) hS ?_ ?_
                            rotate_left 1
                            · intro Wv hW
                              replace k0 := cell_of_ans hW k0
                              replace k1 := cell_of_ans hW k1
                              replace k2 := cell_of_ans hW k2
                              replace k3 := cell_of_ans hW k3
                              replace k4 := cell_of_ans hW k4
                              replace c1 := cell_of_ans hW c1
                              replace c2 := cell_of_ans hW c2
                              go_simp
                              first | done | with_reducible rfl
                            try simp only [Act.put, List.setIfInBounds_toArray, List.set_cons_zero, List.set_cons_succ]
                            refine' T_take (i := 22) (v := _) rfl (by kernel_rfl) (by kernel_rfl) (by kernel_rfl) (by kernel_rfl) (fun _ _ _ h => h) (by kernel_rfl) hS ?_ ?_
                            rotate_left 1
                            · intro Wv hW
                              replace k0 := cell_of_ans hW k0
                              replace k1 := cell_of_ans hW k1
                              replace k2 := cell_of_ans hW k2
                              replace k3 := cell_of_ans hW k3
                              replace k4 := cell_of_ans hW k4
                              replace c1 := cell_of_ans hW c1
                              replace c2 := cell_of_ans hW c2
                              go_simp
                              first | done | with_reducible rfl
                            try simp only [Act.put, List.setIfInBounds_toArray, List.set_cons_zero, List.set_cons_succ]
                            refine T_done (by kernel_rfl) ?_ _
                            refine NoPanic.normal ?_
                            try go_simp
                            go_wp2_with fail
                            go_ret
                            exact ⟨ret_int HR.out.symm, HB.out.trans ((below_cat hS HBQ.out).mono HB.out.size)⟩
                          · have HY := Lib.hid (HYE.out (by rw [HLB.out, e1, e2, decide_eq_false he]; rfl))
                            have he' : (xf == xt) = false := by simp [he]
                            clear he
                            refine wp_region_noPanic ?_
                            have hS : (fun W' : World => Below wq.heap.size wq W') wq.drew := (Below.refl _ _).drew
                            refine wp_region_any (by kernel_rfl) (wpAny_of_T (S := fun W' : World => Below wq.heap.size wq W') (m := 23) _ _ _ _ ?_)
                            refine' T_take (i := 0) (v := _) rfl (by kernel_rfl) (by kernel_rfl) (by kernel_rfl) (by kernel_rfl) (fun _ _ _ h => h) (by kernel_rfl) hS ?_ ?_
                            rotate_left 1
                            · intro Wv hW
                              replace k0 := cell_of_ans hW k0
                              replace k1 := cell_of_ans hW k1
                              replace k2 := cell_of_ans hW k2
                              replace k3 := cell_of_ans hW k3
                              replace k4 := cell_of_ans hW k4
                              replace c1 := cell_of_ans hW c1
                              replace c2 := cell_of_ans hW c2
                              go_simp
                              first | done | with_reducible rfl
                            try simp only [Act.put, List.setIfInBounds_toArray, List.set_cons_zero, List.set_cons_succ]
                            refine' T_take (i := 1) (v := _) rfl (by kernel_rfl) (by kernel_rfl) (by kernel_rfl) (by kernel_rfl) (fun _ _ _ h => h) (by kernel_rfl) hS ?_ ?_
                            rotate_left 1
                            · intro Wv hW
                              replace k0 := cell_of_ans hW k0
                              replace k1 := cell_of_ans hW k1
                              replace k2 := cell_of_ans hW k2
                              replace k3 := cell_of_ans hW k3
                              replace k4 := cell_of_ans hW k4
                              replace c1 := cell_of_ans hW c1
                              replace c2 := cell_of_ans hW c2
                              go_simp
                              first | done | with_reducible rfl
                            try simp only [Act.put, List.setIfInBounds_toArray, List.set_cons_zero, List.set_cons_succ]
                            refine' T_take (i := 2) (v := _) rfl (by kernel_rfl) (by kernel_rfl) (by kernel_rfl) (by kernel_rfl) (fun _ _ _ h => h) (by kernel_rfl) hS ?_ ?_
                            rotate_left 1
                            · intro Wv hW
                              replace k0 := cell_of_ans hW k0
                              replace k1 := cell_of_ans hW k1
                              replace k2 := cell_of_ans hW k2
                              replace k3 := cell_of_ans hW k3
                              replace k4 := cell_of_ans hW k4
                              replace c1 := cell_of_ans hW c1
                              replace c2 := cell_of_ans hW c2
                              go_simp
                              first | done | with_reducible rfl
                            try simp only [Act.put, List.setIfInBounds_toArray, List.set_cons_zero, List.set_cons_succ]
                            refine T_ready (rs := [3]) (by kernel_rfl) (by simp) ?_
                            refine TReady.cons rfl (fun K hK => ?_) TReady.nil
                            try go_simp
                            refine (pins40_c r.rows r.mid r.gap r.reach _ r.links.length c _ hr1 hr4).mono ?_
                            rintro e w5 ⟨rfl, hb⟩
                            have hS2 : Below wq.heap.size wq w5 := below_cat hb hS
                            try go_simp
                            refine hK.out _ _ (fun _ => hS2) (fun _ => ?_)
                            clear hK K hS hb
                            replace hS := hS2
                            clear hS2
                            try simp only [Act.put, List.setIfInBounds_toArray, List.set_cons_zero, List.set_cons_succ]
                            refine' T_take (i := 4) (v := _) rfl (by kernel_rfl) (by kernel_rfl) (by kernel_rfl) (by kernel_rfl) (fun _ _ _ h => h) (by kernel_rfl) hS ?_ ?_
                            rotate_left 1
                            · intro Wv hW
                              replace k0 := cell_of_ans hW k0
                              replace k1 := cell_of_ans hW k1
                              replace k2 := cell_of_ans hW k2
                              replace k3 := cell_of_ans hW k3
                              replace k4 := cell_of_ans hW k4
                              replace c1 := cell_of_ans hW c1
                              replace c2 := cell_of_ans hW c2
                              go_simp
                              first | done | with_reducible rfl
                            try simp only [Act.put, List.setIfInBounds_toArray, List.set_cons_zero, List.set_cons_succ]
                            refine T_ready (rs := [5]) (by kernel_rfl) (by simp) ?_
                            refine TReady.cons rfl (fun K hK => ?_) TReady.nil
                            try go_simp
                            refine (in_e e1).mono ?_
                            rintro e w6 ⟨rfl, rfl⟩
                            try go_simp
                            refine hK.out _ _ (fun _ => hS) (fun _ => ?_)
                            clear hK K
                            try simp only [Act.put, List.setIfInBounds_toArray, List.set_cons_zero, List.set_cons_succ]
                            refine' T_take (i := 6) (v := _) rfl (by kernel_rfl) (by kernel_rfl) (by kernel_rfl) (by kernel_rfl) (fun _ _ _ h => h) (by kernel_rfl) hS ?_ ?_
                            rotate_left 1
                            · intro Wv hW
                              replace k0 := cell_of_ans hW k0
                              replace k1 := cell_of_ans hW k1
                              replace k2 := cell_of_ans hW k2
                              replace k3 := cell_of_ans hW k3
                              replace k4 := cell_of_ans hW k4
                              replace c1 := cell_of_ans hW c1
                              replace c2 := cell_of_ans hW c2
                              go_simp
                              first | done | with_reducible rfl
                            try simp only [Act.put, List.setIfInBounds_toArray, List.set_cons_zero, List.set_cons_succ]
                            refine' T_take (i := 7) (v := _) rfl (by kernel_rfl) (by kernel_rfl) (by kernel_rfl) (by kernel_rfl) (fun _ _ _ h => h) (by kernel_rfl) hS ?_ ?_
                            rotate_left 1
                            · intro Wv hW
                              replace k0 := cell_of_ans hW k0
                              replace k1 := cell_of_ans hW k1
                              replace k2 := cell_of_ans hW k2
                              replace k3 := cell_of_ans hW k3
                              replace k4 := cell_of_ans hW k4
                              replace c1 := cell_of_ans hW c1
                              replace c2 := cell_of_ans hW c2
                              go_simp
                              first | done | with_reducible rfl
                            try simp only [Act.put, List.setIfInBounds_toArray, List.set_cons_zero, List.set_cons_succ]
                            refine' T_take (i := 8) (v := _) rfl (by kernel_rfl) (by kernel_rfl) (by kernel_rfl) (by kernel_rfl) (fun _ _ _ h => h) (by kernel_rfl) hS ?_ ?_
                            rotate_left 1
                            · intro Wv hW
                              replace k0 := cell_of_ans hW k0
                              replace k1 := cell_of_ans hW k1
                              replace k2 := cell_of_ans hW k2
                              replace k3 := cell_of_ans hW k3
                              replace k4 := cell_of_ans hW k4
                              replace c1 := cell_of_ans hW c1
                              replace c2 := cell_of_ans hW c2
                              go_simp
                              first | done | with_reducible rfl
                            try simp only [Act.put, List.setIfInBounds_toArray, List.set_cons_zero, List.set_cons_succ]
                            refine' T_take (i := 9) (v := _) rfl (by kernel_rfl) (by kernel_rfl) (by kernel_rfl) (by kernel_rfl) (fun _ _ _ h => h) (by kernel_rfl) hS ?_ ?_
                            rotate_left 1
                            · intro Wv hW
                              replace k0 := cell_of_ans hW k0
                              replace k1 := cell_of_ans hW k1
                              replace k2 := cell_of_ans hW k2
                              replace k3 := cell_of_ans hW k3
                              replace k4 := cell_of_ans hW k4
                              replace c1 := cell_of_ans hW c1
                              replace c2 := cell_of_ans hW c2
                              go_simp
                              first | done | with_reducible rfl
                            try simp only [Act.put, List.setIfInBounds_toArray, List.set_cons_zero, List.set_cons_succ]
                            refine' T_take (i := 10) (v := _) rfl (by kernel_rfl) (by kernel_rfl) (by kernel_rfl) (by kernel_rfl) (fun _ _ _ h => h) (by kernel_rfl) hS ?_ ?_
                            rotate_left 1
                            · intro Wv hW
                              replace k0 := cell_of_ans hW k0
                              replace k1 := cell_of_ans hW k1
                              replace k2 := cell_of_ans hW k2
                              replace k3 := cell_of_ans hW k3
                              replace k4 := cell_of_ans hW k4
                              replace c1 := cell_of_ans hW c1
                              replace c2 := cell_of_ans hW c2
                              go_simp
                              first | done | with_reducible rfl
                            try simp only [Act.put, List.setIfInBounds_toArray, List.set_cons_zero, List.set_cons_succ]
                            refine T_ready (rs := [11]) (by kernel_rfl) (by simp) ?_
                            refine TReady.cons rfl (fun K hK => ?_) TReady.nil
                            try go_simp
                            refine (pins40_c r.rows r.mid r.gap r.reach _ r.links.length c _ hr1 hr4).mono ?_
                            rintro e w7 ⟨rfl, hb⟩
                            have hS2 : Below wq.heap.size wq w7 := below_cat hb hS
                            try go_simp
                            refine hK.out _ _ (fun _ => hS2) (fun _ => ?_)
                            clear hK K hS hb
                            replace hS := hS2
                            clear hS2
                            try simp only [Act.put, List.setIfInBounds_toArray, List.set_cons_zero, List.set_cons_succ]
                            refine' T_take (i := 12) (v := _) rfl (by kernel_rfl) (by kernel_rfl) (by kernel_rfl) (by kernel_rfl) (fun _ _ _ h => h) (by kernel_rfl) hS ?_ ?_
                            rotate_left 1
                            · intro Wv hW
                              replace k0 := cell_of_ans hW k0
                              replace k1 := cell_of_ans hW k1
                              replace k2 := cell_of_ans hW k2
                              replace k3 := cell_of_ans hW k3
                              replace k4 := cell_of_ans hW k4
                              replace c1 := cell_of_ans hW c1
                              replace c2 := cell_of_ans hW c2
                              go_simp
                              first | done | with_reducible rfl
                            try simp only [Act.put, List.setIfInBounds_toArray, List.set_cons_zero, List.set_cons_succ]
                            refine T_ready (rs := [13]) (by kernel_rfl) (by simp) ?_
                            refine TReady.cons rfl (fun K hK => ?_) TReady.nil
                            try go_simp
                            refine (in_e e2).mono ?_
                            rintro e w8 ⟨rfl, rfl⟩
                            try go_simp
                            refine hK.out _ _ (fun _ => hS) (fun _ => ?_)
                            clear hK K
                            try simp only [Act.put, List.setIfInBounds_toArray, List.set_cons_zero, List.set_cons_succ]
                            refine' T_take (i := 14) (v := _) rfl (by kernel_rfl) (by kernel_rfl) (by kernel_rfl) (by kernel_rfl) (fun _ _ _ h => h) (by kernel_rfl) hS ?_ ?_
                            rotate_left 1
                            · intro Wv hW
                              replace k0 := cell_of_ans hW k0
                              replace k1 := cell_of_ans hW k1
                              replace k2 := cell_of_ans hW k2
                              replace k3 := cell_of_ans hW k3
                              replace k4 := cell_of_ans hW k4
                              replace c1 := cell_of_ans hW c1
                              replace c2 := cell_of_ans hW c2
                              go_simp
                              first | done | with_reducible rfl
                            try simp only [Act.put, List.setIfInBounds_toArray, List.set_cons_zero, List.set_cons_succ]
                            refine' T_take (i := 15) (v := _) rfl (by kernel_rfl) (by kernel_rfl) (by kernel_rfl) (by kernel_rfl) (fun _ _ _ h => h) (by kernel_rfl) hS ?_ ?_
                            rotate_left 1
                            · intro Wv hW
                              replace k0 := cell_of_ans hW k0
                              replace k1 := cell_of_ans hW k1
                              replace k2 := cell_of_ans hW k2
                              replace k3 := cell_of_ans hW k3
                              replace k4 := cell_of_ans hW k4
                              replace c1 := cell_of_ans hW c1
                              replace c2 := cell_of_ans hW c2
                              go_simp
                              first | done | with_reducible rfl
                            try simp only [Act.put, List.setIfInBounds_toArray, List.set_cons_zero, List.set_cons_succ]
                            refine' T_take (i := 16) (v := _) rfl (by kernel_rfl) (by kernel_rfl) (by kernel_rfl) (by kernel_rfl) (fun _ _ _ h => h) (by kernel_rfl) hS ?_ ?_
                            rotate_left 1
                            · intro Wv hW
                              replace k0 := cell_of_ans hW k0
                              replace k1 := cell_of_ans hW k1
                              replace k2 := cell_of_ans hW k2
                              replace k3 := cell_of_ans hW k3
                              replace k4 := cell_of_ans hW k4
                              replace c1 := cell_of_ans hW c1
                              replace c2 := cell_of_ans hW c2
                              go_simp
                              first | done | with_reducible rfl
                            try simp only [Act.put, List.setIfInBounds_toArray, List.set_cons_zero, List.set_cons_succ]
                            refine' T_take (i := 17) (v := _) rfl (by kernel_rfl) (by kernel_rfl) (by kernel_rfl) (by kernel_rfl) (fun _ _ _ h => h) (by kernel_rfl) hS ?_ ?_
                            rotate_left 1
                            · intro Wv hW
                              replace k0 := cell_of_ans hW k0
                              replace k1 := cell_of_ans hW k1
                              replace k2 := cell_of_ans hW k2
                              replace k3 := cell_of_ans hW k3
                              replace k4 := cell_of_ans hW k4
                              replace c1 := cell_of_ans hW c1
                              replace c2 := cell_of_ans hW c2
                              go_simp
                              first | done | with_reducible rfl
                            try simp only [Act.put, List.setIfInBounds_toArray, List.set_cons_zero, List.set_cons_succ]
                            refine' T_take (i := 18) (v := _) rfl (by kernel_rfl) (by kernel_rfl) (by kernel_rfl) (by kernel_rfl) (fun _ _ _ h => h) (by kernel_rfl) hS ?_ ?_
                            rotate_left 1
                            · intro Wv hW
                              replace k0 := cell_of_ans hW k0
                              replace k1 := cell_of_ans hW k1
                              replace k2 := cell_of_ans hW k2
                              replace k3 := cell_of_ans hW k3
                              replace k4 := cell_of_ans hW k4
                              replace c1 := cell_of_ans hW c1
                              replace c2 := cell_of_ans hW c2
                              go_simp
                              first | done | with_reducible rfl
                            try simp only [Act.put, List.setIfInBounds_toArray, List.set_cons_zero, List.set_cons_succ]
                            refine' T_take (i := 19) (v := _) rfl (by kernel_rfl) (by kernel_rfl) (by kernel_rfl) (by kernel_rfl) (fun _ _ _ h => h) (by kernel_rfl) hS ?_ ?_
                            rotate_left 1
                            · intro Wv hW
                              replace k0 := cell_of_ans hW k0
                              replace k1 := cell_of_ans hW k1
                              replace k2 := cell_of_ans hW k2
                              replace k3 := cell_of_ans hW k3
                              replace k4 := cell_of_ans hW k4
                              replace c1 := cell_of_ans hW c1
                              replace c2 := cell_of_ans hW c2
                              go_simp
                              first | done | with_reducible rfl
                            try simp only [Act.put, List.setIfInBounds_toArray, List.set_cons_zero, List.set_cons_succ]
                            refine' T_take (i := 20) (v := _) rfl (by kernel_rfl) (by kernel_rfl) (by kernel_rfl) (by kernel_rfl) (fun _ _ _ h => h) (by kernel_rfl) hS ?_ ?_
                            rotate_left 1
                            · intro Wv hW
                              replace k0 := cell_of_ans hW k0
                              replace k1 := cell_of_ans hW k1
                              replace k2 := cell_of_ans hW k2
                              replace k3 := cell_of_ans hW k3
                              replace k4 := cell_of_ans hW k4
                              replace c1 := cell_of_ans hW c1
                              replace c2 := cell_of_ans hW c2
                              go_simp
                              first | done | with_reducible rfl
                            try simp only [Act.put, List.setIfInBounds_toArray, List.set_cons_zero, List.set_cons_succ]
                            refine' T_take (i := 21) (v := _) rfl (by kernel_rfl) (by kernel_rfl) (by kernel_rfl) (by kernel_rfl) (fun _ _ _ h => h) (by kernel_rfl) hS ?_ ?_
                            rotate_left 1
                            · intro Wv hW
                              replace k0 := cell_of_ans hW k0
                              replace k1 := cell_of_ans hW k1
                              replace k2 := cell_of_ans hW k2
                              replace k3 := cell_of_ans hW k3
                              replace k4 := cell_of_ans hW k4
                              replace c1 := cell_of_ans hW c1
                              replace c2 := cell_of_ans hW c2
                              go_simp
                              first | done | with_reducible rfl
                            try simp only [Act.put, List.setIfInBounds_toArray, List.set_cons_zero, List.set_cons_succ]
                            refine' T_take (i := 22) (v := _) rfl (by kernel_rfl) (by kernel_rfl) (by kernel_rfl) (by kernel_rfl) (fun _ _ _ h => h) (by kernel_rfl) hS ?_ ?_
                            rotate_left 1
                            · intro Wv hW
                              replace k0 := cell_of_ans hW k0
                              replace k1 := cell_of_ans hW k1
                              replace k2 := cell_of_ans hW k2
                              replace k3 := cell_of_ans hW k3
                              replace k4 := cell_of_ans hW k4
                              replace c1 := cell_of_ans hW c1
                              replace c2 := cell_of_ans hW c2
                              go_simp
                              first | done | with_reducible rfl
                            try simp only [Act.put, List.setIfInBounds_toArray, List.set_cons_zero, List.set_cons_succ]
                            refine T_done (by kernel_rfl) ?_ _
                            refine NoPanic.normal ?_
                            try go_simp
                            go_wp2_with fail
                            go_roundw
                            case rel => exact ⟨k + 1, by omega, by go_num, HY.out, below_cat hS HBQ.out⟩
                            case measure => simp [intOf]; omega
                    · obtain rfl : k = r.links.length := by omega
                      have HR := Lib.hid (HRA.out true (allB_true HA.out))
                      replace k4 := cell_of_ans hb k4
                      go_wp2_with fail
                      go_ret
                      exact ⟨ret_int HR.out.symm, HB.out.trans (hb.mono HB.out.size)⟩
        · have HR : Hid (rackErr r = 3) := by show _ = _; unfold rackErr; rw [if_neg (fun h => t1 h.2)]
          have ht0 : decide ((12 : Int) < (r.links.length : Int)) = false := by simp; omega
          have ht1 : decide ((6 : Int) < ((mayTo r.links r.links.length : Nat) : Int)) = true := by simp; omega
          have ht2 : decide (12 < r.links.length) = false := by simp; omega
          have ht3 : decide (6 < mayTo r.links r.links.length) = true := by simp; omega
          generalize mayTo r.links r.links.length = m at *
          clear t1
          go_wp2_with fail
          go_ret
          exact ⟨ret_int HR.out.symm, HB.out⟩
      · have HR : Hid (rackErr r = 3) := by show _ = _; unfold rackErr; rw [if_neg (fun h => t0 h.1)]
        have ht0 : decide ((12 : Int) < (r.links.length : Int)) = true := by simp; omega
        have ht2 : decide (12 < r.links.length) = true := by simp; omega
        clear t0
        go_wp2_with fail
        go_ret
        exact ⟨ret_int HR.out.symm, HB.out⟩
end

section
open Go.RowKit
attribute [local go_sem] Oper.semAt_some
set_option maxRecDepth 100000 in
set_option maxHeartbeats 4000000 in
theorem ball20_c (Ab : Option Addr) (cb : Nat) (ball : List Rg) (w : World) (hball : Rgs w.heap.size w Ab ball) (hcb : ball.length ≤ cb ∧ cb ≤ 9223372036854775807) (hl : ball.length ≤ 1000000) :
    Calls Try.prog 23 #[.slice Ab ball.length cb] w (fun e w' => ∃ A c, e = .returned (.slice A ball.length c) ∧ (Rgs w'.heap.size w' A ball ∧ ball.length ≤ c ∧ c ≤ 9223372036854775807) ∧ Below w.heap.size w w') := by
  have HX := Lib.hid hball
  clear hball
  go_enter Try.func23, Try.ntmps23
  go_wp2_with fail
  go_loopw [3, 4] (fun o i wr => ∃ k : Nat, k ≤ ball.length ∧ i = .int .i64 k ∧ OwnG 64 w.heap.size wr o (ball.take k) ∧ Below w.heap.size w wr) (fun _ i _ => ball.length - (intOf i).toNat)
  case atStart => exact ⟨0, by omega, rfl, by simp; exact OwnG.nil _ _ _, Below.refl _ _⟩
  case round =>
    obtain ⟨k, hk, rfl, ho, hb⟩ := hrel
    have HO := Lib.hid ho
    have HB := Lib.hid hb
    obtain ⟨Ao, co, rfl⟩ := ho.form
    clear ho
    by_cases h1 : k < ball.length
    · obtain ⟨b, off, rfl, hb0, c1, c2⟩ := (HX.out.below hb).at_ h1
      have HT : Hid (ball.take (k + 1) = ball.take k ++ [gx ball k]) := by show _ = _; rw [List.take_succ_eq_append_getElem h1, gx_lt h1]
      have hlt : (ball.take k).length = k := by simp; omega
      have hwr : w.heap.size ≤ wr.heap.size := hb.size
      have h1i : (k : Int) < (ball.length : Int) := by omega
      clear hb
      replace HO : Hid (OwnG 64 w.heap.size wr.drew (.slice Ao (ball.take k).length co) (ball.take k)) := HO.out.kept (Below.refl _ _).drew
      rw [hlt] at HO ⊢
      generalize gx ball k = x at *
      obtain ⟨lo, hi⟩ := x
      dsimp only at c1 c2
      have HLT := Lib.hid hlt
      clear hlt
      go_wp2_with fail
      refine wp_region_noPanic ?_
      have hS : (fun W' : World => Below w.heap.size wr W') wr.drew := (Below.refl _ _).drew
      refine wp_region_any (by kernel_rfl) (wpAny_of_T (S := fun W' : World => Below w.heap.size wr W') (m := 15) _ _ _ _ ?_)
      refine' T_take (i := 0) (v := _) rfl (by kernel_rfl) (by kernel_rfl) (by kernel_rfl) (by kernel_rfl) (fun _ _ _ h => h) (by kernel_rfl) hS ?_ ?_
      rotate_left 1
      · intro Wv hW
        replace c1 := (hW.cell (p := ⟨b, off + k * 2, none⟩) hb0).trans c1
        replace c2 := (hW.cell (p := ⟨b, off + k * 2 + 1, none⟩) hb0).trans c2
        go_simp
        first | done | with_reducible rfl
      try simp only [Act.put, List.setIfInBounds_toArray, List.set_cons_zero, List.set_cons_succ]
      refine' T_take (i := 1) (v := _) rfl (by kernel_rfl) (by kernel_rfl) (by kernel_rfl) (by kernel_rfl) (fun _ _ _ h => h) (by kernel_rfl) hS ?_ ?_
      rotate_left 1
      · intro Wv hW
        replace c1 := (hW.cell (p := ⟨b, off + k * 2, none⟩) hb0).trans c1
        replace c2 := (hW.cell (p := ⟨b, off + k * 2 + 1, none⟩) hb0).trans c2
        go_simp
        first | done | with_reducible rfl
      try simp only [Act.put, List.setIfInBounds_toArray, List.set_cons_zero, List.set_cons_succ]
      refine' T_take (i := 2) (v := _) rfl (by kernel_rfl) (by kernel_rfl) (by kernel_rfl) (by kernel_rfl) (fun _ _ _ h => h) (by kernel_rfl) hS ?_ ?_
      rotate_left 1
      · intro Wv hW
        replace c1 := (hW.cell (p := ⟨b, off + k * 2, none⟩) hb0).trans c1
        replace c2 := (hW.cell (p := ⟨b, off + k * 2 + 1, none⟩) hb0).trans c2
        go_simp
        first | done | with_reducible rfl
      try simp only [Act.put, List.setIfInBounds_toArray, List.set_cons_zero, List.set_cons_succ]
      refine' T_take (i := 3) (v := _) rfl (by kernel_rfl) (by kernel_rfl) (by kernel_rfl) (by kernel_rfl) (fun _ _ _ h => h) (by kernel_rfl) hS ?_ ?_
      rotate_left 1
      · intro Wv hW
        replace c1 := (hW.cell (p := ⟨b, off + k * 2, none⟩) hb0).trans c1
        replace c2 := (hW.cell (p := ⟨b, off + k * 2 + 1, none⟩) hb0).trans c2
        go_simp
        first | done | with_reducible rfl
      try simp only [Act.put, List.setIfInBounds_toArray, List.set_cons_zero, List.set_cons_succ]
      refine' T_take (i := 4) (v := _) rfl (by kernel_rfl) (by kernel_rfl) (by kernel_rfl) (by kernel_rfl) (fun _ _ _ h => h) (by kernel_rfl) hS ?_ ?_
      rotate_left 1
      · intro Wv hW
        replace c1 := (hW.cell (p := ⟨b, off + k * 2, none⟩) hb0).trans c1
        replace c2 := (hW.cell (p := ⟨b, off + k * 2 + 1, none⟩) hb0).trans c2
        go_simp
        first | done | with_reducible rfl
      try simp only [Act.put, List.setIfInBounds_toArray, List.set_cons_zero, List.set_cons_succ]
      refine' T_take (i := 5) (v := _) rfl (by kernel_rfl) (by kernel_rfl) (by kernel_rfl) (by kernel_rfl) (fun _ _ _ h => h) (by kernel_rfl) hS ?_ ?_
      rotate_left 1
      · intro Wv hW
        replace c1 := (hW.cell (p := ⟨b, off + k * 2, none⟩) hb0).trans c1
        replace c2 := (hW.cell (p := ⟨b, off + k * 2 + 1, none⟩) hb0).trans c2
        go_simp
        first | done | with_reducible rfl
      try simp only [Act.put, List.setIfInBounds_toArray, List.set_cons_zero, List.set_cons_succ]
      refine' T_take (i := 6) (v := _) rfl (by kernel_rfl) (by kernel_rfl) (by kernel_rfl) (by kernel_rfl) (fun _ _ _ h => h) (by kernel_rfl) hS ?_ ?_
      rotate_left 1
      · intro Wv hW
        replace c1 := (hW.cell (p := ⟨b, off + k * 2, none⟩) hb0).trans c1
        replace c2 := (hW.cell (p := ⟨b, off + k * 2 + 1, none⟩) hb0).trans c2
        go_simp
        first | done | with_reducible rfl
      try simp only [Act.put, List.setIfInBounds_toArray, List.set_cons_zero, List.set_cons_succ]
      refine' T_take (i := 7) (v := _) rfl (by kernel_rfl) (by kernel_rfl) (by kernel_rfl) (by kernel_rfl) (fun _ _ _ h => h) (by kernel_rfl) hS ?_ ?_
      rotate_left 1
      · intro Wv hW
        replace c1 := (hW.cell (p := ⟨b, off + k * 2, none⟩) hb0).trans c1
        replace c2 := (hW.cell (p := ⟨b, off + k * 2 + 1, none⟩) hb0).trans c2
        go_simp
        first | done | with_reducible rfl
      try simp only [Act.put, List.setIfInBounds_toArray, List.set_cons_zero, List.set_cons_succ]
      refine' T_take (i := 8) (v := _) rfl (by kernel_rfl) (by kernel_rfl) (by kernel_rfl) (by kernel_rfl) (fun _ _ _ h => h) (by kernel_rfl) hS ?_ ?_
      rotate_left 1
      · intro Wv hW
        replace c1 := (hW.cell (p := ⟨b, off + k * 2, none⟩) hb0).trans c1
        replace c2 := (hW.cell (p := ⟨b, off + k * 2 + 1, none⟩) hb0).trans c2
        go_simp
        first | done | with_reducible rfl
      try simp only [Act.put, List.setIfInBounds_toArray, List.set_cons_zero, List.set_cons_succ]
      refine' T_take (i := 9) (v := _) rfl (by kernel_rfl) (by kernel_rfl) (by kernel_rfl) (by kernel_rfl) (fun _ _ _ h => h) (by kernel_rfl) hS ?_ ?_
      rotate_left 1
      · intro Wv hW
        replace c1 := (hW.cell (p := ⟨b, off + k * 2, none⟩) hb0).trans c1
        replace c2 := (hW.cell (p := ⟨b, off + k * 2 + 1, none⟩) hb0).trans c2
        go_simp
        first | done | with_reducible rfl
      try simp only [Act.put, List.setIfInBounds_toArray, List.set_cons_zero, List.set_cons_succ]
      refine' T_take (i := 10) (v := _) rfl (by kernel_rfl) (by kernel_rfl) (by kernel_rfl) (by kernel_rfl) (fun _ _ _ h => h) (by kernel_rfl) hS ?_ ?_
      rotate_left 1
      · intro Wv hW
        replace c1 := (hW.cell (p := ⟨b, off + k * 2, none⟩) hb0).trans c1
        replace c2 := (hW.cell (p := ⟨b, off + k * 2 + 1, none⟩) hb0).trans c2
        go_simp
        first | done | with_reducible rfl
      try simp only [Act.put, List.setIfInBounds_toArray, List.set_cons_zero, List.set_cons_succ]
      refine' T_take (i := 11) (v := _) rfl (by kernel_rfl) (by kernel_rfl) (by kernel_rfl) (by kernel_rfl) (fun _ _ _ h => h) (by kernel_rfl) hS ?_ ?_
      rotate_left 1
      · intro Wv hW
        replace c1 := (hW.cell (p := ⟨b, off + k * 2, none⟩) hb0).trans c1
        replace c2 := (hW.cell (p := ⟨b, off + k * 2 + 1, none⟩) hb0).trans c2
        go_simp
        first | done | with_reducible rfl
      try simp only [Act.put, List.setIfInBounds_toArray, List.set_cons_zero, List.set_cons_succ]
      refine T_ready (rs := [12]) (by kernel_rfl) (by simp) ?_
      refine TReady.cons rfl (fun K hK => ?_) TReady.nil
      try go_simp
      refine hK.out _ _ (fun _ => hS.alloc (Nat.le_trans hwr hS.size) _) (fun hS2 => ?_)
      replace hS := hS2 (by decide)
      clear hS2 hK K
      try simp only [Act.put, List.setIfInBounds_toArray, List.set_cons_zero, List.set_cons_succ]
      refine T_ready (rs := [13]) (by kernel_rfl) (by simp) ?_
      refine TReady.cons rfl (fun K hK => ?_) TReady.nil
      refine step_appG (t := 71) (e := 64) (.inl ⟨rfl, rfl⟩) (.tmp 11) (.tmp 23) rfl rfl w.heap.size wr.drew _ (ball.take k) ⟨lo, hi⟩ rfl rfl HO (by simp; omega) hwr ?_
      intro A9 c9 w2 HO2 HB2
      refine hK.out _ _ (fun _ => below_drew_l HB2.out) (fun hS2 => ?_)
      replace hS := hS2 (by decide)
      clear hK K hS2
      try simp only [Act.put, List.setIfInBounds_toArray, List.set_cons_zero, List.set_cons_succ]
      refine' T_take (i := 14) (v := _) rfl (by kernel_rfl) (by kernel_rfl) (by kernel_rfl) (by kernel_rfl) (fun _ _ _ h => h) (by kernel_rfl) hS ?_ ?_
      rotate_left 1
      · intro Wv hW
        replace c1 := (hW.cell (p := ⟨b, off + k * 2, none⟩) hb0).trans c1
        replace c2 := (hW.cell (p := ⟨b, off + k * 2 + 1, none⟩) hb0).trans c2
        go_simp
        first | done | with_reducible rfl
      try simp only [Act.put, List.setIfInBounds_toArray, List.set_cons_zero, List.set_cons_succ]
      refine T_done (by kernel_rfl) ?_ _
      refine NoPanic.normal ?_
      try go_simp
      go_wp2_with fail
      go_roundw
      case rel => exact ⟨k + 1, by omega, by go_num, by have h := HO2.out; rw [HLT.out] at h; rw [HT.out]; exact h, HB.out.trans (below_drew_l HB2.out)⟩
      case measure => simp [intOf]; omega
    · obtain rfl : k = ball.length := by omega
      rw [List.take_length] at HO ⊢
      go_wp2_with fail
      go_ret
      obtain ⟨h2, h3, h4⟩ := HO.out.parts
      exact ⟨_, _, rfl, ⟨h4, h2, h3⟩, HB.out⟩
end

end Go.Proofs.Ytenpiinkbfancaa.Rk
