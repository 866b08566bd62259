/-
  The reference's Neighbours, Of.
-/
import Derived.Test.YtpekajnjjhibjaaReachM
import Derived.Test.YtpekajnjjhibjaaF2
import Derived.Test.YtpekajnjjhibjaaMoreM
namespace Go.Proofs.Ytpekajnjjhibjaa
open Go.RowKit
set_option linter.unusedSimpArgs false
set_option linter.unusedVariables false

attribute [local go_sem] Oper.semAt_some
theorem nb_parts (r : Rk) (hr : Ok r) {a b : Nat} (ha : a < 10) (hb : b < 10) : nbB a b = if rowP a = rowP b then (((atP a : Int) - (atP b : Int) == 1) || ((atP b : Int) - (atP a : Int) == 1))
    else ((((rowP a : Int) - (rowP b : Int) == 1) || ((rowP b : Int) - (rowP a : Int) == 1)) && ((boardP r a - boardP r b == r.gap) || (boardP r a - boardP r b == -r.gap))) := by
  have hg := hr.gap1
  have h1 : (boardP r a - boardP r b == r.gap) = decide (dP a b = 1) := by rw [far_is, Bool.eq_iff_iff, beq_iff_eq, decide_eq_true_eq]; exact (far_gap hg).1
  have h2 : (boardP r a - boardP r b == -r.gap) = decide (dP a b = -1) := by rw [far_is, Bool.eq_iff_iff, beq_iff_eq, decide_eq_true_eq]; exact (far_gap hg).2
  rw [h1, h2, ← nbZ_is a ha b hb]
  rfl
set_option maxRecDepth 100000 in
set_option maxHeartbeats 8000000 in
theorem neighbours99_c (r : Rk) (A : Option Addr) (c a b : Nat) (w : World) (hr : Ok r) (ha : a < 10) (hb : b < 10) :
    Calls Try.prog 99 #[.agg #[.int .i64 r.rows, .int .i64 r.mid, .int .i64 r.gap, .int .i64 r.reach, .slice A r.links.length c], .int .i64 (a : Int), .int .i64 (b : Int)] w (Ans w (.bool (nbB a b))) := by
  have HB := Lib.hid (Below.refl w.heap.size w)
  have hb : Below w.heap.size w (w.alloc (.cells #[.int .i64 r.rows, .int .i64 r.mid, .int .i64 r.gap, .int .i64 r.reach, .slice A r.links.length c] 24)) := (Below.refl _ _).alloc (Nat.le_refl _) _
  replace HB := Lib.hid (HB.out.trans (hb.mono HB.out.size))
  clear hb
  have k0 : (w.alloc (.cells #[.int .i64 r.rows, .int .i64 r.mid, .int .i64 r.gap, .int .i64 r.reach, .slice A r.links.length c] 24)).cell? ⟨w.heap.size, 0, none⟩ = some (.int .i64 r.rows) := by simp
  have k1 : (w.alloc (.cells #[.int .i64 r.rows, .int .i64 r.mid, .int .i64 r.gap, .int .i64 r.reach, .slice A r.links.length c] 24)).cell? ⟨w.heap.size, 1, none⟩ = some (.int .i64 r.mid) := by simp
  have k2 : (w.alloc (.cells #[.int .i64 r.rows, .int .i64 r.mid, .int .i64 r.gap, .int .i64 r.reach, .slice A r.links.length c] 24)).cell? ⟨w.heap.size, 2, none⟩ = some (.int .i64 r.gap) := by simp
  have k3 : (w.alloc (.cells #[.int .i64 r.rows, .int .i64 r.mid, .int .i64 r.gap, .int .i64 r.reach, .slice A r.links.length c] 24)).cell? ⟨w.heap.size, 3, none⟩ = some (.int .i64 r.reach) := by simp
  have k4 : (w.alloc (.cells #[.int .i64 r.rows, .int .i64 r.mid, .int .i64 r.gap, .int .i64 r.reach, .slice A r.links.length c] 24)).cell? ⟨w.heap.size, 4, none⟩ = some (.slice A r.links.length c) := by simp
  have HNB := Lib.hid (nb_parts r hr ha hb)
  have HPA := Lib.hid (fun W => place79_c a W ha)
  have HPB := Lib.hid (fun W => place79_c b W hb)
  have HBA := Lib.hid (fun W => board80_c r A c a W hr ha)
  have HBB := Lib.hid (fun W => board80_c r A c b W hr hb)
  have hba := board_in hr ha
  have hbb := board_in hr hb
  have hra := (show ∀ p, p < 10 → rowP p < 4 ∧ atP p < 4 from by decide) a ha
  have hrb := (show ∀ p, p < 10 → rowP p < 4 ∧ atP p < 4 from by decide) b hb
  have hg1 := hr.gap1
  have hg8 := hr.gap8
  clear hr
  generalize boardP r a = ba at *
  generalize boardP r b = bb at *
  generalize rowP a = ra at *
  generalize rowP b = rb at *
  generalize atP a = ta at *
  generalize atP b = tb at *
  have hw1 : IntKind.i64.wrap ((ta : Int) - (tb : Int)) = (ta : Int) - (tb : Int) := IntWalk.i64_in _ (by omega)
  have hw2 : IntKind.i64.wrap ((tb : Int) - (ta : Int)) = (tb : Int) - (ta : Int) := IntWalk.i64_in _ (by omega)
  have hw3 : IntKind.i64.wrap ((ra : Int) - (rb : Int)) = (ra : Int) - (rb : Int) := IntWalk.i64_in _ (by omega)
  have hw4 : IntKind.i64.wrap ((rb : Int) - (ra : Int)) = (rb : Int) - (ra : Int) := IntWalk.i64_in _ (by omega)
  have hw5 : IntKind.i64.wrap (ba - bb) = ba - bb := IntWalk.i64_in _ (by omega)
  have hw6 : IntKind.i64.wrap (-r.gap) = -r.gap := IntWalk.i64_in _ (by omega)
  clear hba hbb hra hrb ha hb
  by_cases hrow : ra = rb
  · rw [if_pos hrow] at HNB
    have hri : ((ra : Int) == (rb : Int)) = true := by rw [beq_iff_eq, hrow]
    clear hrow
    cases e1 : ((ta : Int) - (tb : Int) == 1)
    · rw [e1] at HNB
      go_enter Try.func99, Try.ntmps99
      go_wp2_with fail
      generalize (w.alloc (.cells #[.int .i64 r.rows, .int .i64 r.mid, .int .i64 r.gap, .int .i64 r.reach, .slice A r.links.length c] 24)) = x1 at *
      refine (HPA.out _).mono ?_
      rintro e w2 ⟨rfl, rfl⟩
      go_wp2_with fail
      refine (HPB.out _).mono ?_
      rintro e w3 ⟨rfl, rfl⟩
      go_wp2_with fail
      go_ret
      exact ⟨ret_bool (by rw [HNB.out]; rfl), HB.out⟩
    · rw [e1] at HNB
      go_enter Try.func99, Try.ntmps99
      go_wp2_with fail
      generalize (w.alloc (.cells #[.int .i64 r.rows, .int .i64 r.mid, .int .i64 r.gap, .int .i64 r.reach, .slice A r.links.length c] 24)) = x1 at *
      refine (HPA.out _).mono ?_
      rintro e w2 ⟨rfl, rfl⟩
      go_wp2_with fail
      refine (HPB.out _).mono ?_
      rintro e w3 ⟨rfl, rfl⟩
      go_wp2_with fail
      go_ret
      exact ⟨ret_bool (by rw [HNB.out]; rfl), HB.out⟩
  · rw [if_neg hrow] at HNB
    have hri : ((ra : Int) == (rb : Int)) = false := by rw [beq_eq_false_iff_ne]; omega
    clear hrow
    cases e1 : ((ra : Int) - (rb : Int) == 1)
    all_goals rw [e1] at HNB
    · cases e2 : ((rb : Int) - (ra : Int) == 1)
      all_goals rw [e2] at HNB
      · go_enter Try.func99, Try.ntmps99
        go_wp2_with fail
        generalize (w.alloc (.cells #[.int .i64 r.rows, .int .i64 r.mid, .int .i64 r.gap, .int .i64 r.reach, .slice A r.links.length c] 24)) = x1 at *
        refine (HPA.out _).mono ?_
        rintro e w2 ⟨rfl, rfl⟩
        go_wp2_with fail
        refine (HPB.out _).mono ?_
        rintro e w3 ⟨rfl, rfl⟩
        go_upto_region 5 with fail
        refine wp_region_noPanic ?_
        have hS : (fun W' : World => Below x1.heap.size x1 W') x1.drew := (Below.refl _ _).drew
        refine wp_region_any (by kernel_rfl) (wpAny_of_T (S := fun W' : World => Below x1.heap.size x1 W') (m := 8) _ _ _ _ ?_)
        refine' T_take (i := 0) (v := _) rfl (by kernel_rfl) (by kernel_rfl) (by kernel_rfl) (by kernel_rfl) (fun _ _ _ h => h) (by kernel_rfl) hS ?_ ?_
        rotate_left 1
        · intro Wv hW
          replace k0 := cell_of_ans hW k0
          replace k1 := cell_of_ans hW k1
          replace k2 := cell_of_ans hW k2
          replace k3 := cell_of_ans hW k3
          replace k4 := cell_of_ans hW k4
          go_simp
          first | done | with_reducible rfl | omega
        try simp only [Act.put, List.setIfInBounds_toArray, List.set_cons_zero, List.set_cons_succ]
        refine' T_take (i := 1) (v := _) rfl (by kernel_rfl) (by kernel_rfl) (by kernel_rfl) (by kernel_rfl) (fun _ _ _ h => h) (by kernel_rfl) hS ?_ ?_
        rotate_left 1
        · intro Wv hW
          replace k0 := cell_of_ans hW k0
          replace k1 := cell_of_ans hW k1
          replace k2 := cell_of_ans hW k2
          replace k3 := cell_of_ans hW k3
          replace k4 := cell_of_ans hW k4
          go_simp
          first | done | with_reducible rfl | omega
        try simp only [Act.put, List.setIfInBounds_toArray, List.set_cons_zero, List.set_cons_succ]
        refine' T_take (i := 3) (v := _) rfl (by kernel_rfl) (by kernel_rfl) (by kernel_rfl) (by kernel_rfl) (fun _ _ _ h => h) (by kernel_rfl) hS ?_ ?_
        rotate_left 1
        · intro Wv hW
          replace k0 := cell_of_ans hW k0
          replace k1 := cell_of_ans hW k1
          replace k2 := cell_of_ans hW k2
          replace k3 := cell_of_ans hW k3
          replace k4 := cell_of_ans hW k4
          go_simp
          first | done | with_reducible rfl | omega
        try simp only [Act.put, List.setIfInBounds_toArray, List.set_cons_zero, List.set_cons_succ]
        refine' T_take (i := 4) (v := _) rfl (by kernel_rfl) (by kernel_rfl) (by kernel_rfl) (by kernel_rfl) (fun _ _ _ h => h) (by kernel_rfl) hS ?_ ?_
        rotate_left 1
        · intro Wv hW
          replace k0 := cell_of_ans hW k0
          replace k1 := cell_of_ans hW k1
          replace k2 := cell_of_ans hW k2
          replace k3 := cell_of_ans hW k3
          replace k4 := cell_of_ans hW k4
          go_simp
          first | done | with_reducible rfl | omega
        try simp only [Act.put, List.setIfInBounds_toArray, List.set_cons_zero, List.set_cons_succ]
        refine T_ready (rs := [2]) (by kernel_rfl) (by simp) ?_
        refine TReady.cons rfl (fun K hK => ?_) TReady.nil
        try go_simp
        refine (HBA.out _).mono ?_
        rintro e v1 ⟨rfl, hb⟩
        have hS2 : Below x1.heap.size x1 v1 := below_cat hb hS
        try go_simp
        refine hK.out _ _ (fun _ => hS2) (fun _ => ?_)
        clear hK K hS hb
        replace hS := hS2
        clear hS2
        try simp only [Act.put, List.setIfInBounds_toArray, List.set_cons_zero, List.set_cons_succ]
        refine T_ready (rs := [5]) (by kernel_rfl) (by simp) ?_
        refine TReady.cons rfl (fun K hK => ?_) TReady.nil
        try go_simp
        refine (HBB.out _).mono ?_
        rintro e v2 ⟨rfl, hb⟩
        have hS2 : Below x1.heap.size x1 v2 := below_cat hb hS
        try go_simp
        refine hK.out _ _ (fun _ => hS2) (fun _ => ?_)
        clear hK K hS hb
        replace hS := hS2
        clear hS2
        try simp only [Act.put, List.setIfInBounds_toArray, List.set_cons_zero, List.set_cons_succ]
        refine' T_take (i := 6) (v := _) rfl (by kernel_rfl) (by kernel_rfl) (by kernel_rfl) (by kernel_rfl) (fun _ _ _ h => h) (by kernel_rfl) hS ?_ ?_
        rotate_left 1
        · intro Wv hW
          replace k0 := cell_of_ans hW k0
          replace k1 := cell_of_ans hW k1
          replace k2 := cell_of_ans hW k2
          replace k3 := cell_of_ans hW k3
          replace k4 := cell_of_ans hW k4
          go_simp
          first | done | with_reducible rfl | omega
        try simp only [Act.put, List.setIfInBounds_toArray, List.set_cons_zero, List.set_cons_succ]
        refine' T_take (i := 7) (v := _) rfl (by kernel_rfl) (by kernel_rfl) (by kernel_rfl) (by kernel_rfl) (fun _ _ _ h => h) (by kernel_rfl) hS ?_ ?_
        rotate_left 1
        · intro Wv hW
          replace k0 := cell_of_ans hW k0
          replace k1 := cell_of_ans hW k1
          replace k2 := cell_of_ans hW k2
          replace k3 := cell_of_ans hW k3
          replace k4 := cell_of_ans hW k4
          go_simp
          first | done | with_reducible rfl | omega
        try simp only [Act.put, List.setIfInBounds_toArray, List.set_cons_zero, List.set_cons_succ]
        refine T_done (by kernel_rfl) ?_ _
        refine NoPanic.normal ?_
        try go_simp
        have hb := hS
        clear hS
        replace k0 := cell_of_ans hb k0
        replace k1 := cell_of_ans hb k1
        replace k2 := cell_of_ans hb k2
        replace k3 := cell_of_ans hb k3
        replace k4 := cell_of_ans hb k4
        replace HB := Lib.hid (HB.out.trans (hb.mono HB.out.size))
        clear hb
        go_wp2_with fail
        go_ret
        exact ⟨ret_bool (by rw [HNB.out]; rfl), HB.out⟩
      · cases e3 : (ba - bb == r.gap)
        all_goals rw [e3] at HNB
        · go_enter Try.func99, Try.ntmps99
          go_wp2_with fail
          generalize (w.alloc (.cells #[.int .i64 r.rows, .int .i64 r.mid, .int .i64 r.gap, .int .i64 r.reach, .slice A r.links.length c] 24)) = x1 at *
          refine (HPA.out _).mono ?_
          rintro e w2 ⟨rfl, rfl⟩
          go_wp2_with fail
          refine (HPB.out _).mono ?_
          rintro e w3 ⟨rfl, rfl⟩
          go_upto_region 5 with fail
          refine wp_region_noPanic ?_
          have hS : (fun W' : World => Below x1.heap.size x1 W') x1.drew := (Below.refl _ _).drew
          refine wp_region_any (by kernel_rfl) (wpAny_of_T (S := fun W' : World => Below x1.heap.size x1 W') (m := 8) _ _ _ _ ?_)
          refine' T_take (i := 0) (v := _) rfl (by kernel_rfl) (by kernel_rfl) (by kernel_rfl) (by kernel_rfl) (fun _ _ _ h => h) (by kernel_rfl) hS ?_ ?_
          rotate_left 1
          · intro Wv hW
            replace k0 := cell_of_ans hW k0
            replace k1 := cell_of_ans hW k1
            replace k2 := cell_of_ans hW k2
            replace k3 := cell_of_ans hW k3
            replace k4 := cell_of_ans hW k4
            go_simp
            first | done | with_reducible rfl | omega
          try simp only [Act.put, List.setIfInBounds_toArray, List.set_cons_zero, List.set_cons_succ]
          refine' T_take (i := 1) (v := _) rfl (by kernel_rfl) (by kernel_rfl) (by kernel_rfl) (by kernel_rfl) (fun _ _ _ h => h) (by kernel_rfl) hS ?_ ?_
          rotate_left 1
          · intro Wv hW
            replace k0 := cell_of_ans hW k0
            replace k1 := cell_of_ans hW k1
            replace k2 := cell_of_ans hW k2
            replace k3 := cell_of_ans hW k3
            replace k4 := cell_of_ans hW k4
            go_simp
            first | done | with_reducible rfl | omega
          try simp only [Act.put, List.setIfInBounds_toArray, List.set_cons_zero, List.set_cons_succ]
          refine' T_take (i := 3) (v := _) rfl (by kernel_rfl) (by kernel_rfl) (by kernel_rfl) (by kernel_rfl) (fun _ _ _ h => h) (by kernel_rfl) hS ?_ ?_
          rotate_left 1
          · intro Wv hW
            replace k0 := cell_of_ans hW k0
            replace k1 := cell_of_ans hW k1
            replace k2 := cell_of_ans hW k2
            replace k3 := cell_of_ans hW k3
            replace k4 := cell_of_ans hW k4
            go_simp
            first | done | with_reducible rfl | omega
          try simp only [Act.put, List.setIfInBounds_toArray, List.set_cons_zero, List.set_cons_succ]
          refine' T_take (i := 4) (v := _) rfl (by kernel_rfl) (by kernel_rfl) (by kernel_rfl) (by kernel_rfl) (fun _ _ _ h => h) (by kernel_rfl) hS ?_ ?_
          rotate_left 1
          · intro Wv hW
            replace k0 := cell_of_ans hW k0
            replace k1 := cell_of_ans hW k1
            replace k2 := cell_of_ans hW k2
            replace k3 := cell_of_ans hW k3
            replace k4 := cell_of_ans hW k4
            go_simp
            first | done | with_reducible rfl | omega
          try simp only [Act.put, List.setIfInBounds_toArray, List.set_cons_zero, List.set_cons_succ]
          refine T_ready (rs := [2]) (by kernel_rfl) (by simp) ?_
          refine TReady.cons rfl (fun K hK => ?_) TReady.nil
          try go_simp
          refine (HBA.out _).mono ?_
          rintro e v1 ⟨rfl, hb⟩
          have hS2 : Below x1.heap.size x1 v1 := below_cat hb hS
          try go_simp
          refine hK.out _ _ (fun _ => hS2) (fun _ => ?_)
          clear hK K hS hb
          replace hS := hS2
          clear hS2
          try simp only [Act.put, List.setIfInBounds_toArray, List.set_cons_zero, List.set_cons_succ]
          refine T_ready (rs := [5]) (by kernel_rfl) (by simp) ?_
          refine TReady.cons rfl (fun K hK => ?_) TReady.nil
          try go_simp
          refine (HBB.out _).mono ?_
          rintro e v2 ⟨rfl, hb⟩
          have hS2 : Below x1.heap.size x1 v2 := below_cat hb hS
          try go_simp
          refine hK.out _ _ (fun _ => hS2) (fun _ => ?_)
          clear hK K hS hb
          replace hS := hS2
          clear hS2
          try simp only [Act.put, List.setIfInBounds_toArray, List.set_cons_zero, List.set_cons_succ]
          refine' T_take (i := 6) (v := _) rfl (by kernel_rfl) (by kernel_rfl) (by kernel_rfl) (by kernel_rfl) (fun _ _ _ h => h) (by kernel_rfl) hS ?_ ?_
          rotate_left 1
          · intro Wv hW
            replace k0 := cell_of_ans hW k0
            replace k1 := cell_of_ans hW k1
            replace k2 := cell_of_ans hW k2
            replace k3 := cell_of_ans hW k3
            replace k4 := cell_of_ans hW k4
            go_simp
            first | done | with_reducible rfl | omega
          try simp only [Act.put, List.setIfInBounds_toArray, List.set_cons_zero, List.set_cons_succ]
          refine' T_take (i := 7) (v := _) rfl (by kernel_rfl) (by kernel_rfl) (by kernel_rfl) (by kernel_rfl) (fun _ _ _ h => h) (by kernel_rfl) hS ?_ ?_
          rotate_left 1
          · intro Wv hW
            replace k0 := cell_of_ans hW k0
            replace k1 := cell_of_ans hW k1
            replace k2 := cell_of_ans hW k2
            replace k3 := cell_of_ans hW k3
            replace k4 := cell_of_ans hW k4
            go_simp
            first | done | with_reducible rfl | omega
          try simp only [Act.put, List.setIfInBounds_toArray, List.set_cons_zero, List.set_cons_succ]
          refine T_done (by kernel_rfl) ?_ _
          refine NoPanic.normal ?_
          try go_simp
          have hb := hS
          clear hS
          replace k0 := cell_of_ans hb k0
          replace k1 := cell_of_ans hb k1
          replace k2 := cell_of_ans hb k2
          replace k3 := cell_of_ans hb k3
          replace k4 := cell_of_ans hb k4
          replace HB := Lib.hid (HB.out.trans (hb.mono HB.out.size))
          clear hb
          go_wp2_with fail
          go_ret
          exact ⟨ret_bool (by rw [HNB.out]; rfl), HB.out⟩
        · go_enter Try.func99, Try.ntmps99
          go_wp2_with fail
          generalize (w.alloc (.cells #[.int .i64 r.rows, .int .i64 r.mid, .int .i64 r.gap, .int .i64 r.reach, .slice A r.links.length c] 24)) = x1 at *
          refine (HPA.out _).mono ?_
          rintro e w2 ⟨rfl, rfl⟩
          go_wp2_with fail
          refine (HPB.out _).mono ?_
          rintro e w3 ⟨rfl, rfl⟩
          go_upto_region 5 with fail
          refine wp_region_noPanic ?_
          have hS : (fun W' : World => Below x1.heap.size x1 W') x1.drew := (Below.refl _ _).drew
          refine wp_region_any (by kernel_rfl) (wpAny_of_T (S := fun W' : World => Below x1.heap.size x1 W') (m := 8) _ _ _ _ ?_)
          refine' T_take (i := 0) (v := _) rfl (by kernel_rfl) (by kernel_rfl) (by kernel_rfl) (by kernel_rfl) (fun _ _ _ h => h) (by kernel_rfl) hS ?_ ?_
          rotate_left 1
          · intro Wv hW
            replace k0 := cell_of_ans hW k0
            replace k1 := cell_of_ans hW k1
            replace k2 := cell_of_ans hW k2
            replace k3 := cell_of_ans hW k3
            replace k4 := cell_of_ans hW k4
            go_simp
            first | done | with_reducible rfl | omega
          try simp only [Act.put, List.setIfInBounds_toArray, List.set_cons_zero, List.set_cons_succ]
          refine' T_take (i := 1) (v := _) rfl (by kernel_rfl) (by kernel_rfl) (by kernel_rfl) (by kernel_rfl) (fun _ _ _ h => h) (by kernel_rfl) hS ?_ ?_
          rotate_left 1
          · intro Wv hW
            replace k0 := cell_of_ans hW k0
            replace k1 := cell_of_ans hW k1
            replace k2 := cell_of_ans hW k2
            replace k3 := cell_of_ans hW k3
            replace k4 := cell_of_ans hW k4
            go_simp
            first | done | with_reducible rfl | omega
          try simp only [Act.put, List.setIfInBounds_toArray, List.set_cons_zero, List.set_cons_succ]
          refine' T_take (i := 3) (v := _) rfl (by kernel_rfl) (by kernel_rfl) (by kernel_rfl) (by kernel_rfl) (fun _ _ _ h => h) (by kernel_rfl) hS ?_ ?_
          rotate_left 1
          · intro Wv hW
            replace k0 := cell_of_ans hW k0
            replace k1 := cell_of_ans hW k1
            replace k2 := cell_of_ans hW k2
            replace k3 := cell_of_ans hW k3
            replace k4 := cell_of_ans hW k4
            go_simp
            first | done | with_reducible rfl | omega
          try simp only [Act.put, List.setIfInBounds_toArray, List.set_cons_zero, List.set_cons_succ]
          refine' T_take (i := 4) (v := _) rfl (by kernel_rfl) (by kernel_rfl) (by kernel_rfl) (by kernel_rfl) (fun _ _ _ h => h) (by kernel_rfl) hS ?_ ?_
          rotate_left 1
          · intro Wv hW
            replace k0 := cell_of_ans hW k0
            replace k1 := cell_of_ans hW k1
            replace k2 := cell_of_ans hW k2
            replace k3 := cell_of_ans hW k3
            replace k4 := cell_of_ans hW k4
            go_simp
            first | done | with_reducible rfl | omega
          try simp only [Act.put, List.setIfInBounds_toArray, List.set_cons_zero, List.set_cons_succ]
          refine T_ready (rs := [2]) (by kernel_rfl) (by simp) ?_
          refine TReady.cons rfl (fun K hK => ?_) TReady.nil
          try go_simp
          refine (HBA.out _).mono ?_
          rintro e v1 ⟨rfl, hb⟩
          have hS2 : Below x1.heap.size x1 v1 := below_cat hb hS
          try go_simp
          refine hK.out _ _ (fun _ => hS2) (fun _ => ?_)
          clear hK K hS hb
          replace hS := hS2
          clear hS2
          try simp only [Act.put, List.setIfInBounds_toArray, List.set_cons_zero, List.set_cons_succ]
          refine T_ready (rs := [5]) (by kernel_rfl) (by simp) ?_
          refine TReady.cons rfl (fun K hK => ?_) TReady.nil
          try go_simp
          refine (HBB.out _).mono ?_
          rintro e v2 ⟨rfl, hb⟩
          have hS2 : Below x1.heap.size x1 v2 := below_cat hb hS
          try go_simp
          refine hK.out _ _ (fun _ => hS2) (fun _ => ?_)
          clear hK K hS hb
          replace hS := hS2
          clear hS2
          try simp only [Act.put, List.setIfInBounds_toArray, List.set_cons_zero, List.set_cons_succ]
          refine' T_take (i := 6) (v := _) rfl (by kernel_rfl) (by kernel_rfl) (by kernel_rfl) (by kernel_rfl) (fun _ _ _ h => h) (by kernel_rfl) hS ?_ ?_
          rotate_left 1
          · intro Wv hW
            replace k0 := cell_of_ans hW k0
            replace k1 := cell_of_ans hW k1
            replace k2 := cell_of_ans hW k2
            replace k3 := cell_of_ans hW k3
            replace k4 := cell_of_ans hW k4
            go_simp
            first | done | with_reducible rfl | omega
          try simp only [Act.put, List.setIfInBounds_toArray, List.set_cons_zero, List.set_cons_succ]
          refine' T_take (i := 7) (v := _) rfl (by kernel_rfl) (by kernel_rfl) (by kernel_rfl) (by kernel_rfl) (fun _ _ _ h => h) (by kernel_rfl) hS ?_ ?_
          rotate_left 1
          · intro Wv hW
            replace k0 := cell_of_ans hW k0
            replace k1 := cell_of_ans hW k1
            replace k2 := cell_of_ans hW k2
            replace k3 := cell_of_ans hW k3
            replace k4 := cell_of_ans hW k4
            go_simp
            first | done | with_reducible rfl | omega
          try simp only [Act.put, List.setIfInBounds_toArray, List.set_cons_zero, List.set_cons_succ]
          refine T_done (by kernel_rfl) ?_ _
          refine NoPanic.normal ?_
          try go_simp
          have hb := hS
          clear hS
          replace k0 := cell_of_ans hb k0
          replace k1 := cell_of_ans hb k1
          replace k2 := cell_of_ans hb k2
          replace k3 := cell_of_ans hb k3
          replace k4 := cell_of_ans hb k4
          replace HB := Lib.hid (HB.out.trans (hb.mono HB.out.size))
          clear hb
          go_wp2_with fail
          go_ret
          exact ⟨ret_bool (by rw [HNB.out]; rfl), HB.out⟩
    · cases e3 : (ba - bb == r.gap)
      all_goals rw [e3] at HNB
      · go_enter Try.func99, Try.ntmps99
        go_wp2_with fail
        generalize (w.alloc (.cells #[.int .i64 r.rows, .int .i64 r.mid, .int .i64 r.gap, .int .i64 r.reach, .slice A r.links.length c] 24)) = x1 at *
        refine (HPA.out _).mono ?_
        rintro e w2 ⟨rfl, rfl⟩
        go_wp2_with fail
        refine (HPB.out _).mono ?_
        rintro e w3 ⟨rfl, rfl⟩
        go_upto_region 5 with fail
        refine wp_region_noPanic ?_
        have hS : (fun W' : World => Below x1.heap.size x1 W') x1.drew := (Below.refl _ _).drew
        refine wp_region_any (by kernel_rfl) (wpAny_of_T (S := fun W' : World => Below x1.heap.size x1 W') (m := 8) _ _ _ _ ?_)
        refine' T_take (i := 0) (v := _) rfl (by kernel_rfl) (by kernel_rfl) (by kernel_rfl) (by kernel_rfl) (fun _ _ _ h => h) (by kernel_rfl) hS ?_ ?_
        rotate_left 1
        · intro Wv hW
          replace k0 := cell_of_ans hW k0
          replace k1 := cell_of_ans hW k1
          replace k2 := cell_of_ans hW k2
          replace k3 := cell_of_ans hW k3
          replace k4 := cell_of_ans hW k4
          go_simp
          first | done | with_reducible rfl | omega
        try simp only [Act.put, List.setIfInBounds_toArray, List.set_cons_zero, List.set_cons_succ]
        refine' T_take (i := 1) (v := _) rfl (by kernel_rfl) (by kernel_rfl) (by kernel_rfl) (by kernel_rfl) (fun _ _ _ h => h) (by kernel_rfl) hS ?_ ?_
        rotate_left 1
        · intro Wv hW
          replace k0 := cell_of_ans hW k0
          replace k1 := cell_of_ans hW k1
          replace k2 := cell_of_ans hW k2
          replace k3 := cell_of_ans hW k3
          replace k4 := cell_of_ans hW k4
          go_simp
          first | done | with_reducible rfl | omega
        try simp only [Act.put, List.setIfInBounds_toArray, List.set_cons_zero, List.set_cons_succ]
        refine' T_take (i := 3) (v := _) rfl (by kernel_rfl) (by kernel_rfl) (by kernel_rfl) (by kernel_rfl) (fun _ _ _ h => h) (by kernel_rfl) hS ?_ ?_
        rotate_left 1
        · intro Wv hW
          replace k0 := cell_of_ans hW k0
          replace k1 := cell_of_ans hW k1
          replace k2 := cell_of_ans hW k2
          replace k3 := cell_of_ans hW k3
          replace k4 := cell_of_ans hW k4
          go_simp
          first | done | with_reducible rfl | omega
        try simp only [Act.put, List.setIfInBounds_toArray, List.set_cons_zero, List.set_cons_succ]
        refine' T_take (i := 4) (v := _) rfl (by kernel_rfl) (by kernel_rfl) (by kernel_rfl) (by kernel_rfl) (fun _ _ _ h => h) (by kernel_rfl) hS ?_ ?_
        rotate_left 1
        · intro Wv hW
          replace k0 := cell_of_ans hW k0
          replace k1 := cell_of_ans hW k1
          replace k2 := cell_of_ans hW k2
          replace k3 := cell_of_ans hW k3
          replace k4 := cell_of_ans hW k4
          go_simp
          first | done | with_reducible rfl | omega
        try simp only [Act.put, List.setIfInBounds_toArray, List.set_cons_zero, List.set_cons_succ]
        refine T_ready (rs := [2]) (by kernel_rfl) (by simp) ?_
        refine TReady.cons rfl (fun K hK => ?_) TReady.nil
        try go_simp
        refine (HBA.out _).mono ?_
        rintro e v1 ⟨rfl, hb⟩
        have hS2 : Below x1.heap.size x1 v1 := below_cat hb hS
        try go_simp
        refine hK.out _ _ (fun _ => hS2) (fun _ => ?_)
        clear hK K hS hb
        replace hS := hS2
        clear hS2
        try simp only [Act.put, List.setIfInBounds_toArray, List.set_cons_zero, List.set_cons_succ]
        refine T_ready (rs := [5]) (by kernel_rfl) (by simp) ?_
        refine TReady.cons rfl (fun K hK => ?_) TReady.nil
        try go_simp
        refine (HBB.out _).mono ?_
        rintro e v2 ⟨rfl, hb⟩
        have hS2 : Below x1.heap.size x1 v2 := below_cat hb hS
        try go_simp
        refine hK.out _ _ (fun _ => hS2) (fun _ => ?_)
        clear hK K hS hb
        replace hS := hS2
        clear hS2
        try simp only [Act.put, List.setIfInBounds_toArray, List.set_cons_zero, List.set_cons_succ]
        refine' T_take (i := 6) (v := _) rfl (by kernel_rfl) (by kernel_rfl) (by kernel_rfl) (by kernel_rfl) (fun _ _ _ h => h) (by kernel_rfl) hS ?_ ?_
        rotate_left 1
        · intro Wv hW
          replace k0 := cell_of_ans hW k0
          replace k1 := cell_of_ans hW k1
          replace k2 := cell_of_ans hW k2
          replace k3 := cell_of_ans hW k3
          replace k4 := cell_of_ans hW k4
          go_simp
          first | done | with_reducible rfl | omega
        try simp only [Act.put, List.setIfInBounds_toArray, List.set_cons_zero, List.set_cons_succ]
        refine' T_take (i := 7) (v := _) rfl (by kernel_rfl) (by kernel_rfl) (by kernel_rfl) (by kernel_rfl) (fun _ _ _ h => h) (by kernel_rfl) hS ?_ ?_
        rotate_left 1
        · intro Wv hW
          replace k0 := cell_of_ans hW k0
          replace k1 := cell_of_ans hW k1
          replace k2 := cell_of_ans hW k2
          replace k3 := cell_of_ans hW k3
          replace k4 := cell_of_ans hW k4
          go_simp
          first | done | with_reducible rfl | omega
        try simp only [Act.put, List.setIfInBounds_toArray, List.set_cons_zero, List.set_cons_succ]
        refine T_done (by kernel_rfl) ?_ _
        refine NoPanic.normal ?_
        try go_simp
        have hb := hS
        clear hS
        replace k0 := cell_of_ans hb k0
        replace k1 := cell_of_ans hb k1
        replace k2 := cell_of_ans hb k2
        replace k3 := cell_of_ans hb k3
        replace k4 := cell_of_ans hb k4
        replace HB := Lib.hid (HB.out.trans (hb.mono HB.out.size))
        clear hb
        go_wp2_with fail
        go_ret
        exact ⟨ret_bool (by rw [HNB.out]; rfl), HB.out⟩
      · go_enter Try.func99, Try.ntmps99
        go_wp2_with fail
        generalize (w.alloc (.cells #[.int .i64 r.rows, .int .i64 r.mid, .int .i64 r.gap, .int .i64 r.reach, .slice A r.links.length c] 24)) = x1 at *
        refine (HPA.out _).mono ?_
        rintro e w2 ⟨rfl, rfl⟩
        go_wp2_with fail
        refine (HPB.out _).mono ?_
        rintro e w3 ⟨rfl, rfl⟩
        go_upto_region 5 with fail
        refine wp_region_noPanic ?_
        have hS : (fun W' : World => Below x1.heap.size x1 W') x1.drew := (Below.refl _ _).drew
        refine wp_region_any (by kernel_rfl) (wpAny_of_T (S := fun W' : World => Below x1.heap.size x1 W') (m := 8) _ _ _ _ ?_)
        refine' T_take (i := 0) (v := _) rfl (by kernel_rfl) (by kernel_rfl) (by kernel_rfl) (by kernel_rfl) (fun _ _ _ h => h) (by kernel_rfl) hS ?_ ?_
        rotate_left 1
        · intro Wv hW
          replace k0 := cell_of_ans hW k0
          replace k1 := cell_of_ans hW k1
          replace k2 := cell_of_ans hW k2
          replace k3 := cell_of_ans hW k3
          replace k4 := cell_of_ans hW k4
          go_simp
          first | done | with_reducible rfl | omega
        try simp only [Act.put, List.setIfInBounds_toArray, List.set_cons_zero, List.set_cons_succ]
        refine' T_take (i := 1) (v := _) rfl (by kernel_rfl) (by kernel_rfl) (by kernel_rfl) (by kernel_rfl) (fun _ _ _ h => h) (by kernel_rfl) hS ?_ ?_
        rotate_left 1
        · intro Wv hW
          replace k0 := cell_of_ans hW k0
          replace k1 := cell_of_ans hW k1
          replace k2 := cell_of_ans hW k2
          replace k3 := cell_of_ans hW k3
          replace k4 := cell_of_ans hW k4
          go_simp
          first | done | with_reducible rfl | omega
        try simp only [Act.put, List.setIfInBounds_toArray, List.set_cons_zero, List.set_cons_succ]
        refine' T_take (i := 3) (v := _) rfl (by kernel_rfl) (by kernel_rfl) (by kernel_rfl) (by kernel_rfl) (fun _ _ _ h => h) (by kernel_rfl) hS ?_ ?_
        rotate_left 1
        · intro Wv hW
          replace k0 := cell_of_ans hW k0
          replace k1 := cell_of_ans hW k1
          replace k2 := cell_of_ans hW k2
          replace k3 := cell_of_ans hW k3
          replace k4 := cell_of_ans hW k4
          go_simp
          first | done | with_reducible rfl | omega
        try simp only [Act.put, List.setIfInBounds_toArray, List.set_cons_zero, List.set_cons_succ]
        refine' T_take (i := 4) (v := _) rfl (by kernel_rfl) (by kernel_rfl) (by kernel_rfl) (by kernel_rfl) (fun _ _ _ h => h) (by kernel_rfl) hS ?_ ?_
        rotate_left 1
        · intro Wv hW
          replace k0 := cell_of_ans hW k0
          replace k1 := cell_of_ans hW k1
          replace k2 := cell_of_ans hW k2
          replace k3 := cell_of_ans hW k3
          replace k4 := cell_of_ans hW k4
          go_simp
          first | done | with_reducible rfl | omega
        try simp only [Act.put, List.setIfInBounds_toArray, List.set_cons_zero, List.set_cons_succ]
        refine T_ready (rs := [2]) (by kernel_rfl) (by simp) ?_
        refine TReady.cons rfl (fun K hK => ?_) TReady.nil
        try go_simp
        refine (HBA.out _).mono ?_
        rintro e v1 ⟨rfl, hb⟩
        have hS2 : Below x1.heap.size x1 v1 := below_cat hb hS
        try go_simp
        refine hK.out _ _ (fun _ => hS2) (fun _ => ?_)
        clear hK K hS hb
        replace hS := hS2
        clear hS2
        try simp only [Act.put, List.setIfInBounds_toArray, List.set_cons_zero, List.set_cons_succ]
        refine T_ready (rs := [5]) (by kernel_rfl) (by simp) ?_
        refine TReady.cons rfl (fun K hK => ?_) TReady.nil
        try go_simp
        refine (HBB.out _).mono ?_
        rintro e v2 ⟨rfl, hb⟩
        have hS2 : Below x1.heap.size x1 v2 := below_cat hb hS
        try go_simp
        refine hK.out _ _ (fun _ => hS2) (fun _ => ?_)
        clear hK K hS hb
        replace hS := hS2
        clear hS2
        try simp only [Act.put, List.setIfInBounds_toArray, List.set_cons_zero, List.set_cons_succ]
        refine' T_take (i := 6) (v := _) rfl (by kernel_rfl) (by kernel_rfl) (by kernel_rfl) (by kernel_rfl) (fun _ _ _ h => h) (by kernel_rfl) hS ?_ ?_
        rotate_left 1
        · intro Wv hW
          replace k0 := cell_of_ans hW k0
          replace k1 := cell_of_ans hW k1
          replace k2 := cell_of_ans hW k2
          replace k3 := cell_of_ans hW k3
          replace k4 := cell_of_ans hW k4
          go_simp
          first | done | with_reducible rfl | omega
        try simp only [Act.put, List.setIfInBounds_toArray, List.set_cons_zero, List.set_cons_succ]
        refine' T_take (i := 7) (v := _) rfl (by kernel_rfl) (by kernel_rfl) (by kernel_rfl) (by kernel_rfl) (fun _ _ _ h => h) (by kernel_rfl) hS ?_ ?_
        rotate_left 1
        · intro Wv hW
          replace k0 := cell_of_ans hW k0
          replace k1 := cell_of_ans hW k1
          replace k2 := cell_of_ans hW k2
          replace k3 := cell_of_ans hW k3
          replace k4 := cell_of_ans hW k4
          go_simp
          first | done | with_reducible rfl | omega
        try simp only [Act.put, List.setIfInBounds_toArray, List.set_cons_zero, List.set_cons_succ]
        refine T_done (by kernel_rfl) ?_ _
        refine NoPanic.normal ?_
        try go_simp
        have hb := hS
        clear hS
        replace k0 := cell_of_ans hb k0
        replace k1 := cell_of_ans hb k1
        replace k2 := cell_of_ans hb k2
        replace k3 := cell_of_ans hb k3
        replace k4 := cell_of_ans hb k4
        replace HB := Lib.hid (HB.out.trans (hb.mono HB.out.size))
        clear hb
        go_wp2_with fail
        go_ret
        exact ⟨ret_bool (by rw [HNB.out]; rfl), HB.out⟩
/-- The pins of bits, among the first k. -/
def ofT (b : Nat) : Nat → List Int
  | 0 => []
  | k + 1 => if b.testBit k then ofT b k ++ [(k : Int)] else ofT b k
theorem ofT_len (b : Nat) : ∀ k, (ofT b k).length ≤ k
  | 0 => Nat.le_refl _
  | k + 1 => by
    have := ofT_len b k
    rw [ofT]; split
    · rw [List.length_append]; exact Nat.succ_le_succ this
    · omega
theorem ofT_is (b : Nat) : ∀ k, ofT b k = natsI ((List.range k).filter b.testBit)
  | 0 => rfl
  | k + 1 => by
    rw [ofT, ofT_is b k, List.range_succ, List.filter_append]
    cases e : b.testBit k
    · simp [e, natsI]
    · simp [e, natsI]
theorem ofT_list {b n : Nat} (hn : n ≤ 10) (hb : b < 2 ^ n) : ofT b n = natsI (listS b) := by
  rw [ofT_is]
  refine congrArg natsI (rising_ext (List.Pairwise.filter _ List.pairwise_lt_range) (rising_listS b) fun p => ?_)
  rw [List.mem_filter, List.mem_range, mem_listS]
  exact ⟨fun h => ⟨by omega, h.2⟩, fun h => ⟨bit_lt hb h.2, h.2⟩⟩
set_option maxRecDepth 100000 in
set_option maxHeartbeats 8000000 in
theorem of42_c (r : Rk) (A : Option Addr) (c bi : Nat) (w : World) (hr : Ok r) (hbi : bi ≤ 1024) :
    Calls Try.prog 42 #[.agg #[.int .i64 r.rows, .int .i64 r.mid, .int .i64 r.gap, .int .i64 r.reach, .slice A r.links.length c], .int .i64 (bi : Int)] w (NewO w (ofT bi (pn r.rows))) := by
  have HB := Lib.hid (Below.refl w.heap.size w)
  have hb : Below w.heap.size w (w.alloc (.cells #[.int .i64 r.rows, .int .i64 r.mid, .int .i64 r.gap, .int .i64 r.reach, .slice A r.links.length c] 24)) := (Below.refl _ _).alloc (Nat.le_refl _) _
  replace HB := Lib.hid (HB.out.trans (hb.mono HB.out.size))
  clear hb
  have k0 : (w.alloc (.cells #[.int .i64 r.rows, .int .i64 r.mid, .int .i64 r.gap, .int .i64 r.reach, .slice A r.links.length c] 24)).cell? ⟨w.heap.size, 0, none⟩ = some (.int .i64 r.rows) := by simp
  have k1 : (w.alloc (.cells #[.int .i64 r.rows, .int .i64 r.mid, .int .i64 r.gap, .int .i64 r.reach, .slice A r.links.length c] 24)).cell? ⟨w.heap.size, 1, none⟩ = some (.int .i64 r.mid) := by simp
  have k2 : (w.alloc (.cells #[.int .i64 r.rows, .int .i64 r.mid, .int .i64 r.gap, .int .i64 r.reach, .slice A r.links.length c] 24)).cell? ⟨w.heap.size, 2, none⟩ = some (.int .i64 r.gap) := by simp
  have k3 : (w.alloc (.cells #[.int .i64 r.rows, .int .i64 r.mid, .int .i64 r.gap, .int .i64 r.reach, .slice A r.links.length c] 24)).cell? ⟨w.heap.size, 3, none⟩ = some (.int .i64 r.reach) := by simp
  have k4 : (w.alloc (.cells #[.int .i64 r.rows, .int .i64 r.mid, .int .i64 r.gap, .int .i64 r.reach, .slice A r.links.length c] 24)).cell? ⟨w.heap.size, 4, none⟩ = some (.slice A r.links.length c) := by simp
  have hpn := pn_le hr.rows1 hr.rows4
  have HPI := Lib.hid (fun W => pins40_c r.rows r.mid r.gap r.reach A r.links.length c W hr.rows1 hr.rows4)
  clear hr
  obtain ⟨n, hn⟩ : ∃ n, n = pn r.rows := ⟨_, rfl⟩
  rw [← hn] at hpn HPI
  have HN := Lib.hid hn
  clear hn
  go_enter Try.func42, Try.ntmps42
  go_wp2_with fail
  generalize (w.alloc (.cells #[.int .i64 r.rows, .int .i64 r.mid, .int .i64 r.gap, .int .i64 r.reach, .slice A r.links.length c] 24)) = x1 at *
  go_loopw [5, 6] (fun o i wr => ∃ k : Nat, k ≤ n ∧ i = .int .i64 k ∧ OwnI x1.heap.size wr o (ofT bi k) ∧ Below x1.heap.size x1 wr) (fun _ i _ => n - (intOf i).toNat)
  case atStart => exact ⟨0, by omega, rfl, OwnI.nil _ _, Below.refl _ _⟩
  case round =>
    obtain ⟨k, hk, rfl, ho, hb⟩ := hrel
    have HO := Lib.hid ho
    have HBr := Lib.hid hb
    obtain ⟨Ao, co, rfl⟩ := ho.form
    have hwr : x1.heap.size ≤ wr.heap.size := hb.size
    clear ho
    replace k0 := cell_of_ans hb k0
    replace k1 := cell_of_ans hb k1
    replace k2 := cell_of_ans hb k2
    replace k3 := cell_of_ans hb k3
    replace k4 := cell_of_ans hb k4
    clear hb
    go_wp2_with fail
    refine (HPI.out _).mono ?_
    rintro e w2 ⟨rfl, hb⟩
    replace HO := Lib.hid (HO.out.kept hb)
    replace HBr := Lib.hid (HBr.out.trans (hb.mono hwr))
    replace hwr : x1.heap.size ≤ w2.heap.size := Nat.le_trans hwr hb.size
    clear hb
    by_cases h1 : k < n
    · have hki : (k : Int) < (n : Int) := by omega
      have hbt := bit_test bi k
      have hfk := ofT_len bi k
      have hb16 : (bi : Int) / 2 ^ k ≤ 1024 := by
        have : (bi : Int) / 2 ^ k = ((bi / 2 ^ k : Nat) : Int) := by simp
        rw [this]
        have := Nat.div_le_self bi (2 ^ k)
        omega
      have HT : Hid (ofT bi (k + 1) = if bi.testBit k then ofT bi k ++ [(k : Int)] else ofT bi k) := rfl
      clear k0 k1 k2 k3 k4
      generalize ofT bi k = os at *
      cases e1 : bi.testBit k
      · rw [e1] at HT hbt
        go_wp2_with fail
        go_roundw
        case rel => exact ⟨k + 1, by omega, by go_num, by rw [HT.out]; exact HO.out, HBr.out⟩
        case measure => simp [intOf]; omega
      · rw [e1] at HT hbt
        go_wp2_with (at_builtin; refine wpList_app_int (.tmp 19) (.tmp 21) rfl rfl x1.heap.size _ _ os (k : Int) rfl rfl HO (by omega) hwr ?_; intro A2 c2 wn HO2 HB2)
        go_roundw
        case rel => exact ⟨k + 1, by omega, by go_num, by rw [HT.out]; exact HO2.out, HBr.out.trans HB2.out⟩
        case measure => simp [intOf]; omega
    · obtain rfl : k = n := by omega
      have hki : ¬ (k : Int) < (k : Int) := by omega
      go_wp2_with fail
      go_ret
      rw [← HN.out]
      exact ⟨Ao, co, rfl, ownsRow_base HO.out HB.out.size, HB.out.trans (HBr.out.mono HB.out.size)⟩
end Go.Proofs.Ytpekajnjjhibjaa
