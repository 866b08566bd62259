/-
  Points passed on: the recursive closure of shift.
-/
import Derived.Test.YtjokbffdepcpkaaPassM
import Derived.Deep.QuietTactic
import Derived.BigQuiet
namespace Go.Proofs.Ytjokbffdepcpkaa
open Go.RowKit
set_option linter.unusedSimpArgs false
set_option linter.unusedVariables false

attribute [local go_sem] Oper.semAt_some
set_option maxRecDepth 100000 in
set_option maxHeartbeats 16000000 in
theorem pass_succ {k : KR} (hk : k.Ok) {b0 f : Nat} (ih : PassC k b0 f) : PassC k b0 (f + 1) := by
  intro w t s h ht htm hsn hfr hrc hrg hhv
  have HK := Lib.hid hk
  have HRG := Lib.hid hrg
  have HHV := Lib.hid hhv
  have HRES : Hid (k.R.passF (f + 1) t s = k.R.loopF (k.R.passF f) k.gs.length 0 t (Rc.mark s t)) := rfl
  have hti : (t : Int) < 6 := by omega
  have tmt : ((t : Int) == (k.tm : Int)) = false := by simp; omega
  obtain ⟨z0, zf⟩ := h.sn.cell (p := t) ht
  have h1 := h.setS hk t
  have HFE0 : Hid (Rc.free (Rc.mark s t).sn 6 ≤ f) := by
    have := Rc.free_mark (a := s.sn) hsn 6 ht
    show Rc.free (updB s.sn t true) 6 ≤ f
    omega
  have HP1 := Lib.hid h1
  have hn20 := hk.n20
  have hoc := hk.oc
  have hgc := hk.gc
  have htm6 := hk.tm6
  clear h h1 hsn hfr hrg hhv hk
  go_enter Try.func112, Try.ntmps112
  go_upto_region 2 with fail
  clear z0 zf
  generalize (w.setCell ⟨b0 + 2, t, none⟩ (.bool true)) = W1 at *
  have c0 := HP1.out.c0
  obtain ⟨-, -, r8, -, -, -⟩ := (HP1.out.gh.race HK.out).cells
  go_wp2_with fail
  clear c0 r8
  go_loopw [19] (fun x wr => ∃ (i : Nat) (s1 : Fl), i ≤ k.gs.length ∧ x = .int .i64 i ∧ PSt k b0 wr s1 ∧ s1.gv = s.gv ∧ s1.hv = s.hv ∧ s1.sn t = true ∧ Rc.free s1.sn 6 ≤ f ∧ k.R.loopF (k.R.passF f) (k.gs.length - i) i t s1 = k.R.loopF (k.R.passF f) k.gs.length 0 t (Rc.mark s t)) (fun x _ => k.gs.length - (intOf x).toNat)
  case atStart => exact ⟨0, Rc.mark s t, by omega, rfl, HP1.out, rfl, rfl, updB_eq, HFE0.out, rfl⟩
  case round =>
    clear HP1 HFE0
    obtain ⟨i, s1, hi, rfl, hp, hge, hhe, hst, hfe, htg⟩ := hrel
    have HP0 := Lib.hid hp
    have HGE := Lib.hid hge
    have HHE := Lib.hid hhe
    have HST := Lib.hid hst
    have HFE := Lib.hid hfe
    have HTG := Lib.hid htg
    clear hge hhe hst hfe htg
    by_cases h1 : i < k.gs.length
    · have h1i : (i : Int) < (k.gs.length : Int) := by omega
      have hwi : IntKind.i64.wrap ((i : Int) + 1) = (i : Int) + 1 := IntWalk.i64_in _ (by omega)
      obtain ⟨b9, off, hOA, hb9, u1, u2, u3, u4, u5⟩ := (hp.gh.gms HK.out).at_ h1
      obtain ⟨m1, m2, m3, m4, m5⟩ := HK.out.g6 i h1
      have HAi : Hid (k.R.A i = (gmx k.gs i).a.toNat) := rfl
      have HBi : Hid (k.R.B i = (gmx k.gs i).b.toNat) := rfl
      obtain ⟨gg, hgg⟩ : ∃ gg, gg = gmx k.gs i := ⟨_, rfl⟩
      rw [← hgg] at u1 u2 u3 u4 u5 m1 m2 m3 m4 m5 HAi HBi
      clear hgg
      obtain ⟨ga, gb, gpa, gpb, gop⟩ := gg
      dsimp only at u1 u2 u3 u4 u5 m1 m2 m3 m4 m5 HAi HBi
      obtain ⟨a, rfl⟩ : ∃ a : Nat, ga = (a : Int) := ⟨ga.toNat, by omega⟩
      obtain ⟨b, rfl⟩ : ∃ b : Nat, gb = (b : Int) := ⟨gb.toNat, by omega⟩
      simp only [Int.toNat_natCast] at HAi HBi
      have ha6 : a < 6 := by omega
      have hb6 : b < 6 := by omega
      have hai : (a : Int) < 6 := by omega
      have hbi : (b : Int) < 6 := by omega
      have hab : a ≠ b := by omega
      have hba : Below wr.heap.size wr (wr.alloc (.cells #[.int .i64 (a : Int), .int .i64 (b : Int), .int .i64 gpa, .int .i64 gpb, .bool gop] 85)) := (Below.refl _ _).alloc (Nat.le_refl _) _
      have v0 : (wr.alloc (.cells #[.int .i64 (a : Int), .int .i64 (b : Int), .int .i64 gpa, .int .i64 gpb, .bool gop] 85)).cell? ⟨wr.heap.size, 0, none⟩ = some (.int .i64 (a : Int)) := by simp
      have v1 : (wr.alloc (.cells #[.int .i64 (a : Int), .int .i64 (b : Int), .int .i64 gpa, .int .i64 gpb, .bool gop] 85)).cell? ⟨wr.heap.size, 1, none⟩ = some (.int .i64 (b : Int)) := by simp
      have HP := Lib.hid (HP0.out.step HK.out hba)
      have hOAe := hOA
      clear hba hp m1 m2 m3 m4 m5
      go_upto_region 5 with fail
      clear u1 u2 u3 u4 u5 HP0 hOA hOAe hb9
      generalize (wr.alloc (.cells #[.int .i64 (a : Int), .int .i64 (b : Int), .int .i64 gpa, .int .i64 gpb, .bool gop] 85)) = Wa at *
      generalize wr.heap.size = bg at *
      have c0 := HP.out.c0
      have c1 := HP.out.c1
      have c3 := HP.out.c3
      obtain ⟨r0, r1, -, r9, -, -⟩ := (HP.out.gh.race HK.out).cells
      obtain ⟨gc, -⟩ := HP.out.gh.gv.cell (p := i) h1
      obtain ⟨na, -⟩ := HP.out.sn.cell (p := a) ha6
      obtain ⟨nb, -⟩ := HP.out.sn.cell (p := b) hb6
      go_quiet (fail)
      have hbq : Below Wa.heap.size Wa (Wa.drewN nq) := below_drewN (Below.refl _ _) nq
      replace c0 := cell_of_ans hbq c0
      replace c1 := cell_of_ans hbq c1
      replace c3 := cell_of_ans hbq c3
      replace r0 := cell_of_ans hbq r0
      replace r1 := cell_of_ans hbq r1
      replace r9 := cell_of_ans hbq r9
      replace gc := cell_of_ans hbq gc
      replace v0 := cell_of_ans hbq v0
      replace v1 := cell_of_ans hbq v1
      replace na := cell_of_ans hbq na
      replace nb := cell_of_ans hbq nb
      replace HP := Lib.hid (HP.out.step HK.out hbq)
      clear hbq
      generalize Wa.drewN nq = Wb at *
      by_cases eb : b = t
      · have e1 : ((b : Int) == (t : Int)) = true := by simp [eb]
        have fb : ((b : Int) != (t : Int)) = false := by simp [eb]
        have hat : a ≠ t := by omega
        have fa : ((a : Int) != (t : Int)) = true := by simp [bne]; omega
        have wg2 : IntKind.i64.wrap (2 - s1.gv i) = 2 - s1.gv i := IntWalk.i64_in _ (by rw [HGE.out]; have := HRG.out i h1; omega)
        have HOTH : Hid (k.R.oth i t = a) := by show _ = _; unfold Rc.oth; rw [HBi.out, if_pos eb, HAi.out]
        have HGIV : Hid (k.R.giv s1 i t = 2 - s1.gv i) := by show _ = _; unfold Rc.giv; rw [HBi.out, if_pos eb]
        have HSTP : Hid (k.R.stp i t = 1) := by show _ = _; unfold Rc.stp; rw [HBi.out, if_pos eb]
        have htb : ¬ b = k.tm := by omega
        have tb : ((b : Int) == (k.tm : Int)) = false := by simp; omega
        go_upto_region 7 with fail
        go_quiet (fail)
        have hbq : Below Wb.heap.size Wb (Wb.drewN nq) := below_drewN (Below.refl _ _) nq
        replace c0 := cell_of_ans hbq c0
        replace c1 := cell_of_ans hbq c1
        replace c3 := cell_of_ans hbq c3
        replace r0 := cell_of_ans hbq r0
        replace r1 := cell_of_ans hbq r1
        replace r9 := cell_of_ans hbq r9
        replace gc := cell_of_ans hbq gc
        replace v0 := cell_of_ans hbq v0
        replace v1 := cell_of_ans hbq v1
        replace na := cell_of_ans hbq na
        replace nb := cell_of_ans hbq nb
        replace HP := Lib.hid (HP.out.step HK.out hbq)
        clear hbq
        generalize Wb.drewN nq = Wc at *
        by_cases hta : a = k.tm
        · have ta : ((a : Int) == (k.tm : Int)) = true := by simp [hta]
          have HSK := Lib.hid (Rc.loop_skip (R := k.R) (rec := k.R.passF f) (n := k.gs.length) (i := i) (t := t) (s := s1) h1 (.inr (.inl (by rw [HAi.out]; exact hta))))
          clear hta
          go_upto_region 8 with fail
          go_quiet (fail)
          have hbq : Below Wc.heap.size Wc (Wc.drewN nq) := below_drewN (Below.refl _ _) nq
          replace c0 := cell_of_ans hbq c0
          replace c1 := cell_of_ans hbq c1
          replace c3 := cell_of_ans hbq c3
          replace r0 := cell_of_ans hbq r0
          replace r1 := cell_of_ans hbq r1
          replace r9 := cell_of_ans hbq r9
          replace gc := cell_of_ans hbq gc
          replace v0 := cell_of_ans hbq v0
          replace v1 := cell_of_ans hbq v1
          replace na := cell_of_ans hbq na
          replace nb := cell_of_ans hbq nb
          replace HP := Lib.hid (HP.out.step HK.out hbq)
          clear hbq
          generalize Wc.drewN nq = Wd at *
          go_wp2_with fail
          go_roundw
          case rel => exact ⟨i + 1, s1, by omega, by go_num, HP.out, HGE.out, HHE.out, HST.out, HFE.out, HSK.out.symm.trans HTG.out⟩
          case measure => simp [intOf]; omega
        · have ta : ((a : Int) == (k.tm : Int)) = false := by simp; omega
          by_cases hgz : 2 - s1.gv i = 0
          · have gz : (2 - s1.gv i == 0) = true := by simp [hgz]
            have HSK := Lib.hid (Rc.loop_skip (R := k.R) (rec := k.R.passF f) (n := k.gs.length) (i := i) (t := t) (s := s1) h1 (.inr (.inr (.inr (.inl (by rw [HGIV.out]; exact hgz))))))
            clear hgz
            go_upto_region 8 with fail
            go_quiet (fail)
            have hbq : Below Wc.heap.size Wc (Wc.drewN nq) := below_drewN (Below.refl _ _) nq
            replace c0 := cell_of_ans hbq c0
            replace c1 := cell_of_ans hbq c1
            replace c3 := cell_of_ans hbq c3
            replace r0 := cell_of_ans hbq r0
            replace r1 := cell_of_ans hbq r1
            replace r9 := cell_of_ans hbq r9
            replace gc := cell_of_ans hbq gc
            replace v0 := cell_of_ans hbq v0
            replace v1 := cell_of_ans hbq v1
            replace na := cell_of_ans hbq na
            replace nb := cell_of_ans hbq nb
            replace HP := Lib.hid (HP.out.step HK.out hbq)
            clear hbq
            generalize Wc.drewN nq = Wd at *
            go_wp2_with fail
            go_roundw
            case rel => exact ⟨i + 1, s1, by omega, by go_num, HP.out, HGE.out, HHE.out, HST.out, HFE.out, HSK.out.symm.trans HTG.out⟩
            case measure => simp [intOf]; omega
          · have gz : (2 - s1.gv i == 0) = false := by simp; omega
            cases hos : s1.sn a
            rotate_left 1
            · rw [hos] at na
              have HSK := Lib.hid (Rc.loop_skip (R := k.R) (rec := k.R.passF f) (n := k.gs.length) (i := i) (t := t) (s := s1) h1 (.inr (.inr (.inr (.inr (by rw [HOTH.out]; exact hos))))))
              go_upto_region 8 with fail
              go_quiet (fail)
              have hbq : Below Wc.heap.size Wc (Wc.drewN nq) := below_drewN (Below.refl _ _) nq
              replace c0 := cell_of_ans hbq c0
              replace c1 := cell_of_ans hbq c1
              replace c3 := cell_of_ans hbq c3
              replace r0 := cell_of_ans hbq r0
              replace r1 := cell_of_ans hbq r1
              replace r9 := cell_of_ans hbq r9
              replace gc := cell_of_ans hbq gc
              replace v0 := cell_of_ans hbq v0
              replace v1 := cell_of_ans hbq v1
              replace na := cell_of_ans hbq na
              replace nb := cell_of_ans hbq nb
              replace HP := Lib.hid (HP.out.step HK.out hbq)
              clear hbq
              generalize Wc.drewN nq = Wd at *
              go_wp2_with fail
              go_roundw
              case rel => exact ⟨i + 1, s1, by omega, by go_num, HP.out, HGE.out, HHE.out, HST.out, HFE.out, HSK.out.symm.trans HTG.out⟩
              case measure => simp [intOf]; omega
            · rw [hos] at na
              have ho6 := ha6
              have hotm := hta
              have hns : ¬ k.R.skp s1 i t := by
                unfold Rc.skp
                rw [HAi.out, HBi.out, HGIV.out, HOTH.out, hos]
                rintro (⟨-, h⟩ | h | h | h | h)
                · exact h eb
                · exact hta h
                · exact htb h
                · exact hgz h
                · cases h
              have HOK := Lib.hid (Rc.loop_go (R := k.R) (rec := k.R.passF f) (n := k.gs.length) (i := i) (t := t) (s := s1) h1 hns)
              have HTR := Lib.hid (fun s2 => Rc.loop_true (R := k.R) (rec := k.R.passF f) (n := k.gs.length) (i := i) (t := t) (s := s1) (s' := s2) h1 hns)
              have HFL := Lib.hid (fun s2 => Rc.loop_false (R := k.R) (rec := k.R.passF f) (n := k.gs.length) (i := i) (t := t) (s := s1) (s' := s2) h1 hns)
              rw [HOTH.out] at HOK HTR HFL
              clear hns
              go_upto_region 8 with fail
              go_quiet (fail)
              have hbq : Below Wc.heap.size Wc (Wc.drewN nq) := below_drewN (Below.refl _ _) nq
              replace c0 := cell_of_ans hbq c0
              replace c1 := cell_of_ans hbq c1
              replace c3 := cell_of_ans hbq c3
              replace r0 := cell_of_ans hbq r0
              replace r1 := cell_of_ans hbq r1
              replace r9 := cell_of_ans hbq r9
              replace gc := cell_of_ans hbq gc
              replace v0 := cell_of_ans hbq v0
              replace v1 := cell_of_ans hbq v1
              replace na := cell_of_ans hbq na
              replace nb := cell_of_ans hbq nb
              replace HP := Lib.hid (HP.out.step HK.out hbq)
              clear hbq
              generalize Wc.drewN nq = Wd at *
              obtain ⟨hvc, -⟩ := HP.out.gh.hv.cell (k := a) ho6
              have HRV1 : Hid (∀ u, -101 ≤ s1.hv u ∧ s1.hv u ≤ 200001) := fun u => by rw [HHE.out]; have := HHV.out u; omega
              have HRG1 : Hid (∀ j, j < k.gs.length → 0 ≤ s1.gv j ∧ s1.gv j ≤ 2) := fun j hj => by rw [HGE.out]; exact HRG.out j hj
              by_cases hlt : s1.hv a < k.rc
              · have hltd : decide (s1.hv a < k.rc) = true := decide_eq_true hlt
                have HT9 := Lib.hid (HOK.out hlt)
                clear HOK HTR HFL
                go_upto_region 9 with fail
                go_quiet (fail)
                have hbq : Below Wd.heap.size Wd (Wd.drewN nq) := below_drewN (Below.refl _ _) nq
                replace c0 := cell_of_ans hbq c0
                replace c1 := cell_of_ans hbq c1
                replace c3 := cell_of_ans hbq c3
                replace r0 := cell_of_ans hbq r0
                replace r1 := cell_of_ans hbq r1
                replace r9 := cell_of_ans hbq r9
                replace gc := cell_of_ans hbq gc
                replace v0 := cell_of_ans hbq v0
                replace v1 := cell_of_ans hbq v1
                replace na := cell_of_ans hbq na
                replace nb := cell_of_ans hbq nb
                replace hvc := cell_of_ans hbq hvc
                replace HP := Lib.hid (HP.out.step HK.out hbq)
                clear hbq
                generalize Wd.drewN nq = We at *
                clear hvc hltd hlt
                clear na nb gc
                obtain ⟨gc, gf⟩ := HP.out.gh.gv.cell (p := i) h1
                have wg : IntKind.i64.wrap (s1.gv i + 1) = s1.gv i + 1 := IntWalk.i64_in _ (by have := HRG1.out i h1; omega)
                have p1 := HP.out.setG HK.out i (s1.gv i + 1)
                have c1b := p1.c1
                have HP1 := Lib.hid p1
                clear p1
                go_upto_region 11 with fail
                generalize (We.setCell ⟨k.gq, i, none⟩ (.int .i64 (s1.gv i + 1))) = Y1 at *
                clear gc gf wg c0 c1 c3 r0 r1 r9 v0 v1 HP
                obtain ⟨hc, hf⟩ := HP1.out.gh.hv.cell (k := t) ht
                have wh : IntKind.i64.wrap (s1.hv t - 1) = s1.hv t - 1 := IntWalk.i64_in _ (by have := HRV1.out t; omega)
                refine wp_region_noPanic ?_
                have hS : (fun W' : World => Below Y1.heap.size Y1 W') Y1.drew := (Below.refl _ _).drew
                refine wp_region_any (by kernel_rfl) (wpAny_of_T (S := fun W' : World => Below Y1.heap.size Y1 W') (m := 8) _ _ _ _ ?_)
                refine' T_take (i := 0) (v := _) rfl (by kernel_rfl) (by kernel_rfl) (by kernel_rfl) (by kernel_rfl) (fun _ _ _ h => h) (by kernel_rfl) hS ?_ ?_
                rotate_left 1
                · intro Wv hW
                  have g0 := cell_of_ans hW c1b
                  go_simp
                  first | done | with_reducible rfl | omega
                try simp only [Act.put, List.getElem_toArray, List.getElem_cons_zero, List.getElem_cons_succ, List.setIfInBounds_toArray, List.set_cons_zero, List.set_cons_succ]
                refine' T_take (i := 1) (v := _) rfl (by kernel_rfl) (by kernel_rfl) (by kernel_rfl) (by kernel_rfl) (fun _ _ _ h => h) (by kernel_rfl) hS ?_ ?_
                rotate_left 1
                · intro Wv hW
                  go_simp
                  first | done | with_reducible rfl | omega
                try simp only [Act.put, List.getElem_toArray, List.getElem_cons_zero, List.getElem_cons_succ, List.setIfInBounds_toArray, List.set_cons_zero, List.set_cons_succ]
                refine' T_take (i := 2) (v := _) rfl (by kernel_rfl) (by kernel_rfl) (by kernel_rfl) (by kernel_rfl) (fun _ _ _ h => h) (by kernel_rfl) hS ?_ ?_
                rotate_left 1
                · intro Wv hW
                  go_simp
                  first | done | with_reducible rfl | omega
                try simp only [Act.put, List.getElem_toArray, List.getElem_cons_zero, List.getElem_cons_succ, List.setIfInBounds_toArray, List.set_cons_zero, List.set_cons_succ]
                refine' T_take (i := 3) (v := _) rfl (by kernel_rfl) (by kernel_rfl) (by kernel_rfl) (by kernel_rfl) (fun _ _ _ h => h) (by kernel_rfl) hS ?_ ?_
                rotate_left 1
                · intro Wv hW
                  go_simp
                  first | done | with_reducible rfl | omega
                try simp only [Act.put, List.getElem_toArray, List.getElem_cons_zero, List.getElem_cons_succ, List.setIfInBounds_toArray, List.set_cons_zero, List.set_cons_succ]
                refine' T_take (i := 4) (v := _) rfl (by kernel_rfl) (by kernel_rfl) (by kernel_rfl) (by kernel_rfl) (fun _ _ _ h => h) (by kernel_rfl) hS ?_ ?_
                rotate_left 1
                · intro Wv hW
                  have g1 := cell_of_ans hW hc
                  go_simp
                  first | done | with_reducible rfl | omega
                try simp only [Act.put, List.getElem_toArray, List.getElem_cons_zero, List.getElem_cons_succ, List.setIfInBounds_toArray, List.set_cons_zero, List.set_cons_succ]
                refine' T_take (i := 5) (v := _) rfl (by kernel_rfl) (by kernel_rfl) (by kernel_rfl) (by kernel_rfl) (fun _ _ _ h => h) (by kernel_rfl) hS ?_ ?_
                rotate_left 1
                · intro Wv hW
                  go_simp
                  first | done | with_reducible rfl | omega
                try simp only [Act.put, List.getElem_toArray, List.getElem_cons_zero, List.getElem_cons_succ, List.setIfInBounds_toArray, List.set_cons_zero, List.set_cons_succ]
                refine T_ready (rs := [6]) (by kernel_rfl) (by simp) ?_
                refine TReady.cons rfl (fun K hK => ?_) TReady.nil
                try go_simp
                refine hK.out _ _ (fun _ => hS) (fun _ => ?_)
                clear hK K
                try simp only [Act.put, List.getElem_toArray, List.getElem_cons_zero, List.getElem_cons_succ, List.setIfInBounds_toArray, List.set_cons_zero, List.set_cons_succ]
                refine' T_take (i := 7) (v := _) rfl (by kernel_rfl) (by kernel_rfl) (by kernel_rfl) (by kernel_rfl) (fun _ _ _ h => h) (by kernel_rfl) hS ?_ ?_
                rotate_left 1
                · intro Wv hW
                  go_simp
                  first | done | with_reducible rfl | omega
                try simp only [Act.put, List.getElem_toArray, List.getElem_cons_zero, List.getElem_cons_succ, List.setIfInBounds_toArray, List.set_cons_zero, List.set_cons_succ]
                refine T_ready (rs := [8]) (by kernel_rfl) (by simp) ?_
                refine TReady.cons rfl (fun K hK => ?_) TReady.nil
                try go_simp
                refine hK.out _ _ (fun h => absurd h (by decide)) (fun _ => ?_)
                clear hK K
                try simp only [Act.put, List.getElem_toArray, List.getElem_cons_zero, List.getElem_cons_succ, List.setIfInBounds_toArray, List.set_cons_zero, List.set_cons_succ]
                refine T_done (by kernel_rfl) ?_ _
                refine NoPanic.normal ?_
                try go_simp
                go_upto_region 12 with fail
                have p2 := (HP1.out.setH HK.out ht (s1.hv t - 1)).step HK.out (Below.refl _ _).drew
                have c1d := p2.c1
                have HP2 := Lib.hid p2
                clear p2 hc hf wh c1b hS HP1
                generalize (Y1.setCell ⟨k.hq, t, none⟩ (.int .i64 (s1.hv t - 1))).drew = Y2 at *
                obtain ⟨hc, hf⟩ := HP2.out.gh.hv.cell (k := a) ho6
                have wh : IntKind.i64.wrap (updI s1.hv t (s1.hv t - 1) a + 1) = updI s1.hv t (s1.hv t - 1) a + 1 := IntWalk.i64_in _ (by have := HRV1.out t; have := HRV1.out a; unfold updI; split <;> omega)
                have p3 := (HP2.out.setH HK.out ho6 (updI s1.hv t (s1.hv t - 1) a + 1)).step HK.out (Below.refl _ _).drew
                have HMV : Hid (k.R.move s1 i t = { sn := s1.sn, gv := updI s1.gv i (s1.gv i + 1), hv := updI (updI s1.hv t (s1.hv t - 1)) a (updI s1.hv t (s1.hv t - 1) a + 1) }) := by show _ = _; unfold Rc.move; rw [HOTH.out, HSTP.out]
                have HP3 := Lib.hid p3
                clear p3
                try dsimp only at hc wh HP3
                generalize updI s1.hv t (s1.hv t - 1) a = hx at *
                refine wp_region_noPanic ?_
                have hS : (fun W' : World => Below Y2.heap.size Y2 W') Y2.drew := (Below.refl _ _).drew
                refine wp_region_any (by kernel_rfl) (wpAny_of_T (S := fun W' : World => Below Y2.heap.size Y2 W') (m := 8) _ _ _ _ ?_)
                refine' T_take (i := 0) (v := _) rfl (by kernel_rfl) (by kernel_rfl) (by kernel_rfl) (by kernel_rfl) (fun _ _ _ h => h) (by kernel_rfl) hS ?_ ?_
                rotate_left 1
                · intro Wv hW
                  have g0 := cell_of_ans hW c1d
                  go_simp
                  first | done | with_reducible rfl | omega
                try simp only [Act.put, List.getElem_toArray, List.getElem_cons_zero, List.getElem_cons_succ, List.setIfInBounds_toArray, List.set_cons_zero, List.set_cons_succ]
                refine' T_take (i := 1) (v := _) rfl (by kernel_rfl) (by kernel_rfl) (by kernel_rfl) (by kernel_rfl) (fun _ _ _ h => h) (by kernel_rfl) hS ?_ ?_
                rotate_left 1
                · intro Wv hW
                  go_simp
                  first | done | with_reducible rfl | omega
                try simp only [Act.put, List.getElem_toArray, List.getElem_cons_zero, List.getElem_cons_succ, List.setIfInBounds_toArray, List.set_cons_zero, List.set_cons_succ]
                refine' T_take (i := 2) (v := _) rfl (by kernel_rfl) (by kernel_rfl) (by kernel_rfl) (by kernel_rfl) (fun _ _ _ h => h) (by kernel_rfl) hS ?_ ?_
                rotate_left 1
                · intro Wv hW
                  go_simp
                  first | done | with_reducible rfl | omega
                try simp only [Act.put, List.getElem_toArray, List.getElem_cons_zero, List.getElem_cons_succ, List.setIfInBounds_toArray, List.set_cons_zero, List.set_cons_succ]
                refine' T_take (i := 3) (v := _) rfl (by kernel_rfl) (by kernel_rfl) (by kernel_rfl) (by kernel_rfl) (fun _ _ _ h => h) (by kernel_rfl) hS ?_ ?_
                rotate_left 1
                · intro Wv hW
                  go_simp
                  first | done | with_reducible rfl | omega
                try simp only [Act.put, List.getElem_toArray, List.getElem_cons_zero, List.getElem_cons_succ, List.setIfInBounds_toArray, List.set_cons_zero, List.set_cons_succ]
                refine' T_take (i := 4) (v := _) rfl (by kernel_rfl) (by kernel_rfl) (by kernel_rfl) (by kernel_rfl) (fun _ _ _ h => h) (by kernel_rfl) hS ?_ ?_
                rotate_left 1
                · intro Wv hW
                  have g1 := cell_of_ans hW hc
                  go_simp
                  first | done | with_reducible rfl | omega
                try simp only [Act.put, List.getElem_toArray, List.getElem_cons_zero, List.getElem_cons_succ, List.setIfInBounds_toArray, List.set_cons_zero, List.set_cons_succ]
                refine' T_take (i := 5) (v := _) rfl (by kernel_rfl) (by kernel_rfl) (by kernel_rfl) (by kernel_rfl) (fun _ _ _ h => h) (by kernel_rfl) hS ?_ ?_
                rotate_left 1
                · intro Wv hW
                  go_simp
                  first | done | with_reducible rfl | omega
                try simp only [Act.put, List.getElem_toArray, List.getElem_cons_zero, List.getElem_cons_succ, List.setIfInBounds_toArray, List.set_cons_zero, List.set_cons_succ]
                refine T_ready (rs := [6]) (by kernel_rfl) (by simp) ?_
                refine TReady.cons rfl (fun K hK => ?_) TReady.nil
                try go_simp
                refine hK.out _ _ (fun _ => hS) (fun _ => ?_)
                clear hK K
                try simp only [Act.put, List.getElem_toArray, List.getElem_cons_zero, List.getElem_cons_succ, List.setIfInBounds_toArray, List.set_cons_zero, List.set_cons_succ]
                refine' T_take (i := 7) (v := _) rfl (by kernel_rfl) (by kernel_rfl) (by kernel_rfl) (by kernel_rfl) (fun _ _ _ h => h) (by kernel_rfl) hS ?_ ?_
                rotate_left 1
                · intro Wv hW
                  go_simp
                  first | done | with_reducible rfl | omega
                try simp only [Act.put, List.getElem_toArray, List.getElem_cons_zero, List.getElem_cons_succ, List.setIfInBounds_toArray, List.set_cons_zero, List.set_cons_succ]
                refine T_ready (rs := [8]) (by kernel_rfl) (by simp) ?_
                refine TReady.cons rfl (fun K hK => ?_) TReady.nil
                try go_simp
                refine hK.out _ _ (fun h => absurd h (by decide)) (fun _ => ?_)
                clear hK K
                try simp only [Act.put, List.getElem_toArray, List.getElem_cons_zero, List.getElem_cons_succ, List.setIfInBounds_toArray, List.set_cons_zero, List.set_cons_succ]
                refine T_done (by kernel_rfl) ?_ _
                refine NoPanic.normal ?_
                try go_simp
                go_wp2_with fail
                go_ret
                rw [HRES.out, ← HTG.out, HT9.out]
                refine ⟨rfl, ?_⟩
                show PSt _ _ _ (k.R.move s1 i t)
                rw [HMV.out]
                exact HP3.out
              · have hltd : decide (s1.hv a < k.rc) = false := decide_eq_false hlt
                have HCL := Lib.hid (ih Wd.drew a s1 (HP.out.step HK.out (Below.refl _ _).drew) ho6 hotm hos HFE.out (by omega) HRG1.out (fun u => by rw [HHE.out]; exact HHV.out u))
                have HPO := Lib.hid (Rc.pass_ok (k.ok HK.out) f a s1 ho6 hotm hos HFE.out (show k.rc ≤ s1.hv a by omega) HRG1.out)
                obtain ⟨⟨bb, s2⟩, hres⟩ : ∃ q, k.R.passF f a s1 = q := ⟨_, rfl⟩
                rw [hres] at HCL HPO
                have HTR2 := Lib.hid (fun e => HTR.out s2 hlt (hres.trans e))
                have HFL2 := Lib.hid (fun e => HFL.out s2 hlt (hres.trans e))
                clear HOK HTR HFL hres
                clear hlt
                have HVD := Lib.hid hvc
                have US := Lib.hid (show Wd.drew.cell? ⟨k.hq, a, none⟩ = some (.int .i64 (s1.hv a)) from hvc)
                go_upto_region 9 with fail
                cases bb
                · have HL9 := Lib.hid (HFL2.out rfl)
                  obtain ⟨hst2, hsn2⟩ := HPO.out.2 rfl
                  have HS2 := Lib.hid hst2
                  clear hst2 hsn2 HPO HTR2 HFL2
                  refine wp_region_noPanic ?_
                  have hS : (fun W' : World => W'.cell? ⟨b0 + 1, 0, none⟩ = some (.pointer (some ⟨k.hq, 0, none⟩)) ∧ W'.cell? ⟨b0, 0, none⟩ = some (.pointer (some ⟨k.q, 0, none⟩)) ∧ W'.cell? ⟨b0 + 3, 0, none⟩ = some (.func (.func 112) #[] #[.pointer (some ⟨b0 + 2, 0, none⟩), .pointer (some ⟨b0, 0, none⟩), .pointer (some ⟨b0 + 1, 0, none⟩), .pointer (some ⟨b0 + 3, 0, none⟩)]) ∧ W'.cell? ⟨k.q, 1, none⟩ = some (.int .i64 k.rc)) Wd.drew := ⟨c1, c0, c3, r1⟩
                  refine wp_region_any (by kernel_rfl) (wpAny_of_T (S := fun W' : World => W'.cell? ⟨b0 + 1, 0, none⟩ = some (.pointer (some ⟨k.hq, 0, none⟩)) ∧ W'.cell? ⟨b0, 0, none⟩ = some (.pointer (some ⟨k.q, 0, none⟩)) ∧ W'.cell? ⟨b0 + 3, 0, none⟩ = some (.func (.func 112) #[] #[.pointer (some ⟨b0 + 2, 0, none⟩), .pointer (some ⟨b0, 0, none⟩), .pointer (some ⟨b0 + 1, 0, none⟩), .pointer (some ⟨b0 + 3, 0, none⟩)]) ∧ W'.cell? ⟨k.q, 1, none⟩ = some (.int .i64 k.rc)) (m := 15) _ _ _ _ ?_)
                  refine' T_take (i := 0) (v := _) rfl (by kernel_rfl) (by kernel_rfl) (by kernel_rfl) (by kernel_rfl) (fun _ _ _ h => h) (by kernel_rfl) hS ?_ ?_
                  rotate_left 1
                  · intro Wv hW
                    obtain ⟨g0, g1, g2, g3⟩ := hW
                    go_simp
                    first | done | with_reducible rfl | omega
                  try simp only [Act.put, List.getElem_toArray, List.getElem_cons_zero, List.getElem_cons_succ, List.setIfInBounds_toArray, List.set_cons_zero, List.set_cons_succ]
                  refine' T_take (i := 1) (v := _) rfl (by kernel_rfl) (by kernel_rfl) (by kernel_rfl) (by kernel_rfl) (fun _ _ _ h => h) (by kernel_rfl) hS ?_ ?_
                  rotate_left 1
                  · intro Wv hW
                    obtain ⟨g0, g1, g2, g3⟩ := hW
                    go_simp
                    first | done | with_reducible rfl | omega
                  try simp only [Act.put, List.getElem_toArray, List.getElem_cons_zero, List.getElem_cons_succ, List.setIfInBounds_toArray, List.set_cons_zero, List.set_cons_succ]
                  refine' T_take (i := 2) (v := _) rfl (by kernel_rfl) (by kernel_rfl) (by kernel_rfl) (by kernel_rfl) (fun _ _ _ h => h) (by kernel_rfl) hS ?_ ?_
                  rotate_left 1
                  · intro Wv hW
                    obtain ⟨g0, g1, g2, g3⟩ := hW
                    go_simp
                    first | done | with_reducible rfl | omega
                  try simp only [Act.put, List.getElem_toArray, List.getElem_cons_zero, List.getElem_cons_succ, List.setIfInBounds_toArray, List.set_cons_zero, List.set_cons_succ]
                  refine' T_take (i := 3) (v := _) rfl (by kernel_rfl) (by kernel_rfl) (by kernel_rfl) (by kernel_rfl) (fun _ _ _ h => h) (by kernel_rfl) hS ?_ ?_
                  rotate_left 1
                  · intro Wv hW
                    obtain ⟨g0, g1, g2, g3⟩ := hW
                    go_simp
                    first | done | with_reducible rfl | omega
                  try simp only [Act.put, List.getElem_toArray, List.getElem_cons_zero, List.getElem_cons_succ, List.setIfInBounds_toArray, List.set_cons_zero, List.set_cons_succ]
                  refine' T_take (i := 5) (v := _) rfl (by kernel_rfl) (by kernel_rfl) (by kernel_rfl) (by kernel_rfl) (fun _ _ _ h => h) (by kernel_rfl) hS ?_ ?_
                  rotate_left 1
                  · intro Wv hW
                    obtain ⟨g0, g1, g2, g3⟩ := hW
                    go_simp
                    first | done | with_reducible rfl | omega
                  try simp only [Act.put, List.getElem_toArray, List.getElem_cons_zero, List.getElem_cons_succ, List.setIfInBounds_toArray, List.set_cons_zero, List.set_cons_succ]
                  refine' T_take (i := 6) (v := _) rfl (by kernel_rfl) (by kernel_rfl) (by kernel_rfl) (by kernel_rfl) (fun _ _ _ h => h) (by kernel_rfl) hS ?_ ?_
                  rotate_left 1
                  · intro Wv hW
                    obtain ⟨g0, g1, g2, g3⟩ := hW
                    go_simp
                    first | done | with_reducible rfl | omega
                  try simp only [Act.put, List.getElem_toArray, List.getElem_cons_zero, List.getElem_cons_succ, List.setIfInBounds_toArray, List.set_cons_zero, List.set_cons_succ]
                  refine' T_take (i := 7) (v := _) rfl (by kernel_rfl) (by kernel_rfl) (by kernel_rfl) (by kernel_rfl) (fun _ _ _ h => h) (by kernel_rfl) hS ?_ ?_
                  rotate_left 1
                  · intro Wv hW
                    obtain ⟨g0, g1, g2, g3⟩ := hW
                    go_simp
                    first | done | with_reducible rfl | omega
                  try simp only [Act.put, List.getElem_toArray, List.getElem_cons_zero, List.getElem_cons_succ, List.setIfInBounds_toArray, List.set_cons_zero, List.set_cons_succ]
                  refine' T_take (i := 8) (v := _) rfl (by kernel_rfl) (by kernel_rfl) (by kernel_rfl) (by kernel_rfl) (fun _ _ _ h => h) (by kernel_rfl) hS ?_ ?_
                  rotate_left 1
                  · intro Wv hW
                    obtain ⟨g0, g1, g2, g3⟩ := hW
                    go_simp
                    first | done | with_reducible rfl | omega
                  try simp only [Act.put, List.getElem_toArray, List.getElem_cons_zero, List.getElem_cons_succ, List.setIfInBounds_toArray, List.set_cons_zero, List.set_cons_succ]
                  refine T_ready (rs := [4]) (by kernel_rfl) (by simp) ?_
                  refine TReady.cons rfl (fun K hK => ?_) TReady.nil
                  have hvd := US.out
                  try go_simp
                  refine hK.out _ _ (fun _ => hS) (fun _ => ?_)
                  clear hK K hvd
                  try simp only [Act.put, List.getElem_toArray, List.getElem_cons_zero, List.getElem_cons_succ, List.setIfInBounds_toArray, List.set_cons_zero, List.set_cons_succ]
                  refine' T_take (i := 9) (v := .bool false) rfl (by kernel_rfl) (by kernel_rfl) (by kernel_rfl) (by kernel_rfl) (fun _ _ _ h => h) (by kernel_rfl) hS ?_ ?_
                  skip
                  · intro Wv hW
                    obtain ⟨g0, g1, g2, g3⟩ := hW
                    go_simp
                    first | done | with_reducible rfl | omega
                  try simp only [Act.put, List.getElem_toArray, List.getElem_cons_zero, List.getElem_cons_succ, List.setIfInBounds_toArray, List.set_cons_zero, List.set_cons_succ]
                  refine' T_take (i := 10) (v := .bool false) rfl (by kernel_rfl) (by kernel_rfl) (by kernel_rfl) (by kernel_rfl) (fun _ _ _ h => h) (by kernel_rfl) hS ?_ ?_
                  skip
                  · intro Wv hW
                    obtain ⟨g0, g1, g2, g3⟩ := hW
                    go_simp
                    first | done | with_reducible rfl | omega
                  try simp only [Act.put, List.getElem_toArray, List.getElem_cons_zero, List.getElem_cons_succ, List.setIfInBounds_toArray, List.set_cons_zero, List.set_cons_succ]
                  refine' T_take (i := 11) (v := _) rfl (by kernel_rfl) (by kernel_rfl) (by kernel_rfl) (by kernel_rfl) (fun _ _ _ h => h) (by kernel_rfl) hS ?_ ?_
                  rotate_left 1
                  · intro Wv hW
                    obtain ⟨g0, g1, g2, g3⟩ := hW
                    go_simp
                    first | done | with_reducible rfl | omega
                  try simp only [Act.put, List.getElem_toArray, List.getElem_cons_zero, List.getElem_cons_succ, List.setIfInBounds_toArray, List.set_cons_zero, List.set_cons_succ]
                  refine' T_take (i := 12) (v := _) rfl (by kernel_rfl) (by kernel_rfl) (by kernel_rfl) (by kernel_rfl) (fun _ _ _ h => h) (by kernel_rfl) hS ?_ ?_
                  rotate_left 1
                  · intro Wv hW
                    obtain ⟨g0, g1, g2, g3⟩ := hW
                    go_simp
                    first | done | with_reducible rfl | omega
                  try simp only [Act.put, List.getElem_toArray, List.getElem_cons_zero, List.getElem_cons_succ, List.setIfInBounds_toArray, List.set_cons_zero, List.set_cons_succ]
                  refine T_ready (rs := [13]) (by kernel_rfl) (by simp) ?_
                  refine TReady.cons rfl (fun K hK => ?_) TReady.nil
                  try go_simp
                  refine HCL.out.mono ?_
                  rintro e w3 ⟨he0, hp⟩
                  have he : e = .returned (.bool false) := he0
                  subst he
                  have HPN := Lib.hid hp
                  have k3 := (hp.gh.race HK.out).cells.2.1
                  have k0 := hp.c0
                  have k1 := hp.c1
                  have k2 := hp.c3
                  clear hp he0
                  try go_simp
                  refine hK.out _ _ (fun _ => ⟨k1, k0, k2, k3⟩) (fun hS => ?_)
                  replace hS := hS (by decide)
                  clear hK K k0 k1 k2 k3
                  try simp only [Act.put, List.getElem_toArray, List.getElem_cons_zero, List.getElem_cons_succ, List.setIfInBounds_toArray, List.set_cons_zero, List.set_cons_succ]
                  refine' T_take (i := 14) (v := _) rfl (by kernel_rfl) (by kernel_rfl) (by kernel_rfl) (by kernel_rfl) (fun _ _ _ h => h) (by kernel_rfl) hS ?_ ?_
                  rotate_left 1
                  · intro Wv hW
                    obtain ⟨g0, g1, g2, g3⟩ := hW
                    go_simp
                    first | done | with_reducible rfl | omega
                  try simp only [Act.put, List.getElem_toArray, List.getElem_cons_zero, List.getElem_cons_succ, List.setIfInBounds_toArray, List.set_cons_zero, List.set_cons_succ]
                  refine T_done (by kernel_rfl) ?_ _
                  refine NoPanic.normal ?_
                  try go_simp
                  go_wp2_with fail
                  go_roundw
                  case rel =>
                    exact ⟨i + 1, s2, by omega, by go_num, HPN.out, HS2.out.gv.trans HGE.out, HS2.out.hv.trans HHE.out, HS2.out.up t HST.out, Nat.le_trans (Rc.free_mono HS2.out.up 6) HFE.out, HL9.out.symm.trans HTG.out⟩
                  case measure => simp [intOf]; omega
                · have HT9 := Lib.hid (HTR2.out rfl)
                  obtain ⟨z, hw2⟩ := HPO.out.1 rfl
                  have HRG2 : Hid (∀ j, j < k.gs.length → 0 ≤ s2.gv j ∧ s2.gv j ≤ 2) := fun j hj => hw2.rg j hj
                  have HRV2 : Hid (∀ u, -101 ≤ s2.hv u ∧ s2.hv u ≤ 200001) := fun u => by have h8 := hw2.hv u; have h7 : s1.hv u = s.hv u := congrFun HHE.out u; have h9 := HHV.out u; unfold Rc.one at h8; revert h8; dsimp only; split <;> split <;> intro h8 <;> omega
                  clear hw2 HPO HTR2 HFL2
                  refine wp_region_noPanic ?_
                  have hS : (fun W' : World => W'.cell? ⟨b0 + 1, 0, none⟩ = some (.pointer (some ⟨k.hq, 0, none⟩)) ∧ W'.cell? ⟨b0, 0, none⟩ = some (.pointer (some ⟨k.q, 0, none⟩)) ∧ W'.cell? ⟨b0 + 3, 0, none⟩ = some (.func (.func 112) #[] #[.pointer (some ⟨b0 + 2, 0, none⟩), .pointer (some ⟨b0, 0, none⟩), .pointer (some ⟨b0 + 1, 0, none⟩), .pointer (some ⟨b0 + 3, 0, none⟩)]) ∧ W'.cell? ⟨k.q, 1, none⟩ = some (.int .i64 k.rc)) Wd.drew := ⟨c1, c0, c3, r1⟩
                  refine wp_region_any (by kernel_rfl) (wpAny_of_T (S := fun W' : World => W'.cell? ⟨b0 + 1, 0, none⟩ = some (.pointer (some ⟨k.hq, 0, none⟩)) ∧ W'.cell? ⟨b0, 0, none⟩ = some (.pointer (some ⟨k.q, 0, none⟩)) ∧ W'.cell? ⟨b0 + 3, 0, none⟩ = some (.func (.func 112) #[] #[.pointer (some ⟨b0 + 2, 0, none⟩), .pointer (some ⟨b0, 0, none⟩), .pointer (some ⟨b0 + 1, 0, none⟩), .pointer (some ⟨b0 + 3, 0, none⟩)]) ∧ W'.cell? ⟨k.q, 1, none⟩ = some (.int .i64 k.rc)) (m := 15) _ _ _ _ ?_)
                  refine' T_take (i := 0) (v := _) rfl (by kernel_rfl) (by kernel_rfl) (by kernel_rfl) (by kernel_rfl) (fun _ _ _ h => h) (by kernel_rfl) hS ?_ ?_
                  rotate_left 1
                  · intro Wv hW
                    obtain ⟨g0, g1, g2, g3⟩ := hW
                    go_simp
                    first | done | with_reducible rfl | omega
                  try simp only [Act.put, List.getElem_toArray, List.getElem_cons_zero, List.getElem_cons_succ, List.setIfInBounds_toArray, List.set_cons_zero, List.set_cons_succ]
                  refine' T_take (i := 1) (v := _) rfl (by kernel_rfl) (by kernel_rfl) (by kernel_rfl) (by kernel_rfl) (fun _ _ _ h => h) (by kernel_rfl) hS ?_ ?_
                  rotate_left 1
                  · intro Wv hW
                    obtain ⟨g0, g1, g2, g3⟩ := hW
                    go_simp
                    first | done | with_reducible rfl | omega
                  try simp only [Act.put, List.getElem_toArray, List.getElem_cons_zero, List.getElem_cons_succ, List.setIfInBounds_toArray, List.set_cons_zero, List.set_cons_succ]
                  refine' T_take (i := 2) (v := _) rfl (by kernel_rfl) (by kernel_rfl) (by kernel_rfl) (by kernel_rfl) (fun _ _ _ h => h) (by kernel_rfl) hS ?_ ?_
                  rotate_left 1
                  · intro Wv hW
                    obtain ⟨g0, g1, g2, g3⟩ := hW
                    go_simp
                    first | done | with_reducible rfl | omega
                  try simp only [Act.put, List.getElem_toArray, List.getElem_cons_zero, List.getElem_cons_succ, List.setIfInBounds_toArray, List.set_cons_zero, List.set_cons_succ]
                  refine' T_take (i := 3) (v := _) rfl (by kernel_rfl) (by kernel_rfl) (by kernel_rfl) (by kernel_rfl) (fun _ _ _ h => h) (by kernel_rfl) hS ?_ ?_
                  rotate_left 1
                  · intro Wv hW
                    obtain ⟨g0, g1, g2, g3⟩ := hW
                    go_simp
                    first | done | with_reducible rfl | omega
                  try simp only [Act.put, List.getElem_toArray, List.getElem_cons_zero, List.getElem_cons_succ, List.setIfInBounds_toArray, List.set_cons_zero, List.set_cons_succ]
                  refine' T_take (i := 5) (v := _) rfl (by kernel_rfl) (by kernel_rfl) (by kernel_rfl) (by kernel_rfl) (fun _ _ _ h => h) (by kernel_rfl) hS ?_ ?_
                  rotate_left 1
                  · intro Wv hW
                    obtain ⟨g0, g1, g2, g3⟩ := hW
                    go_simp
                    first | done | with_reducible rfl | omega
                  try simp only [Act.put, List.getElem_toArray, List.getElem_cons_zero, List.getElem_cons_succ, List.setIfInBounds_toArray, List.set_cons_zero, List.set_cons_succ]
                  refine' T_take (i := 6) (v := _) rfl (by kernel_rfl) (by kernel_rfl) (by kernel_rfl) (by kernel_rfl) (fun _ _ _ h => h) (by kernel_rfl) hS ?_ ?_
                  rotate_left 1
                  · intro Wv hW
                    obtain ⟨g0, g1, g2, g3⟩ := hW
                    go_simp
                    first | done | with_reducible rfl | omega
                  try simp only [Act.put, List.getElem_toArray, List.getElem_cons_zero, List.getElem_cons_succ, List.setIfInBounds_toArray, List.set_cons_zero, List.set_cons_succ]
                  refine' T_take (i := 7) (v := _) rfl (by kernel_rfl) (by kernel_rfl) (by kernel_rfl) (by kernel_rfl) (fun _ _ _ h => h) (by kernel_rfl) hS ?_ ?_
                  rotate_left 1
                  · intro Wv hW
                    obtain ⟨g0, g1, g2, g3⟩ := hW
                    go_simp
                    first | done | with_reducible rfl | omega
                  try simp only [Act.put, List.getElem_toArray, List.getElem_cons_zero, List.getElem_cons_succ, List.setIfInBounds_toArray, List.set_cons_zero, List.set_cons_succ]
                  refine' T_take (i := 8) (v := _) rfl (by kernel_rfl) (by kernel_rfl) (by kernel_rfl) (by kernel_rfl) (fun _ _ _ h => h) (by kernel_rfl) hS ?_ ?_
                  rotate_left 1
                  · intro Wv hW
                    obtain ⟨g0, g1, g2, g3⟩ := hW
                    go_simp
                    first | done | with_reducible rfl | omega
                  try simp only [Act.put, List.getElem_toArray, List.getElem_cons_zero, List.getElem_cons_succ, List.setIfInBounds_toArray, List.set_cons_zero, List.set_cons_succ]
                  refine T_ready (rs := [4]) (by kernel_rfl) (by simp) ?_
                  refine TReady.cons rfl (fun K hK => ?_) TReady.nil
                  have hvd := US.out
                  try go_simp
                  refine hK.out _ _ (fun _ => hS) (fun _ => ?_)
                  clear hK K hvd
                  try simp only [Act.put, List.getElem_toArray, List.getElem_cons_zero, List.getElem_cons_succ, List.setIfInBounds_toArray, List.set_cons_zero, List.set_cons_succ]
                  refine' T_take (i := 9) (v := .bool false) rfl (by kernel_rfl) (by kernel_rfl) (by kernel_rfl) (by kernel_rfl) (fun _ _ _ h => h) (by kernel_rfl) hS ?_ ?_
                  skip
                  · intro Wv hW
                    obtain ⟨g0, g1, g2, g3⟩ := hW
                    go_simp
                    first | done | with_reducible rfl | omega
                  try simp only [Act.put, List.getElem_toArray, List.getElem_cons_zero, List.getElem_cons_succ, List.setIfInBounds_toArray, List.set_cons_zero, List.set_cons_succ]
                  refine' T_take (i := 10) (v := .bool false) rfl (by kernel_rfl) (by kernel_rfl) (by kernel_rfl) (by kernel_rfl) (fun _ _ _ h => h) (by kernel_rfl) hS ?_ ?_
                  skip
                  · intro Wv hW
                    obtain ⟨g0, g1, g2, g3⟩ := hW
                    go_simp
                    first | done | with_reducible rfl | omega
                  try simp only [Act.put, List.getElem_toArray, List.getElem_cons_zero, List.getElem_cons_succ, List.setIfInBounds_toArray, List.set_cons_zero, List.set_cons_succ]
                  refine' T_take (i := 11) (v := _) rfl (by kernel_rfl) (by kernel_rfl) (by kernel_rfl) (by kernel_rfl) (fun _ _ _ h => h) (by kernel_rfl) hS ?_ ?_
                  rotate_left 1
                  · intro Wv hW
                    obtain ⟨g0, g1, g2, g3⟩ := hW
                    go_simp
                    first | done | with_reducible rfl | omega
                  try simp only [Act.put, List.getElem_toArray, List.getElem_cons_zero, List.getElem_cons_succ, List.setIfInBounds_toArray, List.set_cons_zero, List.set_cons_succ]
                  refine' T_take (i := 12) (v := _) rfl (by kernel_rfl) (by kernel_rfl) (by kernel_rfl) (by kernel_rfl) (fun _ _ _ h => h) (by kernel_rfl) hS ?_ ?_
                  rotate_left 1
                  · intro Wv hW
                    obtain ⟨g0, g1, g2, g3⟩ := hW
                    go_simp
                    first | done | with_reducible rfl | omega
                  try simp only [Act.put, List.getElem_toArray, List.getElem_cons_zero, List.getElem_cons_succ, List.setIfInBounds_toArray, List.set_cons_zero, List.set_cons_succ]
                  refine T_ready (rs := [13]) (by kernel_rfl) (by simp) ?_
                  refine TReady.cons rfl (fun K hK => ?_) TReady.nil
                  try go_simp
                  refine HCL.out.mono ?_
                  rintro e w3 ⟨he0, hp⟩
                  have he : e = .returned (.bool true) := he0
                  subst he
                  have HPN := Lib.hid hp
                  have k3 := (hp.gh.race HK.out).cells.2.1
                  have k0 := hp.c0
                  have k1 := hp.c1
                  have k2 := hp.c3
                  clear hp he0
                  try go_simp
                  refine hK.out _ _ (fun _ => ⟨k1, k0, k2, k3⟩) (fun hS => ?_)
                  replace hS := hS (by decide)
                  clear hK K k0 k1 k2 k3
                  try simp only [Act.put, List.getElem_toArray, List.getElem_cons_zero, List.getElem_cons_succ, List.setIfInBounds_toArray, List.set_cons_zero, List.set_cons_succ]
                  refine' T_take (i := 14) (v := _) rfl (by kernel_rfl) (by kernel_rfl) (by kernel_rfl) (by kernel_rfl) (fun _ _ _ h => h) (by kernel_rfl) hS ?_ ?_
                  rotate_left 1
                  · intro Wv hW
                    obtain ⟨g0, g1, g2, g3⟩ := hW
                    go_simp
                    first | done | with_reducible rfl | omega
                  try simp only [Act.put, List.getElem_toArray, List.getElem_cons_zero, List.getElem_cons_succ, List.setIfInBounds_toArray, List.set_cons_zero, List.set_cons_succ]
                  refine T_done (by kernel_rfl) ?_ _
                  refine NoPanic.normal ?_
                  try go_simp
                  have r8 := (HPN.out.gh.race HK.out).cells
                  replace c0 := HPN.out.c0
                  replace c1 := HPN.out.c1
                  replace c3 := HPN.out.c3
                  replace r0 := r8.1
                  replace r1 := r8.2.1
                  replace r9 := r8.2.2.2.1
                  clear r8 hS
                  have HP := HPN
                  clear HPN
                  generalize w3 = We at *
                  clear na nb gc
                  obtain ⟨gc, gf⟩ := HP.out.gh.gv.cell (p := i) h1
                  have wg : IntKind.i64.wrap (s2.gv i + 1) = s2.gv i + 1 := IntWalk.i64_in _ (by have := HRG2.out i h1; omega)
                  have p1 := HP.out.setG HK.out i (s2.gv i + 1)
                  have c1b := p1.c1
                  have HP1 := Lib.hid p1
                  clear p1
                  go_upto_region 11 with fail
                  generalize (We.setCell ⟨k.gq, i, none⟩ (.int .i64 (s2.gv i + 1))) = Y1 at *
                  clear gc gf wg c0 c1 c3 r0 r1 r9 v0 v1 HP
                  obtain ⟨hc, hf⟩ := HP1.out.gh.hv.cell (k := t) ht
                  have wh : IntKind.i64.wrap (s2.hv t - 1) = s2.hv t - 1 := IntWalk.i64_in _ (by have := HRV2.out t; omega)
                  refine wp_region_noPanic ?_
                  have hS : (fun W' : World => Below Y1.heap.size Y1 W') Y1.drew := (Below.refl _ _).drew
                  refine wp_region_any (by kernel_rfl) (wpAny_of_T (S := fun W' : World => Below Y1.heap.size Y1 W') (m := 8) _ _ _ _ ?_)
                  refine' T_take (i := 0) (v := _) rfl (by kernel_rfl) (by kernel_rfl) (by kernel_rfl) (by kernel_rfl) (fun _ _ _ h => h) (by kernel_rfl) hS ?_ ?_
                  rotate_left 1
                  · intro Wv hW
                    have g0 := cell_of_ans hW c1b
                    go_simp
                    first | done | with_reducible rfl | omega
                  try simp only [Act.put, List.getElem_toArray, List.getElem_cons_zero, List.getElem_cons_succ, List.setIfInBounds_toArray, List.set_cons_zero, List.set_cons_succ]
                  refine' T_take (i := 1) (v := _) rfl (by kernel_rfl) (by kernel_rfl) (by kernel_rfl) (by kernel_rfl) (fun _ _ _ h => h) (by kernel_rfl) hS ?_ ?_
                  rotate_left 1
                  · intro Wv hW
                    go_simp
                    first | done | with_reducible rfl | omega
                  try simp only [Act.put, List.getElem_toArray, List.getElem_cons_zero, List.getElem_cons_succ, List.setIfInBounds_toArray, List.set_cons_zero, List.set_cons_succ]
                  refine' T_take (i := 2) (v := _) rfl (by kernel_rfl) (by kernel_rfl) (by kernel_rfl) (by kernel_rfl) (fun _ _ _ h => h) (by kernel_rfl) hS ?_ ?_
                  rotate_left 1
                  · intro Wv hW
                    go_simp
                    first | done | with_reducible rfl | omega
                  try simp only [Act.put, List.getElem_toArray, List.getElem_cons_zero, List.getElem_cons_succ, List.setIfInBounds_toArray, List.set_cons_zero, List.set_cons_succ]
                  refine' T_take (i := 3) (v := _) rfl (by kernel_rfl) (by kernel_rfl) (by kernel_rfl) (by kernel_rfl) (fun _ _ _ h => h) (by kernel_rfl) hS ?_ ?_
                  rotate_left 1
                  · intro Wv hW
                    go_simp
                    first | done | with_reducible rfl | omega
                  try simp only [Act.put, List.getElem_toArray, List.getElem_cons_zero, List.getElem_cons_succ, List.setIfInBounds_toArray, List.set_cons_zero, List.set_cons_succ]
                  refine' T_take (i := 4) (v := _) rfl (by kernel_rfl) (by kernel_rfl) (by kernel_rfl) (by kernel_rfl) (fun _ _ _ h => h) (by kernel_rfl) hS ?_ ?_
                  rotate_left 1
                  · intro Wv hW
                    have g1 := cell_of_ans hW hc
                    go_simp
                    first | done | with_reducible rfl | omega
                  try simp only [Act.put, List.getElem_toArray, List.getElem_cons_zero, List.getElem_cons_succ, List.setIfInBounds_toArray, List.set_cons_zero, List.set_cons_succ]
                  refine' T_take (i := 5) (v := _) rfl (by kernel_rfl) (by kernel_rfl) (by kernel_rfl) (by kernel_rfl) (fun _ _ _ h => h) (by kernel_rfl) hS ?_ ?_
                  rotate_left 1
                  · intro Wv hW
                    go_simp
                    first | done | with_reducible rfl | omega
                  try simp only [Act.put, List.getElem_toArray, List.getElem_cons_zero, List.getElem_cons_succ, List.setIfInBounds_toArray, List.set_cons_zero, List.set_cons_succ]
                  refine T_ready (rs := [6]) (by kernel_rfl) (by simp) ?_
                  refine TReady.cons rfl (fun K hK => ?_) TReady.nil
                  try go_simp
                  refine hK.out _ _ (fun _ => hS) (fun _ => ?_)
                  clear hK K
                  try simp only [Act.put, List.getElem_toArray, List.getElem_cons_zero, List.getElem_cons_succ, List.setIfInBounds_toArray, List.set_cons_zero, List.set_cons_succ]
                  refine' T_take (i := 7) (v := _) rfl (by kernel_rfl) (by kernel_rfl) (by kernel_rfl) (by kernel_rfl) (fun _ _ _ h => h) (by kernel_rfl) hS ?_ ?_
                  rotate_left 1
                  · intro Wv hW
                    go_simp
                    first | done | with_reducible rfl | omega
                  try simp only [Act.put, List.getElem_toArray, List.getElem_cons_zero, List.getElem_cons_succ, List.setIfInBounds_toArray, List.set_cons_zero, List.set_cons_succ]
                  refine T_ready (rs := [8]) (by kernel_rfl) (by simp) ?_
                  refine TReady.cons rfl (fun K hK => ?_) TReady.nil
                  try go_simp
                  refine hK.out _ _ (fun h => absurd h (by decide)) (fun _ => ?_)
                  clear hK K
                  try simp only [Act.put, List.getElem_toArray, List.getElem_cons_zero, List.getElem_cons_succ, List.setIfInBounds_toArray, List.set_cons_zero, List.set_cons_succ]
                  refine T_done (by kernel_rfl) ?_ _
                  refine NoPanic.normal ?_
                  try go_simp
                  go_upto_region 12 with fail
                  have p2 := (HP1.out.setH HK.out ht (s2.hv t - 1)).step HK.out (Below.refl _ _).drew
                  have c1d := p2.c1
                  have HP2 := Lib.hid p2
                  clear p2 hc hf wh c1b hS HP1
                  generalize (Y1.setCell ⟨k.hq, t, none⟩ (.int .i64 (s2.hv t - 1))).drew = Y2 at *
                  obtain ⟨hc, hf⟩ := HP2.out.gh.hv.cell (k := a) ho6
                  have wh : IntKind.i64.wrap (updI s2.hv t (s2.hv t - 1) a + 1) = updI s2.hv t (s2.hv t - 1) a + 1 := IntWalk.i64_in _ (by have := HRV2.out t; have := HRV2.out a; unfold updI; split <;> omega)
                  have p3 := (HP2.out.setH HK.out ho6 (updI s2.hv t (s2.hv t - 1) a + 1)).step HK.out (Below.refl _ _).drew
                  have HMV : Hid (k.R.move s2 i t = { sn := s2.sn, gv := updI s2.gv i (s2.gv i + 1), hv := updI (updI s2.hv t (s2.hv t - 1)) a (updI s2.hv t (s2.hv t - 1) a + 1) }) := by show _ = _; unfold Rc.move; rw [HOTH.out, HSTP.out]
                  have HP3 := Lib.hid p3
                  clear p3
                  try dsimp only at hc wh HP3
                  generalize updI s2.hv t (s2.hv t - 1) a = hx at *
                  refine wp_region_noPanic ?_
                  have hS : (fun W' : World => Below Y2.heap.size Y2 W') Y2.drew := (Below.refl _ _).drew
                  refine wp_region_any (by kernel_rfl) (wpAny_of_T (S := fun W' : World => Below Y2.heap.size Y2 W') (m := 8) _ _ _ _ ?_)
                  refine' T_take (i := 0) (v := _) rfl (by kernel_rfl) (by kernel_rfl) (by kernel_rfl) (by kernel_rfl) (fun _ _ _ h => h) (by kernel_rfl) hS ?_ ?_
                  rotate_left 1
                  · intro Wv hW
                    have g0 := cell_of_ans hW c1d
                    go_simp
                    first | done | with_reducible rfl | omega
                  try simp only [Act.put, List.getElem_toArray, List.getElem_cons_zero, List.getElem_cons_succ, List.setIfInBounds_toArray, List.set_cons_zero, List.set_cons_succ]
                  refine' T_take (i := 1) (v := _) rfl (by kernel_rfl) (by kernel_rfl) (by kernel_rfl) (by kernel_rfl) (fun _ _ _ h => h) (by kernel_rfl) hS ?_ ?_
                  rotate_left 1
                  · intro Wv hW
                    go_simp
                    first | done | with_reducible rfl | omega
                  try simp only [Act.put, List.getElem_toArray, List.getElem_cons_zero, List.getElem_cons_succ, List.setIfInBounds_toArray, List.set_cons_zero, List.set_cons_succ]
                  refine' T_take (i := 2) (v := _) rfl (by kernel_rfl) (by kernel_rfl) (by kernel_rfl) (by kernel_rfl) (fun _ _ _ h => h) (by kernel_rfl) hS ?_ ?_
                  rotate_left 1
                  · intro Wv hW
                    go_simp
                    first | done | with_reducible rfl | omega
                  try simp only [Act.put, List.getElem_toArray, List.getElem_cons_zero, List.getElem_cons_succ, List.setIfInBounds_toArray, List.set_cons_zero, List.set_cons_succ]
                  refine' T_take (i := 3) (v := _) rfl (by kernel_rfl) (by kernel_rfl) (by kernel_rfl) (by kernel_rfl) (fun _ _ _ h => h) (by kernel_rfl) hS ?_ ?_
                  rotate_left 1
                  · intro Wv hW
                    go_simp
                    first | done | with_reducible rfl | omega
                  try simp only [Act.put, List.getElem_toArray, List.getElem_cons_zero, List.getElem_cons_succ, List.setIfInBounds_toArray, List.set_cons_zero, List.set_cons_succ]
                  refine' T_take (i := 4) (v := _) rfl (by kernel_rfl) (by kernel_rfl) (by kernel_rfl) (by kernel_rfl) (fun _ _ _ h => h) (by kernel_rfl) hS ?_ ?_
                  rotate_left 1
                  · intro Wv hW
                    have g1 := cell_of_ans hW hc
                    go_simp
                    first | done | with_reducible rfl | omega
                  try simp only [Act.put, List.getElem_toArray, List.getElem_cons_zero, List.getElem_cons_succ, List.setIfInBounds_toArray, List.set_cons_zero, List.set_cons_succ]
                  refine' T_take (i := 5) (v := _) rfl (by kernel_rfl) (by kernel_rfl) (by kernel_rfl) (by kernel_rfl) (fun _ _ _ h => h) (by kernel_rfl) hS ?_ ?_
                  rotate_left 1
                  · intro Wv hW
                    go_simp
                    first | done | with_reducible rfl | omega
                  try simp only [Act.put, List.getElem_toArray, List.getElem_cons_zero, List.getElem_cons_succ, List.setIfInBounds_toArray, List.set_cons_zero, List.set_cons_succ]
                  refine T_ready (rs := [6]) (by kernel_rfl) (by simp) ?_
                  refine TReady.cons rfl (fun K hK => ?_) TReady.nil
                  try go_simp
                  refine hK.out _ _ (fun _ => hS) (fun _ => ?_)
                  clear hK K
                  try simp only [Act.put, List.getElem_toArray, List.getElem_cons_zero, List.getElem_cons_succ, List.setIfInBounds_toArray, List.set_cons_zero, List.set_cons_succ]
                  refine' T_take (i := 7) (v := _) rfl (by kernel_rfl) (by kernel_rfl) (by kernel_rfl) (by kernel_rfl) (fun _ _ _ h => h) (by kernel_rfl) hS ?_ ?_
                  rotate_left 1
                  · intro Wv hW
                    go_simp
                    first | done | with_reducible rfl | omega
                  try simp only [Act.put, List.getElem_toArray, List.getElem_cons_zero, List.getElem_cons_succ, List.setIfInBounds_toArray, List.set_cons_zero, List.set_cons_succ]
                  refine T_ready (rs := [8]) (by kernel_rfl) (by simp) ?_
                  refine TReady.cons rfl (fun K hK => ?_) TReady.nil
                  try go_simp
                  refine hK.out _ _ (fun h => absurd h (by decide)) (fun _ => ?_)
                  clear hK K
                  try simp only [Act.put, List.getElem_toArray, List.getElem_cons_zero, List.getElem_cons_succ, List.setIfInBounds_toArray, List.set_cons_zero, List.set_cons_succ]
                  refine T_done (by kernel_rfl) ?_ _
                  refine NoPanic.normal ?_
                  try go_simp
                  go_wp2_with fail
                  go_ret
                  rw [HRES.out, ← HTG.out, HT9.out]
                  refine ⟨rfl, ?_⟩
                  show PSt _ _ _ (k.R.move s2 i t)
                  rw [HMV.out]
                  exact HP3.out
      · have e1 : ((b : Int) == (t : Int)) = false := by simp; omega
        have fb : ((b : Int) != (t : Int)) = true := by simp [bne]; omega
        generalize Wb = Wc at *
        by_cases ea : a = t
        · have e2 : ((a : Int) == (t : Int)) = true := by simp [ea]
          have fa : ((a : Int) != (t : Int)) = false := by simp [ea]
          have HOTH : Hid (k.R.oth i t = b) := by show _ = _; unfold Rc.oth; rw [HBi.out, if_neg eb]
          have HGIV : Hid (k.R.giv s1 i t = s1.gv i) := by show _ = _; unfold Rc.giv; rw [HBi.out, if_neg eb]
          have HSTP : Hid (k.R.stp i t = -1) := by show _ = _; unfold Rc.stp; rw [HBi.out, if_neg eb]
          have hta : ¬ a = k.tm := by omega
          have ta : ((a : Int) == (k.tm : Int)) = false := by simp; omega
          by_cases htb : b = k.tm
          · have tb : ((b : Int) == (k.tm : Int)) = true := by simp [htb]
            have HSK := Lib.hid (Rc.loop_skip (R := k.R) (rec := k.R.passF f) (n := k.gs.length) (i := i) (t := t) (s := s1) h1 (.inr (.inr (.inl (by rw [HBi.out]; exact htb)))))
            clear htb
            go_upto_region 8 with fail
            go_quiet (fail)
            have hbq : Below Wc.heap.size Wc (Wc.drewN nq) := below_drewN (Below.refl _ _) nq
            replace c0 := cell_of_ans hbq c0
            replace c1 := cell_of_ans hbq c1
            replace c3 := cell_of_ans hbq c3
            replace r0 := cell_of_ans hbq r0
            replace r1 := cell_of_ans hbq r1
            replace r9 := cell_of_ans hbq r9
            replace gc := cell_of_ans hbq gc
            replace v0 := cell_of_ans hbq v0
            replace v1 := cell_of_ans hbq v1
            replace na := cell_of_ans hbq na
            replace nb := cell_of_ans hbq nb
            replace HP := Lib.hid (HP.out.step HK.out hbq)
            clear hbq
            generalize Wc.drewN nq = Wd at *
            go_wp2_with fail
            go_roundw
            case rel => exact ⟨i + 1, s1, by omega, by go_num, HP.out, HGE.out, HHE.out, HST.out, HFE.out, HSK.out.symm.trans HTG.out⟩
            case measure => simp [intOf]; omega
          · have tb : ((b : Int) == (k.tm : Int)) = false := by simp; omega
            by_cases hgz : s1.gv i = 0
            · have gz : (s1.gv i == 0) = true := by simp [hgz]
              have HSK := Lib.hid (Rc.loop_skip (R := k.R) (rec := k.R.passF f) (n := k.gs.length) (i := i) (t := t) (s := s1) h1 (.inr (.inr (.inr (.inl (by rw [HGIV.out]; exact hgz))))))
              clear hgz
              go_upto_region 8 with fail
              go_quiet (fail)
              have hbq : Below Wc.heap.size Wc (Wc.drewN nq) := below_drewN (Below.refl _ _) nq
              replace c0 := cell_of_ans hbq c0
              replace c1 := cell_of_ans hbq c1
              replace c3 := cell_of_ans hbq c3
              replace r0 := cell_of_ans hbq r0
              replace r1 := cell_of_ans hbq r1
              replace r9 := cell_of_ans hbq r9
              replace gc := cell_of_ans hbq gc
              replace v0 := cell_of_ans hbq v0
              replace v1 := cell_of_ans hbq v1
              replace na := cell_of_ans hbq na
              replace nb := cell_of_ans hbq nb
              replace HP := Lib.hid (HP.out.step HK.out hbq)
              clear hbq
              generalize Wc.drewN nq = Wd at *
              go_wp2_with fail
              go_roundw
              case rel => exact ⟨i + 1, s1, by omega, by go_num, HP.out, HGE.out, HHE.out, HST.out, HFE.out, HSK.out.symm.trans HTG.out⟩
              case measure => simp [intOf]; omega
            · have gz : (s1.gv i == 0) = false := by simp; omega
              cases hos : s1.sn b
              rotate_left 1
              · rw [hos] at nb
                have HSK := Lib.hid (Rc.loop_skip (R := k.R) (rec := k.R.passF f) (n := k.gs.length) (i := i) (t := t) (s := s1) h1 (.inr (.inr (.inr (.inr (by rw [HOTH.out]; exact hos))))))
                go_upto_region 8 with fail
                go_quiet (fail)
                have hbq : Below Wc.heap.size Wc (Wc.drewN nq) := below_drewN (Below.refl _ _) nq
                replace c0 := cell_of_ans hbq c0
                replace c1 := cell_of_ans hbq c1
                replace c3 := cell_of_ans hbq c3
                replace r0 := cell_of_ans hbq r0
                replace r1 := cell_of_ans hbq r1
                replace r9 := cell_of_ans hbq r9
                replace gc := cell_of_ans hbq gc
                replace v0 := cell_of_ans hbq v0
                replace v1 := cell_of_ans hbq v1
                replace na := cell_of_ans hbq na
                replace nb := cell_of_ans hbq nb
                replace HP := Lib.hid (HP.out.step HK.out hbq)
                clear hbq
                generalize Wc.drewN nq = Wd at *
                go_wp2_with fail
                go_roundw
                case rel => exact ⟨i + 1, s1, by omega, by go_num, HP.out, HGE.out, HHE.out, HST.out, HFE.out, HSK.out.symm.trans HTG.out⟩
                case measure => simp [intOf]; omega
              · rw [hos] at nb
                have ho6 := hb6
                have hotm := htb
                have hns : ¬ k.R.skp s1 i t := by
                  unfold Rc.skp
                  rw [HAi.out, HBi.out, HGIV.out, HOTH.out, hos]
                  rintro (⟨h, -⟩ | h | h | h | h)
                  · exact h ea
                  · exact hta h
                  · exact htb h
                  · exact hgz h
                  · cases h
                have HOK := Lib.hid (Rc.loop_go (R := k.R) (rec := k.R.passF f) (n := k.gs.length) (i := i) (t := t) (s := s1) h1 hns)
                have HTR := Lib.hid (fun s2 => Rc.loop_true (R := k.R) (rec := k.R.passF f) (n := k.gs.length) (i := i) (t := t) (s := s1) (s' := s2) h1 hns)
                have HFL := Lib.hid (fun s2 => Rc.loop_false (R := k.R) (rec := k.R.passF f) (n := k.gs.length) (i := i) (t := t) (s := s1) (s' := s2) h1 hns)
                rw [HOTH.out] at HOK HTR HFL
                clear hns
                go_upto_region 8 with fail
                go_quiet (fail)
                have hbq : Below Wc.heap.size Wc (Wc.drewN nq) := below_drewN (Below.refl _ _) nq
                replace c0 := cell_of_ans hbq c0
                replace c1 := cell_of_ans hbq c1
                replace c3 := cell_of_ans hbq c3
                replace r0 := cell_of_ans hbq r0
                replace r1 := cell_of_ans hbq r1
                replace r9 := cell_of_ans hbq r9
                replace gc := cell_of_ans hbq gc
                replace v0 := cell_of_ans hbq v0
                replace v1 := cell_of_ans hbq v1
                replace na := cell_of_ans hbq na
                replace nb := cell_of_ans hbq nb
                replace HP := Lib.hid (HP.out.step HK.out hbq)
                clear hbq
                generalize Wc.drewN nq = Wd at *
                obtain ⟨hvc, -⟩ := HP.out.gh.hv.cell (k := b) ho6
                have HRV1 : Hid (∀ u, -101 ≤ s1.hv u ∧ s1.hv u ≤ 200001) := fun u => by rw [HHE.out]; have := HHV.out u; omega
                have HRG1 : Hid (∀ j, j < k.gs.length → 0 ≤ s1.gv j ∧ s1.gv j ≤ 2) := fun j hj => by rw [HGE.out]; exact HRG.out j hj
                by_cases hlt : s1.hv b < k.rc
                · have hltd : decide (s1.hv b < k.rc) = true := decide_eq_true hlt
                  have HT9 := Lib.hid (HOK.out hlt)
                  clear HOK HTR HFL
                  go_upto_region 9 with fail
                  go_quiet (fail)
                  have hbq : Below Wd.heap.size Wd (Wd.drewN nq) := below_drewN (Below.refl _ _) nq
                  replace c0 := cell_of_ans hbq c0
                  replace c1 := cell_of_ans hbq c1
                  replace c3 := cell_of_ans hbq c3
                  replace r0 := cell_of_ans hbq r0
                  replace r1 := cell_of_ans hbq r1
                  replace r9 := cell_of_ans hbq r9
                  replace gc := cell_of_ans hbq gc
                  replace v0 := cell_of_ans hbq v0
                  replace v1 := cell_of_ans hbq v1
                  replace na := cell_of_ans hbq na
                  replace nb := cell_of_ans hbq nb
                  replace hvc := cell_of_ans hbq hvc
                  replace HP := Lib.hid (HP.out.step HK.out hbq)
                  clear hbq
                  generalize Wd.drewN nq = We at *
                  clear hvc hltd hlt
                  clear na nb gc
                  obtain ⟨gc, gf⟩ := HP.out.gh.gv.cell (p := i) h1
                  have wg : IntKind.i64.wrap (s1.gv i + -1) = s1.gv i + -1 := IntWalk.i64_in _ (by have := HRG1.out i h1; omega)
                  have p1 := HP.out.setG HK.out i (s1.gv i + -1)
                  have c1b := p1.c1
                  have HP1 := Lib.hid p1
                  clear p1
                  go_upto_region 11 with fail
                  generalize (We.setCell ⟨k.gq, i, none⟩ (.int .i64 (s1.gv i + -1))) = Y1 at *
                  clear gc gf wg c0 c1 c3 r0 r1 r9 v0 v1 HP
                  obtain ⟨hc, hf⟩ := HP1.out.gh.hv.cell (k := t) ht
                  have wh : IntKind.i64.wrap (s1.hv t - 1) = s1.hv t - 1 := IntWalk.i64_in _ (by have := HRV1.out t; omega)
                  refine wp_region_noPanic ?_
                  have hS : (fun W' : World => Below Y1.heap.size Y1 W') Y1.drew := (Below.refl _ _).drew
                  refine wp_region_any (by kernel_rfl) (wpAny_of_T (S := fun W' : World => Below Y1.heap.size Y1 W') (m := 8) _ _ _ _ ?_)
                  refine' T_take (i := 0) (v := _) rfl (by kernel_rfl) (by kernel_rfl) (by kernel_rfl) (by kernel_rfl) (fun _ _ _ h => h) (by kernel_rfl) hS ?_ ?_
                  rotate_left 1
                  · intro Wv hW
                    have g0 := cell_of_ans hW c1b
                    go_simp
                    first | done | with_reducible rfl | omega
                  try simp only [Act.put, List.getElem_toArray, List.getElem_cons_zero, List.getElem_cons_succ, List.setIfInBounds_toArray, List.set_cons_zero, List.set_cons_succ]
                  refine' T_take (i := 1) (v := _) rfl (by kernel_rfl) (by kernel_rfl) (by kernel_rfl) (by kernel_rfl) (fun _ _ _ h => h) (by kernel_rfl) hS ?_ ?_
                  rotate_left 1
                  · intro Wv hW
                    go_simp
                    first | done | with_reducible rfl | omega
                  try simp only [Act.put, List.getElem_toArray, List.getElem_cons_zero, List.getElem_cons_succ, List.setIfInBounds_toArray, List.set_cons_zero, List.set_cons_succ]
                  refine' T_take (i := 2) (v := _) rfl (by kernel_rfl) (by kernel_rfl) (by kernel_rfl) (by kernel_rfl) (fun _ _ _ h => h) (by kernel_rfl) hS ?_ ?_
                  rotate_left 1
                  · intro Wv hW
                    go_simp
                    first | done | with_reducible rfl | omega
                  try simp only [Act.put, List.getElem_toArray, List.getElem_cons_zero, List.getElem_cons_succ, List.setIfInBounds_toArray, List.set_cons_zero, List.set_cons_succ]
                  refine' T_take (i := 3) (v := _) rfl (by kernel_rfl) (by kernel_rfl) (by kernel_rfl) (by kernel_rfl) (fun _ _ _ h => h) (by kernel_rfl) hS ?_ ?_
                  rotate_left 1
                  · intro Wv hW
                    go_simp
                    first | done | with_reducible rfl | omega
                  try simp only [Act.put, List.getElem_toArray, List.getElem_cons_zero, List.getElem_cons_succ, List.setIfInBounds_toArray, List.set_cons_zero, List.set_cons_succ]
                  refine' T_take (i := 4) (v := _) rfl (by kernel_rfl) (by kernel_rfl) (by kernel_rfl) (by kernel_rfl) (fun _ _ _ h => h) (by kernel_rfl) hS ?_ ?_
                  rotate_left 1
                  · intro Wv hW
                    have g1 := cell_of_ans hW hc
                    go_simp
                    first | done | with_reducible rfl | omega
                  try simp only [Act.put, List.getElem_toArray, List.getElem_cons_zero, List.getElem_cons_succ, List.setIfInBounds_toArray, List.set_cons_zero, List.set_cons_succ]
                  refine' T_take (i := 5) (v := _) rfl (by kernel_rfl) (by kernel_rfl) (by kernel_rfl) (by kernel_rfl) (fun _ _ _ h => h) (by kernel_rfl) hS ?_ ?_
                  rotate_left 1
                  · intro Wv hW
                    go_simp
                    first | done | with_reducible rfl | omega
                  try simp only [Act.put, List.getElem_toArray, List.getElem_cons_zero, List.getElem_cons_succ, List.setIfInBounds_toArray, List.set_cons_zero, List.set_cons_succ]
                  refine T_ready (rs := [6]) (by kernel_rfl) (by simp) ?_
                  refine TReady.cons rfl (fun K hK => ?_) TReady.nil
                  try go_simp
                  refine hK.out _ _ (fun _ => hS) (fun _ => ?_)
                  clear hK K
                  try simp only [Act.put, List.getElem_toArray, List.getElem_cons_zero, List.getElem_cons_succ, List.setIfInBounds_toArray, List.set_cons_zero, List.set_cons_succ]
                  refine' T_take (i := 7) (v := _) rfl (by kernel_rfl) (by kernel_rfl) (by kernel_rfl) (by kernel_rfl) (fun _ _ _ h => h) (by kernel_rfl) hS ?_ ?_
                  rotate_left 1
                  · intro Wv hW
                    go_simp
                    first | done | with_reducible rfl | omega
                  try simp only [Act.put, List.getElem_toArray, List.getElem_cons_zero, List.getElem_cons_succ, List.setIfInBounds_toArray, List.set_cons_zero, List.set_cons_succ]
                  refine T_ready (rs := [8]) (by kernel_rfl) (by simp) ?_
                  refine TReady.cons rfl (fun K hK => ?_) TReady.nil
                  try go_simp
                  refine hK.out _ _ (fun h => absurd h (by decide)) (fun _ => ?_)
                  clear hK K
                  try simp only [Act.put, List.getElem_toArray, List.getElem_cons_zero, List.getElem_cons_succ, List.setIfInBounds_toArray, List.set_cons_zero, List.set_cons_succ]
                  refine T_done (by kernel_rfl) ?_ _
                  refine NoPanic.normal ?_
                  try go_simp
                  go_upto_region 12 with fail
                  have p2 := (HP1.out.setH HK.out ht (s1.hv t - 1)).step HK.out (Below.refl _ _).drew
                  have c1d := p2.c1
                  have HP2 := Lib.hid p2
                  clear p2 hc hf wh c1b hS HP1
                  generalize (Y1.setCell ⟨k.hq, t, none⟩ (.int .i64 (s1.hv t - 1))).drew = Y2 at *
                  obtain ⟨hc, hf⟩ := HP2.out.gh.hv.cell (k := b) ho6
                  have wh : IntKind.i64.wrap (updI s1.hv t (s1.hv t - 1) b + 1) = updI s1.hv t (s1.hv t - 1) b + 1 := IntWalk.i64_in _ (by have := HRV1.out t; have := HRV1.out b; unfold updI; split <;> omega)
                  have p3 := (HP2.out.setH HK.out ho6 (updI s1.hv t (s1.hv t - 1) b + 1)).step HK.out (Below.refl _ _).drew
                  have HMV : Hid (k.R.move s1 i t = { sn := s1.sn, gv := updI s1.gv i (s1.gv i + -1), hv := updI (updI s1.hv t (s1.hv t - 1)) b (updI s1.hv t (s1.hv t - 1) b + 1) }) := by show _ = _; unfold Rc.move; rw [HOTH.out, HSTP.out]
                  have HP3 := Lib.hid p3
                  clear p3
                  try dsimp only at hc wh HP3
                  generalize updI s1.hv t (s1.hv t - 1) b = hx at *
                  refine wp_region_noPanic ?_
                  have hS : (fun W' : World => Below Y2.heap.size Y2 W') Y2.drew := (Below.refl _ _).drew
                  refine wp_region_any (by kernel_rfl) (wpAny_of_T (S := fun W' : World => Below Y2.heap.size Y2 W') (m := 8) _ _ _ _ ?_)
                  refine' T_take (i := 0) (v := _) rfl (by kernel_rfl) (by kernel_rfl) (by kernel_rfl) (by kernel_rfl) (fun _ _ _ h => h) (by kernel_rfl) hS ?_ ?_
                  rotate_left 1
                  · intro Wv hW
                    have g0 := cell_of_ans hW c1d
                    go_simp
                    first | done | with_reducible rfl | omega
                  try simp only [Act.put, List.getElem_toArray, List.getElem_cons_zero, List.getElem_cons_succ, List.setIfInBounds_toArray, List.set_cons_zero, List.set_cons_succ]
                  refine' T_take (i := 1) (v := _) rfl (by kernel_rfl) (by kernel_rfl) (by kernel_rfl) (by kernel_rfl) (fun _ _ _ h => h) (by kernel_rfl) hS ?_ ?_
                  rotate_left 1
                  · intro Wv hW
                    go_simp
                    first | done | with_reducible rfl | omega
                  try simp only [Act.put, List.getElem_toArray, List.getElem_cons_zero, List.getElem_cons_succ, List.setIfInBounds_toArray, List.set_cons_zero, List.set_cons_succ]
                  refine' T_take (i := 2) (v := _) rfl (by kernel_rfl) (by kernel_rfl) (by kernel_rfl) (by kernel_rfl) (fun _ _ _ h => h) (by kernel_rfl) hS ?_ ?_
                  rotate_left 1
                  · intro Wv hW
                    go_simp
                    first | done | with_reducible rfl | omega
                  try simp only [Act.put, List.getElem_toArray, List.getElem_cons_zero, List.getElem_cons_succ, List.setIfInBounds_toArray, List.set_cons_zero, List.set_cons_succ]
                  refine' T_take (i := 3) (v := _) rfl (by kernel_rfl) (by kernel_rfl) (by kernel_rfl) (by kernel_rfl) (fun _ _ _ h => h) (by kernel_rfl) hS ?_ ?_
                  rotate_left 1
                  · intro Wv hW
                    go_simp
                    first | done | with_reducible rfl | omega
                  try simp only [Act.put, List.getElem_toArray, List.getElem_cons_zero, List.getElem_cons_succ, List.setIfInBounds_toArray, List.set_cons_zero, List.set_cons_succ]
                  refine' T_take (i := 4) (v := _) rfl (by kernel_rfl) (by kernel_rfl) (by kernel_rfl) (by kernel_rfl) (fun _ _ _ h => h) (by kernel_rfl) hS ?_ ?_
                  rotate_left 1
                  · intro Wv hW
                    have g1 := cell_of_ans hW hc
                    go_simp
                    first | done | with_reducible rfl | omega
                  try simp only [Act.put, List.getElem_toArray, List.getElem_cons_zero, List.getElem_cons_succ, List.setIfInBounds_toArray, List.set_cons_zero, List.set_cons_succ]
                  refine' T_take (i := 5) (v := _) rfl (by kernel_rfl) (by kernel_rfl) (by kernel_rfl) (by kernel_rfl) (fun _ _ _ h => h) (by kernel_rfl) hS ?_ ?_
                  rotate_left 1
                  · intro Wv hW
                    go_simp
                    first | done | with_reducible rfl | omega
                  try simp only [Act.put, List.getElem_toArray, List.getElem_cons_zero, List.getElem_cons_succ, List.setIfInBounds_toArray, List.set_cons_zero, List.set_cons_succ]
                  refine T_ready (rs := [6]) (by kernel_rfl) (by simp) ?_
                  refine TReady.cons rfl (fun K hK => ?_) TReady.nil
                  try go_simp
                  refine hK.out _ _ (fun _ => hS) (fun _ => ?_)
                  clear hK K
                  try simp only [Act.put, List.getElem_toArray, List.getElem_cons_zero, List.getElem_cons_succ, List.setIfInBounds_toArray, List.set_cons_zero, List.set_cons_succ]
                  refine' T_take (i := 7) (v := _) rfl (by kernel_rfl) (by kernel_rfl) (by kernel_rfl) (by kernel_rfl) (fun _ _ _ h => h) (by kernel_rfl) hS ?_ ?_
                  rotate_left 1
                  · intro Wv hW
                    go_simp
                    first | done | with_reducible rfl | omega
                  try simp only [Act.put, List.getElem_toArray, List.getElem_cons_zero, List.getElem_cons_succ, List.setIfInBounds_toArray, List.set_cons_zero, List.set_cons_succ]
                  refine T_ready (rs := [8]) (by kernel_rfl) (by simp) ?_
                  refine TReady.cons rfl (fun K hK => ?_) TReady.nil
                  try go_simp
                  refine hK.out _ _ (fun h => absurd h (by decide)) (fun _ => ?_)
                  clear hK K
                  try simp only [Act.put, List.getElem_toArray, List.getElem_cons_zero, List.getElem_cons_succ, List.setIfInBounds_toArray, List.set_cons_zero, List.set_cons_succ]
                  refine T_done (by kernel_rfl) ?_ _
                  refine NoPanic.normal ?_
                  try go_simp
                  go_wp2_with fail
                  go_ret
                  rw [HRES.out, ← HTG.out, HT9.out]
                  refine ⟨rfl, ?_⟩
                  show PSt _ _ _ (k.R.move s1 i t)
                  rw [HMV.out]
                  exact HP3.out
                · have hltd : decide (s1.hv b < k.rc) = false := decide_eq_false hlt
                  have HCL := Lib.hid (ih Wd.drew b s1 (HP.out.step HK.out (Below.refl _ _).drew) ho6 hotm hos HFE.out (by omega) HRG1.out (fun u => by rw [HHE.out]; exact HHV.out u))
                  have HPO := Lib.hid (Rc.pass_ok (k.ok HK.out) f b s1 ho6 hotm hos HFE.out (show k.rc ≤ s1.hv b by omega) HRG1.out)
                  obtain ⟨⟨bb, s2⟩, hres⟩ : ∃ q, k.R.passF f b s1 = q := ⟨_, rfl⟩
                  rw [hres] at HCL HPO
                  have HTR2 := Lib.hid (fun e => HTR.out s2 hlt (hres.trans e))
                  have HFL2 := Lib.hid (fun e => HFL.out s2 hlt (hres.trans e))
                  clear HOK HTR HFL hres
                  clear hlt
                  have HVD := Lib.hid hvc
                  have US := Lib.hid (show Wd.drew.cell? ⟨k.hq, b, none⟩ = some (.int .i64 (s1.hv b)) from hvc)
                  go_upto_region 9 with fail
                  cases bb
                  · have HL9 := Lib.hid (HFL2.out rfl)
                    obtain ⟨hst2, hsn2⟩ := HPO.out.2 rfl
                    have HS2 := Lib.hid hst2
                    clear hst2 hsn2 HPO HTR2 HFL2
                    refine wp_region_noPanic ?_
                    have hS : (fun W' : World => W'.cell? ⟨b0 + 1, 0, none⟩ = some (.pointer (some ⟨k.hq, 0, none⟩)) ∧ W'.cell? ⟨b0, 0, none⟩ = some (.pointer (some ⟨k.q, 0, none⟩)) ∧ W'.cell? ⟨b0 + 3, 0, none⟩ = some (.func (.func 112) #[] #[.pointer (some ⟨b0 + 2, 0, none⟩), .pointer (some ⟨b0, 0, none⟩), .pointer (some ⟨b0 + 1, 0, none⟩), .pointer (some ⟨b0 + 3, 0, none⟩)]) ∧ W'.cell? ⟨k.q, 1, none⟩ = some (.int .i64 k.rc)) Wd.drew := ⟨c1, c0, c3, r1⟩
                    refine wp_region_any (by kernel_rfl) (wpAny_of_T (S := fun W' : World => W'.cell? ⟨b0 + 1, 0, none⟩ = some (.pointer (some ⟨k.hq, 0, none⟩)) ∧ W'.cell? ⟨b0, 0, none⟩ = some (.pointer (some ⟨k.q, 0, none⟩)) ∧ W'.cell? ⟨b0 + 3, 0, none⟩ = some (.func (.func 112) #[] #[.pointer (some ⟨b0 + 2, 0, none⟩), .pointer (some ⟨b0, 0, none⟩), .pointer (some ⟨b0 + 1, 0, none⟩), .pointer (some ⟨b0 + 3, 0, none⟩)]) ∧ W'.cell? ⟨k.q, 1, none⟩ = some (.int .i64 k.rc)) (m := 15) _ _ _ _ ?_)
                    refine' T_take (i := 0) (v := _) rfl (by kernel_rfl) (by kernel_rfl) (by kernel_rfl) (by kernel_rfl) (fun _ _ _ h => h) (by kernel_rfl) hS ?_ ?_
                    rotate_left 1
                    · intro Wv hW
                      obtain ⟨g0, g1, g2, g3⟩ := hW
                      go_simp
                      first | done | with_reducible rfl | omega
                    try simp only [Act.put, List.getElem_toArray, List.getElem_cons_zero, List.getElem_cons_succ, List.setIfInBounds_toArray, List.set_cons_zero, List.set_cons_succ]
                    refine' T_take (i := 1) (v := _) rfl (by kernel_rfl) (by kernel_rfl) (by kernel_rfl) (by kernel_rfl) (fun _ _ _ h => h) (by kernel_rfl) hS ?_ ?_
                    rotate_left 1
                    · intro Wv hW
                      obtain ⟨g0, g1, g2, g3⟩ := hW
                      go_simp
                      first | done | with_reducible rfl | omega
                    try simp only [Act.put, List.getElem_toArray, List.getElem_cons_zero, List.getElem_cons_succ, List.setIfInBounds_toArray, List.set_cons_zero, List.set_cons_succ]
                    refine' T_take (i := 2) (v := _) rfl (by kernel_rfl) (by kernel_rfl) (by kernel_rfl) (by kernel_rfl) (fun _ _ _ h => h) (by kernel_rfl) hS ?_ ?_
                    rotate_left 1
                    · intro Wv hW
                      obtain ⟨g0, g1, g2, g3⟩ := hW
                      go_simp
                      first | done | with_reducible rfl | omega
                    try simp only [Act.put, List.getElem_toArray, List.getElem_cons_zero, List.getElem_cons_succ, List.setIfInBounds_toArray, List.set_cons_zero, List.set_cons_succ]
                    refine' T_take (i := 3) (v := _) rfl (by kernel_rfl) (by kernel_rfl) (by kernel_rfl) (by kernel_rfl) (fun _ _ _ h => h) (by kernel_rfl) hS ?_ ?_
                    rotate_left 1
                    · intro Wv hW
                      obtain ⟨g0, g1, g2, g3⟩ := hW
                      go_simp
                      first | done | with_reducible rfl | omega
                    try simp only [Act.put, List.getElem_toArray, List.getElem_cons_zero, List.getElem_cons_succ, List.setIfInBounds_toArray, List.set_cons_zero, List.set_cons_succ]
                    refine' T_take (i := 5) (v := _) rfl (by kernel_rfl) (by kernel_rfl) (by kernel_rfl) (by kernel_rfl) (fun _ _ _ h => h) (by kernel_rfl) hS ?_ ?_
                    rotate_left 1
                    · intro Wv hW
                      obtain ⟨g0, g1, g2, g3⟩ := hW
                      go_simp
                      first | done | with_reducible rfl | omega
                    try simp only [Act.put, List.getElem_toArray, List.getElem_cons_zero, List.getElem_cons_succ, List.setIfInBounds_toArray, List.set_cons_zero, List.set_cons_succ]
                    refine' T_take (i := 6) (v := _) rfl (by kernel_rfl) (by kernel_rfl) (by kernel_rfl) (by kernel_rfl) (fun _ _ _ h => h) (by kernel_rfl) hS ?_ ?_
                    rotate_left 1
                    · intro Wv hW
                      obtain ⟨g0, g1, g2, g3⟩ := hW
                      go_simp
                      first | done | with_reducible rfl | omega
                    try simp only [Act.put, List.getElem_toArray, List.getElem_cons_zero, List.getElem_cons_succ, List.setIfInBounds_toArray, List.set_cons_zero, List.set_cons_succ]
                    refine' T_take (i := 7) (v := _) rfl (by kernel_rfl) (by kernel_rfl) (by kernel_rfl) (by kernel_rfl) (fun _ _ _ h => h) (by kernel_rfl) hS ?_ ?_
                    rotate_left 1
                    · intro Wv hW
                      obtain ⟨g0, g1, g2, g3⟩ := hW
                      go_simp
                      first | done | with_reducible rfl | omega
                    try simp only [Act.put, List.getElem_toArray, List.getElem_cons_zero, List.getElem_cons_succ, List.setIfInBounds_toArray, List.set_cons_zero, List.set_cons_succ]
                    refine' T_take (i := 8) (v := _) rfl (by kernel_rfl) (by kernel_rfl) (by kernel_rfl) (by kernel_rfl) (fun _ _ _ h => h) (by kernel_rfl) hS ?_ ?_
                    rotate_left 1
                    · intro Wv hW
                      obtain ⟨g0, g1, g2, g3⟩ := hW
                      go_simp
                      first | done | with_reducible rfl | omega
                    try simp only [Act.put, List.getElem_toArray, List.getElem_cons_zero, List.getElem_cons_succ, List.setIfInBounds_toArray, List.set_cons_zero, List.set_cons_succ]
                    refine T_ready (rs := [4]) (by kernel_rfl) (by simp) ?_
                    refine TReady.cons rfl (fun K hK => ?_) TReady.nil
                    have hvd := US.out
                    try go_simp
                    refine hK.out _ _ (fun _ => hS) (fun _ => ?_)
                    clear hK K hvd
                    try simp only [Act.put, List.getElem_toArray, List.getElem_cons_zero, List.getElem_cons_succ, List.setIfInBounds_toArray, List.set_cons_zero, List.set_cons_succ]
                    refine' T_take (i := 9) (v := .bool false) rfl (by kernel_rfl) (by kernel_rfl) (by kernel_rfl) (by kernel_rfl) (fun _ _ _ h => h) (by kernel_rfl) hS ?_ ?_
                    skip
                    · intro Wv hW
                      obtain ⟨g0, g1, g2, g3⟩ := hW
                      go_simp
                      first | done | with_reducible rfl | omega
                    try simp only [Act.put, List.getElem_toArray, List.getElem_cons_zero, List.getElem_cons_succ, List.setIfInBounds_toArray, List.set_cons_zero, List.set_cons_succ]
                    refine' T_take (i := 10) (v := .bool false) rfl (by kernel_rfl) (by kernel_rfl) (by kernel_rfl) (by kernel_rfl) (fun _ _ _ h => h) (by kernel_rfl) hS ?_ ?_
                    skip
                    · intro Wv hW
                      obtain ⟨g0, g1, g2, g3⟩ := hW
                      go_simp
                      first | done | with_reducible rfl | omega
                    try simp only [Act.put, List.getElem_toArray, List.getElem_cons_zero, List.getElem_cons_succ, List.setIfInBounds_toArray, List.set_cons_zero, List.set_cons_succ]
                    refine' T_take (i := 11) (v := _) rfl (by kernel_rfl) (by kernel_rfl) (by kernel_rfl) (by kernel_rfl) (fun _ _ _ h => h) (by kernel_rfl) hS ?_ ?_
                    rotate_left 1
                    · intro Wv hW
                      obtain ⟨g0, g1, g2, g3⟩ := hW
                      go_simp
                      first | done | with_reducible rfl | omega
                    try simp only [Act.put, List.getElem_toArray, List.getElem_cons_zero, List.getElem_cons_succ, List.setIfInBounds_toArray, List.set_cons_zero, List.set_cons_succ]
                    refine' T_take (i := 12) (v := _) rfl (by kernel_rfl) (by kernel_rfl) (by kernel_rfl) (by kernel_rfl) (fun _ _ _ h => h) (by kernel_rfl) hS ?_ ?_
                    rotate_left 1
                    · intro Wv hW
                      obtain ⟨g0, g1, g2, g3⟩ := hW
                      go_simp
                      first | done | with_reducible rfl | omega
                    try simp only [Act.put, List.getElem_toArray, List.getElem_cons_zero, List.getElem_cons_succ, List.setIfInBounds_toArray, List.set_cons_zero, List.set_cons_succ]
                    refine T_ready (rs := [13]) (by kernel_rfl) (by simp) ?_
                    refine TReady.cons rfl (fun K hK => ?_) TReady.nil
                    try go_simp
                    refine HCL.out.mono ?_
                    rintro e w3 ⟨he0, hp⟩
                    have he : e = .returned (.bool false) := he0
                    subst he
                    have HPN := Lib.hid hp
                    have k3 := (hp.gh.race HK.out).cells.2.1
                    have k0 := hp.c0
                    have k1 := hp.c1
                    have k2 := hp.c3
                    clear hp he0
                    try go_simp
                    refine hK.out _ _ (fun _ => ⟨k1, k0, k2, k3⟩) (fun hS => ?_)
                    replace hS := hS (by decide)
                    clear hK K k0 k1 k2 k3
                    try simp only [Act.put, List.getElem_toArray, List.getElem_cons_zero, List.getElem_cons_succ, List.setIfInBounds_toArray, List.set_cons_zero, List.set_cons_succ]
                    refine' T_take (i := 14) (v := _) rfl (by kernel_rfl) (by kernel_rfl) (by kernel_rfl) (by kernel_rfl) (fun _ _ _ h => h) (by kernel_rfl) hS ?_ ?_
                    rotate_left 1
                    · intro Wv hW
                      obtain ⟨g0, g1, g2, g3⟩ := hW
                      go_simp
                      first | done | with_reducible rfl | omega
                    try simp only [Act.put, List.getElem_toArray, List.getElem_cons_zero, List.getElem_cons_succ, List.setIfInBounds_toArray, List.set_cons_zero, List.set_cons_succ]
                    refine T_done (by kernel_rfl) ?_ _
                    refine NoPanic.normal ?_
                    try go_simp
                    go_wp2_with fail
                    go_roundw
                    case rel =>
                      exact ⟨i + 1, s2, by omega, by go_num, HPN.out, HS2.out.gv.trans HGE.out, HS2.out.hv.trans HHE.out, HS2.out.up t HST.out, Nat.le_trans (Rc.free_mono HS2.out.up 6) HFE.out, HL9.out.symm.trans HTG.out⟩
                    case measure => simp [intOf]; omega
                  · have HT9 := Lib.hid (HTR2.out rfl)
                    obtain ⟨z, hw2⟩ := HPO.out.1 rfl
                    have HRG2 : Hid (∀ j, j < k.gs.length → 0 ≤ s2.gv j ∧ s2.gv j ≤ 2) := fun j hj => hw2.rg j hj
                    have HRV2 : Hid (∀ u, -101 ≤ s2.hv u ∧ s2.hv u ≤ 200001) := fun u => by have h8 := hw2.hv u; have h7 : s1.hv u = s.hv u := congrFun HHE.out u; have h9 := HHV.out u; unfold Rc.one at h8; revert h8; dsimp only; split <;> split <;> intro h8 <;> omega
                    clear hw2 HPO HTR2 HFL2
                    refine wp_region_noPanic ?_
                    have hS : (fun W' : World => W'.cell? ⟨b0 + 1, 0, none⟩ = some (.pointer (some ⟨k.hq, 0, none⟩)) ∧ W'.cell? ⟨b0, 0, none⟩ = some (.pointer (some ⟨k.q, 0, none⟩)) ∧ W'.cell? ⟨b0 + 3, 0, none⟩ = some (.func (.func 112) #[] #[.pointer (some ⟨b0 + 2, 0, none⟩), .pointer (some ⟨b0, 0, none⟩), .pointer (some ⟨b0 + 1, 0, none⟩), .pointer (some ⟨b0 + 3, 0, none⟩)]) ∧ W'.cell? ⟨k.q, 1, none⟩ = some (.int .i64 k.rc)) Wd.drew := ⟨c1, c0, c3, r1⟩
                    refine wp_region_any (by kernel_rfl) (wpAny_of_T (S := fun W' : World => W'.cell? ⟨b0 + 1, 0, none⟩ = some (.pointer (some ⟨k.hq, 0, none⟩)) ∧ W'.cell? ⟨b0, 0, none⟩ = some (.pointer (some ⟨k.q, 0, none⟩)) ∧ W'.cell? ⟨b0 + 3, 0, none⟩ = some (.func (.func 112) #[] #[.pointer (some ⟨b0 + 2, 0, none⟩), .pointer (some ⟨b0, 0, none⟩), .pointer (some ⟨b0 + 1, 0, none⟩), .pointer (some ⟨b0 + 3, 0, none⟩)]) ∧ W'.cell? ⟨k.q, 1, none⟩ = some (.int .i64 k.rc)) (m := 15) _ _ _ _ ?_)
                    refine' T_take (i := 0) (v := _) rfl (by kernel_rfl) (by kernel_rfl) (by kernel_rfl) (by kernel_rfl) (fun _ _ _ h => h) (by kernel_rfl) hS ?_ ?_
                    rotate_left 1
                    · intro Wv hW
                      obtain ⟨g0, g1, g2, g3⟩ := hW
                      go_simp
                      first | done | with_reducible rfl | omega
                    try simp only [Act.put, List.getElem_toArray, List.getElem_cons_zero, List.getElem_cons_succ, List.setIfInBounds_toArray, List.set_cons_zero, List.set_cons_succ]
                    refine' T_take (i := 1) (v := _) rfl (by kernel_rfl) (by kernel_rfl) (by kernel_rfl) (by kernel_rfl) (fun _ _ _ h => h) (by kernel_rfl) hS ?_ ?_
                    rotate_left 1
                    · intro Wv hW
                      obtain ⟨g0, g1, g2, g3⟩ := hW
                      go_simp
                      first | done | with_reducible rfl | omega
                    try simp only [Act.put, List.getElem_toArray, List.getElem_cons_zero, List.getElem_cons_succ, List.setIfInBounds_toArray, List.set_cons_zero, List.set_cons_succ]
                    refine' T_take (i := 2) (v := _) rfl (by kernel_rfl) (by kernel_rfl) (by kernel_rfl) (by kernel_rfl) (fun _ _ _ h => h) (by kernel_rfl) hS ?_ ?_
                    rotate_left 1
                    · intro Wv hW
                      obtain ⟨g0, g1, g2, g3⟩ := hW
                      go_simp
                      first | done | with_reducible rfl | omega
                    try simp only [Act.put, List.getElem_toArray, List.getElem_cons_zero, List.getElem_cons_succ, List.setIfInBounds_toArray, List.set_cons_zero, List.set_cons_succ]
                    refine' T_take (i := 3) (v := _) rfl (by kernel_rfl) (by kernel_rfl) (by kernel_rfl) (by kernel_rfl) (fun _ _ _ h => h) (by kernel_rfl) hS ?_ ?_
                    rotate_left 1
                    · intro Wv hW
                      obtain ⟨g0, g1, g2, g3⟩ := hW
                      go_simp
                      first | done | with_reducible rfl | omega
                    try simp only [Act.put, List.getElem_toArray, List.getElem_cons_zero, List.getElem_cons_succ, List.setIfInBounds_toArray, List.set_cons_zero, List.set_cons_succ]
                    refine' T_take (i := 5) (v := _) rfl (by kernel_rfl) (by kernel_rfl) (by kernel_rfl) (by kernel_rfl) (fun _ _ _ h => h) (by kernel_rfl) hS ?_ ?_
                    rotate_left 1
                    · intro Wv hW
                      obtain ⟨g0, g1, g2, g3⟩ := hW
                      go_simp
                      first | done | with_reducible rfl | omega
                    try simp only [Act.put, List.getElem_toArray, List.getElem_cons_zero, List.getElem_cons_succ, List.setIfInBounds_toArray, List.set_cons_zero, List.set_cons_succ]
                    refine' T_take (i := 6) (v := _) rfl (by kernel_rfl) (by kernel_rfl) (by kernel_rfl) (by kernel_rfl) (fun _ _ _ h => h) (by kernel_rfl) hS ?_ ?_
                    rotate_left 1
                    · intro Wv hW
                      obtain ⟨g0, g1, g2, g3⟩ := hW
                      go_simp
                      first | done | with_reducible rfl | omega
                    try simp only [Act.put, List.getElem_toArray, List.getElem_cons_zero, List.getElem_cons_succ, List.setIfInBounds_toArray, List.set_cons_zero, List.set_cons_succ]
                    refine' T_take (i := 7) (v := _) rfl (by kernel_rfl) (by kernel_rfl) (by kernel_rfl) (by kernel_rfl) (fun _ _ _ h => h) (by kernel_rfl) hS ?_ ?_
                    rotate_left 1
                    · intro Wv hW
                      obtain ⟨g0, g1, g2, g3⟩ := hW
                      go_simp
                      first | done | with_reducible rfl | omega
                    try simp only [Act.put, List.getElem_toArray, List.getElem_cons_zero, List.getElem_cons_succ, List.setIfInBounds_toArray, List.set_cons_zero, List.set_cons_succ]
                    refine' T_take (i := 8) (v := _) rfl (by kernel_rfl) (by kernel_rfl) (by kernel_rfl) (by kernel_rfl) (fun _ _ _ h => h) (by kernel_rfl) hS ?_ ?_
                    rotate_left 1
                    · intro Wv hW
                      obtain ⟨g0, g1, g2, g3⟩ := hW
                      go_simp
                      first | done | with_reducible rfl | omega
                    try simp only [Act.put, List.getElem_toArray, List.getElem_cons_zero, List.getElem_cons_succ, List.setIfInBounds_toArray, List.set_cons_zero, List.set_cons_succ]
                    refine T_ready (rs := [4]) (by kernel_rfl) (by simp) ?_
                    refine TReady.cons rfl (fun K hK => ?_) TReady.nil
                    have hvd := US.out
                    try go_simp
                    refine hK.out _ _ (fun _ => hS) (fun _ => ?_)
                    clear hK K hvd
                    try simp only [Act.put, List.getElem_toArray, List.getElem_cons_zero, List.getElem_cons_succ, List.setIfInBounds_toArray, List.set_cons_zero, List.set_cons_succ]
                    refine' T_take (i := 9) (v := .bool false) rfl (by kernel_rfl) (by kernel_rfl) (by kernel_rfl) (by kernel_rfl) (fun _ _ _ h => h) (by kernel_rfl) hS ?_ ?_
                    skip
                    · intro Wv hW
                      obtain ⟨g0, g1, g2, g3⟩ := hW
                      go_simp
                      first | done | with_reducible rfl | omega
                    try simp only [Act.put, List.getElem_toArray, List.getElem_cons_zero, List.getElem_cons_succ, List.setIfInBounds_toArray, List.set_cons_zero, List.set_cons_succ]
                    refine' T_take (i := 10) (v := .bool false) rfl (by kernel_rfl) (by kernel_rfl) (by kernel_rfl) (by kernel_rfl) (fun _ _ _ h => h) (by kernel_rfl) hS ?_ ?_
                    skip
                    · intro Wv hW
                      obtain ⟨g0, g1, g2, g3⟩ := hW
                      go_simp
                      first | done | with_reducible rfl | omega
                    try simp only [Act.put, List.getElem_toArray, List.getElem_cons_zero, List.getElem_cons_succ, List.setIfInBounds_toArray, List.set_cons_zero, List.set_cons_succ]
                    refine' T_take (i := 11) (v := _) rfl (by kernel_rfl) (by kernel_rfl) (by kernel_rfl) (by kernel_rfl) (fun _ _ _ h => h) (by kernel_rfl) hS ?_ ?_
                    rotate_left 1
                    · intro Wv hW
                      obtain ⟨g0, g1, g2, g3⟩ := hW
                      go_simp
                      first | done | with_reducible rfl | omega
                    try simp only [Act.put, List.getElem_toArray, List.getElem_cons_zero, List.getElem_cons_succ, List.setIfInBounds_toArray, List.set_cons_zero, List.set_cons_succ]
                    refine' T_take (i := 12) (v := _) rfl (by kernel_rfl) (by kernel_rfl) (by kernel_rfl) (by kernel_rfl) (fun _ _ _ h => h) (by kernel_rfl) hS ?_ ?_
                    rotate_left 1
                    · intro Wv hW
                      obtain ⟨g0, g1, g2, g3⟩ := hW
                      go_simp
                      first | done | with_reducible rfl | omega
                    try simp only [Act.put, List.getElem_toArray, List.getElem_cons_zero, List.getElem_cons_succ, List.setIfInBounds_toArray, List.set_cons_zero, List.set_cons_succ]
                    refine T_ready (rs := [13]) (by kernel_rfl) (by simp) ?_
                    refine TReady.cons rfl (fun K hK => ?_) TReady.nil
                    try go_simp
                    refine HCL.out.mono ?_
                    rintro e w3 ⟨he0, hp⟩
                    have he : e = .returned (.bool true) := he0
                    subst he
                    have HPN := Lib.hid hp
                    have k3 := (hp.gh.race HK.out).cells.2.1
                    have k0 := hp.c0
                    have k1 := hp.c1
                    have k2 := hp.c3
                    clear hp he0
                    try go_simp
                    refine hK.out _ _ (fun _ => ⟨k1, k0, k2, k3⟩) (fun hS => ?_)
                    replace hS := hS (by decide)
                    clear hK K k0 k1 k2 k3
                    try simp only [Act.put, List.getElem_toArray, List.getElem_cons_zero, List.getElem_cons_succ, List.setIfInBounds_toArray, List.set_cons_zero, List.set_cons_succ]
                    refine' T_take (i := 14) (v := _) rfl (by kernel_rfl) (by kernel_rfl) (by kernel_rfl) (by kernel_rfl) (fun _ _ _ h => h) (by kernel_rfl) hS ?_ ?_
                    rotate_left 1
                    · intro Wv hW
                      obtain ⟨g0, g1, g2, g3⟩ := hW
                      go_simp
                      first | done | with_reducible rfl | omega
                    try simp only [Act.put, List.getElem_toArray, List.getElem_cons_zero, List.getElem_cons_succ, List.setIfInBounds_toArray, List.set_cons_zero, List.set_cons_succ]
                    refine T_done (by kernel_rfl) ?_ _
                    refine NoPanic.normal ?_
                    try go_simp
                    have r8 := (HPN.out.gh.race HK.out).cells
                    replace c0 := HPN.out.c0
                    replace c1 := HPN.out.c1
                    replace c3 := HPN.out.c3
                    replace r0 := r8.1
                    replace r1 := r8.2.1
                    replace r9 := r8.2.2.2.1
                    clear r8 hS
                    have HP := HPN
                    clear HPN
                    generalize w3 = We at *
                    clear na nb gc
                    obtain ⟨gc, gf⟩ := HP.out.gh.gv.cell (p := i) h1
                    have wg : IntKind.i64.wrap (s2.gv i + -1) = s2.gv i + -1 := IntWalk.i64_in _ (by have := HRG2.out i h1; omega)
                    have p1 := HP.out.setG HK.out i (s2.gv i + -1)
                    have c1b := p1.c1
                    have HP1 := Lib.hid p1
                    clear p1
                    go_upto_region 11 with fail
                    generalize (We.setCell ⟨k.gq, i, none⟩ (.int .i64 (s2.gv i + -1))) = Y1 at *
                    clear gc gf wg c0 c1 c3 r0 r1 r9 v0 v1 HP
                    obtain ⟨hc, hf⟩ := HP1.out.gh.hv.cell (k := t) ht
                    have wh : IntKind.i64.wrap (s2.hv t - 1) = s2.hv t - 1 := IntWalk.i64_in _ (by have := HRV2.out t; omega)
                    refine wp_region_noPanic ?_
                    have hS : (fun W' : World => Below Y1.heap.size Y1 W') Y1.drew := (Below.refl _ _).drew
                    refine wp_region_any (by kernel_rfl) (wpAny_of_T (S := fun W' : World => Below Y1.heap.size Y1 W') (m := 8) _ _ _ _ ?_)
                    refine' T_take (i := 0) (v := _) rfl (by kernel_rfl) (by kernel_rfl) (by kernel_rfl) (by kernel_rfl) (fun _ _ _ h => h) (by kernel_rfl) hS ?_ ?_
                    rotate_left 1
                    · intro Wv hW
                      have g0 := cell_of_ans hW c1b
                      go_simp
                      first | done | with_reducible rfl | omega
                    try simp only [Act.put, List.getElem_toArray, List.getElem_cons_zero, List.getElem_cons_succ, List.setIfInBounds_toArray, List.set_cons_zero, List.set_cons_succ]
                    refine' T_take (i := 1) (v := _) rfl (by kernel_rfl) (by kernel_rfl) (by kernel_rfl) (by kernel_rfl) (fun _ _ _ h => h) (by kernel_rfl) hS ?_ ?_
                    rotate_left 1
                    · intro Wv hW
                      go_simp
                      first | done | with_reducible rfl | omega
                    try simp only [Act.put, List.getElem_toArray, List.getElem_cons_zero, List.getElem_cons_succ, List.setIfInBounds_toArray, List.set_cons_zero, List.set_cons_succ]
                    refine' T_take (i := 2) (v := _) rfl (by kernel_rfl) (by kernel_rfl) (by kernel_rfl) (by kernel_rfl) (fun _ _ _ h => h) (by kernel_rfl) hS ?_ ?_
                    rotate_left 1
                    · intro Wv hW
                      go_simp
                      first | done | with_reducible rfl | omega
                    try simp only [Act.put, List.getElem_toArray, List.getElem_cons_zero, List.getElem_cons_succ, List.setIfInBounds_toArray, List.set_cons_zero, List.set_cons_succ]
                    refine' T_take (i := 3) (v := _) rfl (by kernel_rfl) (by kernel_rfl) (by kernel_rfl) (by kernel_rfl) (fun _ _ _ h => h) (by kernel_rfl) hS ?_ ?_
                    rotate_left 1
                    · intro Wv hW
                      go_simp
                      first | done | with_reducible rfl | omega
                    try simp only [Act.put, List.getElem_toArray, List.getElem_cons_zero, List.getElem_cons_succ, List.setIfInBounds_toArray, List.set_cons_zero, List.set_cons_succ]
                    refine' T_take (i := 4) (v := _) rfl (by kernel_rfl) (by kernel_rfl) (by kernel_rfl) (by kernel_rfl) (fun _ _ _ h => h) (by kernel_rfl) hS ?_ ?_
                    rotate_left 1
                    · intro Wv hW
                      have g1 := cell_of_ans hW hc
                      go_simp
                      first | done | with_reducible rfl | omega
                    try simp only [Act.put, List.getElem_toArray, List.getElem_cons_zero, List.getElem_cons_succ, List.setIfInBounds_toArray, List.set_cons_zero, List.set_cons_succ]
                    refine' T_take (i := 5) (v := _) rfl (by kernel_rfl) (by kernel_rfl) (by kernel_rfl) (by kernel_rfl) (fun _ _ _ h => h) (by kernel_rfl) hS ?_ ?_
                    rotate_left 1
                    · intro Wv hW
                      go_simp
                      first | done | with_reducible rfl | omega
                    try simp only [Act.put, List.getElem_toArray, List.getElem_cons_zero, List.getElem_cons_succ, List.setIfInBounds_toArray, List.set_cons_zero, List.set_cons_succ]
                    refine T_ready (rs := [6]) (by kernel_rfl) (by simp) ?_
                    refine TReady.cons rfl (fun K hK => ?_) TReady.nil
                    try go_simp
                    refine hK.out _ _ (fun _ => hS) (fun _ => ?_)
                    clear hK K
                    try simp only [Act.put, List.getElem_toArray, List.getElem_cons_zero, List.getElem_cons_succ, List.setIfInBounds_toArray, List.set_cons_zero, List.set_cons_succ]
                    refine' T_take (i := 7) (v := _) rfl (by kernel_rfl) (by kernel_rfl) (by kernel_rfl) (by kernel_rfl) (fun _ _ _ h => h) (by kernel_rfl) hS ?_ ?_
                    rotate_left 1
                    · intro Wv hW
                      go_simp
                      first | done | with_reducible rfl | omega
                    try simp only [Act.put, List.getElem_toArray, List.getElem_cons_zero, List.getElem_cons_succ, List.setIfInBounds_toArray, List.set_cons_zero, List.set_cons_succ]
                    refine T_ready (rs := [8]) (by kernel_rfl) (by simp) ?_
                    refine TReady.cons rfl (fun K hK => ?_) TReady.nil
                    try go_simp
                    refine hK.out _ _ (fun h => absurd h (by decide)) (fun _ => ?_)
                    clear hK K
                    try simp only [Act.put, List.getElem_toArray, List.getElem_cons_zero, List.getElem_cons_succ, List.setIfInBounds_toArray, List.set_cons_zero, List.set_cons_succ]
                    refine T_done (by kernel_rfl) ?_ _
                    refine NoPanic.normal ?_
                    try go_simp
                    go_upto_region 12 with fail
                    have p2 := (HP1.out.setH HK.out ht (s2.hv t - 1)).step HK.out (Below.refl _ _).drew
                    have c1d := p2.c1
                    have HP2 := Lib.hid p2
                    clear p2 hc hf wh c1b hS HP1
                    generalize (Y1.setCell ⟨k.hq, t, none⟩ (.int .i64 (s2.hv t - 1))).drew = Y2 at *
                    obtain ⟨hc, hf⟩ := HP2.out.gh.hv.cell (k := b) ho6
                    have wh : IntKind.i64.wrap (updI s2.hv t (s2.hv t - 1) b + 1) = updI s2.hv t (s2.hv t - 1) b + 1 := IntWalk.i64_in _ (by have := HRV2.out t; have := HRV2.out b; unfold updI; split <;> omega)
                    have p3 := (HP2.out.setH HK.out ho6 (updI s2.hv t (s2.hv t - 1) b + 1)).step HK.out (Below.refl _ _).drew
                    have HMV : Hid (k.R.move s2 i t = { sn := s2.sn, gv := updI s2.gv i (s2.gv i + -1), hv := updI (updI s2.hv t (s2.hv t - 1)) b (updI s2.hv t (s2.hv t - 1) b + 1) }) := by show _ = _; unfold Rc.move; rw [HOTH.out, HSTP.out]
                    have HP3 := Lib.hid p3
                    clear p3
                    try dsimp only at hc wh HP3
                    generalize updI s2.hv t (s2.hv t - 1) b = hx at *
                    refine wp_region_noPanic ?_
                    have hS : (fun W' : World => Below Y2.heap.size Y2 W') Y2.drew := (Below.refl _ _).drew
                    refine wp_region_any (by kernel_rfl) (wpAny_of_T (S := fun W' : World => Below Y2.heap.size Y2 W') (m := 8) _ _ _ _ ?_)
                    refine' T_take (i := 0) (v := _) rfl (by kernel_rfl) (by kernel_rfl) (by kernel_rfl) (by kernel_rfl) (fun _ _ _ h => h) (by kernel_rfl) hS ?_ ?_
                    rotate_left 1
                    · intro Wv hW
                      have g0 := cell_of_ans hW c1d
                      go_simp
                      first | done | with_reducible rfl | omega
                    try simp only [Act.put, List.getElem_toArray, List.getElem_cons_zero, List.getElem_cons_succ, List.setIfInBounds_toArray, List.set_cons_zero, List.set_cons_succ]
                    refine' T_take (i := 1) (v := _) rfl (by kernel_rfl) (by kernel_rfl) (by kernel_rfl) (by kernel_rfl) (fun _ _ _ h => h) (by kernel_rfl) hS ?_ ?_
                    rotate_left 1
                    · intro Wv hW
                      go_simp
                      first | done | with_reducible rfl | omega
                    try simp only [Act.put, List.getElem_toArray, List.getElem_cons_zero, List.getElem_cons_succ, List.setIfInBounds_toArray, List.set_cons_zero, List.set_cons_succ]
                    refine' T_take (i := 2) (v := _) rfl (by kernel_rfl) (by kernel_rfl) (by kernel_rfl) (by kernel_rfl) (fun _ _ _ h => h) (by kernel_rfl) hS ?_ ?_
                    rotate_left 1
                    · intro Wv hW
                      go_simp
                      first | done | with_reducible rfl | omega
                    try simp only [Act.put, List.getElem_toArray, List.getElem_cons_zero, List.getElem_cons_succ, List.setIfInBounds_toArray, List.set_cons_zero, List.set_cons_succ]
                    refine' T_take (i := 3) (v := _) rfl (by kernel_rfl) (by kernel_rfl) (by kernel_rfl) (by kernel_rfl) (fun _ _ _ h => h) (by kernel_rfl) hS ?_ ?_
                    rotate_left 1
                    · intro Wv hW
                      go_simp
                      first | done | with_reducible rfl | omega
                    try simp only [Act.put, List.getElem_toArray, List.getElem_cons_zero, List.getElem_cons_succ, List.setIfInBounds_toArray, List.set_cons_zero, List.set_cons_succ]
                    refine' T_take (i := 4) (v := _) rfl (by kernel_rfl) (by kernel_rfl) (by kernel_rfl) (by kernel_rfl) (fun _ _ _ h => h) (by kernel_rfl) hS ?_ ?_
                    rotate_left 1
                    · intro Wv hW
                      have g1 := cell_of_ans hW hc
                      go_simp
                      first | done | with_reducible rfl | omega
                    try simp only [Act.put, List.getElem_toArray, List.getElem_cons_zero, List.getElem_cons_succ, List.setIfInBounds_toArray, List.set_cons_zero, List.set_cons_succ]
                    refine' T_take (i := 5) (v := _) rfl (by kernel_rfl) (by kernel_rfl) (by kernel_rfl) (by kernel_rfl) (fun _ _ _ h => h) (by kernel_rfl) hS ?_ ?_
                    rotate_left 1
                    · intro Wv hW
                      go_simp
                      first | done | with_reducible rfl | omega
                    try simp only [Act.put, List.getElem_toArray, List.getElem_cons_zero, List.getElem_cons_succ, List.setIfInBounds_toArray, List.set_cons_zero, List.set_cons_succ]
                    refine T_ready (rs := [6]) (by kernel_rfl) (by simp) ?_
                    refine TReady.cons rfl (fun K hK => ?_) TReady.nil
                    try go_simp
                    refine hK.out _ _ (fun _ => hS) (fun _ => ?_)
                    clear hK K
                    try simp only [Act.put, List.getElem_toArray, List.getElem_cons_zero, List.getElem_cons_succ, List.setIfInBounds_toArray, List.set_cons_zero, List.set_cons_succ]
                    refine' T_take (i := 7) (v := _) rfl (by kernel_rfl) (by kernel_rfl) (by kernel_rfl) (by kernel_rfl) (fun _ _ _ h => h) (by kernel_rfl) hS ?_ ?_
                    rotate_left 1
                    · intro Wv hW
                      go_simp
                      first | done | with_reducible rfl | omega
                    try simp only [Act.put, List.getElem_toArray, List.getElem_cons_zero, List.getElem_cons_succ, List.setIfInBounds_toArray, List.set_cons_zero, List.set_cons_succ]
                    refine T_ready (rs := [8]) (by kernel_rfl) (by simp) ?_
                    refine TReady.cons rfl (fun K hK => ?_) TReady.nil
                    try go_simp
                    refine hK.out _ _ (fun h => absurd h (by decide)) (fun _ => ?_)
                    clear hK K
                    try simp only [Act.put, List.getElem_toArray, List.getElem_cons_zero, List.getElem_cons_succ, List.setIfInBounds_toArray, List.set_cons_zero, List.set_cons_succ]
                    refine T_done (by kernel_rfl) ?_ _
                    refine NoPanic.normal ?_
                    try go_simp
                    go_wp2_with fail
                    go_ret
                    rw [HRES.out, ← HTG.out, HT9.out]
                    refine ⟨rfl, ?_⟩
                    show PSt _ _ _ (k.R.move s2 i t)
                    rw [HMV.out]
                    exact HP3.out
        · have fa : ((a : Int) != (t : Int)) = true := by simp [bne]; omega
          have HSK := Lib.hid (Rc.loop_skip (R := k.R) (rec := k.R.passF f) (n := k.gs.length) (i := i) (t := t) (s := s1) h1 (.inl (by rw [HAi.out, HBi.out]; exact ⟨ea, eb⟩)))
          go_upto_region 8 with fail
          go_quiet (fail)
          have hbq : Below Wc.heap.size Wc (Wc.drewN nq) := below_drewN (Below.refl _ _) nq
          replace c0 := cell_of_ans hbq c0
          replace c1 := cell_of_ans hbq c1
          replace c3 := cell_of_ans hbq c3
          replace r0 := cell_of_ans hbq r0
          replace r1 := cell_of_ans hbq r1
          replace r9 := cell_of_ans hbq r9
          replace gc := cell_of_ans hbq gc
          replace v0 := cell_of_ans hbq v0
          replace v1 := cell_of_ans hbq v1
          replace na := cell_of_ans hbq na
          replace nb := cell_of_ans hbq nb
          replace HP := Lib.hid (HP.out.step HK.out hbq)
          clear hbq
          generalize Wc.drewN nq = Wd at *
          go_wp2_with fail
          go_roundw
          case rel => exact ⟨i + 1, s1, by omega, by go_num, HP.out, HGE.out, HHE.out, HST.out, HFE.out, HSK.out.symm.trans HTG.out⟩
          case measure => simp [intOf]; omega
    · obtain rfl : i = k.gs.length := by omega
      have h1i : ¬ (k.gs.length : Int) < (k.gs.length : Int) := by omega
      clear hp
      go_wp2_with fail
      go_ret
      have h9 := HTG.out
      rw [Nat.sub_self] at h9
      rw [HRES.out, ← h9]
      exact ⟨rfl, HP0.out⟩
theorem pass112_c {k : KR} (hk : k.Ok) (b0 : Nat) : ∀ f, PassC k b0 f
  | 0 => fun w t s h ht htm hsn hfr hrc hrg hhv => by
    have := Rc.free_pos hsn 6 ht
    omega
  | f + 1 => pass_succ hk (pass112_c hk b0 f)
end Go.Proofs.Ytjokbffdepcpkaa
