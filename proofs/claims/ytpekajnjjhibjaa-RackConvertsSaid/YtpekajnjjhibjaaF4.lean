/-
  The reference's Converts, walked.
-/
import Derived.Test.YtpekajnjjhibjaaF4M
namespace Go.Proofs.Ytpekajnjjhibjaa
open Go.RowKit
set_option linter.unusedSimpArgs false
set_option linter.unusedVariables false

attribute [local go_sem] Oper.semAt_some
theorem beq_nat (a b : Nat) : ((a : Int) == (b : Int)) = decide (a = b) := by
  rw [Bool.eq_iff_iff, beq_iff_eq, decide_eq_true_eq]
  omega
set_option maxRecDepth 100000 in
set_option maxHeartbeats 8000000 in
theorem converts28_c (r : Rk) (A xA : Option Addr) (c cx : Nat) (xs : List Int) (st dr : Int) (may : Bool) (w : World) (hl : Lks w.heap.size w A r.links) (hc : r.links.length ≤ c ∧ c ≤ 9223372036854775807) (hx : Ints w.heap.size w xA xs) (hcx : xs.length ≤ cx ∧ cx ≤ 9223372036854775807) (he : pinErr r xs = 0) (h1 : 0 ≤ st) (h2 : st ≤ 60) (h3 : -3 ≤ dr) (h4 : dr ≤ 3) :
    Calls Try.prog 28 #[.agg #[.int .i64 r.rows, .int .i64 r.mid, .int .i64 r.gap, .int .i64 r.reach, .slice A r.links.length c], .slice xA xs.length cx, .agg #[.int .i64 st, .int .i64 dr], .bool may] w (Ans w (.bool (convB r (pinS r xs) st dr (carryOf r.links may)))) := by
  have hb : Below w.heap.size w ((w.alloc (.cells #[.int .i64 r.rows, .int .i64 r.mid, .int .i64 r.gap, .int .i64 r.reach, .slice A r.links.length c] 24)).alloc (.cells #[.int .i64 st, .int .i64 dr] 50)) := ((Below.refl w.heap.size w).alloc (Nat.le_refl _) _).alloc (by simp) _
  have HB0 := Lib.hid hb
  have HL := Lib.hid (hl.step hb)
  have HX := Lib.hid (hx.step hb)
  clear hb hl hx
  have k0 : ((w.alloc (.cells #[.int .i64 r.rows, .int .i64 r.mid, .int .i64 r.gap, .int .i64 r.reach, .slice A r.links.length c] 24)).alloc (.cells #[.int .i64 st, .int .i64 dr] 50)).cell? ⟨w.heap.size, 0, none⟩ = some (.int .i64 r.rows) := by go_simp
  have k1 : ((w.alloc (.cells #[.int .i64 r.rows, .int .i64 r.mid, .int .i64 r.gap, .int .i64 r.reach, .slice A r.links.length c] 24)).alloc (.cells #[.int .i64 st, .int .i64 dr] 50)).cell? ⟨w.heap.size, 1, none⟩ = some (.int .i64 r.mid) := by go_simp
  have k2 : ((w.alloc (.cells #[.int .i64 r.rows, .int .i64 r.mid, .int .i64 r.gap, .int .i64 r.reach, .slice A r.links.length c] 24)).alloc (.cells #[.int .i64 st, .int .i64 dr] 50)).cell? ⟨w.heap.size, 2, none⟩ = some (.int .i64 r.gap) := by go_simp
  have k3 : ((w.alloc (.cells #[.int .i64 r.rows, .int .i64 r.mid, .int .i64 r.gap, .int .i64 r.reach, .slice A r.links.length c] 24)).alloc (.cells #[.int .i64 st, .int .i64 dr] 50)).cell? ⟨w.heap.size, 3, none⟩ = some (.int .i64 r.reach) := by go_simp
  have k4 : ((w.alloc (.cells #[.int .i64 r.rows, .int .i64 r.mid, .int .i64 r.gap, .int .i64 r.reach, .slice A r.links.length c] 24)).alloc (.cells #[.int .i64 st, .int .i64 dr] 50)).cell? ⟨w.heap.size, 4, none⟩ = some (.slice A r.links.length c) := by go_simp
  have s0 : ((w.alloc (.cells #[.int .i64 r.rows, .int .i64 r.mid, .int .i64 r.gap, .int .i64 r.reach, .slice A r.links.length c] 24)).alloc (.cells #[.int .i64 st, .int .i64 dr] 50)).cell? ⟨w.heap.size + 1, 0, none⟩ = some (.int .i64 st) := by go_simp
  have s1 : ((w.alloc (.cells #[.int .i64 r.rows, .int .i64 r.mid, .int .i64 r.gap, .int .i64 r.reach, .slice A r.links.length c] 24)).alloc (.cells #[.int .i64 st, .int .i64 dr] 50)).cell? ⟨w.heap.size + 1, 1, none⟩ = some (.int .i64 dr) := by go_simp
  have ho := rackOk (pinErr_rack he)
  have hlen := ho.len
  have HOV := Lib.hid (fun W => over67_c r A c st dr W ho h1 h2 h3 h4)
  have HCV := Lib.hid (conv_len (st := st) (dr := dr) (may := may) he)
  have HFA := Lib.hid (fun (yA sA : Option Addr) (cy cs : Nat) (W : World) g1 g2 g3 g4 g5 g6 => fallen46_c r A xA yA sA c cx cy cs xs (overL r st dr) (carL r.links may r.links.length) W g1 hc g2 hcx g3 g4 g5 g6 he (overL_len _ _ _) (fun k hk => by
    rw [overL_len] at hk
    have hr4 := ho.rows4
    rw [ix_overL hk, ovF]
    rcases (by omega : k = 0 ∨ k = 1 ∨ k = 2 ∨ k = 3) with rfl | rfl | rfl | rfl <;> simp <;> omega) (carL_len _ _ _))
  clear ho
  go_enter Try.func28, Try.ntmps28
  go_wp2_with fail
  generalize ((w.alloc (.cells #[.int .i64 r.rows, .int .i64 r.mid, .int .i64 r.gap, .int .i64 r.reach, .slice A r.links.length c] 24)).alloc (.cells #[.int .i64 st, .int .i64 dr] 50)) = x1 at *
  have lt0 := World.block_lt_of_cell? _ _ k0
  have lt1 := World.block_lt_of_cell? _ _ s0
  dsimp only at lt0 lt1
  go_loopw [9, 10] (fun o i wr => ∃ k : Nat, k ≤ r.links.length ∧ i = .int .i64 k ∧ OwnB 4 x1.heap.size wr o (carL r.links may k) ∧ Below x1.heap.size x1 wr) (fun _ i _ => r.links.length - (intOf i).toNat)
  case atStart => exact ⟨0, by omega, rfl, OwnB.nil _ _ _, Below.refl _ _⟩
  case round =>
    obtain ⟨k, hk, rfl, hO, hbr⟩ := hrel
    have HO := Lib.hid hO
    have HB := Lib.hid hbr
    obtain ⟨Ao, co, rfl⟩ := hO.form
    have hwr : x1.heap.size ≤ wr.heap.size := hbr.size
    clear hO hbr
    have hln := carL_len r.links may k
    replace k0 := (HB.out.cell (p := ⟨w.heap.size, 0, none⟩) lt0).trans k0
    replace k1 := (HB.out.cell (p := ⟨w.heap.size, 1, none⟩) lt0).trans k1
    replace k2 := (HB.out.cell (p := ⟨w.heap.size, 2, none⟩) lt0).trans k2
    replace k3 := (HB.out.cell (p := ⟨w.heap.size, 3, none⟩) lt0).trans k3
    replace k4 := (HB.out.cell (p := ⟨w.heap.size, 4, none⟩) lt0).trans k4
    replace s0 := (HB.out.cell (p := ⟨w.heap.size + 1, 0, none⟩) lt1).trans s0
    replace s1 := (HB.out.cell (p := ⟨w.heap.size + 1, 1, none⟩) lt1).trans s1
    by_cases hk1 : k < r.links.length
    · have hki : (k : Int) < (r.links.length : Int) := by omega
      obtain ⟨b2, o2, hA2, hlt2, c1, c2, c3⟩ := (HL.out.below HB.out).at_ hk1
      have HT := Lib.hid (carL_succ r.links may k)
      have hol : (carL r.links may k).length ≤ 1000000 := by omega
      generalize (lx r.links k).s = sr at *
      clear hln
      generalize carL r.links may k = os at *
      subst hA2
      cases may
      · go_wp2_with (at_builtin; refine wpList_appB (t := 71) (e := 4) ⟨rfl, rfl⟩ (.tmp 18) (.tmp 28) rfl rfl x1.heap.size _ _ os sr rfl rfl HO hol hwr ?_; intro A2 c2' wn HO2 HB2)
        go_roundw
        case rel => exact ⟨k + 1, by omega, by go_num, by rw [HT.out]; exact HO2.out, HB.out.trans HB2.out⟩
        case measure => simp [intOf]; omega
      · go_wp2_with (at_builtin; refine wpList_appB (t := 71) (e := 4) ⟨rfl, rfl⟩ (.tmp 18) (.tmp 28) rfl rfl x1.heap.size _ _ os true rfl rfl HO hol hwr ?_; intro A2 c2' wn HO2 HB2)
        go_roundw
        case rel => exact ⟨k + 1, by omega, by go_num, by rw [HT.out]; exact HO2.out, HB.out.trans HB2.out⟩
        case measure => simp [intOf]; omega
    · obtain rfl : k = r.links.length := by omega
      obtain ⟨hp1, hp2, hp3⟩ := HO.out.parts
      have HC := Lib.hid hp3
      clear hp3 HO hk hk1
      replace HL := Lib.hid ((HL.out.below HB.out).more hwr)
      replace HX := Lib.hid ((HX.out.below HB.out).more hwr)
      clear hln
      generalize carL r.links may r.links.length = cl at *
      generalize overL r st dr = ol at *
      go_upto_region 6 with fail
      refine wp_region_noPanic ?_
      have hS : (fun W' : World => Below wr.heap.size wr W') wr.drew := (Below.refl _ _).drew
      refine wp_region_any (by kernel_rfl) (wpAny_of_T (S := fun W' : World => Below wr.heap.size wr W') (m := 12) _ _ _ _ ?_)
      refine' T_take (i := 0) (v := _) rfl (by kernel_rfl) (by kernel_rfl) (by kernel_rfl) (by kernel_rfl) (fun _ _ _ h => h) (by kernel_rfl) hS ?_ ?_
      rotate_left 1
      · intro Wv hW
        replace k0 := cell_of_ans hW k0
        replace k1 := cell_of_ans hW k1
        replace k2 := cell_of_ans hW k2
        replace k3 := cell_of_ans hW k3
        replace k4 := cell_of_ans hW k4
        replace s0 := cell_of_ans hW s0
        replace s1 := cell_of_ans hW s1
        go_simp
        first | done | with_reducible rfl | omega
      try simp only [Act.put, List.setIfInBounds_toArray, List.set_cons_zero, List.set_cons_succ]
      refine' T_take (i := 1) (v := _) rfl (by kernel_rfl) (by kernel_rfl) (by kernel_rfl) (by kernel_rfl) (fun _ _ _ h => h) (by kernel_rfl) hS ?_ ?_
      rotate_left 1
      · intro Wv hW
        replace k0 := cell_of_ans hW k0
        replace k1 := cell_of_ans hW k1
        replace k2 := cell_of_ans hW k2
        replace k3 := cell_of_ans hW k3
        replace k4 := cell_of_ans hW k4
        replace s0 := cell_of_ans hW s0
        replace s1 := cell_of_ans hW s1
        go_simp
        first | done | with_reducible rfl | omega
      try simp only [Act.put, List.setIfInBounds_toArray, List.set_cons_zero, List.set_cons_succ]
      refine' T_take (i := 2) (v := _) rfl (by kernel_rfl) (by kernel_rfl) (by kernel_rfl) (by kernel_rfl) (fun _ _ _ h => h) (by kernel_rfl) hS ?_ ?_
      rotate_left 1
      · intro Wv hW
        replace k0 := cell_of_ans hW k0
        replace k1 := cell_of_ans hW k1
        replace k2 := cell_of_ans hW k2
        replace k3 := cell_of_ans hW k3
        replace k4 := cell_of_ans hW k4
        replace s0 := cell_of_ans hW s0
        replace s1 := cell_of_ans hW s1
        go_simp
        first | done | with_reducible rfl | omega
      try simp only [Act.put, List.setIfInBounds_toArray, List.set_cons_zero, List.set_cons_succ]
      refine' T_take (i := 3) (v := _) rfl (by kernel_rfl) (by kernel_rfl) (by kernel_rfl) (by kernel_rfl) (fun _ _ _ h => h) (by kernel_rfl) hS ?_ ?_
      rotate_left 1
      · intro Wv hW
        replace k0 := cell_of_ans hW k0
        replace k1 := cell_of_ans hW k1
        replace k2 := cell_of_ans hW k2
        replace k3 := cell_of_ans hW k3
        replace k4 := cell_of_ans hW k4
        replace s0 := cell_of_ans hW s0
        replace s1 := cell_of_ans hW s1
        go_simp
        first | done | with_reducible rfl | omega
      try simp only [Act.put, List.setIfInBounds_toArray, List.set_cons_zero, List.set_cons_succ]
      refine' T_take (i := 5) (v := _) rfl (by kernel_rfl) (by kernel_rfl) (by kernel_rfl) (by kernel_rfl) (fun _ _ _ h => h) (by kernel_rfl) hS ?_ ?_
      rotate_left 1
      · intro Wv hW
        replace k0 := cell_of_ans hW k0
        replace k1 := cell_of_ans hW k1
        replace k2 := cell_of_ans hW k2
        replace k3 := cell_of_ans hW k3
        replace k4 := cell_of_ans hW k4
        replace s0 := cell_of_ans hW s0
        replace s1 := cell_of_ans hW s1
        go_simp
        first | done | with_reducible rfl | omega
      try simp only [Act.put, List.setIfInBounds_toArray, List.set_cons_zero, List.set_cons_succ]
      refine' T_take (i := 8) (v := _) rfl (by kernel_rfl) (by kernel_rfl) (by kernel_rfl) (by kernel_rfl) (fun _ _ _ h => h) (by kernel_rfl) hS ?_ ?_
      rotate_left 1
      · intro Wv hW
        replace k0 := cell_of_ans hW k0
        replace k1 := cell_of_ans hW k1
        replace k2 := cell_of_ans hW k2
        replace k3 := cell_of_ans hW k3
        replace k4 := cell_of_ans hW k4
        replace s0 := cell_of_ans hW s0
        replace s1 := cell_of_ans hW s1
        go_simp
        first | done | with_reducible rfl | omega
      try simp only [Act.put, List.setIfInBounds_toArray, List.set_cons_zero, List.set_cons_succ]
      refine' T_take (i := 9) (v := _) rfl (by kernel_rfl) (by kernel_rfl) (by kernel_rfl) (by kernel_rfl) (fun _ _ _ h => h) (by kernel_rfl) hS ?_ ?_
      rotate_left 1
      · intro Wv hW
        replace k0 := cell_of_ans hW k0
        replace k1 := cell_of_ans hW k1
        replace k2 := cell_of_ans hW k2
        replace k3 := cell_of_ans hW k3
        replace k4 := cell_of_ans hW k4
        replace s0 := cell_of_ans hW s0
        replace s1 := cell_of_ans hW s1
        go_simp
        first | done | with_reducible rfl | omega
      try simp only [Act.put, List.setIfInBounds_toArray, List.set_cons_zero, List.set_cons_succ]
      refine T_ready (rs := [4]) (by kernel_rfl) (by simp) ?_
      refine TReady.cons rfl (fun K hK => ?_) TReady.nil
      try go_simp
      refine (HOV.out _).mono ?_
      rintro e w8 ⟨oA, oc, rfl, hq, hb⟩
      have hS2 : Below wr.heap.size wr w8 := below_cat hb hS
      obtain ⟨hq1, hq2, hov⟩ := isInts_parts (ownsRow_isInts hq)
      have Hhov := Lib.hid hov
      clear hq hov
      replace HL := Lib.hid (HL.out.step hS2)
      replace HX := Lib.hid (HX.out.step hS2)
      replace HC := Lib.hid (HC.out.step hS2)
      try go_simp
      refine hK.out _ _ (fun _ => hS2) (fun _ => ?_)
      clear hK K hS hb
      replace hS := hS2
      clear hS2
      try simp only [Act.put, List.setIfInBounds_toArray, List.set_cons_zero, List.set_cons_succ]
      refine T_ready (rs := [6]) (by kernel_rfl) (by simp) ?_
      refine TReady.cons rfl (fun K hK => ?_) TReady.nil
      try go_simp
      refine (HFA.out _ _ _ _ _ HL.out HX.out Hhov.out ⟨hq1, hq2⟩ HC.out ⟨hp1, hp2⟩).mono ?_
      rintro e w9 ⟨fA, fc, rfl, ho9, hb⟩
      have hS2 : Below wr.heap.size wr w9 := below_cat hb hS
      try go_simp
      refine hK.out _ _ (fun _ => hS2) (fun _ => ?_)
      clear hK K hS hb
      replace hS := hS2
      clear hS2
      try simp only [Act.put, List.setIfInBounds_toArray, List.set_cons_zero, List.set_cons_succ]
      refine' T_take (i := 7) (v := _) rfl (by kernel_rfl) (by kernel_rfl) (by kernel_rfl) (by kernel_rfl) (fun _ _ _ h => h) (by kernel_rfl) hS ?_ ?_
      rotate_left 1
      · intro Wv hW
        replace k0 := cell_of_ans hW k0
        replace k1 := cell_of_ans hW k1
        replace k2 := cell_of_ans hW k2
        replace k3 := cell_of_ans hW k3
        replace k4 := cell_of_ans hW k4
        replace s0 := cell_of_ans hW s0
        replace s1 := cell_of_ans hW s1
        go_simp
        first | done | with_reducible rfl | omega
      try simp only [Act.put, List.setIfInBounds_toArray, List.set_cons_zero, List.set_cons_succ]
      refine' T_take (i := 10) (v := _) rfl (by kernel_rfl) (by kernel_rfl) (by kernel_rfl) (by kernel_rfl) (fun _ _ _ h => h) (by kernel_rfl) hS ?_ ?_
      rotate_left 1
      · intro Wv hW
        replace k0 := cell_of_ans hW k0
        replace k1 := cell_of_ans hW k1
        replace k2 := cell_of_ans hW k2
        replace k3 := cell_of_ans hW k3
        replace k4 := cell_of_ans hW k4
        replace s0 := cell_of_ans hW s0
        replace s1 := cell_of_ans hW s1
        go_simp
        first | done | with_reducible rfl | omega
      try simp only [Act.put, List.setIfInBounds_toArray, List.set_cons_zero, List.set_cons_succ]
      refine' T_take (i := 11) (v := _) rfl (by kernel_rfl) (by kernel_rfl) (by kernel_rfl) (by kernel_rfl) (fun _ _ _ h => h) (by kernel_rfl) hS ?_ ?_
      rotate_left 1
      · intro Wv hW
        replace k0 := cell_of_ans hW k0
        replace k1 := cell_of_ans hW k1
        replace k2 := cell_of_ans hW k2
        replace k3 := cell_of_ans hW k3
        replace k4 := cell_of_ans hW k4
        replace s0 := cell_of_ans hW s0
        replace s1 := cell_of_ans hW s1
        go_simp
        first | done | with_reducible rfl | omega
      try simp only [Act.put, List.setIfInBounds_toArray, List.set_cons_zero, List.set_cons_succ]
      refine T_done (by kernel_rfl) ?_ _
      refine NoPanic.normal ?_
      try go_simp
      go_wp2_with fail
      go_ret
      exact ⟨ret_bool (by rw [← HCV.out]; exact beq_nat _ _), HB0.out.trans ((HB.out.trans (hS.mono HB.out.size)).mono HB0.out.size)⟩
end Go.Proofs.Ytpekajnjjhibjaa
