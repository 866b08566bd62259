/-
  frame: what the balls of a sheet are worth.
-/
import Derived.Test.YtenpiinkbfancaaFe
namespace Go.Proofs.Ytenpiinkbfancaa
open Go.RowKit
set_option linter.unusedSimpArgs false
set_option linter.unusedVariables false

attribute [local go_sem] Oper.semAt_some
theorem PlAt.drew {W : World} {g : Nat} {N : Int} {p : Pl} (h : PlAt W g N p) : PlAt W.drew g N p := h
theorem sum2_c (b c : Nat) (x y : Int) (w : World) (h0 : w.cell? ⟨b, 0, none⟩ = some (.int .i64 x)) (h1 : w.cell? ⟨b, 1, none⟩ = some (.int .i64 y)) (hx : 0 ≤ x ∧ x ≤ 100000) (hy : 0 ≤ y ∧ y ≤ 100000) :
    Calls Try.prog 103 #[.slice (some ⟨b, 0, none⟩) 2 c] w (Same w (.int .i64 (x + y))) := by
  have h := sum_c (B := b + 1) (some ⟨b, 0, none⟩) c [x, y] w (fun _ => ⟨b, 0, rfl, by omega, fun k hk => by
    rcases (by simpa using hk : k < 2) with _
    rcases (by simp at hk; omega : k = 0 ∨ k = 1) with rfl | rfl
    · exact h0
    · exact h1⟩) (by simp) (fun k hk => by
      rcases (by simp at hk; omega : k = 0 ∨ k = 1 ∨ k = 2) with rfl | rfl | rfl
      · simp
      · simp; omega
      · simp; omega)
  have e : ([x, y] : List Int).sum = x + y := by simp
  rw [e] at h
  exact h
set_option maxRecDepth 100000 in
set_option maxHeartbeats 8000000 in
theorem total_c (N : Int) (A : Option Addr) (c : Nat) (xs : List Int) (w : World) (hs : SheetOk N xs) (hx : Ints w.heap.size w A xs) :
    Calls Try.prog 147 #[lawV N, .slice A xs.length c] w (Ans w (.int .i64 (totS N xs xs.length))) := by
  obtain ⟨w1, hw1⟩ : ∃ w1, w1 = w.alloc (.cells #[.int .i64 N, .int .i64 10, .int .i64 2, .int .i64 10] 50) := ⟨_, rfl⟩
  have hb0 : Below w.heap.size w w1 := by rw [hw1]; exact (Below.refl _ _).alloc (Nat.le_refl _) _
  have HB0 := Lib.hid hb0
  have l0 : w1.cell? ⟨w.heap.size, 0, none⟩ = some (.int .i64 N) := by rw [hw1]; go_simp
  have l1 : w1.cell? ⟨w.heap.size, 1, none⟩ = some (.int .i64 10) := by rw [hw1]; go_simp
  have l2 : w1.cell? ⟨w.heap.size, 2, none⟩ = some (.int .i64 2) := by rw [hw1]; go_simp
  have l3 : w1.cell? ⟨w.heap.size, 3, none⟩ = some (.int .i64 10) := by rw [hw1]; go_simp
  have hlen := hs.len
  have hN0 := hs.n0
  have hN1 := hs.n1
  have HX := Lib.hid hx
  have HBG := Lib.hid (begin_c N w1)
  unfold lawV at *
  clear hb0 hx
  go_enter Try.func147, Try.ntmps147
  go_wp2_with fail
  rw [← hw1]
  clear hw1
  refine HBG.out.mono ?_
  rintro e w2 ⟨rfl, hb2⟩
  have HB2 : Hid (Below w.heap.size w w2) := HB0.out.trans (hb2.mono HB0.out.size)
  have HPN : Hid (PlAt (w2.alloc (.cells #[.int .i64 N, .int .i64 10, .int .i64 2, .int .i64 10, .int .i64 0, .int .i64 0, .int .i64 10, .bool true, .int .i64 2, .int .i64 0, .int .i64 0] 148)) w2.heap.size N begP) := PlAt.new w2 N begP
  have hb3 : Below w2.heap.size w2 (w2.alloc (.cells #[.int .i64 N, .int .i64 10, .int .i64 2, .int .i64 10, .int .i64 0, .int .i64 0, .int .i64 10, .bool true, .int .i64 2, .int .i64 0, .int .i64 0] 148)) := (Below.refl _ _).alloc (Nat.le_refl _) _
  have HB3 : Hid (Below w.heap.size w (w2.alloc (.cells #[.int .i64 N, .int .i64 10, .int .i64 2, .int .i64 10, .int .i64 0, .int .i64 0, .int .i64 10, .bool true, .int .i64 2, .int .i64 0, .int .i64 0] 148))) := HB2.out.trans (hb3.mono HB2.out.size)
  have hz3 : (w2.alloc (.cells #[.int .i64 N, .int .i64 10, .int .i64 2, .int .i64 10, .int .i64 0, .int .i64 0, .int .i64 10, .bool true, .int .i64 2, .int .i64 0, .int .i64 0] 148)).heap.size = w2.heap.size + 1 := by simp
  have hz2 : w.heap.size ≤ w2.heap.size := HB2.out.size
  clear hb2 hb3 l0 l1 l2 l3 HBG
  unfold plV begP
  dsimp only
  go_wp2_with fail
  generalize (w2.alloc (.cells #[.int .i64 N, .int .i64 10, .int .i64 2, .int .i64 10, .int .i64 0, .int .i64 0, .int .i64 10, .bool true, .int .i64 2, .int .i64 0, .int .i64 0] 148)) = w3 at *
  generalize w2.heap.size = pb at *
  go_loopw [4, 15] (fun s i wr => ∃ k : Nat, k ≤ xs.length ∧ i = .int .i64 (k : Int) ∧ s = .int .i64 (totS N xs k) ∧ PlAt wr pb N (plS N xs k) ∧ Below pb w3 wr) (fun s i _ => xs.length - (intOf i).toNat)
  case atStart => exact ⟨0, by omega, rfl, rfl, HPN.out, Below.refl _ _⟩
  case round =>
    obtain ⟨k, hk, rfl, rfl, hp, hbw⟩ := hrel
    have HP := Lib.hid hp
    have HBW := Lib.hid hbw
    by_cases h1 : k < xs.length
    · have h1i : (k : Int) < (xs.length : Int) := by omega
      have hok := plS_ok hs k (by omega)
      obtain ⟨m1, m2, m3⟩ := hs.may k h1
      obtain ⟨b, off, rfl, hb0, c1⟩ := ((HX.out.below HB3.out).below (hbw.mono hz2)).at_ h1
      have HNX := Lib.hid (fun W' => next_c N (plS N xs k) (ix xs k) W' hok ⟨hN0, hN1⟩ m1 m2 m3)
      rw [← plS_succ h1] at HNX
      have hbx := ball_bd hs h1
      have hwb := wth_bd hok hbx.1 hbx.2
      have htb := totS_bd hs k (by omega)
      have HTS : Hid (totS N xs (k + 1) = totS N xs k + wth (plS N xs k) (ix xs k)) := rfl
      clear hp hbw m1 m2 m3 hok
      unfold nxV at HNX
      generalize totS N xs k = tk at *
      generalize wth (plS N xs k) (ix xs k) = wt at *
      generalize hpk : plS N xs k = p at *
      clear hpk
      obtain ⟨fr, th, st, fresh, need, x0, x1⟩ := p
      generalize hpk2 : plS N xs (k + 1) = p2 at *
      have HPK2 := Lib.hid hpk2
      clear hpk2
      obtain ⟨fr', th', st', fresh', need', y0, y1⟩ := p2
      have hbd : (0 ≤ tk ∧ tk ≤ 100000) ∧ (0 ≤ wt ∧ wt ≤ 100000) := by omega
      generalize ix xs k = xb at *
      have HBD := Lib.hid hbd
      clear hbd hbx hwb htb
      unfold plV at HNX
      obtain ⟨⟨p0, p1, p2, p3⟩, ⟨p4, p5, p6, p7, p8, p9, p10⟩, -⟩ := HP.out.cells
      dsimp only at HNX p4 p5 p6 p7 p8 p9 p10
      go_wp2_with fail
      refine (HNX.out _).mono ?_
      rintro e w6 ⟨rfl, hb⟩
      have HPN6 : Hid (PlAt (w6.alloc (.cells #[.int .i64 N, .int .i64 10, .int .i64 2, .int .i64 10, .int .i64 fr', .int .i64 th', .int .i64 st', .bool fresh', .int .i64 need', .int .i64 y0, .int .i64 y1] 148)) w6.heap.size N ⟨fr', th', st', fresh', need', y0, y1⟩) := PlAt.new w6 N ⟨fr', th', st', fresh', need', y0, y1⟩
      have hb7 : Below wr.heap.size wr (w6.alloc (.cells #[.int .i64 N, .int .i64 10, .int .i64 2, .int .i64 10, .int .i64 fr', .int .i64 th', .int .i64 st', .bool fresh', .int .i64 need', .int .i64 y0, .int .i64 y1] 148)) := hb.alloc hb.size _
      have HB7 := Lib.hid (HBW.out.trans (hb7.mono (Nat.le_of_lt HP.out.lt)))
      have HP7 := Lib.hid (HP.out.step hb7)
      clear hb hb7 HNX c1 p0 p1 p2 p3 p4 p5 p6 p7 p8 p9 p10 HP
      go_upto_region 6 with fail
      generalize (w6.alloc (.cells #[.int .i64 N, .int .i64 10, .int .i64 2, .int .i64 10, .int .i64 fr', .int .i64 th', .int .i64 st', .bool fresh', .int .i64 need', .int .i64 y0, .int .i64 y1] 148)) = wn at *
      generalize w6.heap.size = nb at *
      refine wp_region_noPanic ?_
      have hS : (fun W' : World => Below wn.heap.size wn W') wn.drew := (Below.refl _ _).drew
      refine wp_region_any (by kernel_rfl) (wpAny_of_T (S := fun W' : World => Below wn.heap.size wn W') (m := 6) _ _ _ _ ?_)
      refine' T_take (i := 0) (v := _) rfl (by kernel_rfl) (by kernel_rfl) (by kernel_rfl) (by kernel_rfl) (fun _ _ _ h => h) (by kernel_rfl) hS ?_ ?_
      rotate_left 1
      · intro Wv hW
        obtain ⟨⟨q0, q1, q2, q3⟩, ⟨q4, q5, q6, q7, q8, q9, q10⟩, -⟩ := (HPN6.out.step hW).cells
        dsimp only at q4 q5 q6 q7 q8 q9 q10
        go_simp
        first | done | with_reducible rfl | omega
      try simp only [Act.put, List.setIfInBounds_toArray, List.set_cons_zero, List.set_cons_succ]
      refine' T_take (i := 1) (v := _) rfl (by kernel_rfl) (by kernel_rfl) (by kernel_rfl) (by kernel_rfl) (fun _ _ _ h => h) (by kernel_rfl) hS ?_ ?_
      rotate_left 1
      · intro Wv hW
        obtain ⟨⟨q0, q1, q2, q3⟩, ⟨q4, q5, q6, q7, q8, q9, q10⟩, -⟩ := (HPN6.out.step hW).cells
        dsimp only at q4 q5 q6 q7 q8 q9 q10
        go_simp
        first | done | with_reducible rfl | omega
      try simp only [Act.put, List.setIfInBounds_toArray, List.set_cons_zero, List.set_cons_succ]
      refine' T_take (i := 4) (v := _) rfl (by kernel_rfl) (by kernel_rfl) (by kernel_rfl) (by kernel_rfl) (fun _ _ _ h => h) (by kernel_rfl) hS ?_ ?_
      rotate_left 1
      · intro Wv hW
        obtain ⟨⟨q0, q1, q2, q3⟩, ⟨q4, q5, q6, q7, q8, q9, q10⟩, -⟩ := (HPN6.out.step hW).cells
        dsimp only at q4 q5 q6 q7 q8 q9 q10
        go_simp
        first | done | with_reducible rfl | omega
      try simp only [Act.put, List.setIfInBounds_toArray, List.set_cons_zero, List.set_cons_succ]
      refine T_ready (rs := [2]) (by kernel_rfl) (by simp) ?_
      refine TReady.cons rfl (fun K hK => ?_) TReady.nil
      try go_simp
      refine hK.out _ _ (fun _ => hS.alloc hS.size _) (fun hS2 => ?_)
      replace hS := hS2 (by decide)
      clear hS2 hK K
      try simp only [Act.put, List.setIfInBounds_toArray, List.set_cons_zero, List.set_cons_succ]
      refine T_ready (rs := [3]) (by kernel_rfl) (by simp) ?_
      refine TReady.cons rfl (fun K hK => ?_) TReady.nil
      try go_simp
      refine (sum2_c _ _ _ _ _ (by simp) (by simp) HBD.out.1 HBD.out.2).mono ?_
      rintro e w9 ⟨rfl, rfl⟩
      try go_simp
      refine hK.out _ _ (fun _ => hS) (fun _ => ?_)
      clear hK K
      try simp only [Act.put, List.setIfInBounds_toArray, List.set_cons_zero, List.set_cons_succ]
      refine' T_take (i := 5) (v := _) rfl (by kernel_rfl) (by kernel_rfl) (by kernel_rfl) (by kernel_rfl) (fun _ _ _ h => h) (by kernel_rfl) hS ?_ ?_
      rotate_left 1
      · intro Wv hW
        obtain ⟨⟨q0, q1, q2, q3⟩, ⟨q4, q5, q6, q7, q8, q9, q10⟩, -⟩ := (HPN6.out.step hW).cells
        dsimp only at q4 q5 q6 q7 q8 q9 q10
        go_simp
        first | done | with_reducible rfl | omega
      try simp only [Act.put, List.setIfInBounds_toArray, List.set_cons_zero, List.set_cons_succ]
      refine T_ready (rs := [6]) (by kernel_rfl) (by simp) ?_
      refine TReady.cons rfl (fun K hK => ?_) TReady.nil
      obtain ⟨⟨r0, r1, r2, r3⟩, ⟨r4, r5, r6, r7, r8, r9, r10⟩, rf⟩ := (HP7.out.step hS).cells
      simp only [World.cell?_drew] at r0 r1 r2 r3 r4 r5 r6 r7 r8 r9 r10
      simp only [World.frozen?_drew] at rf
      try go_simp
      refine hK.out _ _ (fun h => absurd h (by decide)) (fun _ => ?_)
      clear hK K
      try simp only [Act.put, List.setIfInBounds_toArray, List.set_cons_zero, List.set_cons_succ]
      refine T_done (by kernel_rfl) ?_ _
      refine NoPanic.normal ?_
      try go_simp
      go_wp2_with fail
      go_roundw
      case rel =>
        have hPa : PlAt (wn.alloc (.cells #[.int .i64 tk, .int .i64 wt] 3)) pb N ⟨fr, th, st, fresh, need, x0, x1⟩ := HP7.out.step ((Below.refl _ _).alloc (Nat.le_refl _) _)
        refine ⟨k + 1, by omega, by go_num, by rw [HTS.out], ?_, ?_⟩
        · rw [HPK2.out]
          exact PlAt.drew (setP_at hPa ⟨fr', th', st', fresh', need', y0, y1⟩)
        · exact ((HB7.out.alloc (Nat.le_of_lt HP7.out.lt) _).trans (setP_below (p := ⟨fr', th', st', fresh', need', y0, y1⟩) (Nat.le_refl _))).drew
      case measure => simp [intOf]; omega
    · obtain rfl : k = xs.length := by omega
      go_wp2_with fail
      go_ret
      exact ⟨rfl, HB3.out.trans (HBW.out.mono hz2)⟩
end Go.Proofs.Ytenpiinkbfancaa
