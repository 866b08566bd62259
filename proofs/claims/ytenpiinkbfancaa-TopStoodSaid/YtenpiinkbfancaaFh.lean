/-
  frame: the final count of a sheet that goes on with the balls of an end, walked.
-/
import Derived.Test.YtenpiinkbfancaaFg
namespace Go.Proofs.Ytenpiinkbfancaa
open Go.RowKit
set_option linter.unusedSimpArgs false
set_option linter.unusedVariables false

attribute [local go_sem] Oper.semAt_some
/-- How far a game in a box is from its end. -/
def farF (N : Int) (W : World) (v : Value) : Nat :=
  match v with
  | .pointer (some a) => (match W.cell? ⟨a.block, 4, none⟩, W.cell? ⟨a.block, 5, none⟩ with
    | some (.int _ fr), some (.int _ th) => (4 * (N - fr) - th).toNat
    | _, _ => 0)
  | _ => 0
theorem farF_at {W : World} {b : Nat} {N : Int} {p : Pl} (h : PlAt W b N p) : farF N W (.pointer (some ⟨b, 0, none⟩)) = (4 * (N - p.fr) - p.th).toNat := by
  obtain ⟨-, ⟨h1, h2, -⟩, -⟩ := h.cells
  simp [farF, h1, h2]
theorem far_next {N : Int} {p : Pl} {b : Int} (h : PlOk N p) (hf : p.fr < N) : (4 * (N - (nextP N p b).fr) - (nextP N p b).th).toNat < (4 * (N - p.fr) - p.th).toNat := by
  have h1 := h.t0
  have h2 := h.t1
  have h3 := h.nd
  unfold nextP
  repeat' split
  all_goals (simp only; omega)
/-- A box of a game that nothing has been stored into. -/
def ZAt (W : World) (b : Nat) : Prop := W.heap[b]? = some (.cells #[.int .i64 0, .int .i64 0, .int .i64 0, .int .i64 0, .int .i64 0, .int .i64 0, .int .i64 0, .bool false, .int .i64 0, .int .i64 0, .int .i64 0] 148)
theorem ZAt.lt {W : World} {b : Nat} (h : ZAt W b) : b < W.heap.size := (Array.getElem?_eq_some_iff.1 h).1
theorem ZAt.step {W W' : World} {b : Nat} (h : ZAt W b) (hb : Below W.heap.size W W') : ZAt W' b := (hb.block b h.lt).trans h
theorem ZAt.new (w : World) : ZAt (w.alloc (.cells #[.int .i64 0, .int .i64 0, .int .i64 0, .int .i64 0, .int .i64 0, .int .i64 0, .int .i64 0, .bool false, .int .i64 0, .int .i64 0, .int .i64 0] 148)) w.heap.size := World.alloc_heap_new _ _
theorem ZAt.drew {W : World} {b : Nat} (h : ZAt W b) : ZAt W.drew b := h
theorem ZAt.cells {W : World} {b : Nat} (h : ZAt W b) : (W.cell? ⟨b, 0, none⟩ = some (.int .i64 0) ∧ W.cell? ⟨b, 1, none⟩ = some (.int .i64 0) ∧ W.cell? ⟨b, 2, none⟩ = some (.int .i64 0) ∧ W.cell? ⟨b, 3, none⟩ = some (.int .i64 0)) ∧ (W.cell? ⟨b, 4, none⟩ = some (.int .i64 0) ∧ W.cell? ⟨b, 5, none⟩ = some (.int .i64 0) ∧ W.cell? ⟨b, 6, none⟩ = some (.int .i64 0) ∧ W.cell? ⟨b, 7, none⟩ = some (.bool false) ∧ W.cell? ⟨b, 8, none⟩ = some (.int .i64 0) ∧ W.cell? ⟨b, 9, none⟩ = some (.int .i64 0) ∧ W.cell? ⟨b, 10, none⟩ = some (.int .i64 0)) ∧ ∀ o, W.frozen? ⟨b, o, none⟩ = false := by
  unfold ZAt at h
  simp [World.cell?, World.frozen?, h]
theorem below_cat {W cur w9 : World} (hb : Below cur.heap.size cur w9) (h : Below W.heap.size W cur) : Below W.heap.size W w9 := h.trans (hb.mono h.size)
theorem below_cut {n : Nat} {A B C : World} (h : Below n A B) (k : Below n B C) : Below n A C := h.trans k
theorem setP_z {W : World} {g : Nat} {N : Int} (h : ZAt W g) (p' : Pl) : PlAt (setP W g N p') g N p' := by
  unfold PlAt setP
  unfold ZAt at h
  simp [World.setCell, Array.getElem?_modify, h]
set_option maxRecDepth 100000 in
set_option maxHeartbeats 16000000 in
theorem final_c (N : Int) (A : Option Addr) (c : Nat) (xs : List Int) (mo : Bool) (J : Nat) (w : World) (hs : SheetOk N xs) (hx : Ints w.heap.size w A xs) (hj : FinOk N mo (plS N xs xs.length) J) :
    Calls Try.prog 108 #[lawV N, .slice A xs.length c, .agg #[.func (.func (endF mo)) #[] #[]]] w (Ans w (.int .i64 (totS N xs xs.length + finT N mo (plS N xs xs.length) J))) := by
  obtain ⟨w1, hw1⟩ : ∃ w1, w1 = (w.alloc (.cells #[.int .i64 N, .int .i64 10, .int .i64 2, .int .i64 10] 50)).alloc (.cells #[.func (.func (endF mo)) #[] #[]] 239) := ⟨_, rfl⟩
  have hb0 : Below w.heap.size w w1 := by rw [hw1]; exact below_two _ _
  have HB := Lib.hid hb0
  have hz1 : w1.heap.size = w.heap.size + 2 := by rw [hw1]; simp
  have l0 : w1.cell? ⟨w.heap.size, 0, none⟩ = some (.int .i64 N) := by rw [hw1]; go_simp
  have l1 : w1.cell? ⟨w.heap.size, 1, none⟩ = some (.int .i64 10) := by rw [hw1]; go_simp
  have l2 : w1.cell? ⟨w.heap.size, 2, none⟩ = some (.int .i64 2) := by rw [hw1]; go_simp
  have l3 : w1.cell? ⟨w.heap.size, 3, none⟩ = some (.int .i64 10) := by rw [hw1]; go_simp
  have e0 : w1.cell? ⟨w.heap.size + 1, 0, none⟩ = some (.func (.func (endF mo)) #[] #[]) := by rw [hw1]; go_simp
  have hN0 := hs.n0
  have hN1 := hs.n1
  have hlen := hs.len
  have HX := Lib.hid hx
  have HTO := Lib.hid (total_c N A c xs w1 hs ((hx.below hb0).more (by omega)))
  have HBE := Lib.hid (fun (W : World) (h : Below w.heap.size w W) => behind_c N A c xs W hs ((hx.below h).more h.size))
  have htt := totS_bd hs xs.length (Nat.le_refl _)
  unfold lawV at *
  clear hb0 hx
  go_enter Try.func108, Try.ntmps108
  go_wp2_with fail
  rw [← hw1]
  clear hw1
  refine HTO.out.mono ?_
  rintro e w2 ⟨rfl, hb⟩
  replace HB := Lib.hid (HB.out.trans (hb.mono HB.out.size))
  replace l0 := cell_of_ans hb l0
  replace l1 := cell_of_ans hb l1
  replace l2 := cell_of_ans hb l2
  replace l3 := cell_of_ans hb l3
  replace e0 := cell_of_ans hb e0
  have hz2 : w.heap.size + 2 ≤ w2.heap.size := by have := hb.size; omega
  clear hb HTO
  go_wp2_with fail
  refine (HBE.out w2 HB.out).mono ?_
  rintro e w3 ⟨rfl, hb⟩
  replace HB := Lib.hid (HB.out.trans (hb.mono HB.out.size))
  replace e0 := cell_of_ans hb e0
  have hz3 : w.heap.size + 2 ≤ w3.heap.size := by have := hb.size; omega
  clear hb HBE l0 l1 l2 l3
  have htt2 : totS N xs xs.length ≤ 1200 := by omega
  have htt3 := htt.1
  have HJ := Lib.hid hj
  clear hj htt HX hlen
  generalize hpe : plS N xs xs.length = pe at *
  generalize totS N xs xs.length = tot at *
  clear hpe
  have HPN : Hid (PlAt (w3.alloc (.cells #[.int .i64 N, .int .i64 10, .int .i64 2, .int .i64 10, .int .i64 pe.fr, .int .i64 pe.th, .int .i64 pe.st, .bool pe.fresh, .int .i64 pe.need, .int .i64 pe.a0, .int .i64 pe.a1] 148)) w3.heap.size N pe) := PlAt.new w3 N pe
  have hb3 : Below w3.heap.size w3 (w3.alloc (.cells #[.int .i64 N, .int .i64 10, .int .i64 2, .int .i64 10, .int .i64 pe.fr, .int .i64 pe.th, .int .i64 pe.st, .bool pe.fresh, .int .i64 pe.need, .int .i64 pe.a0, .int .i64 pe.a1] 148)) := (Below.refl _ _).alloc (Nat.le_refl _) _
  have HB3 := Lib.hid hb3
  clear hb3
  unfold plV
  dsimp only
  go_wp2_with fail
  generalize w3.alloc (.cells #[.int .i64 N, .int .i64 10, .int .i64 2, .int .i64 10, .int .i64 pe.fr, .int .i64 pe.th, .int .i64 pe.st, .bool pe.fresh, .int .i64 pe.need, .int .i64 pe.a0, .int .i64 pe.a1] 148) = w4 at *
  go_loopw [7, 8] (fun s pv wr => ∃ j nb : Nat, j ≤ J ∧ s = .int .i64 (tot + finT N mo pe j) ∧ pv = .pointer (some ⟨nb, 0, none⟩) ∧ PlAt wr nb N (finS N mo pe j) ∧ w3.heap.size ≤ nb ∧ Below w3.heap.size w3 wr) (fun s pv wr => farF N wr pv)
  case atStart => exact ⟨0, w3.heap.size, by omega, by simp [finT], rfl, HPN.out, Nat.le_refl _, HB3.out⟩
  case round =>
    obtain ⟨j, nb, hjJ, rfl, rfl, hp, hnb, hbw⟩ := hrel
    have HFR := Lib.hid (farF_at hp)
    have HP := Lib.hid hp
    have HBW := Lib.hid hbw
    replace e0 := cell_of_ans hbw e0
    have hok := HJ.out.ok j hjJ
    have htb := finT_bd HJ.out j hjJ
    have HDN := Lib.hid (fun W => done_c N (finS N mo pe j) W)
    have HEE := Lib.hid (fun W => endF_c mo N (finS N mo pe j) W)
    have hen := enters_endF mo
    unfold Enters at hen
    clear hp hbw
    by_cases h1 : j < J
    · have hrun := HJ.out.run j h1
      have hbl := ballE_bd (mo := mo) hok
      have HNX := Lib.hid (fun W' => next_c N (finS N mo pe j) (ballE mo (finS N mo pe j)) W' hok ⟨hN0, hN1⟩ hrun hbl.1 hbl.2.1)
      have hwb := wth_bd hok hbl.1 hbl.2.2
      have HFA := Lib.hid (far_next (b := ballE mo (finS N mo pe j)) hok hrun)
      have hdn : ((finS N mo pe j).fr == N) = false := by simp; omega
      rw [hdn] at HDN
      have HTS : Hid (finT N mo pe (j + 1) = finT N mo pe j + wth (finS N mo pe j) (ballE mo (finS N mo pe j))) := rfl
      have HPS : Hid (finS N mo pe (j + 1) = nextP N (finS N mo pe j) (ballE mo (finS N mo pe j))) := rfl
      have hj10 := HJ.out.j10
      unfold nxV at HNX
      clear hok hrun hdn
      generalize finT N mo pe j = tk at *
      generalize wth (finS N mo pe j) (ballE mo (finS N mo pe j)) = wt at *
      generalize ballE mo (finS N mo pe j) = xb at *
      generalize finS N mo pe j = p at *
      generalize nextP N p xb = p2 at *
      obtain ⟨fr, th, st, fresh, need, x0, x1⟩ := p
      obtain ⟨fr', th', st', fresh', need', y0, y1⟩ := p2
      have hbd : (0 ≤ tot + tk ∧ tot + tk ≤ 100000) ∧ (0 ≤ wt ∧ wt ≤ 100000) := by omega
      have HBD := Lib.hid hbd
      have w1 : IntKind.i64.wrap (tot + tk) = tot + tk := IntWalk.i64_in _ (by omega)
      clear hbd hwb htb hbl
      unfold plV at HNX HDN HEE
      obtain ⟨⟨p0, p1, p2, p3⟩, ⟨p4, p5, p6, p7, p8, p9, p10⟩, -⟩ := HP.out.cells
      dsimp only at HNX HDN HEE p4 p5 p6 p7 p8 p9 p10
      go_wp2_with fail
      refine (HDN.out _).mono ?_
      rintro e w6 ⟨rfl, hb⟩
      have HP6 := Lib.hid (HP.out.step hb)
      have HB6 := Lib.hid (HBW.out.trans (hb.mono HBW.out.size))
      replace e0 := cell_of_ans hb e0
      clear hb HDN p0 p1 p2 p3 p4 p5 p6 p7 p8 p9 p10 HBW
      generalize htok : tot + tk = tok at *
      have HTOK := Lib.hid htok
      clear htok
      go_upto_region 4 with fail
      rename_i KK aKK
      have TAIL : ∀ (u31 u32 u33 u34 u35 u36 : Value) (qb : Nat) (W5 : World), Hid (Below w6.heap.size w6 W5) → Hid (PlAt W5 qb N ⟨fr', th', st', fresh', need', y0, y1⟩) → KK { tmps := #[.agg #[.int .i64 N, .int .i64 10, .int .i64 2, .int .i64 10], .slice A xs.length c, .agg #[.func (.func (endF mo)) #[] #[]], .pointer (some ⟨w.heap.size, 0, none⟩), undef, .pointer (some ⟨w.heap.size + 1, 0, none⟩), .int .i64 0, .int .i64 tok, .pointer (some ⟨nb, 0, none⟩), .pointer (some ⟨qb, 0, none⟩), .int .i64 xb, .int .i64 wt, .agg #[.int .i64 N, .int .i64 10, .int .i64 2, .int .i64 10], .slice A xs.length c, .int .i64 tot, .agg #[.int .i64 N, .int .i64 10, .int .i64 2, .int .i64 10], .slice A xs.length c, .agg #[.int .i64 N, .int .i64 10, .int .i64 2, .int .i64 10, .int .i64 pe.fr, .int .i64 pe.th, .int .i64 pe.st, .bool pe.fresh, .int .i64 pe.need, .int .i64 pe.a0, .int .i64 pe.a1], .agg #[.int .i64 N, .int .i64 10, .int .i64 2, .int .i64 10, .int .i64 fr, .int .i64 th, .int .i64 st, .bool fresh, .int .i64 need, .int .i64 x0, .int .i64 x1], .bool false, .bool true, .tuple #[.agg #[.int .i64 N, .int .i64 10, .int .i64 2, .int .i64 10, .int .i64 fr', .int .i64 th', .int .i64 st', .bool fresh', .int .i64 need', .int .i64 y0, .int .i64 y1], .int .i64 xb, .int .i64 wt], .agg #[.int .i64 N, .int .i64 10, .int .i64 2, .int .i64 10, .int .i64 fr, .int .i64 th, .int .i64 st, .bool fresh, .int .i64 need, .int .i64 x0, .int .i64 x1], .pointer (some ⟨w.heap.size + 1, 0, none⟩), .func (.func (endF mo)) #[] #[], .agg #[.int .i64 N, .int .i64 10, .int .i64 2, .int .i64 10, .int .i64 fr, .int .i64 th, .int .i64 st, .bool fresh, .int .i64 need, .int .i64 x0, .int .i64 x1], .int .i64 xb, .tuple #[.agg #[.int .i64 N, .int .i64 10, .int .i64 2, .int .i64 10, .int .i64 fr', .int .i64 th', .int .i64 st', .bool fresh', .int .i64 need', .int .i64 y0, .int .i64 y1], .int .i64 xb, .int .i64 wt], .agg #[.int .i64 N, .int .i64 10, .int .i64 2, .int .i64 10, .int .i64 fr', .int .i64 th', .int .i64 st', .bool fresh', .int .i64 need', .int .i64 y0, .int .i64 y1], .int .i64 xb, .int .i64 wt, u31, u32, u33, u34, u35, u36, undef], defers := [] } W5 := by
        intro u31 u32 u33 u34 u35 u36 qb W5 HB5 HQ5
        refine aKK _ _ ?_
        clear aKK KK HNX HEE hen
        have HP5 := Lib.hid (HP6.out.step HB5.out)
        have HBW5 := Lib.hid (HB6.out.trans (HB5.out.mono HB6.out.size))
        clear HP6 HB6 HB5 e0
        go_upto_region 5 with fail
        refine wp_region_noPanic ?_
        have hS : (fun W' : World => Below W5.heap.size W5 W') W5.drew := (Below.refl _ _).drew
        refine wp_region_any (by kernel_rfl) (wpAny_of_T (S := fun W' : World => Below W5.heap.size W5 W') (m := 6) _ _ _ _ ?_)
        refine' T_take (i := 0) (v := _) rfl (by kernel_rfl) (by kernel_rfl) (by kernel_rfl) (by kernel_rfl) (fun _ _ _ h => h) (by kernel_rfl) hS ?_ ?_
        rotate_left 1
        · intro Wv hW
          obtain ⟨⟨q0, q1, q2, q3⟩, ⟨q4, q5, q6, q7, q8, q9, q10⟩, -⟩ := (HQ5.out.step hW).cells
          dsimp only at q4 q5 q6 q7 q8 q9 q10
          go_simp
          first | done | with_reducible rfl | omega
        try simp only [Act.put, List.setIfInBounds_toArray, List.set_cons_zero, List.set_cons_succ]
        refine' T_take (i := 1) (v := _) rfl (by kernel_rfl) (by kernel_rfl) (by kernel_rfl) (by kernel_rfl) (fun _ _ _ h => h) (by kernel_rfl) hS ?_ ?_
        rotate_left 1
        · intro Wv hW
          obtain ⟨⟨q0, q1, q2, q3⟩, ⟨q4, q5, q6, q7, q8, q9, q10⟩, -⟩ := (HQ5.out.step hW).cells
          dsimp only at q4 q5 q6 q7 q8 q9 q10
          go_simp
          first | done | with_reducible rfl | omega
        try simp only [Act.put, List.setIfInBounds_toArray, List.set_cons_zero, List.set_cons_succ]
        refine' T_take (i := 4) (v := _) rfl (by kernel_rfl) (by kernel_rfl) (by kernel_rfl) (by kernel_rfl) (fun _ _ _ h => h) (by kernel_rfl) hS ?_ ?_
        rotate_left 1
        · intro Wv hW
          obtain ⟨⟨q0, q1, q2, q3⟩, ⟨q4, q5, q6, q7, q8, q9, q10⟩, -⟩ := (HQ5.out.step hW).cells
          dsimp only at q4 q5 q6 q7 q8 q9 q10
          go_simp
          first | done | with_reducible rfl | omega
        try simp only [Act.put, List.setIfInBounds_toArray, List.set_cons_zero, List.set_cons_succ]
        refine T_ready (rs := [2]) (by kernel_rfl) (by simp) ?_
        refine TReady.cons rfl (fun K hK => ?_) TReady.nil
        try go_simp
        refine hK.out _ _ (fun _ => hS.alloc hS.size _) (fun hS2 => ?_)
        replace hS := hS2 (by decide)
        clear hS2 hK K
        try simp only [Act.put, List.setIfInBounds_toArray, List.set_cons_zero, List.set_cons_succ]
        refine T_ready (rs := [3]) (by kernel_rfl) (by simp) ?_
        refine TReady.cons rfl (fun K hK => ?_) TReady.nil
        try go_simp
        refine (sum2_c _ _ _ _ _ (by simp) (by simp) HBD.out.1 HBD.out.2).mono ?_
        rintro e w9 ⟨rfl, rfl⟩
        try go_simp
        refine hK.out _ _ (fun _ => hS) (fun _ => ?_)
        clear hK K
        try simp only [Act.put, List.setIfInBounds_toArray, List.set_cons_zero, List.set_cons_succ]
        refine' T_take (i := 5) (v := _) rfl (by kernel_rfl) (by kernel_rfl) (by kernel_rfl) (by kernel_rfl) (fun _ _ _ h => h) (by kernel_rfl) hS ?_ ?_
        rotate_left 1
        · intro Wv hW
          obtain ⟨⟨q0, q1, q2, q3⟩, ⟨q4, q5, q6, q7, q8, q9, q10⟩, -⟩ := (HQ5.out.step hW).cells
          dsimp only at q4 q5 q6 q7 q8 q9 q10
          go_simp
          first | done | with_reducible rfl | omega
        try simp only [Act.put, List.setIfInBounds_toArray, List.set_cons_zero, List.set_cons_succ]
        refine T_ready (rs := [6]) (by kernel_rfl) (by simp) ?_
        refine TReady.cons rfl (fun K hK => ?_) TReady.nil
        obtain ⟨⟨r0, r1, r2, r3⟩, ⟨r4, r5, r6, r7, r8, r9, r10⟩, rf⟩ := (HP5.out.step hS).cells
        simp only [World.cell?_drew] at r0 r1 r2 r3 r4 r5 r6 r7 r8 r9 r10
        simp only [World.frozen?_drew] at rf
        try go_simp
        refine hK.out _ _ (fun h => absurd h (by decide)) (fun _ => ?_)
        clear hK K
        try simp only [Act.put, List.setIfInBounds_toArray, List.set_cons_zero, List.set_cons_succ]
        refine T_done (by kernel_rfl) ?_ _
        refine NoPanic.normal ?_
        try go_simp
        have HPa : Hid (PlAt (W5.alloc (.cells #[.int .i64 tok, .int .i64 wt] 3)) nb N ⟨fr, th, st, fresh, need, x0, x1⟩) := HP5.out.step ((Below.refl _ _).alloc (Nat.le_refl _) _)
        have HPb : Hid (PlAt (setP (W5.alloc (.cells #[.int .i64 tok, .int .i64 wt] 3)) nb N ⟨fr', th', st', fresh', need', y0, y1⟩) nb N ⟨fr', th', st', fresh', need', y0, y1⟩) := setP_at HPa.out _
        have HBb : Hid (Below w3.heap.size w3 (setP (W5.alloc (.cells #[.int .i64 tok, .int .i64 wt] 3)) nb N ⟨fr', th', st', fresh', need', y0, y1⟩)) := (HBW5.out.alloc HBW5.out.size _).trans (setP_below hnb)
        have HPc := Lib.hid (PlAt.drew HPb.out)
        have HBc := Lib.hid (HBb.out.drew)
        clear HPb HBb HPa HP5 HQ5 HBW5 hS
        unfold setP at HPc HBc
        dsimp only at HPc HBc
        generalize ((((((((((((W5.alloc (.cells #[.int .i64 tok, .int .i64 wt] 3)).setCell ⟨nb, 0, none⟩ (.int .i64 N)).setCell ⟨nb, 1, none⟩ (.int .i64 10)).setCell ⟨nb, 2, none⟩ (.int .i64 2)).setCell ⟨nb, 3, none⟩ (.int .i64 10)).setCell ⟨nb, 4, none⟩ (.int .i64 fr')).setCell ⟨nb, 5, none⟩ (.int .i64 th')).setCell ⟨nb, 6, none⟩ (.int .i64 st')).setCell ⟨nb, 7, none⟩ (.bool fresh')).setCell ⟨nb, 8, none⟩ (.int .i64 need')).setCell ⟨nb, 9, none⟩ (.int .i64 y0)).setCell ⟨nb, 10, none⟩ (.int .i64 y1)).drew = W6 at *
        obtain ⟨⟨p0, p1, p2, p3⟩, ⟨p4, p5, p6, p7, p8, p9, p10⟩, -⟩ := HPc.out.cells
        dsimp only at p4 p5 p6 p7 p8 p9 p10
        have HPN : Hid (PlAt (W6.alloc (.cells #[.int .i64 N, .int .i64 10, .int .i64 2, .int .i64 10, .int .i64 fr', .int .i64 th', .int .i64 st', .bool fresh', .int .i64 need', .int .i64 y0, .int .i64 y1] 148)) W6.heap.size N ⟨fr', th', st', fresh', need', y0, y1⟩) := PlAt.new W6 N ⟨fr', th', st', fresh', need', y0, y1⟩
        have HBN : Hid (Below w3.heap.size w3 (W6.alloc (.cells #[.int .i64 N, .int .i64 10, .int .i64 2, .int .i64 10, .int .i64 fr', .int .i64 th', .int .i64 st', .bool fresh', .int .i64 need', .int .i64 y0, .int .i64 y1] 148))) := HBc.out.alloc HBc.out.size _
        go_wp2_with fail
        generalize (W6.alloc (.cells #[.int .i64 N, .int .i64 10, .int .i64 2, .int .i64 10, .int .i64 fr', .int .i64 th', .int .i64 st', .bool fresh', .int .i64 need', .int .i64 y0, .int .i64 y1] 148)) = W7 at *
        go_roundw
        case rel => exact ⟨j + 1, W6.heap.size, by omega, by rw [HTS.out, ← HTOK.out, Int.add_assoc], rfl, by rw [HPS.out]; exact HPN.out, HBc.out.size, HBN.out⟩
        case measure =>
          have e1 := farF_at HPN.out
          have e2 := HFR.out
          have e3 := HFA.out
          show farF N W7 (.pointer (some ⟨W6.heap.size, 0, none⟩)) < farF N wr (.pointer (some ⟨nb, 0, none⟩))
          rw [e1, e2]
          exact e3
      have TAILH := Lib.hid TAIL
      clear TAIL aKK
      refine wp_region_noPanic ?_
      have hS : (fun W' : World => Below w6.heap.size w6 W') w6.drew := (Below.refl _ _).drew
      refine wp_region_any (by kernel_rfl) (wpAny_of_T (S := fun W' : World => Below w6.heap.size w6 W') (m := 14) _ _ _ _ ?_)
      refine' T_take (i := 0) (v := _) rfl (by kernel_rfl) (by kernel_rfl) (by kernel_rfl) (by kernel_rfl) (fun _ _ _ h => h) (by kernel_rfl) hS ?_ ?_
      rotate_left 1
      · intro Wv hW
        replace e0 := cell_of_ans hW e0
        obtain ⟨⟨q0, q1, q2, q3⟩, ⟨q4, q5, q6, q7, q8, q9, q10⟩, -⟩ := (HP6.out.step hW).cells
        dsimp only at q4 q5 q6 q7 q8 q9 q10
        go_simp
        first | done | with_reducible rfl | omega
      try simp only [Act.put, List.setIfInBounds_toArray, List.set_cons_zero, List.set_cons_succ]
      refine' T_take (i := 1) (v := _) rfl (by kernel_rfl) (by kernel_rfl) (by kernel_rfl) (by kernel_rfl) (fun _ _ _ h => h) (by kernel_rfl) hS ?_ ?_
      rotate_left 1
      · intro Wv hW
        replace e0 := cell_of_ans hW e0
        obtain ⟨⟨q0, q1, q2, q3⟩, ⟨q4, q5, q6, q7, q8, q9, q10⟩, -⟩ := (HP6.out.step hW).cells
        dsimp only at q4 q5 q6 q7 q8 q9 q10
        go_simp
        first | done | with_reducible rfl | omega
      try simp only [Act.put, List.setIfInBounds_toArray, List.set_cons_zero, List.set_cons_succ]
      refine' T_take (i := 2) (v := _) rfl (by kernel_rfl) (by kernel_rfl) (by kernel_rfl) (by kernel_rfl) (fun _ _ _ h => h) (by kernel_rfl) hS ?_ ?_
      rotate_left 1
      · intro Wv hW
        replace e0 := cell_of_ans hW e0
        obtain ⟨⟨q0, q1, q2, q3⟩, ⟨q4, q5, q6, q7, q8, q9, q10⟩, -⟩ := (HP6.out.step hW).cells
        dsimp only at q4 q5 q6 q7 q8 q9 q10
        go_simp
        first | done | with_reducible rfl | omega
      try simp only [Act.put, List.setIfInBounds_toArray, List.set_cons_zero, List.set_cons_succ]
      refine' T_take (i := 3) (v := _) rfl (by kernel_rfl) (by kernel_rfl) (by kernel_rfl) (by kernel_rfl) (fun _ _ _ h => h) (by kernel_rfl) hS ?_ ?_
      rotate_left 1
      · intro Wv hW
        replace e0 := cell_of_ans hW e0
        obtain ⟨⟨q0, q1, q2, q3⟩, ⟨q4, q5, q6, q7, q8, q9, q10⟩, -⟩ := (HP6.out.step hW).cells
        dsimp only at q4 q5 q6 q7 q8 q9 q10
        go_simp
        first | done | with_reducible rfl | omega
      try simp only [Act.put, List.setIfInBounds_toArray, List.set_cons_zero, List.set_cons_succ]
      refine T_ready (rs := [4, 10]) (by kernel_rfl) (by simp) ?_
      refine TReady.cons rfl (fun K hK => ?_) (TReady.cons rfl (fun K hK => ?_) TReady.nil)
      · try go_simp
        refine (HEE.out _).mono ?_
        rintro e w7 ⟨rfl, hb⟩
        have hS2 : Below w6.heap.size w6 w7 := below_cat hb hS
        try go_simp
        refine hK.out _ _ (fun _ => hS2) (fun _ => ?_)
        clear hK K hS hb
        replace hS := hS2
        clear hS2
        try simp only [Act.put, List.setIfInBounds_toArray, List.set_cons_zero, List.set_cons_succ]
        refine T_ready (rs := [5, 10]) (by kernel_rfl) (by simp) ?_
        refine TReady.cons rfl (fun K hK => ?_) (TReady.cons rfl (fun K hK => ?_) TReady.nil)
        · try go_simp
          refine (HNX.out _).mono ?_
          rintro e w8 ⟨rfl, hb⟩
          have hS2 : Below w6.heap.size w6 w8 := below_cat hb hS
          try go_simp
          refine hK.out _ _ (fun _ => hS2) (fun _ => ?_)
          clear hK K hS hb
          replace hS := hS2
          clear hS2
          try simp only [Act.put, List.setIfInBounds_toArray, List.set_cons_zero, List.set_cons_succ]
          refine' T_take (i := 6) (v := _) rfl (by kernel_rfl) (by kernel_rfl) (by kernel_rfl) (by kernel_rfl) (fun _ _ _ h => h) (by kernel_rfl) hS ?_ ?_
          rotate_left 1
          · intro Wv hW
            replace e0 := cell_of_ans hW e0
            obtain ⟨⟨q0, q1, q2, q3⟩, ⟨q4, q5, q6, q7, q8, q9, q10⟩, -⟩ := (HP6.out.step hW).cells
            dsimp only at q4 q5 q6 q7 q8 q9 q10
            go_simp
            first | done | with_reducible rfl | omega
          try simp only [Act.put, List.setIfInBounds_toArray, List.set_cons_zero, List.set_cons_succ]
          refine' T_take (i := 7) (v := _) rfl (by kernel_rfl) (by kernel_rfl) (by kernel_rfl) (by kernel_rfl) (fun _ _ _ h => h) (by kernel_rfl) hS ?_ ?_
          rotate_left 1
          · intro Wv hW
            replace e0 := cell_of_ans hW e0
            obtain ⟨⟨q0, q1, q2, q3⟩, ⟨q4, q5, q6, q7, q8, q9, q10⟩, -⟩ := (HP6.out.step hW).cells
            dsimp only at q4 q5 q6 q7 q8 q9 q10
            go_simp
            first | done | with_reducible rfl | omega
          try simp only [Act.put, List.setIfInBounds_toArray, List.set_cons_zero, List.set_cons_succ]
          refine' T_take (i := 8) (v := _) rfl (by kernel_rfl) (by kernel_rfl) (by kernel_rfl) (by kernel_rfl) (fun _ _ _ h => h) (by kernel_rfl) hS ?_ ?_
          rotate_left 1
          · intro Wv hW
            replace e0 := cell_of_ans hW e0
            obtain ⟨⟨q0, q1, q2, q3⟩, ⟨q4, q5, q6, q7, q8, q9, q10⟩, -⟩ := (HP6.out.step hW).cells
            dsimp only at q4 q5 q6 q7 q8 q9 q10
            go_simp
            first | done | with_reducible rfl | omega
          try simp only [Act.put, List.setIfInBounds_toArray, List.set_cons_zero, List.set_cons_succ]
          refine' T_take (i := 9) (v := _) rfl (by kernel_rfl) (by kernel_rfl) (by kernel_rfl) (by kernel_rfl) (fun _ _ _ h => h) (by kernel_rfl) hS ?_ ?_
          rotate_left 1
          · intro Wv hW
            replace e0 := cell_of_ans hW e0
            obtain ⟨⟨q0, q1, q2, q3⟩, ⟨q4, q5, q6, q7, q8, q9, q10⟩, -⟩ := (HP6.out.step hW).cells
            dsimp only at q4 q5 q6 q7 q8 q9 q10
            go_simp
            first | done | with_reducible rfl | omega
          try simp only [Act.put, List.setIfInBounds_toArray, List.set_cons_zero, List.set_cons_succ]
          refine T_ready (rs := [10]) (by kernel_rfl) (by simp) ?_
          refine TReady.cons rfl (fun K hK => ?_) TReady.nil
          have hS0 := hS
          try go_simp
          have hqb : w6.heap.size ≤ w8.heap.size := hS.size
          have HZ : Hid (ZAt (w8.alloc (.cells #[.int .i64 0, .int .i64 0, .int .i64 0, .int .i64 0, .int .i64 0, .int .i64 0, .int .i64 0, .bool false, .int .i64 0, .int .i64 0, .int .i64 0] 148)) w8.heap.size) := ZAt.new w8
          refine hK.out _ _ (fun _ => hS.alloc hS.size _) (fun hS2 => ?_)
          replace hS := hS2 (by decide)
          clear hS2 hK K
          try simp only [Act.put, List.setIfInBounds_toArray, List.set_cons_zero, List.set_cons_succ]
          refine T_ready (rs := [11]) (by kernel_rfl) (by simp) ?_
          refine TReady.cons rfl (fun K hK => ?_) TReady.nil
          have HZC := HZ.out.cells
          have z0 := HZC.1.1
          have z1 := HZC.1.2.1
          have z2 := HZC.1.2.2.1
          have z3 := HZC.1.2.2.2
          have z4 := HZC.2.1.1
          have z5 := HZC.2.1.2.1
          have z6 := HZC.2.1.2.2.1
          have z7 := HZC.2.1.2.2.2.1
          have z8 := HZC.2.1.2.2.2.2.1
          have z9 := HZC.2.1.2.2.2.2.2.1
          have z10 := HZC.2.1.2.2.2.2.2.2
          have zf := HZC.2.2
          clear HZC
          have HQ : Hid (PlAt (w8.alloc (.cells #[.int .i64 N, .int .i64 10, .int .i64 2, .int .i64 10, .int .i64 fr', .int .i64 th', .int .i64 st', .bool fresh', .int .i64 need', .int .i64 y0, .int .i64 y1] 148)) w8.heap.size N ⟨fr', th', st', fresh', need', y0, y1⟩) := PlAt.new w8 N ⟨fr', th', st', fresh', need', y0, y1⟩
          have hS3 : Below w6.heap.size w6 (w8.alloc (.cells #[.int .i64 N, .int .i64 10, .int .i64 2, .int .i64 10, .int .i64 fr', .int .i64 th', .int .i64 st', .bool fresh', .int .i64 need', .int .i64 y0, .int .i64 y1] 148)) := hS0.alloc hS0.size _
          try go_simp
          refine hK.out _ _ (fun _ => hS3) (fun _ => ?_)
          clear hK K z0 z1 z2 z3 z4 z5 z6 z7 z8 z9 z10 zf HZ
          replace hS := hS3
          clear hS3
          try simp only [Act.put, List.setIfInBounds_toArray, List.set_cons_zero, List.set_cons_succ]
          refine' T_take (i := 12) (v := _) rfl (by kernel_rfl) (by kernel_rfl) (by kernel_rfl) (by kernel_rfl) (fun _ _ _ h => h) (by kernel_rfl) hS ?_ ?_
          rotate_left 1
          · intro Wv hW
            replace e0 := cell_of_ans hW e0
            obtain ⟨⟨q0, q1, q2, q3⟩, ⟨q4, q5, q6, q7, q8, q9, q10⟩, -⟩ := (HP6.out.step hW).cells
            dsimp only at q4 q5 q6 q7 q8 q9 q10
            go_simp
            first | done | with_reducible rfl | omega
          try simp only [Act.put, List.setIfInBounds_toArray, List.set_cons_zero, List.set_cons_succ]
          refine' T_take (i := 13) (v := _) rfl (by kernel_rfl) (by kernel_rfl) (by kernel_rfl) (by kernel_rfl) (fun _ _ _ h => h) (by kernel_rfl) hS ?_ ?_
          rotate_left 1
          · intro Wv hW
            replace e0 := cell_of_ans hW e0
            obtain ⟨⟨q0, q1, q2, q3⟩, ⟨q4, q5, q6, q7, q8, q9, q10⟩, -⟩ := (HP6.out.step hW).cells
            dsimp only at q4 q5 q6 q7 q8 q9 q10
            go_simp
            first | done | with_reducible rfl | omega
          try simp only [Act.put, List.setIfInBounds_toArray, List.set_cons_zero, List.set_cons_succ]
          refine T_done (by kernel_rfl) ?_ _
          refine NoPanic.normal ?_
          try go_simp
          exact TAILH.out _ _ _ _ _ _ _ _ (Lib.hid hS) HQ
        · have hS0 := hS
          try go_simp
          have hqb : w6.heap.size ≤ w7.heap.size := hS.size
          have HZ : Hid (ZAt (w7.alloc (.cells #[.int .i64 0, .int .i64 0, .int .i64 0, .int .i64 0, .int .i64 0, .int .i64 0, .int .i64 0, .bool false, .int .i64 0, .int .i64 0, .int .i64 0] 148)) w7.heap.size) := ZAt.new w7
          refine hK.out _ _ (fun _ => hS.alloc hS.size _) (fun hS2 => ?_)
          replace hS := hS2 (by decide)
          clear hS2 hK K
          try simp only [Act.put, List.setIfInBounds_toArray, List.set_cons_zero, List.set_cons_succ]
          refine T_ready (rs := [5]) (by kernel_rfl) (by simp) ?_
          refine TReady.cons rfl (fun K hK => ?_) TReady.nil
          try go_simp
          refine (HNX.out _).mono ?_
          rintro e w8 ⟨rfl, hb⟩
          have hS2 : Below w6.heap.size w6 w8 := below_cat hb hS
          replace HZ := Lib.hid (HZ.out.step hb)
          try go_simp
          refine hK.out _ _ (fun _ => hS2) (fun _ => ?_)
          clear hK K hS hb
          replace hS := hS2
          clear hS2
          try simp only [Act.put, List.setIfInBounds_toArray, List.set_cons_zero, List.set_cons_succ]
          refine' T_take (i := 6) (v := _) rfl (by kernel_rfl) (by kernel_rfl) (by kernel_rfl) (by kernel_rfl) (fun _ _ _ h => h) (by kernel_rfl) hS ?_ ?_
          rotate_left 1
          · intro Wv hW
            replace e0 := cell_of_ans hW e0
            obtain ⟨⟨q0, q1, q2, q3⟩, ⟨q4, q5, q6, q7, q8, q9, q10⟩, -⟩ := (HP6.out.step hW).cells
            dsimp only at q4 q5 q6 q7 q8 q9 q10
            go_simp
            first | done | with_reducible rfl | omega
          try simp only [Act.put, List.setIfInBounds_toArray, List.set_cons_zero, List.set_cons_succ]
          refine' T_take (i := 7) (v := _) rfl (by kernel_rfl) (by kernel_rfl) (by kernel_rfl) (by kernel_rfl) (fun _ _ _ h => h) (by kernel_rfl) hS ?_ ?_
          rotate_left 1
          · intro Wv hW
            replace e0 := cell_of_ans hW e0
            obtain ⟨⟨q0, q1, q2, q3⟩, ⟨q4, q5, q6, q7, q8, q9, q10⟩, -⟩ := (HP6.out.step hW).cells
            dsimp only at q4 q5 q6 q7 q8 q9 q10
            go_simp
            first | done | with_reducible rfl | omega
          try simp only [Act.put, List.setIfInBounds_toArray, List.set_cons_zero, List.set_cons_succ]
          refine' T_take (i := 8) (v := _) rfl (by kernel_rfl) (by kernel_rfl) (by kernel_rfl) (by kernel_rfl) (fun _ _ _ h => h) (by kernel_rfl) hS ?_ ?_
          rotate_left 1
          · intro Wv hW
            replace e0 := cell_of_ans hW e0
            obtain ⟨⟨q0, q1, q2, q3⟩, ⟨q4, q5, q6, q7, q8, q9, q10⟩, -⟩ := (HP6.out.step hW).cells
            dsimp only at q4 q5 q6 q7 q8 q9 q10
            go_simp
            first | done | with_reducible rfl | omega
          try simp only [Act.put, List.setIfInBounds_toArray, List.set_cons_zero, List.set_cons_succ]
          refine' T_take (i := 9) (v := _) rfl (by kernel_rfl) (by kernel_rfl) (by kernel_rfl) (by kernel_rfl) (fun _ _ _ h => h) (by kernel_rfl) hS ?_ ?_
          rotate_left 1
          · intro Wv hW
            replace e0 := cell_of_ans hW e0
            obtain ⟨⟨q0, q1, q2, q3⟩, ⟨q4, q5, q6, q7, q8, q9, q10⟩, -⟩ := (HP6.out.step hW).cells
            dsimp only at q4 q5 q6 q7 q8 q9 q10
            go_simp
            first | done | with_reducible rfl | omega
          try simp only [Act.put, List.setIfInBounds_toArray, List.set_cons_zero, List.set_cons_succ]
          refine T_ready (rs := [11]) (by kernel_rfl) (by simp) ?_
          refine TReady.cons rfl (fun K hK => ?_) TReady.nil
          have HZC := HZ.out.cells
          have z0 := HZC.1.1
          have z1 := HZC.1.2.1
          have z2 := HZC.1.2.2.1
          have z3 := HZC.1.2.2.2
          have z4 := HZC.2.1.1
          have z5 := HZC.2.1.2.1
          have z6 := HZC.2.1.2.2.1
          have z7 := HZC.2.1.2.2.2.1
          have z8 := HZC.2.1.2.2.2.2.1
          have z9 := HZC.2.1.2.2.2.2.2.1
          have z10 := HZC.2.1.2.2.2.2.2.2
          have zf := HZC.2.2
          clear HZC
          have HQ := Lib.hid (setP_z (N := N) HZ.out ⟨fr', th', st', fresh', need', y0, y1⟩)
          have hS3 := below_cut hS (setP_below (N := N) (p := ⟨fr', th', st', fresh', need', y0, y1⟩) hqb)
          unfold setP at HQ hS3
          dsimp only at HQ hS3
          try go_simp
          refine hK.out _ _ (fun _ => hS3) (fun _ => ?_)
          clear hK K z0 z1 z2 z3 z4 z5 z6 z7 z8 z9 z10 zf HZ
          replace hS := hS3
          clear hS3
          try simp only [Act.put, List.setIfInBounds_toArray, List.set_cons_zero, List.set_cons_succ]
          refine' T_take (i := 12) (v := _) rfl (by kernel_rfl) (by kernel_rfl) (by kernel_rfl) (by kernel_rfl) (fun _ _ _ h => h) (by kernel_rfl) hS ?_ ?_
          rotate_left 1
          · intro Wv hW
            replace e0 := cell_of_ans hW e0
            obtain ⟨⟨q0, q1, q2, q3⟩, ⟨q4, q5, q6, q7, q8, q9, q10⟩, -⟩ := (HP6.out.step hW).cells
            dsimp only at q4 q5 q6 q7 q8 q9 q10
            go_simp
            first | done | with_reducible rfl | omega
          try simp only [Act.put, List.setIfInBounds_toArray, List.set_cons_zero, List.set_cons_succ]
          refine' T_take (i := 13) (v := _) rfl (by kernel_rfl) (by kernel_rfl) (by kernel_rfl) (by kernel_rfl) (fun _ _ _ h => h) (by kernel_rfl) hS ?_ ?_
          rotate_left 1
          · intro Wv hW
            replace e0 := cell_of_ans hW e0
            obtain ⟨⟨q0, q1, q2, q3⟩, ⟨q4, q5, q6, q7, q8, q9, q10⟩, -⟩ := (HP6.out.step hW).cells
            dsimp only at q4 q5 q6 q7 q8 q9 q10
            go_simp
            first | done | with_reducible rfl | omega
          try simp only [Act.put, List.setIfInBounds_toArray, List.set_cons_zero, List.set_cons_succ]
          refine T_done (by kernel_rfl) ?_ _
          refine NoPanic.normal ?_
          try go_simp
          exact TAILH.out _ _ _ _ _ _ _ _ (Lib.hid hS) HQ
      · have hS0 := hS
        try go_simp
        have hqb : w6.heap.size ≤ w6.heap.size := Nat.le_refl _
        have HZ : Hid (ZAt (w6.alloc (.cells #[.int .i64 0, .int .i64 0, .int .i64 0, .int .i64 0, .int .i64 0, .int .i64 0, .int .i64 0, .bool false, .int .i64 0, .int .i64 0, .int .i64 0] 148)).drew w6.heap.size) := ZAt.drew (ZAt.new w6)
        refine hK.out _ _ (fun _ => hS.alloc hS.size _) (fun hS2 => ?_)
        replace hS := hS2 (by decide)
        clear hS2 hK K
        try simp only [Act.put, List.setIfInBounds_toArray, List.set_cons_zero, List.set_cons_succ]
        refine T_ready (rs := [4]) (by kernel_rfl) (by simp) ?_
        refine TReady.cons rfl (fun K hK => ?_) TReady.nil
        try go_simp
        refine (HEE.out _).mono ?_
        rintro e w7 ⟨rfl, hb⟩
        have hS2 : Below w6.heap.size w6 w7 := below_cat hb hS
        replace HZ := Lib.hid (HZ.out.step hb)
        try go_simp
        refine hK.out _ _ (fun _ => hS2) (fun _ => ?_)
        clear hK K hS hb
        replace hS := hS2
        clear hS2
        try simp only [Act.put, List.setIfInBounds_toArray, List.set_cons_zero, List.set_cons_succ]
        refine T_ready (rs := [5]) (by kernel_rfl) (by simp) ?_
        refine TReady.cons rfl (fun K hK => ?_) TReady.nil
        try go_simp
        refine (HNX.out _).mono ?_
        rintro e w8 ⟨rfl, hb⟩
        have hS2 : Below w6.heap.size w6 w8 := below_cat hb hS
        replace HZ := Lib.hid (HZ.out.step hb)
        try go_simp
        refine hK.out _ _ (fun _ => hS2) (fun _ => ?_)
        clear hK K hS hb
        replace hS := hS2
        clear hS2
        try simp only [Act.put, List.setIfInBounds_toArray, List.set_cons_zero, List.set_cons_succ]
        refine' T_take (i := 6) (v := _) rfl (by kernel_rfl) (by kernel_rfl) (by kernel_rfl) (by kernel_rfl) (fun _ _ _ h => h) (by kernel_rfl) hS ?_ ?_
        rotate_left 1
        · intro Wv hW
          replace e0 := cell_of_ans hW e0
          obtain ⟨⟨q0, q1, q2, q3⟩, ⟨q4, q5, q6, q7, q8, q9, q10⟩, -⟩ := (HP6.out.step hW).cells
          dsimp only at q4 q5 q6 q7 q8 q9 q10
          go_simp
          first | done | with_reducible rfl | omega
        try simp only [Act.put, List.setIfInBounds_toArray, List.set_cons_zero, List.set_cons_succ]
        refine' T_take (i := 7) (v := _) rfl (by kernel_rfl) (by kernel_rfl) (by kernel_rfl) (by kernel_rfl) (fun _ _ _ h => h) (by kernel_rfl) hS ?_ ?_
        rotate_left 1
        · intro Wv hW
          replace e0 := cell_of_ans hW e0
          obtain ⟨⟨q0, q1, q2, q3⟩, ⟨q4, q5, q6, q7, q8, q9, q10⟩, -⟩ := (HP6.out.step hW).cells
          dsimp only at q4 q5 q6 q7 q8 q9 q10
          go_simp
          first | done | with_reducible rfl | omega
        try simp only [Act.put, List.setIfInBounds_toArray, List.set_cons_zero, List.set_cons_succ]
        refine' T_take (i := 8) (v := _) rfl (by kernel_rfl) (by kernel_rfl) (by kernel_rfl) (by kernel_rfl) (fun _ _ _ h => h) (by kernel_rfl) hS ?_ ?_
        rotate_left 1
        · intro Wv hW
          replace e0 := cell_of_ans hW e0
          obtain ⟨⟨q0, q1, q2, q3⟩, ⟨q4, q5, q6, q7, q8, q9, q10⟩, -⟩ := (HP6.out.step hW).cells
          dsimp only at q4 q5 q6 q7 q8 q9 q10
          go_simp
          first | done | with_reducible rfl | omega
        try simp only [Act.put, List.setIfInBounds_toArray, List.set_cons_zero, List.set_cons_succ]
        refine' T_take (i := 9) (v := _) rfl (by kernel_rfl) (by kernel_rfl) (by kernel_rfl) (by kernel_rfl) (fun _ _ _ h => h) (by kernel_rfl) hS ?_ ?_
        rotate_left 1
        · intro Wv hW
          replace e0 := cell_of_ans hW e0
          obtain ⟨⟨q0, q1, q2, q3⟩, ⟨q4, q5, q6, q7, q8, q9, q10⟩, -⟩ := (HP6.out.step hW).cells
          dsimp only at q4 q5 q6 q7 q8 q9 q10
          go_simp
          first | done | with_reducible rfl | omega
        try simp only [Act.put, List.setIfInBounds_toArray, List.set_cons_zero, List.set_cons_succ]
        refine T_ready (rs := [11]) (by kernel_rfl) (by simp) ?_
        refine TReady.cons rfl (fun K hK => ?_) TReady.nil
        have HZC := HZ.out.cells
        have z0 := HZC.1.1
        have z1 := HZC.1.2.1
        have z2 := HZC.1.2.2.1
        have z3 := HZC.1.2.2.2
        have z4 := HZC.2.1.1
        have z5 := HZC.2.1.2.1
        have z6 := HZC.2.1.2.2.1
        have z7 := HZC.2.1.2.2.2.1
        have z8 := HZC.2.1.2.2.2.2.1
        have z9 := HZC.2.1.2.2.2.2.2.1
        have z10 := HZC.2.1.2.2.2.2.2.2
        have zf := HZC.2.2
        clear HZC
        have HQ := Lib.hid (setP_z (N := N) HZ.out ⟨fr', th', st', fresh', need', y0, y1⟩)
        have hS3 := below_cut hS (setP_below (N := N) (p := ⟨fr', th', st', fresh', need', y0, y1⟩) hqb)
        unfold setP at HQ hS3
        dsimp only at HQ hS3
        try go_simp
        refine hK.out _ _ (fun _ => hS3) (fun _ => ?_)
        clear hK K z0 z1 z2 z3 z4 z5 z6 z7 z8 z9 z10 zf HZ
        replace hS := hS3
        clear hS3
        try simp only [Act.put, List.setIfInBounds_toArray, List.set_cons_zero, List.set_cons_succ]
        refine' T_take (i := 12) (v := _) rfl (by kernel_rfl) (by kernel_rfl) (by kernel_rfl) (by kernel_rfl) (fun _ _ _ h => h) (by kernel_rfl) hS ?_ ?_
        rotate_left 1
        · intro Wv hW
          replace e0 := cell_of_ans hW e0
          obtain ⟨⟨q0, q1, q2, q3⟩, ⟨q4, q5, q6, q7, q8, q9, q10⟩, -⟩ := (HP6.out.step hW).cells
          dsimp only at q4 q5 q6 q7 q8 q9 q10
          go_simp
          first | done | with_reducible rfl | omega
        try simp only [Act.put, List.setIfInBounds_toArray, List.set_cons_zero, List.set_cons_succ]
        refine' T_take (i := 13) (v := _) rfl (by kernel_rfl) (by kernel_rfl) (by kernel_rfl) (by kernel_rfl) (fun _ _ _ h => h) (by kernel_rfl) hS ?_ ?_
        rotate_left 1
        · intro Wv hW
          replace e0 := cell_of_ans hW e0
          obtain ⟨⟨q0, q1, q2, q3⟩, ⟨q4, q5, q6, q7, q8, q9, q10⟩, -⟩ := (HP6.out.step hW).cells
          dsimp only at q4 q5 q6 q7 q8 q9 q10
          go_simp
          first | done | with_reducible rfl | omega
        try simp only [Act.put, List.setIfInBounds_toArray, List.set_cons_zero, List.set_cons_succ]
        refine T_done (by kernel_rfl) ?_ _
        refine NoPanic.normal ?_
        try go_simp
        exact TAILH.out _ _ _ _ _ _ _ _ (Lib.hid hS) HQ
    · obtain rfl : j = J := by omega
      have hdn : ((finS N mo pe j).fr == N) = true := by simp [HJ.out.stop]
      rw [hdn] at HDN
      have HBF : Hid (Below w.heap.size w wr) := HB.out.trans (HBW.out.mono HB.out.size)
      clear hdn htb hok
      generalize finT N mo pe j = tk at *
      generalize finS N mo pe j = p at *
      obtain ⟨fr, th, st, fresh, need, x0, x1⟩ := p
      unfold plV at HDN
      obtain ⟨⟨p0, p1, p2, p3⟩, ⟨p4, p5, p6, p7, p8, p9, p10⟩, -⟩ := HP.out.cells
      dsimp only at HDN p4 p5 p6 p7 p8 p9 p10
      go_wp2_with fail
      refine (HDN.out _).mono ?_
      rintro e w6 ⟨rfl, hb⟩
      have HBG : Hid (Below w.heap.size w w6) := HBF.out.trans (hb.mono HBF.out.size)
      clear hb
      go_wp2_with fail
      go_ret
      exact ⟨rfl, HBG.out⟩
end Go.Proofs.Ytenpiinkbfancaa
