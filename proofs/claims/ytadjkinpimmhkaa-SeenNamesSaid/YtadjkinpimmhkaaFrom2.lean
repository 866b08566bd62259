/-
  The recursive closure of lists: its loop; the whole of it.
-/
import Derived.Test.YtadjkinpimmhkaaFrom
namespace Go.Proofs.Ytadjkinpimmhkaa
open Go.RowKit
set_option linter.unusedSimpArgs false
set_option linter.unusedVariables false

theorem B4.chg {w w' : World} {S : Nat → Prop} {g : Nat} {o : Nat → Bool} (h : B4 w g o) (hC : Chg w w' S) (hS : ¬ S g) : B4 w' g o := (hC.block g h.lt hS).trans h
theorem AppKeep {k : Ctx} {w w' : World} {l l' v : Value} {xs : List Int} {y : Int} {vs : List Value} {rows : List (List Int)} {n : Nat} (a : App k.base w l xs y w' l') (F : Fst k w l v xs vs rows n) {p : Addr} {x : Value} (h : w.cell? p = some x)
    (hp : p.block < k.base ∨ ¬ Sx k l v p.block) : w'.cell? p = some x :=
  (Chg.ofGrown a.grw (S := fun i => some i = l.ownBlock) (fun i e => e)).cell h (by
    rintro e
    rcases hp with hp | hp
    · have := F.lLt e.symm; omega
    · exact hp (.inr (.inr (.inl e))))
theorem FPost.chg {k : Ctx} {w w' : World} {l v : Value} {xs : List Int} {vs : List Value} {rows res : List (List Int)} {n cost : Nat} (h : FPost k w l v xs vs rows n cost res w') : Chg w w' (Sx k l v) := by
  obtain ⟨_, _, _, _, _, _, h, _⟩ := h
  exact h
theorem Fst.bfOut {k : Ctx} {w : World} {l v : Value} {xs : List Int} {vs : List Value} {rows : List (List Int)} {n : Nat} (F : Fst k w l v xs vs rows n) (hk : k.Ok) : ¬ Sx k l v k.bf := by
  have h1 := hk.lt
  have h2 := hk.nb
  have h3 := hk.nq
  rintro (e | e | e | e)
  · omega
  · omega
  · have := F.lLt e.symm; omega
  · have := F.vLt e.symm; omega
theorem FPost.pre {k : Ctx} {w w1 w' : World} {l v : Value} {xs : List Int} {vs : List Value} {rows res : List (List Int)} {n cost : Nat} (h : FPost k w1 l v xs vs rows n cost res w') (hb : Below w.heap.size w w1) : FPost k w l v xs vs rows n cost res w' := by
  obtain ⟨h1, v', nw, n', F, hn, hC, hv, hnw⟩ := h
  have hs := hb.size
  refine ⟨h1, v', nw, n', F, hn, (Chg.ofBelow hb _).trans hC fun _ _ h => h, ?_, fun u hu j e => by have := hnw u hu j e; omega⟩
  rcases hv with hv | ⟨j, hv, hj⟩
  · exact .inl hv
  · exact .inr ⟨j, hv, by omega⟩
theorem FPost.more {k : Ctx} {w w' : World} {l v : Value} {xs : List Int} {vs : List Value} {rows res : List (List Int)} {n c c' : Nat} (h : FPost k w l v xs vs rows n c res w') (hc : c ≤ c') : FPost k w l v xs vs rows n c' res w' := by
  obtain ⟨h1, v', nw, n', F, hn, hC, hv, hnw⟩ := h
  exact ⟨by omega, v', nw, n', F, by omega, hC, hv, hnw⟩
def CallsF (k : Ctx) (j : Nat) (w : World) (l v : Value) (xs : List Int) (vs : List Value) (rows : List (List Int)) (n : Nat) (o : Nat → Bool) : Prop :=
  Calls Try.prog 75 #[l, .agg #[.bool (o 0), .bool (o 1), .bool (o 2), .bool (o 3)], .int .i64 (j : Int), .pointer (some ⟨k.bm, 0, none⟩), .pointer (some ⟨k.bx, 0, none⟩), .pointer (some ⟨k.bq, 0, none⟩), .pointer (some ⟨k.bf, 0, none⟩)] w
    (fun e w' => (∃ x, e = .returned x) ∧ FPost k w l v xs vs rows n (costF j) (lstF (explB (k.m : Int) k.ws) k.many xs o j) w')

set_option maxRecDepth 100000 in
set_option maxHeartbeats 8000000 in
theorem from_loop {k : Ctx} (hk : k.Ok) {j : Nat} (hj : j ≤ 4) (ih : ∀ j', j < j' → j' ≤ 4 → FromC k j') (w : World) (l v : Value) (xs : List Int) (vs : List Value) (rows : List (List Int)) (n : Nat) (o : Nat → Bool) (F : Fst k w l v xs vs rows n) (hx : xs.length ≠ k.many)
    (hrl : rows.length + costF j ≤ 1000000) (hn : n + costF j ≤ 1000000) (hxl : xs.length ≤ j) : CallsF k j w l v xs vs rows n o := by
  unfold CallsF
  obtain ⟨Al, cl, rfl⟩ := ownsRow_form F.own
  have hb0 : Below w.heap.size w (w.alloc (.cells #[.bool (o 0), .bool (o 1), .bool (o 2), .bool (o 3)] 92)) := (Below.refl _ _).alloc (Nat.le_refl _) _
  have hB4 : B4 (w.alloc (.cells #[.bool (o 0), .bool (o 1), .bool (o 2), .bool (o 3)] 92)) w.heap.size o := B4.new w _ _ _ _ _ ⟨rfl, rfl, rfl, rfl⟩
  have F0 := F.step hk hb0
  have FF := Lib.hid F
  have F0H := Lib.hid F0
  have HB0 := Lib.hid hb0
  have HB4 := Lib.hid hB4
  have HZ : Hid (¬ Sx k (.slice Al xs.length cl) v w.heap.size) := F.out hk (Nat.le_refl _)
  have hlen : ((xs.length : Int) == (k.many : Int)) = false := by simp; omega
  have HRES : Hid (lstF (explB (k.m : Int) k.ws) k.many xs o j = lstL (explB (k.m : Int) k.ws) k.many (4 - j) xs o j) := by show _ = _; simp [lstF, hx]
  have IH := Lib.hid ih
  have cm := F0.cm
  clear hx F0 hb0 hB4 F ih
  go_enter Try.func75, Try.ntmps75
  go_wp2_with fail
  generalize w.alloc (.cells #[.bool (o 0), .bool (o 1), .bool (o 2), .bool (o 3)] 92) = W0 at F0H HB0 HB4 cm ⊢
  go_loopw [10] (fun i wr => ∃ (kk : Nat) (res : List (List Int)), j ≤ kk ∧ kk ≤ 4 ∧ i = .int .i64 kk ∧ FPost k W0 (.slice Al xs.length cl) v xs vs rows n ((kk - j) * costF (j + 1)) res wr ∧ res ++ lstL (explB (k.m : Int) k.ws) k.many (4 - kk) xs o kk = lstL (explB (k.m : Int) k.ws) k.many (4 - j) xs o j) (fun i _ => 4 - (intOf i).toNat)
  case atStart => exact ⟨j, [], Nat.le_refl _, hj, rfl, FPost.nil F0H.out hk (Below.refl _ _) _, by simp⟩
  case round =>
    obtain ⟨kk, res, hjk, hk4, rfl, hP, hres⟩ := hrel
    obtain ⟨hrl1, v1, nw1, n1, F1, hn1, hC1, hv1, hnw1⟩ := hP
    have HRS := Lib.hid hres
    have HN1 := Lib.hid hn1
    have HC1 := Lib.hid hC1
    have HV1 := Lib.hid hv1
    have HNW := Lib.hid hnw1
    clear hres hn1 hC1 hv1 hnw1
    by_cases h1 : kk < 4
    · have h1i : (kk : Int) < 4 := by omega
      have hz := HB4.out.chg HC1.out HZ.out
      obtain ⟨y0, y1, y2, y3, -⟩ := hz.cells
      have HF1 := Lib.hid F1
      have cf := F1.cf
      have hzl := hz.lt
      clear F1 hz
      go_upto_region 9 with fail
      have hb1 : Below wr.heap.size wr (wr.alloc (.cells ([Value.bool (o 0), Value.bool (o 1), Value.bool (o 2), Value.bool (o 3)].set kk (Value.bool true)).toArray 92)) := (Below.refl _ _).alloc (Nat.le_refl _) _
      have hy : B4 (wr.alloc (.cells ([Value.bool (o 0), Value.bool (o 1), Value.bool (o 2), Value.bool (o 3)].set kk (Value.bool true)).toArray 92)) wr.heap.size (setO o kk) := by
        unfold B4
        rw [World.alloc_heap_new]
        rcases (by omega : kk = 0 ∨ kk = 1 ∨ kk = 2 ∨ kk = 3) with rfl | rfl | rfl | rfl <;> simp [setO]
      have F2 := HF1.out.step hk hb1
      replace cf := cell_of_ans hb1 cf
      have HB1 := Lib.hid hb1
      clear y0 y1 y2 y3 hb1
      generalize wr.alloc (.cells ([Value.bool (o 0), Value.bool (o 1), Value.bool (o 2), Value.bool (o 3)].set kk (Value.bool true)).toArray 92) = W1 at hy F2 cf HB1 ⊢
      obtain ⟨x0, x1, x2, x3, -⟩ := hy.cells
      have hdB : Below W1.heap.size W1 W1.drew := (Below.refl _ _).drew
      have HF3 : Hid (Fst k W1.drew (.slice Al xs.length cl) v1 xs (vs ++ nw1) (rows ++ res) n1) := F2.step hk hdB
      have HOUT : Hid (¬ Sx k (.slice Al xs.length cl) v1 wr.heap.size) := HF1.out.out hk (Nat.le_refl _)
      have hxx : xs.length ≤ 1000000 := by omega
      have hbs := HF3.out.bs
      have HBF : Hid (¬ Sx k (.slice Al xs.length cl) v1 k.bf) := HF1.out.bfOut hk
      have HKB : Hid (k.bf < k.base) := hk.lt.2.2.2.2.2
      have HCALL : Hid (∀ (w2 : World) (l2 : Value), App k.base W1.drew (.slice Al xs.length cl) xs (kk : Int) w2 l2 → Calls Try.prog 75 #[l2, .agg #[.bool (setO o kk 0), .bool (setO o kk 1), .bool (setO o kk 2), .bool (setO o kk 3)], .int .i64 ((kk : Int) + 1), .pointer (some ⟨k.bm, 0, none⟩), .pointer (some ⟨k.bx, 0, none⟩), .pointer (some ⟨k.bq, 0, none⟩), .pointer (some ⟨k.bf, 0, none⟩)] w2
          (fun e w' => (∃ x, e = .returned x) ∧ FPost k W1.drew (.slice Al xs.length cl) v1 xs (vs ++ nw1) (rows ++ res) n1 (costF (kk + 1)) (lstF (explB (k.m : Int) k.ws) k.many (xs ++ [(kk : Int)]) (setO o kk) (kk + 1)) w')) := fun w2 l2 a => by
        have h := IH.out (kk + 1) (by omega) (by omega) w2 l2 v1 (xs ++ [(kk : Int)]) (vs ++ nw1) (rows ++ res) n1 (setO o kk) (HF3.out.app hk a) (by rw [List.length_append]; simp; omega)
          (by rw [List.length_append]; exact cost_in hjk h1 (by omega) hrl) (cost_in hjk h1 HN1.out hn)
        refine h.mono fun e w' h' => ⟨h'.1, FPost.back HF3.out hk a h'.2⟩
      clear F2 hy hdB
      have hwr : IntKind.i64.wrap ((kk : Int) + 1) = (kk : Int) + 1 := IntWalk.i64_in _ (by omega)
      refine wp_region_noPanic ?_
      have hS : (fun w' : World => w'.cell? ⟨k.bf, 0, none⟩ = some (.func (.func 75) #[] #[.pointer (some ⟨k.bm, 0, none⟩), .pointer (some ⟨k.bx, 0, none⟩), .pointer (some ⟨k.bq, 0, none⟩), .pointer (some ⟨k.bf, 0, none⟩)]) ∧ w'.cell? ⟨wr.heap.size, 0, none⟩ = some (.bool (setO o kk 0)) ∧ w'.cell? ⟨wr.heap.size, 1, none⟩ = some (.bool (setO o kk 1)) ∧ w'.cell? ⟨wr.heap.size, 2, none⟩ = some (.bool (setO o kk 2)) ∧ w'.cell? ⟨wr.heap.size, 3, none⟩ = some (.bool (setO o kk 3))) W1.drew := ⟨cf, x0, x1, x2, x3⟩
      refine wp_region_any (by kernel_rfl) (wpAny_of_T (S := fun w' : World => w'.cell? ⟨k.bf, 0, none⟩ = some (.func (.func 75) #[] #[.pointer (some ⟨k.bm, 0, none⟩), .pointer (some ⟨k.bx, 0, none⟩), .pointer (some ⟨k.bq, 0, none⟩), .pointer (some ⟨k.bf, 0, none⟩)]) ∧ w'.cell? ⟨wr.heap.size, 0, none⟩ = some (.bool (setO o kk 0)) ∧ w'.cell? ⟨wr.heap.size, 1, none⟩ = some (.bool (setO o kk 1)) ∧ w'.cell? ⟨wr.heap.size, 2, none⟩ = some (.bool (setO o kk 2)) ∧ w'.cell? ⟨wr.heap.size, 3, none⟩ = some (.bool (setO o kk 3))) (m := 9) _ _ _ _ ?_)
      refine' T_take (i := 0) (v := _) rfl (by kernel_rfl) (by kernel_rfl) (by kernel_rfl) (by kernel_rfl) (fun _ _ _ h => h) (by rfl) hS ?_ ?_
      rotate_left 1
      · intro Wv hW
        obtain ⟨s4, s0, s1, s2, s3⟩ := hW
        go_simp
        first | done | with_reducible rfl
      try simp only [Act.put, List.setIfInBounds_toArray, List.set_cons_zero, List.set_cons_succ]
      refine' T_take (i := 1) (v := _) rfl (by kernel_rfl) (by kernel_rfl) (by kernel_rfl) (by kernel_rfl) (fun _ _ _ h => h) (by rfl) hS ?_ ?_
      rotate_left 1
      · intro Wv hW
        obtain ⟨s4, s0, s1, s2, s3⟩ := hW
        go_simp
        first | done | with_reducible rfl
      try simp only [Act.put, List.setIfInBounds_toArray, List.set_cons_zero, List.set_cons_succ]
      refine' T_take (i := 2) (v := _) rfl (by kernel_rfl) (by kernel_rfl) (by kernel_rfl) (by kernel_rfl) (fun _ _ _ h => h) (by rfl) hS ?_ ?_
      rotate_left 1
      · intro Wv hW
        obtain ⟨s4, s0, s1, s2, s3⟩ := hW
        go_simp
        first | done | with_reducible rfl
      try simp only [Act.put, List.setIfInBounds_toArray, List.set_cons_zero, List.set_cons_succ]
      refine' T_take (i := 5) (v := _) rfl (by kernel_rfl) (by kernel_rfl) (by kernel_rfl) (by kernel_rfl) (fun _ _ _ h => h) (by rfl) hS ?_ ?_
      rotate_left 1
      · intro Wv hW
        obtain ⟨s4, s0, s1, s2, s3⟩ := hW
        go_simp
        first | done | with_reducible rfl
      try simp only [Act.put, List.setIfInBounds_toArray, List.set_cons_zero, List.set_cons_succ]
      refine' T_take (i := 6) (v := _) rfl (by kernel_rfl) (by kernel_rfl) (by kernel_rfl) (by kernel_rfl) (fun _ _ _ h => h) (by rfl) hS ?_ ?_
      rotate_left 1
      · intro Wv hW
        obtain ⟨s4, s0, s1, s2, s3⟩ := hW
        go_simp
        first | done | with_reducible rfl
      try simp only [Act.put, List.setIfInBounds_toArray, List.set_cons_zero, List.set_cons_succ]
      refine' T_take (i := 7) (v := _) rfl (by kernel_rfl) (by kernel_rfl) (by kernel_rfl) (by kernel_rfl) (fun _ _ _ h => h) (by rfl) hS ?_ ?_
      rotate_left 1
      · intro Wv hW
        obtain ⟨s4, s0, s1, s2, s3⟩ := hW
        go_simp
        first | done | with_reducible rfl
      try simp only [Act.put, List.setIfInBounds_toArray, List.set_cons_zero, List.set_cons_succ]
      refine T_ready (rs := [3]) (by kernel_rfl) (by simp) ?_
      refine TReady.cons rfl (fun K hK => ?_) TReady.nil
      try go_simp
      refine hK.out _ _ (fun _ => ⟨cell_alloc_keep _ cf, cell_alloc_keep _ x0, cell_alloc_keep _ x1, cell_alloc_keep _ x2, cell_alloc_keep _ x3⟩) (fun hS => ?_)
      replace hS := hS (by decide)
      clear hK K
      try simp only [Act.put, List.setIfInBounds_toArray, List.set_cons_zero, List.set_cons_succ]
      refine T_ready (rs := [4]) (by kernel_rfl) (by simp) ?_
      refine TReady.cons rfl (fun K hK => ?_) TReady.nil
      refine step_int (.tmp 33) (.tmp 35) rfl rfl k.base W1.drew (.slice Al xs.length cl) xs (kk : Int) rfl rfl HF3.out.own hxx hbs ?_
      intro l2 w2 HA
      obtain ⟨A2, c2, e2⟩ := ownsRow_form HA.out.own
      rw [show (xs ++ [(kk : Int)]).length = xs.length + 1 by simp] at e2
      subst e2
      refine hK.out _ _ (fun _ => ⟨AppKeep HA.out HF3.out cf (.inl HKB.out), AppKeep HA.out HF3.out x0 (.inr HOUT.out), AppKeep HA.out HF3.out x1 (.inr HOUT.out), AppKeep HA.out HF3.out x2 (.inr HOUT.out), AppKeep HA.out HF3.out x3 (.inr HOUT.out)⟩) (fun hS => ?_)
      replace hS := hS (by decide)
      clear hK K
      try simp only [Act.put, List.setIfInBounds_toArray, List.set_cons_zero, List.set_cons_succ]
      refine T_ready (rs := [8]) (by kernel_rfl) (by simp) ?_
      refine TReady.cons rfl (fun K hK => ?_) TReady.nil
      try go_simp
      refine (HCALL.out _ _ HA.out).mono ?_
      rintro e w3 ⟨⟨x, rfl⟩, hP⟩
      have HP := Lib.hid hP
      clear hP
      try go_simp
      have hCh := HP.out.chg
      refine hK.out _ _ (fun _ => ⟨hCh.cell cf HBF.out, hCh.cell x0 HOUT.out, hCh.cell x1 HOUT.out, hCh.cell x2 HOUT.out, hCh.cell x3 HOUT.out⟩) (fun _ => ?_)
      clear hK K hCh
      try simp only [Act.put, List.setIfInBounds_toArray, List.set_cons_zero, List.set_cons_succ]
      refine T_done (by kernel_rfl) ?_ _
      refine NoPanic.normal ?_
      go_wp2_with fail
      go_roundw
      case rel =>
        refine ⟨kk + 1, res ++ lstF (explB (k.m : Int) k.ws) k.many (xs ++ [(kk : Int)]) (setO o kk) (kk + 1), by omega, by omega, by go_num, ?_, ?_⟩
        · have h2 := FPost.trans HC1.out.size F0H.out HF1.out HN1.out HC1.out HV1.out HNW.out hrl1 (HP.out.pre (HB1.out.drew))
          exact h2.more (by have := cost_step (n := 0) (nk := (kk - j) * costF (j + 1)) hjk h1 (by omega) (Nat.le_refl _); omega)
        · rw [List.append_assoc, ← lstL_step _ _ _ _ h1]; exact HRS.out
      case measure => simp [intOf]; omega
    · have h1i : ¬ (kk : Int) < 4 := by omega
      go_wp2_with fail
      refine bodyPost_end (results_none rfl _ _ _) rfl ?_
      obtain rfl : kk = 4 := by omega
      refine ⟨⟨_, rfl⟩, ?_⟩
      have h2 : FPost k W0 (.slice Al xs.length cl) v xs vs rows n ((4 - j) * costF (j + 1)) res wr := ⟨hrl1, v1, nw1, n1, F1, HN1.out, HC1.out, HV1.out, HNW.out⟩
      have h3 := HRS.out
      rw [show (4 : Nat) - 4 = 0 by rfl, lstL, List.append_nil] at h3
      rw [HRES.out, ← h3]
      exact (h2.pre HB0.out).more (by have := cost_end (n := 0) (nk := (4 - j) * costF (j + 1)) hj (by omega); omega)

theorem from_c {k : Ctx} (hk : k.Ok) : ∀ d j, j + d = 4 → FromC k j := by
  intro d
  induction d using Nat.strongRecOn with
  | _ d ih =>
    intro j hj w l v xs vs rows n o F hxl hrl hn
    by_cases hx : xs.length = k.many
    · exact from_full hk (by omega) w l v xs vs rows n o F hx hrl hn (by omega)
    · exact from_loop hk (by omega) (fun j' h1 h2 => ih (4 - j') (by omega) j' (by omega)) w l v xs vs rows n o F hx hrl hn hxl
end Go.Proofs.Ytadjkinpimmhkaa
