/-
  The statements' small functions: Rack, Ball (copies), within; the reference's Left.
-/
import Derived.Test.YtpekajnjjhibjaaE1
namespace Go.Proofs.Ytpekajnjjhibjaa
open Go.RowKit
set_option linter.unusedSimpArgs false
set_option linter.unusedVariables false

attribute [local go_sem] Oper.semAt_some
noncomputable def subB (xs ys : List Int) : Bool := allB xs.length fun k => hasB ys (ix xs k)
theorem subB_iff {xs ys : List Int} : subB xs ys = true ↔ ∀ x ∈ xs, x ∈ ys := by
  rw [subB, allB_iff]
  constructor
  · intro h x hx
    obtain ⟨k, hk, rfl⟩ := List.getElem_of_mem hx
    have := h k hk
    rwa [hasB_iff, ix_lt hk] at this
  · intro h k hk
    rw [hasB_iff, ix_lt hk]
    exact h _ (List.getElem_mem hk)
set_option maxHeartbeats 1000000 in
theorem within22_c {B : Nat} (A A' : Option Addr) (xs ys : List Int) (c c' : Nat) (w : World) (hx : Ints B w A xs) (hc : xs.length ≤ c ∧ c ≤ 9223372036854775807) (hy : Ints B w A' ys) (hc' : ys.length ≤ c' ∧ c' ≤ 9223372036854775807) :
    Calls Try.prog 22 #[.slice A xs.length c, .slice A' ys.length c'] w (Same w (.bool (subB xs ys))) := by
  have HX := Lib.hid hx
  have HY := Lib.hid hy
  clear hx hy
  go_enter Try.func22, Try.ntmps22
  go_wp2_with fail
  go_loop [5] (fun i => ∃ k : Nat, k ≤ xs.length ∧ i = .int .i64 k ∧ AllB k (fun k => hasB ys (ix xs k))) (fun i => xs.length - (intOf i).toNat)
  case atStart => exact ⟨0, by omega, rfl, fun j hj => by omega⟩
  case round =>
    obtain ⟨k, hk, rfl, ha⟩ := hrel
    have HA := Lib.hid ha
    clear ha
    by_cases h1 : k < xs.length
    · obtain ⟨b, off, rfl, _, hcell⟩ := HX.out.at_ h1
      have HNO : Hid (hasB ys (ix xs k) = false → subB xs ys = false) := fun h => allB_false h1 h
      have HYE : Hid (hasB ys (ix xs k) = true → AllB (k + 1) (fun k => hasB ys (ix xs k))) := fun h => HA.out.succ h
      generalize ix xs k = x at *
      cases e1 : hasB ys x
      · have HR := Lib.hid (HNO.out e1)
        go_wp2_with (go_at_call 35; refine (has35_c A' ys c' x _ HY.out hc').mono ?_; rintro e w1 ⟨rfl, rfl⟩)
        go_ret
        exact ⟨ret_bool HR.out.symm, rfl⟩
      · have HY1 := Lib.hid (HYE.out e1)
        go_wp2_with (go_at_call 35; refine (has35_c A' ys c' x _ HY.out hc').mono ?_; rintro e w1 ⟨rfl, rfl⟩)
        go_round
        case rel => exact ⟨k + 1, by omega, by go_num, HY1.out⟩
        case measure => simp [intOf]; omega
    · obtain rfl : k = xs.length := by omega
      go_wp2_with fail
      go_ret
      exact ⟨ret_bool (allB_true HA.out).symm, rfl⟩
/-- Those of some numbers that others have not. -/
def minusL (xs ys : List Int) : List Int := xs.filter fun x => !hasB ys x
theorem minus_take {xs ys : List Int} {k : Nat} (h : k < xs.length) : minusL (xs.take (k + 1)) ys = if hasB ys (ix xs k) then minusL (xs.take k) ys else minusL (xs.take k) ys ++ [ix xs k] := by
  unfold minusL
  rw [List.take_succ_eq_append_getElem h, List.filter_append, ix_lt h]
  cases hh : hasB ys xs[k] <;> simp [hh]
theorem minus_le {xs ys : List Int} {k : Nat} : (minusL (xs.take k) ys).length ≤ xs.length := by
  unfold minusL
  exact Nat.le_trans (List.length_filter_le _ _) (by simp; omega)
set_option maxHeartbeats 1000000 in
theorem left45_c (A A' : Option Addr) (xs ys : List Int) (c c' : Nat) (w : World) (hx : Ints w.heap.size w A xs) (hc : xs.length ≤ c ∧ c ≤ 9223372036854775807) (hl : xs.length ≤ 1000000) (hy : Ints w.heap.size w A' ys) (hc' : ys.length ≤ c' ∧ c' ≤ 9223372036854775807) :
    Calls Try.prog 45 #[.slice A xs.length c, .slice A' ys.length c'] w (NewO w (minusL xs ys)) := by
  have HX := Lib.hid hx
  have HY := Lib.hid hy
  clear hx hy
  go_enter Try.func45, Try.ntmps45
  go_wp2_with fail
  go_loopw [5, 6] (fun o i wr => ∃ k : Nat, k ≤ xs.length ∧ i = .int .i64 k ∧ OwnI w.heap.size wr o (minusL (xs.take k) ys) ∧ Below w.heap.size w wr) (fun _ i _ => xs.length - (intOf i).toNat)
  case atStart => exact ⟨0, by omega, rfl, by simp [minusL]; exact OwnI.nil _ _, Below.refl _ _⟩
  case round =>
    obtain ⟨k, hk, rfl, ho, hb⟩ := hrel
    have HO := Lib.hid ho
    have HB := Lib.hid hb
    obtain ⟨Ao, co, rfl⟩ := ho.form
    clear ho
    by_cases h1 : k < xs.length
    · obtain ⟨b, off, rfl, _, hcell⟩ := (HX.out.below hb).at_ h1
      have HYr := Lib.hid (HY.out.below hb)
      have HT := Lib.hid (minus_take (ys := ys) h1)
      have hle := minus_le (xs := xs) (ys := ys) (k := k)
      have hwr : w.heap.size ≤ wr.heap.size := hb.size
      clear hb
      generalize minusL (xs.take k) ys = os at *
      generalize ix xs k = x at *
      cases e1 : hasB ys x
      · rw [e1] at HT
        go_wp2_with (first | (go_at_call 35; refine (has35_c A' ys c' x _ HYr.out hc').mono ?_; rintro e w1 ⟨rfl, rfl⟩) | (at_builtin; refine wpList_app_int (.tmp 20) (.tmp 25) rfl rfl w.heap.size _ _ os x rfl rfl HO (by omega) hwr ?_; intro A2 c2 w2 HO2 HB2))
        go_roundw
        case rel => exact ⟨k + 1, by omega, by go_num, by rw [HT.out]; exact HO2.out, HB.out.trans HB2.out⟩
        case measure => simp [intOf]; omega
      · rw [e1] at HT
        go_wp2_with (go_at_call 35; refine (has35_c A' ys c' x _ HYr.out hc').mono ?_; rintro e w1 ⟨rfl, rfl⟩)
        go_roundw
        case rel => exact ⟨k + 1, by omega, by go_num, by rw [HT.out]; exact HO.out, HB.out⟩
        case measure => simp [intOf]; omega
    · obtain rfl : k = xs.length := by omega
      rw [List.take_length] at HO ⊢
      generalize minusL xs ys = os at *
      go_wp2_with fail
      go_ret
      exact ⟨_, _, rfl, HO.out, HB.out⟩

set_option maxRecDepth 100000 in
set_option maxHeartbeats 4000000 in
theorem ball20_c (Ab : Option Addr) (cb : Nat) (ball : List Rg) (w : World) (hball : Rgs w.heap.size w Ab ball) (hcb : ball.length ≤ cb ∧ cb ≤ 9223372036854775807) (hl : ball.length ≤ 1000000) :
    Calls Try.prog 20 #[.slice Ab ball.length cb] w (fun e w' => ∃ A c, e = .returned (.slice A ball.length c) ∧ (Rgs w'.heap.size w' A ball ∧ ball.length ≤ c ∧ c ≤ 9223372036854775807) ∧ Below w.heap.size w w') := by
  have HX := Lib.hid hball
  clear hball
  go_enter Try.func20, Try.ntmps20
  go_wp2_with fail
  go_loopw [3, 4] (fun o i wr => ∃ k : Nat, k ≤ ball.length ∧ i = .int .i64 k ∧ OwnG 44 w.heap.size wr o (ball.take k) ∧ Below w.heap.size w wr) (fun _ i _ => ball.length - (intOf i).toNat)
  case atStart => exact ⟨0, by omega, rfl, by simp; exact OwnG.nil _ _ _, Below.refl _ _⟩
  case round =>
    obtain ⟨k, hk, rfl, ho, hb⟩ := hrel
    have HO := Lib.hid ho
    have HB := Lib.hid hb
    obtain ⟨Ao, co, rfl⟩ := ho.form
    clear ho
    by_cases h1 : k < ball.length
    · obtain ⟨b, off, rfl, hb0, c1, c2⟩ := (HX.out.below hb).at_ h1
      have HT : Hid (ball.take (k + 1) = ball.take k ++ [gx ball k]) := by show _ = _; rw [List.take_succ_eq_append_getElem h1, gx_lt h1]
      have hlt : (ball.take k).length = k := by simp; omega
      have hwr : w.heap.size ≤ wr.heap.size := hb.size
      have h1i : (k : Int) < (ball.length : Int) := by omega
      clear hb
      replace HO : Hid (OwnG 44 w.heap.size wr.drew (.slice Ao (ball.take k).length co) (ball.take k)) := HO.out.kept (Below.refl _ _).drew
      rw [hlt] at HO ⊢
      generalize gx ball k = x at *
      obtain ⟨lo, hi⟩ := x
      dsimp only at c1 c2
      have HLT := Lib.hid hlt
      clear hlt
      go_wp2_with fail
      refine wp_region_noPanic ?_
      have hS : (fun W' : World => Below w.heap.size wr W') wr.drew := (Below.refl _ _).drew
      refine wp_region_any (by kernel_rfl) (wpAny_of_T (S := fun W' : World => Below w.heap.size wr W') (m := 15) _ _ _ _ ?_)
      refine' T_take (i := 0) (v := _) rfl (by kernel_rfl) (by kernel_rfl) (by kernel_rfl) (by kernel_rfl) (fun _ _ _ h => h) (by kernel_rfl) hS ?_ ?_
      rotate_left 1
      · intro Wv hW
        replace c1 := (hW.cell (p := ⟨b, off + k * 2, none⟩) hb0).trans c1
        replace c2 := (hW.cell (p := ⟨b, off + k * 2 + 1, none⟩) hb0).trans c2
        go_simp
        first | done | with_reducible rfl
      try simp only [Act.put, List.setIfInBounds_toArray, List.set_cons_zero, List.set_cons_succ]
      refine' T_take (i := 1) (v := _) rfl (by kernel_rfl) (by kernel_rfl) (by kernel_rfl) (by kernel_rfl) (fun _ _ _ h => h) (by kernel_rfl) hS ?_ ?_
      rotate_left 1
      · intro Wv hW
        replace c1 := (hW.cell (p := ⟨b, off + k * 2, none⟩) hb0).trans c1
        replace c2 := (hW.cell (p := ⟨b, off + k * 2 + 1, none⟩) hb0).trans c2
        go_simp
        first | done | with_reducible rfl
      try simp only [Act.put, List.setIfInBounds_toArray, List.set_cons_zero, List.set_cons_succ]
      refine' T_take (i := 2) (v := _) rfl (by kernel_rfl) (by kernel_rfl) (by kernel_rfl) (by kernel_rfl) (fun _ _ _ h => h) (by kernel_rfl) hS ?_ ?_
      rotate_left 1
      · intro Wv hW
        replace c1 := (hW.cell (p := ⟨b, off + k * 2, none⟩) hb0).trans c1
        replace c2 := (hW.cell (p := ⟨b, off + k * 2 + 1, none⟩) hb0).trans c2
        go_simp
        first | done | with_reducible rfl
      try simp only [Act.put, List.setIfInBounds_toArray, List.set_cons_zero, List.set_cons_succ]
      refine' T_take (i := 3) (v := _) rfl (by kernel_rfl) (by kernel_rfl) (by kernel_rfl) (by kernel_rfl) (fun _ _ _ h => h) (by kernel_rfl) hS ?_ ?_
      rotate_left 1
      · intro Wv hW
        replace c1 := (hW.cell (p := ⟨b, off + k * 2, none⟩) hb0).trans c1
        replace c2 := (hW.cell (p := ⟨b, off + k * 2 + 1, none⟩) hb0).trans c2
        go_simp
        first | done | with_reducible rfl
      try simp only [Act.put, List.setIfInBounds_toArray, List.set_cons_zero, List.set_cons_succ]
      refine' T_take (i := 4) (v := _) rfl (by kernel_rfl) (by kernel_rfl) (by kernel_rfl) (by kernel_rfl) (fun _ _ _ h => h) (by kernel_rfl) hS ?_ ?_
      rotate_left 1
      · intro Wv hW
        replace c1 := (hW.cell (p := ⟨b, off + k * 2, none⟩) hb0).trans c1
        replace c2 := (hW.cell (p := ⟨b, off + k * 2 + 1, none⟩) hb0).trans c2
        go_simp
        first | done | with_reducible rfl
      try simp only [Act.put, List.setIfInBounds_toArray, List.set_cons_zero, List.set_cons_succ]
      refine' T_take (i := 5) (v := _) rfl (by kernel_rfl) (by kernel_rfl) (by kernel_rfl) (by kernel_rfl) (fun _ _ _ h => h) (by kernel_rfl) hS ?_ ?_
      rotate_left 1
      · intro Wv hW
        replace c1 := (hW.cell (p := ⟨b, off + k * 2, none⟩) hb0).trans c1
        replace c2 := (hW.cell (p := ⟨b, off + k * 2 + 1, none⟩) hb0).trans c2
        go_simp
        first | done | with_reducible rfl
      try simp only [Act.put, List.setIfInBounds_toArray, List.set_cons_zero, List.set_cons_succ]
      refine' T_take (i := 6) (v := _) rfl (by kernel_rfl) (by kernel_rfl) (by kernel_rfl) (by kernel_rfl) (fun _ _ _ h => h) (by kernel_rfl) hS ?_ ?_
      rotate_left 1
      · intro Wv hW
        replace c1 := (hW.cell (p := ⟨b, off + k * 2, none⟩) hb0).trans c1
        replace c2 := (hW.cell (p := ⟨b, off + k * 2 + 1, none⟩) hb0).trans c2
        go_simp
        first | done | with_reducible rfl
      try simp only [Act.put, List.setIfInBounds_toArray, List.set_cons_zero, List.set_cons_succ]
      refine' T_take (i := 7) (v := _) rfl (by kernel_rfl) (by kernel_rfl) (by kernel_rfl) (by kernel_rfl) (fun _ _ _ h => h) (by kernel_rfl) hS ?_ ?_
      rotate_left 1
      · intro Wv hW
        replace c1 := (hW.cell (p := ⟨b, off + k * 2, none⟩) hb0).trans c1
        replace c2 := (hW.cell (p := ⟨b, off + k * 2 + 1, none⟩) hb0).trans c2
        go_simp
        first | done | with_reducible rfl
      try simp only [Act.put, List.setIfInBounds_toArray, List.set_cons_zero, List.set_cons_succ]
      refine' T_take (i := 8) (v := _) rfl (by kernel_rfl) (by kernel_rfl) (by kernel_rfl) (by kernel_rfl) (fun _ _ _ h => h) (by kernel_rfl) hS ?_ ?_
      rotate_left 1
      · intro Wv hW
        replace c1 := (hW.cell (p := ⟨b, off + k * 2, none⟩) hb0).trans c1
        replace c2 := (hW.cell (p := ⟨b, off + k * 2 + 1, none⟩) hb0).trans c2
        go_simp
        first | done | with_reducible rfl
      try simp only [Act.put, List.setIfInBounds_toArray, List.set_cons_zero, List.set_cons_succ]
      refine' T_take (i := 9) (v := _) rfl (by kernel_rfl) (by kernel_rfl) (by kernel_rfl) (by kernel_rfl) (fun _ _ _ h => h) (by kernel_rfl) hS ?_ ?_
      rotate_left 1
      · intro Wv hW
        replace c1 := (hW.cell (p := ⟨b, off + k * 2, none⟩) hb0).trans c1
        replace c2 := (hW.cell (p := ⟨b, off + k * 2 + 1, none⟩) hb0).trans c2
        go_simp
        first | done | with_reducible rfl
      try simp only [Act.put, List.setIfInBounds_toArray, List.set_cons_zero, List.set_cons_succ]
      refine' T_take (i := 10) (v := _) rfl (by kernel_rfl) (by kernel_rfl) (by kernel_rfl) (by kernel_rfl) (fun _ _ _ h => h) (by kernel_rfl) hS ?_ ?_
      rotate_left 1
      · intro Wv hW
        replace c1 := (hW.cell (p := ⟨b, off + k * 2, none⟩) hb0).trans c1
        replace c2 := (hW.cell (p := ⟨b, off + k * 2 + 1, none⟩) hb0).trans c2
        go_simp
        first | done | with_reducible rfl
      try simp only [Act.put, List.setIfInBounds_toArray, List.set_cons_zero, List.set_cons_succ]
      refine' T_take (i := 11) (v := _) rfl (by kernel_rfl) (by kernel_rfl) (by kernel_rfl) (by kernel_rfl) (fun _ _ _ h => h) (by kernel_rfl) hS ?_ ?_
      rotate_left 1
      · intro Wv hW
        replace c1 := (hW.cell (p := ⟨b, off + k * 2, none⟩) hb0).trans c1
        replace c2 := (hW.cell (p := ⟨b, off + k * 2 + 1, none⟩) hb0).trans c2
        go_simp
        first | done | with_reducible rfl
      try simp only [Act.put, List.setIfInBounds_toArray, List.set_cons_zero, List.set_cons_succ]
      refine T_ready (rs := [12]) (by kernel_rfl) (by simp) ?_
      refine TReady.cons rfl (fun K hK => ?_) TReady.nil
      try go_simp
      refine hK.out _ _ (fun _ => hS.alloc (Nat.le_trans hwr hS.size) _) (fun hS2 => ?_)
      replace hS := hS2 (by decide)
      clear hS2 hK K
      try simp only [Act.put, List.setIfInBounds_toArray, List.set_cons_zero, List.set_cons_succ]
      refine T_ready (rs := [13]) (by kernel_rfl) (by simp) ?_
      refine TReady.cons rfl (fun K hK => ?_) TReady.nil
      refine step_appG (t := 42) (e := 44) (.inl ⟨rfl, rfl⟩) (.tmp 11) (.tmp 23) rfl rfl w.heap.size wr.drew _ (ball.take k) ⟨lo, hi⟩ rfl rfl HO (by simp; omega) hwr ?_
      intro A9 c9 w2 HO2 HB2
      refine hK.out _ _ (fun _ => below_drew_l HB2.out) (fun hS2 => ?_)
      replace hS := hS2 (by decide)
      clear hK K hS2
      try simp only [Act.put, List.setIfInBounds_toArray, List.set_cons_zero, List.set_cons_succ]
      refine' T_take (i := 14) (v := _) rfl (by kernel_rfl) (by kernel_rfl) (by kernel_rfl) (by kernel_rfl) (fun _ _ _ h => h) (by kernel_rfl) hS ?_ ?_
      rotate_left 1
      · intro Wv hW
        replace c1 := (hW.cell (p := ⟨b, off + k * 2, none⟩) hb0).trans c1
        replace c2 := (hW.cell (p := ⟨b, off + k * 2 + 1, none⟩) hb0).trans c2
        go_simp
        first | done | with_reducible rfl
      try simp only [Act.put, List.setIfInBounds_toArray, List.set_cons_zero, List.set_cons_succ]
      refine T_done (by kernel_rfl) ?_ _
      refine NoPanic.normal ?_
      try go_simp
      go_wp2_with fail
      go_roundw
      case rel => exact ⟨k + 1, by omega, by go_num, by have h := HO2.out; rw [HLT.out] at h; rw [HT.out]; exact h, HB.out.trans (below_drew_l HB2.out)⟩
      case measure => simp [intOf]; omega
    · obtain rfl : k = ball.length := by omega
      rw [List.take_length] at HO ⊢
      go_wp2_with fail
      go_ret
      obtain ⟨h2, h3, h4⟩ := HO.out.parts
      exact ⟨_, _, rfl, ⟨h4, h2, h3⟩, HB.out⟩
end Go.Proofs.Ytpekajnjjhibjaa
