/-
  ready, ended.
-/
import Derived.Test.YtgnonfomlgkpcaaOwn
import Derived.Test.YtgnonfomlgkpcaaCell
namespace Go.Proofs.Ytgnonfomlgkpcaa
open Go.RowKit

noncomputable def readyB (xss : List (List Int)) (lo hi ca : Int) (bss : List (List Int)) : Bool := (shortB 12 xss && shortB 25 bss) && decide (ballsErr xss lo hi ca bss = 0)

set_option maxHeartbeats 1000000 in
theorem ready_c (A Ab : Option Addr) (xss bss : List (List Int)) (c cb : Nat) (lo hi ca : Int) (w : World) (hx : Grd w.heap.size w A xss) (hbs : Grd w.heap.size w Ab bss) (hc : xss.length ≤ c ∧ c ≤ 9223372036854775807) (hcb : bss.length ≤ cb ∧ cb ≤ 9223372036854775807) :
    Calls Try.prog 28 #[.agg #[.slice A xss.length c, .int .i64 lo, .int .i64 hi, .int .i64 ca], .slice Ab bss.length cb] w (Ans w (.bool (readyB xss lo hi ca bss))) := by
  have hb0 : Below w.heap.size w (w.alloc (.cells #[.slice A xss.length c, .int .i64 lo, .int .i64 hi, .int .i64 ca] 26)) := (Below.refl _ _).alloc (Nat.le_refl _) _
  have k0 : (w.alloc (.cells #[.slice A xss.length c, .int .i64 lo, .int .i64 hi, .int .i64 ca] 26)).cell? ⟨w.heap.size, 0, none⟩ = some (.slice A xss.length c) := by simp
  have k1 : (w.alloc (.cells #[.slice A xss.length c, .int .i64 lo, .int .i64 hi, .int .i64 ca] 26)).cell? ⟨w.heap.size, 1, none⟩ = some (.int .i64 lo) := by simp
  have k2 : (w.alloc (.cells #[.slice A xss.length c, .int .i64 lo, .int .i64 hi, .int .i64 ca] 26)).cell? ⟨w.heap.size, 2, none⟩ = some (.int .i64 hi) := by simp
  have k3 : (w.alloc (.cells #[.slice A xss.length c, .int .i64 lo, .int .i64 hi, .int .i64 ca] 26)).cell? ⟨w.heap.size, 3, none⟩ = some (.int .i64 ca) := by simp
  have HX := Lib.hid (hx.step hb0)
  have HBs := Lib.hid (hbs.step hb0)
  have HB := Lib.hid hb0
  clear hb0 hx hbs
  cases hP : shortB 12 xss && shortB 25 bss
  · have HR : Hid (readyB xss lo hi ca bss = false) := by show _ = _; rw [readyB, hP, Bool.false_and]
    have HP := Lib.hid hP
    clear hP
    go_enter Try.func28, Try.ntmps28
    go_wp2_with fail
    refine (thin_c A Ab xss bss c cb lo hi ca _ (Nat.le_refl _) HX.out HBs.out hc hcb).mono ?_
    rw [HP.out]
    rintro e w1 ⟨rfl, hb⟩
    go_wp2_with fail
    go_ret
    exact ⟨ret_bool HR.out.symm, HB.out.trans (hb.mono HB.out.size)⟩
  · have HR : Hid (readyB xss lo hi ca bss = decide (ballsErr xss lo hi ca bss = 0)) := by show _ = _; rw [readyB, hP, Bool.true_and]
    have HP := Lib.hid hP
    clear hP
    go_enter Try.func28, Try.ntmps28
    go_wp2_with fail
    generalize (w.alloc (.cells #[.slice A xss.length c, .int .i64 lo, .int .i64 hi, .int .i64 ca] 26)) = W0 at k0 k1 k2 k3 HX HBs HB ⊢
    refine (thin_c A Ab xss bss c cb lo hi ca _ (Nat.le_refl _) HX.out HBs.out hc hcb).mono ?_
    rw [HP.out]
    rintro e w1 ⟨rfl, hb⟩
    replace HX := Lib.hid (HX.out.step hb)
    replace HBs := Lib.hid (HBs.out.step hb)
    replace k0 := cell_of_ans hb k0
    replace k1 := cell_of_ans hb k1
    replace k2 := cell_of_ans hb k2
    replace k3 := cell_of_ans hb k3
    replace HB := Lib.hid (HB.out.trans (hb.mono HB.out.size))
    clear hb
    go_wp2_with fail
    refine (ballsFault_c A Ab xss bss c cb lo hi ca _ (Nat.le_refl _) HX.out HBs.out hc).mono ?_
    rintro e w2 ⟨rfl, hb⟩
    replace HB := Lib.hid (HB.out.trans (hb.mono HB.out.size))
    clear hb
    go_wp2_with fail
    go_ret
    exact ⟨ret_bool (by rw [HR.out]; rfl), HB.out⟩

theorem take_map_range (n m : Nat) (f : Nat → Int) (h : m < n) : ((List.range n).map f).take (m + 1) = ((List.range n).map f).take m ++ [f m] := by
  rw [List.take_succ_eq_append_getElem (by simpa using h)]
  simp
theorem len_take_map_range (n m : Nat) (f : Nat → Int) (h : m ≤ n) : (((List.range n).map f).take m).length = m := by simp; omega

set_option maxRecDepth 100000 in
set_option maxHeartbeats 4000000 in
theorem ended_c (A Ab : Option Addr) (n m c cb : Nat) (lo hi ca : Int) (row : Nat) (high : Bool) (w : World) (hn : n ≤ 1000) (hm : m ≤ 1000) :
    Calls Try.prog 29 #[.agg #[.slice A n c, .int .i64 lo, .int .i64 hi, .int .i64 ca], .slice Ab m cb, .int .i64 (row : Int), .bool high] w (IsNew w (endedX n m lo hi row high)) := by
  have hb0 : Below w.heap.size w (w.alloc (.cells #[.slice A n c, .int .i64 lo, .int .i64 hi, .int .i64 ca] 26)) := (Below.refl _ _).alloc (Nat.le_refl _) _
  have k0 : (w.alloc (.cells #[.slice A n c, .int .i64 lo, .int .i64 hi, .int .i64 ca] 26)).cell? ⟨w.heap.size, 0, none⟩ = some (.slice A n c) := by simp
  have k1 : (w.alloc (.cells #[.slice A n c, .int .i64 lo, .int .i64 hi, .int .i64 ca] 26)).cell? ⟨w.heap.size, 1, none⟩ = some (.int .i64 lo) := by simp
  have k2 : (w.alloc (.cells #[.slice A n c, .int .i64 lo, .int .i64 hi, .int .i64 ca] 26)).cell? ⟨w.heap.size, 2, none⟩ = some (.int .i64 hi) := by simp
  have HB := Lib.hid hb0
  clear hb0
  generalize hf : (fun r => if (decide (r = row) != high) = true then hi else lo) = f
  have HF := Lib.hid hf
  clear hf
  go_enter Try.func29, Try.ntmps29
  go_wp2_with fail
  generalize (w.alloc (.cells #[.slice A n c, .int .i64 lo, .int .i64 hi, .int .i64 ca] 26)) = W0 at k0 k1 k2 HB ⊢
  go_loopw [10, 9] (fun i v wr => ∃ (k : Nat) (vs : List Value), k ≤ m ∧ i = .int .i64 k ∧ Rws W0.heap.size wr v k vs (fun _ => (List.range n).map f) ∧ Below W0.heap.size W0 wr) (fun i _ _ => m - (intOf i).toNat)
  case atStart => exact ⟨0, [], by omega, rfl, Rws.nil _ _ _, Below.refl _ _⟩
  case round =>
    obtain ⟨k, vs, hk, rfl, hO, hb⟩ := hrel
    by_cases h1 : k < m
    · have q0 := cell_of_ans hb k0
      have q1 := cell_of_ans hb k1
      have q2 := cell_of_ans hb k2
      have HO := Lib.hid hO
      have HBk := Lib.hid hb
      have hzk := hb.size
      clear hO hb k0 k1 k2
      obtain ⟨wo, rfl⟩ : ∃ wo : World, wo = wr := ⟨_, rfl⟩
      go_wp2_with fail
      go_loopw [12, 11] (fun j u wr' => ∃ t : Nat, t ≤ n ∧ j = .int .i64 t ∧ OwnI wo.heap.size wr' u (((List.range n).map f).take t) ∧ Below wo.heap.size wo wr') (fun j _ _ => n - (intOf j).toNat)
      case atStart => exact ⟨0, by omega, rfl, OwnI.nil _ _, Below.refl _ _⟩
      case round =>
        obtain ⟨t, ht, rfl, hu, hb⟩ := hrel
        have p0 := cell_of_ans hb q0
        have p1 := cell_of_ans hb q1
        have p2 := cell_of_ans hb q2
        have HU := Lib.hid hu
        have HBt := Lib.hid hb
        have hzt := hb.size
        clear hu hb
        by_cases h2 : t < n
        · have HL : Hid ((((List.range n).map f).take t).length = t) := len_take_map_range n t f (by omega)
          cases hv : (decide (t = row) != high)
          · have HFt : Hid (f t = lo) := by show _ = _; rw [← HF.out]; simp only [hv]; rfl
            have hv' : (((t : Int) == (row : Int)) == high) = true := by
              have e : ((t : Int) == (row : Int)) = decide (t = row) := Bool.eq_iff_iff.2 (by simp; omega)
              rw [e]
              simpa [bne] using hv
            clear hv
            go_wp2_with (at_builtin; refine wpList_app_int (.tmp 38) (.tmp 40) rfl rfl wo.heap.size wr _ (((List.range n).map f).take t) _ rfl rfl HU (by rw [HL.out]; omega) hzt ?_; intro A' c' w2 HU2 HB2)
            go_roundw
            case rel =>
              refine ⟨t + 1, by omega, by go_num, ?_, HBt.out.trans HB2.out⟩
              have := HU2.out
              rw [← HFt.out, ← take_map_range n t f h2, HL.out] at this
              exact this
            case measure => simp [intOf]; omega
          · have HFt : Hid (f t = hi) := by show _ = _; rw [← HF.out]; simp only [hv]; rfl
            have hv' : (((t : Int) == (row : Int)) == high) = false := by
              have e : ((t : Int) == (row : Int)) = decide (t = row) := Bool.eq_iff_iff.2 (by simp; omega)
              rw [e]
              simpa [bne] using hv
            clear hv
            go_wp2_with (at_builtin; refine wpList_app_int (.tmp 38) (.tmp 40) rfl rfl wo.heap.size wr _ (((List.range n).map f).take t) _ rfl rfl HU (by rw [HL.out]; omega) hzt ?_; intro A' c' w2 HU2 HB2)
            go_roundw
            case rel =>
              refine ⟨t + 1, by omega, by go_num, ?_, HBt.out.trans HB2.out⟩
              have := HU2.out
              rw [← HFt.out, ← take_map_range n t f h2, HL.out] at this
              exact this
            case measure => simp [intOf]; omega
        · obtain rfl : t = n := by omega
          have e : ((List.range t).map f).take t = (List.range t).map f := List.take_of_length_le (by simp)
          have HU' : Hid (OwnI wo.heap.size wr u11 ((List.range t).map f)) := by have := HU.out; rw [e] at this; exact this
          have HL : Hid (((List.range t).map f).length = t) := by show _ = _; simp
          clear e HU
          obtain ⟨Au, cu, hu⟩ := HU'.out.form
          rw [HL.out] at hu
          subst hu
          go_wp2_with (at_builtin; refine wpList_app_row (.tmp 42) (.tmp 44) rfl rfl W0.heap.size wo wr u9 k vs (fun _ => (List.range t).map f) Au t cu rfl rfl HO HL.out HU' HBt (by omega) hzk ?_; intro A' c' vs' w2 HO2 HB2)
          go_roundw
          case rel => exact ⟨k + 1, vs', by omega, by go_num, HO2.out, HBk.out.trans HB2.out⟩
          case measure => simp [intOf]; omega
    · obtain rfl : k = m := by omega
      go_wp2_with fail
      go_ret
      have hE : (endedX n k lo hi row high).length = k := by simp [endedX]
      have hG : Rws W0.heap.size wr u9 (endedX n k lo hi row high).length vs (rx (endedX n k lo hi row high)) := by
        rw [hE]
        exact hO.congr fun j hj => by rw [rx_endedX hj, HF.out]
      obtain ⟨A', c', rfl, a1, a2, a3⟩ := hG.grd
      exact ⟨A', c', rfl, ⟨a1, a2⟩, a3, HB.out.trans (hb.mono HB.out.size)⟩
end Go.Proofs.Ytgnonfomlgkpcaa
