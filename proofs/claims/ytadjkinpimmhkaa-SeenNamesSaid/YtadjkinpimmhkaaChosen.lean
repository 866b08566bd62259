/-
  The law's chosen and ready.
-/
import Derived.Test.YtadjkinpimmhkaaRef4
namespace Go.Proofs.Ytadjkinpimmhkaa
open Go.RowKit
set_option linter.unusedSimpArgs false
set_option linter.unusedVariables false

/-- The tellers below k whose bits are 1. -/
def chTo (b k : Nat) : List Int := ((List.range k).filter fun j => b.testBit j).map fun (j : Nat) => (j : Int)
theorem chTo_yes {b k : Nat} (h : b.testBit k = true) : chTo b (k + 1) = chTo b k ++ [(k : Int)] := by simp [chTo, List.range_succ, List.filter_append, h]
theorem chTo_no {b k : Nat} (h : b.testBit k = false) : chTo b (k + 1) = chTo b k := by simp [chTo, List.range_succ, List.filter_append, h]
theorem chTo_len (b k : Nat) : (chTo b k).length ≤ k := by
  unfold chTo
  rw [List.length_map]
  exact Nat.le_trans (List.length_filter_le _ _) (by simp)

theorem bit_test (b k : Nat) : (((b : Int) / 2 ^ k).tmod 2 == 1) = b.testBit k := by
  have h1 : ((b : Int) / 2 ^ k) = ((b / 2 ^ k : Nat) : Int) := by simp
  have h2 : (((b / 2 ^ k : Nat) : Int).tmod 2) = ((b / 2 ^ k % 2 : Nat) : Int) := rfl
  rw [h1, h2, Nat.testBit_eq_decide_div_mod_eq]
  exact Bool.eq_iff_iff.2 (by simp; omega)
set_option maxRecDepth 100000 in
set_option maxHeartbeats 4000000 in
theorem chosen_c (b : Nat) (hb : b < 256) (w : World) : Calls Try.prog 31 #[.int .u8 (b : Int)] w (NewO w (chTo b 4)) := by
  go_enter Try.func31, Try.ntmps31
  go_wp2_with fail
  go_loopw [4, 3] (fun i v wr => ∃ k : Nat, k ≤ 4 ∧ i = .int .i64 k ∧ OwnI w.heap.size wr v (chTo b k) ∧ Below w.heap.size w wr) (fun i _ _ => 4 - (intOf i).toNat)
  case atStart => exact ⟨0, by omega, rfl, World.ownsRow_nil _ _ _ _, Below.refl _ _⟩
  case round =>
    obtain ⟨k, hk, rfl, hO, hbr⟩ := hrel
    have HO := Lib.hid hO
    have HB := Lib.hid hbr
    have hz := hbr.size
    by_cases h1 : k < 4
    · have h1i : (k : Int) < 4 := by omega
      have hbt := bit_test b k
      obtain ⟨Av, cv, rfl⟩ := ownsRow_form hO
      have HL : Hid ((chTo b k).length ≤ 1000000) := by show _ ≤ _; have := chTo_len b k; omega
      clear hO hbr
      cases ht : b.testBit k
      · rw [ht] at hbt
        have HX := Lib.hid (chTo_no ht)
        clear ht
        go_wp2_with fail
        go_roundw
        case rel => exact ⟨k + 1, by omega, by go_num, by rw [HX.out]; exact HO.out, HB.out⟩
        case measure => simp [intOf]; omega
      · rw [ht] at hbt
        have HX := Lib.hid (chTo_yes ht)
        have HXL : Hid ((chTo b (k + 1)).length = (chTo b k).length + 1) := by show _ = _; rw [HX.out, List.length_append]; rfl
        clear ht
        go_wp2_with (at_builtin; refine wpList_app_int (.tmp 15) (.tmp 17) rfl rfl w.heap.size wr _ (chTo b k) _ rfl rfl HO HL.out hz ?_; intro A' c' w2 HU2 HB2)
        go_roundw
        case rel => exact ⟨k + 1, by omega, by go_num, by rw [HX.out, ]; exact HU2.out, HB.out.trans HB2.out⟩
        case measure => simp [intOf]; omega
    · have h1i : ¬ (k : Int) < 4 := by omega
      obtain ⟨Av, cv, rfl⟩ := ownsRow_form hO
      clear hO hbr
      go_wp2_with fail
      go_ret
      obtain rfl : k = 4 := by omega
      exact ⟨_, _, rfl, HO.out, HB.out⟩

set_option maxRecDepth 100000 in
set_option maxHeartbeats 4000000 in
theorem ready_c (A : Option Addr) (ws : List Wd) (c : Nat) (frn : Int) (w : World) (hw : Wds w.heap.size w A ws) (hc : ws.length ≤ c ∧ c ≤ 9223372036854775807) :
    Calls Try.prog 29 #[.agg #[.int .i64 frn, .slice A ws.length c]] w (Ans w (.bool (decide (laneErr frn ws = 0)))) := by
  have hb0 : Below w.heap.size w (w.alloc (.cells #[.int .i64 frn, .slice A ws.length c] 24)) := (Below.refl _ _).alloc (Nat.le_refl _) _
  have k0 : (w.alloc (.cells #[.int .i64 frn, .slice A ws.length c] 24)).cell? ⟨w.heap.size, 0, none⟩ = some (.int .i64 frn) := by simp
  have k1 : (w.alloc (.cells #[.int .i64 frn, .slice A ws.length c] 24)).cell? ⟨w.heap.size, 1, none⟩ = some (.slice A ws.length c) := by simp
  have HB := Lib.hid hb0
  have HW := Lib.hid (hw.step hb0)
  have HTh := Lib.hid (fun W => thin_c A none ws [] c 0 frn W)
  have HR : Hid (decide (laneErr frn ws = 0) = true → ws.length ≤ 30) := fun h => (laneOk (of_decide_eq_true h)).1
  clear hb0 hw
  go_enter Try.func29, Try.ntmps29
  go_wp2_with fail
  generalize w.alloc (.cells #[.int .i64 frn, .slice A ws.length c] 24) = W0 at k0 k1 HB HW ⊢
  cases hth : thinB ws []
  · have HE : Hid (decide (laneErr frn ws = 0) = false) := by
      show _ = _
      refine Bool.eq_false_iff.2 fun h => ?_
      have := HR.out h
      simp [thinB] at hth
      omega
    have HTh0 := HTh.out W0
    rw [hth] at HTh0
    have HT2 := Lib.hid HTh0
    clear hth HTh HTh0
    refine HT2.out.mono ?_
    rintro e w1 ⟨rfl, hb⟩
    replace HB := Lib.hid (HB.out.trans (hb.mono HB.out.size))
    clear hb
    go_wp2_with fail
    go_ret
    exact ⟨ret_bool HE.out.symm, HB.out⟩
  · have HTh0 := HTh.out W0
    rw [hth] at HTh0
    have HT2 := Lib.hid HTh0
    clear hth HTh HTh0
    refine HT2.out.mono ?_
    rintro e w1 ⟨rfl, hb⟩
    replace HB := Lib.hid (HB.out.trans (hb.mono HB.out.size))
    replace HW := Lib.hid (HW.out.step hb)
    replace k0 := cell_of_ans hb k0
    replace k1 := cell_of_ans hb k1
    clear hb
    have HF := Lib.hid (fault_c A ws c frn w1 HW.out hc)
    generalize laneErr frn ws = er at *
    cases her : (er == 0)
    · have HE : Hid (decide (er = 0) = false) := by show _ = _; simpa using her
      go_wp2_with fail
      refine HF.out.mono ?_
      rintro e w2 ⟨rfl, hb⟩
      replace HB := Lib.hid (HB.out.trans (hb.mono HB.out.size))
      clear hb
      go_wp2_with fail
      go_ret
      exact ⟨ret_bool HE.out.symm, HB.out⟩
    · have HE : Hid (decide (er = 0) = true) := by show _ = _; simpa using her
      go_wp2_with fail
      refine HF.out.mono ?_
      rintro e w2 ⟨rfl, hb⟩
      replace HB := Lib.hid (HB.out.trans (hb.mono HB.out.size))
      clear hb
      go_wp2_with fail
      go_ret
      exact ⟨ret_bool HE.out.symm, HB.out⟩
theorem chTo_off (b j : Nat) (hj : j < 4) : offT (chTo b 4) j = b.testBit j := by
  rcases (by omega : j = 0 ∨ j = 1 ∨ j = 2 ∨ j = 3) with rfl | rfl | rfl | rfl <;>
    (cases h0 : b.testBit 0 <;> cases h1 : b.testBit 1 <;> cases h2 : b.testBit 2 <;> cases h3 : b.testBit 3 <;> simp [chTo, offT, List.range_succ, h0, h1, h2, h3])
theorem chTo_rise (b : Nat) : riseB (chTo b 4) = true := by
  cases h0 : b.testBit 0 <;> cases h1 : b.testBit 1 <;> cases h2 : b.testBit 2 <;> cases h3 : b.testBit 3 <;> simp [chTo, riseB, allB, List.range_succ, h0, h1, h2, h3, ix, inB]
end Go.Proofs.Ytadjkinpimmhkaa
