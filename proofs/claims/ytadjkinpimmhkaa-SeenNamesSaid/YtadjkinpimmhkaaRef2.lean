/-
  The reference's Rising.
-/
import Derived.Test.YtadjkinpimmhkaaRef1
namespace Go.Proofs.Ytadjkinpimmhkaa
open Go.RowKit
set_option linter.unusedSimpArgs false
set_option linter.unusedVariables false

set_option maxRecDepth 100000 in
set_option maxHeartbeats 4000000 in
theorem rising_c {B : Nat} (At : Option Addr) (ts : List Int) (ct : Nat) (w : World) (hB : B ≤ w.heap.size) (ht : Ints B w At ts) (hct : ts.length ≤ ct ∧ ct ≤ 9223372036854775807) :
    Calls Try.prog 57 #[.slice At ts.length ct] w (Ans w (.bool (riseB ts))) := by
  have HT := Lib.hid ht
  clear ht
  go_enter Try.func57, Try.ntmps57
  go_wp2_with fail
  go_loopw [3] (fun i wr => ∃ k : Nat, k ≤ ts.length ∧ i = .int .i64 k ∧ AllB k (fun k => inB (ix ts k) 0 3 && (decide (k = 0) || decide (ix ts (k - 1) < ix ts k))) ∧ Below w.heap.size w wr) (fun i _ => ts.length - (intOf i).toNat)
  case atStart => exact ⟨0, by omega, rfl, fun j hj => by omega, Below.refl _ _⟩
  case round =>
    obtain ⟨k, hk, rfl, hAll, hbr⟩ := hrel
    have HALL := Lib.hid hAll
    have HBr := Lib.hid hbr
    have HTr := Lib.hid (HT.out.below (hbr.mono hB))
    clear hAll hbr
    by_cases h1 : k < ts.length
    · obtain ⟨bt, ot, rfl, hbt, hct1⟩ := HTr.out.at_ h1
      have hki : (k : Int) < (ts.length : Int) := by omega
      cases t1 : inB (ix ts k) 0 3
      · have HNO := Lib.hid (rise_no h1 (show (inB (ix ts k) 0 3 && _) = false by rw [t1]; rfl))
        have HIN : Hid (∀ W, Calls Try.prog 65 #[.int .i64 (ix ts k), .int .i64 0, .int .i64 3] W fun e w' => e = .returned (.bool false) ∧ w' = W) := fun W => (in_c _ _ _ W).mono fun e w' h => by rw [t1] at h; exact ⟨h.1, h.2.symm⟩
        clear t1
        go_wp2_with fail
        go_quiet ((go_at_call 65; exact Calls.quiet_of_same (HIN.out _)))
        go_wp2_with fail
        go_ret
        exact ⟨ret_bool HNO.out.symm, below_drewN HBr.out _⟩
      · have HT1' := Lib.hid t1
        have HIN : Hid (∀ W, Calls Try.prog 65 #[.int .i64 (ix ts k), .int .i64 0, .int .i64 3] W fun e w' => e = .returned (.bool true) ∧ w' = W) := fun W => (in_c _ _ _ W).mono fun e w' h => by rw [t1] at h; exact ⟨h.1, h.2.symm⟩
        clear t1
        by_cases hk0 : k = 0
        · have HY : Hid ((inB (ix ts k) 0 3 && (decide (k = 0) || decide (ix ts (k - 1) < ix ts k))) = true) := by show _ = _; rw [HT1'.out, hk0]; rfl
          have hk0i : ¬ (0 : Int) < (k : Int) := by omega
          have hk0b : decide (0 < k) = false := decide_eq_false (by omega)
          clear hk0
          go_wp2_with fail
          go_quiet ((go_at_call 65; exact Calls.quiet_of_same (HIN.out _)))
          go_wp2_with fail
          go_roundw
          case rel => exact ⟨k + 1, by omega, by go_num, HALL.out.succ HY.out, below_drewN HBr.out _⟩
          case measure => simp [intOf]; omega
        · have hct2 : wr.cell? ⟨bt, ot + (k - 1), none⟩ = some (.int .i64 (ix ts (k - 1))) := by
            obtain ⟨bt', ot', hA, _, hx⟩ := HTr.out.at_ (k := k - 1) (by omega)
            injection hA with hA
            injection hA with hA1 hA2
            subst hA1 hA2
            exact hx
          have hk0i : (0 : Int) < (k : Int) := by omega
          have hk0b : decide (0 < k) = true := decide_eq_true (by omega)
          have hk1i : (0 : Int) ≤ (k : Int) - 1 := by omega
          have hk2i : (k : Int) - 1 < (ts.length : Int) := by omega
          have hwr : IntKind.i64.wrap ((k : Int) - 1) = (k : Int) - 1 := IntWalk.i64_in _ (by omega)
          have hnat : ((k : Int) - 1).toNat = k - 1 := by omega
          by_cases hle : ix ts k ≤ ix ts (k - 1)
          · have HNO := Lib.hid (rise_no h1 (show (inB (ix ts k) 0 3 && (decide (k = 0) || decide (ix ts (k - 1) < ix ts k))) = false by rw [decide_eq_false hk0, decide_eq_false (show ¬ ix ts (k - 1) < ix ts k by omega)]; simp))
            clear hk0
            go_wp2_with fail
            go_quiet ((go_at_call 65; exact Calls.quiet_of_same (HIN.out _)))
            go_wp2_with fail
            go_ret
            exact ⟨ret_bool HNO.out.symm, below_drewN HBr.out _⟩
          · have HY : Hid ((inB (ix ts k) 0 3 && (decide (k = 0) || decide (ix ts (k - 1) < ix ts k))) = true) := by show _ = _; rw [HT1'.out, decide_eq_false hk0, decide_eq_true (show ix ts (k - 1) < ix ts k by omega)]; rfl
            clear hk0
            go_wp2_with fail
            go_quiet ((go_at_call 65; exact Calls.quiet_of_same (HIN.out _)))
            go_wp2_with fail
            go_roundw
            case rel => exact ⟨k + 1, by omega, by go_num, HALL.out.succ HY.out, below_drewN HBr.out _⟩
            case measure => simp [intOf]; omega
    · obtain rfl : k = ts.length := by omega
      have HY : Hid (riseB ts = true) := allB_true HALL.out
      go_wp2_with fail
      go_ret
      exact ⟨ret_bool HY.out.symm, HBr.out⟩
end Go.Proofs.Ytadjkinpimmhkaa
