/-
  frame: the error of a sheet (there is none); sums.
-/
import Derived.Test.YtenpiinkbfancaaFd
namespace Go.Proofs.Ytenpiinkbfancaa
open Go.RowKit
set_option linter.unusedSimpArgs false
set_option linter.unusedVariables false

set_option maxHeartbeats 800000 in
theorem check_c (N : Int) (A : Option Addr) (c : Nat) (xs : List Int) (w : World) (hs : SheetOk N xs) (hx : Ints w.heap.size w A xs) :
    Calls Try.prog 46 #[lawV N, .slice A xs.length c] w (Ans w (.int .i64 0)) := by
  obtain ⟨w1, hw1⟩ : ∃ w1, w1 = w.alloc (.cells #[.int .i64 N, .int .i64 10, .int .i64 2, .int .i64 10] 50) := ⟨_, rfl⟩
  have hb0 : Below w.heap.size w w1 := by rw [hw1]; exact (Below.refl _ _).alloc (Nat.le_refl _) _
  have HB0 := Lib.hid hb0
  have l0 : w1.cell? ⟨w.heap.size, 0, none⟩ = some (.int .i64 N) := by rw [hw1]; go_simp
  have l1 : w1.cell? ⟨w.heap.size, 1, none⟩ = some (.int .i64 10) := by rw [hw1]; go_simp
  have l2 : w1.cell? ⟨w.heap.size, 2, none⟩ = some (.int .i64 2) := by rw [hw1]; go_simp
  have l3 : w1.cell? ⟨w.heap.size, 3, none⟩ = some (.int .i64 10) := by rw [hw1]; go_simp
  have hlen := hs.len
  have HX := Lib.hid (hx.below hb0)
  have HCL := Lib.hid (checkLaw_c N w1 ⟨hs.n0, hs.n1⟩)
  unfold lawV at *
  clear hb0 hx
  have t1 : decide ((40 : Int) < (xs.length : Int)) = false := decide_eq_false (by omega)
  have t1b : decide (40 < xs.length) = false := decide_eq_false (by omega)
  go_enter Try.func46, Try.ntmps46
  go_wp2_with fail
  rw [← hw1]
  clear hw1
  refine HCL.out.mono ?_
  rintro e w2 ⟨rfl, hb⟩
  have HB2 := Lib.hid (HB0.out.trans (hb.mono HB0.out.size))
  have hx2 : Ints w.heap.size w2 A xs := HX.out.below (hb.mono HB0.out.size)
  replace l0 := cell_of_ans hb l0
  replace l1 := cell_of_ans hb l1
  replace l2 := cell_of_ans hb l2
  replace l3 := cell_of_ans hb l3
  have HBD := Lib.hid (bad_c N A c xs w2 hs (hx2.more HB2.out.size))
  unfold lawV at HBD
  clear hb HCL HX hx2
  go_wp2_with fail
  refine HBD.out.mono ?_
  rintro e w3 ⟨rfl, hb⟩
  have HB3 := Lib.hid (HB2.out.trans (hb.mono HB2.out.size))
  clear hb l0 l1 l2 l3
  go_wp2_with fail
  go_ret
  exact ⟨rfl, HB3.out⟩
theorem take_sum {xs : List Int} {k : Nat} (h : k < xs.length) : (xs.take (k + 1)).sum = (xs.take k).sum + ix xs k := by
  rw [ix_lt h, List.take_succ_eq_append_getElem h, List.sum_append]
  simp
set_option maxHeartbeats 800000 in
theorem sum_c {B : Nat} (A : Option Addr) (c : Nat) (xs : List Int) (w : World) (hx : Ints B w A xs) (hl : xs.length ≤ 1000000) (hb : ∀ k, k ≤ xs.length → -1000000000 ≤ (xs.take k).sum ∧ (xs.take k).sum ≤ 1000000000) :
    Calls Try.prog 103 #[.slice A xs.length c] w (Same w (.int .i64 xs.sum)) := by
  go_enter Try.func103, Try.ntmps103
  go_wp2_with fail
  go_loopw [2, 7] (fun s i wr => ∃ k : Nat, k ≤ xs.length ∧ i = .int .i64 (k : Int) ∧ s = .int .i64 (xs.take k).sum ∧ w = wr) (fun s i _ => xs.length - (intOf i).toNat)
  case atStart => exact ⟨0, by omega, rfl, by simp, rfl⟩
  case round =>
    obtain ⟨k, hk, rfl, rfl, rfl⟩ := hrel
    by_cases h1 : k < xs.length
    · have h1i : (k : Int) < (xs.length : Int) := by omega
      obtain ⟨b, off, rfl, hb0, c1⟩ := hx.at_ h1
      have hts := take_sum h1
      have hbk := hb (k + 1) (by omega)
      rw [hts] at hbk
      have hw : IntKind.i64.wrap ((xs.take k).sum + ix xs k) = (xs.take k).sum + ix xs k := IntWalk.i64_in _ (by omega)
      have HTS := Lib.hid hts
      clear hts hbk
      generalize (xs.take k).sum = sk at *
      go_wp2_with fail
      go_roundw
      case rel => exact ⟨k + 1, by omega, by go_num, by rw [HTS.out], by trivial⟩
      case measure => simp [intOf]; omega
    · obtain rfl : k = xs.length := by omega
      rw [List.take_length]
      go_wp2_with fail
      go_ret
      exact ⟨rfl, rfl⟩
end Go.Proofs.Ytenpiinkbfancaa
