/-
  The document's first examples hold.
-/
import Derived.Test.YtadjkinpimmhkaaNight
namespace Go.Proofs.Ytadjkinpimmhkaa
open Go.RowKit
set_option linter.unusedSimpArgs false
set_option linter.unusedVariables false

theorem ints_one (w : World) (x : Int) : Ints (w.alloc (.cells #[.int .i64 x] 3)).heap.size (w.alloc (.cells #[.int .i64 x] 3)) (some ⟨w.heap.size, 0, none⟩) [x] := fun _ => ⟨w.heap.size, 0, rfl, by simp, fun k hk => by
  obtain rfl : k = 0 := by simpa using hk
  simp [ix]⟩
section
variable (W : World) (A : Option Addr) (h : Wds W.heap.size W A nightW)
include h
theorem n_e0 : Calls Try.prog 21 #[.agg #[.int .i64 2, .slice A nightW.length 5], .slice none 0 0] W (Ans W (.tuple #[.bool false, .int .i64 0])) := by
  have h1 := explains_c A none nightW [] 5 0 2 W h (fun hp => by simp at hp) (by decide) (by decide)
  rw [night_ask0, night_ex0] at h1
  exact h1
theorem n_w1 : Wds (W.alloc (.cells #[.int .i64 1] 3)).heap.size (W.alloc (.cells #[.int .i64 1] 3)) A nightW := h.step ((Below.refl _ _).alloc (Nat.le_refl _) _)
theorem n_e1 : Calls Try.prog 21 #[.agg #[.int .i64 2, .slice A nightW.length 5], .slice (some ⟨W.heap.size, 0, none⟩) 1 1] (W.alloc (.cells #[.int .i64 1] 3)) (Ans (W.alloc (.cells #[.int .i64 1] 3)) (.tuple #[.bool true, .int .i64 0])) := by
  have h1 := explains_c A (some ⟨W.heap.size, 0, none⟩) nightW [1] 5 1 2 _ (n_w1 W A h) (ints_one W 1) (by decide) (by decide)
  rw [night_ask1, night_ex1] at h1
  exact h1
theorem n_m1 : Calls Try.prog 30 #[.agg #[.int .i64 2, .slice A nightW.length 5], .slice (some ⟨W.heap.size, 0, none⟩) 1 1] (W.alloc (.cells #[.int .i64 1] 3)) (Ans (W.alloc (.cells #[.int .i64 1] 3)) (.tuple #[.int .i64 9, .int .i64 0])) := by
  have h1 := many_ok A (some ⟨W.heap.size, 0, none⟩) nightW [1] 5 1 2 _ (n_w1 W A h) (ints_one W 1) (by decide) (by decide) night_exe
  rw [show (2 : Int).toNat = 2 from rfl, night_many] at h1
  exact h1
def NRg (w : World) (e : Ending) (w' : World) : Prop := ∃ b o c, e = .returned (.tuple #[.slice (some ⟨b, o, none⟩) 4 c, .agg #[.int .i64 17, .int .i64 20], .int .i64 0]) ∧ 4 ≤ c ∧ c ≤ 9223372036854775807 ∧
  (w'.cell? ⟨b, o, none⟩ = some (.int .i64 3) ∧ w'.cell? ⟨b, o + 1, none⟩ = some (.int .i64 3) ∧ w'.cell? ⟨b, o + 2, none⟩ = some (.int .i64 0) ∧ w'.cell? ⟨b, o + 2 + 1, none⟩ = some (.int .i64 2) ∧ w'.cell? ⟨b, o + 4, none⟩ = some (.int .i64 0) ∧ w'.cell? ⟨b, o + 4 + 1, none⟩ = some (.int .i64 1) ∧ w'.cell? ⟨b, o + 6, none⟩ = some (.int .i64 0) ∧ w'.cell? ⟨b, o + 6 + 1, none⟩ = some (.int .i64 1)) ∧ Below w.heap.size w w'
theorem n_r1 : Calls Try.prog 26 #[.agg #[.int .i64 2, .slice A nightW.length 5], .slice (some ⟨W.heap.size, 0, none⟩) 1 1] (W.alloc (.cells #[.int .i64 1] 3)) (NRg (W.alloc (.cells #[.int .i64 1] 3))) := by
  have h1 := ranges_ok A (some ⟨W.heap.size, 0, none⟩) nightW [1] 5 1 2 _ (n_w1 W A h) (ints_one W 1) (by decide) (by decide) night_exe
  rw [show (2 : Int).toNat = 2 from rfl, night_rg, night_lo, night_hi] at h1
  refine h1.mono ?_
  rintro e w' ⟨A', c', rfl, ⟨hc1, hc2⟩, hR, hb⟩
  obtain ⟨b, o, rfl, _, hc⟩ := hR (by decide)
  have c0 := hc 0 (by decide)
  have c1 := hc 1 (by decide)
  have c2 := hc 2 (by decide)
  have c3 := hc 3 (by decide)
  exact ⟨b, o, c', rfl, hc1, hc2, ⟨c0.1, c0.2, c1.1, c1.2, c2.1, c2.2, c3.1, c3.2⟩, hb⟩
def NLe (w : World) (e : Ending) (w' : World) : Prop := ∃ b o c, e = .returned (.tuple #[.slice (some ⟨b, o, none⟩) 1 c, .int .i64 0]) ∧ 1 ≤ c ∧ c ≤ 9223372036854775807 ∧ Ints w'.heap.size w' (some ⟨b, o, none⟩) [1] ∧ Below w.heap.size w w'
theorem n_l : Calls Try.prog 34 #[.agg #[.int .i64 2, .slice A nightW.length 5]] W (NLe W) := by
  have h1 := least_ok A nightW 5 2 W h (by decide) night_err
  rw [night_least] at h1
  refine h1.mono ?_
  rintro e w' ⟨Ar, cr, rfl, hO, hb⟩
  obtain ⟨i1, i2, i3⟩ := isInts_parts (ownsRow_isInts hO)
  obtain ⟨b, o, rfl, _, _⟩ := i3 (by decide)
  exact ⟨b, o, cr, rfl, i1, i2, i3, hb⟩
end

set_option maxRecDepth 100000 in
set_option maxHeartbeats 16000000 in
theorem wakes_c (w : World) : Calls Try.prog 18 #[] w (Ans w (.bool true)) := by
  have HN := Lib.hid night_c
  have H0 := Lib.hid n_e0
  have H1 := Lib.hid n_e1
  have HM := Lib.hid n_m1
  have HR := Lib.hid n_r1
  have HL := Lib.hid n_l
  have HB : Hid (Below w.heap.size w w) := Below.refl _ _
  go_enter Try.func18, Try.ntmps18
  go_wp2_with fail
  refine (HN.out _).mono ?_
  rintro e w1 ⟨A1, rfl, hw, hb⟩
  have HW := Lib.hid hw
  replace HB := Lib.hid (HB.out.trans (hb.mono HB.out.size))
  clear hw hb
  go_wp2_with fail
  refine (H0.out _ _ HW.out).mono ?_
  rintro e w2 ⟨rfl, hb⟩
  replace HB := Lib.hid (HB.out.trans (hb.mono HB.out.size))
  clear hb HW
  go_wp2_with fail
  refine (HN.out _).mono ?_
  rintro e w3 ⟨A2, rfl, hw, hb⟩
  have HW := Lib.hid hw
  replace HB := Lib.hid (HB.out.trans (hb.mono HB.out.size))
  clear hw hb
  go_wp2_with fail
  refine (H1.out _ _ HW.out).mono ?_
  rintro e w4 ⟨rfl, hb⟩
  replace HB : Hid (Below w.heap.size w w4) := (HB.out.alloc HB.out.size _).trans (hb.mono (Nat.le_trans HB.out.size (by simp)))
  clear hb HW
  go_wp2_with fail
  refine (HN.out _).mono ?_
  rintro e w5 ⟨A3, rfl, hw, hb⟩
  have HW := Lib.hid hw
  replace HB := Lib.hid (HB.out.trans (hb.mono HB.out.size))
  clear hw hb
  go_wp2_with fail
  refine (HR.out _ _ HW.out).mono ?_
  rintro e w6 ⟨b, o, c, rfl, hc1, hc2, ⟨r0, r1, r2, r3, r4, r5, r6, r7⟩, hb⟩
  replace HB : Hid (Below w.heap.size w w6) := (HB.out.alloc HB.out.size _).trans (hb.mono (Nat.le_trans HB.out.size (by simp)))
  clear hb HW
  go_wp2_with fail
  have p0 : (w6.alloc (.cells #[.int .i64 17, .int .i64 20] 41)).cell? ⟨w6.heap.size, 0, none⟩ = some (.int .i64 17) := by simp
  have p1 : (w6.alloc (.cells #[.int .i64 17, .int .i64 20] 41)).cell? ⟨w6.heap.size, 1, none⟩ = some (.int .i64 20) := by simp
  replace r0 := cell_alloc_keep (.cells #[.int .i64 17, .int .i64 20] 41) r0
  replace r1 := cell_alloc_keep (.cells #[.int .i64 17, .int .i64 20] 41) r1
  replace r2 := cell_alloc_keep (.cells #[.int .i64 17, .int .i64 20] 41) r2
  replace r3 := cell_alloc_keep (.cells #[.int .i64 17, .int .i64 20] 41) r3
  replace r4 := cell_alloc_keep (.cells #[.int .i64 17, .int .i64 20] 41) r4
  replace r5 := cell_alloc_keep (.cells #[.int .i64 17, .int .i64 20] 41) r5
  replace r6 := cell_alloc_keep (.cells #[.int .i64 17, .int .i64 20] 41) r6
  replace r7 := cell_alloc_keep (.cells #[.int .i64 17, .int .i64 20] 41) r7
  replace HB := Lib.hid (HB.out.alloc HB.out.size (.cells #[.int .i64 17, .int .i64 20] 41))
  generalize hq : w6.heap.size = q at *
  generalize w6.alloc (.cells #[.int .i64 17, .int .i64 20] 41) = w7 at *
  clear hq
  refine (HN.out _).mono ?_
  rintro e w8 ⟨A4, rfl, hw, hb⟩
  have HW := Lib.hid hw
  replace r0 := cell_of_ans hb r0
  replace r1 := cell_of_ans hb r1
  replace r2 := cell_of_ans hb r2
  replace r3 := cell_of_ans hb r3
  replace r4 := cell_of_ans hb r4
  replace r5 := cell_of_ans hb r5
  replace r6 := cell_of_ans hb r6
  replace r7 := cell_of_ans hb r7
  replace p0 := cell_of_ans hb p0
  replace p1 := cell_of_ans hb p1
  replace HB := Lib.hid (HB.out.trans (hb.mono HB.out.size))
  clear hw hb
  go_wp2_with fail
  refine (HM.out _ _ HW.out).mono ?_
  rintro e w9 ⟨rfl, hb⟩
  replace r0 := cell_of_ans hb (cell_alloc_keep _ r0)
  replace r1 := cell_of_ans hb (cell_alloc_keep _ r1)
  replace r2 := cell_of_ans hb (cell_alloc_keep _ r2)
  replace r3 := cell_of_ans hb (cell_alloc_keep _ r3)
  replace r4 := cell_of_ans hb (cell_alloc_keep _ r4)
  replace r5 := cell_of_ans hb (cell_alloc_keep _ r5)
  replace r6 := cell_of_ans hb (cell_alloc_keep _ r6)
  replace r7 := cell_of_ans hb (cell_alloc_keep _ r7)
  replace p0 := cell_of_ans hb (cell_alloc_keep _ p0)
  replace p1 := cell_of_ans hb (cell_alloc_keep _ p1)
  replace HB : Hid (Below w.heap.size w w9) := (HB.out.alloc HB.out.size _).trans (hb.mono (Nat.le_trans HB.out.size (by simp)))
  clear hb HW
  go_wp2_with fail
  refine (HN.out _).mono ?_
  rintro e w10 ⟨A5, rfl, hw, hb⟩
  have HW := Lib.hid hw
  replace r0 := cell_of_ans hb r0
  replace r1 := cell_of_ans hb r1
  replace r2 := cell_of_ans hb r2
  replace r3 := cell_of_ans hb r3
  replace r4 := cell_of_ans hb r4
  replace r5 := cell_of_ans hb r5
  replace r6 := cell_of_ans hb r6
  replace r7 := cell_of_ans hb r7
  replace p0 := cell_of_ans hb p0
  replace p1 := cell_of_ans hb p1
  replace HB := Lib.hid (HB.out.trans (hb.mono HB.out.size))
  clear hw hb
  go_wp2_with fail
  refine (HL.out _ _ HW.out).mono ?_
  rintro e w11 ⟨b2, o2, c2, rfl, hc3, hc4, hI, hb⟩
  replace r0 := cell_of_ans hb r0
  replace r1 := cell_of_ans hb r1
  replace r2 := cell_of_ans hb r2
  replace r3 := cell_of_ans hb r3
  replace r4 := cell_of_ans hb r4
  replace r5 := cell_of_ans hb r5
  replace r6 := cell_of_ans hb r6
  replace r7 := cell_of_ans hb r7
  replace p0 := cell_of_ans hb p0
  replace p1 := cell_of_ans hb p1
  replace HB := Lib.hid (HB.out.trans (hb.mono HB.out.size))
  have HI := Lib.hid hI
  clear hb HW hI
  have HQ : Hid (Calls Try.prog 36 #[.slice (some ⟨b2, o2, none⟩) 1 c2, .slice (some ⟨w11.heap.size, 0, none⟩) 1 1] (w11.alloc (.cells #[.int .i64 1] 3)) (Qt (w11.alloc (.cells #[.int .i64 1] 3)) (.bool true))) := by
    have h1 := ints_c (B := (w11.alloc (.cells #[.int .i64 1] 3)).heap.size) (some ⟨b2, o2, none⟩) (some ⟨w11.heap.size, 0, none⟩) [1] [1] c2 1 (w11.alloc (.cells #[.int .i64 1] 3)) (HI.out.step ((Below.refl _ _).alloc (Nat.le_refl _) _)) (ints_one w11 1) ⟨hc3, hc4⟩ (by decide)
    exact h1
  have e1 : ∀ W, (binOp .eql 41 (.agg #[.int .i64 3, .int .i64 3]) (.agg #[.int .i64 3, .int .i64 3])).run Try.prog W = .ok (.bool true) W := fun W => by kernel_rfl
  have e2 : ∀ W, (binOp .eql 41 (.agg #[.int .i64 0, .int .i64 2]) (.agg #[.int .i64 0, .int .i64 2])).run Try.prog W = .ok (.bool true) W := fun W => by kernel_rfl
  have e3 : ∀ W, (binOp .eql 41 (.agg #[.int .i64 0, .int .i64 1]) (.agg #[.int .i64 0, .int .i64 1])).run Try.prog W = .ok (.bool true) W := fun W => by kernel_rfl
  have e4 : ∀ W, (binOp .eql 41 (.agg #[.int .i64 17, .int .i64 20]) (.agg #[.int .i64 17, .int .i64 20])).run Try.prog W = .ok (.bool true) W := fun W => by kernel_rfl
  go_wp2_with fail
  refine HQ.out.mono ?_
  rintro e w12 ⟨rfl, n, rfl⟩
  go_wp2_with fail
  go_ret
  exact ⟨rfl, below_drewN (HB.out.alloc HB.out.size _) n⟩
end Go.Proofs.Ytadjkinpimmhkaa
