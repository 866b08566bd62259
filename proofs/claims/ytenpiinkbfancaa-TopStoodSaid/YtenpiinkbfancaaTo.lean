/-
  What every statement about the whole program asks at its end: one word, one sheet, one pin.
-/
import Derived.Test.YtenpiinkbfancaaFm
import Derived.Test.YtenpiinkbfancaaSnE
import Derived.Test.YtenpiinkbfancaaRkG
namespace Go.Proofs.Ytenpiinkbfancaa
open Go.RowKit
set_option linter.unusedSimpArgs false
set_option linter.unusedVariables false

attribute [local go_sem] Oper.semAt_some
def oneW : List Sn.Wd := [⟨0, 1, 0, 2, 3⟩]
theorem one_ex : Sn.exErr 1 oneW [] = 0 := by decide +kernel
theorem one_rg : Sn.rangesL oneW (Sn.offT []) (1 : Int).toNat = [(2, 10), (2, 3)] := by decide +kernel
theorem one_lo : Sn.cntLo oneW (Sn.offT []) (1 : Int).toNat = 7 := by decide +kernel
theorem one_hi : Sn.cntHi oneW (Sn.offT []) (1 : Int).toNat = 8 := by decide +kernel
def oneR : Rk.Rk := ⟨1, 4, 1, 0, []⟩
def oneB : List Rk.Rg := [⟨4, 5⟩]
theorem one_thr : Rk.thrErr oneR [0] oneB = 0 := by decide +kernel
theorem one_pin : Rk.pinS oneR [0] = 1 := by decide +kernel
theorem one_left : Rk.leftV oneR [0] oneB = (0, 1) := by
  rw [Rk.leftV, if_pos one_thr, one_pin]
  refine Rk.leftN_eq ?_ (Rk.lv_all (by decide) (by decide) (by decide +kernel) (by decide +kernel) (by decide +kernel))
  intro k hk
  have : k = 0 := by have : oneB.length = 1 := rfl; omega
  subst this
  decide
theorem one_sheet : SheetOk 2 [5, 3] := by
  have := sheet_game (gm := [[5, 3]]) (fun r hr => by simp at hr; subst hr; exact .inr ⟨5, 3, rfl, by decide, by decide, by decide, by decide⟩) (by decide)
  simpa using this
set_option maxRecDepth 100000 in
set_option maxHeartbeats 4000000 in
theorem told8_c (w : World) : Calls Try.prog 8 #[] w (Ans w (.bool true)) := by
  go_enter Try.func8, Try.ntmps8
  go_wp2_with fail
  obtain ⟨w1, hw1⟩ : ∃ w1, w1 = w.alloc (.cells #[.int .i64 0, .int .i64 1, .int .i64 0, .int .i64 2, .int .i64 3] 82) := ⟨_, rfl⟩
  rw [← hw1]
  have HB : Hid (Below w.heap.size w w1) := by rw [hw1]; exact (Below.refl _ _).alloc (Nat.le_refl _) _
  have HW : Hid (Sn.Wds w1.heap.size w1 (some ⟨w.heap.size, 0, none⟩) oneW) := fun _ => by
    rw [hw1]
    refine ⟨w.heap.size, 0, rfl, by simp, fun k hk => ?_⟩
    obtain rfl : k = 0 := by have : oneW.length = 1 := rfl; omega
    simp [Sn.W5, Sn.wx, oneW]
  clear hw1
  refine (Sn.ranges_ok (some ⟨w.heap.size, 0, none⟩) none oneW [] 1 0 1 w1 HW.out (fun h => absurd h (by decide)) (by decide) (by decide) one_ex).mono ?_
  rw [one_rg, one_lo, one_hi]
  rintro e w2 ⟨Ar, cr, rfl, hcr, hR, hb⟩
  replace HB := Lib.hid (HB.out.trans (hb.mono HB.out.size))
  obtain ⟨b1, o1, hA1, hb1, hc1⟩ := hR (by decide)
  subst hA1
  obtain ⟨c1, c2⟩ := hc1 1 (by decide)
  clear hc1 hR hb HW
  have e1 : Sn.px [(2, 10), (2, 3)] 1 = (2, 3) := rfl
  rw [e1] at c1 c2
  dsimp only at c1 c2
  have hlr : ([(2, 10), (2, 3)] : List (Int × Int)).length = 2 := rfl
  rw [hlr]
  clear e1 hlr hcr
  go_upto_region 2 with fail
  have hb : Below w2.heap.size w2 (w2.alloc (.cells #[.int .i64 7, .int .i64 8] 34)) := (Below.refl _ _).alloc (Nat.le_refl _) _
  have u0 : (w2.alloc (.cells #[.int .i64 7, .int .i64 8] 34)).cell? ⟨w2.heap.size, 0, none⟩ = some (.int .i64 7) := by simp
  have u1 : (w2.alloc (.cells #[.int .i64 7, .int .i64 8] 34)).cell? ⟨w2.heap.size, 1, none⟩ = some (.int .i64 8) := by simp
  replace c1 := cell_of_ans hb c1
  replace c2 := cell_of_ans hb c2
  replace HB := Lib.hid (HB.out.trans (hb.mono HB.out.size))
  clear hb
  generalize (w2.alloc (.cells #[.int .i64 7, .int .i64 8] 34)) = w3 at *
  generalize w2.heap.size = qw3 at *
  go_wp2_with fail
  have hb : Below w3.heap.size w3 (w3.alloc (.cells #[.int .i64 5, .int .i64 3] 3)) := (Below.refl _ _).alloc (Nat.le_refl _) _
  have HX : Hid (Ints (w3.alloc (.cells #[.int .i64 5, .int .i64 3] 3)).heap.size (w3.alloc (.cells #[.int .i64 5, .int .i64 3] 3)) (some ⟨w3.heap.size, 0, none⟩) [5, 3]) := fun _ => ⟨w3.heap.size, 0, rfl, by simp, fun k hk => by
    rcases (by simp at hk; omega : k = 0 ∨ k = 1) with rfl | rfl <;> simp [ix]⟩
  replace c1 := cell_of_ans hb c1
  replace c2 := cell_of_ans hb c2
  replace u0 := cell_of_ans hb u0
  replace u1 := cell_of_ans hb u1
  replace HB := Lib.hid (HB.out.trans (hb.mono HB.out.size))
  clear hb
  generalize w3.alloc (.cells #[.int .i64 5, .int .i64 3] 3) = w4 at *
  generalize w3.heap.size = q4 at *
  have HRD := Lib.hid (read_c 2 (some ⟨q4, 0, none⟩) 2 [5, 3] w4 one_sheet HX.out)
  unfold lawV at HRD
  refine HRD.out.mono ?_
  rintro e w5 ⟨Af, cf, zs, Az, cz, st, rfl, -, hcn, hzc, hown, -, hb⟩
  obtain rfl := cnt_told hcn
  obtain ⟨-, -, -, hzi⟩ := ints_parts hown.isInts
  obtain ⟨b2, o2, hA2, hb2, hc2⟩ := hzi (by decide)
  subst hA2
  have d0 := hc2 0 (by decide)
  have e2 : ix [8] 0 = 8 := rfl
  rw [e2] at d0
  replace c1 := cell_of_ans hb c1
  replace c2 := cell_of_ans hb c2
  replace u0 := cell_of_ans hb u0
  replace u1 := cell_of_ans hb u1
  replace HB := Lib.hid (HB.out.trans (hb.mono HB.out.size))
  clear hb
  clear hc2 hcn hzc hown hzi HRD HX e2
  have hlz : ([8] : List Int).length = 1 := rfl
  rw [hlz]
  generalize (rowsS 2 [5, 3] ([5, 3] : List Int).length).length = rl
  generalize ((plS 2 [5, 3] ([5, 3] : List Int).length).fr == 2) = dn
  go_upto_region 3 with fail
  have hb : Below w5.heap.size w5 (w5.alloc (.cells #[.slice Af rl cf, .slice (some ⟨b2, o2, none⟩) 1 cz, .int .i64 st, .bool dn] 47)) := (Below.refl _ _).alloc (Nat.le_refl _) _
  have v0 : (w5.alloc (.cells #[.slice Af rl cf, .slice (some ⟨b2, o2, none⟩) 1 cz, .int .i64 st, .bool dn] 47)).cell? ⟨w5.heap.size, 0, none⟩ = some (.slice Af rl cf) := by simp
  have v1 : (w5.alloc (.cells #[.slice Af rl cf, .slice (some ⟨b2, o2, none⟩) 1 cz, .int .i64 st, .bool dn] 47)).cell? ⟨w5.heap.size, 1, none⟩ = some (.slice (some ⟨b2, o2, none⟩) 1 cz) := by simp
  have v2 : (w5.alloc (.cells #[.slice Af rl cf, .slice (some ⟨b2, o2, none⟩) 1 cz, .int .i64 st, .bool dn] 47)).cell? ⟨w5.heap.size, 2, none⟩ = some (.int .i64 st) := by simp
  have v3 : (w5.alloc (.cells #[.slice Af rl cf, .slice (some ⟨b2, o2, none⟩) 1 cz, .int .i64 st, .bool dn] 47)).cell? ⟨w5.heap.size, 3, none⟩ = some (.bool dn) := by simp
  replace c1 := cell_of_ans hb c1
  replace c2 := cell_of_ans hb c2
  replace u0 := cell_of_ans hb u0
  replace u1 := cell_of_ans hb u1
  replace d0 := cell_of_ans hb d0
  replace HB := Lib.hid (HB.out.trans (hb.mono HB.out.size))
  clear hb
  generalize (w5.alloc (.cells #[.slice Af rl cf, .slice (some ⟨b2, o2, none⟩) 1 cz, .int .i64 st, .bool dn] 47)) = w6 at *
  generalize w5.heap.size = qw6 at *
  go_wp2_with fail
  have hb : Below w6.heap.size w6 ((w6.alloc (.cells #[.int .i64 0] 3)).alloc (.cells #[.int .i64 4, .int .i64 5] 64)) := below_two _ _
  have HX : Hid (Ints ((w6.alloc (.cells #[.int .i64 0] 3)).alloc (.cells #[.int .i64 4, .int .i64 5] 64)).heap.size ((w6.alloc (.cells #[.int .i64 0] 3)).alloc (.cells #[.int .i64 4, .int .i64 5] 64)) (some ⟨w6.heap.size, 0, none⟩) [0]) := fun _ => ⟨w6.heap.size, 0, rfl, by simp; omega, fun k hk => by
    obtain rfl : k = 0 := by simpa using hk
    simp [ix]⟩
  have HR : Hid (Rk.Rgs ((w6.alloc (.cells #[.int .i64 0] 3)).alloc (.cells #[.int .i64 4, .int .i64 5] 64)).heap.size ((w6.alloc (.cells #[.int .i64 0] 3)).alloc (.cells #[.int .i64 4, .int .i64 5] 64)) (some ⟨w6.heap.size + 1, 0, none⟩) oneB) := fun _ => ⟨w6.heap.size + 1, 0, rfl, by simp, fun k hk => by
    obtain rfl : k = 0 := by have : oneB.length = 1 := rfl; omega
    simp [Rk.W2, Rk.gx, oneB]⟩
  replace c1 := cell_of_ans hb c1
  replace c2 := cell_of_ans hb c2
  replace u0 := cell_of_ans hb u0
  replace u1 := cell_of_ans hb u1
  replace d0 := cell_of_ans hb d0
  replace v0 := cell_of_ans hb v0
  replace v1 := cell_of_ans hb v1
  replace HB := Lib.hid (HB.out.trans (hb.mono HB.out.size))
  clear hb v2 v3
  generalize (w6.alloc (.cells #[.int .i64 0] 3)).alloc (.cells #[.int .i64 4, .int .i64 5] 64) = w7 at *
  generalize w6.heap.size = q6 at *
  have HLF := Lib.hid (Rk.left21_c oneR none (some ⟨q6, 0, none⟩) (some ⟨q6 + 1, 0, none⟩) 0 1 1 [0] oneB w7 (fun h => absurd h (by decide)) (by decide) HX.out (by decide) HR.out (by decide))
  rw [one_left, one_thr] at HLF
  refine HLF.out.mono ?_
  rintro e w8 ⟨rfl, hb⟩
  replace c1 := cell_of_ans hb c1
  replace c2 := cell_of_ans hb c2
  replace u0 := cell_of_ans hb u0
  replace u1 := cell_of_ans hb u1
  replace d0 := cell_of_ans hb d0
  replace v0 := cell_of_ans hb v0
  replace v1 := cell_of_ans hb v1
  replace HB := Lib.hid (HB.out.trans (hb.mono HB.out.size))
  clear hb HLF HX HR
  rw [Nat.one_mul] at c1 c2
  rw [Nat.add_zero] at d0
  go_upto_region 4 with fail
  have hb : Below w8.heap.size w8 (w8.alloc (.cells #[.int .i64 0, .int .i64 1] 64)) := (Below.refl _ _).alloc (Nat.le_refl _) _
  have m0 : (w8.alloc (.cells #[.int .i64 0, .int .i64 1] 64)).cell? ⟨w8.heap.size, 0, none⟩ = some (.int .i64 0) := by simp
  have m1 : (w8.alloc (.cells #[.int .i64 0, .int .i64 1] 64)).cell? ⟨w8.heap.size, 1, none⟩ = some (.int .i64 1) := by simp
  replace c1 := cell_of_ans hb c1
  replace c2 := cell_of_ans hb c2
  replace u0 := cell_of_ans hb u0
  replace u1 := cell_of_ans hb u1
  replace d0 := cell_of_ans hb d0
  replace v0 := cell_of_ans hb v0
  replace v1 := cell_of_ans hb v1
  replace HB := Lib.hid (HB.out.trans (hb.mono HB.out.size))
  clear hb
  generalize w8.alloc (.cells #[.int .i64 0, .int .i64 1] 64) = w9 at *
  generalize w8.heap.size = q9 at *
  go_wp2_with fail
  go_ret
  exact ⟨rfl, HB.out⟩
end Go.Proofs.Ytenpiinkbfancaa
