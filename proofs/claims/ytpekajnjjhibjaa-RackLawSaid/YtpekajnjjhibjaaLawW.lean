/-
  The walk of RackLaw.
-/
import Derived.Test.YtpekajnjjhibjaaKindM
import Derived.Test.YtpekajnjjhibjaaAwk
namespace Go.Proofs.Ytpekajnjjhibjaa
open Go.RowKit
set_option linter.unusedSimpArgs false
set_option linter.unusedVariables false

attribute [local go_sem] Oper.semAt_some

set_option maxRecDepth 100000 in
set_option maxHeartbeats 16000000 in
theorem law9_c (r : Rk) (A xA : Option Addr) (c cx : Nat) (xs : List Int) (w : World) (hl : Lks w.heap.size w A r.links) (hc : r.links.length ≤ c ∧ c ≤ 9223372036854775807) (hx : Ints w.heap.size w xA xs) (hcx : xs.length ≤ cx ∧ cx ≤ 9223372036854775807) :
    Calls Try.prog 9 #[.agg #[.int .i64 r.rows, .int .i64 r.mid, .int .i64 r.gap, .int .i64 r.reach, .slice A r.links.length c], .slice xA xs.length cx] w (Ans w (.bool true)) := by
  have HB := Lib.hid (Below.refl w.heap.size w)
  have HL := Lib.hid hl
  have HX := Lib.hid hx
  clear hl hx
  have hb : Below w.heap.size w (w.alloc (.cells #[.int .i64 r.rows, .int .i64 r.mid, .int .i64 r.gap, .int .i64 r.reach, .slice A r.links.length c] 24)) := (Below.refl _ _).alloc (Nat.le_refl _) _
  replace HL := Lib.hid (HL.out.step hb)
  replace HX := Lib.hid (HX.out.step hb)
  replace HB := Lib.hid (HB.out.trans (hb.mono HB.out.size))
  clear hb
  have k0 : (w.alloc (.cells #[.int .i64 r.rows, .int .i64 r.mid, .int .i64 r.gap, .int .i64 r.reach, .slice A r.links.length c] 24)).cell? ⟨w.heap.size, 0, none⟩ = some (.int .i64 r.rows) := by simp
  have k1 : (w.alloc (.cells #[.int .i64 r.rows, .int .i64 r.mid, .int .i64 r.gap, .int .i64 r.reach, .slice A r.links.length c] 24)).cell? ⟨w.heap.size, 1, none⟩ = some (.int .i64 r.mid) := by simp
  have k2 : (w.alloc (.cells #[.int .i64 r.rows, .int .i64 r.mid, .int .i64 r.gap, .int .i64 r.reach, .slice A r.links.length c] 24)).cell? ⟨w.heap.size, 2, none⟩ = some (.int .i64 r.gap) := by simp
  have k3 : (w.alloc (.cells #[.int .i64 r.rows, .int .i64 r.mid, .int .i64 r.gap, .int .i64 r.reach, .slice A r.links.length c] 24)).cell? ⟨w.heap.size, 3, none⟩ = some (.int .i64 r.reach) := by simp
  have k4 : (w.alloc (.cells #[.int .i64 r.rows, .int .i64 r.mid, .int .i64 r.gap, .int .i64 r.reach, .slice A r.links.length c] 24)).cell? ⟨w.heap.size, 4, none⟩ = some (.slice A r.links.length c) := by simp
  cases ht : thinB r.links.length xs.length 0
  · have HTH := Lib.hid (fun W => (show Calls Try.prog 23 #[.agg #[.int .i64 r.rows, .int .i64 r.mid, .int .i64 r.gap, .int .i64 r.reach, .slice A r.links.length c], .slice xA xs.length cx, .slice none 0 0] W (Ans W (.bool false)) from by have h := thin23_c r A xA none c xs.length cx 0 0 W; rwa [ht] at h))
    clear ht
    go_enter Try.func9, Try.ntmps9
    go_wp2_with fail
    generalize (w.alloc (.cells #[.int .i64 r.rows, .int .i64 r.mid, .int .i64 r.gap, .int .i64 r.reach, .slice A r.links.length c] 24)) = x1 at *
    refine (HTH.out _).mono ?_
    rintro e x1 ⟨rfl, hb⟩
    replace HL := Lib.hid (HL.out.step hb)
    replace HX := Lib.hid (HX.out.step hb)
    replace k0 := cell_of_ans hb k0
    replace k1 := cell_of_ans hb k1
    replace k2 := cell_of_ans hb k2
    replace k3 := cell_of_ans hb k3
    replace k4 := cell_of_ans hb k4
    replace HB := Lib.hid (HB.out.trans (hb.mono HB.out.size))
    clear hb
    clear HTH
    go_wp2_with fail
    refine (awake16_c _).mono ?_
    rintro e wz ⟨rfl, hb⟩
    replace HL := Lib.hid (HL.out.step hb)
    replace HX := Lib.hid (HX.out.step hb)
    replace k0 := cell_of_ans hb k0
    replace k1 := cell_of_ans hb k1
    replace k2 := cell_of_ans hb k2
    replace k3 := cell_of_ans hb k3
    replace k4 := cell_of_ans hb k4
    replace HB := Lib.hid (HB.out.trans (hb.mono HB.out.size))
    clear hb
    go_wp2_with fail
    go_ret
    exact ⟨rfl, HB.out⟩
  · have HTH := Lib.hid (fun W => (show Calls Try.prog 23 #[.agg #[.int .i64 r.rows, .int .i64 r.mid, .int .i64 r.gap, .int .i64 r.reach, .slice A r.links.length c], .slice xA xs.length cx, .slice none 0 0] W (Ans W (.bool true)) from by have h := thin23_c r A xA none c xs.length cx 0 0 W; rwa [ht] at h))
    rw [thinB, Bool.and_eq_true, Bool.and_eq_true, decide_eq_true_eq, decide_eq_true_eq, decide_eq_true_eq] at ht
    obtain ⟨hl16, hx15, -⟩ := ht
    have hlen : r.links.length ≤ 1000000 := by omega
    have hxl : xs.length ≤ 1000000 := by omega
    by_cases he : pinErr r xs = 0
    · have HPN := Lib.hid (fun W h1 h2 => (show Calls Try.prog 26 #[.agg #[.int .i64 r.rows, .int .i64 r.mid, .int .i64 r.gap, .int .i64 r.reach, .slice A r.links.length c], .slice xA xs.length cx] W (Ans W (.int .i64 0)) from by have h := pinned26_c r A xA c cx xs W h1 hc h2 hcx; rwa [he] at h))
      have her := pinErr_rack he
      have hr := rackOk her
      have hpn := pn_le hr.rows1 hr.rows4
      have HKL := Lib.hid (kind_law he)
      have HCL := Lib.hid (cen_vals her)
      have HPI := Lib.hid (fun W => pins40_c r.rows r.mid r.gap r.reach A r.links.length c W hr.rows1 hr.rows4)
      have HKI := Lib.hid (fun (A4 xA4 : Option Addr) (c4 cx4 : Nat) (W : World) h1 h2 h3 h4 => Kind_c r A4 xA4 c4 cx4 xs W h1 h2 h3 h4)
      have HCE := Lib.hid (fun (A4 : Option Addr) (c4 : Nat) (W : World) h1 h2 => census_c r A4 c4 W h1 h2)
      rw [he] at HKI
      rw [her] at HCE
      clear her hr he
      go_enter Try.func9, Try.ntmps9
      go_wp2_with fail
      generalize (w.alloc (.cells #[.int .i64 r.rows, .int .i64 r.mid, .int .i64 r.gap, .int .i64 r.reach, .slice A r.links.length c] 24)) = x1 at *
      refine (HTH.out _).mono ?_
      rintro e x2 ⟨rfl, hb⟩
      replace HL := Lib.hid (HL.out.step hb)
      replace HX := Lib.hid (HX.out.step hb)
      replace k0 := cell_of_ans hb k0
      replace k1 := cell_of_ans hb k1
      replace k2 := cell_of_ans hb k2
      replace k3 := cell_of_ans hb k3
      replace k4 := cell_of_ans hb k4
      replace HB := Lib.hid (HB.out.trans (hb.mono HB.out.size))
      clear hb
      clear HTH
      go_wp2_with fail
      refine (HPN.out _ HL.out HX.out).mono ?_
      rintro e x3 ⟨rfl, hb⟩
      replace HL := Lib.hid (HL.out.step hb)
      replace HX := Lib.hid (HX.out.step hb)
      replace k0 := cell_of_ans hb k0
      replace k1 := cell_of_ans hb k1
      replace k2 := cell_of_ans hb k2
      replace k3 := cell_of_ans hb k3
      replace k4 := cell_of_ans hb k4
      replace HB := Lib.hid (HB.out.trans (hb.mono HB.out.size))
      clear hb
      clear HPN
      generalize kindV r xs = kd at *
      generalize cenV r 0 = n0 at *
      generalize cenV r 1 = n1 at *
      generalize cenV r 2 = n2 at *
      generalize cenV r 3 = n3 at *
      generalize cenV r 4 = n4 at *
      obtain ⟨c0, c1, c2, c3, c4, c5⟩ := HCL.out
      have hp2 : 2 ^ pn r.rows ≤ 1024 := Nat.le_trans (Nat.pow_le_pow_right (by omega) hpn.2) (by decide)
      have HE : Hid (((2 : Int) ^ pn r.rows) = ((2 ^ pn r.rows : Nat) : Int)) := by show _ = _; simp
      obtain ⟨m, hm⟩ : ∃ m, m = 2 ^ pn r.rows := ⟨_, rfl⟩
      rw [← hm] at hp2 c2 HE
      clear hm HCL
      have hsh : IntKind.i64.wrap ((2 : Int) ^ pn r.rows) = (m : Int) := by
        rw [HE.out]
        exact IntWalk.i64_in _ (by omega)
      clear HE
      have hw1 : IntKind.i64.wrap (n0 + n1) = n0 + n1 := IntWalk.i64_in _ (by omega)
      have hw2 : IntKind.i64.wrap (n0 + n1 + n2) = n0 + n1 + n2 := IntWalk.i64_in _ (by omega)
      have hw3 : IntKind.i64.wrap (n0 + n1 + n2 + n3) = n0 + n1 + n2 + n3 := IntWalk.i64_in _ (by omega)
      have hw4 : IntKind.i64.wrap (n0 + n1 + n2 + n3 + n4) = n0 + n1 + n2 + n3 + n4 := IntWalk.i64_in _ (by omega)
      have t0 : (n0 != 1) = false := by simp; omega
      have t1 : (n1 != (pn r.rows : Int)) = false := by simp; omega
      have t2 : ((n0 + n1 + n2 + n3 + n4) != (m : Int)) = false := by simp; omega
      have t3 : decide (n2 < 0) = false := by simp; omega
      have t4 : decide (n3 < 0) = false := by simp; omega
      have t5 : decide (n4 < 0) = false := by simp; omega
      clear c0 c1 c2 c3 c4 c5
      go_wp2_with fail
      refine (rack18_c r A c _ HL.out hc hlen).mono ?_
      rintro e w4 ⟨A4, c4, rfl, ⟨hl4, hc4⟩, hb⟩
      replace HL := Lib.hid (HL.out.step hb)
      replace HX := Lib.hid (HX.out.step hb)
      replace k0 := cell_of_ans hb k0
      replace k1 := cell_of_ans hb k1
      replace k2 := cell_of_ans hb k2
      replace k3 := cell_of_ans hb k3
      replace k4 := cell_of_ans hb k4
      replace HB := Lib.hid (HB.out.trans (hb.mono HB.out.size))
      clear hb
      have Hhl4 := Lib.hid hl4
      clear hl4
      go_wp2_with fail
      refine (list_c xA xs cx _ HX.out hxl).mono ?_
      rintro e w5 ⟨B4, d4, rfl, ho4, hb⟩
      obtain ⟨hd4, he4, hi4⟩ := isInts_parts (ownsRow_isInts ho4)
      clear ho4
      replace HL := Lib.hid (HL.out.step hb)
      replace HX := Lib.hid (HX.out.step hb)
      replace k0 := cell_of_ans hb k0
      replace k1 := cell_of_ans hb k1
      replace k2 := cell_of_ans hb k2
      replace k3 := cell_of_ans hb k3
      replace k4 := cell_of_ans hb k4
      replace Hhl4 := Lib.hid (Hhl4.out.step hb)
      replace HB := Lib.hid (HB.out.trans (hb.mono HB.out.size))
      clear hb
      have Hhi4 := Lib.hid hi4
      clear hi4
      go_wp2_with fail
      refine (HKI.out _ _ _ _ _ Hhl4.out hc4 Hhi4.out ⟨hd4, he4⟩).mono ?_
      rintro e w6 ⟨rfl, hb⟩
      replace HL := Lib.hid (HL.out.step hb)
      replace HX := Lib.hid (HX.out.step hb)
      replace k0 := cell_of_ans hb k0
      replace k1 := cell_of_ans hb k1
      replace k2 := cell_of_ans hb k2
      replace k3 := cell_of_ans hb k3
      replace k4 := cell_of_ans hb k4
      replace Hhl4 := Lib.hid (Hhl4.out.step hb)
      replace Hhi4 := Lib.hid (Hhi4.out.step hb)
      replace HB := Lib.hid (HB.out.trans (hb.mono HB.out.size))
      clear hb
      clear Hhl4 Hhi4
      go_wp2_with fail
      refine (rack18_c r A c _ HL.out hc hlen).mono ?_
      rintro e w7 ⟨A5, c5, rfl, ⟨hl5, hc5⟩, hb⟩
      replace HL := Lib.hid (HL.out.step hb)
      replace HX := Lib.hid (HX.out.step hb)
      replace k0 := cell_of_ans hb k0
      replace k1 := cell_of_ans hb k1
      replace k2 := cell_of_ans hb k2
      replace k3 := cell_of_ans hb k3
      replace k4 := cell_of_ans hb k4
      replace HB := Lib.hid (HB.out.trans (hb.mono HB.out.size))
      clear hb
      have Hhl5 := Lib.hid hl5
      clear hl5
      go_wp2_with fail
      refine (HCE.out _ _ _ Hhl5.out hc5).mono ?_
      rintro e w8 ⟨rfl, hb⟩
      replace HL := Lib.hid (HL.out.step hb)
      replace HX := Lib.hid (HX.out.step hb)
      replace k0 := cell_of_ans hb k0
      replace k1 := cell_of_ans hb k1
      replace k2 := cell_of_ans hb k2
      replace k3 := cell_of_ans hb k3
      replace k4 := cell_of_ans hb k4
      replace Hhl5 := Lib.hid (Hhl5.out.step hb)
      replace HB := Lib.hid (HB.out.trans (hb.mono HB.out.size))
      clear hb
      clear Hhl5
      have ltk0 := World.block_lt_of_cell? _ _ k0
      dsimp only at ltk0
      go_upto_region 5 with fail
      have hb : Below w8.heap.size w8 (w8.alloc (.cells #[.int .i64 n0, .int .i64 n1, .int .i64 n2, .int .i64 n3, .int .i64 n4] 75)) := (Below.refl _ _).alloc (Nat.le_refl _) _
      replace HL := Lib.hid (HL.out.step hb)
      replace HX := Lib.hid (HX.out.step hb)
      replace k0 := cell_of_ans hb k0
      replace k1 := cell_of_ans hb k1
      replace k2 := cell_of_ans hb k2
      replace k3 := cell_of_ans hb k3
      replace k4 := cell_of_ans hb k4
      replace HB := Lib.hid (HB.out.trans (hb.mono HB.out.size))
      clear hb
      have e0 : (w8.alloc (.cells #[.int .i64 n0, .int .i64 n1, .int .i64 n2, .int .i64 n3, .int .i64 n4] 75)).cell? ⟨w8.heap.size, 0, none⟩ = some (.int .i64 n0) := by simp
      have e1 : (w8.alloc (.cells #[.int .i64 n0, .int .i64 n1, .int .i64 n2, .int .i64 n3, .int .i64 n4] 75)).cell? ⟨w8.heap.size, 1, none⟩ = some (.int .i64 n1) := by simp
      have e2 : (w8.alloc (.cells #[.int .i64 n0, .int .i64 n1, .int .i64 n2, .int .i64 n3, .int .i64 n4] 75)).cell? ⟨w8.heap.size, 2, none⟩ = some (.int .i64 n2) := by simp
      have e3 : (w8.alloc (.cells #[.int .i64 n0, .int .i64 n1, .int .i64 n2, .int .i64 n3, .int .i64 n4] 75)).cell? ⟨w8.heap.size, 3, none⟩ = some (.int .i64 n3) := by simp
      have e4 : (w8.alloc (.cells #[.int .i64 n0, .int .i64 n1, .int .i64 n2, .int .i64 n3, .int .i64 n4] 75)).cell? ⟨w8.heap.size, 4, none⟩ = some (.int .i64 n4) := by simp
      generalize (w8.alloc (.cells #[.int .i64 n0, .int .i64 n1, .int .i64 n2, .int .i64 n3, .int .i64 n4] 75)) = w9 at *
      generalize w8.heap.size = nq at *
      go_wp2_with fail
      refine (HPI.out _).mono ?_
      rintro e w10 ⟨rfl, hb⟩
      replace HL := Lib.hid (HL.out.step hb)
      replace HX := Lib.hid (HX.out.step hb)
      replace k0 := cell_of_ans hb k0
      replace k1 := cell_of_ans hb k1
      replace k2 := cell_of_ans hb k2
      replace k3 := cell_of_ans hb k3
      replace k4 := cell_of_ans hb k4
      replace e0 := cell_of_ans hb e0
      replace e1 := cell_of_ans hb e1
      replace e2 := cell_of_ans hb e2
      replace e3 := cell_of_ans hb e3
      replace e4 := cell_of_ans hb e4
      replace HB := Lib.hid (HB.out.trans (hb.mono HB.out.size))
      clear hb
      have lte0 := World.block_lt_of_cell? _ _ e0
      dsimp only at lte0
      by_cases h0 : xs.length = 0
      · obtain rfl := HKL.out.1 h0
        have h0i : ((xs.length : Int) == 0) = true := by rw [beq_iff_eq]; omega
        clear h0 HKL
        go_wp2_with fail
        refine (awake16_c _).mono ?_
        rintro e wz ⟨rfl, hb⟩
        replace HL := Lib.hid (HL.out.step hb)
        replace HX := Lib.hid (HX.out.step hb)
        replace k0 := cell_of_ans hb k0
        replace k1 := cell_of_ans hb k1
        replace k2 := cell_of_ans hb k2
        replace k3 := cell_of_ans hb k3
        replace k4 := cell_of_ans hb k4
        replace e0 := cell_of_ans hb e0
        replace e1 := cell_of_ans hb e1
        replace e2 := cell_of_ans hb e2
        replace e3 := cell_of_ans hb e3
        replace e4 := cell_of_ans hb e4
        replace HB := Lib.hid (HB.out.trans (hb.mono HB.out.size))
        clear hb
        go_wp2_with fail
        go_ret
        exact ⟨rfl, HB.out⟩
      have h0i : ((xs.length : Int) == 0) = false := by rw [beq_eq_false_iff_ne]; omega
      by_cases h1 : xs.length = 1
      · obtain rfl := HKL.out.2.1 h1
        have h1i : ((xs.length : Int) == 1) = true := by rw [beq_iff_eq]; omega
        clear h1 HKL h0
        go_wp2_with fail
        refine (awake16_c _).mono ?_
        rintro e wz ⟨rfl, hb⟩
        replace HL := Lib.hid (HL.out.step hb)
        replace HX := Lib.hid (HX.out.step hb)
        replace k0 := cell_of_ans hb k0
        replace k1 := cell_of_ans hb k1
        replace k2 := cell_of_ans hb k2
        replace k3 := cell_of_ans hb k3
        replace k4 := cell_of_ans hb k4
        replace e0 := cell_of_ans hb e0
        replace e1 := cell_of_ans hb e1
        replace e2 := cell_of_ans hb e2
        replace e3 := cell_of_ans hb e3
        replace e4 := cell_of_ans hb e4
        replace HB := Lib.hid (HB.out.trans (hb.mono HB.out.size))
        clear hb
        go_wp2_with fail
        go_ret
        exact ⟨rfl, HB.out⟩
      have h1i : ((xs.length : Int) == 1) = false := by rw [beq_eq_false_iff_ne]; omega
      have hkl := HKL.out.2.2 (by omega)
      have hxp : 0 < xs.length := by omega
      clear HKL
      obtain ⟨b, off, rfl, _, hcell⟩ := HX.out.at_ hxp
      simp only [Nat.add_zero] at hcell
      generalize ix xs 0 = y at *
      rcases hkl with rfl | ⟨rfl, hy⟩ | ⟨rfl, hy⟩
      · go_wp2_with fail
        refine (awake16_c _).mono ?_
        rintro e wz ⟨rfl, hb⟩
        replace HL := Lib.hid (HL.out.step hb)
        replace HX := Lib.hid (HX.out.step hb)
        replace k0 := cell_of_ans hb k0
        replace k1 := cell_of_ans hb k1
        replace k2 := cell_of_ans hb k2
        replace k3 := cell_of_ans hb k3
        replace k4 := cell_of_ans hb k4
        replace e0 := cell_of_ans hb e0
        replace e1 := cell_of_ans hb e1
        replace e2 := cell_of_ans hb e2
        replace e3 := cell_of_ans hb e3
        replace e4 := cell_of_ans hb e4
        replace HB := Lib.hid (HB.out.trans (hb.mono HB.out.size))
        clear hb
        go_wp2_with fail
        go_ret
        exact ⟨rfl, HB.out⟩
      · have hy1 : (y == 0) = false := by simp [hy]
        clear hy
        go_wp2_with fail
        refine (awake16_c _).mono ?_
        rintro e wz ⟨rfl, hb⟩
        replace HL := Lib.hid (HL.out.step hb)
        replace HX := Lib.hid (HX.out.step hb)
        replace k0 := cell_of_ans hb k0
        replace k1 := cell_of_ans hb k1
        replace k2 := cell_of_ans hb k2
        replace k3 := cell_of_ans hb k3
        replace k4 := cell_of_ans hb k4
        replace e0 := cell_of_ans hb e0
        replace e1 := cell_of_ans hb e1
        replace e2 := cell_of_ans hb e2
        replace e3 := cell_of_ans hb e3
        replace e4 := cell_of_ans hb e4
        replace HB := Lib.hid (HB.out.trans (hb.mono HB.out.size))
        clear hb
        go_wp2_with fail
        go_ret
        exact ⟨rfl, HB.out⟩
      · have hy1 : (y == 0) = true := by simp [hy]
        clear hy
        go_wp2_with fail
        refine (awake16_c _).mono ?_
        rintro e wz ⟨rfl, hb⟩
        replace HL := Lib.hid (HL.out.step hb)
        replace HX := Lib.hid (HX.out.step hb)
        replace k0 := cell_of_ans hb k0
        replace k1 := cell_of_ans hb k1
        replace k2 := cell_of_ans hb k2
        replace k3 := cell_of_ans hb k3
        replace k4 := cell_of_ans hb k4
        replace e0 := cell_of_ans hb e0
        replace e1 := cell_of_ans hb e1
        replace e2 := cell_of_ans hb e2
        replace e3 := cell_of_ans hb e3
        replace e4 := cell_of_ans hb e4
        replace HB := Lib.hid (HB.out.trans (hb.mono HB.out.size))
        clear hb
        go_wp2_with fail
        go_ret
        exact ⟨rfl, HB.out⟩
    · have HPN := Lib.hid (fun W h1 h2 => pinned26_c r A xA c cx xs W h1 hc h2 hcx)
      have q1 : (pinErr r xs == 0) = false := by simp [he]
      have q2 : (pinErr r xs != 0) = true := by simp [he]
      clear he
      generalize pinErr r xs = te at *
      go_enter Try.func9, Try.ntmps9
      go_wp2_with fail
      generalize (w.alloc (.cells #[.int .i64 r.rows, .int .i64 r.mid, .int .i64 r.gap, .int .i64 r.reach, .slice A r.links.length c] 24)) = x1 at *
      refine (HTH.out _).mono ?_
      rintro e x4 ⟨rfl, hb⟩
      replace HL := Lib.hid (HL.out.step hb)
      replace HX := Lib.hid (HX.out.step hb)
      replace k0 := cell_of_ans hb k0
      replace k1 := cell_of_ans hb k1
      replace k2 := cell_of_ans hb k2
      replace k3 := cell_of_ans hb k3
      replace k4 := cell_of_ans hb k4
      replace HB := Lib.hid (HB.out.trans (hb.mono HB.out.size))
      clear hb
      clear HTH
      go_wp2_with fail
      refine (HPN.out _ HL.out HX.out).mono ?_
      rintro e x5 ⟨rfl, hb⟩
      replace HL := Lib.hid (HL.out.step hb)
      replace HX := Lib.hid (HX.out.step hb)
      replace k0 := cell_of_ans hb k0
      replace k1 := cell_of_ans hb k1
      replace k2 := cell_of_ans hb k2
      replace k3 := cell_of_ans hb k3
      replace k4 := cell_of_ans hb k4
      replace HB := Lib.hid (HB.out.trans (hb.mono HB.out.size))
      clear hb
      go_wp2_with fail
      refine (awake16_c _).mono ?_
      rintro e wz ⟨rfl, hb⟩
      replace HL := Lib.hid (HL.out.step hb)
      replace HX := Lib.hid (HX.out.step hb)
      replace k0 := cell_of_ans hb k0
      replace k1 := cell_of_ans hb k1
      replace k2 := cell_of_ans hb k2
      replace k3 := cell_of_ans hb k3
      replace k4 := cell_of_ans hb k4
      replace HB := Lib.hid (HB.out.trans (hb.mono HB.out.size))
      clear hb
      go_wp2_with fail
      go_ret
      exact ⟨rfl, HB.out⟩
end Go.Proofs.Ytpekajnjjhibjaa
