/-
  The walk of RackStraight.
-/
import Derived.Test.YtpekajnjjhibjaaStraightM
import Derived.Test.YtpekajnjjhibjaaAwk
namespace Go.Proofs.Ytpekajnjjhibjaa
open Go.RowKit
set_option linter.unusedSimpArgs false
set_option linter.unusedVariables false

attribute [local go_sem] Oper.semAt_some

set_option maxRecDepth 100000 in
set_option maxHeartbeats 16000000 in
theorem straight5_c (r : Rk) (A xA : Option Addr) (c cx bi : Nat) (xs : List Int) (st dr : Int) (w : World) (hl : Lks w.heap.size w A r.links) (hc : r.links.length ≤ c ∧ c ≤ 9223372036854775807) (hx : Ints w.heap.size w xA xs) (hcx : xs.length ≤ cx ∧ cx ≤ 9223372036854775807) (hbi : bi < 65536) :
    Calls Try.prog 5 #[.agg #[.int .i64 r.rows, .int .i64 r.mid, .int .i64 r.gap, .int .i64 r.reach, .slice A r.links.length c], .slice xA xs.length cx, .agg #[.int .i64 st, .int .i64 dr], .int .u16 (bi : Int)] w (Ans w (.bool true)) := by
  have HB := Lib.hid (Below.refl w.heap.size w)
  have HL := Lib.hid hl
  have HX := Lib.hid hx
  clear hl hx
  have hb : Below w.heap.size w (w.alloc (.cells #[.int .i64 r.rows, .int .i64 r.mid, .int .i64 r.gap, .int .i64 r.reach, .slice A r.links.length c] 24)) := (Below.refl _ _).alloc (Nat.le_refl _) _
  replace HL := Lib.hid (HL.out.step hb)
  replace HX := Lib.hid (HX.out.step hb)
  replace HB := Lib.hid (HB.out.trans (hb.mono HB.out.size))
  clear hb
  have k0 : (w.alloc (.cells #[.int .i64 r.rows, .int .i64 r.mid, .int .i64 r.gap, .int .i64 r.reach, .slice A r.links.length c] 24)).cell? ⟨w.heap.size, 0, none⟩ = some (.int .i64 r.rows) := by simp
  have k1 : (w.alloc (.cells #[.int .i64 r.rows, .int .i64 r.mid, .int .i64 r.gap, .int .i64 r.reach, .slice A r.links.length c] 24)).cell? ⟨w.heap.size, 1, none⟩ = some (.int .i64 r.mid) := by simp
  have k2 : (w.alloc (.cells #[.int .i64 r.rows, .int .i64 r.mid, .int .i64 r.gap, .int .i64 r.reach, .slice A r.links.length c] 24)).cell? ⟨w.heap.size, 2, none⟩ = some (.int .i64 r.gap) := by simp
  have k3 : (w.alloc (.cells #[.int .i64 r.rows, .int .i64 r.mid, .int .i64 r.gap, .int .i64 r.reach, .slice A r.links.length c] 24)).cell? ⟨w.heap.size, 3, none⟩ = some (.int .i64 r.reach) := by simp
  have k4 : (w.alloc (.cells #[.int .i64 r.rows, .int .i64 r.mid, .int .i64 r.gap, .int .i64 r.reach, .slice A r.links.length c] 24)).cell? ⟨w.heap.size, 4, none⟩ = some (.slice A r.links.length c) := by simp
  have hb : Below (w.alloc (.cells #[.int .i64 r.rows, .int .i64 r.mid, .int .i64 r.gap, .int .i64 r.reach, .slice A r.links.length c] 24)).heap.size (w.alloc (.cells #[.int .i64 r.rows, .int .i64 r.mid, .int .i64 r.gap, .int .i64 r.reach, .slice A r.links.length c] 24)) ((w.alloc (.cells #[.int .i64 r.rows, .int .i64 r.mid, .int .i64 r.gap, .int .i64 r.reach, .slice A r.links.length c] 24)).alloc (.cells #[.int .i64 st, .int .i64 dr] 50)) := (Below.refl _ _).alloc (Nat.le_refl _) _
  replace HL := Lib.hid (HL.out.step hb)
  replace HX := Lib.hid (HX.out.step hb)
  replace k0 := cell_of_ans hb k0
  replace k1 := cell_of_ans hb k1
  replace k2 := cell_of_ans hb k2
  replace k3 := cell_of_ans hb k3
  replace k4 := cell_of_ans hb k4
  replace HB := Lib.hid (HB.out.trans (hb.mono HB.out.size))
  clear hb
  have s0 : ((w.alloc (.cells #[.int .i64 r.rows, .int .i64 r.mid, .int .i64 r.gap, .int .i64 r.reach, .slice A r.links.length c] 24)).alloc (.cells #[.int .i64 st, .int .i64 dr] 50)).cell? ⟨w.heap.size + 1, 0, none⟩ = some (.int .i64 st) := by simp
  have s1 : ((w.alloc (.cells #[.int .i64 r.rows, .int .i64 r.mid, .int .i64 r.gap, .int .i64 r.reach, .slice A r.links.length c] 24)).alloc (.cells #[.int .i64 st, .int .i64 dr] 50)).cell? ⟨w.heap.size + 1, 1, none⟩ = some (.int .i64 dr) := by simp
  cases ht : thinB r.links.length xs.length 0
  · have HTH := Lib.hid (fun W => (show Calls Try.prog 23 #[.agg #[.int .i64 r.rows, .int .i64 r.mid, .int .i64 r.gap, .int .i64 r.reach, .slice A r.links.length c], .slice xA xs.length cx, .slice none 0 0] W (Ans W (.bool false)) from by have h := thin23_c r A xA none c xs.length cx 0 0 W; rwa [ht] at h))
    clear ht
    go_enter Try.func5, Try.ntmps5
    go_wp2_with fail
    generalize ((w.alloc (.cells #[.int .i64 r.rows, .int .i64 r.mid, .int .i64 r.gap, .int .i64 r.reach, .slice A r.links.length c] 24)).alloc (.cells #[.int .i64 st, .int .i64 dr] 50)) = x1 at *
    refine (HTH.out _).mono ?_
    rintro e x1 ⟨rfl, hb⟩
    replace HL := Lib.hid (HL.out.step hb)
    replace HX := Lib.hid (HX.out.step hb)
    replace k0 := cell_of_ans hb k0
    replace k1 := cell_of_ans hb k1
    replace k2 := cell_of_ans hb k2
    replace k3 := cell_of_ans hb k3
    replace k4 := cell_of_ans hb k4
    replace s0 := cell_of_ans hb s0
    replace s1 := cell_of_ans hb s1
    replace HB := Lib.hid (HB.out.trans (hb.mono HB.out.size))
    clear hb
    clear HTH
    go_wp2_with fail
    refine (awake16_c _).mono ?_
    rintro e wz ⟨rfl, hb⟩
    replace HL := Lib.hid (HL.out.step hb)
    replace HX := Lib.hid (HX.out.step hb)
    replace k0 := cell_of_ans hb k0
    replace k1 := cell_of_ans hb k1
    replace k2 := cell_of_ans hb k2
    replace k3 := cell_of_ans hb k3
    replace k4 := cell_of_ans hb k4
    replace s0 := cell_of_ans hb s0
    replace s1 := cell_of_ans hb s1
    replace HB := Lib.hid (HB.out.trans (hb.mono HB.out.size))
    clear hb
    go_wp2_with fail
    go_ret
    exact ⟨rfl, HB.out⟩
  · have HTH := Lib.hid (fun W => (show Calls Try.prog 23 #[.agg #[.int .i64 r.rows, .int .i64 r.mid, .int .i64 r.gap, .int .i64 r.reach, .slice A r.links.length c], .slice xA xs.length cx, .slice none 0 0] W (Ans W (.bool true)) from by have h := thin23_c r A xA none c xs.length cx 0 0 W; rwa [ht] at h))
    rw [thinB, Bool.and_eq_true, Bool.and_eq_true, decide_eq_true_eq, decide_eq_true_eq, decide_eq_true_eq] at ht
    obtain ⟨hl16, hx15, -⟩ := ht
    have hlen : r.links.length ≤ 1000000 := by omega
    have hxl : xs.length ≤ 1000000 := by omega
    by_cases he : pinErr r xs = 0
    · have HPN := Lib.hid (fun W h1 h2 => (show Calls Try.prog 26 #[.agg #[.int .i64 r.rows, .int .i64 r.mid, .int .i64 r.gap, .int .i64 r.reach, .slice A r.links.length c], .slice xA xs.length cx] W (Ans W (.int .i64 0)) from by have h := pinned26_c r A xA c cx xs W h1 hc h2 hcx; rwa [he] at h))
      by_cases hc0 : cvErr r xs false = 0
      · obtain ⟨f0, pv, ha, hb0, hfew, hon⟩ := straight_ok he hc0 bi
        have ho := rackOk (pinErr_rack he)
        have hr1 := ho.rows1
        have hr4 := ho.rows4
        clear ho
        have HC0 := Lib.hid (fun (A4 xA4 : Option Addr) (c4 cx4 : Nat) (W : World) h1 h2 h3 h4 => convert_c r A4 xA4 c4 cx4 xs false W h1 h2 h3 h4)
        have HC1 := Lib.hid (fun (A4 xA4 : Option Addr) (c4 cx4 : Nat) (W : World) h1 h2 h3 h4 => convert_c r A4 xA4 c4 cx4 xs true W h1 h2 h3 h4)
        rw [hc0] at HC0
        rw [f0] at HC1
        clear f0 hc0 he
        have HPV := Lib.hid (fun (A4 xA4 : Option Addr) (c4 cx4 : Nat) (W : World) h1 h2 h3 h4 => (show Calls Try.prog 25 #[.agg #[.int .i64 r.rows, .int .i64 r.mid, .int .i64 r.gap, .int .i64 r.reach, .slice A4 r.links.length c4], .slice xA4 xs.length cx4, .agg #[.int .i64 (cvLn r xs false).1, .int .i64 (cvLn r xs false).2]] W (Ans W (.bool true)) from by have h := prove_c r A4 xA4 c4 cx4 xs (cvLn r xs false).1 (cvLn r xs false).2 W h1 h2 h3 h4; rwa [pv] at h))
        have HON := Lib.hid hon
        have HFW := Lib.hid hfew
        clear hon hfew pv
        generalize (cvLn r xs false).1 = a at *
        generalize (cvLn r xs false).2 = b at *
        generalize (cvLn r xs true).1 = a2 at *
        generalize (cvLn r xs true).2 = b2 at *
        have HI1 := Lib.hid (fun W => (show Calls Try.prog 27 #[.int .i64 a, .int .i64 0, .int .i64 60] W (Same W (.bool true)) from by have h := in_c a 0 60 W; rwa [(inB_eq a 0 60).2 ha] at h))
        have HI2 := Lib.hid (fun W => (show Calls Try.prog 27 #[.int .i64 b, .int .i64 (-3), .int .i64 3] W (Same W (.bool true)) from by have h := in_c b (-3) 3 W; rwa [(inB_eq b (-3) 3).2 hb0] at h))
        go_enter Try.func5, Try.ntmps5
        go_wp2_with fail
        generalize ((w.alloc (.cells #[.int .i64 r.rows, .int .i64 r.mid, .int .i64 r.gap, .int .i64 r.reach, .slice A r.links.length c] 24)).alloc (.cells #[.int .i64 st, .int .i64 dr] 50)) = x1 at *
        refine (HTH.out _).mono ?_
        rintro e x2 ⟨rfl, hb⟩
        replace HL := Lib.hid (HL.out.step hb)
        replace HX := Lib.hid (HX.out.step hb)
        replace k0 := cell_of_ans hb k0
        replace k1 := cell_of_ans hb k1
        replace k2 := cell_of_ans hb k2
        replace k3 := cell_of_ans hb k3
        replace k4 := cell_of_ans hb k4
        replace s0 := cell_of_ans hb s0
        replace s1 := cell_of_ans hb s1
        replace HB := Lib.hid (HB.out.trans (hb.mono HB.out.size))
        clear hb
        clear HTH
        go_wp2_with fail
        refine (HPN.out _ HL.out HX.out).mono ?_
        rintro e x3 ⟨rfl, hb⟩
        replace HL := Lib.hid (HL.out.step hb)
        replace HX := Lib.hid (HX.out.step hb)
        replace k0 := cell_of_ans hb k0
        replace k1 := cell_of_ans hb k1
        replace k2 := cell_of_ans hb k2
        replace k3 := cell_of_ans hb k3
        replace k4 := cell_of_ans hb k4
        replace s0 := cell_of_ans hb s0
        replace s1 := cell_of_ans hb s1
        replace HB := Lib.hid (HB.out.trans (hb.mono HB.out.size))
        clear hb
        clear HPN
        go_wp2_with fail
        refine (rack18_c r A c _ HL.out hc hlen).mono ?_
        rintro e w4 ⟨A4, c4, rfl, ⟨hl4, hc4⟩, hb⟩
        replace HL := Lib.hid (HL.out.step hb)
        replace HX := Lib.hid (HX.out.step hb)
        replace k0 := cell_of_ans hb k0
        replace k1 := cell_of_ans hb k1
        replace k2 := cell_of_ans hb k2
        replace k3 := cell_of_ans hb k3
        replace k4 := cell_of_ans hb k4
        replace s0 := cell_of_ans hb s0
        replace s1 := cell_of_ans hb s1
        replace HB := Lib.hid (HB.out.trans (hb.mono HB.out.size))
        clear hb
        have Hhl4 := Lib.hid hl4
        clear hl4
        go_wp2_with fail
        refine (list_c xA xs cx _ HX.out hxl).mono ?_
        rintro e w5 ⟨B4, d4, rfl, ho4, hb⟩
        obtain ⟨hd4, he4, hi4⟩ := isInts_parts (ownsRow_isInts ho4)
        clear ho4
        replace HL := Lib.hid (HL.out.step hb)
        replace HX := Lib.hid (HX.out.step hb)
        replace k0 := cell_of_ans hb k0
        replace k1 := cell_of_ans hb k1
        replace k2 := cell_of_ans hb k2
        replace k3 := cell_of_ans hb k3
        replace k4 := cell_of_ans hb k4
        replace s0 := cell_of_ans hb s0
        replace s1 := cell_of_ans hb s1
        replace Hhl4 := Lib.hid (Hhl4.out.step hb)
        replace HB := Lib.hid (HB.out.trans (hb.mono HB.out.size))
        clear hb
        have Hhi4 := Lib.hid hi4
        clear hi4
        go_wp2_with fail
        refine (HC0.out _ _ _ _ _ Hhl4.out hc4 Hhi4.out ⟨hd4, he4⟩).mono ?_
        rintro e w6 ⟨rfl, hb⟩
        replace HL := Lib.hid (HL.out.step hb)
        replace HX := Lib.hid (HX.out.step hb)
        replace k0 := cell_of_ans hb k0
        replace k1 := cell_of_ans hb k1
        replace k2 := cell_of_ans hb k2
        replace k3 := cell_of_ans hb k3
        replace k4 := cell_of_ans hb k4
        replace s0 := cell_of_ans hb s0
        replace s1 := cell_of_ans hb s1
        replace Hhl4 := Lib.hid (Hhl4.out.step hb)
        replace Hhi4 := Lib.hid (Hhi4.out.step hb)
        replace HB := Lib.hid (HB.out.trans (hb.mono HB.out.size))
        clear hb
        clear Hhl4 Hhi4
        have ltk0 := World.block_lt_of_cell? _ _ k0
        dsimp only at ltk0
        have lts0 := World.block_lt_of_cell? _ _ s0
        dsimp only at lts0
        go_upto_region 4 with fail
        have hb : Below w6.heap.size w6 (w6.alloc (.cells #[.int .i64 a, .int .i64 b] 51)) := (Below.refl _ _).alloc (Nat.le_refl _) _
        replace HL := Lib.hid (HL.out.step hb)
        replace HX := Lib.hid (HX.out.step hb)
        replace k0 := cell_of_ans hb k0
        replace k1 := cell_of_ans hb k1
        replace k2 := cell_of_ans hb k2
        replace k3 := cell_of_ans hb k3
        replace k4 := cell_of_ans hb k4
        replace s0 := cell_of_ans hb s0
        replace s1 := cell_of_ans hb s1
        replace HB := Lib.hid (HB.out.trans (hb.mono HB.out.size))
        clear hb
        have l0 : (w6.alloc (.cells #[.int .i64 a, .int .i64 b] 51)).cell? ⟨w6.heap.size, 0, none⟩ = some (.int .i64 a) := by simp
        have l1 : (w6.alloc (.cells #[.int .i64 a, .int .i64 b] 51)).cell? ⟨w6.heap.size, 1, none⟩ = some (.int .i64 b) := by simp
        generalize (w6.alloc (.cells #[.int .i64 a, .int .i64 b] 51)) = w7 at *
        generalize w6.heap.size = nq at *
        go_wp2_with fail
        refine (rack18_c r A c _ HL.out hc hlen).mono ?_
        rintro e w8 ⟨A5, c5, rfl, ⟨hl5, hc5⟩, hb⟩
        replace HL := Lib.hid (HL.out.step hb)
        replace HX := Lib.hid (HX.out.step hb)
        replace k0 := cell_of_ans hb k0
        replace k1 := cell_of_ans hb k1
        replace k2 := cell_of_ans hb k2
        replace k3 := cell_of_ans hb k3
        replace k4 := cell_of_ans hb k4
        replace s0 := cell_of_ans hb s0
        replace s1 := cell_of_ans hb s1
        replace l0 := cell_of_ans hb l0
        replace l1 := cell_of_ans hb l1
        replace HB := Lib.hid (HB.out.trans (hb.mono HB.out.size))
        clear hb
        have Hhl5 := Lib.hid hl5
        clear hl5
        go_wp2_with fail
        refine (list_c xA xs cx _ HX.out hxl).mono ?_
        rintro e w9 ⟨B5, d5, rfl, ho5, hb⟩
        obtain ⟨hd5, he5, hi5⟩ := isInts_parts (ownsRow_isInts ho5)
        clear ho5
        replace HL := Lib.hid (HL.out.step hb)
        replace HX := Lib.hid (HX.out.step hb)
        replace k0 := cell_of_ans hb k0
        replace k1 := cell_of_ans hb k1
        replace k2 := cell_of_ans hb k2
        replace k3 := cell_of_ans hb k3
        replace k4 := cell_of_ans hb k4
        replace s0 := cell_of_ans hb s0
        replace s1 := cell_of_ans hb s1
        replace l0 := cell_of_ans hb l0
        replace l1 := cell_of_ans hb l1
        replace Hhl5 := Lib.hid (Hhl5.out.step hb)
        replace HB := Lib.hid (HB.out.trans (hb.mono HB.out.size))
        clear hb
        have Hhi5 := Lib.hid hi5
        clear hi5
        go_wp2_with fail
        refine (HC1.out _ _ _ _ _ Hhl5.out hc5 Hhi5.out ⟨hd5, he5⟩).mono ?_
        rintro e w10 ⟨rfl, hb⟩
        replace HL := Lib.hid (HL.out.step hb)
        replace HX := Lib.hid (HX.out.step hb)
        replace k0 := cell_of_ans hb k0
        replace k1 := cell_of_ans hb k1
        replace k2 := cell_of_ans hb k2
        replace k3 := cell_of_ans hb k3
        replace k4 := cell_of_ans hb k4
        replace s0 := cell_of_ans hb s0
        replace s1 := cell_of_ans hb s1
        replace l0 := cell_of_ans hb l0
        replace l1 := cell_of_ans hb l1
        replace Hhl5 := Lib.hid (Hhl5.out.step hb)
        replace Hhi5 := Lib.hid (Hhi5.out.step hb)
        replace HB := Lib.hid (HB.out.trans (hb.mono HB.out.size))
        clear hb
        clear Hhl5 Hhi5
        have ltl0 := World.block_lt_of_cell? _ _ l0
        dsimp only at ltl0
        go_upto_region 5 with fail
        have hb : Below w10.heap.size w10 (w10.alloc (.cells #[.int .i64 a2, .int .i64 b2] 51)) := (Below.refl _ _).alloc (Nat.le_refl _) _
        replace HL := Lib.hid (HL.out.step hb)
        replace HX := Lib.hid (HX.out.step hb)
        replace k0 := cell_of_ans hb k0
        replace k1 := cell_of_ans hb k1
        replace k2 := cell_of_ans hb k2
        replace k3 := cell_of_ans hb k3
        replace k4 := cell_of_ans hb k4
        replace s0 := cell_of_ans hb s0
        replace s1 := cell_of_ans hb s1
        replace l0 := cell_of_ans hb l0
        replace l1 := cell_of_ans hb l1
        replace HB := Lib.hid (HB.out.trans (hb.mono HB.out.size))
        clear hb
        generalize (w10.alloc (.cells #[.int .i64 a2, .int .i64 b2] 51)) = w11 at *
        generalize w10.heap.size = nq2 at *
        go_upto_region 7 with fail
        refine wp_region_noPanic ?_
        have hS : (fun W' : World => Below w11.heap.size w11 W') w11.drew := (Below.refl _ _).drew
        refine wp_region_any (by kernel_rfl) (wpAny_of_T (S := fun W' : World => Below w11.heap.size w11 W') (m := 23) _ _ _ _ ?_)
        refine' T_take (i := 0) (v := _) rfl (by kernel_rfl) (by kernel_rfl) (by kernel_rfl) (by kernel_rfl) (fun _ _ _ h => h) (by kernel_rfl) hS ?_ ?_
        rotate_left 1
        · intro Wv hW
          replace k0 := cell_of_ans hW k0
          replace k1 := cell_of_ans hW k1
          replace k2 := cell_of_ans hW k2
          replace k3 := cell_of_ans hW k3
          replace k4 := cell_of_ans hW k4
          replace l0 := cell_of_ans hW l0
          replace l1 := cell_of_ans hW l1
          go_simp
          first | done | with_reducible rfl | omega
        try simp only [Act.put, List.setIfInBounds_toArray, List.set_cons_zero, List.set_cons_succ]
        refine' T_take (i := 1) (v := _) rfl (by kernel_rfl) (by kernel_rfl) (by kernel_rfl) (by kernel_rfl) (fun _ _ _ h => h) (by kernel_rfl) hS ?_ ?_
        rotate_left 1
        · intro Wv hW
          replace k0 := cell_of_ans hW k0
          replace k1 := cell_of_ans hW k1
          replace k2 := cell_of_ans hW k2
          replace k3 := cell_of_ans hW k3
          replace k4 := cell_of_ans hW k4
          replace l0 := cell_of_ans hW l0
          replace l1 := cell_of_ans hW l1
          go_simp
          first | done | with_reducible rfl | omega
        try simp only [Act.put, List.setIfInBounds_toArray, List.set_cons_zero, List.set_cons_succ]
        refine' T_take (i := 2) (v := .bool false) rfl (by kernel_rfl) (by kernel_rfl) (by kernel_rfl) (by kernel_rfl) (fun _ _ _ h => h) (by kernel_rfl) hS ?_ ?_
        skip
        · intro Wv hW
          replace k0 := cell_of_ans hW k0
          replace k1 := cell_of_ans hW k1
          replace k2 := cell_of_ans hW k2
          replace k3 := cell_of_ans hW k3
          replace k4 := cell_of_ans hW k4
          replace l0 := cell_of_ans hW l0
          replace l1 := cell_of_ans hW l1
          go_simp
          first | done | with_reducible rfl | omega
        try simp only [Act.put, List.setIfInBounds_toArray, List.set_cons_zero, List.set_cons_succ]
        refine' T_take (i := 3) (v := _) rfl (by kernel_rfl) (by kernel_rfl) (by kernel_rfl) (by kernel_rfl) (fun _ _ _ h => h) (by kernel_rfl) hS ?_ ?_
        rotate_left 1
        · intro Wv hW
          replace k0 := cell_of_ans hW k0
          replace k1 := cell_of_ans hW k1
          replace k2 := cell_of_ans hW k2
          replace k3 := cell_of_ans hW k3
          replace k4 := cell_of_ans hW k4
          replace l0 := cell_of_ans hW l0
          replace l1 := cell_of_ans hW l1
          go_simp
          first | done | with_reducible rfl | omega
        try simp only [Act.put, List.setIfInBounds_toArray, List.set_cons_zero, List.set_cons_succ]
        refine' T_take (i := 5) (v := _) rfl (by kernel_rfl) (by kernel_rfl) (by kernel_rfl) (by kernel_rfl) (fun _ _ _ h => h) (by kernel_rfl) hS ?_ ?_
        rotate_left 1
        · intro Wv hW
          replace k0 := cell_of_ans hW k0
          replace k1 := cell_of_ans hW k1
          replace k2 := cell_of_ans hW k2
          replace k3 := cell_of_ans hW k3
          replace k4 := cell_of_ans hW k4
          replace l0 := cell_of_ans hW l0
          replace l1 := cell_of_ans hW l1
          go_simp
          first | done | with_reducible rfl | omega
        try simp only [Act.put, List.setIfInBounds_toArray, List.set_cons_zero, List.set_cons_succ]
        refine' T_take (i := 7) (v := _) rfl (by kernel_rfl) (by kernel_rfl) (by kernel_rfl) (by kernel_rfl) (fun _ _ _ h => h) (by kernel_rfl) hS ?_ ?_
        rotate_left 1
        · intro Wv hW
          replace k0 := cell_of_ans hW k0
          replace k1 := cell_of_ans hW k1
          replace k2 := cell_of_ans hW k2
          replace k3 := cell_of_ans hW k3
          replace k4 := cell_of_ans hW k4
          replace l0 := cell_of_ans hW l0
          replace l1 := cell_of_ans hW l1
          go_simp
          first | done | with_reducible rfl | omega
        try simp only [Act.put, List.setIfInBounds_toArray, List.set_cons_zero, List.set_cons_succ]
        refine T_ready (rs := [4]) (by kernel_rfl) (by simp) ?_
        refine TReady.cons rfl (fun K hK => ?_) TReady.nil
        try go_simp
        refine (rack18_c r A c _ (HL.out.step hS) hc hlen).mono ?_
        rintro e v1 ⟨A6, c6, rfl, ⟨hl6, hc6⟩, hb⟩
        have hS2 : Below w11.heap.size w11 v1 := below_cat hb hS
        have Hhl6 := Lib.hid hl6
        clear hl6
        try go_simp
        refine hK.out _ _ (fun _ => hS2) (fun _ => ?_)
        clear hK K hS hb
        replace hS := hS2
        clear hS2
        try simp only [Act.put, List.setIfInBounds_toArray, List.set_cons_zero, List.set_cons_succ]
        refine T_ready (rs := [6]) (by kernel_rfl) (by simp) ?_
        refine TReady.cons rfl (fun K hK => ?_) TReady.nil
        try go_simp
        refine (list_c xA xs cx _ (HX.out.step hS) hxl).mono ?_
        rintro e v2 ⟨B6, d6, rfl, ho6, hb⟩
        have hS2 : Below w11.heap.size w11 v2 := below_cat hb hS
        obtain ⟨hd6, he6, hi6⟩ := isInts_parts (ownsRow_isInts ho6)
        have Hhi6 := Lib.hid hi6
        clear hi6 ho6
        replace Hhl6 := Lib.hid (Hhl6.out.step hb)
        try go_simp
        refine hK.out _ _ (fun _ => hS2) (fun _ => ?_)
        clear hK K hS hb
        replace hS := hS2
        clear hS2
        try simp only [Act.put, List.setIfInBounds_toArray, List.set_cons_zero, List.set_cons_succ]
        refine T_ready (rs := [8]) (by kernel_rfl) (by simp) ?_
        refine TReady.cons rfl (fun K hK => ?_) TReady.nil
        try go_simp
        refine (HPV.out _ _ _ _ _ Hhl6.out hc6 Hhi6.out ⟨hd6, he6⟩).mono ?_
        rintro e v3 ⟨rfl, hb⟩
        have hS2 : Below w11.heap.size w11 v3 := below_cat hb hS
        clear Hhl6 Hhi6
        try go_simp
        refine hK.out _ _ (fun _ => hS2) (fun _ => ?_)
        clear hK K hS hb
        replace hS := hS2
        clear hS2
        try simp only [Act.put, List.setIfInBounds_toArray, List.set_cons_zero, List.set_cons_succ]
        refine' T_take (i := 9) (v := _) rfl (by kernel_rfl) (by kernel_rfl) (by kernel_rfl) (by kernel_rfl) (fun _ _ _ h => h) (by kernel_rfl) hS ?_ ?_
        rotate_left 1
        · intro Wv hW
          replace k0 := cell_of_ans hW k0
          replace k1 := cell_of_ans hW k1
          replace k2 := cell_of_ans hW k2
          replace k3 := cell_of_ans hW k3
          replace k4 := cell_of_ans hW k4
          replace l0 := cell_of_ans hW l0
          replace l1 := cell_of_ans hW l1
          go_simp
          first | done | with_reducible rfl | omega
        try simp only [Act.put, List.setIfInBounds_toArray, List.set_cons_zero, List.set_cons_succ]
        refine' T_take (i := 10) (v := _) rfl (by kernel_rfl) (by kernel_rfl) (by kernel_rfl) (by kernel_rfl) (fun _ _ _ h => h) (by kernel_rfl) hS ?_ ?_
        rotate_left 1
        · intro Wv hW
          replace k0 := cell_of_ans hW k0
          replace k1 := cell_of_ans hW k1
          replace k2 := cell_of_ans hW k2
          replace k3 := cell_of_ans hW k3
          replace k4 := cell_of_ans hW k4
          replace l0 := cell_of_ans hW l0
          replace l1 := cell_of_ans hW l1
          go_simp
          first | done | with_reducible rfl | omega
        try simp only [Act.put, List.setIfInBounds_toArray, List.set_cons_zero, List.set_cons_succ]
        refine' T_take (i := 11) (v := .bool false) rfl (by kernel_rfl) (by kernel_rfl) (by kernel_rfl) (by kernel_rfl) (fun _ _ _ h => h) (by kernel_rfl) hS ?_ ?_
        skip
        · intro Wv hW
          replace k0 := cell_of_ans hW k0
          replace k1 := cell_of_ans hW k1
          replace k2 := cell_of_ans hW k2
          replace k3 := cell_of_ans hW k3
          replace k4 := cell_of_ans hW k4
          replace l0 := cell_of_ans hW l0
          replace l1 := cell_of_ans hW l1
          go_simp
          first | done | with_reducible rfl | omega
        try simp only [Act.put, List.setIfInBounds_toArray, List.set_cons_zero, List.set_cons_succ]
        refine' T_take (i := 12) (v := _) rfl (by kernel_rfl) (by kernel_rfl) (by kernel_rfl) (by kernel_rfl) (fun _ _ _ h => h) (by kernel_rfl) hS ?_ ?_
        rotate_left 1
        · intro Wv hW
          replace k0 := cell_of_ans hW k0
          replace k1 := cell_of_ans hW k1
          replace k2 := cell_of_ans hW k2
          replace k3 := cell_of_ans hW k3
          replace k4 := cell_of_ans hW k4
          replace l0 := cell_of_ans hW l0
          replace l1 := cell_of_ans hW l1
          go_simp
          first | done | with_reducible rfl | omega
        try simp only [Act.put, List.setIfInBounds_toArray, List.set_cons_zero, List.set_cons_succ]
        refine' T_take (i := 13) (v := _) rfl (by kernel_rfl) (by kernel_rfl) (by kernel_rfl) (by kernel_rfl) (fun _ _ _ h => h) (by kernel_rfl) hS ?_ ?_
        rotate_left 1
        · intro Wv hW
          replace k0 := cell_of_ans hW k0
          replace k1 := cell_of_ans hW k1
          replace k2 := cell_of_ans hW k2
          replace k3 := cell_of_ans hW k3
          replace k4 := cell_of_ans hW k4
          replace l0 := cell_of_ans hW l0
          replace l1 := cell_of_ans hW l1
          go_simp
          first | done | with_reducible rfl | omega
        try simp only [Act.put, List.setIfInBounds_toArray, List.set_cons_zero, List.set_cons_succ]
        refine T_ready (rs := [14]) (by kernel_rfl) (by simp) ?_
        refine TReady.cons rfl (fun K hK => ?_) TReady.nil
        try go_simp
        refine (HI1.out _).mono ?_
        rintro e v3 ⟨rfl, rfl⟩
        try go_simp
        refine hK.out _ _ (fun _ => hS) (fun _ => ?_)
        clear hK K
        try simp only [Act.put, List.setIfInBounds_toArray, List.set_cons_zero, List.set_cons_succ]
        refine' T_take (i := 15) (v := _) rfl (by kernel_rfl) (by kernel_rfl) (by kernel_rfl) (by kernel_rfl) (fun _ _ _ h => h) (by kernel_rfl) hS ?_ ?_
        rotate_left 1
        · intro Wv hW
          replace k0 := cell_of_ans hW k0
          replace k1 := cell_of_ans hW k1
          replace k2 := cell_of_ans hW k2
          replace k3 := cell_of_ans hW k3
          replace k4 := cell_of_ans hW k4
          replace l0 := cell_of_ans hW l0
          replace l1 := cell_of_ans hW l1
          go_simp
          first | done | with_reducible rfl | omega
        try simp only [Act.put, List.setIfInBounds_toArray, List.set_cons_zero, List.set_cons_succ]
        refine' T_take (i := 16) (v := _) rfl (by kernel_rfl) (by kernel_rfl) (by kernel_rfl) (by kernel_rfl) (fun _ _ _ h => h) (by kernel_rfl) hS ?_ ?_
        rotate_left 1
        · intro Wv hW
          replace k0 := cell_of_ans hW k0
          replace k1 := cell_of_ans hW k1
          replace k2 := cell_of_ans hW k2
          replace k3 := cell_of_ans hW k3
          replace k4 := cell_of_ans hW k4
          replace l0 := cell_of_ans hW l0
          replace l1 := cell_of_ans hW l1
          go_simp
          first | done | with_reducible rfl | omega
        try simp only [Act.put, List.setIfInBounds_toArray, List.set_cons_zero, List.set_cons_succ]
        refine' T_take (i := 17) (v := .bool false) rfl (by kernel_rfl) (by kernel_rfl) (by kernel_rfl) (by kernel_rfl) (fun _ _ _ h => h) (by kernel_rfl) hS ?_ ?_
        skip
        · intro Wv hW
          replace k0 := cell_of_ans hW k0
          replace k1 := cell_of_ans hW k1
          replace k2 := cell_of_ans hW k2
          replace k3 := cell_of_ans hW k3
          replace k4 := cell_of_ans hW k4
          replace l0 := cell_of_ans hW l0
          replace l1 := cell_of_ans hW l1
          go_simp
          first | done | with_reducible rfl | omega
        try simp only [Act.put, List.setIfInBounds_toArray, List.set_cons_zero, List.set_cons_succ]
        refine' T_take (i := 18) (v := _) rfl (by kernel_rfl) (by kernel_rfl) (by kernel_rfl) (by kernel_rfl) (fun _ _ _ h => h) (by kernel_rfl) hS ?_ ?_
        rotate_left 1
        · intro Wv hW
          replace k0 := cell_of_ans hW k0
          replace k1 := cell_of_ans hW k1
          replace k2 := cell_of_ans hW k2
          replace k3 := cell_of_ans hW k3
          replace k4 := cell_of_ans hW k4
          replace l0 := cell_of_ans hW l0
          replace l1 := cell_of_ans hW l1
          go_simp
          first | done | with_reducible rfl | omega
        try simp only [Act.put, List.setIfInBounds_toArray, List.set_cons_zero, List.set_cons_succ]
        refine' T_take (i := 19) (v := _) rfl (by kernel_rfl) (by kernel_rfl) (by kernel_rfl) (by kernel_rfl) (fun _ _ _ h => h) (by kernel_rfl) hS ?_ ?_
        rotate_left 1
        · intro Wv hW
          replace k0 := cell_of_ans hW k0
          replace k1 := cell_of_ans hW k1
          replace k2 := cell_of_ans hW k2
          replace k3 := cell_of_ans hW k3
          replace k4 := cell_of_ans hW k4
          replace l0 := cell_of_ans hW l0
          replace l1 := cell_of_ans hW l1
          go_simp
          first | done | with_reducible rfl | omega
        try simp only [Act.put, List.setIfInBounds_toArray, List.set_cons_zero, List.set_cons_succ]
        refine T_ready (rs := [20]) (by kernel_rfl) (by simp) ?_
        refine TReady.cons rfl (fun K hK => ?_) TReady.nil
        try go_simp
        refine (HI2.out _).mono ?_
        rintro e v3 ⟨rfl, rfl⟩
        try go_simp
        refine hK.out _ _ (fun _ => hS) (fun _ => ?_)
        clear hK K
        try simp only [Act.put, List.setIfInBounds_toArray, List.set_cons_zero, List.set_cons_succ]
        refine' T_take (i := 21) (v := _) rfl (by kernel_rfl) (by kernel_rfl) (by kernel_rfl) (by kernel_rfl) (fun _ _ _ h => h) (by kernel_rfl) hS ?_ ?_
        rotate_left 1
        · intro Wv hW
          replace k0 := cell_of_ans hW k0
          replace k1 := cell_of_ans hW k1
          replace k2 := cell_of_ans hW k2
          replace k3 := cell_of_ans hW k3
          replace k4 := cell_of_ans hW k4
          replace l0 := cell_of_ans hW l0
          replace l1 := cell_of_ans hW l1
          go_simp
          first | done | with_reducible rfl | omega
        try simp only [Act.put, List.setIfInBounds_toArray, List.set_cons_zero, List.set_cons_succ]
        refine' T_take (i := 22) (v := _) rfl (by kernel_rfl) (by kernel_rfl) (by kernel_rfl) (by kernel_rfl) (fun _ _ _ h => h) (by kernel_rfl) hS ?_ ?_
        rotate_left 1
        · intro Wv hW
          replace k0 := cell_of_ans hW k0
          replace k1 := cell_of_ans hW k1
          replace k2 := cell_of_ans hW k2
          replace k3 := cell_of_ans hW k3
          replace k4 := cell_of_ans hW k4
          replace l0 := cell_of_ans hW l0
          replace l1 := cell_of_ans hW l1
          go_simp
          first | done | with_reducible rfl | omega
        try simp only [Act.put, List.setIfInBounds_toArray, List.set_cons_zero, List.set_cons_succ]
        refine T_done (by kernel_rfl) ?_ _
        refine NoPanic.normal ?_
        try go_simp
        have hb := hS
        clear hS
        replace HL := Lib.hid (HL.out.step hb)
        replace HX := Lib.hid (HX.out.step hb)
        replace k0 := cell_of_ans hb k0
        replace k1 := cell_of_ans hb k1
        replace k2 := cell_of_ans hb k2
        replace k3 := cell_of_ans hb k3
        replace k4 := cell_of_ans hb k4
        replace s0 := cell_of_ans hb s0
        replace s1 := cell_of_ans hb s1
        replace l0 := cell_of_ans hb l0
        replace l1 := cell_of_ans hb l1
        replace HB := Lib.hid (HB.out.trans (hb.mono HB.out.size))
        clear hb
        have ltl0 := World.block_lt_of_cell? _ _ l0
        dsimp only at ltl0
        go_wp2_with fail
        go_loopw [13, 14, 15, 16] (fun o on i n wr => ∃ k : Nat, k ≤ r.rows.toNat ∧ i = .int .i64 k ∧ on = .bool (onB a b k) ∧ OwnG 44 v3.heap.size wr o (strG a b k) ∧ Below v3.heap.size v3 wr) (fun _ _ i _ _ => r.rows.toNat - (intOf i).toNat)
        case atStart => exact ⟨0, by omega, rfl, rfl, OwnG.nil _ _ _, Below.refl _ _⟩
        case round =>
          obtain ⟨k, hk, rfl, rfl, hO, hbr⟩ := hrel
          have HO := Lib.hid hO
          have HBr := Lib.hid hbr
          obtain ⟨Ao, co, rfl⟩ := hO.form
          have hwr : v3.heap.size ≤ wr.heap.size := hbr.size
          have hol := strG_len a b k
          by_cases hk1 : k < r.rows.toNat
          · have hki : (k : Int) < r.rows := by omega
            have t0 := cell_of_ans hbr k0
            have u0 := cell_of_ans hbr l0
            have u1 := cell_of_ans hbr l1
            have hmd : -9 ≤ (k : Int) * b ∧ (k : Int) * b ≤ 9 := by
              rcases (by omega : k = 0 ∨ k = 1 ∨ k = 2 ∨ k = 3) with rfl | rfl | rfl | rfl <;> simp <;> omega
            have hw1 : wrap64 ((k : Int) * b) = (k : Int) * b := IntWalk.wrap64_in _ (by omega)
            have hw2 : wrap64 (a + (k : Int) * b) = a + (k : Int) * b := IntWalk.wrap64_in _ (by omega)
            have HT := Lib.hid (strG_succ a b k)
            have HT2 := Lib.hid (onB_succ a b k)
            have hgl : (strG a b k).length ≤ 1000000 := by omega
            clear hO hbr hmd hol
            generalize strG a b k = os at *
            cases eo : onB a b k
            · rw [eo] at HT2
              clear eo
              go_upto_region 15 with fail
              rw [hw2]
              go_wp2_with (at_builtin; refine wpList_appG (t := 42) (e := 44) (.inl ⟨rfl, rfl⟩) (.tmp 118) (.tmp 122) rfl rfl v3.heap.size _ _ os ⟨a + (k : Int) * b, a + (k : Int) * b⟩ rfl rfl HO hgl hwr ?_; intro A2 c2 wn HO2 HB2)
              go_roundw
              case rel => exact ⟨k + 1, by omega, by go_num, by rw [HT2.out]; rfl, by rw [HT.out]; exact HO2.out, HBr.out.trans HB2.out⟩
              case measure => simp [intOf]; omega
            · rw [eo] at HT2
              clear eo
              go_upto_region 15 with fail
              rw [hw2]
              go_wp2_with (first | (go_at_call 27; refine (in_c _ _ _ _).mono ?_; rintro e w1 ⟨rfl, rfl⟩) | (at_builtin; refine wpList_appG (t := 42) (e := 44) (.inl ⟨rfl, rfl⟩) (.tmp 118) (.tmp 122) rfl rfl v3.heap.size _ _ os ⟨a + (k : Int) * b, a + (k : Int) * b⟩ rfl rfl HO hgl hwr ?_; intro A2 c2 wn HO2 HB2))
              go_roundw
              case rel => exact ⟨k + 1, by omega, by go_num, by rw [HT2.out]; rfl, by rw [HT.out]; exact HO2.out, HBr.out.trans HB2.out⟩
              case measure => simp [intOf]; omega
          · obtain rfl : k = r.rows.toNat := by omega
            have hki : ¬ (r.rows.toNat : Int) < r.rows := by omega
            have t0 := cell_of_ans hbr k0
            clear hO hol
            have hb := hbr
            clear HBr hbr
            replace HL := Lib.hid (HL.out.step hb)
            replace HX := Lib.hid (HX.out.step hb)
            replace k0 := cell_of_ans hb k0
            replace k1 := cell_of_ans hb k1
            replace k2 := cell_of_ans hb k2
            replace k3 := cell_of_ans hb k3
            replace k4 := cell_of_ans hb k4
            replace s0 := cell_of_ans hb s0
            replace s1 := cell_of_ans hb s1
            replace l0 := cell_of_ans hb l0
            replace l1 := cell_of_ans hb l1
            replace HB := Lib.hid (HB.out.trans (hb.mono HB.out.size))
            clear hb
            clear t0
            cases eo : onB a b r.rows.toNat
            · clear eo HON HO
              go_wp2_with fail
              generalize wr = wq at *
              go_loopw [20, 21] (fun o i wr => ∃ k : Nat, k ≤ xs.length ∧ i = .int .i64 k ∧ OwnI wq.heap.size wr o (fewT xs bi k) ∧ Below wq.heap.size wq wr) (fun _ i _ => xs.length - (intOf i).toNat)
              case atStart => exact ⟨0, by omega, rfl, OwnI.nil _ _, Below.refl _ _⟩
              case round =>
                obtain ⟨k, hk, rfl, ho, hb⟩ := hrel
                have HO := Lib.hid ho
                have HBr := Lib.hid hb
                obtain ⟨Ao, co, rfl⟩ := ho.form
                clear ho
                by_cases h1 : k < xs.length
                · have hwr : wq.heap.size ≤ wr.heap.size := hb.size
                  have hk15 : k < 15 := by omega
                  have hbt := bit_test bi k
                  have hfk := fewT_len xs bi k
                  have hb16 : (bi : Int) / 2 ^ k ≤ 65535 := by
                    have : (bi : Int) / 2 ^ k = ((bi / 2 ^ k : Nat) : Int) := by simp
                    rw [this]
                    have := Nat.div_le_self bi (2 ^ k)
                    omega
                  have HT : Hid (fewT xs bi (k + 1) = if bi.testBit k then fewT xs bi k ++ [ix xs k] else fewT xs bi k) := rfl
                  have HX2 := Lib.hid (HX.out.below hb)
                  obtain ⟨b5, off, rfl, _, hcell⟩ := HX2.out.at_ h1
                  clear hb
                  generalize fewT xs bi k = os at *
                  generalize ix xs k = x at *
                  cases e1 : bi.testBit k
                  · rw [e1] at HT hbt
                    go_wp2_with fail
                    go_roundw
                    case rel => exact ⟨k + 1, by omega, by go_num, by rw [HT.out]; exact HO.out, HBr.out⟩
                    case measure => simp [intOf]; omega
                  · rw [e1] at HT hbt
                    go_wp2_with (at_builtin; refine wpList_app_int (.tmp 155) (.tmp 160) rfl rfl wq.heap.size _ _ os x rfl rfl HO (by omega) hwr ?_; intro A2 c2 wn HO2 HB2)
                    go_roundw
                    case rel => exact ⟨k + 1, by omega, by go_num, by rw [HT.out]; exact HO2.out, HBr.out.trans HB2.out⟩
                    case measure => simp [intOf]; omega
                · obtain rfl : k = xs.length := by omega
                  have hfl := fewT_len xs bi xs.length
                  generalize fewT xs bi xs.length = fw at *
                  clear HBr
                  replace HL := Lib.hid (HL.out.step hb)
                  replace HX := Lib.hid (HX.out.step hb)
                  replace k0 := cell_of_ans hb k0
                  replace k1 := cell_of_ans hb k1
                  replace k2 := cell_of_ans hb k2
                  replace k3 := cell_of_ans hb k3
                  replace k4 := cell_of_ans hb k4
                  replace s0 := cell_of_ans hb s0
                  replace s1 := cell_of_ans hb s1
                  replace l0 := cell_of_ans hb l0
                  replace l1 := cell_of_ans hb l1
                  replace HB := Lib.hid (HB.out.trans (hb.mono HB.out.size))
                  clear hb
                  obtain ⟨hcf1, hcf2, hff⟩ := isInts_parts HO.out.isInts
                  have HF := Lib.hid hff
                  clear hff HO
                  have hfl2 : fw.length ≤ 1000000 := by omega
                  clear hfl
                  by_cases h0 : r.links.length = 0
                  · have hgt : decide ((0 : Int) < (r.links.length : Int)) = false := decide_eq_false (by omega)
                    have hnl : (r.links = []) = True := eq_true (List.eq_nil_of_length_eq_zero h0)
                    have HPF := Lib.hid (fun (A4 : Option Addr) (c4 : Nat) (W : World) h1 h2 h3 => (show Calls Try.prog 25 #[.agg #[.int .i64 r.rows, .int .i64 r.mid, .int .i64 r.gap, .int .i64 r.reach, .slice A4 r.links.length c4], .slice Ao fw.length co, .agg #[.int .i64 a, .int .i64 b]] W (Ans W (.bool true)) from by have h := prove_c r A4 Ao c4 co fw a b W h1 h2 h3 ⟨hcf1, hcf2⟩; rwa [HFW.out h0] at h))
                    clear h0 HFW
                    go_upto_region 27 with fail
                    refine wp_region_noPanic ?_
                    have hS : (fun W' : World => Below wr.heap.size wr W') wr.drew := (Below.refl _ _).drew
                    refine wp_region_any (by kernel_rfl) (wpAny_of_T (S := fun W' : World => Below wr.heap.size wr W') (m := 15) _ _ _ _ ?_)
                    refine' T_take (i := 0) (v := _) rfl (by kernel_rfl) (by kernel_rfl) (by kernel_rfl) (by kernel_rfl) (fun _ _ _ h => h) (by kernel_rfl) hS ?_ ?_
                    rotate_left 1
                    · intro Wv hW
                      replace k0 := cell_of_ans hW k0
                      replace k1 := cell_of_ans hW k1
                      replace k2 := cell_of_ans hW k2
                      replace k3 := cell_of_ans hW k3
                      replace k4 := cell_of_ans hW k4
                      replace l0 := cell_of_ans hW l0
                      replace l1 := cell_of_ans hW l1
                      go_simp
                      first | done | with_reducible rfl | omega
                    try simp only [Act.put, List.setIfInBounds_toArray, List.set_cons_zero, List.set_cons_succ]
                    refine' T_take (i := 1) (v := _) rfl (by kernel_rfl) (by kernel_rfl) (by kernel_rfl) (by kernel_rfl) (fun _ _ _ h => h) (by kernel_rfl) hS ?_ ?_
                    rotate_left 1
                    · intro Wv hW
                      replace k0 := cell_of_ans hW k0
                      replace k1 := cell_of_ans hW k1
                      replace k2 := cell_of_ans hW k2
                      replace k3 := cell_of_ans hW k3
                      replace k4 := cell_of_ans hW k4
                      replace l0 := cell_of_ans hW l0
                      replace l1 := cell_of_ans hW l1
                      go_simp
                      first | done | with_reducible rfl | omega
                    try simp only [Act.put, List.setIfInBounds_toArray, List.set_cons_zero, List.set_cons_succ]
                    refine' T_take (i := 2) (v := _) rfl (by kernel_rfl) (by kernel_rfl) (by kernel_rfl) (by kernel_rfl) (fun _ _ _ h => h) (by kernel_rfl) hS ?_ ?_
                    rotate_left 1
                    · intro Wv hW
                      replace k0 := cell_of_ans hW k0
                      replace k1 := cell_of_ans hW k1
                      replace k2 := cell_of_ans hW k2
                      replace k3 := cell_of_ans hW k3
                      replace k4 := cell_of_ans hW k4
                      replace l0 := cell_of_ans hW l0
                      replace l1 := cell_of_ans hW l1
                      go_simp
                      first | done | with_reducible rfl | omega
                    try simp only [Act.put, List.setIfInBounds_toArray, List.set_cons_zero, List.set_cons_succ]
                    refine' T_take (i := 3) (v := _) rfl (by kernel_rfl) (by kernel_rfl) (by kernel_rfl) (by kernel_rfl) (fun _ _ _ h => h) (by kernel_rfl) hS ?_ ?_
                    rotate_left 1
                    · intro Wv hW
                      replace k0 := cell_of_ans hW k0
                      replace k1 := cell_of_ans hW k1
                      replace k2 := cell_of_ans hW k2
                      replace k3 := cell_of_ans hW k3
                      replace k4 := cell_of_ans hW k4
                      replace l0 := cell_of_ans hW l0
                      replace l1 := cell_of_ans hW l1
                      go_simp
                      first | done | with_reducible rfl | omega
                    try simp only [Act.put, List.setIfInBounds_toArray, List.set_cons_zero, List.set_cons_succ]
                    refine' T_take (i := 4) (v := .bool false) rfl (by kernel_rfl) (by kernel_rfl) (by kernel_rfl) (by kernel_rfl) (fun _ _ _ h => h) (by kernel_rfl) hS ?_ ?_
                    skip
                    · intro Wv hW
                      replace k0 := cell_of_ans hW k0
                      replace k1 := cell_of_ans hW k1
                      replace k2 := cell_of_ans hW k2
                      replace k3 := cell_of_ans hW k3
                      replace k4 := cell_of_ans hW k4
                      replace l0 := cell_of_ans hW l0
                      replace l1 := cell_of_ans hW l1
                      go_simp
                      first | done | with_reducible rfl | omega
                    try simp only [Act.put, List.setIfInBounds_toArray, List.set_cons_zero, List.set_cons_succ]
                    refine' T_take (i := 5) (v := _) rfl (by kernel_rfl) (by kernel_rfl) (by kernel_rfl) (by kernel_rfl) (fun _ _ _ h => h) (by kernel_rfl) hS ?_ ?_
                    rotate_left 1
                    · intro Wv hW
                      replace k0 := cell_of_ans hW k0
                      replace k1 := cell_of_ans hW k1
                      replace k2 := cell_of_ans hW k2
                      replace k3 := cell_of_ans hW k3
                      replace k4 := cell_of_ans hW k4
                      replace l0 := cell_of_ans hW l0
                      replace l1 := cell_of_ans hW l1
                      go_simp
                      first | done | with_reducible rfl | omega
                    try simp only [Act.put, List.setIfInBounds_toArray, List.set_cons_zero, List.set_cons_succ]
                    refine' T_take (i := 7) (v := _) rfl (by kernel_rfl) (by kernel_rfl) (by kernel_rfl) (by kernel_rfl) (fun _ _ _ h => h) (by kernel_rfl) hS ?_ ?_
                    rotate_left 1
                    · intro Wv hW
                      replace k0 := cell_of_ans hW k0
                      replace k1 := cell_of_ans hW k1
                      replace k2 := cell_of_ans hW k2
                      replace k3 := cell_of_ans hW k3
                      replace k4 := cell_of_ans hW k4
                      replace l0 := cell_of_ans hW l0
                      replace l1 := cell_of_ans hW l1
                      go_simp
                      first | done | with_reducible rfl | omega
                    try simp only [Act.put, List.setIfInBounds_toArray, List.set_cons_zero, List.set_cons_succ]
                    refine' T_take (i := 8) (v := _) rfl (by kernel_rfl) (by kernel_rfl) (by kernel_rfl) (by kernel_rfl) (fun _ _ _ h => h) (by kernel_rfl) hS ?_ ?_
                    rotate_left 1
                    · intro Wv hW
                      replace k0 := cell_of_ans hW k0
                      replace k1 := cell_of_ans hW k1
                      replace k2 := cell_of_ans hW k2
                      replace k3 := cell_of_ans hW k3
                      replace k4 := cell_of_ans hW k4
                      replace l0 := cell_of_ans hW l0
                      replace l1 := cell_of_ans hW l1
                      go_simp
                      first | done | with_reducible rfl | omega
                    try simp only [Act.put, List.setIfInBounds_toArray, List.set_cons_zero, List.set_cons_succ]
                    refine T_ready (rs := [6]) (by kernel_rfl) (by simp) ?_
                    refine TReady.cons rfl (fun K hK => ?_) TReady.nil
                    try go_simp
                    refine (rack18_c r A c _ (HL.out.step hS) hc hlen).mono ?_
                    rintro e z1 ⟨A9, c9, rfl, ⟨hl9, hc9⟩, hb⟩
                    have hS2 : Below wr.heap.size wr z1 := below_cat hb hS
                    have Hhl9 := Lib.hid hl9
                    clear hl9
                    try go_simp
                    refine hK.out _ _ (fun _ => hS2) (fun _ => ?_)
                    clear hK K hS hb
                    replace hS := hS2
                    clear hS2
                    try simp only [Act.put, List.setIfInBounds_toArray, List.set_cons_zero, List.set_cons_succ]
                    refine T_ready (rs := [9]) (by kernel_rfl) (by simp) ?_
                    refine TReady.cons rfl (fun K hK => ?_) TReady.nil
                    try go_simp
                    refine (HPF.out _ _ _ Hhl9.out hc9 (HF.out.step hS)).mono ?_
                    rintro e z2 ⟨rfl, hb⟩
                    have hS2 : Below wr.heap.size wr z2 := below_cat hb hS
                    clear Hhl9
                    try go_simp
                    refine hK.out _ _ (fun _ => hS2) (fun _ => ?_)
                    clear hK K hS hb
                    replace hS := hS2
                    clear hS2
                    try simp only [Act.put, List.setIfInBounds_toArray, List.set_cons_zero, List.set_cons_succ]
                    refine' T_take (i := 10) (v := _) rfl (by kernel_rfl) (by kernel_rfl) (by kernel_rfl) (by kernel_rfl) (fun _ _ _ h => h) (by kernel_rfl) hS ?_ ?_
                    rotate_left 1
                    · intro Wv hW
                      replace k0 := cell_of_ans hW k0
                      replace k1 := cell_of_ans hW k1
                      replace k2 := cell_of_ans hW k2
                      replace k3 := cell_of_ans hW k3
                      replace k4 := cell_of_ans hW k4
                      replace l0 := cell_of_ans hW l0
                      replace l1 := cell_of_ans hW l1
                      go_simp
                      first | done | with_reducible rfl | omega
                    try simp only [Act.put, List.setIfInBounds_toArray, List.set_cons_zero, List.set_cons_succ]
                    refine' T_take (i := 11) (v := .bool true) rfl (by kernel_rfl) (by kernel_rfl) (by kernel_rfl) (by kernel_rfl) (fun _ _ _ h => h) (by kernel_rfl) hS ?_ ?_
                    skip
                    · intro Wv hW
                      replace k0 := cell_of_ans hW k0
                      replace k1 := cell_of_ans hW k1
                      replace k2 := cell_of_ans hW k2
                      replace k3 := cell_of_ans hW k3
                      replace k4 := cell_of_ans hW k4
                      replace l0 := cell_of_ans hW l0
                      replace l1 := cell_of_ans hW l1
                      go_simp
                      first | done | with_reducible rfl | omega
                    try simp only [Act.put, List.setIfInBounds_toArray, List.set_cons_zero, List.set_cons_succ]
                    refine T_ready (rs := [12]) (by kernel_rfl) (by simp) ?_
                    refine TReady.cons rfl (fun K hK => ?_) TReady.nil
                    try go_simp
                    refine (awake16_c _).mono ?_
                    rintro e wz ⟨rfl, hb⟩
                    have hS2 : Below wr.heap.size wr wz := below_cat hb hS
                    try go_simp
                    refine hK.out _ _ (fun _ => hS2) (fun _ => ?_)
                    clear hK K hS hb
                    replace hS := hS2
                    clear hS2
                    try simp only [Act.put, List.setIfInBounds_toArray, List.set_cons_zero, List.set_cons_succ]
                    refine' T_take (i := 13) (v := _) rfl (by kernel_rfl) (by kernel_rfl) (by kernel_rfl) (by kernel_rfl) (fun _ _ _ h => h) (by kernel_rfl) hS ?_ ?_
                    rotate_left 1
                    · intro Wv hW
                      replace k0 := cell_of_ans hW k0
                      replace k1 := cell_of_ans hW k1
                      replace k2 := cell_of_ans hW k2
                      replace k3 := cell_of_ans hW k3
                      replace k4 := cell_of_ans hW k4
                      replace l0 := cell_of_ans hW l0
                      replace l1 := cell_of_ans hW l1
                      go_simp
                      first | done | with_reducible rfl | omega
                    try simp only [Act.put, List.setIfInBounds_toArray, List.set_cons_zero, List.set_cons_succ]
                    refine' T_take (i := 14) (v := _) rfl (by kernel_rfl) (by kernel_rfl) (by kernel_rfl) (by kernel_rfl) (fun _ _ _ h => h) (by kernel_rfl) hS ?_ ?_
                    rotate_left 1
                    · intro Wv hW
                      replace k0 := cell_of_ans hW k0
                      replace k1 := cell_of_ans hW k1
                      replace k2 := cell_of_ans hW k2
                      replace k3 := cell_of_ans hW k3
                      replace k4 := cell_of_ans hW k4
                      replace l0 := cell_of_ans hW l0
                      replace l1 := cell_of_ans hW l1
                      go_simp
                      first | done | with_reducible rfl | omega
                    try simp only [Act.put, List.setIfInBounds_toArray, List.set_cons_zero, List.set_cons_succ]
                    refine T_done (by kernel_rfl) ?_ _
                    refine NoPanic.normal ?_
                    try go_simp
                    have hb := hS
                    clear hS
                    replace HL := Lib.hid (HL.out.step hb)
                    replace HX := Lib.hid (HX.out.step hb)
                    replace k0 := cell_of_ans hb k0
                    replace k1 := cell_of_ans hb k1
                    replace k2 := cell_of_ans hb k2
                    replace k3 := cell_of_ans hb k3
                    replace k4 := cell_of_ans hb k4
                    replace s0 := cell_of_ans hb s0
                    replace s1 := cell_of_ans hb s1
                    replace l0 := cell_of_ans hb l0
                    replace l1 := cell_of_ans hb l1
                    replace HF := Lib.hid (HF.out.step hb)
                    replace HB := Lib.hid (HB.out.trans (hb.mono HB.out.size))
                    clear hb
                    go_wp2_with fail
                    go_ret
                    exact ⟨rfl, HB.out⟩
                  · have hgt : decide ((0 : Int) < (r.links.length : Int)) = true := decide_eq_true (by omega)
                    have hnl : ¬ r.links = [] := fun e => h0 (by rw [e]; rfl)
                    have hnp : 0 < r.links.length := by omega
                    clear h0 HFW
                    go_upto_region 27 with fail
                    refine wp_region_noPanic ?_
                    have hS : (fun W' : World => Below wr.heap.size wr W') wr.drew := (Below.refl _ _).drew
                    refine wp_region_any (by kernel_rfl) (wpAny_of_T (S := fun W' : World => Below wr.heap.size wr W') (m := 15) _ _ _ _ ?_)
                    refine' T_take (i := 0) (v := _) rfl (by kernel_rfl) (by kernel_rfl) (by kernel_rfl) (by kernel_rfl) (fun _ _ _ h => h) (by kernel_rfl) hS ?_ ?_
                    rotate_left 1
                    · intro Wv hW
                      replace k0 := cell_of_ans hW k0
                      replace k1 := cell_of_ans hW k1
                      replace k2 := cell_of_ans hW k2
                      replace k3 := cell_of_ans hW k3
                      replace k4 := cell_of_ans hW k4
                      replace l0 := cell_of_ans hW l0
                      replace l1 := cell_of_ans hW l1
                      go_simp
                      first | done | with_reducible rfl | omega
                    try simp only [Act.put, List.setIfInBounds_toArray, List.set_cons_zero, List.set_cons_succ]
                    refine' T_take (i := 1) (v := _) rfl (by kernel_rfl) (by kernel_rfl) (by kernel_rfl) (by kernel_rfl) (fun _ _ _ h => h) (by kernel_rfl) hS ?_ ?_
                    rotate_left 1
                    · intro Wv hW
                      replace k0 := cell_of_ans hW k0
                      replace k1 := cell_of_ans hW k1
                      replace k2 := cell_of_ans hW k2
                      replace k3 := cell_of_ans hW k3
                      replace k4 := cell_of_ans hW k4
                      replace l0 := cell_of_ans hW l0
                      replace l1 := cell_of_ans hW l1
                      go_simp
                      first | done | with_reducible rfl | omega
                    try simp only [Act.put, List.setIfInBounds_toArray, List.set_cons_zero, List.set_cons_succ]
                    refine' T_take (i := 2) (v := _) rfl (by kernel_rfl) (by kernel_rfl) (by kernel_rfl) (by kernel_rfl) (fun _ _ _ h => h) (by kernel_rfl) hS ?_ ?_
                    rotate_left 1
                    · intro Wv hW
                      replace k0 := cell_of_ans hW k0
                      replace k1 := cell_of_ans hW k1
                      replace k2 := cell_of_ans hW k2
                      replace k3 := cell_of_ans hW k3
                      replace k4 := cell_of_ans hW k4
                      replace l0 := cell_of_ans hW l0
                      replace l1 := cell_of_ans hW l1
                      go_simp
                      first | done | with_reducible rfl | omega
                    try simp only [Act.put, List.setIfInBounds_toArray, List.set_cons_zero, List.set_cons_succ]
                    refine' T_take (i := 3) (v := _) rfl (by kernel_rfl) (by kernel_rfl) (by kernel_rfl) (by kernel_rfl) (fun _ _ _ h => h) (by kernel_rfl) hS ?_ ?_
                    rotate_left 1
                    · intro Wv hW
                      replace k0 := cell_of_ans hW k0
                      replace k1 := cell_of_ans hW k1
                      replace k2 := cell_of_ans hW k2
                      replace k3 := cell_of_ans hW k3
                      replace k4 := cell_of_ans hW k4
                      replace l0 := cell_of_ans hW l0
                      replace l1 := cell_of_ans hW l1
                      go_simp
                      first | done | with_reducible rfl | omega
                    try simp only [Act.put, List.setIfInBounds_toArray, List.set_cons_zero, List.set_cons_succ]
                    refine' T_take (i := 4) (v := .bool true) rfl (by kernel_rfl) (by kernel_rfl) (by kernel_rfl) (by kernel_rfl) (fun _ _ _ h => h) (by kernel_rfl) hS ?_ ?_
                    skip
                    · intro Wv hW
                      replace k0 := cell_of_ans hW k0
                      replace k1 := cell_of_ans hW k1
                      replace k2 := cell_of_ans hW k2
                      replace k3 := cell_of_ans hW k3
                      replace k4 := cell_of_ans hW k4
                      replace l0 := cell_of_ans hW l0
                      replace l1 := cell_of_ans hW l1
                      go_simp
                      first | done | with_reducible rfl | omega
                    try simp only [Act.put, List.setIfInBounds_toArray, List.set_cons_zero, List.set_cons_succ]
                    refine' T_skip (i := 5) rfl (by kernel_rfl) (by kernel_rfl) (by kernel_rfl) (by kernel_rfl) (fun _ _ _ h => h) (by kernel_rfl) hS ?_
                    try simp only [Act.put, List.setIfInBounds_toArray, List.set_cons_zero, List.set_cons_succ]
                    refine' T_skip (i := 6) rfl (by kernel_rfl) (by kernel_rfl) (by kernel_rfl) (by kernel_rfl) (fun _ _ _ h => h) (by kernel_rfl) hS ?_
                    try simp only [Act.put, List.setIfInBounds_toArray, List.set_cons_zero, List.set_cons_succ]
                    refine' T_skip (i := 7) rfl (by kernel_rfl) (by kernel_rfl) (by kernel_rfl) (by kernel_rfl) (fun _ _ _ h => h) (by kernel_rfl) hS ?_
                    try simp only [Act.put, List.setIfInBounds_toArray, List.set_cons_zero, List.set_cons_succ]
                    refine' T_skip (i := 8) rfl (by kernel_rfl) (by kernel_rfl) (by kernel_rfl) (by kernel_rfl) (fun _ _ _ h => h) (by kernel_rfl) hS ?_
                    try simp only [Act.put, List.setIfInBounds_toArray, List.set_cons_zero, List.set_cons_succ]
                    refine' T_skip (i := 9) rfl (by kernel_rfl) (by kernel_rfl) (by kernel_rfl) (by kernel_rfl) (fun _ _ _ h => h) (by kernel_rfl) hS ?_
                    try simp only [Act.put, List.setIfInBounds_toArray, List.set_cons_zero, List.set_cons_succ]
                    refine' T_take (i := 10) (v := _) rfl (by kernel_rfl) (by kernel_rfl) (by kernel_rfl) (by kernel_rfl) (fun _ _ _ h => h) (by kernel_rfl) hS ?_ ?_
                    rotate_left 1
                    · intro Wv hW
                      replace k0 := cell_of_ans hW k0
                      replace k1 := cell_of_ans hW k1
                      replace k2 := cell_of_ans hW k2
                      replace k3 := cell_of_ans hW k3
                      replace k4 := cell_of_ans hW k4
                      replace l0 := cell_of_ans hW l0
                      replace l1 := cell_of_ans hW l1
                      go_simp
                      first | done | with_reducible rfl | omega
                    try simp only [Act.put, List.setIfInBounds_toArray, List.set_cons_zero, List.set_cons_succ]
                    refine' T_take (i := 11) (v := .bool true) rfl (by kernel_rfl) (by kernel_rfl) (by kernel_rfl) (by kernel_rfl) (fun _ _ _ h => h) (by kernel_rfl) hS ?_ ?_
                    skip
                    · intro Wv hW
                      replace k0 := cell_of_ans hW k0
                      replace k1 := cell_of_ans hW k1
                      replace k2 := cell_of_ans hW k2
                      replace k3 := cell_of_ans hW k3
                      replace k4 := cell_of_ans hW k4
                      replace l0 := cell_of_ans hW l0
                      replace l1 := cell_of_ans hW l1
                      go_simp
                      first | done | with_reducible rfl | omega
                    try simp only [Act.put, List.setIfInBounds_toArray, List.set_cons_zero, List.set_cons_succ]
                    refine T_ready (rs := [12]) (by kernel_rfl) (by simp) ?_
                    refine TReady.cons rfl (fun K hK => ?_) TReady.nil
                    try go_simp
                    refine (awake16_c _).mono ?_
                    rintro e wz ⟨rfl, hb⟩
                    have hS2 : Below wr.heap.size wr wz := below_cat hb hS
                    try go_simp
                    refine hK.out _ _ (fun _ => hS2) (fun _ => ?_)
                    clear hK K hS hb
                    replace hS := hS2
                    clear hS2
                    try simp only [Act.put, List.setIfInBounds_toArray, List.set_cons_zero, List.set_cons_succ]
                    refine' T_take (i := 13) (v := _) rfl (by kernel_rfl) (by kernel_rfl) (by kernel_rfl) (by kernel_rfl) (fun _ _ _ h => h) (by kernel_rfl) hS ?_ ?_
                    rotate_left 1
                    · intro Wv hW
                      replace k0 := cell_of_ans hW k0
                      replace k1 := cell_of_ans hW k1
                      replace k2 := cell_of_ans hW k2
                      replace k3 := cell_of_ans hW k3
                      replace k4 := cell_of_ans hW k4
                      replace l0 := cell_of_ans hW l0
                      replace l1 := cell_of_ans hW l1
                      go_simp
                      first | done | with_reducible rfl | omega
                    try simp only [Act.put, List.setIfInBounds_toArray, List.set_cons_zero, List.set_cons_succ]
                    refine' T_take (i := 14) (v := _) rfl (by kernel_rfl) (by kernel_rfl) (by kernel_rfl) (by kernel_rfl) (fun _ _ _ h => h) (by kernel_rfl) hS ?_ ?_
                    rotate_left 1
                    · intro Wv hW
                      replace k0 := cell_of_ans hW k0
                      replace k1 := cell_of_ans hW k1
                      replace k2 := cell_of_ans hW k2
                      replace k3 := cell_of_ans hW k3
                      replace k4 := cell_of_ans hW k4
                      replace l0 := cell_of_ans hW l0
                      replace l1 := cell_of_ans hW l1
                      go_simp
                      first | done | with_reducible rfl | omega
                    try simp only [Act.put, List.setIfInBounds_toArray, List.set_cons_zero, List.set_cons_succ]
                    refine T_done (by kernel_rfl) ?_ _
                    refine NoPanic.normal ?_
                    try go_simp
                    have hb := hS
                    clear hS
                    replace HL := Lib.hid (HL.out.step hb)
                    replace HX := Lib.hid (HX.out.step hb)
                    replace k0 := cell_of_ans hb k0
                    replace k1 := cell_of_ans hb k1
                    replace k2 := cell_of_ans hb k2
                    replace k3 := cell_of_ans hb k3
                    replace k4 := cell_of_ans hb k4
                    replace s0 := cell_of_ans hb s0
                    replace s1 := cell_of_ans hb s1
                    replace l0 := cell_of_ans hb l0
                    replace l1 := cell_of_ans hb l1
                    replace HF := Lib.hid (HF.out.step hb)
                    replace HB := Lib.hid (HB.out.trans (hb.mono HB.out.size))
                    clear hb
                    go_wp2_with fail
                    go_ret
                    exact ⟨rfl, HB.out⟩
            · obtain ⟨hth, hsu⟩ := HON.out eo
              obtain ⟨hg1, hg2, hgr⟩ := HO.out.parts
              have HFa := Lib.hid (fun (A4 xA4 Ab4 : Option Addr) (c4 cx4 cb4 : Nat) (W : World) h1 h2 h3 h4 h5 h6 => falls17_c r A4 xA4 Ab4 c4 cx4 cb4 xs (strG a b r.rows.toNat) W h1 h2 h3 h4 h5 h6)
              have HG := Lib.hid hgr
              rw [hth, hsu] at HFa
              clear eo HON HO hgr hth hsu
              generalize mayL r xs (strG a b r.rows.toNat) = ml at *
              generalize strG a b r.rows.toNat = gs at *
              go_wp2_with fail
              refine (rack18_c r A c _ HL.out hc hlen).mono ?_
              rintro e y1 ⟨A7, c7, rfl, ⟨hl7, hc7⟩, hb⟩
              replace HL := Lib.hid (HL.out.step hb)
              replace HX := Lib.hid (HX.out.step hb)
              replace k0 := cell_of_ans hb k0
              replace k1 := cell_of_ans hb k1
              replace k2 := cell_of_ans hb k2
              replace k3 := cell_of_ans hb k3
              replace k4 := cell_of_ans hb k4
              replace s0 := cell_of_ans hb s0
              replace s1 := cell_of_ans hb s1
              replace l0 := cell_of_ans hb l0
              replace l1 := cell_of_ans hb l1
              replace HG := Lib.hid (HG.out.step hb)
              replace HB := Lib.hid (HB.out.trans (hb.mono HB.out.size))
              clear hb
              have Hhl7 := Lib.hid hl7
              clear hl7
              go_wp2_with fail
              refine (list_c xA xs cx _ HX.out hxl).mono ?_
              rintro e y2 ⟨B7, d7, rfl, ho7, hb⟩
              obtain ⟨hd7, he7, hi7⟩ := isInts_parts (ownsRow_isInts ho7)
              clear ho7
              replace HL := Lib.hid (HL.out.step hb)
              replace HX := Lib.hid (HX.out.step hb)
              replace k0 := cell_of_ans hb k0
              replace k1 := cell_of_ans hb k1
              replace k2 := cell_of_ans hb k2
              replace k3 := cell_of_ans hb k3
              replace k4 := cell_of_ans hb k4
              replace s0 := cell_of_ans hb s0
              replace s1 := cell_of_ans hb s1
              replace l0 := cell_of_ans hb l0
              replace l1 := cell_of_ans hb l1
              replace HG := Lib.hid (HG.out.step hb)
              replace Hhl7 := Lib.hid (Hhl7.out.step hb)
              replace HB := Lib.hid (HB.out.trans (hb.mono HB.out.size))
              clear hb
              have Hhi7 := Lib.hid hi7
              clear hi7
              go_wp2_with fail
              refine (HFa.out _ _ _ _ _ _ _ Hhl7.out hc7 Hhi7.out ⟨hd7, he7⟩ HG.out ⟨hg1, hg2⟩).mono ?_
              rintro e y3 ⟨sA2, cs2, mA, cm, rfl, ⟨hsl, hsl2⟩, ⟨hml, hml2⟩, hb⟩
              replace HL := Lib.hid (HL.out.step hb)
              replace HX := Lib.hid (HX.out.step hb)
              replace k0 := cell_of_ans hb k0
              replace k1 := cell_of_ans hb k1
              replace k2 := cell_of_ans hb k2
              replace k3 := cell_of_ans hb k3
              replace k4 := cell_of_ans hb k4
              replace s0 := cell_of_ans hb s0
              replace s1 := cell_of_ans hb s1
              replace l0 := cell_of_ans hb l0
              replace l1 := cell_of_ans hb l1
              replace HG := Lib.hid (HG.out.step hb)
              replace Hhl7 := Lib.hid (Hhl7.out.step hb)
              replace Hhi7 := Lib.hid (Hhi7.out.step hb)
              replace HB := Lib.hid (HB.out.trans (hb.mono HB.out.size))
              clear hb
              have Hhsl := Lib.hid hsl
              clear hsl
              clear Hhl7 Hhi7 HG
              clear hml hml2
              go_wp2_with fail
              refine ((ints_c _ _ xs xs cs2 cx _ Hhsl.out HX.out hsl2 hcx).mono (fun e w9 h => h.ans)).mono ?_
              rw [show eqB xs xs = true from decide_eq_true rfl]
              rintro e y4 ⟨rfl, hb⟩
              replace HL := Lib.hid (HL.out.step hb)
              replace HX := Lib.hid (HX.out.step hb)
              replace k0 := cell_of_ans hb k0
              replace k1 := cell_of_ans hb k1
              replace k2 := cell_of_ans hb k2
              replace k3 := cell_of_ans hb k3
              replace k4 := cell_of_ans hb k4
              replace s0 := cell_of_ans hb s0
              replace s1 := cell_of_ans hb s1
              replace l0 := cell_of_ans hb l0
              replace l1 := cell_of_ans hb l1
              replace Hhsl := Lib.hid (Hhsl.out.step hb)
              replace HB := Lib.hid (HB.out.trans (hb.mono HB.out.size))
              clear hb
              clear Hhsl
              go_wp2_with fail
              go_loopw [20, 21] (fun o i wr => ∃ k : Nat, k ≤ xs.length ∧ i = .int .i64 k ∧ OwnI y4.heap.size wr o (fewT xs bi k) ∧ Below y4.heap.size y4 wr) (fun _ i _ => xs.length - (intOf i).toNat)
              case atStart => exact ⟨0, by omega, rfl, OwnI.nil _ _, Below.refl _ _⟩
              case round =>
                obtain ⟨k, hk, rfl, ho, hb⟩ := hrel
                have HO := Lib.hid ho
                have HBr := Lib.hid hb
                obtain ⟨Ao, co, rfl⟩ := ho.form
                clear ho
                by_cases h1 : k < xs.length
                · have hwr : y4.heap.size ≤ wr.heap.size := hb.size
                  have hk15 : k < 15 := by omega
                  have hbt := bit_test bi k
                  have hfk := fewT_len xs bi k
                  have hb16 : (bi : Int) / 2 ^ k ≤ 65535 := by
                    have : (bi : Int) / 2 ^ k = ((bi / 2 ^ k : Nat) : Int) := by simp
                    rw [this]
                    have := Nat.div_le_self bi (2 ^ k)
                    omega
                  have HT : Hid (fewT xs bi (k + 1) = if bi.testBit k then fewT xs bi k ++ [ix xs k] else fewT xs bi k) := rfl
                  have HX2 := Lib.hid (HX.out.below hb)
                  obtain ⟨b5, off, rfl, _, hcell⟩ := HX2.out.at_ h1
                  clear hb
                  generalize fewT xs bi k = os at *
                  generalize ix xs k = x at *
                  cases e1 : bi.testBit k
                  · rw [e1] at HT hbt
                    go_wp2_with fail
                    go_roundw
                    case rel => exact ⟨k + 1, by omega, by go_num, by rw [HT.out]; exact HO.out, HBr.out⟩
                    case measure => simp [intOf]; omega
                  · rw [e1] at HT hbt
                    go_wp2_with (at_builtin; refine wpList_app_int (.tmp 155) (.tmp 160) rfl rfl y4.heap.size _ _ os x rfl rfl HO (by omega) hwr ?_; intro A2 c2 wn HO2 HB2)
                    go_roundw
                    case rel => exact ⟨k + 1, by omega, by go_num, by rw [HT.out]; exact HO2.out, HBr.out.trans HB2.out⟩
                    case measure => simp [intOf]; omega
                · obtain rfl : k = xs.length := by omega
                  have hfl := fewT_len xs bi xs.length
                  generalize fewT xs bi xs.length = fw at *
                  clear HBr
                  replace HL := Lib.hid (HL.out.step hb)
                  replace HX := Lib.hid (HX.out.step hb)
                  replace k0 := cell_of_ans hb k0
                  replace k1 := cell_of_ans hb k1
                  replace k2 := cell_of_ans hb k2
                  replace k3 := cell_of_ans hb k3
                  replace k4 := cell_of_ans hb k4
                  replace s0 := cell_of_ans hb s0
                  replace s1 := cell_of_ans hb s1
                  replace l0 := cell_of_ans hb l0
                  replace l1 := cell_of_ans hb l1
                  replace HB := Lib.hid (HB.out.trans (hb.mono HB.out.size))
                  clear hb
                  obtain ⟨hcf1, hcf2, hff⟩ := isInts_parts HO.out.isInts
                  have HF := Lib.hid hff
                  clear hff HO
                  have hfl2 : fw.length ≤ 1000000 := by omega
                  clear hfl
                  by_cases h0 : r.links.length = 0
                  · have hgt : decide ((0 : Int) < (r.links.length : Int)) = false := decide_eq_false (by omega)
                    have hnl : (r.links = []) = True := eq_true (List.eq_nil_of_length_eq_zero h0)
                    have HPF := Lib.hid (fun (A4 : Option Addr) (c4 : Nat) (W : World) h1 h2 h3 => (show Calls Try.prog 25 #[.agg #[.int .i64 r.rows, .int .i64 r.mid, .int .i64 r.gap, .int .i64 r.reach, .slice A4 r.links.length c4], .slice Ao fw.length co, .agg #[.int .i64 a, .int .i64 b]] W (Ans W (.bool true)) from by have h := prove_c r A4 Ao c4 co fw a b W h1 h2 h3 ⟨hcf1, hcf2⟩; rwa [HFW.out h0] at h))
                    clear h0 HFW
                    go_upto_region 27 with fail
                    refine wp_region_noPanic ?_
                    have hS : (fun W' : World => Below wr.heap.size wr W') wr.drew := (Below.refl _ _).drew
                    refine wp_region_any (by kernel_rfl) (wpAny_of_T (S := fun W' : World => Below wr.heap.size wr W') (m := 15) _ _ _ _ ?_)
                    refine' T_take (i := 0) (v := _) rfl (by kernel_rfl) (by kernel_rfl) (by kernel_rfl) (by kernel_rfl) (fun _ _ _ h => h) (by kernel_rfl) hS ?_ ?_
                    rotate_left 1
                    · intro Wv hW
                      replace k0 := cell_of_ans hW k0
                      replace k1 := cell_of_ans hW k1
                      replace k2 := cell_of_ans hW k2
                      replace k3 := cell_of_ans hW k3
                      replace k4 := cell_of_ans hW k4
                      replace l0 := cell_of_ans hW l0
                      replace l1 := cell_of_ans hW l1
                      go_simp
                      first | done | with_reducible rfl | omega
                    try simp only [Act.put, List.setIfInBounds_toArray, List.set_cons_zero, List.set_cons_succ]
                    refine' T_take (i := 1) (v := _) rfl (by kernel_rfl) (by kernel_rfl) (by kernel_rfl) (by kernel_rfl) (fun _ _ _ h => h) (by kernel_rfl) hS ?_ ?_
                    rotate_left 1
                    · intro Wv hW
                      replace k0 := cell_of_ans hW k0
                      replace k1 := cell_of_ans hW k1
                      replace k2 := cell_of_ans hW k2
                      replace k3 := cell_of_ans hW k3
                      replace k4 := cell_of_ans hW k4
                      replace l0 := cell_of_ans hW l0
                      replace l1 := cell_of_ans hW l1
                      go_simp
                      first | done | with_reducible rfl | omega
                    try simp only [Act.put, List.setIfInBounds_toArray, List.set_cons_zero, List.set_cons_succ]
                    refine' T_take (i := 2) (v := _) rfl (by kernel_rfl) (by kernel_rfl) (by kernel_rfl) (by kernel_rfl) (fun _ _ _ h => h) (by kernel_rfl) hS ?_ ?_
                    rotate_left 1
                    · intro Wv hW
                      replace k0 := cell_of_ans hW k0
                      replace k1 := cell_of_ans hW k1
                      replace k2 := cell_of_ans hW k2
                      replace k3 := cell_of_ans hW k3
                      replace k4 := cell_of_ans hW k4
                      replace l0 := cell_of_ans hW l0
                      replace l1 := cell_of_ans hW l1
                      go_simp
                      first | done | with_reducible rfl | omega
                    try simp only [Act.put, List.setIfInBounds_toArray, List.set_cons_zero, List.set_cons_succ]
                    refine' T_take (i := 3) (v := _) rfl (by kernel_rfl) (by kernel_rfl) (by kernel_rfl) (by kernel_rfl) (fun _ _ _ h => h) (by kernel_rfl) hS ?_ ?_
                    rotate_left 1
                    · intro Wv hW
                      replace k0 := cell_of_ans hW k0
                      replace k1 := cell_of_ans hW k1
                      replace k2 := cell_of_ans hW k2
                      replace k3 := cell_of_ans hW k3
                      replace k4 := cell_of_ans hW k4
                      replace l0 := cell_of_ans hW l0
                      replace l1 := cell_of_ans hW l1
                      go_simp
                      first | done | with_reducible rfl | omega
                    try simp only [Act.put, List.setIfInBounds_toArray, List.set_cons_zero, List.set_cons_succ]
                    refine' T_take (i := 4) (v := .bool false) rfl (by kernel_rfl) (by kernel_rfl) (by kernel_rfl) (by kernel_rfl) (fun _ _ _ h => h) (by kernel_rfl) hS ?_ ?_
                    skip
                    · intro Wv hW
                      replace k0 := cell_of_ans hW k0
                      replace k1 := cell_of_ans hW k1
                      replace k2 := cell_of_ans hW k2
                      replace k3 := cell_of_ans hW k3
                      replace k4 := cell_of_ans hW k4
                      replace l0 := cell_of_ans hW l0
                      replace l1 := cell_of_ans hW l1
                      go_simp
                      first | done | with_reducible rfl | omega
                    try simp only [Act.put, List.setIfInBounds_toArray, List.set_cons_zero, List.set_cons_succ]
                    refine' T_take (i := 5) (v := _) rfl (by kernel_rfl) (by kernel_rfl) (by kernel_rfl) (by kernel_rfl) (fun _ _ _ h => h) (by kernel_rfl) hS ?_ ?_
                    rotate_left 1
                    · intro Wv hW
                      replace k0 := cell_of_ans hW k0
                      replace k1 := cell_of_ans hW k1
                      replace k2 := cell_of_ans hW k2
                      replace k3 := cell_of_ans hW k3
                      replace k4 := cell_of_ans hW k4
                      replace l0 := cell_of_ans hW l0
                      replace l1 := cell_of_ans hW l1
                      go_simp
                      first | done | with_reducible rfl | omega
                    try simp only [Act.put, List.setIfInBounds_toArray, List.set_cons_zero, List.set_cons_succ]
                    refine' T_take (i := 7) (v := _) rfl (by kernel_rfl) (by kernel_rfl) (by kernel_rfl) (by kernel_rfl) (fun _ _ _ h => h) (by kernel_rfl) hS ?_ ?_
                    rotate_left 1
                    · intro Wv hW
                      replace k0 := cell_of_ans hW k0
                      replace k1 := cell_of_ans hW k1
                      replace k2 := cell_of_ans hW k2
                      replace k3 := cell_of_ans hW k3
                      replace k4 := cell_of_ans hW k4
                      replace l0 := cell_of_ans hW l0
                      replace l1 := cell_of_ans hW l1
                      go_simp
                      first | done | with_reducible rfl | omega
                    try simp only [Act.put, List.setIfInBounds_toArray, List.set_cons_zero, List.set_cons_succ]
                    refine' T_take (i := 8) (v := _) rfl (by kernel_rfl) (by kernel_rfl) (by kernel_rfl) (by kernel_rfl) (fun _ _ _ h => h) (by kernel_rfl) hS ?_ ?_
                    rotate_left 1
                    · intro Wv hW
                      replace k0 := cell_of_ans hW k0
                      replace k1 := cell_of_ans hW k1
                      replace k2 := cell_of_ans hW k2
                      replace k3 := cell_of_ans hW k3
                      replace k4 := cell_of_ans hW k4
                      replace l0 := cell_of_ans hW l0
                      replace l1 := cell_of_ans hW l1
                      go_simp
                      first | done | with_reducible rfl | omega
                    try simp only [Act.put, List.setIfInBounds_toArray, List.set_cons_zero, List.set_cons_succ]
                    refine T_ready (rs := [6]) (by kernel_rfl) (by simp) ?_
                    refine TReady.cons rfl (fun K hK => ?_) TReady.nil
                    try go_simp
                    refine (rack18_c r A c _ (HL.out.step hS) hc hlen).mono ?_
                    rintro e z1 ⟨A9, c9, rfl, ⟨hl9, hc9⟩, hb⟩
                    have hS2 : Below wr.heap.size wr z1 := below_cat hb hS
                    have Hhl9 := Lib.hid hl9
                    clear hl9
                    try go_simp
                    refine hK.out _ _ (fun _ => hS2) (fun _ => ?_)
                    clear hK K hS hb
                    replace hS := hS2
                    clear hS2
                    try simp only [Act.put, List.setIfInBounds_toArray, List.set_cons_zero, List.set_cons_succ]
                    refine T_ready (rs := [9]) (by kernel_rfl) (by simp) ?_
                    refine TReady.cons rfl (fun K hK => ?_) TReady.nil
                    try go_simp
                    refine (HPF.out _ _ _ Hhl9.out hc9 (HF.out.step hS)).mono ?_
                    rintro e z2 ⟨rfl, hb⟩
                    have hS2 : Below wr.heap.size wr z2 := below_cat hb hS
                    clear Hhl9
                    try go_simp
                    refine hK.out _ _ (fun _ => hS2) (fun _ => ?_)
                    clear hK K hS hb
                    replace hS := hS2
                    clear hS2
                    try simp only [Act.put, List.setIfInBounds_toArray, List.set_cons_zero, List.set_cons_succ]
                    refine' T_take (i := 10) (v := _) rfl (by kernel_rfl) (by kernel_rfl) (by kernel_rfl) (by kernel_rfl) (fun _ _ _ h => h) (by kernel_rfl) hS ?_ ?_
                    rotate_left 1
                    · intro Wv hW
                      replace k0 := cell_of_ans hW k0
                      replace k1 := cell_of_ans hW k1
                      replace k2 := cell_of_ans hW k2
                      replace k3 := cell_of_ans hW k3
                      replace k4 := cell_of_ans hW k4
                      replace l0 := cell_of_ans hW l0
                      replace l1 := cell_of_ans hW l1
                      go_simp
                      first | done | with_reducible rfl | omega
                    try simp only [Act.put, List.setIfInBounds_toArray, List.set_cons_zero, List.set_cons_succ]
                    refine' T_take (i := 11) (v := .bool true) rfl (by kernel_rfl) (by kernel_rfl) (by kernel_rfl) (by kernel_rfl) (fun _ _ _ h => h) (by kernel_rfl) hS ?_ ?_
                    skip
                    · intro Wv hW
                      replace k0 := cell_of_ans hW k0
                      replace k1 := cell_of_ans hW k1
                      replace k2 := cell_of_ans hW k2
                      replace k3 := cell_of_ans hW k3
                      replace k4 := cell_of_ans hW k4
                      replace l0 := cell_of_ans hW l0
                      replace l1 := cell_of_ans hW l1
                      go_simp
                      first | done | with_reducible rfl | omega
                    try simp only [Act.put, List.setIfInBounds_toArray, List.set_cons_zero, List.set_cons_succ]
                    refine T_ready (rs := [12]) (by kernel_rfl) (by simp) ?_
                    refine TReady.cons rfl (fun K hK => ?_) TReady.nil
                    try go_simp
                    refine (awake16_c _).mono ?_
                    rintro e wz ⟨rfl, hb⟩
                    have hS2 : Below wr.heap.size wr wz := below_cat hb hS
                    try go_simp
                    refine hK.out _ _ (fun _ => hS2) (fun _ => ?_)
                    clear hK K hS hb
                    replace hS := hS2
                    clear hS2
                    try simp only [Act.put, List.setIfInBounds_toArray, List.set_cons_zero, List.set_cons_succ]
                    refine' T_take (i := 13) (v := _) rfl (by kernel_rfl) (by kernel_rfl) (by kernel_rfl) (by kernel_rfl) (fun _ _ _ h => h) (by kernel_rfl) hS ?_ ?_
                    rotate_left 1
                    · intro Wv hW
                      replace k0 := cell_of_ans hW k0
                      replace k1 := cell_of_ans hW k1
                      replace k2 := cell_of_ans hW k2
                      replace k3 := cell_of_ans hW k3
                      replace k4 := cell_of_ans hW k4
                      replace l0 := cell_of_ans hW l0
                      replace l1 := cell_of_ans hW l1
                      go_simp
                      first | done | with_reducible rfl | omega
                    try simp only [Act.put, List.setIfInBounds_toArray, List.set_cons_zero, List.set_cons_succ]
                    refine' T_take (i := 14) (v := _) rfl (by kernel_rfl) (by kernel_rfl) (by kernel_rfl) (by kernel_rfl) (fun _ _ _ h => h) (by kernel_rfl) hS ?_ ?_
                    rotate_left 1
                    · intro Wv hW
                      replace k0 := cell_of_ans hW k0
                      replace k1 := cell_of_ans hW k1
                      replace k2 := cell_of_ans hW k2
                      replace k3 := cell_of_ans hW k3
                      replace k4 := cell_of_ans hW k4
                      replace l0 := cell_of_ans hW l0
                      replace l1 := cell_of_ans hW l1
                      go_simp
                      first | done | with_reducible rfl | omega
                    try simp only [Act.put, List.setIfInBounds_toArray, List.set_cons_zero, List.set_cons_succ]
                    refine T_done (by kernel_rfl) ?_ _
                    refine NoPanic.normal ?_
                    try go_simp
                    have hb := hS
                    clear hS
                    replace HL := Lib.hid (HL.out.step hb)
                    replace HX := Lib.hid (HX.out.step hb)
                    replace k0 := cell_of_ans hb k0
                    replace k1 := cell_of_ans hb k1
                    replace k2 := cell_of_ans hb k2
                    replace k3 := cell_of_ans hb k3
                    replace k4 := cell_of_ans hb k4
                    replace s0 := cell_of_ans hb s0
                    replace s1 := cell_of_ans hb s1
                    replace l0 := cell_of_ans hb l0
                    replace l1 := cell_of_ans hb l1
                    replace HF := Lib.hid (HF.out.step hb)
                    replace HB := Lib.hid (HB.out.trans (hb.mono HB.out.size))
                    clear hb
                    go_wp2_with fail
                    go_ret
                    exact ⟨rfl, HB.out⟩
                  · have hgt : decide ((0 : Int) < (r.links.length : Int)) = true := decide_eq_true (by omega)
                    have hnl : ¬ r.links = [] := fun e => h0 (by rw [e]; rfl)
                    have hnp : 0 < r.links.length := by omega
                    clear h0 HFW
                    go_upto_region 27 with fail
                    refine wp_region_noPanic ?_
                    have hS : (fun W' : World => Below wr.heap.size wr W') wr.drew := (Below.refl _ _).drew
                    refine wp_region_any (by kernel_rfl) (wpAny_of_T (S := fun W' : World => Below wr.heap.size wr W') (m := 15) _ _ _ _ ?_)
                    refine' T_take (i := 0) (v := _) rfl (by kernel_rfl) (by kernel_rfl) (by kernel_rfl) (by kernel_rfl) (fun _ _ _ h => h) (by kernel_rfl) hS ?_ ?_
                    rotate_left 1
                    · intro Wv hW
                      replace k0 := cell_of_ans hW k0
                      replace k1 := cell_of_ans hW k1
                      replace k2 := cell_of_ans hW k2
                      replace k3 := cell_of_ans hW k3
                      replace k4 := cell_of_ans hW k4
                      replace l0 := cell_of_ans hW l0
                      replace l1 := cell_of_ans hW l1
                      go_simp
                      first | done | with_reducible rfl | omega
                    try simp only [Act.put, List.setIfInBounds_toArray, List.set_cons_zero, List.set_cons_succ]
                    refine' T_take (i := 1) (v := _) rfl (by kernel_rfl) (by kernel_rfl) (by kernel_rfl) (by kernel_rfl) (fun _ _ _ h => h) (by kernel_rfl) hS ?_ ?_
                    rotate_left 1
                    · intro Wv hW
                      replace k0 := cell_of_ans hW k0
                      replace k1 := cell_of_ans hW k1
                      replace k2 := cell_of_ans hW k2
                      replace k3 := cell_of_ans hW k3
                      replace k4 := cell_of_ans hW k4
                      replace l0 := cell_of_ans hW l0
                      replace l1 := cell_of_ans hW l1
                      go_simp
                      first | done | with_reducible rfl | omega
                    try simp only [Act.put, List.setIfInBounds_toArray, List.set_cons_zero, List.set_cons_succ]
                    refine' T_take (i := 2) (v := _) rfl (by kernel_rfl) (by kernel_rfl) (by kernel_rfl) (by kernel_rfl) (fun _ _ _ h => h) (by kernel_rfl) hS ?_ ?_
                    rotate_left 1
                    · intro Wv hW
                      replace k0 := cell_of_ans hW k0
                      replace k1 := cell_of_ans hW k1
                      replace k2 := cell_of_ans hW k2
                      replace k3 := cell_of_ans hW k3
                      replace k4 := cell_of_ans hW k4
                      replace l0 := cell_of_ans hW l0
                      replace l1 := cell_of_ans hW l1
                      go_simp
                      first | done | with_reducible rfl | omega
                    try simp only [Act.put, List.setIfInBounds_toArray, List.set_cons_zero, List.set_cons_succ]
                    refine' T_take (i := 3) (v := _) rfl (by kernel_rfl) (by kernel_rfl) (by kernel_rfl) (by kernel_rfl) (fun _ _ _ h => h) (by kernel_rfl) hS ?_ ?_
                    rotate_left 1
                    · intro Wv hW
                      replace k0 := cell_of_ans hW k0
                      replace k1 := cell_of_ans hW k1
                      replace k2 := cell_of_ans hW k2
                      replace k3 := cell_of_ans hW k3
                      replace k4 := cell_of_ans hW k4
                      replace l0 := cell_of_ans hW l0
                      replace l1 := cell_of_ans hW l1
                      go_simp
                      first | done | with_reducible rfl | omega
                    try simp only [Act.put, List.setIfInBounds_toArray, List.set_cons_zero, List.set_cons_succ]
                    refine' T_take (i := 4) (v := .bool true) rfl (by kernel_rfl) (by kernel_rfl) (by kernel_rfl) (by kernel_rfl) (fun _ _ _ h => h) (by kernel_rfl) hS ?_ ?_
                    skip
                    · intro Wv hW
                      replace k0 := cell_of_ans hW k0
                      replace k1 := cell_of_ans hW k1
                      replace k2 := cell_of_ans hW k2
                      replace k3 := cell_of_ans hW k3
                      replace k4 := cell_of_ans hW k4
                      replace l0 := cell_of_ans hW l0
                      replace l1 := cell_of_ans hW l1
                      go_simp
                      first | done | with_reducible rfl | omega
                    try simp only [Act.put, List.setIfInBounds_toArray, List.set_cons_zero, List.set_cons_succ]
                    refine' T_skip (i := 5) rfl (by kernel_rfl) (by kernel_rfl) (by kernel_rfl) (by kernel_rfl) (fun _ _ _ h => h) (by kernel_rfl) hS ?_
                    try simp only [Act.put, List.setIfInBounds_toArray, List.set_cons_zero, List.set_cons_succ]
                    refine' T_skip (i := 6) rfl (by kernel_rfl) (by kernel_rfl) (by kernel_rfl) (by kernel_rfl) (fun _ _ _ h => h) (by kernel_rfl) hS ?_
                    try simp only [Act.put, List.setIfInBounds_toArray, List.set_cons_zero, List.set_cons_succ]
                    refine' T_skip (i := 7) rfl (by kernel_rfl) (by kernel_rfl) (by kernel_rfl) (by kernel_rfl) (fun _ _ _ h => h) (by kernel_rfl) hS ?_
                    try simp only [Act.put, List.setIfInBounds_toArray, List.set_cons_zero, List.set_cons_succ]
                    refine' T_skip (i := 8) rfl (by kernel_rfl) (by kernel_rfl) (by kernel_rfl) (by kernel_rfl) (fun _ _ _ h => h) (by kernel_rfl) hS ?_
                    try simp only [Act.put, List.setIfInBounds_toArray, List.set_cons_zero, List.set_cons_succ]
                    refine' T_skip (i := 9) rfl (by kernel_rfl) (by kernel_rfl) (by kernel_rfl) (by kernel_rfl) (fun _ _ _ h => h) (by kernel_rfl) hS ?_
                    try simp only [Act.put, List.setIfInBounds_toArray, List.set_cons_zero, List.set_cons_succ]
                    refine' T_take (i := 10) (v := _) rfl (by kernel_rfl) (by kernel_rfl) (by kernel_rfl) (by kernel_rfl) (fun _ _ _ h => h) (by kernel_rfl) hS ?_ ?_
                    rotate_left 1
                    · intro Wv hW
                      replace k0 := cell_of_ans hW k0
                      replace k1 := cell_of_ans hW k1
                      replace k2 := cell_of_ans hW k2
                      replace k3 := cell_of_ans hW k3
                      replace k4 := cell_of_ans hW k4
                      replace l0 := cell_of_ans hW l0
                      replace l1 := cell_of_ans hW l1
                      go_simp
                      first | done | with_reducible rfl | omega
                    try simp only [Act.put, List.setIfInBounds_toArray, List.set_cons_zero, List.set_cons_succ]
                    refine' T_take (i := 11) (v := .bool true) rfl (by kernel_rfl) (by kernel_rfl) (by kernel_rfl) (by kernel_rfl) (fun _ _ _ h => h) (by kernel_rfl) hS ?_ ?_
                    skip
                    · intro Wv hW
                      replace k0 := cell_of_ans hW k0
                      replace k1 := cell_of_ans hW k1
                      replace k2 := cell_of_ans hW k2
                      replace k3 := cell_of_ans hW k3
                      replace k4 := cell_of_ans hW k4
                      replace l0 := cell_of_ans hW l0
                      replace l1 := cell_of_ans hW l1
                      go_simp
                      first | done | with_reducible rfl | omega
                    try simp only [Act.put, List.setIfInBounds_toArray, List.set_cons_zero, List.set_cons_succ]
                    refine T_ready (rs := [12]) (by kernel_rfl) (by simp) ?_
                    refine TReady.cons rfl (fun K hK => ?_) TReady.nil
                    try go_simp
                    refine (awake16_c _).mono ?_
                    rintro e wz ⟨rfl, hb⟩
                    have hS2 : Below wr.heap.size wr wz := below_cat hb hS
                    try go_simp
                    refine hK.out _ _ (fun _ => hS2) (fun _ => ?_)
                    clear hK K hS hb
                    replace hS := hS2
                    clear hS2
                    try simp only [Act.put, List.setIfInBounds_toArray, List.set_cons_zero, List.set_cons_succ]
                    refine' T_take (i := 13) (v := _) rfl (by kernel_rfl) (by kernel_rfl) (by kernel_rfl) (by kernel_rfl) (fun _ _ _ h => h) (by kernel_rfl) hS ?_ ?_
                    rotate_left 1
                    · intro Wv hW
                      replace k0 := cell_of_ans hW k0
                      replace k1 := cell_of_ans hW k1
                      replace k2 := cell_of_ans hW k2
                      replace k3 := cell_of_ans hW k3
                      replace k4 := cell_of_ans hW k4
                      replace l0 := cell_of_ans hW l0
                      replace l1 := cell_of_ans hW l1
                      go_simp
                      first | done | with_reducible rfl | omega
                    try simp only [Act.put, List.setIfInBounds_toArray, List.set_cons_zero, List.set_cons_succ]
                    refine' T_take (i := 14) (v := _) rfl (by kernel_rfl) (by kernel_rfl) (by kernel_rfl) (by kernel_rfl) (fun _ _ _ h => h) (by kernel_rfl) hS ?_ ?_
                    rotate_left 1
                    · intro Wv hW
                      replace k0 := cell_of_ans hW k0
                      replace k1 := cell_of_ans hW k1
                      replace k2 := cell_of_ans hW k2
                      replace k3 := cell_of_ans hW k3
                      replace k4 := cell_of_ans hW k4
                      replace l0 := cell_of_ans hW l0
                      replace l1 := cell_of_ans hW l1
                      go_simp
                      first | done | with_reducible rfl | omega
                    try simp only [Act.put, List.setIfInBounds_toArray, List.set_cons_zero, List.set_cons_succ]
                    refine T_done (by kernel_rfl) ?_ _
                    refine NoPanic.normal ?_
                    try go_simp
                    have hb := hS
                    clear hS
                    replace HL := Lib.hid (HL.out.step hb)
                    replace HX := Lib.hid (HX.out.step hb)
                    replace k0 := cell_of_ans hb k0
                    replace k1 := cell_of_ans hb k1
                    replace k2 := cell_of_ans hb k2
                    replace k3 := cell_of_ans hb k3
                    replace k4 := cell_of_ans hb k4
                    replace s0 := cell_of_ans hb s0
                    replace s1 := cell_of_ans hb s1
                    replace l0 := cell_of_ans hb l0
                    replace l1 := cell_of_ans hb l1
                    replace HF := Lib.hid (HF.out.step hb)
                    replace HB := Lib.hid (HB.out.trans (hb.mono HB.out.size))
                    clear hb
                    go_wp2_with fail
                    go_ret
                    exact ⟨rfl, HB.out⟩
      · obtain ⟨e9, hf, hno⟩ := straight_err he hc0
        have HC0 := Lib.hid (fun (A4 xA4 : Option Addr) (c4 cx4 : Nat) (W : World) h1 h2 h3 h4 => convert_c r A4 xA4 c4 cx4 xs false W h1 h2 h3 h4)
        have HC1 := Lib.hid (fun (A4 xA4 : Option Addr) (c4 cx4 : Nat) (W : World) h1 h2 h3 h4 => convert_c r A4 xA4 c4 cx4 xs true W h1 h2 h3 h4)
        rw [e9] at HC0
        have HPV := Lib.hid (fun (A4 xA4 : Option Addr) (c4 cx4 : Nat) (W : World) h1 h2 h3 h4 => (show Calls Try.prog 25 #[.agg #[.int .i64 r.rows, .int .i64 r.mid, .int .i64 r.gap, .int .i64 r.reach, .slice A4 r.links.length c4], .slice xA4 xs.length cx4, .agg #[.int .i64 st, .int .i64 dr]] W (Ans W (.bool false)) from by have h := prove_c r A4 xA4 c4 cx4 xs st dr W h1 h2 h3 h4; rwa [hno] at h))
        clear hno hc0 e9 he
        generalize (cvLn r xs false).1 = a at *
        generalize (cvLn r xs false).2 = b at *
        generalize (cvLn r xs true).1 = a2 at *
        generalize (cvLn r xs true).2 = b2 at *
        rcases hf with e | e
        · rw [e] at HC1
          clear e
          go_enter Try.func5, Try.ntmps5
          go_wp2_with fail
          generalize ((w.alloc (.cells #[.int .i64 r.rows, .int .i64 r.mid, .int .i64 r.gap, .int .i64 r.reach, .slice A r.links.length c] 24)).alloc (.cells #[.int .i64 st, .int .i64 dr] 50)) = x1 at *
          refine (HTH.out _).mono ?_
          rintro e x4 ⟨rfl, hb⟩
          replace HL := Lib.hid (HL.out.step hb)
          replace HX := Lib.hid (HX.out.step hb)
          replace k0 := cell_of_ans hb k0
          replace k1 := cell_of_ans hb k1
          replace k2 := cell_of_ans hb k2
          replace k3 := cell_of_ans hb k3
          replace k4 := cell_of_ans hb k4
          replace s0 := cell_of_ans hb s0
          replace s1 := cell_of_ans hb s1
          replace HB := Lib.hid (HB.out.trans (hb.mono HB.out.size))
          clear hb
          clear HTH
          go_wp2_with fail
          refine (HPN.out _ HL.out HX.out).mono ?_
          rintro e x5 ⟨rfl, hb⟩
          replace HL := Lib.hid (HL.out.step hb)
          replace HX := Lib.hid (HX.out.step hb)
          replace k0 := cell_of_ans hb k0
          replace k1 := cell_of_ans hb k1
          replace k2 := cell_of_ans hb k2
          replace k3 := cell_of_ans hb k3
          replace k4 := cell_of_ans hb k4
          replace s0 := cell_of_ans hb s0
          replace s1 := cell_of_ans hb s1
          replace HB := Lib.hid (HB.out.trans (hb.mono HB.out.size))
          clear hb
          clear HPN
          go_wp2_with fail
          refine (rack18_c r A c _ HL.out hc hlen).mono ?_
          rintro e w4 ⟨A4, c4, rfl, ⟨hl4, hc4⟩, hb⟩
          replace HL := Lib.hid (HL.out.step hb)
          replace HX := Lib.hid (HX.out.step hb)
          replace k0 := cell_of_ans hb k0
          replace k1 := cell_of_ans hb k1
          replace k2 := cell_of_ans hb k2
          replace k3 := cell_of_ans hb k3
          replace k4 := cell_of_ans hb k4
          replace s0 := cell_of_ans hb s0
          replace s1 := cell_of_ans hb s1
          replace HB := Lib.hid (HB.out.trans (hb.mono HB.out.size))
          clear hb
          have Hhl4 := Lib.hid hl4
          clear hl4
          go_wp2_with fail
          refine (list_c xA xs cx _ HX.out hxl).mono ?_
          rintro e w5 ⟨B4, d4, rfl, ho4, hb⟩
          obtain ⟨hd4, he4, hi4⟩ := isInts_parts (ownsRow_isInts ho4)
          clear ho4
          replace HL := Lib.hid (HL.out.step hb)
          replace HX := Lib.hid (HX.out.step hb)
          replace k0 := cell_of_ans hb k0
          replace k1 := cell_of_ans hb k1
          replace k2 := cell_of_ans hb k2
          replace k3 := cell_of_ans hb k3
          replace k4 := cell_of_ans hb k4
          replace s0 := cell_of_ans hb s0
          replace s1 := cell_of_ans hb s1
          replace Hhl4 := Lib.hid (Hhl4.out.step hb)
          replace HB := Lib.hid (HB.out.trans (hb.mono HB.out.size))
          clear hb
          have Hhi4 := Lib.hid hi4
          clear hi4
          go_wp2_with fail
          refine (HC0.out _ _ _ _ _ Hhl4.out hc4 Hhi4.out ⟨hd4, he4⟩).mono ?_
          rintro e w6 ⟨rfl, hb⟩
          replace HL := Lib.hid (HL.out.step hb)
          replace HX := Lib.hid (HX.out.step hb)
          replace k0 := cell_of_ans hb k0
          replace k1 := cell_of_ans hb k1
          replace k2 := cell_of_ans hb k2
          replace k3 := cell_of_ans hb k3
          replace k4 := cell_of_ans hb k4
          replace s0 := cell_of_ans hb s0
          replace s1 := cell_of_ans hb s1
          replace Hhl4 := Lib.hid (Hhl4.out.step hb)
          replace Hhi4 := Lib.hid (Hhi4.out.step hb)
          replace HB := Lib.hid (HB.out.trans (hb.mono HB.out.size))
          clear hb
          clear Hhl4 Hhi4
          have ltk0 := World.block_lt_of_cell? _ _ k0
          dsimp only at ltk0
          have lts0 := World.block_lt_of_cell? _ _ s0
          dsimp only at lts0
          go_upto_region 4 with fail
          have hb : Below w6.heap.size w6 (w6.alloc (.cells #[.int .i64 a, .int .i64 b] 51)) := (Below.refl _ _).alloc (Nat.le_refl _) _
          replace HL := Lib.hid (HL.out.step hb)
          replace HX := Lib.hid (HX.out.step hb)
          replace k0 := cell_of_ans hb k0
          replace k1 := cell_of_ans hb k1
          replace k2 := cell_of_ans hb k2
          replace k3 := cell_of_ans hb k3
          replace k4 := cell_of_ans hb k4
          replace s0 := cell_of_ans hb s0
          replace s1 := cell_of_ans hb s1
          replace HB := Lib.hid (HB.out.trans (hb.mono HB.out.size))
          clear hb
          have l0 : (w6.alloc (.cells #[.int .i64 a, .int .i64 b] 51)).cell? ⟨w6.heap.size, 0, none⟩ = some (.int .i64 a) := by simp
          have l1 : (w6.alloc (.cells #[.int .i64 a, .int .i64 b] 51)).cell? ⟨w6.heap.size, 1, none⟩ = some (.int .i64 b) := by simp
          generalize (w6.alloc (.cells #[.int .i64 a, .int .i64 b] 51)) = w7 at *
          generalize w6.heap.size = nq at *
          go_wp2_with fail
          refine (rack18_c r A c _ HL.out hc hlen).mono ?_
          rintro e w8 ⟨A5, c5, rfl, ⟨hl5, hc5⟩, hb⟩
          replace HL := Lib.hid (HL.out.step hb)
          replace HX := Lib.hid (HX.out.step hb)
          replace k0 := cell_of_ans hb k0
          replace k1 := cell_of_ans hb k1
          replace k2 := cell_of_ans hb k2
          replace k3 := cell_of_ans hb k3
          replace k4 := cell_of_ans hb k4
          replace s0 := cell_of_ans hb s0
          replace s1 := cell_of_ans hb s1
          replace l0 := cell_of_ans hb l0
          replace l1 := cell_of_ans hb l1
          replace HB := Lib.hid (HB.out.trans (hb.mono HB.out.size))
          clear hb
          have Hhl5 := Lib.hid hl5
          clear hl5
          go_wp2_with fail
          refine (list_c xA xs cx _ HX.out hxl).mono ?_
          rintro e w9 ⟨B5, d5, rfl, ho5, hb⟩
          obtain ⟨hd5, he5, hi5⟩ := isInts_parts (ownsRow_isInts ho5)
          clear ho5
          replace HL := Lib.hid (HL.out.step hb)
          replace HX := Lib.hid (HX.out.step hb)
          replace k0 := cell_of_ans hb k0
          replace k1 := cell_of_ans hb k1
          replace k2 := cell_of_ans hb k2
          replace k3 := cell_of_ans hb k3
          replace k4 := cell_of_ans hb k4
          replace s0 := cell_of_ans hb s0
          replace s1 := cell_of_ans hb s1
          replace l0 := cell_of_ans hb l0
          replace l1 := cell_of_ans hb l1
          replace Hhl5 := Lib.hid (Hhl5.out.step hb)
          replace HB := Lib.hid (HB.out.trans (hb.mono HB.out.size))
          clear hb
          have Hhi5 := Lib.hid hi5
          clear hi5
          go_wp2_with fail
          refine (HC1.out _ _ _ _ _ Hhl5.out hc5 Hhi5.out ⟨hd5, he5⟩).mono ?_
          rintro e w10 ⟨rfl, hb⟩
          replace HL := Lib.hid (HL.out.step hb)
          replace HX := Lib.hid (HX.out.step hb)
          replace k0 := cell_of_ans hb k0
          replace k1 := cell_of_ans hb k1
          replace k2 := cell_of_ans hb k2
          replace k3 := cell_of_ans hb k3
          replace k4 := cell_of_ans hb k4
          replace s0 := cell_of_ans hb s0
          replace s1 := cell_of_ans hb s1
          replace l0 := cell_of_ans hb l0
          replace l1 := cell_of_ans hb l1
          replace Hhl5 := Lib.hid (Hhl5.out.step hb)
          replace Hhi5 := Lib.hid (Hhi5.out.step hb)
          replace HB := Lib.hid (HB.out.trans (hb.mono HB.out.size))
          clear hb
          clear Hhl5 Hhi5
          have ltl0 := World.block_lt_of_cell? _ _ l0
          dsimp only at ltl0
          go_upto_region 5 with fail
          have hb : Below w10.heap.size w10 (w10.alloc (.cells #[.int .i64 a2, .int .i64 b2] 51)) := (Below.refl _ _).alloc (Nat.le_refl _) _
          replace HL := Lib.hid (HL.out.step hb)
          replace HX := Lib.hid (HX.out.step hb)
          replace k0 := cell_of_ans hb k0
          replace k1 := cell_of_ans hb k1
          replace k2 := cell_of_ans hb k2
          replace k3 := cell_of_ans hb k3
          replace k4 := cell_of_ans hb k4
          replace s0 := cell_of_ans hb s0
          replace s1 := cell_of_ans hb s1
          replace l0 := cell_of_ans hb l0
          replace l1 := cell_of_ans hb l1
          replace HB := Lib.hid (HB.out.trans (hb.mono HB.out.size))
          clear hb
          generalize (w10.alloc (.cells #[.int .i64 a2, .int .i64 b2] 51)) = w11 at *
          generalize w10.heap.size = nq2 at *
          go_upto_region 6 with fail
          refine wp_region_noPanic ?_
          have hS : (fun W' : World => Below w11.heap.size w11 W') w11.drew := (Below.refl _ _).drew
          refine wp_region_any (by kernel_rfl) (wpAny_of_T (S := fun W' : World => Below w11.heap.size w11 W') (m := 27) _ _ _ _ ?_)
          refine' T_take (i := 0) (v := _) rfl (by kernel_rfl) (by kernel_rfl) (by kernel_rfl) (by kernel_rfl) (fun _ _ _ h => h) (by kernel_rfl) hS ?_ ?_
          rotate_left 1
          · intro Wv hW
            replace k0 := cell_of_ans hW k0
            replace k1 := cell_of_ans hW k1
            replace k2 := cell_of_ans hW k2
            replace k3 := cell_of_ans hW k3
            replace k4 := cell_of_ans hW k4
            replace s0 := cell_of_ans hW s0
            replace s1 := cell_of_ans hW s1
            go_simp
            first | done | with_reducible rfl | omega
          try simp only [Act.put, List.setIfInBounds_toArray, List.set_cons_zero, List.set_cons_succ]
          refine' T_take (i := 1) (v := _) rfl (by kernel_rfl) (by kernel_rfl) (by kernel_rfl) (by kernel_rfl) (fun _ _ _ h => h) (by kernel_rfl) hS ?_ ?_
          rotate_left 1
          · intro Wv hW
            replace k0 := cell_of_ans hW k0
            replace k1 := cell_of_ans hW k1
            replace k2 := cell_of_ans hW k2
            replace k3 := cell_of_ans hW k3
            replace k4 := cell_of_ans hW k4
            replace s0 := cell_of_ans hW s0
            replace s1 := cell_of_ans hW s1
            go_simp
            first | done | with_reducible rfl | omega
          try simp only [Act.put, List.setIfInBounds_toArray, List.set_cons_zero, List.set_cons_succ]
          refine' T_take (i := 2) (v := .bool true) rfl (by kernel_rfl) (by kernel_rfl) (by kernel_rfl) (by kernel_rfl) (fun _ _ _ h => h) (by kernel_rfl) hS ?_ ?_
          skip
          · intro Wv hW
            replace k0 := cell_of_ans hW k0
            replace k1 := cell_of_ans hW k1
            replace k2 := cell_of_ans hW k2
            replace k3 := cell_of_ans hW k3
            replace k4 := cell_of_ans hW k4
            replace s0 := cell_of_ans hW s0
            replace s1 := cell_of_ans hW s1
            go_simp
            first | done | with_reducible rfl | omega
          try simp only [Act.put, List.setIfInBounds_toArray, List.set_cons_zero, List.set_cons_succ]
          refine' T_take (i := 3) (v := _) rfl (by kernel_rfl) (by kernel_rfl) (by kernel_rfl) (by kernel_rfl) (fun _ _ _ h => h) (by kernel_rfl) hS ?_ ?_
          rotate_left 1
          · intro Wv hW
            replace k0 := cell_of_ans hW k0
            replace k1 := cell_of_ans hW k1
            replace k2 := cell_of_ans hW k2
            replace k3 := cell_of_ans hW k3
            replace k4 := cell_of_ans hW k4
            replace s0 := cell_of_ans hW s0
            replace s1 := cell_of_ans hW s1
            go_simp
            first | done | with_reducible rfl | omega
          try simp only [Act.put, List.setIfInBounds_toArray, List.set_cons_zero, List.set_cons_succ]
          refine' T_take (i := 4) (v := _) rfl (by kernel_rfl) (by kernel_rfl) (by kernel_rfl) (by kernel_rfl) (fun _ _ _ h => h) (by kernel_rfl) hS ?_ ?_
          rotate_left 1
          · intro Wv hW
            replace k0 := cell_of_ans hW k0
            replace k1 := cell_of_ans hW k1
            replace k2 := cell_of_ans hW k2
            replace k3 := cell_of_ans hW k3
            replace k4 := cell_of_ans hW k4
            replace s0 := cell_of_ans hW s0
            replace s1 := cell_of_ans hW s1
            go_simp
            first | done | with_reducible rfl | omega
          try simp only [Act.put, List.setIfInBounds_toArray, List.set_cons_zero, List.set_cons_succ]
          refine' T_take (i := 5) (v := .bool true) rfl (by kernel_rfl) (by kernel_rfl) (by kernel_rfl) (by kernel_rfl) (fun _ _ _ h => h) (by kernel_rfl) hS ?_ ?_
          skip
          · intro Wv hW
            replace k0 := cell_of_ans hW k0
            replace k1 := cell_of_ans hW k1
            replace k2 := cell_of_ans hW k2
            replace k3 := cell_of_ans hW k3
            replace k4 := cell_of_ans hW k4
            replace s0 := cell_of_ans hW s0
            replace s1 := cell_of_ans hW s1
            go_simp
            first | done | with_reducible rfl | omega
          try simp only [Act.put, List.setIfInBounds_toArray, List.set_cons_zero, List.set_cons_succ]
          refine' T_skip (i := 6) rfl (by kernel_rfl) (by kernel_rfl) (by kernel_rfl) (by kernel_rfl) (fun _ _ _ h => h) (by kernel_rfl) hS ?_
          try simp only [Act.put, List.setIfInBounds_toArray, List.set_cons_zero, List.set_cons_succ]
          refine' T_skip (i := 7) rfl (by kernel_rfl) (by kernel_rfl) (by kernel_rfl) (by kernel_rfl) (fun _ _ _ h => h) (by kernel_rfl) hS ?_
          try simp only [Act.put, List.setIfInBounds_toArray, List.set_cons_zero, List.set_cons_succ]
          refine' T_take (i := 8) (v := _) rfl (by kernel_rfl) (by kernel_rfl) (by kernel_rfl) (by kernel_rfl) (fun _ _ _ h => h) (by kernel_rfl) hS ?_ ?_
          rotate_left 1
          · intro Wv hW
            replace k0 := cell_of_ans hW k0
            replace k1 := cell_of_ans hW k1
            replace k2 := cell_of_ans hW k2
            replace k3 := cell_of_ans hW k3
            replace k4 := cell_of_ans hW k4
            replace s0 := cell_of_ans hW s0
            replace s1 := cell_of_ans hW s1
            go_simp
            first | done | with_reducible rfl | omega
          try simp only [Act.put, List.setIfInBounds_toArray, List.set_cons_zero, List.set_cons_succ]
          refine' T_take (i := 9) (v := _) rfl (by kernel_rfl) (by kernel_rfl) (by kernel_rfl) (by kernel_rfl) (fun _ _ _ h => h) (by kernel_rfl) hS ?_ ?_
          rotate_left 1
          · intro Wv hW
            replace k0 := cell_of_ans hW k0
            replace k1 := cell_of_ans hW k1
            replace k2 := cell_of_ans hW k2
            replace k3 := cell_of_ans hW k3
            replace k4 := cell_of_ans hW k4
            replace s0 := cell_of_ans hW s0
            replace s1 := cell_of_ans hW s1
            go_simp
            first | done | with_reducible rfl | omega
          try simp only [Act.put, List.setIfInBounds_toArray, List.set_cons_zero, List.set_cons_succ]
          refine' T_take (i := 10) (v := .bool true) rfl (by kernel_rfl) (by kernel_rfl) (by kernel_rfl) (by kernel_rfl) (fun _ _ _ h => h) (by kernel_rfl) hS ?_ ?_
          skip
          · intro Wv hW
            replace k0 := cell_of_ans hW k0
            replace k1 := cell_of_ans hW k1
            replace k2 := cell_of_ans hW k2
            replace k3 := cell_of_ans hW k3
            replace k4 := cell_of_ans hW k4
            replace s0 := cell_of_ans hW s0
            replace s1 := cell_of_ans hW s1
            go_simp
            first | done | with_reducible rfl | omega
          try simp only [Act.put, List.setIfInBounds_toArray, List.set_cons_zero, List.set_cons_succ]
          refine' T_take (i := 11) (v := _) rfl (by kernel_rfl) (by kernel_rfl) (by kernel_rfl) (by kernel_rfl) (fun _ _ _ h => h) (by kernel_rfl) hS ?_ ?_
          rotate_left 1
          · intro Wv hW
            replace k0 := cell_of_ans hW k0
            replace k1 := cell_of_ans hW k1
            replace k2 := cell_of_ans hW k2
            replace k3 := cell_of_ans hW k3
            replace k4 := cell_of_ans hW k4
            replace s0 := cell_of_ans hW s0
            replace s1 := cell_of_ans hW s1
            go_simp
            first | done | with_reducible rfl | omega
          try simp only [Act.put, List.setIfInBounds_toArray, List.set_cons_zero, List.set_cons_succ]
          refine' T_take (i := 13) (v := _) rfl (by kernel_rfl) (by kernel_rfl) (by kernel_rfl) (by kernel_rfl) (fun _ _ _ h => h) (by kernel_rfl) hS ?_ ?_
          rotate_left 1
          · intro Wv hW
            replace k0 := cell_of_ans hW k0
            replace k1 := cell_of_ans hW k1
            replace k2 := cell_of_ans hW k2
            replace k3 := cell_of_ans hW k3
            replace k4 := cell_of_ans hW k4
            replace s0 := cell_of_ans hW s0
            replace s1 := cell_of_ans hW s1
            go_simp
            first | done | with_reducible rfl | omega
          try simp only [Act.put, List.setIfInBounds_toArray, List.set_cons_zero, List.set_cons_succ]
          refine' T_take (i := 15) (v := _) rfl (by kernel_rfl) (by kernel_rfl) (by kernel_rfl) (by kernel_rfl) (fun _ _ _ h => h) (by kernel_rfl) hS ?_ ?_
          rotate_left 1
          · intro Wv hW
            replace k0 := cell_of_ans hW k0
            replace k1 := cell_of_ans hW k1
            replace k2 := cell_of_ans hW k2
            replace k3 := cell_of_ans hW k3
            replace k4 := cell_of_ans hW k4
            replace s0 := cell_of_ans hW s0
            replace s1 := cell_of_ans hW s1
            go_simp
            first | done | with_reducible rfl | omega
          try simp only [Act.put, List.setIfInBounds_toArray, List.set_cons_zero, List.set_cons_succ]
          refine' T_take (i := 16) (v := _) rfl (by kernel_rfl) (by kernel_rfl) (by kernel_rfl) (by kernel_rfl) (fun _ _ _ h => h) (by kernel_rfl) hS ?_ ?_
          rotate_left 1
          · intro Wv hW
            replace k0 := cell_of_ans hW k0
            replace k1 := cell_of_ans hW k1
            replace k2 := cell_of_ans hW k2
            replace k3 := cell_of_ans hW k3
            replace k4 := cell_of_ans hW k4
            replace s0 := cell_of_ans hW s0
            replace s1 := cell_of_ans hW s1
            go_simp
            first | done | with_reducible rfl | omega
          try simp only [Act.put, List.setIfInBounds_toArray, List.set_cons_zero, List.set_cons_succ]
          refine' T_take (i := 17) (v := _) rfl (by kernel_rfl) (by kernel_rfl) (by kernel_rfl) (by kernel_rfl) (fun _ _ _ h => h) (by kernel_rfl) hS ?_ ?_
          rotate_left 1
          · intro Wv hW
            replace k0 := cell_of_ans hW k0
            replace k1 := cell_of_ans hW k1
            replace k2 := cell_of_ans hW k2
            replace k3 := cell_of_ans hW k3
            replace k4 := cell_of_ans hW k4
            replace s0 := cell_of_ans hW s0
            replace s1 := cell_of_ans hW s1
            go_simp
            first | done | with_reducible rfl | omega
          try simp only [Act.put, List.setIfInBounds_toArray, List.set_cons_zero, List.set_cons_succ]
          refine' T_take (i := 18) (v := _) rfl (by kernel_rfl) (by kernel_rfl) (by kernel_rfl) (by kernel_rfl) (fun _ _ _ h => h) (by kernel_rfl) hS ?_ ?_
          rotate_left 1
          · intro Wv hW
            replace k0 := cell_of_ans hW k0
            replace k1 := cell_of_ans hW k1
            replace k2 := cell_of_ans hW k2
            replace k3 := cell_of_ans hW k3
            replace k4 := cell_of_ans hW k4
            replace s0 := cell_of_ans hW s0
            replace s1 := cell_of_ans hW s1
            go_simp
            first | done | with_reducible rfl | omega
          try simp only [Act.put, List.setIfInBounds_toArray, List.set_cons_zero, List.set_cons_succ]
          refine' T_take (i := 19) (v := _) rfl (by kernel_rfl) (by kernel_rfl) (by kernel_rfl) (by kernel_rfl) (fun _ _ _ h => h) (by kernel_rfl) hS ?_ ?_
          rotate_left 1
          · intro Wv hW
            replace k0 := cell_of_ans hW k0
            replace k1 := cell_of_ans hW k1
            replace k2 := cell_of_ans hW k2
            replace k3 := cell_of_ans hW k3
            replace k4 := cell_of_ans hW k4
            replace s0 := cell_of_ans hW s0
            replace s1 := cell_of_ans hW s1
            go_simp
            first | done | with_reducible rfl | omega
          try simp only [Act.put, List.setIfInBounds_toArray, List.set_cons_zero, List.set_cons_succ]
          refine T_ready (rs := [12]) (by kernel_rfl) (by simp) ?_
          refine TReady.cons rfl (fun K hK => ?_) TReady.nil
          try go_simp
          refine (rack18_c r A c _ (HL.out.step hS) hc hlen).mono ?_
          rintro e v1 ⟨A6, c6, rfl, ⟨hl6, hc6⟩, hb⟩
          have hS2 : Below w11.heap.size w11 v1 := below_cat hb hS
          have Hhl6 := Lib.hid hl6
          clear hl6
          try go_simp
          refine hK.out _ _ (fun _ => hS2) (fun _ => ?_)
          clear hK K hS hb
          replace hS := hS2
          clear hS2
          try simp only [Act.put, List.setIfInBounds_toArray, List.set_cons_zero, List.set_cons_succ]
          refine T_ready (rs := [14]) (by kernel_rfl) (by simp) ?_
          refine TReady.cons rfl (fun K hK => ?_) TReady.nil
          try go_simp
          refine (list_c xA xs cx _ (HX.out.step hS) hxl).mono ?_
          rintro e v2 ⟨B6, d6, rfl, ho6, hb⟩
          have hS2 : Below w11.heap.size w11 v2 := below_cat hb hS
          obtain ⟨hd6, he6, hi6⟩ := isInts_parts (ownsRow_isInts ho6)
          have Hhi6 := Lib.hid hi6
          clear hi6 ho6
          replace Hhl6 := Lib.hid (Hhl6.out.step hb)
          try go_simp
          refine hK.out _ _ (fun _ => hS2) (fun _ => ?_)
          clear hK K hS hb
          replace hS := hS2
          clear hS2
          try simp only [Act.put, List.setIfInBounds_toArray, List.set_cons_zero, List.set_cons_succ]
          refine T_ready (rs := [20]) (by kernel_rfl) (by simp) ?_
          refine TReady.cons rfl (fun K hK => ?_) TReady.nil
          try go_simp
          refine (HPV.out _ _ _ _ _ Hhl6.out hc6 Hhi6.out ⟨hd6, he6⟩).mono ?_
          rintro e v3 ⟨rfl, hb⟩
          have hS2 : Below w11.heap.size w11 v3 := below_cat hb hS
          clear Hhl6 Hhi6
          try go_simp
          refine hK.out _ _ (fun _ => hS2) (fun _ => ?_)
          clear hK K hS hb
          replace hS := hS2
          clear hS2
          try simp only [Act.put, List.setIfInBounds_toArray, List.set_cons_zero, List.set_cons_succ]
          refine' T_take (i := 21) (v := _) rfl (by kernel_rfl) (by kernel_rfl) (by kernel_rfl) (by kernel_rfl) (fun _ _ _ h => h) (by kernel_rfl) hS ?_ ?_
          rotate_left 1
          · intro Wv hW
            replace k0 := cell_of_ans hW k0
            replace k1 := cell_of_ans hW k1
            replace k2 := cell_of_ans hW k2
            replace k3 := cell_of_ans hW k3
            replace k4 := cell_of_ans hW k4
            replace s0 := cell_of_ans hW s0
            replace s1 := cell_of_ans hW s1
            go_simp
            first | done | with_reducible rfl | omega
          try simp only [Act.put, List.setIfInBounds_toArray, List.set_cons_zero, List.set_cons_succ]
          refine' T_take (i := 22) (v := _) rfl (by kernel_rfl) (by kernel_rfl) (by kernel_rfl) (by kernel_rfl) (fun _ _ _ h => h) (by kernel_rfl) hS ?_ ?_
          rotate_left 1
          · intro Wv hW
            replace k0 := cell_of_ans hW k0
            replace k1 := cell_of_ans hW k1
            replace k2 := cell_of_ans hW k2
            replace k3 := cell_of_ans hW k3
            replace k4 := cell_of_ans hW k4
            replace s0 := cell_of_ans hW s0
            replace s1 := cell_of_ans hW s1
            go_simp
            first | done | with_reducible rfl | omega
          try simp only [Act.put, List.setIfInBounds_toArray, List.set_cons_zero, List.set_cons_succ]
          refine' T_take (i := 23) (v := .bool true) rfl (by kernel_rfl) (by kernel_rfl) (by kernel_rfl) (by kernel_rfl) (fun _ _ _ h => h) (by kernel_rfl) hS ?_ ?_
          skip
          · intro Wv hW
            replace k0 := cell_of_ans hW k0
            replace k1 := cell_of_ans hW k1
            replace k2 := cell_of_ans hW k2
            replace k3 := cell_of_ans hW k3
            replace k4 := cell_of_ans hW k4
            replace s0 := cell_of_ans hW s0
            replace s1 := cell_of_ans hW s1
            go_simp
            first | done | with_reducible rfl | omega
          try simp only [Act.put, List.setIfInBounds_toArray, List.set_cons_zero, List.set_cons_succ]
          refine T_ready (rs := [24]) (by kernel_rfl) (by simp) ?_
          refine TReady.cons rfl (fun K hK => ?_) TReady.nil
          try go_simp
          refine (awake16_c _).mono ?_
          rintro e v4 ⟨rfl, hb⟩
          have hS2 : Below w11.heap.size w11 v4 := below_cat hb hS
          try go_simp
          refine hK.out _ _ (fun _ => hS2) (fun _ => ?_)
          clear hK K hS hb
          replace hS := hS2
          clear hS2
          try simp only [Act.put, List.setIfInBounds_toArray, List.set_cons_zero, List.set_cons_succ]
          refine' T_take (i := 25) (v := _) rfl (by kernel_rfl) (by kernel_rfl) (by kernel_rfl) (by kernel_rfl) (fun _ _ _ h => h) (by kernel_rfl) hS ?_ ?_
          rotate_left 1
          · intro Wv hW
            replace k0 := cell_of_ans hW k0
            replace k1 := cell_of_ans hW k1
            replace k2 := cell_of_ans hW k2
            replace k3 := cell_of_ans hW k3
            replace k4 := cell_of_ans hW k4
            replace s0 := cell_of_ans hW s0
            replace s1 := cell_of_ans hW s1
            go_simp
            first | done | with_reducible rfl | omega
          try simp only [Act.put, List.setIfInBounds_toArray, List.set_cons_zero, List.set_cons_succ]
          refine' T_take (i := 26) (v := _) rfl (by kernel_rfl) (by kernel_rfl) (by kernel_rfl) (by kernel_rfl) (fun _ _ _ h => h) (by kernel_rfl) hS ?_ ?_
          rotate_left 1
          · intro Wv hW
            replace k0 := cell_of_ans hW k0
            replace k1 := cell_of_ans hW k1
            replace k2 := cell_of_ans hW k2
            replace k3 := cell_of_ans hW k3
            replace k4 := cell_of_ans hW k4
            replace s0 := cell_of_ans hW s0
            replace s1 := cell_of_ans hW s1
            go_simp
            first | done | with_reducible rfl | omega
          try simp only [Act.put, List.setIfInBounds_toArray, List.set_cons_zero, List.set_cons_succ]
          refine T_done (by kernel_rfl) ?_ _
          refine NoPanic.normal ?_
          try go_simp
          have hb := hS
          clear hS
          replace HL := Lib.hid (HL.out.step hb)
          replace HX := Lib.hid (HX.out.step hb)
          replace k0 := cell_of_ans hb k0
          replace k1 := cell_of_ans hb k1
          replace k2 := cell_of_ans hb k2
          replace k3 := cell_of_ans hb k3
          replace k4 := cell_of_ans hb k4
          replace s0 := cell_of_ans hb s0
          replace s1 := cell_of_ans hb s1
          replace l0 := cell_of_ans hb l0
          replace l1 := cell_of_ans hb l1
          replace HB := Lib.hid (HB.out.trans (hb.mono HB.out.size))
          clear hb
          go_wp2_with fail
          go_ret
          exact ⟨rfl, HB.out⟩
        · rw [e] at HC1
          clear e
          go_enter Try.func5, Try.ntmps5
          go_wp2_with fail
          generalize ((w.alloc (.cells #[.int .i64 r.rows, .int .i64 r.mid, .int .i64 r.gap, .int .i64 r.reach, .slice A r.links.length c] 24)).alloc (.cells #[.int .i64 st, .int .i64 dr] 50)) = x1 at *
          refine (HTH.out _).mono ?_
          rintro e x6 ⟨rfl, hb⟩
          replace HL := Lib.hid (HL.out.step hb)
          replace HX := Lib.hid (HX.out.step hb)
          replace k0 := cell_of_ans hb k0
          replace k1 := cell_of_ans hb k1
          replace k2 := cell_of_ans hb k2
          replace k3 := cell_of_ans hb k3
          replace k4 := cell_of_ans hb k4
          replace s0 := cell_of_ans hb s0
          replace s1 := cell_of_ans hb s1
          replace HB := Lib.hid (HB.out.trans (hb.mono HB.out.size))
          clear hb
          clear HTH
          go_wp2_with fail
          refine (HPN.out _ HL.out HX.out).mono ?_
          rintro e x7 ⟨rfl, hb⟩
          replace HL := Lib.hid (HL.out.step hb)
          replace HX := Lib.hid (HX.out.step hb)
          replace k0 := cell_of_ans hb k0
          replace k1 := cell_of_ans hb k1
          replace k2 := cell_of_ans hb k2
          replace k3 := cell_of_ans hb k3
          replace k4 := cell_of_ans hb k4
          replace s0 := cell_of_ans hb s0
          replace s1 := cell_of_ans hb s1
          replace HB := Lib.hid (HB.out.trans (hb.mono HB.out.size))
          clear hb
          clear HPN
          go_wp2_with fail
          refine (rack18_c r A c _ HL.out hc hlen).mono ?_
          rintro e w4 ⟨A4, c4, rfl, ⟨hl4, hc4⟩, hb⟩
          replace HL := Lib.hid (HL.out.step hb)
          replace HX := Lib.hid (HX.out.step hb)
          replace k0 := cell_of_ans hb k0
          replace k1 := cell_of_ans hb k1
          replace k2 := cell_of_ans hb k2
          replace k3 := cell_of_ans hb k3
          replace k4 := cell_of_ans hb k4
          replace s0 := cell_of_ans hb s0
          replace s1 := cell_of_ans hb s1
          replace HB := Lib.hid (HB.out.trans (hb.mono HB.out.size))
          clear hb
          have Hhl4 := Lib.hid hl4
          clear hl4
          go_wp2_with fail
          refine (list_c xA xs cx _ HX.out hxl).mono ?_
          rintro e w5 ⟨B4, d4, rfl, ho4, hb⟩
          obtain ⟨hd4, he4, hi4⟩ := isInts_parts (ownsRow_isInts ho4)
          clear ho4
          replace HL := Lib.hid (HL.out.step hb)
          replace HX := Lib.hid (HX.out.step hb)
          replace k0 := cell_of_ans hb k0
          replace k1 := cell_of_ans hb k1
          replace k2 := cell_of_ans hb k2
          replace k3 := cell_of_ans hb k3
          replace k4 := cell_of_ans hb k4
          replace s0 := cell_of_ans hb s0
          replace s1 := cell_of_ans hb s1
          replace Hhl4 := Lib.hid (Hhl4.out.step hb)
          replace HB := Lib.hid (HB.out.trans (hb.mono HB.out.size))
          clear hb
          have Hhi4 := Lib.hid hi4
          clear hi4
          go_wp2_with fail
          refine (HC0.out _ _ _ _ _ Hhl4.out hc4 Hhi4.out ⟨hd4, he4⟩).mono ?_
          rintro e w6 ⟨rfl, hb⟩
          replace HL := Lib.hid (HL.out.step hb)
          replace HX := Lib.hid (HX.out.step hb)
          replace k0 := cell_of_ans hb k0
          replace k1 := cell_of_ans hb k1
          replace k2 := cell_of_ans hb k2
          replace k3 := cell_of_ans hb k3
          replace k4 := cell_of_ans hb k4
          replace s0 := cell_of_ans hb s0
          replace s1 := cell_of_ans hb s1
          replace Hhl4 := Lib.hid (Hhl4.out.step hb)
          replace Hhi4 := Lib.hid (Hhi4.out.step hb)
          replace HB := Lib.hid (HB.out.trans (hb.mono HB.out.size))
          clear hb
          clear Hhl4 Hhi4
          have ltk0 := World.block_lt_of_cell? _ _ k0
          dsimp only at ltk0
          have lts0 := World.block_lt_of_cell? _ _ s0
          dsimp only at lts0
          go_upto_region 4 with fail
          have hb : Below w6.heap.size w6 (w6.alloc (.cells #[.int .i64 a, .int .i64 b] 51)) := (Below.refl _ _).alloc (Nat.le_refl _) _
          replace HL := Lib.hid (HL.out.step hb)
          replace HX := Lib.hid (HX.out.step hb)
          replace k0 := cell_of_ans hb k0
          replace k1 := cell_of_ans hb k1
          replace k2 := cell_of_ans hb k2
          replace k3 := cell_of_ans hb k3
          replace k4 := cell_of_ans hb k4
          replace s0 := cell_of_ans hb s0
          replace s1 := cell_of_ans hb s1
          replace HB := Lib.hid (HB.out.trans (hb.mono HB.out.size))
          clear hb
          have l0 : (w6.alloc (.cells #[.int .i64 a, .int .i64 b] 51)).cell? ⟨w6.heap.size, 0, none⟩ = some (.int .i64 a) := by simp
          have l1 : (w6.alloc (.cells #[.int .i64 a, .int .i64 b] 51)).cell? ⟨w6.heap.size, 1, none⟩ = some (.int .i64 b) := by simp
          generalize (w6.alloc (.cells #[.int .i64 a, .int .i64 b] 51)) = w7 at *
          generalize w6.heap.size = nq at *
          go_wp2_with fail
          refine (rack18_c r A c _ HL.out hc hlen).mono ?_
          rintro e w8 ⟨A5, c5, rfl, ⟨hl5, hc5⟩, hb⟩
          replace HL := Lib.hid (HL.out.step hb)
          replace HX := Lib.hid (HX.out.step hb)
          replace k0 := cell_of_ans hb k0
          replace k1 := cell_of_ans hb k1
          replace k2 := cell_of_ans hb k2
          replace k3 := cell_of_ans hb k3
          replace k4 := cell_of_ans hb k4
          replace s0 := cell_of_ans hb s0
          replace s1 := cell_of_ans hb s1
          replace l0 := cell_of_ans hb l0
          replace l1 := cell_of_ans hb l1
          replace HB := Lib.hid (HB.out.trans (hb.mono HB.out.size))
          clear hb
          have Hhl5 := Lib.hid hl5
          clear hl5
          go_wp2_with fail
          refine (list_c xA xs cx _ HX.out hxl).mono ?_
          rintro e w9 ⟨B5, d5, rfl, ho5, hb⟩
          obtain ⟨hd5, he5, hi5⟩ := isInts_parts (ownsRow_isInts ho5)
          clear ho5
          replace HL := Lib.hid (HL.out.step hb)
          replace HX := Lib.hid (HX.out.step hb)
          replace k0 := cell_of_ans hb k0
          replace k1 := cell_of_ans hb k1
          replace k2 := cell_of_ans hb k2
          replace k3 := cell_of_ans hb k3
          replace k4 := cell_of_ans hb k4
          replace s0 := cell_of_ans hb s0
          replace s1 := cell_of_ans hb s1
          replace l0 := cell_of_ans hb l0
          replace l1 := cell_of_ans hb l1
          replace Hhl5 := Lib.hid (Hhl5.out.step hb)
          replace HB := Lib.hid (HB.out.trans (hb.mono HB.out.size))
          clear hb
          have Hhi5 := Lib.hid hi5
          clear hi5
          go_wp2_with fail
          refine (HC1.out _ _ _ _ _ Hhl5.out hc5 Hhi5.out ⟨hd5, he5⟩).mono ?_
          rintro e w10 ⟨rfl, hb⟩
          replace HL := Lib.hid (HL.out.step hb)
          replace HX := Lib.hid (HX.out.step hb)
          replace k0 := cell_of_ans hb k0
          replace k1 := cell_of_ans hb k1
          replace k2 := cell_of_ans hb k2
          replace k3 := cell_of_ans hb k3
          replace k4 := cell_of_ans hb k4
          replace s0 := cell_of_ans hb s0
          replace s1 := cell_of_ans hb s1
          replace l0 := cell_of_ans hb l0
          replace l1 := cell_of_ans hb l1
          replace Hhl5 := Lib.hid (Hhl5.out.step hb)
          replace Hhi5 := Lib.hid (Hhi5.out.step hb)
          replace HB := Lib.hid (HB.out.trans (hb.mono HB.out.size))
          clear hb
          clear Hhl5 Hhi5
          have ltl0 := World.block_lt_of_cell? _ _ l0
          dsimp only at ltl0
          go_upto_region 5 with fail
          have hb : Below w10.heap.size w10 (w10.alloc (.cells #[.int .i64 a2, .int .i64 b2] 51)) := (Below.refl _ _).alloc (Nat.le_refl _) _
          replace HL := Lib.hid (HL.out.step hb)
          replace HX := Lib.hid (HX.out.step hb)
          replace k0 := cell_of_ans hb k0
          replace k1 := cell_of_ans hb k1
          replace k2 := cell_of_ans hb k2
          replace k3 := cell_of_ans hb k3
          replace k4 := cell_of_ans hb k4
          replace s0 := cell_of_ans hb s0
          replace s1 := cell_of_ans hb s1
          replace l0 := cell_of_ans hb l0
          replace l1 := cell_of_ans hb l1
          replace HB := Lib.hid (HB.out.trans (hb.mono HB.out.size))
          clear hb
          generalize (w10.alloc (.cells #[.int .i64 a2, .int .i64 b2] 51)) = w11 at *
          generalize w10.heap.size = nq2 at *
          go_upto_region 6 with fail
          refine wp_region_noPanic ?_
          have hS : (fun W' : World => Below w11.heap.size w11 W') w11.drew := (Below.refl _ _).drew
          refine wp_region_any (by kernel_rfl) (wpAny_of_T (S := fun W' : World => Below w11.heap.size w11 W') (m := 27) _ _ _ _ ?_)
          refine' T_take (i := 0) (v := _) rfl (by kernel_rfl) (by kernel_rfl) (by kernel_rfl) (by kernel_rfl) (fun _ _ _ h => h) (by kernel_rfl) hS ?_ ?_
          rotate_left 1
          · intro Wv hW
            replace k0 := cell_of_ans hW k0
            replace k1 := cell_of_ans hW k1
            replace k2 := cell_of_ans hW k2
            replace k3 := cell_of_ans hW k3
            replace k4 := cell_of_ans hW k4
            replace s0 := cell_of_ans hW s0
            replace s1 := cell_of_ans hW s1
            go_simp
            first | done | with_reducible rfl | omega
          try simp only [Act.put, List.setIfInBounds_toArray, List.set_cons_zero, List.set_cons_succ]
          refine' T_take (i := 1) (v := _) rfl (by kernel_rfl) (by kernel_rfl) (by kernel_rfl) (by kernel_rfl) (fun _ _ _ h => h) (by kernel_rfl) hS ?_ ?_
          rotate_left 1
          · intro Wv hW
            replace k0 := cell_of_ans hW k0
            replace k1 := cell_of_ans hW k1
            replace k2 := cell_of_ans hW k2
            replace k3 := cell_of_ans hW k3
            replace k4 := cell_of_ans hW k4
            replace s0 := cell_of_ans hW s0
            replace s1 := cell_of_ans hW s1
            go_simp
            first | done | with_reducible rfl | omega
          try simp only [Act.put, List.setIfInBounds_toArray, List.set_cons_zero, List.set_cons_succ]
          refine' T_take (i := 2) (v := .bool true) rfl (by kernel_rfl) (by kernel_rfl) (by kernel_rfl) (by kernel_rfl) (fun _ _ _ h => h) (by kernel_rfl) hS ?_ ?_
          skip
          · intro Wv hW
            replace k0 := cell_of_ans hW k0
            replace k1 := cell_of_ans hW k1
            replace k2 := cell_of_ans hW k2
            replace k3 := cell_of_ans hW k3
            replace k4 := cell_of_ans hW k4
            replace s0 := cell_of_ans hW s0
            replace s1 := cell_of_ans hW s1
            go_simp
            first | done | with_reducible rfl | omega
          try simp only [Act.put, List.setIfInBounds_toArray, List.set_cons_zero, List.set_cons_succ]
          refine' T_take (i := 3) (v := _) rfl (by kernel_rfl) (by kernel_rfl) (by kernel_rfl) (by kernel_rfl) (fun _ _ _ h => h) (by kernel_rfl) hS ?_ ?_
          rotate_left 1
          · intro Wv hW
            replace k0 := cell_of_ans hW k0
            replace k1 := cell_of_ans hW k1
            replace k2 := cell_of_ans hW k2
            replace k3 := cell_of_ans hW k3
            replace k4 := cell_of_ans hW k4
            replace s0 := cell_of_ans hW s0
            replace s1 := cell_of_ans hW s1
            go_simp
            first | done | with_reducible rfl | omega
          try simp only [Act.put, List.setIfInBounds_toArray, List.set_cons_zero, List.set_cons_succ]
          refine' T_take (i := 4) (v := _) rfl (by kernel_rfl) (by kernel_rfl) (by kernel_rfl) (by kernel_rfl) (fun _ _ _ h => h) (by kernel_rfl) hS ?_ ?_
          rotate_left 1
          · intro Wv hW
            replace k0 := cell_of_ans hW k0
            replace k1 := cell_of_ans hW k1
            replace k2 := cell_of_ans hW k2
            replace k3 := cell_of_ans hW k3
            replace k4 := cell_of_ans hW k4
            replace s0 := cell_of_ans hW s0
            replace s1 := cell_of_ans hW s1
            go_simp
            first | done | with_reducible rfl | omega
          try simp only [Act.put, List.setIfInBounds_toArray, List.set_cons_zero, List.set_cons_succ]
          refine' T_take (i := 5) (v := .bool false) rfl (by kernel_rfl) (by kernel_rfl) (by kernel_rfl) (by kernel_rfl) (fun _ _ _ h => h) (by kernel_rfl) hS ?_ ?_
          skip
          · intro Wv hW
            replace k0 := cell_of_ans hW k0
            replace k1 := cell_of_ans hW k1
            replace k2 := cell_of_ans hW k2
            replace k3 := cell_of_ans hW k3
            replace k4 := cell_of_ans hW k4
            replace s0 := cell_of_ans hW s0
            replace s1 := cell_of_ans hW s1
            go_simp
            first | done | with_reducible rfl | omega
          try simp only [Act.put, List.setIfInBounds_toArray, List.set_cons_zero, List.set_cons_succ]
          refine' T_take (i := 6) (v := _) rfl (by kernel_rfl) (by kernel_rfl) (by kernel_rfl) (by kernel_rfl) (fun _ _ _ h => h) (by kernel_rfl) hS ?_ ?_
          rotate_left 1
          · intro Wv hW
            replace k0 := cell_of_ans hW k0
            replace k1 := cell_of_ans hW k1
            replace k2 := cell_of_ans hW k2
            replace k3 := cell_of_ans hW k3
            replace k4 := cell_of_ans hW k4
            replace s0 := cell_of_ans hW s0
            replace s1 := cell_of_ans hW s1
            go_simp
            first | done | with_reducible rfl | omega
          try simp only [Act.put, List.setIfInBounds_toArray, List.set_cons_zero, List.set_cons_succ]
          refine' T_take (i := 7) (v := _) rfl (by kernel_rfl) (by kernel_rfl) (by kernel_rfl) (by kernel_rfl) (fun _ _ _ h => h) (by kernel_rfl) hS ?_ ?_
          rotate_left 1
          · intro Wv hW
            replace k0 := cell_of_ans hW k0
            replace k1 := cell_of_ans hW k1
            replace k2 := cell_of_ans hW k2
            replace k3 := cell_of_ans hW k3
            replace k4 := cell_of_ans hW k4
            replace s0 := cell_of_ans hW s0
            replace s1 := cell_of_ans hW s1
            go_simp
            first | done | with_reducible rfl | omega
          try simp only [Act.put, List.setIfInBounds_toArray, List.set_cons_zero, List.set_cons_succ]
          refine' T_take (i := 8) (v := _) rfl (by kernel_rfl) (by kernel_rfl) (by kernel_rfl) (by kernel_rfl) (fun _ _ _ h => h) (by kernel_rfl) hS ?_ ?_
          rotate_left 1
          · intro Wv hW
            replace k0 := cell_of_ans hW k0
            replace k1 := cell_of_ans hW k1
            replace k2 := cell_of_ans hW k2
            replace k3 := cell_of_ans hW k3
            replace k4 := cell_of_ans hW k4
            replace s0 := cell_of_ans hW s0
            replace s1 := cell_of_ans hW s1
            go_simp
            first | done | with_reducible rfl | omega
          try simp only [Act.put, List.setIfInBounds_toArray, List.set_cons_zero, List.set_cons_succ]
          refine' T_take (i := 9) (v := _) rfl (by kernel_rfl) (by kernel_rfl) (by kernel_rfl) (by kernel_rfl) (fun _ _ _ h => h) (by kernel_rfl) hS ?_ ?_
          rotate_left 1
          · intro Wv hW
            replace k0 := cell_of_ans hW k0
            replace k1 := cell_of_ans hW k1
            replace k2 := cell_of_ans hW k2
            replace k3 := cell_of_ans hW k3
            replace k4 := cell_of_ans hW k4
            replace s0 := cell_of_ans hW s0
            replace s1 := cell_of_ans hW s1
            go_simp
            first | done | with_reducible rfl | omega
          try simp only [Act.put, List.setIfInBounds_toArray, List.set_cons_zero, List.set_cons_succ]
          refine' T_take (i := 10) (v := .bool true) rfl (by kernel_rfl) (by kernel_rfl) (by kernel_rfl) (by kernel_rfl) (fun _ _ _ h => h) (by kernel_rfl) hS ?_ ?_
          skip
          · intro Wv hW
            replace k0 := cell_of_ans hW k0
            replace k1 := cell_of_ans hW k1
            replace k2 := cell_of_ans hW k2
            replace k3 := cell_of_ans hW k3
            replace k4 := cell_of_ans hW k4
            replace s0 := cell_of_ans hW s0
            replace s1 := cell_of_ans hW s1
            go_simp
            first | done | with_reducible rfl | omega
          try simp only [Act.put, List.setIfInBounds_toArray, List.set_cons_zero, List.set_cons_succ]
          refine' T_take (i := 11) (v := _) rfl (by kernel_rfl) (by kernel_rfl) (by kernel_rfl) (by kernel_rfl) (fun _ _ _ h => h) (by kernel_rfl) hS ?_ ?_
          rotate_left 1
          · intro Wv hW
            replace k0 := cell_of_ans hW k0
            replace k1 := cell_of_ans hW k1
            replace k2 := cell_of_ans hW k2
            replace k3 := cell_of_ans hW k3
            replace k4 := cell_of_ans hW k4
            replace s0 := cell_of_ans hW s0
            replace s1 := cell_of_ans hW s1
            go_simp
            first | done | with_reducible rfl | omega
          try simp only [Act.put, List.setIfInBounds_toArray, List.set_cons_zero, List.set_cons_succ]
          refine' T_take (i := 13) (v := _) rfl (by kernel_rfl) (by kernel_rfl) (by kernel_rfl) (by kernel_rfl) (fun _ _ _ h => h) (by kernel_rfl) hS ?_ ?_
          rotate_left 1
          · intro Wv hW
            replace k0 := cell_of_ans hW k0
            replace k1 := cell_of_ans hW k1
            replace k2 := cell_of_ans hW k2
            replace k3 := cell_of_ans hW k3
            replace k4 := cell_of_ans hW k4
            replace s0 := cell_of_ans hW s0
            replace s1 := cell_of_ans hW s1
            go_simp
            first | done | with_reducible rfl | omega
          try simp only [Act.put, List.setIfInBounds_toArray, List.set_cons_zero, List.set_cons_succ]
          refine' T_take (i := 15) (v := _) rfl (by kernel_rfl) (by kernel_rfl) (by kernel_rfl) (by kernel_rfl) (fun _ _ _ h => h) (by kernel_rfl) hS ?_ ?_
          rotate_left 1
          · intro Wv hW
            replace k0 := cell_of_ans hW k0
            replace k1 := cell_of_ans hW k1
            replace k2 := cell_of_ans hW k2
            replace k3 := cell_of_ans hW k3
            replace k4 := cell_of_ans hW k4
            replace s0 := cell_of_ans hW s0
            replace s1 := cell_of_ans hW s1
            go_simp
            first | done | with_reducible rfl | omega
          try simp only [Act.put, List.setIfInBounds_toArray, List.set_cons_zero, List.set_cons_succ]
          refine' T_take (i := 16) (v := _) rfl (by kernel_rfl) (by kernel_rfl) (by kernel_rfl) (by kernel_rfl) (fun _ _ _ h => h) (by kernel_rfl) hS ?_ ?_
          rotate_left 1
          · intro Wv hW
            replace k0 := cell_of_ans hW k0
            replace k1 := cell_of_ans hW k1
            replace k2 := cell_of_ans hW k2
            replace k3 := cell_of_ans hW k3
            replace k4 := cell_of_ans hW k4
            replace s0 := cell_of_ans hW s0
            replace s1 := cell_of_ans hW s1
            go_simp
            first | done | with_reducible rfl | omega
          try simp only [Act.put, List.setIfInBounds_toArray, List.set_cons_zero, List.set_cons_succ]
          refine' T_take (i := 17) (v := _) rfl (by kernel_rfl) (by kernel_rfl) (by kernel_rfl) (by kernel_rfl) (fun _ _ _ h => h) (by kernel_rfl) hS ?_ ?_
          rotate_left 1
          · intro Wv hW
            replace k0 := cell_of_ans hW k0
            replace k1 := cell_of_ans hW k1
            replace k2 := cell_of_ans hW k2
            replace k3 := cell_of_ans hW k3
            replace k4 := cell_of_ans hW k4
            replace s0 := cell_of_ans hW s0
            replace s1 := cell_of_ans hW s1
            go_simp
            first | done | with_reducible rfl | omega
          try simp only [Act.put, List.setIfInBounds_toArray, List.set_cons_zero, List.set_cons_succ]
          refine' T_take (i := 18) (v := _) rfl (by kernel_rfl) (by kernel_rfl) (by kernel_rfl) (by kernel_rfl) (fun _ _ _ h => h) (by kernel_rfl) hS ?_ ?_
          rotate_left 1
          · intro Wv hW
            replace k0 := cell_of_ans hW k0
            replace k1 := cell_of_ans hW k1
            replace k2 := cell_of_ans hW k2
            replace k3 := cell_of_ans hW k3
            replace k4 := cell_of_ans hW k4
            replace s0 := cell_of_ans hW s0
            replace s1 := cell_of_ans hW s1
            go_simp
            first | done | with_reducible rfl | omega
          try simp only [Act.put, List.setIfInBounds_toArray, List.set_cons_zero, List.set_cons_succ]
          refine' T_take (i := 19) (v := _) rfl (by kernel_rfl) (by kernel_rfl) (by kernel_rfl) (by kernel_rfl) (fun _ _ _ h => h) (by kernel_rfl) hS ?_ ?_
          rotate_left 1
          · intro Wv hW
            replace k0 := cell_of_ans hW k0
            replace k1 := cell_of_ans hW k1
            replace k2 := cell_of_ans hW k2
            replace k3 := cell_of_ans hW k3
            replace k4 := cell_of_ans hW k4
            replace s0 := cell_of_ans hW s0
            replace s1 := cell_of_ans hW s1
            go_simp
            first | done | with_reducible rfl | omega
          try simp only [Act.put, List.setIfInBounds_toArray, List.set_cons_zero, List.set_cons_succ]
          refine T_ready (rs := [12]) (by kernel_rfl) (by simp) ?_
          refine TReady.cons rfl (fun K hK => ?_) TReady.nil
          try go_simp
          refine (rack18_c r A c _ (HL.out.step hS) hc hlen).mono ?_
          rintro e v1 ⟨A6, c6, rfl, ⟨hl6, hc6⟩, hb⟩
          have hS2 : Below w11.heap.size w11 v1 := below_cat hb hS
          have Hhl6 := Lib.hid hl6
          clear hl6
          try go_simp
          refine hK.out _ _ (fun _ => hS2) (fun _ => ?_)
          clear hK K hS hb
          replace hS := hS2
          clear hS2
          try simp only [Act.put, List.setIfInBounds_toArray, List.set_cons_zero, List.set_cons_succ]
          refine T_ready (rs := [14]) (by kernel_rfl) (by simp) ?_
          refine TReady.cons rfl (fun K hK => ?_) TReady.nil
          try go_simp
          refine (list_c xA xs cx _ (HX.out.step hS) hxl).mono ?_
          rintro e v2 ⟨B6, d6, rfl, ho6, hb⟩
          have hS2 : Below w11.heap.size w11 v2 := below_cat hb hS
          obtain ⟨hd6, he6, hi6⟩ := isInts_parts (ownsRow_isInts ho6)
          have Hhi6 := Lib.hid hi6
          clear hi6 ho6
          replace Hhl6 := Lib.hid (Hhl6.out.step hb)
          try go_simp
          refine hK.out _ _ (fun _ => hS2) (fun _ => ?_)
          clear hK K hS hb
          replace hS := hS2
          clear hS2
          try simp only [Act.put, List.setIfInBounds_toArray, List.set_cons_zero, List.set_cons_succ]
          refine T_ready (rs := [20]) (by kernel_rfl) (by simp) ?_
          refine TReady.cons rfl (fun K hK => ?_) TReady.nil
          try go_simp
          refine (HPV.out _ _ _ _ _ Hhl6.out hc6 Hhi6.out ⟨hd6, he6⟩).mono ?_
          rintro e v3 ⟨rfl, hb⟩
          have hS2 : Below w11.heap.size w11 v3 := below_cat hb hS
          clear Hhl6 Hhi6
          try go_simp
          refine hK.out _ _ (fun _ => hS2) (fun _ => ?_)
          clear hK K hS hb
          replace hS := hS2
          clear hS2
          try simp only [Act.put, List.setIfInBounds_toArray, List.set_cons_zero, List.set_cons_succ]
          refine' T_take (i := 21) (v := _) rfl (by kernel_rfl) (by kernel_rfl) (by kernel_rfl) (by kernel_rfl) (fun _ _ _ h => h) (by kernel_rfl) hS ?_ ?_
          rotate_left 1
          · intro Wv hW
            replace k0 := cell_of_ans hW k0
            replace k1 := cell_of_ans hW k1
            replace k2 := cell_of_ans hW k2
            replace k3 := cell_of_ans hW k3
            replace k4 := cell_of_ans hW k4
            replace s0 := cell_of_ans hW s0
            replace s1 := cell_of_ans hW s1
            go_simp
            first | done | with_reducible rfl | omega
          try simp only [Act.put, List.setIfInBounds_toArray, List.set_cons_zero, List.set_cons_succ]
          refine' T_take (i := 22) (v := _) rfl (by kernel_rfl) (by kernel_rfl) (by kernel_rfl) (by kernel_rfl) (fun _ _ _ h => h) (by kernel_rfl) hS ?_ ?_
          rotate_left 1
          · intro Wv hW
            replace k0 := cell_of_ans hW k0
            replace k1 := cell_of_ans hW k1
            replace k2 := cell_of_ans hW k2
            replace k3 := cell_of_ans hW k3
            replace k4 := cell_of_ans hW k4
            replace s0 := cell_of_ans hW s0
            replace s1 := cell_of_ans hW s1
            go_simp
            first | done | with_reducible rfl | omega
          try simp only [Act.put, List.setIfInBounds_toArray, List.set_cons_zero, List.set_cons_succ]
          refine' T_take (i := 23) (v := .bool true) rfl (by kernel_rfl) (by kernel_rfl) (by kernel_rfl) (by kernel_rfl) (fun _ _ _ h => h) (by kernel_rfl) hS ?_ ?_
          skip
          · intro Wv hW
            replace k0 := cell_of_ans hW k0
            replace k1 := cell_of_ans hW k1
            replace k2 := cell_of_ans hW k2
            replace k3 := cell_of_ans hW k3
            replace k4 := cell_of_ans hW k4
            replace s0 := cell_of_ans hW s0
            replace s1 := cell_of_ans hW s1
            go_simp
            first | done | with_reducible rfl | omega
          try simp only [Act.put, List.setIfInBounds_toArray, List.set_cons_zero, List.set_cons_succ]
          refine T_ready (rs := [24]) (by kernel_rfl) (by simp) ?_
          refine TReady.cons rfl (fun K hK => ?_) TReady.nil
          try go_simp
          refine (awake16_c _).mono ?_
          rintro e v4 ⟨rfl, hb⟩
          have hS2 : Below w11.heap.size w11 v4 := below_cat hb hS
          try go_simp
          refine hK.out _ _ (fun _ => hS2) (fun _ => ?_)
          clear hK K hS hb
          replace hS := hS2
          clear hS2
          try simp only [Act.put, List.setIfInBounds_toArray, List.set_cons_zero, List.set_cons_succ]
          refine' T_take (i := 25) (v := _) rfl (by kernel_rfl) (by kernel_rfl) (by kernel_rfl) (by kernel_rfl) (fun _ _ _ h => h) (by kernel_rfl) hS ?_ ?_
          rotate_left 1
          · intro Wv hW
            replace k0 := cell_of_ans hW k0
            replace k1 := cell_of_ans hW k1
            replace k2 := cell_of_ans hW k2
            replace k3 := cell_of_ans hW k3
            replace k4 := cell_of_ans hW k4
            replace s0 := cell_of_ans hW s0
            replace s1 := cell_of_ans hW s1
            go_simp
            first | done | with_reducible rfl | omega
          try simp only [Act.put, List.setIfInBounds_toArray, List.set_cons_zero, List.set_cons_succ]
          refine' T_take (i := 26) (v := _) rfl (by kernel_rfl) (by kernel_rfl) (by kernel_rfl) (by kernel_rfl) (fun _ _ _ h => h) (by kernel_rfl) hS ?_ ?_
          rotate_left 1
          · intro Wv hW
            replace k0 := cell_of_ans hW k0
            replace k1 := cell_of_ans hW k1
            replace k2 := cell_of_ans hW k2
            replace k3 := cell_of_ans hW k3
            replace k4 := cell_of_ans hW k4
            replace s0 := cell_of_ans hW s0
            replace s1 := cell_of_ans hW s1
            go_simp
            first | done | with_reducible rfl | omega
          try simp only [Act.put, List.setIfInBounds_toArray, List.set_cons_zero, List.set_cons_succ]
          refine T_done (by kernel_rfl) ?_ _
          refine NoPanic.normal ?_
          try go_simp
          have hb := hS
          clear hS
          replace HL := Lib.hid (HL.out.step hb)
          replace HX := Lib.hid (HX.out.step hb)
          replace k0 := cell_of_ans hb k0
          replace k1 := cell_of_ans hb k1
          replace k2 := cell_of_ans hb k2
          replace k3 := cell_of_ans hb k3
          replace k4 := cell_of_ans hb k4
          replace s0 := cell_of_ans hb s0
          replace s1 := cell_of_ans hb s1
          replace l0 := cell_of_ans hb l0
          replace l1 := cell_of_ans hb l1
          replace HB := Lib.hid (HB.out.trans (hb.mono HB.out.size))
          clear hb
          go_wp2_with fail
          go_ret
          exact ⟨rfl, HB.out⟩
    · have HPN := Lib.hid (fun W h1 h2 => pinned26_c r A xA c cx xs W h1 hc h2 hcx)
      have q1 : (pinErr r xs == 0) = false := by simp [he]
      have q2 : (pinErr r xs != 0) = true := by simp [he]
      clear he
      generalize pinErr r xs = te at *
      go_enter Try.func5, Try.ntmps5
      go_wp2_with fail
      generalize ((w.alloc (.cells #[.int .i64 r.rows, .int .i64 r.mid, .int .i64 r.gap, .int .i64 r.reach, .slice A r.links.length c] 24)).alloc (.cells #[.int .i64 st, .int .i64 dr] 50)) = x1 at *
      refine (HTH.out _).mono ?_
      rintro e x8 ⟨rfl, hb⟩
      replace HL := Lib.hid (HL.out.step hb)
      replace HX := Lib.hid (HX.out.step hb)
      replace k0 := cell_of_ans hb k0
      replace k1 := cell_of_ans hb k1
      replace k2 := cell_of_ans hb k2
      replace k3 := cell_of_ans hb k3
      replace k4 := cell_of_ans hb k4
      replace s0 := cell_of_ans hb s0
      replace s1 := cell_of_ans hb s1
      replace HB := Lib.hid (HB.out.trans (hb.mono HB.out.size))
      clear hb
      clear HTH
      go_wp2_with fail
      refine (HPN.out _ HL.out HX.out).mono ?_
      rintro e x9 ⟨rfl, hb⟩
      replace HL := Lib.hid (HL.out.step hb)
      replace HX := Lib.hid (HX.out.step hb)
      replace k0 := cell_of_ans hb k0
      replace k1 := cell_of_ans hb k1
      replace k2 := cell_of_ans hb k2
      replace k3 := cell_of_ans hb k3
      replace k4 := cell_of_ans hb k4
      replace s0 := cell_of_ans hb s0
      replace s1 := cell_of_ans hb s1
      replace HB := Lib.hid (HB.out.trans (hb.mono HB.out.size))
      clear hb
      go_wp2_with fail
      refine (awake16_c _).mono ?_
      rintro e wz ⟨rfl, hb⟩
      replace HL := Lib.hid (HL.out.step hb)
      replace HX := Lib.hid (HX.out.step hb)
      replace k0 := cell_of_ans hb k0
      replace k1 := cell_of_ans hb k1
      replace k2 := cell_of_ans hb k2
      replace k3 := cell_of_ans hb k3
      replace k4 := cell_of_ans hb k4
      replace s0 := cell_of_ans hb s0
      replace s1 := cell_of_ans hb s1
      replace HB := Lib.hid (HB.out.trans (hb.mono HB.out.size))
      clear hb
      go_wp2_with fail
      go_ret
      exact ⟨rfl, HB.out⟩
end Go.Proofs.Ytpekajnjjhibjaa
