/-
  The walk of RackConverts.
-/
import Derived.Test.YtpekajnjjhibjaaF5
import Derived.Test.YtpekajnjjhibjaaAwk
import Derived.Laws.StructEq
namespace Go.Proofs.Ytpekajnjjhibjaa
open Go.RowKit
set_option linter.unusedSimpArgs false
set_option linter.unusedVariables false

attribute [local go_sem] Oper.semAt_some
theorem eq51 (a b c d : Int) (w : World) : (binOp .eql 51 (.agg #[.int .i64 a, .int .i64 b]) (.agg #[.int .i64 c, .int .i64 d])).run Try.prog w = .ok (.bool (a == c && b == d)) w := by
  have u3 := Try.underlying3
  have hS : Try.prog.underlying 51 = some (.struct (Try.prog.fieldsOf 51)) := by kernel_rfl
  have hp : Try.prog.stoodInHeld 51 = false := by kernel_rfl
  rw [run_eql_struct, show (10000 : Nat) = 9999 + 1 from rfl, run_equalIn_agg w 9999 51 _ _ hS hp]
  simp only [Program.fieldsOf, Try.underlying51]
  go_simp
  by_cases h1 : a = c <;> by_cases h2 : b = d <;> simp [h1, h2]
theorem conv_same {r : Rk} {xs : List Int} {may : Bool} (h : pinErr r xs = 0) : cvLn r xs may = rcL r xs may ∧ cvErr r xs may = (if (rcO r xs may).isSome then 0 else 9) ∧ ((rcO r xs may).isSome = false → rcL r xs may = (0, 0)) := by
  rw [cvLn, if_pos h, cvErr, if_pos h, rcL]
  refine ⟨rfl, rfl, fun h2 => ?_⟩
  cases e : rcO r xs may with
  | none => rfl
  | some n => rw [e] at h2; cases h2
theorem prov_val {r : Rk} {xs : List Int} {st dr : Int} (h : pinErr r xs = 0) : provB r xs st dr = (inB st 0 60 && (inB dr (-3) 3 && convB r (pinS r xs) st dr (carryOf r.links false))) := by rw [provB, decide_eq_true h]; rfl
theorem prov_no {r : Rk} {xs : List Int} {st dr : Int} (h : pinErr r xs ≠ 0) : provB r xs st dr = false := by rw [provB, decide_eq_false h]; rfl

set_option maxRecDepth 100000 in
set_option maxHeartbeats 16000000 in
theorem converts4_c (r : Rk) (A xA : Option Addr) (c cx : Nat) (xs : List Int) (may : Bool) (st dr : Int) (w : World) (hl : Lks w.heap.size w A r.links) (hc : r.links.length ≤ c ∧ c ≤ 9223372036854775807) (hx : Ints w.heap.size w xA xs) (hcx : xs.length ≤ cx ∧ cx ≤ 9223372036854775807) :
    Calls Try.prog 4 #[.agg #[.int .i64 r.rows, .int .i64 r.mid, .int .i64 r.gap, .int .i64 r.reach, .slice A r.links.length c], .slice xA xs.length cx, .bool may, .agg #[.int .i64 st, .int .i64 dr]] w (Ans w (.bool true)) := by
  have HB := Lib.hid (Below.refl w.heap.size w)
  have HL := Lib.hid hl
  have HX := Lib.hid hx
  clear hl hx
  have hb : Below w.heap.size w (w.alloc (.cells #[.int .i64 r.rows, .int .i64 r.mid, .int .i64 r.gap, .int .i64 r.reach, .slice A r.links.length c] 24)) := (Below.refl _ _).alloc (Nat.le_refl _) _
  replace HL := Lib.hid (HL.out.step hb)
  replace HX := Lib.hid (HX.out.step hb)
  replace HB := Lib.hid (HB.out.trans (hb.mono HB.out.size))
  clear hb
  have k0 : (w.alloc (.cells #[.int .i64 r.rows, .int .i64 r.mid, .int .i64 r.gap, .int .i64 r.reach, .slice A r.links.length c] 24)).cell? ⟨w.heap.size, 0, none⟩ = some (.int .i64 r.rows) := by simp
  have k1 : (w.alloc (.cells #[.int .i64 r.rows, .int .i64 r.mid, .int .i64 r.gap, .int .i64 r.reach, .slice A r.links.length c] 24)).cell? ⟨w.heap.size, 1, none⟩ = some (.int .i64 r.mid) := by simp
  have k2 : (w.alloc (.cells #[.int .i64 r.rows, .int .i64 r.mid, .int .i64 r.gap, .int .i64 r.reach, .slice A r.links.length c] 24)).cell? ⟨w.heap.size, 2, none⟩ = some (.int .i64 r.gap) := by simp
  have k3 : (w.alloc (.cells #[.int .i64 r.rows, .int .i64 r.mid, .int .i64 r.gap, .int .i64 r.reach, .slice A r.links.length c] 24)).cell? ⟨w.heap.size, 3, none⟩ = some (.int .i64 r.reach) := by simp
  have k4 : (w.alloc (.cells #[.int .i64 r.rows, .int .i64 r.mid, .int .i64 r.gap, .int .i64 r.reach, .slice A r.links.length c] 24)).cell? ⟨w.heap.size, 4, none⟩ = some (.slice A r.links.length c) := by simp
  have hb : Below (w.alloc (.cells #[.int .i64 r.rows, .int .i64 r.mid, .int .i64 r.gap, .int .i64 r.reach, .slice A r.links.length c] 24)).heap.size (w.alloc (.cells #[.int .i64 r.rows, .int .i64 r.mid, .int .i64 r.gap, .int .i64 r.reach, .slice A r.links.length c] 24)) ((w.alloc (.cells #[.int .i64 r.rows, .int .i64 r.mid, .int .i64 r.gap, .int .i64 r.reach, .slice A r.links.length c] 24)).alloc (.cells #[.int .i64 st, .int .i64 dr] 50)) := (Below.refl _ _).alloc (Nat.le_refl _) _
  replace HL := Lib.hid (HL.out.step hb)
  replace HX := Lib.hid (HX.out.step hb)
  replace k0 := cell_of_ans hb k0
  replace k1 := cell_of_ans hb k1
  replace k2 := cell_of_ans hb k2
  replace k3 := cell_of_ans hb k3
  replace k4 := cell_of_ans hb k4
  replace HB := Lib.hid (HB.out.trans (hb.mono HB.out.size))
  clear hb
  have s0 : ((w.alloc (.cells #[.int .i64 r.rows, .int .i64 r.mid, .int .i64 r.gap, .int .i64 r.reach, .slice A r.links.length c] 24)).alloc (.cells #[.int .i64 st, .int .i64 dr] 50)).cell? ⟨w.heap.size + 1, 0, none⟩ = some (.int .i64 st) := by simp
  have s1 : ((w.alloc (.cells #[.int .i64 r.rows, .int .i64 r.mid, .int .i64 r.gap, .int .i64 r.reach, .slice A r.links.length c] 24)).alloc (.cells #[.int .i64 st, .int .i64 dr] 50)).cell? ⟨w.heap.size + 1, 1, none⟩ = some (.int .i64 dr) := by simp
  cases ht : thinB r.links.length xs.length 0
  · have HTH := Lib.hid (fun W => (show Calls Try.prog 23 #[.agg #[.int .i64 r.rows, .int .i64 r.mid, .int .i64 r.gap, .int .i64 r.reach, .slice A r.links.length c], .slice xA xs.length cx, .slice none 0 0] W (Ans W (.bool false)) from by have h := thin23_c r A xA none c xs.length cx 0 0 W; rwa [ht] at h))
    clear ht
    go_enter Try.func4, Try.ntmps4
    go_wp2_with fail
    generalize ((w.alloc (.cells #[.int .i64 r.rows, .int .i64 r.mid, .int .i64 r.gap, .int .i64 r.reach, .slice A r.links.length c] 24)).alloc (.cells #[.int .i64 st, .int .i64 dr] 50)) = x1 at *
    refine (HTH.out _).mono ?_
    rintro e x1 ⟨rfl, hb⟩
    replace HL := Lib.hid (HL.out.step hb)
    replace HX := Lib.hid (HX.out.step hb)
    replace k0 := cell_of_ans hb k0
    replace k1 := cell_of_ans hb k1
    replace k2 := cell_of_ans hb k2
    replace k3 := cell_of_ans hb k3
    replace k4 := cell_of_ans hb k4
    replace s0 := cell_of_ans hb s0
    replace s1 := cell_of_ans hb s1
    replace HB := Lib.hid (HB.out.trans (hb.mono HB.out.size))
    clear hb
    clear HTH
    go_wp2_with fail
    refine (awake16_c _).mono ?_
    rintro e wz ⟨rfl, hb⟩
    replace HL := Lib.hid (HL.out.step hb)
    replace HX := Lib.hid (HX.out.step hb)
    replace k0 := cell_of_ans hb k0
    replace k1 := cell_of_ans hb k1
    replace k2 := cell_of_ans hb k2
    replace k3 := cell_of_ans hb k3
    replace k4 := cell_of_ans hb k4
    replace s0 := cell_of_ans hb s0
    replace s1 := cell_of_ans hb s1
    replace HB := Lib.hid (HB.out.trans (hb.mono HB.out.size))
    clear hb
    go_wp2_with fail
    go_ret
    exact ⟨rfl, HB.out⟩
  have HTH := Lib.hid (fun W => (show Calls Try.prog 23 #[.agg #[.int .i64 r.rows, .int .i64 r.mid, .int .i64 r.gap, .int .i64 r.reach, .slice A r.links.length c], .slice xA xs.length cx, .slice none 0 0] W (Ans W (.bool true)) from by have h := thin23_c r A xA none c xs.length cx 0 0 W; rwa [ht] at h))
  rw [thinB, Bool.and_eq_true, Bool.and_eq_true, decide_eq_true_eq, decide_eq_true_eq, decide_eq_true_eq] at ht
  obtain ⟨hl16, hx15, -⟩ := ht
  have hlen : r.links.length ≤ 1000000 := by omega
  have hxl : xs.length ≤ 1000000 := by omega
  have HC0 := Lib.hid (fun (A4 xA4 : Option Addr) (c4 cx4 : Nat) (W : World) h1 h2 h3 h4 => convert_c r A4 xA4 c4 cx4 xs may W h1 h2 h3 h4)
  have HPV := Lib.hid (fun (A4 xA4 : Option Addr) (c4 cx4 : Nat) (W : World) h1 h2 h3 h4 => prove_c r A4 xA4 c4 cx4 xs st dr W h1 h2 h3 h4)
  have HPN := Lib.hid (fun W h1 h2 => pinned26_c r A xA c cx xs W h1 hc h2 hcx)
  by_cases he : pinErr r xs = 0
  · obtain ⟨q1, q2, q3⟩ := conv_same (may := may) he
    have HPR := Lib.hid (prov_val (st := st) (dr := dr) he)
    have HC1 := Lib.hid (fun W h1 h2 => convert29_c r A xA c cx xs may W h1 hc h2 hcx he)
    have HC2 := Lib.hid (fun (h1 : 0 ≤ st ∧ st ≤ 60) (h2 : -3 ≤ dr ∧ dr ≤ 3) W h3 h4 => converts28_c r A xA c cx xs st dr false W h3 hc h4 hcx he h1.1 h1.2 h2.1 h2.2)
    rw [q1, q2] at HC0
    rw [he] at HPN
    clear q1 q2 he
    generalize hok : (rcO r xs may).isSome = ok at *
    clear hok
    generalize convB r (pinS r xs) st dr (carryOf r.links false) = cb at *
    obtain ⟨ab, hab⟩ : ∃ ab, ab = rcL r xs may := ⟨_, rfl⟩
    rw [← hab] at HC0 HC1 q3
    clear hab
    obtain ⟨a, b⟩ := ab
    dsimp only at HC0 HC1
    have hcb : (cb != cb) = false := by simp
    have e51 := eq51 a b a b
    have e510 := eq51 0 0 0 0
    have e66 := (inB_eq st 0 60).1
    have e67 := (inB_eq dr (-3) 3).1
    cases ok
    · have q4 := q3 rfl
      obtain ⟨rfl, rfl⟩ := Prod.mk.inj q4
      clear q3 q4
      simp only [if_true, if_false, Bool.false_eq_true] at HC0
      cases e1 : inB st 0 60
      · rw [e1] at HPR
        simp only [Bool.false_and] at HPR
        rw [HPR.out] at HPV
        clear HPR HC2 e66 e67 hcb
        go_enter Try.func4, Try.ntmps4
        go_wp2_with fail
        generalize ((w.alloc (.cells #[.int .i64 r.rows, .int .i64 r.mid, .int .i64 r.gap, .int .i64 r.reach, .slice A r.links.length c] 24)).alloc (.cells #[.int .i64 st, .int .i64 dr] 50)) = x1 at *
        refine (HTH.out _).mono ?_
        rintro e x2 ⟨rfl, hb⟩
        replace HL := Lib.hid (HL.out.step hb)
        replace HX := Lib.hid (HX.out.step hb)
        replace k0 := cell_of_ans hb k0
        replace k1 := cell_of_ans hb k1
        replace k2 := cell_of_ans hb k2
        replace k3 := cell_of_ans hb k3
        replace k4 := cell_of_ans hb k4
        replace s0 := cell_of_ans hb s0
        replace s1 := cell_of_ans hb s1
        replace HB := Lib.hid (HB.out.trans (hb.mono HB.out.size))
        clear hb
        clear HTH
        go_wp2_with fail
        refine (rack18_c r A c _ HL.out hc hlen).mono ?_
        rintro e w4 ⟨A4, c4, rfl, ⟨hl4, hc4⟩, hb⟩
        replace HL := Lib.hid (HL.out.step hb)
        replace HX := Lib.hid (HX.out.step hb)
        replace k0 := cell_of_ans hb k0
        replace k1 := cell_of_ans hb k1
        replace k2 := cell_of_ans hb k2
        replace k3 := cell_of_ans hb k3
        replace k4 := cell_of_ans hb k4
        replace s0 := cell_of_ans hb s0
        replace s1 := cell_of_ans hb s1
        replace HB := Lib.hid (HB.out.trans (hb.mono HB.out.size))
        clear hb
        have Hhl4 := Lib.hid hl4
        clear hl4
        go_wp2_with fail
        refine (list_c xA xs cx _ HX.out hxl).mono ?_
        rintro e w5 ⟨B4, d4, rfl, ho4, hb⟩
        obtain ⟨hd4, he4, hi4⟩ := isInts_parts (ownsRow_isInts ho4)
        clear ho4
        replace HL := Lib.hid (HL.out.step hb)
        replace HX := Lib.hid (HX.out.step hb)
        replace k0 := cell_of_ans hb k0
        replace k1 := cell_of_ans hb k1
        replace k2 := cell_of_ans hb k2
        replace k3 := cell_of_ans hb k3
        replace k4 := cell_of_ans hb k4
        replace s0 := cell_of_ans hb s0
        replace s1 := cell_of_ans hb s1
        replace Hhl4 := Lib.hid (Hhl4.out.step hb)
        replace HB := Lib.hid (HB.out.trans (hb.mono HB.out.size))
        clear hb
        have Hhi4 := Lib.hid hi4
        clear hi4
        go_wp2_with fail
        refine (HC0.out _ _ _ _ _ Hhl4.out hc4 Hhi4.out ⟨hd4, he4⟩).mono ?_
        rintro e w6 ⟨rfl, hb⟩
        replace HL := Lib.hid (HL.out.step hb)
        replace HX := Lib.hid (HX.out.step hb)
        replace k0 := cell_of_ans hb k0
        replace k1 := cell_of_ans hb k1
        replace k2 := cell_of_ans hb k2
        replace k3 := cell_of_ans hb k3
        replace k4 := cell_of_ans hb k4
        replace s0 := cell_of_ans hb s0
        replace s1 := cell_of_ans hb s1
        replace Hhl4 := Lib.hid (Hhl4.out.step hb)
        replace Hhi4 := Lib.hid (Hhi4.out.step hb)
        replace HB := Lib.hid (HB.out.trans (hb.mono HB.out.size))
        clear hb
        clear Hhl4 Hhi4
        have ltk0 := World.block_lt_of_cell? _ _ k0
        dsimp only at ltk0
        have lts0 := World.block_lt_of_cell? _ _ s0
        dsimp only at lts0
        go_upto_region 4 with fail
        have hb : Below w6.heap.size w6 (w6.alloc (.cells #[.int .i64 0, .int .i64 0] 51)) := (Below.refl _ _).alloc (Nat.le_refl _) _
        replace HL := Lib.hid (HL.out.step hb)
        replace HX := Lib.hid (HX.out.step hb)
        replace k0 := cell_of_ans hb k0
        replace k1 := cell_of_ans hb k1
        replace k2 := cell_of_ans hb k2
        replace k3 := cell_of_ans hb k3
        replace k4 := cell_of_ans hb k4
        replace s0 := cell_of_ans hb s0
        replace s1 := cell_of_ans hb s1
        replace HB := Lib.hid (HB.out.trans (hb.mono HB.out.size))
        clear hb
        have l0 : (w6.alloc (.cells #[.int .i64 0, .int .i64 0] 51)).cell? ⟨w6.heap.size, 0, none⟩ = some (.int .i64 0) := by simp
        have l1 : (w6.alloc (.cells #[.int .i64 0, .int .i64 0] 51)).cell? ⟨w6.heap.size, 1, none⟩ = some (.int .i64 0) := by simp
        generalize (w6.alloc (.cells #[.int .i64 0, .int .i64 0] 51)) = w7 at *
        generalize w6.heap.size = nq at *
        refine wp_region_noPanic ?_
        have hS : (fun W' : World => Below w7.heap.size w7 W') w7.drew := (Below.refl _ _).drew
        refine wp_region_any (by kernel_rfl) (wpAny_of_T (S := fun W' : World => Below w7.heap.size w7 W') (m := 11) _ _ _ _ ?_)
        refine' T_take (i := 0) (v := _) rfl (by kernel_rfl) (by kernel_rfl) (by kernel_rfl) (by kernel_rfl) (fun _ _ _ h => h) (by kernel_rfl) hS ?_ ?_
        rotate_left 1
        · intro Wv hW
          replace k0 := cell_of_ans hW k0
          replace k1 := cell_of_ans hW k1
          replace k2 := cell_of_ans hW k2
          replace k3 := cell_of_ans hW k3
          replace k4 := cell_of_ans hW k4
          replace s0 := cell_of_ans hW s0
          replace s1 := cell_of_ans hW s1
          go_simp
          first | done | with_reducible rfl | omega
        try simp only [Act.put, List.setIfInBounds_toArray, List.set_cons_zero, List.set_cons_succ]
        refine' T_take (i := 2) (v := _) rfl (by kernel_rfl) (by kernel_rfl) (by kernel_rfl) (by kernel_rfl) (fun _ _ _ h => h) (by kernel_rfl) hS ?_ ?_
        rotate_left 1
        · intro Wv hW
          replace k0 := cell_of_ans hW k0
          replace k1 := cell_of_ans hW k1
          replace k2 := cell_of_ans hW k2
          replace k3 := cell_of_ans hW k3
          replace k4 := cell_of_ans hW k4
          replace s0 := cell_of_ans hW s0
          replace s1 := cell_of_ans hW s1
          go_simp
          first | done | with_reducible rfl | omega
        try simp only [Act.put, List.setIfInBounds_toArray, List.set_cons_zero, List.set_cons_succ]
        refine' T_take (i := 4) (v := _) rfl (by kernel_rfl) (by kernel_rfl) (by kernel_rfl) (by kernel_rfl) (fun _ _ _ h => h) (by kernel_rfl) hS ?_ ?_
        rotate_left 1
        · intro Wv hW
          replace k0 := cell_of_ans hW k0
          replace k1 := cell_of_ans hW k1
          replace k2 := cell_of_ans hW k2
          replace k3 := cell_of_ans hW k3
          replace k4 := cell_of_ans hW k4
          replace s0 := cell_of_ans hW s0
          replace s1 := cell_of_ans hW s1
          go_simp
          first | done | with_reducible rfl | omega
        try simp only [Act.put, List.setIfInBounds_toArray, List.set_cons_zero, List.set_cons_succ]
        refine' T_take (i := 5) (v := _) rfl (by kernel_rfl) (by kernel_rfl) (by kernel_rfl) (by kernel_rfl) (fun _ _ _ h => h) (by kernel_rfl) hS ?_ ?_
        rotate_left 1
        · intro Wv hW
          replace k0 := cell_of_ans hW k0
          replace k1 := cell_of_ans hW k1
          replace k2 := cell_of_ans hW k2
          replace k3 := cell_of_ans hW k3
          replace k4 := cell_of_ans hW k4
          replace s0 := cell_of_ans hW s0
          replace s1 := cell_of_ans hW s1
          go_simp
          first | done | with_reducible rfl | omega
        try simp only [Act.put, List.setIfInBounds_toArray, List.set_cons_zero, List.set_cons_succ]
        refine' T_take (i := 6) (v := _) rfl (by kernel_rfl) (by kernel_rfl) (by kernel_rfl) (by kernel_rfl) (fun _ _ _ h => h) (by kernel_rfl) hS ?_ ?_
        rotate_left 1
        · intro Wv hW
          replace k0 := cell_of_ans hW k0
          replace k1 := cell_of_ans hW k1
          replace k2 := cell_of_ans hW k2
          replace k3 := cell_of_ans hW k3
          replace k4 := cell_of_ans hW k4
          replace s0 := cell_of_ans hW s0
          replace s1 := cell_of_ans hW s1
          go_simp
          first | done | with_reducible rfl | omega
        try simp only [Act.put, List.setIfInBounds_toArray, List.set_cons_zero, List.set_cons_succ]
        refine' T_take (i := 7) (v := _) rfl (by kernel_rfl) (by kernel_rfl) (by kernel_rfl) (by kernel_rfl) (fun _ _ _ h => h) (by kernel_rfl) hS ?_ ?_
        rotate_left 1
        · intro Wv hW
          replace k0 := cell_of_ans hW k0
          replace k1 := cell_of_ans hW k1
          replace k2 := cell_of_ans hW k2
          replace k3 := cell_of_ans hW k3
          replace k4 := cell_of_ans hW k4
          replace s0 := cell_of_ans hW s0
          replace s1 := cell_of_ans hW s1
          go_simp
          first | done | with_reducible rfl | omega
        try simp only [Act.put, List.setIfInBounds_toArray, List.set_cons_zero, List.set_cons_succ]
        refine' T_take (i := 8) (v := _) rfl (by kernel_rfl) (by kernel_rfl) (by kernel_rfl) (by kernel_rfl) (fun _ _ _ h => h) (by kernel_rfl) hS ?_ ?_
        rotate_left 1
        · intro Wv hW
          replace k0 := cell_of_ans hW k0
          replace k1 := cell_of_ans hW k1
          replace k2 := cell_of_ans hW k2
          replace k3 := cell_of_ans hW k3
          replace k4 := cell_of_ans hW k4
          replace s0 := cell_of_ans hW s0
          replace s1 := cell_of_ans hW s1
          go_simp
          first | done | with_reducible rfl | omega
        try simp only [Act.put, List.setIfInBounds_toArray, List.set_cons_zero, List.set_cons_succ]
        refine T_ready (rs := [1]) (by kernel_rfl) (by simp) ?_
        refine TReady.cons rfl (fun K hK => ?_) TReady.nil
        try go_simp
        refine (rack18_c r A c _ (HL.out.step hS) hc hlen).mono ?_
        rintro e v1 ⟨A6, c6, rfl, ⟨hl6, hc6⟩, hb⟩
        have hS2 : Below w7.heap.size w7 v1 := below_cat hb hS
        have Hhl6 := Lib.hid hl6
        clear hl6
        try go_simp
        refine hK.out _ _ (fun _ => hS2) (fun _ => ?_)
        clear hK K hS hb
        replace hS := hS2
        clear hS2
        try simp only [Act.put, List.setIfInBounds_toArray, List.set_cons_zero, List.set_cons_succ]
        refine T_ready (rs := [3]) (by kernel_rfl) (by simp) ?_
        refine TReady.cons rfl (fun K hK => ?_) TReady.nil
        try go_simp
        refine (list_c xA xs cx _ (HX.out.step hS) hxl).mono ?_
        rintro e v2 ⟨B6, d6, rfl, ho6, hb⟩
        have hS2 : Below w7.heap.size w7 v2 := below_cat hb hS
        obtain ⟨hd6, he6, hi6⟩ := isInts_parts (ownsRow_isInts ho6)
        have Hhi6 := Lib.hid hi6
        clear hi6 ho6
        replace Hhl6 := Lib.hid (Hhl6.out.step hb)
        try go_simp
        refine hK.out _ _ (fun _ => hS2) (fun _ => ?_)
        clear hK K hS hb
        replace hS := hS2
        clear hS2
        try simp only [Act.put, List.setIfInBounds_toArray, List.set_cons_zero, List.set_cons_succ]
        refine T_ready (rs := [9]) (by kernel_rfl) (by simp) ?_
        refine TReady.cons rfl (fun K hK => ?_) TReady.nil
        try go_simp
        refine (HPV.out _ _ _ _ _ Hhl6.out hc6 Hhi6.out ⟨hd6, he6⟩).mono ?_
        rintro e v3 ⟨rfl, hb⟩
        have hS2 : Below w7.heap.size w7 v3 := below_cat hb hS
        clear Hhl6 Hhi6
        try go_simp
        refine hK.out _ _ (fun _ => hS2) (fun _ => ?_)
        clear hK K hS hb
        replace hS := hS2
        clear hS2
        try simp only [Act.put, List.setIfInBounds_toArray, List.set_cons_zero, List.set_cons_succ]
        refine' T_take (i := 10) (v := _) rfl (by kernel_rfl) (by kernel_rfl) (by kernel_rfl) (by kernel_rfl) (fun _ _ _ h => h) (by kernel_rfl) hS ?_ ?_
        rotate_left 1
        · intro Wv hW
          replace k0 := cell_of_ans hW k0
          replace k1 := cell_of_ans hW k1
          replace k2 := cell_of_ans hW k2
          replace k3 := cell_of_ans hW k3
          replace k4 := cell_of_ans hW k4
          replace s0 := cell_of_ans hW s0
          replace s1 := cell_of_ans hW s1
          go_simp
          first | done | with_reducible rfl | omega
        try simp only [Act.put, List.setIfInBounds_toArray, List.set_cons_zero, List.set_cons_succ]
        refine T_done (by kernel_rfl) ?_ _
        refine NoPanic.normal ?_
        try go_simp
        have hb := hS
        clear hS
        replace HL := Lib.hid (HL.out.step hb)
        replace HX := Lib.hid (HX.out.step hb)
        replace k0 := cell_of_ans hb k0
        replace k1 := cell_of_ans hb k1
        replace k2 := cell_of_ans hb k2
        replace k3 := cell_of_ans hb k3
        replace k4 := cell_of_ans hb k4
        replace s0 := cell_of_ans hb s0
        replace s1 := cell_of_ans hb s1
        replace l0 := cell_of_ans hb l0
        replace l1 := cell_of_ans hb l1
        replace HB := Lib.hid (HB.out.trans (hb.mono HB.out.size))
        clear hb
        go_wp2_with fail
        refine (HPN.out _ HL.out HX.out).mono ?_
        rintro e v4 ⟨rfl, hb⟩
        replace HL := Lib.hid (HL.out.step hb)
        replace HX := Lib.hid (HX.out.step hb)
        replace k0 := cell_of_ans hb k0
        replace k1 := cell_of_ans hb k1
        replace k2 := cell_of_ans hb k2
        replace k3 := cell_of_ans hb k3
        replace k4 := cell_of_ans hb k4
        replace s0 := cell_of_ans hb s0
        replace s1 := cell_of_ans hb s1
        replace l0 := cell_of_ans hb l0
        replace l1 := cell_of_ans hb l1
        replace HB := Lib.hid (HB.out.trans (hb.mono HB.out.size))
        clear hb
        go_upto_region 6 with fail
        go_upto_region 8 with (go_at_call 27; refine (in_c _ _ _ _).mono ?_; rintro e ww ⟨rfl, rfl⟩)
        go_upto_region 9 with fail
        have ltl0 := World.block_lt_of_cell? _ _ l0
        dsimp only at ltl0
        have hb : Below v4.heap.size v4 (v4.alloc (.cells #[.int .i64 0, .int .i64 0] 50)) := (Below.refl _ _).alloc (Nat.le_refl _) _
        replace HL := Lib.hid (HL.out.step hb)
        replace HX := Lib.hid (HX.out.step hb)
        replace k0 := cell_of_ans hb k0
        replace k1 := cell_of_ans hb k1
        replace k2 := cell_of_ans hb k2
        replace k3 := cell_of_ans hb k3
        replace k4 := cell_of_ans hb k4
        replace s0 := cell_of_ans hb s0
        replace s1 := cell_of_ans hb s1
        replace l0 := cell_of_ans hb l0
        replace l1 := cell_of_ans hb l1
        replace HB := Lib.hid (HB.out.trans (hb.mono HB.out.size))
        clear hb
        have HZ : Hid (At2 (v4.alloc (.cells #[.int .i64 0, .int .i64 0] 50)) v4.heap.size 50 0 0) := by show At2 _ _ _ _ _; unfold At2; exact World.alloc_heap_new _ _
        generalize (v4.alloc (.cells #[.int .i64 0, .int .i64 0] 50)) = v5 at *
        generalize v4.heap.size = zq at *
        go_wp2_with fail
        refine (HC1.out _ HL.out HX.out).mono ?_
        rintro e v6 ⟨rfl, hb⟩
        replace HL := Lib.hid (HL.out.step hb)
        replace HX := Lib.hid (HX.out.step hb)
        replace k0 := cell_of_ans hb k0
        replace k1 := cell_of_ans hb k1
        replace k2 := cell_of_ans hb k2
        replace k3 := cell_of_ans hb k3
        replace k4 := cell_of_ans hb k4
        replace s0 := cell_of_ans hb s0
        replace s1 := cell_of_ans hb s1
        replace l0 := cell_of_ans hb l0
        replace l1 := cell_of_ans hb l1
        replace HZ := Lib.hid (HZ.out.step hb)
        replace HB := Lib.hid (HB.out.trans (hb.mono HB.out.size))
        clear hb
        obtain ⟨⟨z0, z1⟩, zf⟩ := HZ.out.cells
        have zf0 := zf 0
        have zf1 := zf 1
        clear zf
        have HF := Lib.hid (HZ.out.set (0) (0))
        have HGR : Hid (v6.grownBy ((v6.setCell ⟨zq, 0, none⟩ (.int .i64 (0))).setCell ⟨zq, 1, none⟩ (.int .i64 (0))) (some zq)) := only_setCell (p := ⟨zq, 1, none⟩) (only_setCell (p := ⟨zq, 0, none⟩) (World.grownBy.refl v6 (some zq)) (.inl rfl) (.int .i64 (0))) (.inl rfl) (.int .i64 (0))
        have hqn : zq ≠ nq := by omega
        have ml0 := HGR.out.cell l0 (by simp; omega)
        have ml1 := HGR.out.cell l1 (by simp; omega)
        have HBS : Hid (Below w.heap.size w ((v6.setCell ⟨zq, 0, none⟩ (.int .i64 (0))).setCell ⟨zq, 1, none⟩ (.int .i64 (0)))) := (HB.out.setCell (by dsimp only; omega) _).setCell (by dsimp only; omega) _
        go_upto_region 14 with fail
        generalize (v6.setCell ⟨zq, 0, none⟩ (.int .i64 (0))).setCell ⟨zq, 1, none⟩ (.int .i64 (0)) = v7 at *
        obtain ⟨⟨y0, y1⟩, -⟩ := HF.out.cells
        go_wp2_with fail
        refine (awake16_c _).mono ?_
        rintro e wy ⟨rfl, hb⟩
        go_wp2_with fail
        go_ret
        exact ⟨rfl, HBS.out.trans (hb.mono HBS.out.size)⟩
      · cases e2 : inB dr (-3) 3
        · rw [e1, e2] at HPR
          simp only [Bool.false_and, Bool.true_and] at HPR
          rw [HPR.out] at HPV
          clear HPR HC2 e66 e67 hcb
          go_enter Try.func4, Try.ntmps4
          go_wp2_with fail
          generalize ((w.alloc (.cells #[.int .i64 r.rows, .int .i64 r.mid, .int .i64 r.gap, .int .i64 r.reach, .slice A r.links.length c] 24)).alloc (.cells #[.int .i64 st, .int .i64 dr] 50)) = x1 at *
          refine (HTH.out _).mono ?_
          rintro e x3 ⟨rfl, hb⟩
          replace HL := Lib.hid (HL.out.step hb)
          replace HX := Lib.hid (HX.out.step hb)
          replace k0 := cell_of_ans hb k0
          replace k1 := cell_of_ans hb k1
          replace k2 := cell_of_ans hb k2
          replace k3 := cell_of_ans hb k3
          replace k4 := cell_of_ans hb k4
          replace s0 := cell_of_ans hb s0
          replace s1 := cell_of_ans hb s1
          replace HB := Lib.hid (HB.out.trans (hb.mono HB.out.size))
          clear hb
          clear HTH
          go_wp2_with fail
          refine (rack18_c r A c _ HL.out hc hlen).mono ?_
          rintro e w4 ⟨A4, c4, rfl, ⟨hl4, hc4⟩, hb⟩
          replace HL := Lib.hid (HL.out.step hb)
          replace HX := Lib.hid (HX.out.step hb)
          replace k0 := cell_of_ans hb k0
          replace k1 := cell_of_ans hb k1
          replace k2 := cell_of_ans hb k2
          replace k3 := cell_of_ans hb k3
          replace k4 := cell_of_ans hb k4
          replace s0 := cell_of_ans hb s0
          replace s1 := cell_of_ans hb s1
          replace HB := Lib.hid (HB.out.trans (hb.mono HB.out.size))
          clear hb
          have Hhl4 := Lib.hid hl4
          clear hl4
          go_wp2_with fail
          refine (list_c xA xs cx _ HX.out hxl).mono ?_
          rintro e w5 ⟨B4, d4, rfl, ho4, hb⟩
          obtain ⟨hd4, he4, hi4⟩ := isInts_parts (ownsRow_isInts ho4)
          clear ho4
          replace HL := Lib.hid (HL.out.step hb)
          replace HX := Lib.hid (HX.out.step hb)
          replace k0 := cell_of_ans hb k0
          replace k1 := cell_of_ans hb k1
          replace k2 := cell_of_ans hb k2
          replace k3 := cell_of_ans hb k3
          replace k4 := cell_of_ans hb k4
          replace s0 := cell_of_ans hb s0
          replace s1 := cell_of_ans hb s1
          replace Hhl4 := Lib.hid (Hhl4.out.step hb)
          replace HB := Lib.hid (HB.out.trans (hb.mono HB.out.size))
          clear hb
          have Hhi4 := Lib.hid hi4
          clear hi4
          go_wp2_with fail
          refine (HC0.out _ _ _ _ _ Hhl4.out hc4 Hhi4.out ⟨hd4, he4⟩).mono ?_
          rintro e w6 ⟨rfl, hb⟩
          replace HL := Lib.hid (HL.out.step hb)
          replace HX := Lib.hid (HX.out.step hb)
          replace k0 := cell_of_ans hb k0
          replace k1 := cell_of_ans hb k1
          replace k2 := cell_of_ans hb k2
          replace k3 := cell_of_ans hb k3
          replace k4 := cell_of_ans hb k4
          replace s0 := cell_of_ans hb s0
          replace s1 := cell_of_ans hb s1
          replace Hhl4 := Lib.hid (Hhl4.out.step hb)
          replace Hhi4 := Lib.hid (Hhi4.out.step hb)
          replace HB := Lib.hid (HB.out.trans (hb.mono HB.out.size))
          clear hb
          clear Hhl4 Hhi4
          have ltk0 := World.block_lt_of_cell? _ _ k0
          dsimp only at ltk0
          have lts0 := World.block_lt_of_cell? _ _ s0
          dsimp only at lts0
          go_upto_region 4 with fail
          have hb : Below w6.heap.size w6 (w6.alloc (.cells #[.int .i64 0, .int .i64 0] 51)) := (Below.refl _ _).alloc (Nat.le_refl _) _
          replace HL := Lib.hid (HL.out.step hb)
          replace HX := Lib.hid (HX.out.step hb)
          replace k0 := cell_of_ans hb k0
          replace k1 := cell_of_ans hb k1
          replace k2 := cell_of_ans hb k2
          replace k3 := cell_of_ans hb k3
          replace k4 := cell_of_ans hb k4
          replace s0 := cell_of_ans hb s0
          replace s1 := cell_of_ans hb s1
          replace HB := Lib.hid (HB.out.trans (hb.mono HB.out.size))
          clear hb
          have l0 : (w6.alloc (.cells #[.int .i64 0, .int .i64 0] 51)).cell? ⟨w6.heap.size, 0, none⟩ = some (.int .i64 0) := by simp
          have l1 : (w6.alloc (.cells #[.int .i64 0, .int .i64 0] 51)).cell? ⟨w6.heap.size, 1, none⟩ = some (.int .i64 0) := by simp
          generalize (w6.alloc (.cells #[.int .i64 0, .int .i64 0] 51)) = w7 at *
          generalize w6.heap.size = nq at *
          refine wp_region_noPanic ?_
          have hS : (fun W' : World => Below w7.heap.size w7 W') w7.drew := (Below.refl _ _).drew
          refine wp_region_any (by kernel_rfl) (wpAny_of_T (S := fun W' : World => Below w7.heap.size w7 W') (m := 11) _ _ _ _ ?_)
          refine' T_take (i := 0) (v := _) rfl (by kernel_rfl) (by kernel_rfl) (by kernel_rfl) (by kernel_rfl) (fun _ _ _ h => h) (by kernel_rfl) hS ?_ ?_
          rotate_left 1
          · intro Wv hW
            replace k0 := cell_of_ans hW k0
            replace k1 := cell_of_ans hW k1
            replace k2 := cell_of_ans hW k2
            replace k3 := cell_of_ans hW k3
            replace k4 := cell_of_ans hW k4
            replace s0 := cell_of_ans hW s0
            replace s1 := cell_of_ans hW s1
            go_simp
            first | done | with_reducible rfl | omega
          try simp only [Act.put, List.setIfInBounds_toArray, List.set_cons_zero, List.set_cons_succ]
          refine' T_take (i := 2) (v := _) rfl (by kernel_rfl) (by kernel_rfl) (by kernel_rfl) (by kernel_rfl) (fun _ _ _ h => h) (by kernel_rfl) hS ?_ ?_
          rotate_left 1
          · intro Wv hW
            replace k0 := cell_of_ans hW k0
            replace k1 := cell_of_ans hW k1
            replace k2 := cell_of_ans hW k2
            replace k3 := cell_of_ans hW k3
            replace k4 := cell_of_ans hW k4
            replace s0 := cell_of_ans hW s0
            replace s1 := cell_of_ans hW s1
            go_simp
            first | done | with_reducible rfl | omega
          try simp only [Act.put, List.setIfInBounds_toArray, List.set_cons_zero, List.set_cons_succ]
          refine' T_take (i := 4) (v := _) rfl (by kernel_rfl) (by kernel_rfl) (by kernel_rfl) (by kernel_rfl) (fun _ _ _ h => h) (by kernel_rfl) hS ?_ ?_
          rotate_left 1
          · intro Wv hW
            replace k0 := cell_of_ans hW k0
            replace k1 := cell_of_ans hW k1
            replace k2 := cell_of_ans hW k2
            replace k3 := cell_of_ans hW k3
            replace k4 := cell_of_ans hW k4
            replace s0 := cell_of_ans hW s0
            replace s1 := cell_of_ans hW s1
            go_simp
            first | done | with_reducible rfl | omega
          try simp only [Act.put, List.setIfInBounds_toArray, List.set_cons_zero, List.set_cons_succ]
          refine' T_take (i := 5) (v := _) rfl (by kernel_rfl) (by kernel_rfl) (by kernel_rfl) (by kernel_rfl) (fun _ _ _ h => h) (by kernel_rfl) hS ?_ ?_
          rotate_left 1
          · intro Wv hW
            replace k0 := cell_of_ans hW k0
            replace k1 := cell_of_ans hW k1
            replace k2 := cell_of_ans hW k2
            replace k3 := cell_of_ans hW k3
            replace k4 := cell_of_ans hW k4
            replace s0 := cell_of_ans hW s0
            replace s1 := cell_of_ans hW s1
            go_simp
            first | done | with_reducible rfl | omega
          try simp only [Act.put, List.setIfInBounds_toArray, List.set_cons_zero, List.set_cons_succ]
          refine' T_take (i := 6) (v := _) rfl (by kernel_rfl) (by kernel_rfl) (by kernel_rfl) (by kernel_rfl) (fun _ _ _ h => h) (by kernel_rfl) hS ?_ ?_
          rotate_left 1
          · intro Wv hW
            replace k0 := cell_of_ans hW k0
            replace k1 := cell_of_ans hW k1
            replace k2 := cell_of_ans hW k2
            replace k3 := cell_of_ans hW k3
            replace k4 := cell_of_ans hW k4
            replace s0 := cell_of_ans hW s0
            replace s1 := cell_of_ans hW s1
            go_simp
            first | done | with_reducible rfl | omega
          try simp only [Act.put, List.setIfInBounds_toArray, List.set_cons_zero, List.set_cons_succ]
          refine' T_take (i := 7) (v := _) rfl (by kernel_rfl) (by kernel_rfl) (by kernel_rfl) (by kernel_rfl) (fun _ _ _ h => h) (by kernel_rfl) hS ?_ ?_
          rotate_left 1
          · intro Wv hW
            replace k0 := cell_of_ans hW k0
            replace k1 := cell_of_ans hW k1
            replace k2 := cell_of_ans hW k2
            replace k3 := cell_of_ans hW k3
            replace k4 := cell_of_ans hW k4
            replace s0 := cell_of_ans hW s0
            replace s1 := cell_of_ans hW s1
            go_simp
            first | done | with_reducible rfl | omega
          try simp only [Act.put, List.setIfInBounds_toArray, List.set_cons_zero, List.set_cons_succ]
          refine' T_take (i := 8) (v := _) rfl (by kernel_rfl) (by kernel_rfl) (by kernel_rfl) (by kernel_rfl) (fun _ _ _ h => h) (by kernel_rfl) hS ?_ ?_
          rotate_left 1
          · intro Wv hW
            replace k0 := cell_of_ans hW k0
            replace k1 := cell_of_ans hW k1
            replace k2 := cell_of_ans hW k2
            replace k3 := cell_of_ans hW k3
            replace k4 := cell_of_ans hW k4
            replace s0 := cell_of_ans hW s0
            replace s1 := cell_of_ans hW s1
            go_simp
            first | done | with_reducible rfl | omega
          try simp only [Act.put, List.setIfInBounds_toArray, List.set_cons_zero, List.set_cons_succ]
          refine T_ready (rs := [1]) (by kernel_rfl) (by simp) ?_
          refine TReady.cons rfl (fun K hK => ?_) TReady.nil
          try go_simp
          refine (rack18_c r A c _ (HL.out.step hS) hc hlen).mono ?_
          rintro e v1 ⟨A6, c6, rfl, ⟨hl6, hc6⟩, hb⟩
          have hS2 : Below w7.heap.size w7 v1 := below_cat hb hS
          have Hhl6 := Lib.hid hl6
          clear hl6
          try go_simp
          refine hK.out _ _ (fun _ => hS2) (fun _ => ?_)
          clear hK K hS hb
          replace hS := hS2
          clear hS2
          try simp only [Act.put, List.setIfInBounds_toArray, List.set_cons_zero, List.set_cons_succ]
          refine T_ready (rs := [3]) (by kernel_rfl) (by simp) ?_
          refine TReady.cons rfl (fun K hK => ?_) TReady.nil
          try go_simp
          refine (list_c xA xs cx _ (HX.out.step hS) hxl).mono ?_
          rintro e v2 ⟨B6, d6, rfl, ho6, hb⟩
          have hS2 : Below w7.heap.size w7 v2 := below_cat hb hS
          obtain ⟨hd6, he6, hi6⟩ := isInts_parts (ownsRow_isInts ho6)
          have Hhi6 := Lib.hid hi6
          clear hi6 ho6
          replace Hhl6 := Lib.hid (Hhl6.out.step hb)
          try go_simp
          refine hK.out _ _ (fun _ => hS2) (fun _ => ?_)
          clear hK K hS hb
          replace hS := hS2
          clear hS2
          try simp only [Act.put, List.setIfInBounds_toArray, List.set_cons_zero, List.set_cons_succ]
          refine T_ready (rs := [9]) (by kernel_rfl) (by simp) ?_
          refine TReady.cons rfl (fun K hK => ?_) TReady.nil
          try go_simp
          refine (HPV.out _ _ _ _ _ Hhl6.out hc6 Hhi6.out ⟨hd6, he6⟩).mono ?_
          rintro e v3 ⟨rfl, hb⟩
          have hS2 : Below w7.heap.size w7 v3 := below_cat hb hS
          clear Hhl6 Hhi6
          try go_simp
          refine hK.out _ _ (fun _ => hS2) (fun _ => ?_)
          clear hK K hS hb
          replace hS := hS2
          clear hS2
          try simp only [Act.put, List.setIfInBounds_toArray, List.set_cons_zero, List.set_cons_succ]
          refine' T_take (i := 10) (v := _) rfl (by kernel_rfl) (by kernel_rfl) (by kernel_rfl) (by kernel_rfl) (fun _ _ _ h => h) (by kernel_rfl) hS ?_ ?_
          rotate_left 1
          · intro Wv hW
            replace k0 := cell_of_ans hW k0
            replace k1 := cell_of_ans hW k1
            replace k2 := cell_of_ans hW k2
            replace k3 := cell_of_ans hW k3
            replace k4 := cell_of_ans hW k4
            replace s0 := cell_of_ans hW s0
            replace s1 := cell_of_ans hW s1
            go_simp
            first | done | with_reducible rfl | omega
          try simp only [Act.put, List.setIfInBounds_toArray, List.set_cons_zero, List.set_cons_succ]
          refine T_done (by kernel_rfl) ?_ _
          refine NoPanic.normal ?_
          try go_simp
          have hb := hS
          clear hS
          replace HL := Lib.hid (HL.out.step hb)
          replace HX := Lib.hid (HX.out.step hb)
          replace k0 := cell_of_ans hb k0
          replace k1 := cell_of_ans hb k1
          replace k2 := cell_of_ans hb k2
          replace k3 := cell_of_ans hb k3
          replace k4 := cell_of_ans hb k4
          replace s0 := cell_of_ans hb s0
          replace s1 := cell_of_ans hb s1
          replace l0 := cell_of_ans hb l0
          replace l1 := cell_of_ans hb l1
          replace HB := Lib.hid (HB.out.trans (hb.mono HB.out.size))
          clear hb
          go_wp2_with fail
          refine (HPN.out _ HL.out HX.out).mono ?_
          rintro e v4 ⟨rfl, hb⟩
          replace HL := Lib.hid (HL.out.step hb)
          replace HX := Lib.hid (HX.out.step hb)
          replace k0 := cell_of_ans hb k0
          replace k1 := cell_of_ans hb k1
          replace k2 := cell_of_ans hb k2
          replace k3 := cell_of_ans hb k3
          replace k4 := cell_of_ans hb k4
          replace s0 := cell_of_ans hb s0
          replace s1 := cell_of_ans hb s1
          replace l0 := cell_of_ans hb l0
          replace l1 := cell_of_ans hb l1
          replace HB := Lib.hid (HB.out.trans (hb.mono HB.out.size))
          clear hb
          go_upto_region 6 with fail
          go_upto_region 8 with (go_at_call 27; refine (in_c _ _ _ _).mono ?_; rintro e ww ⟨rfl, rfl⟩)
          go_upto_region 9 with fail
          have ltl0 := World.block_lt_of_cell? _ _ l0
          dsimp only at ltl0
          have hb : Below v4.heap.size v4 (v4.alloc (.cells #[.int .i64 0, .int .i64 0] 50)) := (Below.refl _ _).alloc (Nat.le_refl _) _
          replace HL := Lib.hid (HL.out.step hb)
          replace HX := Lib.hid (HX.out.step hb)
          replace k0 := cell_of_ans hb k0
          replace k1 := cell_of_ans hb k1
          replace k2 := cell_of_ans hb k2
          replace k3 := cell_of_ans hb k3
          replace k4 := cell_of_ans hb k4
          replace s0 := cell_of_ans hb s0
          replace s1 := cell_of_ans hb s1
          replace l0 := cell_of_ans hb l0
          replace l1 := cell_of_ans hb l1
          replace HB := Lib.hid (HB.out.trans (hb.mono HB.out.size))
          clear hb
          have HZ : Hid (At2 (v4.alloc (.cells #[.int .i64 0, .int .i64 0] 50)) v4.heap.size 50 0 0) := by show At2 _ _ _ _ _; unfold At2; exact World.alloc_heap_new _ _
          generalize (v4.alloc (.cells #[.int .i64 0, .int .i64 0] 50)) = v5 at *
          generalize v4.heap.size = zq at *
          go_wp2_with fail
          refine (HC1.out _ HL.out HX.out).mono ?_
          rintro e v6 ⟨rfl, hb⟩
          replace HL := Lib.hid (HL.out.step hb)
          replace HX := Lib.hid (HX.out.step hb)
          replace k0 := cell_of_ans hb k0
          replace k1 := cell_of_ans hb k1
          replace k2 := cell_of_ans hb k2
          replace k3 := cell_of_ans hb k3
          replace k4 := cell_of_ans hb k4
          replace s0 := cell_of_ans hb s0
          replace s1 := cell_of_ans hb s1
          replace l0 := cell_of_ans hb l0
          replace l1 := cell_of_ans hb l1
          replace HZ := Lib.hid (HZ.out.step hb)
          replace HB := Lib.hid (HB.out.trans (hb.mono HB.out.size))
          clear hb
          obtain ⟨⟨z0, z1⟩, zf⟩ := HZ.out.cells
          have zf0 := zf 0
          have zf1 := zf 1
          clear zf
          have HF := Lib.hid (HZ.out.set (0) (0))
          have HGR : Hid (v6.grownBy ((v6.setCell ⟨zq, 0, none⟩ (.int .i64 (0))).setCell ⟨zq, 1, none⟩ (.int .i64 (0))) (some zq)) := only_setCell (p := ⟨zq, 1, none⟩) (only_setCell (p := ⟨zq, 0, none⟩) (World.grownBy.refl v6 (some zq)) (.inl rfl) (.int .i64 (0))) (.inl rfl) (.int .i64 (0))
          have hqn : zq ≠ nq := by omega
          have ml0 := HGR.out.cell l0 (by simp; omega)
          have ml1 := HGR.out.cell l1 (by simp; omega)
          have HBS : Hid (Below w.heap.size w ((v6.setCell ⟨zq, 0, none⟩ (.int .i64 (0))).setCell ⟨zq, 1, none⟩ (.int .i64 (0)))) := (HB.out.setCell (by dsimp only; omega) _).setCell (by dsimp only; omega) _
          go_upto_region 14 with fail
          generalize (v6.setCell ⟨zq, 0, none⟩ (.int .i64 (0))).setCell ⟨zq, 1, none⟩ (.int .i64 (0)) = v7 at *
          obtain ⟨⟨y0, y1⟩, -⟩ := HF.out.cells
          go_wp2_with fail
          refine (awake16_c _).mono ?_
          rintro e wy ⟨rfl, hb⟩
          go_wp2_with fail
          go_ret
          exact ⟨rfl, HBS.out.trans (hb.mono HBS.out.size)⟩
        · rw [e1, e2] at HPR
          simp only [Bool.true_and] at HPR
          rw [HPR.out] at HPV
          have HC3 := Lib.hid (HC2.out (e66 e1) (e67 e2))
          clear HPR HC2 e66 e67
          go_enter Try.func4, Try.ntmps4
          go_wp2_with fail
          generalize ((w.alloc (.cells #[.int .i64 r.rows, .int .i64 r.mid, .int .i64 r.gap, .int .i64 r.reach, .slice A r.links.length c] 24)).alloc (.cells #[.int .i64 st, .int .i64 dr] 50)) = x1 at *
          refine (HTH.out _).mono ?_
          rintro e x4 ⟨rfl, hb⟩
          replace HL := Lib.hid (HL.out.step hb)
          replace HX := Lib.hid (HX.out.step hb)
          replace k0 := cell_of_ans hb k0
          replace k1 := cell_of_ans hb k1
          replace k2 := cell_of_ans hb k2
          replace k3 := cell_of_ans hb k3
          replace k4 := cell_of_ans hb k4
          replace s0 := cell_of_ans hb s0
          replace s1 := cell_of_ans hb s1
          replace HB := Lib.hid (HB.out.trans (hb.mono HB.out.size))
          clear hb
          clear HTH
          go_wp2_with fail
          refine (rack18_c r A c _ HL.out hc hlen).mono ?_
          rintro e w4 ⟨A4, c4, rfl, ⟨hl4, hc4⟩, hb⟩
          replace HL := Lib.hid (HL.out.step hb)
          replace HX := Lib.hid (HX.out.step hb)
          replace k0 := cell_of_ans hb k0
          replace k1 := cell_of_ans hb k1
          replace k2 := cell_of_ans hb k2
          replace k3 := cell_of_ans hb k3
          replace k4 := cell_of_ans hb k4
          replace s0 := cell_of_ans hb s0
          replace s1 := cell_of_ans hb s1
          replace HB := Lib.hid (HB.out.trans (hb.mono HB.out.size))
          clear hb
          have Hhl4 := Lib.hid hl4
          clear hl4
          go_wp2_with fail
          refine (list_c xA xs cx _ HX.out hxl).mono ?_
          rintro e w5 ⟨B4, d4, rfl, ho4, hb⟩
          obtain ⟨hd4, he4, hi4⟩ := isInts_parts (ownsRow_isInts ho4)
          clear ho4
          replace HL := Lib.hid (HL.out.step hb)
          replace HX := Lib.hid (HX.out.step hb)
          replace k0 := cell_of_ans hb k0
          replace k1 := cell_of_ans hb k1
          replace k2 := cell_of_ans hb k2
          replace k3 := cell_of_ans hb k3
          replace k4 := cell_of_ans hb k4
          replace s0 := cell_of_ans hb s0
          replace s1 := cell_of_ans hb s1
          replace Hhl4 := Lib.hid (Hhl4.out.step hb)
          replace HB := Lib.hid (HB.out.trans (hb.mono HB.out.size))
          clear hb
          have Hhi4 := Lib.hid hi4
          clear hi4
          go_wp2_with fail
          refine (HC0.out _ _ _ _ _ Hhl4.out hc4 Hhi4.out ⟨hd4, he4⟩).mono ?_
          rintro e w6 ⟨rfl, hb⟩
          replace HL := Lib.hid (HL.out.step hb)
          replace HX := Lib.hid (HX.out.step hb)
          replace k0 := cell_of_ans hb k0
          replace k1 := cell_of_ans hb k1
          replace k2 := cell_of_ans hb k2
          replace k3 := cell_of_ans hb k3
          replace k4 := cell_of_ans hb k4
          replace s0 := cell_of_ans hb s0
          replace s1 := cell_of_ans hb s1
          replace Hhl4 := Lib.hid (Hhl4.out.step hb)
          replace Hhi4 := Lib.hid (Hhi4.out.step hb)
          replace HB := Lib.hid (HB.out.trans (hb.mono HB.out.size))
          clear hb
          clear Hhl4 Hhi4
          have ltk0 := World.block_lt_of_cell? _ _ k0
          dsimp only at ltk0
          have lts0 := World.block_lt_of_cell? _ _ s0
          dsimp only at lts0
          go_upto_region 4 with fail
          have hb : Below w6.heap.size w6 (w6.alloc (.cells #[.int .i64 0, .int .i64 0] 51)) := (Below.refl _ _).alloc (Nat.le_refl _) _
          replace HL := Lib.hid (HL.out.step hb)
          replace HX := Lib.hid (HX.out.step hb)
          replace k0 := cell_of_ans hb k0
          replace k1 := cell_of_ans hb k1
          replace k2 := cell_of_ans hb k2
          replace k3 := cell_of_ans hb k3
          replace k4 := cell_of_ans hb k4
          replace s0 := cell_of_ans hb s0
          replace s1 := cell_of_ans hb s1
          replace HB := Lib.hid (HB.out.trans (hb.mono HB.out.size))
          clear hb
          have l0 : (w6.alloc (.cells #[.int .i64 0, .int .i64 0] 51)).cell? ⟨w6.heap.size, 0, none⟩ = some (.int .i64 0) := by simp
          have l1 : (w6.alloc (.cells #[.int .i64 0, .int .i64 0] 51)).cell? ⟨w6.heap.size, 1, none⟩ = some (.int .i64 0) := by simp
          generalize (w6.alloc (.cells #[.int .i64 0, .int .i64 0] 51)) = w7 at *
          generalize w6.heap.size = nq at *
          refine wp_region_noPanic ?_
          have hS : (fun W' : World => Below w7.heap.size w7 W') w7.drew := (Below.refl _ _).drew
          refine wp_region_any (by kernel_rfl) (wpAny_of_T (S := fun W' : World => Below w7.heap.size w7 W') (m := 11) _ _ _ _ ?_)
          refine' T_take (i := 0) (v := _) rfl (by kernel_rfl) (by kernel_rfl) (by kernel_rfl) (by kernel_rfl) (fun _ _ _ h => h) (by kernel_rfl) hS ?_ ?_
          rotate_left 1
          · intro Wv hW
            replace k0 := cell_of_ans hW k0
            replace k1 := cell_of_ans hW k1
            replace k2 := cell_of_ans hW k2
            replace k3 := cell_of_ans hW k3
            replace k4 := cell_of_ans hW k4
            replace s0 := cell_of_ans hW s0
            replace s1 := cell_of_ans hW s1
            go_simp
            first | done | with_reducible rfl | omega
          try simp only [Act.put, List.setIfInBounds_toArray, List.set_cons_zero, List.set_cons_succ]
          refine' T_take (i := 2) (v := _) rfl (by kernel_rfl) (by kernel_rfl) (by kernel_rfl) (by kernel_rfl) (fun _ _ _ h => h) (by kernel_rfl) hS ?_ ?_
          rotate_left 1
          · intro Wv hW
            replace k0 := cell_of_ans hW k0
            replace k1 := cell_of_ans hW k1
            replace k2 := cell_of_ans hW k2
            replace k3 := cell_of_ans hW k3
            replace k4 := cell_of_ans hW k4
            replace s0 := cell_of_ans hW s0
            replace s1 := cell_of_ans hW s1
            go_simp
            first | done | with_reducible rfl | omega
          try simp only [Act.put, List.setIfInBounds_toArray, List.set_cons_zero, List.set_cons_succ]
          refine' T_take (i := 4) (v := _) rfl (by kernel_rfl) (by kernel_rfl) (by kernel_rfl) (by kernel_rfl) (fun _ _ _ h => h) (by kernel_rfl) hS ?_ ?_
          rotate_left 1
          · intro Wv hW
            replace k0 := cell_of_ans hW k0
            replace k1 := cell_of_ans hW k1
            replace k2 := cell_of_ans hW k2
            replace k3 := cell_of_ans hW k3
            replace k4 := cell_of_ans hW k4
            replace s0 := cell_of_ans hW s0
            replace s1 := cell_of_ans hW s1
            go_simp
            first | done | with_reducible rfl | omega
          try simp only [Act.put, List.setIfInBounds_toArray, List.set_cons_zero, List.set_cons_succ]
          refine' T_take (i := 5) (v := _) rfl (by kernel_rfl) (by kernel_rfl) (by kernel_rfl) (by kernel_rfl) (fun _ _ _ h => h) (by kernel_rfl) hS ?_ ?_
          rotate_left 1
          · intro Wv hW
            replace k0 := cell_of_ans hW k0
            replace k1 := cell_of_ans hW k1
            replace k2 := cell_of_ans hW k2
            replace k3 := cell_of_ans hW k3
            replace k4 := cell_of_ans hW k4
            replace s0 := cell_of_ans hW s0
            replace s1 := cell_of_ans hW s1
            go_simp
            first | done | with_reducible rfl | omega
          try simp only [Act.put, List.setIfInBounds_toArray, List.set_cons_zero, List.set_cons_succ]
          refine' T_take (i := 6) (v := _) rfl (by kernel_rfl) (by kernel_rfl) (by kernel_rfl) (by kernel_rfl) (fun _ _ _ h => h) (by kernel_rfl) hS ?_ ?_
          rotate_left 1
          · intro Wv hW
            replace k0 := cell_of_ans hW k0
            replace k1 := cell_of_ans hW k1
            replace k2 := cell_of_ans hW k2
            replace k3 := cell_of_ans hW k3
            replace k4 := cell_of_ans hW k4
            replace s0 := cell_of_ans hW s0
            replace s1 := cell_of_ans hW s1
            go_simp
            first | done | with_reducible rfl | omega
          try simp only [Act.put, List.setIfInBounds_toArray, List.set_cons_zero, List.set_cons_succ]
          refine' T_take (i := 7) (v := _) rfl (by kernel_rfl) (by kernel_rfl) (by kernel_rfl) (by kernel_rfl) (fun _ _ _ h => h) (by kernel_rfl) hS ?_ ?_
          rotate_left 1
          · intro Wv hW
            replace k0 := cell_of_ans hW k0
            replace k1 := cell_of_ans hW k1
            replace k2 := cell_of_ans hW k2
            replace k3 := cell_of_ans hW k3
            replace k4 := cell_of_ans hW k4
            replace s0 := cell_of_ans hW s0
            replace s1 := cell_of_ans hW s1
            go_simp
            first | done | with_reducible rfl | omega
          try simp only [Act.put, List.setIfInBounds_toArray, List.set_cons_zero, List.set_cons_succ]
          refine' T_take (i := 8) (v := _) rfl (by kernel_rfl) (by kernel_rfl) (by kernel_rfl) (by kernel_rfl) (fun _ _ _ h => h) (by kernel_rfl) hS ?_ ?_
          rotate_left 1
          · intro Wv hW
            replace k0 := cell_of_ans hW k0
            replace k1 := cell_of_ans hW k1
            replace k2 := cell_of_ans hW k2
            replace k3 := cell_of_ans hW k3
            replace k4 := cell_of_ans hW k4
            replace s0 := cell_of_ans hW s0
            replace s1 := cell_of_ans hW s1
            go_simp
            first | done | with_reducible rfl | omega
          try simp only [Act.put, List.setIfInBounds_toArray, List.set_cons_zero, List.set_cons_succ]
          refine T_ready (rs := [1]) (by kernel_rfl) (by simp) ?_
          refine TReady.cons rfl (fun K hK => ?_) TReady.nil
          try go_simp
          refine (rack18_c r A c _ (HL.out.step hS) hc hlen).mono ?_
          rintro e v1 ⟨A6, c6, rfl, ⟨hl6, hc6⟩, hb⟩
          have hS2 : Below w7.heap.size w7 v1 := below_cat hb hS
          have Hhl6 := Lib.hid hl6
          clear hl6
          try go_simp
          refine hK.out _ _ (fun _ => hS2) (fun _ => ?_)
          clear hK K hS hb
          replace hS := hS2
          clear hS2
          try simp only [Act.put, List.setIfInBounds_toArray, List.set_cons_zero, List.set_cons_succ]
          refine T_ready (rs := [3]) (by kernel_rfl) (by simp) ?_
          refine TReady.cons rfl (fun K hK => ?_) TReady.nil
          try go_simp
          refine (list_c xA xs cx _ (HX.out.step hS) hxl).mono ?_
          rintro e v2 ⟨B6, d6, rfl, ho6, hb⟩
          have hS2 : Below w7.heap.size w7 v2 := below_cat hb hS
          obtain ⟨hd6, he6, hi6⟩ := isInts_parts (ownsRow_isInts ho6)
          have Hhi6 := Lib.hid hi6
          clear hi6 ho6
          replace Hhl6 := Lib.hid (Hhl6.out.step hb)
          try go_simp
          refine hK.out _ _ (fun _ => hS2) (fun _ => ?_)
          clear hK K hS hb
          replace hS := hS2
          clear hS2
          try simp only [Act.put, List.setIfInBounds_toArray, List.set_cons_zero, List.set_cons_succ]
          refine T_ready (rs := [9]) (by kernel_rfl) (by simp) ?_
          refine TReady.cons rfl (fun K hK => ?_) TReady.nil
          try go_simp
          refine (HPV.out _ _ _ _ _ Hhl6.out hc6 Hhi6.out ⟨hd6, he6⟩).mono ?_
          rintro e v3 ⟨rfl, hb⟩
          have hS2 : Below w7.heap.size w7 v3 := below_cat hb hS
          clear Hhl6 Hhi6
          try go_simp
          refine hK.out _ _ (fun _ => hS2) (fun _ => ?_)
          clear hK K hS hb
          replace hS := hS2
          clear hS2
          try simp only [Act.put, List.setIfInBounds_toArray, List.set_cons_zero, List.set_cons_succ]
          refine' T_take (i := 10) (v := _) rfl (by kernel_rfl) (by kernel_rfl) (by kernel_rfl) (by kernel_rfl) (fun _ _ _ h => h) (by kernel_rfl) hS ?_ ?_
          rotate_left 1
          · intro Wv hW
            replace k0 := cell_of_ans hW k0
            replace k1 := cell_of_ans hW k1
            replace k2 := cell_of_ans hW k2
            replace k3 := cell_of_ans hW k3
            replace k4 := cell_of_ans hW k4
            replace s0 := cell_of_ans hW s0
            replace s1 := cell_of_ans hW s1
            go_simp
            first | done | with_reducible rfl | omega
          try simp only [Act.put, List.setIfInBounds_toArray, List.set_cons_zero, List.set_cons_succ]
          refine T_done (by kernel_rfl) ?_ _
          refine NoPanic.normal ?_
          try go_simp
          have hb := hS
          clear hS
          replace HL := Lib.hid (HL.out.step hb)
          replace HX := Lib.hid (HX.out.step hb)
          replace k0 := cell_of_ans hb k0
          replace k1 := cell_of_ans hb k1
          replace k2 := cell_of_ans hb k2
          replace k3 := cell_of_ans hb k3
          replace k4 := cell_of_ans hb k4
          replace s0 := cell_of_ans hb s0
          replace s1 := cell_of_ans hb s1
          replace l0 := cell_of_ans hb l0
          replace l1 := cell_of_ans hb l1
          replace HB := Lib.hid (HB.out.trans (hb.mono HB.out.size))
          clear hb
          go_wp2_with fail
          refine (HPN.out _ HL.out HX.out).mono ?_
          rintro e v4 ⟨rfl, hb⟩
          replace HL := Lib.hid (HL.out.step hb)
          replace HX := Lib.hid (HX.out.step hb)
          replace k0 := cell_of_ans hb k0
          replace k1 := cell_of_ans hb k1
          replace k2 := cell_of_ans hb k2
          replace k3 := cell_of_ans hb k3
          replace k4 := cell_of_ans hb k4
          replace s0 := cell_of_ans hb s0
          replace s1 := cell_of_ans hb s1
          replace l0 := cell_of_ans hb l0
          replace l1 := cell_of_ans hb l1
          replace HB := Lib.hid (HB.out.trans (hb.mono HB.out.size))
          clear hb
          go_upto_region 6 with fail
          go_wp2_with (go_at_call 27; refine (in_c _ _ _ _).mono ?_; rintro e ww ⟨rfl, rfl⟩)
          refine (HC3.out _ HL.out HX.out).mono ?_
          rintro e v9 ⟨rfl, hb⟩
          replace HL := Lib.hid (HL.out.step hb)
          replace HX := Lib.hid (HX.out.step hb)
          replace k0 := cell_of_ans hb k0
          replace k1 := cell_of_ans hb k1
          replace k2 := cell_of_ans hb k2
          replace k3 := cell_of_ans hb k3
          replace k4 := cell_of_ans hb k4
          replace s0 := cell_of_ans hb s0
          replace s1 := cell_of_ans hb s1
          replace l0 := cell_of_ans hb l0
          replace l1 := cell_of_ans hb l1
          replace HB := Lib.hid (HB.out.trans (hb.mono HB.out.size))
          clear hb
          go_upto_region 8 with fail
          clear hcb
          go_upto_region 9 with fail
          have ltl0 := World.block_lt_of_cell? _ _ l0
          dsimp only at ltl0
          have hb : Below v9.heap.size v9 (v9.alloc (.cells #[.int .i64 0, .int .i64 0] 50)) := (Below.refl _ _).alloc (Nat.le_refl _) _
          replace HL := Lib.hid (HL.out.step hb)
          replace HX := Lib.hid (HX.out.step hb)
          replace k0 := cell_of_ans hb k0
          replace k1 := cell_of_ans hb k1
          replace k2 := cell_of_ans hb k2
          replace k3 := cell_of_ans hb k3
          replace k4 := cell_of_ans hb k4
          replace s0 := cell_of_ans hb s0
          replace s1 := cell_of_ans hb s1
          replace l0 := cell_of_ans hb l0
          replace l1 := cell_of_ans hb l1
          replace HB := Lib.hid (HB.out.trans (hb.mono HB.out.size))
          clear hb
          have HZ : Hid (At2 (v9.alloc (.cells #[.int .i64 0, .int .i64 0] 50)) v9.heap.size 50 0 0) := by show At2 _ _ _ _ _; unfold At2; exact World.alloc_heap_new _ _
          generalize (v9.alloc (.cells #[.int .i64 0, .int .i64 0] 50)) = v5 at *
          generalize v9.heap.size = zq at *
          go_wp2_with fail
          refine (HC1.out _ HL.out HX.out).mono ?_
          rintro e v6 ⟨rfl, hb⟩
          replace HL := Lib.hid (HL.out.step hb)
          replace HX := Lib.hid (HX.out.step hb)
          replace k0 := cell_of_ans hb k0
          replace k1 := cell_of_ans hb k1
          replace k2 := cell_of_ans hb k2
          replace k3 := cell_of_ans hb k3
          replace k4 := cell_of_ans hb k4
          replace s0 := cell_of_ans hb s0
          replace s1 := cell_of_ans hb s1
          replace l0 := cell_of_ans hb l0
          replace l1 := cell_of_ans hb l1
          replace HZ := Lib.hid (HZ.out.step hb)
          replace HB := Lib.hid (HB.out.trans (hb.mono HB.out.size))
          clear hb
          obtain ⟨⟨z0, z1⟩, zf⟩ := HZ.out.cells
          have zf0 := zf 0
          have zf1 := zf 1
          clear zf
          have HF := Lib.hid (HZ.out.set (0) (0))
          have HGR : Hid (v6.grownBy ((v6.setCell ⟨zq, 0, none⟩ (.int .i64 (0))).setCell ⟨zq, 1, none⟩ (.int .i64 (0))) (some zq)) := only_setCell (p := ⟨zq, 1, none⟩) (only_setCell (p := ⟨zq, 0, none⟩) (World.grownBy.refl v6 (some zq)) (.inl rfl) (.int .i64 (0))) (.inl rfl) (.int .i64 (0))
          have hqn : zq ≠ nq := by omega
          have ml0 := HGR.out.cell l0 (by simp; omega)
          have ml1 := HGR.out.cell l1 (by simp; omega)
          have HBS : Hid (Below w.heap.size w ((v6.setCell ⟨zq, 0, none⟩ (.int .i64 (0))).setCell ⟨zq, 1, none⟩ (.int .i64 (0)))) := (HB.out.setCell (by dsimp only; omega) _).setCell (by dsimp only; omega) _
          go_upto_region 14 with fail
          generalize (v6.setCell ⟨zq, 0, none⟩ (.int .i64 (0))).setCell ⟨zq, 1, none⟩ (.int .i64 (0)) = v7 at *
          obtain ⟨⟨y0, y1⟩, -⟩ := HF.out.cells
          go_wp2_with fail
          refine (awake16_c _).mono ?_
          rintro e wy ⟨rfl, hb⟩
          go_wp2_with fail
          go_ret
          exact ⟨rfl, HBS.out.trans (hb.mono HBS.out.size)⟩
    · clear q3
      simp only [if_true, if_false, Bool.false_eq_true] at HC0
      cases e1 : inB st 0 60
      · rw [e1] at HPR
        simp only [Bool.false_and] at HPR
        rw [HPR.out] at HPV
        clear HPR HC2 e66 e67 hcb
        go_enter Try.func4, Try.ntmps4
        go_wp2_with fail
        generalize ((w.alloc (.cells #[.int .i64 r.rows, .int .i64 r.mid, .int .i64 r.gap, .int .i64 r.reach, .slice A r.links.length c] 24)).alloc (.cells #[.int .i64 st, .int .i64 dr] 50)) = x1 at *
        refine (HTH.out _).mono ?_
        rintro e x5 ⟨rfl, hb⟩
        replace HL := Lib.hid (HL.out.step hb)
        replace HX := Lib.hid (HX.out.step hb)
        replace k0 := cell_of_ans hb k0
        replace k1 := cell_of_ans hb k1
        replace k2 := cell_of_ans hb k2
        replace k3 := cell_of_ans hb k3
        replace k4 := cell_of_ans hb k4
        replace s0 := cell_of_ans hb s0
        replace s1 := cell_of_ans hb s1
        replace HB := Lib.hid (HB.out.trans (hb.mono HB.out.size))
        clear hb
        clear HTH
        go_wp2_with fail
        refine (rack18_c r A c _ HL.out hc hlen).mono ?_
        rintro e w4 ⟨A4, c4, rfl, ⟨hl4, hc4⟩, hb⟩
        replace HL := Lib.hid (HL.out.step hb)
        replace HX := Lib.hid (HX.out.step hb)
        replace k0 := cell_of_ans hb k0
        replace k1 := cell_of_ans hb k1
        replace k2 := cell_of_ans hb k2
        replace k3 := cell_of_ans hb k3
        replace k4 := cell_of_ans hb k4
        replace s0 := cell_of_ans hb s0
        replace s1 := cell_of_ans hb s1
        replace HB := Lib.hid (HB.out.trans (hb.mono HB.out.size))
        clear hb
        have Hhl4 := Lib.hid hl4
        clear hl4
        go_wp2_with fail
        refine (list_c xA xs cx _ HX.out hxl).mono ?_
        rintro e w5 ⟨B4, d4, rfl, ho4, hb⟩
        obtain ⟨hd4, he4, hi4⟩ := isInts_parts (ownsRow_isInts ho4)
        clear ho4
        replace HL := Lib.hid (HL.out.step hb)
        replace HX := Lib.hid (HX.out.step hb)
        replace k0 := cell_of_ans hb k0
        replace k1 := cell_of_ans hb k1
        replace k2 := cell_of_ans hb k2
        replace k3 := cell_of_ans hb k3
        replace k4 := cell_of_ans hb k4
        replace s0 := cell_of_ans hb s0
        replace s1 := cell_of_ans hb s1
        replace Hhl4 := Lib.hid (Hhl4.out.step hb)
        replace HB := Lib.hid (HB.out.trans (hb.mono HB.out.size))
        clear hb
        have Hhi4 := Lib.hid hi4
        clear hi4
        go_wp2_with fail
        refine (HC0.out _ _ _ _ _ Hhl4.out hc4 Hhi4.out ⟨hd4, he4⟩).mono ?_
        rintro e w6 ⟨rfl, hb⟩
        replace HL := Lib.hid (HL.out.step hb)
        replace HX := Lib.hid (HX.out.step hb)
        replace k0 := cell_of_ans hb k0
        replace k1 := cell_of_ans hb k1
        replace k2 := cell_of_ans hb k2
        replace k3 := cell_of_ans hb k3
        replace k4 := cell_of_ans hb k4
        replace s0 := cell_of_ans hb s0
        replace s1 := cell_of_ans hb s1
        replace Hhl4 := Lib.hid (Hhl4.out.step hb)
        replace Hhi4 := Lib.hid (Hhi4.out.step hb)
        replace HB := Lib.hid (HB.out.trans (hb.mono HB.out.size))
        clear hb
        clear Hhl4 Hhi4
        have ltk0 := World.block_lt_of_cell? _ _ k0
        dsimp only at ltk0
        have lts0 := World.block_lt_of_cell? _ _ s0
        dsimp only at lts0
        go_upto_region 4 with fail
        have hb : Below w6.heap.size w6 (w6.alloc (.cells #[.int .i64 a, .int .i64 b] 51)) := (Below.refl _ _).alloc (Nat.le_refl _) _
        replace HL := Lib.hid (HL.out.step hb)
        replace HX := Lib.hid (HX.out.step hb)
        replace k0 := cell_of_ans hb k0
        replace k1 := cell_of_ans hb k1
        replace k2 := cell_of_ans hb k2
        replace k3 := cell_of_ans hb k3
        replace k4 := cell_of_ans hb k4
        replace s0 := cell_of_ans hb s0
        replace s1 := cell_of_ans hb s1
        replace HB := Lib.hid (HB.out.trans (hb.mono HB.out.size))
        clear hb
        have l0 : (w6.alloc (.cells #[.int .i64 a, .int .i64 b] 51)).cell? ⟨w6.heap.size, 0, none⟩ = some (.int .i64 a) := by simp
        have l1 : (w6.alloc (.cells #[.int .i64 a, .int .i64 b] 51)).cell? ⟨w6.heap.size, 1, none⟩ = some (.int .i64 b) := by simp
        generalize (w6.alloc (.cells #[.int .i64 a, .int .i64 b] 51)) = w7 at *
        generalize w6.heap.size = nq at *
        refine wp_region_noPanic ?_
        have hS : (fun W' : World => Below w7.heap.size w7 W') w7.drew := (Below.refl _ _).drew
        refine wp_region_any (by kernel_rfl) (wpAny_of_T (S := fun W' : World => Below w7.heap.size w7 W') (m := 11) _ _ _ _ ?_)
        refine' T_take (i := 0) (v := _) rfl (by kernel_rfl) (by kernel_rfl) (by kernel_rfl) (by kernel_rfl) (fun _ _ _ h => h) (by kernel_rfl) hS ?_ ?_
        rotate_left 1
        · intro Wv hW
          replace k0 := cell_of_ans hW k0
          replace k1 := cell_of_ans hW k1
          replace k2 := cell_of_ans hW k2
          replace k3 := cell_of_ans hW k3
          replace k4 := cell_of_ans hW k4
          replace s0 := cell_of_ans hW s0
          replace s1 := cell_of_ans hW s1
          go_simp
          first | done | with_reducible rfl | omega
        try simp only [Act.put, List.setIfInBounds_toArray, List.set_cons_zero, List.set_cons_succ]
        refine' T_take (i := 2) (v := _) rfl (by kernel_rfl) (by kernel_rfl) (by kernel_rfl) (by kernel_rfl) (fun _ _ _ h => h) (by kernel_rfl) hS ?_ ?_
        rotate_left 1
        · intro Wv hW
          replace k0 := cell_of_ans hW k0
          replace k1 := cell_of_ans hW k1
          replace k2 := cell_of_ans hW k2
          replace k3 := cell_of_ans hW k3
          replace k4 := cell_of_ans hW k4
          replace s0 := cell_of_ans hW s0
          replace s1 := cell_of_ans hW s1
          go_simp
          first | done | with_reducible rfl | omega
        try simp only [Act.put, List.setIfInBounds_toArray, List.set_cons_zero, List.set_cons_succ]
        refine' T_take (i := 4) (v := _) rfl (by kernel_rfl) (by kernel_rfl) (by kernel_rfl) (by kernel_rfl) (fun _ _ _ h => h) (by kernel_rfl) hS ?_ ?_
        rotate_left 1
        · intro Wv hW
          replace k0 := cell_of_ans hW k0
          replace k1 := cell_of_ans hW k1
          replace k2 := cell_of_ans hW k2
          replace k3 := cell_of_ans hW k3
          replace k4 := cell_of_ans hW k4
          replace s0 := cell_of_ans hW s0
          replace s1 := cell_of_ans hW s1
          go_simp
          first | done | with_reducible rfl | omega
        try simp only [Act.put, List.setIfInBounds_toArray, List.set_cons_zero, List.set_cons_succ]
        refine' T_take (i := 5) (v := _) rfl (by kernel_rfl) (by kernel_rfl) (by kernel_rfl) (by kernel_rfl) (fun _ _ _ h => h) (by kernel_rfl) hS ?_ ?_
        rotate_left 1
        · intro Wv hW
          replace k0 := cell_of_ans hW k0
          replace k1 := cell_of_ans hW k1
          replace k2 := cell_of_ans hW k2
          replace k3 := cell_of_ans hW k3
          replace k4 := cell_of_ans hW k4
          replace s0 := cell_of_ans hW s0
          replace s1 := cell_of_ans hW s1
          go_simp
          first | done | with_reducible rfl | omega
        try simp only [Act.put, List.setIfInBounds_toArray, List.set_cons_zero, List.set_cons_succ]
        refine' T_take (i := 6) (v := _) rfl (by kernel_rfl) (by kernel_rfl) (by kernel_rfl) (by kernel_rfl) (fun _ _ _ h => h) (by kernel_rfl) hS ?_ ?_
        rotate_left 1
        · intro Wv hW
          replace k0 := cell_of_ans hW k0
          replace k1 := cell_of_ans hW k1
          replace k2 := cell_of_ans hW k2
          replace k3 := cell_of_ans hW k3
          replace k4 := cell_of_ans hW k4
          replace s0 := cell_of_ans hW s0
          replace s1 := cell_of_ans hW s1
          go_simp
          first | done | with_reducible rfl | omega
        try simp only [Act.put, List.setIfInBounds_toArray, List.set_cons_zero, List.set_cons_succ]
        refine' T_take (i := 7) (v := _) rfl (by kernel_rfl) (by kernel_rfl) (by kernel_rfl) (by kernel_rfl) (fun _ _ _ h => h) (by kernel_rfl) hS ?_ ?_
        rotate_left 1
        · intro Wv hW
          replace k0 := cell_of_ans hW k0
          replace k1 := cell_of_ans hW k1
          replace k2 := cell_of_ans hW k2
          replace k3 := cell_of_ans hW k3
          replace k4 := cell_of_ans hW k4
          replace s0 := cell_of_ans hW s0
          replace s1 := cell_of_ans hW s1
          go_simp
          first | done | with_reducible rfl | omega
        try simp only [Act.put, List.setIfInBounds_toArray, List.set_cons_zero, List.set_cons_succ]
        refine' T_take (i := 8) (v := _) rfl (by kernel_rfl) (by kernel_rfl) (by kernel_rfl) (by kernel_rfl) (fun _ _ _ h => h) (by kernel_rfl) hS ?_ ?_
        rotate_left 1
        · intro Wv hW
          replace k0 := cell_of_ans hW k0
          replace k1 := cell_of_ans hW k1
          replace k2 := cell_of_ans hW k2
          replace k3 := cell_of_ans hW k3
          replace k4 := cell_of_ans hW k4
          replace s0 := cell_of_ans hW s0
          replace s1 := cell_of_ans hW s1
          go_simp
          first | done | with_reducible rfl | omega
        try simp only [Act.put, List.setIfInBounds_toArray, List.set_cons_zero, List.set_cons_succ]
        refine T_ready (rs := [1]) (by kernel_rfl) (by simp) ?_
        refine TReady.cons rfl (fun K hK => ?_) TReady.nil
        try go_simp
        refine (rack18_c r A c _ (HL.out.step hS) hc hlen).mono ?_
        rintro e v1 ⟨A6, c6, rfl, ⟨hl6, hc6⟩, hb⟩
        have hS2 : Below w7.heap.size w7 v1 := below_cat hb hS
        have Hhl6 := Lib.hid hl6
        clear hl6
        try go_simp
        refine hK.out _ _ (fun _ => hS2) (fun _ => ?_)
        clear hK K hS hb
        replace hS := hS2
        clear hS2
        try simp only [Act.put, List.setIfInBounds_toArray, List.set_cons_zero, List.set_cons_succ]
        refine T_ready (rs := [3]) (by kernel_rfl) (by simp) ?_
        refine TReady.cons rfl (fun K hK => ?_) TReady.nil
        try go_simp
        refine (list_c xA xs cx _ (HX.out.step hS) hxl).mono ?_
        rintro e v2 ⟨B6, d6, rfl, ho6, hb⟩
        have hS2 : Below w7.heap.size w7 v2 := below_cat hb hS
        obtain ⟨hd6, he6, hi6⟩ := isInts_parts (ownsRow_isInts ho6)
        have Hhi6 := Lib.hid hi6
        clear hi6 ho6
        replace Hhl6 := Lib.hid (Hhl6.out.step hb)
        try go_simp
        refine hK.out _ _ (fun _ => hS2) (fun _ => ?_)
        clear hK K hS hb
        replace hS := hS2
        clear hS2
        try simp only [Act.put, List.setIfInBounds_toArray, List.set_cons_zero, List.set_cons_succ]
        refine T_ready (rs := [9]) (by kernel_rfl) (by simp) ?_
        refine TReady.cons rfl (fun K hK => ?_) TReady.nil
        try go_simp
        refine (HPV.out _ _ _ _ _ Hhl6.out hc6 Hhi6.out ⟨hd6, he6⟩).mono ?_
        rintro e v3 ⟨rfl, hb⟩
        have hS2 : Below w7.heap.size w7 v3 := below_cat hb hS
        clear Hhl6 Hhi6
        try go_simp
        refine hK.out _ _ (fun _ => hS2) (fun _ => ?_)
        clear hK K hS hb
        replace hS := hS2
        clear hS2
        try simp only [Act.put, List.setIfInBounds_toArray, List.set_cons_zero, List.set_cons_succ]
        refine' T_take (i := 10) (v := _) rfl (by kernel_rfl) (by kernel_rfl) (by kernel_rfl) (by kernel_rfl) (fun _ _ _ h => h) (by kernel_rfl) hS ?_ ?_
        rotate_left 1
        · intro Wv hW
          replace k0 := cell_of_ans hW k0
          replace k1 := cell_of_ans hW k1
          replace k2 := cell_of_ans hW k2
          replace k3 := cell_of_ans hW k3
          replace k4 := cell_of_ans hW k4
          replace s0 := cell_of_ans hW s0
          replace s1 := cell_of_ans hW s1
          go_simp
          first | done | with_reducible rfl | omega
        try simp only [Act.put, List.setIfInBounds_toArray, List.set_cons_zero, List.set_cons_succ]
        refine T_done (by kernel_rfl) ?_ _
        refine NoPanic.normal ?_
        try go_simp
        have hb := hS
        clear hS
        replace HL := Lib.hid (HL.out.step hb)
        replace HX := Lib.hid (HX.out.step hb)
        replace k0 := cell_of_ans hb k0
        replace k1 := cell_of_ans hb k1
        replace k2 := cell_of_ans hb k2
        replace k3 := cell_of_ans hb k3
        replace k4 := cell_of_ans hb k4
        replace s0 := cell_of_ans hb s0
        replace s1 := cell_of_ans hb s1
        replace l0 := cell_of_ans hb l0
        replace l1 := cell_of_ans hb l1
        replace HB := Lib.hid (HB.out.trans (hb.mono HB.out.size))
        clear hb
        go_wp2_with fail
        refine (HPN.out _ HL.out HX.out).mono ?_
        rintro e v4 ⟨rfl, hb⟩
        replace HL := Lib.hid (HL.out.step hb)
        replace HX := Lib.hid (HX.out.step hb)
        replace k0 := cell_of_ans hb k0
        replace k1 := cell_of_ans hb k1
        replace k2 := cell_of_ans hb k2
        replace k3 := cell_of_ans hb k3
        replace k4 := cell_of_ans hb k4
        replace s0 := cell_of_ans hb s0
        replace s1 := cell_of_ans hb s1
        replace l0 := cell_of_ans hb l0
        replace l1 := cell_of_ans hb l1
        replace HB := Lib.hid (HB.out.trans (hb.mono HB.out.size))
        clear hb
        go_upto_region 6 with fail
        go_upto_region 8 with (go_at_call 27; refine (in_c _ _ _ _).mono ?_; rintro e ww ⟨rfl, rfl⟩)
        go_upto_region 9 with fail
        have ltl0 := World.block_lt_of_cell? _ _ l0
        dsimp only at ltl0
        have hb : Below v4.heap.size v4 (v4.alloc (.cells #[.int .i64 0, .int .i64 0] 50)) := (Below.refl _ _).alloc (Nat.le_refl _) _
        replace HL := Lib.hid (HL.out.step hb)
        replace HX := Lib.hid (HX.out.step hb)
        replace k0 := cell_of_ans hb k0
        replace k1 := cell_of_ans hb k1
        replace k2 := cell_of_ans hb k2
        replace k3 := cell_of_ans hb k3
        replace k4 := cell_of_ans hb k4
        replace s0 := cell_of_ans hb s0
        replace s1 := cell_of_ans hb s1
        replace l0 := cell_of_ans hb l0
        replace l1 := cell_of_ans hb l1
        replace HB := Lib.hid (HB.out.trans (hb.mono HB.out.size))
        clear hb
        have HZ : Hid (At2 (v4.alloc (.cells #[.int .i64 0, .int .i64 0] 50)) v4.heap.size 50 0 0) := by show At2 _ _ _ _ _; unfold At2; exact World.alloc_heap_new _ _
        generalize (v4.alloc (.cells #[.int .i64 0, .int .i64 0] 50)) = v5 at *
        generalize v4.heap.size = zq at *
        go_wp2_with fail
        refine (HC1.out _ HL.out HX.out).mono ?_
        rintro e v6 ⟨rfl, hb⟩
        replace HL := Lib.hid (HL.out.step hb)
        replace HX := Lib.hid (HX.out.step hb)
        replace k0 := cell_of_ans hb k0
        replace k1 := cell_of_ans hb k1
        replace k2 := cell_of_ans hb k2
        replace k3 := cell_of_ans hb k3
        replace k4 := cell_of_ans hb k4
        replace s0 := cell_of_ans hb s0
        replace s1 := cell_of_ans hb s1
        replace l0 := cell_of_ans hb l0
        replace l1 := cell_of_ans hb l1
        replace HZ := Lib.hid (HZ.out.step hb)
        replace HB := Lib.hid (HB.out.trans (hb.mono HB.out.size))
        clear hb
        obtain ⟨⟨z0, z1⟩, zf⟩ := HZ.out.cells
        have zf0 := zf 0
        have zf1 := zf 1
        clear zf
        have HF := Lib.hid (HZ.out.set (a) (b))
        have HGR : Hid (v6.grownBy ((v6.setCell ⟨zq, 0, none⟩ (.int .i64 (a))).setCell ⟨zq, 1, none⟩ (.int .i64 (b))) (some zq)) := only_setCell (p := ⟨zq, 1, none⟩) (only_setCell (p := ⟨zq, 0, none⟩) (World.grownBy.refl v6 (some zq)) (.inl rfl) (.int .i64 (a))) (.inl rfl) (.int .i64 (b))
        have hqn : zq ≠ nq := by omega
        have ml0 := HGR.out.cell l0 (by simp; omega)
        have ml1 := HGR.out.cell l1 (by simp; omega)
        have HBS : Hid (Below w.heap.size w ((v6.setCell ⟨zq, 0, none⟩ (.int .i64 (a))).setCell ⟨zq, 1, none⟩ (.int .i64 (b)))) := (HB.out.setCell (by dsimp only; omega) _).setCell (by dsimp only; omega) _
        go_upto_region 12 with fail
        generalize (v6.setCell ⟨zq, 0, none⟩ (.int .i64 (a))).setCell ⟨zq, 1, none⟩ (.int .i64 (b)) = v7 at *
        obtain ⟨⟨y0, y1⟩, -⟩ := HF.out.cells
        go_wp2_with fail
        refine (awake16_c _).mono ?_
        rintro e wy ⟨rfl, hb⟩
        go_wp2_with fail
        go_ret
        exact ⟨rfl, HBS.out.trans (hb.mono HBS.out.size)⟩
      · cases e2 : inB dr (-3) 3
        · rw [e1, e2] at HPR
          simp only [Bool.false_and, Bool.true_and] at HPR
          rw [HPR.out] at HPV
          clear HPR HC2 e66 e67 hcb
          go_enter Try.func4, Try.ntmps4
          go_wp2_with fail
          generalize ((w.alloc (.cells #[.int .i64 r.rows, .int .i64 r.mid, .int .i64 r.gap, .int .i64 r.reach, .slice A r.links.length c] 24)).alloc (.cells #[.int .i64 st, .int .i64 dr] 50)) = x1 at *
          refine (HTH.out _).mono ?_
          rintro e x6 ⟨rfl, hb⟩
          replace HL := Lib.hid (HL.out.step hb)
          replace HX := Lib.hid (HX.out.step hb)
          replace k0 := cell_of_ans hb k0
          replace k1 := cell_of_ans hb k1
          replace k2 := cell_of_ans hb k2
          replace k3 := cell_of_ans hb k3
          replace k4 := cell_of_ans hb k4
          replace s0 := cell_of_ans hb s0
          replace s1 := cell_of_ans hb s1
          replace HB := Lib.hid (HB.out.trans (hb.mono HB.out.size))
          clear hb
          clear HTH
          go_wp2_with fail
          refine (rack18_c r A c _ HL.out hc hlen).mono ?_
          rintro e w4 ⟨A4, c4, rfl, ⟨hl4, hc4⟩, hb⟩
          replace HL := Lib.hid (HL.out.step hb)
          replace HX := Lib.hid (HX.out.step hb)
          replace k0 := cell_of_ans hb k0
          replace k1 := cell_of_ans hb k1
          replace k2 := cell_of_ans hb k2
          replace k3 := cell_of_ans hb k3
          replace k4 := cell_of_ans hb k4
          replace s0 := cell_of_ans hb s0
          replace s1 := cell_of_ans hb s1
          replace HB := Lib.hid (HB.out.trans (hb.mono HB.out.size))
          clear hb
          have Hhl4 := Lib.hid hl4
          clear hl4
          go_wp2_with fail
          refine (list_c xA xs cx _ HX.out hxl).mono ?_
          rintro e w5 ⟨B4, d4, rfl, ho4, hb⟩
          obtain ⟨hd4, he4, hi4⟩ := isInts_parts (ownsRow_isInts ho4)
          clear ho4
          replace HL := Lib.hid (HL.out.step hb)
          replace HX := Lib.hid (HX.out.step hb)
          replace k0 := cell_of_ans hb k0
          replace k1 := cell_of_ans hb k1
          replace k2 := cell_of_ans hb k2
          replace k3 := cell_of_ans hb k3
          replace k4 := cell_of_ans hb k4
          replace s0 := cell_of_ans hb s0
          replace s1 := cell_of_ans hb s1
          replace Hhl4 := Lib.hid (Hhl4.out.step hb)
          replace HB := Lib.hid (HB.out.trans (hb.mono HB.out.size))
          clear hb
          have Hhi4 := Lib.hid hi4
          clear hi4
          go_wp2_with fail
          refine (HC0.out _ _ _ _ _ Hhl4.out hc4 Hhi4.out ⟨hd4, he4⟩).mono ?_
          rintro e w6 ⟨rfl, hb⟩
          replace HL := Lib.hid (HL.out.step hb)
          replace HX := Lib.hid (HX.out.step hb)
          replace k0 := cell_of_ans hb k0
          replace k1 := cell_of_ans hb k1
          replace k2 := cell_of_ans hb k2
          replace k3 := cell_of_ans hb k3
          replace k4 := cell_of_ans hb k4
          replace s0 := cell_of_ans hb s0
          replace s1 := cell_of_ans hb s1
          replace Hhl4 := Lib.hid (Hhl4.out.step hb)
          replace Hhi4 := Lib.hid (Hhi4.out.step hb)
          replace HB := Lib.hid (HB.out.trans (hb.mono HB.out.size))
          clear hb
          clear Hhl4 Hhi4
          have ltk0 := World.block_lt_of_cell? _ _ k0
          dsimp only at ltk0
          have lts0 := World.block_lt_of_cell? _ _ s0
          dsimp only at lts0
          go_upto_region 4 with fail
          have hb : Below w6.heap.size w6 (w6.alloc (.cells #[.int .i64 a, .int .i64 b] 51)) := (Below.refl _ _).alloc (Nat.le_refl _) _
          replace HL := Lib.hid (HL.out.step hb)
          replace HX := Lib.hid (HX.out.step hb)
          replace k0 := cell_of_ans hb k0
          replace k1 := cell_of_ans hb k1
          replace k2 := cell_of_ans hb k2
          replace k3 := cell_of_ans hb k3
          replace k4 := cell_of_ans hb k4
          replace s0 := cell_of_ans hb s0
          replace s1 := cell_of_ans hb s1
          replace HB := Lib.hid (HB.out.trans (hb.mono HB.out.size))
          clear hb
          have l0 : (w6.alloc (.cells #[.int .i64 a, .int .i64 b] 51)).cell? ⟨w6.heap.size, 0, none⟩ = some (.int .i64 a) := by simp
          have l1 : (w6.alloc (.cells #[.int .i64 a, .int .i64 b] 51)).cell? ⟨w6.heap.size, 1, none⟩ = some (.int .i64 b) := by simp
          generalize (w6.alloc (.cells #[.int .i64 a, .int .i64 b] 51)) = w7 at *
          generalize w6.heap.size = nq at *
          refine wp_region_noPanic ?_
          have hS : (fun W' : World => Below w7.heap.size w7 W') w7.drew := (Below.refl _ _).drew
          refine wp_region_any (by kernel_rfl) (wpAny_of_T (S := fun W' : World => Below w7.heap.size w7 W') (m := 11) _ _ _ _ ?_)
          refine' T_take (i := 0) (v := _) rfl (by kernel_rfl) (by kernel_rfl) (by kernel_rfl) (by kernel_rfl) (fun _ _ _ h => h) (by kernel_rfl) hS ?_ ?_
          rotate_left 1
          · intro Wv hW
            replace k0 := cell_of_ans hW k0
            replace k1 := cell_of_ans hW k1
            replace k2 := cell_of_ans hW k2
            replace k3 := cell_of_ans hW k3
            replace k4 := cell_of_ans hW k4
            replace s0 := cell_of_ans hW s0
            replace s1 := cell_of_ans hW s1
            go_simp
            first | done | with_reducible rfl | omega
          try simp only [Act.put, List.setIfInBounds_toArray, List.set_cons_zero, List.set_cons_succ]
          refine' T_take (i := 2) (v := _) rfl (by kernel_rfl) (by kernel_rfl) (by kernel_rfl) (by kernel_rfl) (fun _ _ _ h => h) (by kernel_rfl) hS ?_ ?_
          rotate_left 1
          · intro Wv hW
            replace k0 := cell_of_ans hW k0
            replace k1 := cell_of_ans hW k1
            replace k2 := cell_of_ans hW k2
            replace k3 := cell_of_ans hW k3
            replace k4 := cell_of_ans hW k4
            replace s0 := cell_of_ans hW s0
            replace s1 := cell_of_ans hW s1
            go_simp
            first | done | with_reducible rfl | omega
          try simp only [Act.put, List.setIfInBounds_toArray, List.set_cons_zero, List.set_cons_succ]
          refine' T_take (i := 4) (v := _) rfl (by kernel_rfl) (by kernel_rfl) (by kernel_rfl) (by kernel_rfl) (fun _ _ _ h => h) (by kernel_rfl) hS ?_ ?_
          rotate_left 1
          · intro Wv hW
            replace k0 := cell_of_ans hW k0
            replace k1 := cell_of_ans hW k1
            replace k2 := cell_of_ans hW k2
            replace k3 := cell_of_ans hW k3
            replace k4 := cell_of_ans hW k4
            replace s0 := cell_of_ans hW s0
            replace s1 := cell_of_ans hW s1
            go_simp
            first | done | with_reducible rfl | omega
          try simp only [Act.put, List.setIfInBounds_toArray, List.set_cons_zero, List.set_cons_succ]
          refine' T_take (i := 5) (v := _) rfl (by kernel_rfl) (by kernel_rfl) (by kernel_rfl) (by kernel_rfl) (fun _ _ _ h => h) (by kernel_rfl) hS ?_ ?_
          rotate_left 1
          · intro Wv hW
            replace k0 := cell_of_ans hW k0
            replace k1 := cell_of_ans hW k1
            replace k2 := cell_of_ans hW k2
            replace k3 := cell_of_ans hW k3
            replace k4 := cell_of_ans hW k4
            replace s0 := cell_of_ans hW s0
            replace s1 := cell_of_ans hW s1
            go_simp
            first | done | with_reducible rfl | omega
          try simp only [Act.put, List.setIfInBounds_toArray, List.set_cons_zero, List.set_cons_succ]
          refine' T_take (i := 6) (v := _) rfl (by kernel_rfl) (by kernel_rfl) (by kernel_rfl) (by kernel_rfl) (fun _ _ _ h => h) (by kernel_rfl) hS ?_ ?_
          rotate_left 1
          · intro Wv hW
            replace k0 := cell_of_ans hW k0
            replace k1 := cell_of_ans hW k1
            replace k2 := cell_of_ans hW k2
            replace k3 := cell_of_ans hW k3
            replace k4 := cell_of_ans hW k4
            replace s0 := cell_of_ans hW s0
            replace s1 := cell_of_ans hW s1
            go_simp
            first | done | with_reducible rfl | omega
          try simp only [Act.put, List.setIfInBounds_toArray, List.set_cons_zero, List.set_cons_succ]
          refine' T_take (i := 7) (v := _) rfl (by kernel_rfl) (by kernel_rfl) (by kernel_rfl) (by kernel_rfl) (fun _ _ _ h => h) (by kernel_rfl) hS ?_ ?_
          rotate_left 1
          · intro Wv hW
            replace k0 := cell_of_ans hW k0
            replace k1 := cell_of_ans hW k1
            replace k2 := cell_of_ans hW k2
            replace k3 := cell_of_ans hW k3
            replace k4 := cell_of_ans hW k4
            replace s0 := cell_of_ans hW s0
            replace s1 := cell_of_ans hW s1
            go_simp
            first | done | with_reducible rfl | omega
          try simp only [Act.put, List.setIfInBounds_toArray, List.set_cons_zero, List.set_cons_succ]
          refine' T_take (i := 8) (v := _) rfl (by kernel_rfl) (by kernel_rfl) (by kernel_rfl) (by kernel_rfl) (fun _ _ _ h => h) (by kernel_rfl) hS ?_ ?_
          rotate_left 1
          · intro Wv hW
            replace k0 := cell_of_ans hW k0
            replace k1 := cell_of_ans hW k1
            replace k2 := cell_of_ans hW k2
            replace k3 := cell_of_ans hW k3
            replace k4 := cell_of_ans hW k4
            replace s0 := cell_of_ans hW s0
            replace s1 := cell_of_ans hW s1
            go_simp
            first | done | with_reducible rfl | omega
          try simp only [Act.put, List.setIfInBounds_toArray, List.set_cons_zero, List.set_cons_succ]
          refine T_ready (rs := [1]) (by kernel_rfl) (by simp) ?_
          refine TReady.cons rfl (fun K hK => ?_) TReady.nil
          try go_simp
          refine (rack18_c r A c _ (HL.out.step hS) hc hlen).mono ?_
          rintro e v1 ⟨A6, c6, rfl, ⟨hl6, hc6⟩, hb⟩
          have hS2 : Below w7.heap.size w7 v1 := below_cat hb hS
          have Hhl6 := Lib.hid hl6
          clear hl6
          try go_simp
          refine hK.out _ _ (fun _ => hS2) (fun _ => ?_)
          clear hK K hS hb
          replace hS := hS2
          clear hS2
          try simp only [Act.put, List.setIfInBounds_toArray, List.set_cons_zero, List.set_cons_succ]
          refine T_ready (rs := [3]) (by kernel_rfl) (by simp) ?_
          refine TReady.cons rfl (fun K hK => ?_) TReady.nil
          try go_simp
          refine (list_c xA xs cx _ (HX.out.step hS) hxl).mono ?_
          rintro e v2 ⟨B6, d6, rfl, ho6, hb⟩
          have hS2 : Below w7.heap.size w7 v2 := below_cat hb hS
          obtain ⟨hd6, he6, hi6⟩ := isInts_parts (ownsRow_isInts ho6)
          have Hhi6 := Lib.hid hi6
          clear hi6 ho6
          replace Hhl6 := Lib.hid (Hhl6.out.step hb)
          try go_simp
          refine hK.out _ _ (fun _ => hS2) (fun _ => ?_)
          clear hK K hS hb
          replace hS := hS2
          clear hS2
          try simp only [Act.put, List.setIfInBounds_toArray, List.set_cons_zero, List.set_cons_succ]
          refine T_ready (rs := [9]) (by kernel_rfl) (by simp) ?_
          refine TReady.cons rfl (fun K hK => ?_) TReady.nil
          try go_simp
          refine (HPV.out _ _ _ _ _ Hhl6.out hc6 Hhi6.out ⟨hd6, he6⟩).mono ?_
          rintro e v3 ⟨rfl, hb⟩
          have hS2 : Below w7.heap.size w7 v3 := below_cat hb hS
          clear Hhl6 Hhi6
          try go_simp
          refine hK.out _ _ (fun _ => hS2) (fun _ => ?_)
          clear hK K hS hb
          replace hS := hS2
          clear hS2
          try simp only [Act.put, List.setIfInBounds_toArray, List.set_cons_zero, List.set_cons_succ]
          refine' T_take (i := 10) (v := _) rfl (by kernel_rfl) (by kernel_rfl) (by kernel_rfl) (by kernel_rfl) (fun _ _ _ h => h) (by kernel_rfl) hS ?_ ?_
          rotate_left 1
          · intro Wv hW
            replace k0 := cell_of_ans hW k0
            replace k1 := cell_of_ans hW k1
            replace k2 := cell_of_ans hW k2
            replace k3 := cell_of_ans hW k3
            replace k4 := cell_of_ans hW k4
            replace s0 := cell_of_ans hW s0
            replace s1 := cell_of_ans hW s1
            go_simp
            first | done | with_reducible rfl | omega
          try simp only [Act.put, List.setIfInBounds_toArray, List.set_cons_zero, List.set_cons_succ]
          refine T_done (by kernel_rfl) ?_ _
          refine NoPanic.normal ?_
          try go_simp
          have hb := hS
          clear hS
          replace HL := Lib.hid (HL.out.step hb)
          replace HX := Lib.hid (HX.out.step hb)
          replace k0 := cell_of_ans hb k0
          replace k1 := cell_of_ans hb k1
          replace k2 := cell_of_ans hb k2
          replace k3 := cell_of_ans hb k3
          replace k4 := cell_of_ans hb k4
          replace s0 := cell_of_ans hb s0
          replace s1 := cell_of_ans hb s1
          replace l0 := cell_of_ans hb l0
          replace l1 := cell_of_ans hb l1
          replace HB := Lib.hid (HB.out.trans (hb.mono HB.out.size))
          clear hb
          go_wp2_with fail
          refine (HPN.out _ HL.out HX.out).mono ?_
          rintro e v4 ⟨rfl, hb⟩
          replace HL := Lib.hid (HL.out.step hb)
          replace HX := Lib.hid (HX.out.step hb)
          replace k0 := cell_of_ans hb k0
          replace k1 := cell_of_ans hb k1
          replace k2 := cell_of_ans hb k2
          replace k3 := cell_of_ans hb k3
          replace k4 := cell_of_ans hb k4
          replace s0 := cell_of_ans hb s0
          replace s1 := cell_of_ans hb s1
          replace l0 := cell_of_ans hb l0
          replace l1 := cell_of_ans hb l1
          replace HB := Lib.hid (HB.out.trans (hb.mono HB.out.size))
          clear hb
          go_upto_region 6 with fail
          go_upto_region 8 with (go_at_call 27; refine (in_c _ _ _ _).mono ?_; rintro e ww ⟨rfl, rfl⟩)
          go_upto_region 9 with fail
          have ltl0 := World.block_lt_of_cell? _ _ l0
          dsimp only at ltl0
          have hb : Below v4.heap.size v4 (v4.alloc (.cells #[.int .i64 0, .int .i64 0] 50)) := (Below.refl _ _).alloc (Nat.le_refl _) _
          replace HL := Lib.hid (HL.out.step hb)
          replace HX := Lib.hid (HX.out.step hb)
          replace k0 := cell_of_ans hb k0
          replace k1 := cell_of_ans hb k1
          replace k2 := cell_of_ans hb k2
          replace k3 := cell_of_ans hb k3
          replace k4 := cell_of_ans hb k4
          replace s0 := cell_of_ans hb s0
          replace s1 := cell_of_ans hb s1
          replace l0 := cell_of_ans hb l0
          replace l1 := cell_of_ans hb l1
          replace HB := Lib.hid (HB.out.trans (hb.mono HB.out.size))
          clear hb
          have HZ : Hid (At2 (v4.alloc (.cells #[.int .i64 0, .int .i64 0] 50)) v4.heap.size 50 0 0) := by show At2 _ _ _ _ _; unfold At2; exact World.alloc_heap_new _ _
          generalize (v4.alloc (.cells #[.int .i64 0, .int .i64 0] 50)) = v5 at *
          generalize v4.heap.size = zq at *
          go_wp2_with fail
          refine (HC1.out _ HL.out HX.out).mono ?_
          rintro e v6 ⟨rfl, hb⟩
          replace HL := Lib.hid (HL.out.step hb)
          replace HX := Lib.hid (HX.out.step hb)
          replace k0 := cell_of_ans hb k0
          replace k1 := cell_of_ans hb k1
          replace k2 := cell_of_ans hb k2
          replace k3 := cell_of_ans hb k3
          replace k4 := cell_of_ans hb k4
          replace s0 := cell_of_ans hb s0
          replace s1 := cell_of_ans hb s1
          replace l0 := cell_of_ans hb l0
          replace l1 := cell_of_ans hb l1
          replace HZ := Lib.hid (HZ.out.step hb)
          replace HB := Lib.hid (HB.out.trans (hb.mono HB.out.size))
          clear hb
          obtain ⟨⟨z0, z1⟩, zf⟩ := HZ.out.cells
          have zf0 := zf 0
          have zf1 := zf 1
          clear zf
          have HF := Lib.hid (HZ.out.set (a) (b))
          have HGR : Hid (v6.grownBy ((v6.setCell ⟨zq, 0, none⟩ (.int .i64 (a))).setCell ⟨zq, 1, none⟩ (.int .i64 (b))) (some zq)) := only_setCell (p := ⟨zq, 1, none⟩) (only_setCell (p := ⟨zq, 0, none⟩) (World.grownBy.refl v6 (some zq)) (.inl rfl) (.int .i64 (a))) (.inl rfl) (.int .i64 (b))
          have hqn : zq ≠ nq := by omega
          have ml0 := HGR.out.cell l0 (by simp; omega)
          have ml1 := HGR.out.cell l1 (by simp; omega)
          have HBS : Hid (Below w.heap.size w ((v6.setCell ⟨zq, 0, none⟩ (.int .i64 (a))).setCell ⟨zq, 1, none⟩ (.int .i64 (b)))) := (HB.out.setCell (by dsimp only; omega) _).setCell (by dsimp only; omega) _
          go_upto_region 12 with fail
          generalize (v6.setCell ⟨zq, 0, none⟩ (.int .i64 (a))).setCell ⟨zq, 1, none⟩ (.int .i64 (b)) = v7 at *
          obtain ⟨⟨y0, y1⟩, -⟩ := HF.out.cells
          go_wp2_with fail
          refine (awake16_c _).mono ?_
          rintro e wy ⟨rfl, hb⟩
          go_wp2_with fail
          go_ret
          exact ⟨rfl, HBS.out.trans (hb.mono HBS.out.size)⟩
        · rw [e1, e2] at HPR
          simp only [Bool.true_and] at HPR
          rw [HPR.out] at HPV
          have HC3 := Lib.hid (HC2.out (e66 e1) (e67 e2))
          clear HPR HC2 e66 e67
          go_enter Try.func4, Try.ntmps4
          go_wp2_with fail
          generalize ((w.alloc (.cells #[.int .i64 r.rows, .int .i64 r.mid, .int .i64 r.gap, .int .i64 r.reach, .slice A r.links.length c] 24)).alloc (.cells #[.int .i64 st, .int .i64 dr] 50)) = x1 at *
          refine (HTH.out _).mono ?_
          rintro e x7 ⟨rfl, hb⟩
          replace HL := Lib.hid (HL.out.step hb)
          replace HX := Lib.hid (HX.out.step hb)
          replace k0 := cell_of_ans hb k0
          replace k1 := cell_of_ans hb k1
          replace k2 := cell_of_ans hb k2
          replace k3 := cell_of_ans hb k3
          replace k4 := cell_of_ans hb k4
          replace s0 := cell_of_ans hb s0
          replace s1 := cell_of_ans hb s1
          replace HB := Lib.hid (HB.out.trans (hb.mono HB.out.size))
          clear hb
          clear HTH
          go_wp2_with fail
          refine (rack18_c r A c _ HL.out hc hlen).mono ?_
          rintro e w4 ⟨A4, c4, rfl, ⟨hl4, hc4⟩, hb⟩
          replace HL := Lib.hid (HL.out.step hb)
          replace HX := Lib.hid (HX.out.step hb)
          replace k0 := cell_of_ans hb k0
          replace k1 := cell_of_ans hb k1
          replace k2 := cell_of_ans hb k2
          replace k3 := cell_of_ans hb k3
          replace k4 := cell_of_ans hb k4
          replace s0 := cell_of_ans hb s0
          replace s1 := cell_of_ans hb s1
          replace HB := Lib.hid (HB.out.trans (hb.mono HB.out.size))
          clear hb
          have Hhl4 := Lib.hid hl4
          clear hl4
          go_wp2_with fail
          refine (list_c xA xs cx _ HX.out hxl).mono ?_
          rintro e w5 ⟨B4, d4, rfl, ho4, hb⟩
          obtain ⟨hd4, he4, hi4⟩ := isInts_parts (ownsRow_isInts ho4)
          clear ho4
          replace HL := Lib.hid (HL.out.step hb)
          replace HX := Lib.hid (HX.out.step hb)
          replace k0 := cell_of_ans hb k0
          replace k1 := cell_of_ans hb k1
          replace k2 := cell_of_ans hb k2
          replace k3 := cell_of_ans hb k3
          replace k4 := cell_of_ans hb k4
          replace s0 := cell_of_ans hb s0
          replace s1 := cell_of_ans hb s1
          replace Hhl4 := Lib.hid (Hhl4.out.step hb)
          replace HB := Lib.hid (HB.out.trans (hb.mono HB.out.size))
          clear hb
          have Hhi4 := Lib.hid hi4
          clear hi4
          go_wp2_with fail
          refine (HC0.out _ _ _ _ _ Hhl4.out hc4 Hhi4.out ⟨hd4, he4⟩).mono ?_
          rintro e w6 ⟨rfl, hb⟩
          replace HL := Lib.hid (HL.out.step hb)
          replace HX := Lib.hid (HX.out.step hb)
          replace k0 := cell_of_ans hb k0
          replace k1 := cell_of_ans hb k1
          replace k2 := cell_of_ans hb k2
          replace k3 := cell_of_ans hb k3
          replace k4 := cell_of_ans hb k4
          replace s0 := cell_of_ans hb s0
          replace s1 := cell_of_ans hb s1
          replace Hhl4 := Lib.hid (Hhl4.out.step hb)
          replace Hhi4 := Lib.hid (Hhi4.out.step hb)
          replace HB := Lib.hid (HB.out.trans (hb.mono HB.out.size))
          clear hb
          clear Hhl4 Hhi4
          have ltk0 := World.block_lt_of_cell? _ _ k0
          dsimp only at ltk0
          have lts0 := World.block_lt_of_cell? _ _ s0
          dsimp only at lts0
          go_upto_region 4 with fail
          have hb : Below w6.heap.size w6 (w6.alloc (.cells #[.int .i64 a, .int .i64 b] 51)) := (Below.refl _ _).alloc (Nat.le_refl _) _
          replace HL := Lib.hid (HL.out.step hb)
          replace HX := Lib.hid (HX.out.step hb)
          replace k0 := cell_of_ans hb k0
          replace k1 := cell_of_ans hb k1
          replace k2 := cell_of_ans hb k2
          replace k3 := cell_of_ans hb k3
          replace k4 := cell_of_ans hb k4
          replace s0 := cell_of_ans hb s0
          replace s1 := cell_of_ans hb s1
          replace HB := Lib.hid (HB.out.trans (hb.mono HB.out.size))
          clear hb
          have l0 : (w6.alloc (.cells #[.int .i64 a, .int .i64 b] 51)).cell? ⟨w6.heap.size, 0, none⟩ = some (.int .i64 a) := by simp
          have l1 : (w6.alloc (.cells #[.int .i64 a, .int .i64 b] 51)).cell? ⟨w6.heap.size, 1, none⟩ = some (.int .i64 b) := by simp
          generalize (w6.alloc (.cells #[.int .i64 a, .int .i64 b] 51)) = w7 at *
          generalize w6.heap.size = nq at *
          refine wp_region_noPanic ?_
          have hS : (fun W' : World => Below w7.heap.size w7 W') w7.drew := (Below.refl _ _).drew
          refine wp_region_any (by kernel_rfl) (wpAny_of_T (S := fun W' : World => Below w7.heap.size w7 W') (m := 11) _ _ _ _ ?_)
          refine' T_take (i := 0) (v := _) rfl (by kernel_rfl) (by kernel_rfl) (by kernel_rfl) (by kernel_rfl) (fun _ _ _ h => h) (by kernel_rfl) hS ?_ ?_
          rotate_left 1
          · intro Wv hW
            replace k0 := cell_of_ans hW k0
            replace k1 := cell_of_ans hW k1
            replace k2 := cell_of_ans hW k2
            replace k3 := cell_of_ans hW k3
            replace k4 := cell_of_ans hW k4
            replace s0 := cell_of_ans hW s0
            replace s1 := cell_of_ans hW s1
            go_simp
            first | done | with_reducible rfl | omega
          try simp only [Act.put, List.setIfInBounds_toArray, List.set_cons_zero, List.set_cons_succ]
          refine' T_take (i := 2) (v := _) rfl (by kernel_rfl) (by kernel_rfl) (by kernel_rfl) (by kernel_rfl) (fun _ _ _ h => h) (by kernel_rfl) hS ?_ ?_
          rotate_left 1
          · intro Wv hW
            replace k0 := cell_of_ans hW k0
            replace k1 := cell_of_ans hW k1
            replace k2 := cell_of_ans hW k2
            replace k3 := cell_of_ans hW k3
            replace k4 := cell_of_ans hW k4
            replace s0 := cell_of_ans hW s0
            replace s1 := cell_of_ans hW s1
            go_simp
            first | done | with_reducible rfl | omega
          try simp only [Act.put, List.setIfInBounds_toArray, List.set_cons_zero, List.set_cons_succ]
          refine' T_take (i := 4) (v := _) rfl (by kernel_rfl) (by kernel_rfl) (by kernel_rfl) (by kernel_rfl) (fun _ _ _ h => h) (by kernel_rfl) hS ?_ ?_
          rotate_left 1
          · intro Wv hW
            replace k0 := cell_of_ans hW k0
            replace k1 := cell_of_ans hW k1
            replace k2 := cell_of_ans hW k2
            replace k3 := cell_of_ans hW k3
            replace k4 := cell_of_ans hW k4
            replace s0 := cell_of_ans hW s0
            replace s1 := cell_of_ans hW s1
            go_simp
            first | done | with_reducible rfl | omega
          try simp only [Act.put, List.setIfInBounds_toArray, List.set_cons_zero, List.set_cons_succ]
          refine' T_take (i := 5) (v := _) rfl (by kernel_rfl) (by kernel_rfl) (by kernel_rfl) (by kernel_rfl) (fun _ _ _ h => h) (by kernel_rfl) hS ?_ ?_
          rotate_left 1
          · intro Wv hW
            replace k0 := cell_of_ans hW k0
            replace k1 := cell_of_ans hW k1
            replace k2 := cell_of_ans hW k2
            replace k3 := cell_of_ans hW k3
            replace k4 := cell_of_ans hW k4
            replace s0 := cell_of_ans hW s0
            replace s1 := cell_of_ans hW s1
            go_simp
            first | done | with_reducible rfl | omega
          try simp only [Act.put, List.setIfInBounds_toArray, List.set_cons_zero, List.set_cons_succ]
          refine' T_take (i := 6) (v := _) rfl (by kernel_rfl) (by kernel_rfl) (by kernel_rfl) (by kernel_rfl) (fun _ _ _ h => h) (by kernel_rfl) hS ?_ ?_
          rotate_left 1
          · intro Wv hW
            replace k0 := cell_of_ans hW k0
            replace k1 := cell_of_ans hW k1
            replace k2 := cell_of_ans hW k2
            replace k3 := cell_of_ans hW k3
            replace k4 := cell_of_ans hW k4
            replace s0 := cell_of_ans hW s0
            replace s1 := cell_of_ans hW s1
            go_simp
            first | done | with_reducible rfl | omega
          try simp only [Act.put, List.setIfInBounds_toArray, List.set_cons_zero, List.set_cons_succ]
          refine' T_take (i := 7) (v := _) rfl (by kernel_rfl) (by kernel_rfl) (by kernel_rfl) (by kernel_rfl) (fun _ _ _ h => h) (by kernel_rfl) hS ?_ ?_
          rotate_left 1
          · intro Wv hW
            replace k0 := cell_of_ans hW k0
            replace k1 := cell_of_ans hW k1
            replace k2 := cell_of_ans hW k2
            replace k3 := cell_of_ans hW k3
            replace k4 := cell_of_ans hW k4
            replace s0 := cell_of_ans hW s0
            replace s1 := cell_of_ans hW s1
            go_simp
            first | done | with_reducible rfl | omega
          try simp only [Act.put, List.setIfInBounds_toArray, List.set_cons_zero, List.set_cons_succ]
          refine' T_take (i := 8) (v := _) rfl (by kernel_rfl) (by kernel_rfl) (by kernel_rfl) (by kernel_rfl) (fun _ _ _ h => h) (by kernel_rfl) hS ?_ ?_
          rotate_left 1
          · intro Wv hW
            replace k0 := cell_of_ans hW k0
            replace k1 := cell_of_ans hW k1
            replace k2 := cell_of_ans hW k2
            replace k3 := cell_of_ans hW k3
            replace k4 := cell_of_ans hW k4
            replace s0 := cell_of_ans hW s0
            replace s1 := cell_of_ans hW s1
            go_simp
            first | done | with_reducible rfl | omega
          try simp only [Act.put, List.setIfInBounds_toArray, List.set_cons_zero, List.set_cons_succ]
          refine T_ready (rs := [1]) (by kernel_rfl) (by simp) ?_
          refine TReady.cons rfl (fun K hK => ?_) TReady.nil
          try go_simp
          refine (rack18_c r A c _ (HL.out.step hS) hc hlen).mono ?_
          rintro e v1 ⟨A6, c6, rfl, ⟨hl6, hc6⟩, hb⟩
          have hS2 : Below w7.heap.size w7 v1 := below_cat hb hS
          have Hhl6 := Lib.hid hl6
          clear hl6
          try go_simp
          refine hK.out _ _ (fun _ => hS2) (fun _ => ?_)
          clear hK K hS hb
          replace hS := hS2
          clear hS2
          try simp only [Act.put, List.setIfInBounds_toArray, List.set_cons_zero, List.set_cons_succ]
          refine T_ready (rs := [3]) (by kernel_rfl) (by simp) ?_
          refine TReady.cons rfl (fun K hK => ?_) TReady.nil
          try go_simp
          refine (list_c xA xs cx _ (HX.out.step hS) hxl).mono ?_
          rintro e v2 ⟨B6, d6, rfl, ho6, hb⟩
          have hS2 : Below w7.heap.size w7 v2 := below_cat hb hS
          obtain ⟨hd6, he6, hi6⟩ := isInts_parts (ownsRow_isInts ho6)
          have Hhi6 := Lib.hid hi6
          clear hi6 ho6
          replace Hhl6 := Lib.hid (Hhl6.out.step hb)
          try go_simp
          refine hK.out _ _ (fun _ => hS2) (fun _ => ?_)
          clear hK K hS hb
          replace hS := hS2
          clear hS2
          try simp only [Act.put, List.setIfInBounds_toArray, List.set_cons_zero, List.set_cons_succ]
          refine T_ready (rs := [9]) (by kernel_rfl) (by simp) ?_
          refine TReady.cons rfl (fun K hK => ?_) TReady.nil
          try go_simp
          refine (HPV.out _ _ _ _ _ Hhl6.out hc6 Hhi6.out ⟨hd6, he6⟩).mono ?_
          rintro e v3 ⟨rfl, hb⟩
          have hS2 : Below w7.heap.size w7 v3 := below_cat hb hS
          clear Hhl6 Hhi6
          try go_simp
          refine hK.out _ _ (fun _ => hS2) (fun _ => ?_)
          clear hK K hS hb
          replace hS := hS2
          clear hS2
          try simp only [Act.put, List.setIfInBounds_toArray, List.set_cons_zero, List.set_cons_succ]
          refine' T_take (i := 10) (v := _) rfl (by kernel_rfl) (by kernel_rfl) (by kernel_rfl) (by kernel_rfl) (fun _ _ _ h => h) (by kernel_rfl) hS ?_ ?_
          rotate_left 1
          · intro Wv hW
            replace k0 := cell_of_ans hW k0
            replace k1 := cell_of_ans hW k1
            replace k2 := cell_of_ans hW k2
            replace k3 := cell_of_ans hW k3
            replace k4 := cell_of_ans hW k4
            replace s0 := cell_of_ans hW s0
            replace s1 := cell_of_ans hW s1
            go_simp
            first | done | with_reducible rfl | omega
          try simp only [Act.put, List.setIfInBounds_toArray, List.set_cons_zero, List.set_cons_succ]
          refine T_done (by kernel_rfl) ?_ _
          refine NoPanic.normal ?_
          try go_simp
          have hb := hS
          clear hS
          replace HL := Lib.hid (HL.out.step hb)
          replace HX := Lib.hid (HX.out.step hb)
          replace k0 := cell_of_ans hb k0
          replace k1 := cell_of_ans hb k1
          replace k2 := cell_of_ans hb k2
          replace k3 := cell_of_ans hb k3
          replace k4 := cell_of_ans hb k4
          replace s0 := cell_of_ans hb s0
          replace s1 := cell_of_ans hb s1
          replace l0 := cell_of_ans hb l0
          replace l1 := cell_of_ans hb l1
          replace HB := Lib.hid (HB.out.trans (hb.mono HB.out.size))
          clear hb
          go_wp2_with fail
          refine (HPN.out _ HL.out HX.out).mono ?_
          rintro e v4 ⟨rfl, hb⟩
          replace HL := Lib.hid (HL.out.step hb)
          replace HX := Lib.hid (HX.out.step hb)
          replace k0 := cell_of_ans hb k0
          replace k1 := cell_of_ans hb k1
          replace k2 := cell_of_ans hb k2
          replace k3 := cell_of_ans hb k3
          replace k4 := cell_of_ans hb k4
          replace s0 := cell_of_ans hb s0
          replace s1 := cell_of_ans hb s1
          replace l0 := cell_of_ans hb l0
          replace l1 := cell_of_ans hb l1
          replace HB := Lib.hid (HB.out.trans (hb.mono HB.out.size))
          clear hb
          go_upto_region 6 with fail
          go_wp2_with (go_at_call 27; refine (in_c _ _ _ _).mono ?_; rintro e ww ⟨rfl, rfl⟩)
          refine (HC3.out _ HL.out HX.out).mono ?_
          rintro e v9 ⟨rfl, hb⟩
          replace HL := Lib.hid (HL.out.step hb)
          replace HX := Lib.hid (HX.out.step hb)
          replace k0 := cell_of_ans hb k0
          replace k1 := cell_of_ans hb k1
          replace k2 := cell_of_ans hb k2
          replace k3 := cell_of_ans hb k3
          replace k4 := cell_of_ans hb k4
          replace s0 := cell_of_ans hb s0
          replace s1 := cell_of_ans hb s1
          replace l0 := cell_of_ans hb l0
          replace l1 := cell_of_ans hb l1
          replace HB := Lib.hid (HB.out.trans (hb.mono HB.out.size))
          clear hb
          go_upto_region 8 with fail
          clear hcb
          go_upto_region 9 with fail
          have ltl0 := World.block_lt_of_cell? _ _ l0
          dsimp only at ltl0
          have hb : Below v9.heap.size v9 (v9.alloc (.cells #[.int .i64 0, .int .i64 0] 50)) := (Below.refl _ _).alloc (Nat.le_refl _) _
          replace HL := Lib.hid (HL.out.step hb)
          replace HX := Lib.hid (HX.out.step hb)
          replace k0 := cell_of_ans hb k0
          replace k1 := cell_of_ans hb k1
          replace k2 := cell_of_ans hb k2
          replace k3 := cell_of_ans hb k3
          replace k4 := cell_of_ans hb k4
          replace s0 := cell_of_ans hb s0
          replace s1 := cell_of_ans hb s1
          replace l0 := cell_of_ans hb l0
          replace l1 := cell_of_ans hb l1
          replace HB := Lib.hid (HB.out.trans (hb.mono HB.out.size))
          clear hb
          have HZ : Hid (At2 (v9.alloc (.cells #[.int .i64 0, .int .i64 0] 50)) v9.heap.size 50 0 0) := by show At2 _ _ _ _ _; unfold At2; exact World.alloc_heap_new _ _
          generalize (v9.alloc (.cells #[.int .i64 0, .int .i64 0] 50)) = v5 at *
          generalize v9.heap.size = zq at *
          go_wp2_with fail
          refine (HC1.out _ HL.out HX.out).mono ?_
          rintro e v6 ⟨rfl, hb⟩
          replace HL := Lib.hid (HL.out.step hb)
          replace HX := Lib.hid (HX.out.step hb)
          replace k0 := cell_of_ans hb k0
          replace k1 := cell_of_ans hb k1
          replace k2 := cell_of_ans hb k2
          replace k3 := cell_of_ans hb k3
          replace k4 := cell_of_ans hb k4
          replace s0 := cell_of_ans hb s0
          replace s1 := cell_of_ans hb s1
          replace l0 := cell_of_ans hb l0
          replace l1 := cell_of_ans hb l1
          replace HZ := Lib.hid (HZ.out.step hb)
          replace HB := Lib.hid (HB.out.trans (hb.mono HB.out.size))
          clear hb
          obtain ⟨⟨z0, z1⟩, zf⟩ := HZ.out.cells
          have zf0 := zf 0
          have zf1 := zf 1
          clear zf
          have HF := Lib.hid (HZ.out.set (a) (b))
          have HGR : Hid (v6.grownBy ((v6.setCell ⟨zq, 0, none⟩ (.int .i64 (a))).setCell ⟨zq, 1, none⟩ (.int .i64 (b))) (some zq)) := only_setCell (p := ⟨zq, 1, none⟩) (only_setCell (p := ⟨zq, 0, none⟩) (World.grownBy.refl v6 (some zq)) (.inl rfl) (.int .i64 (a))) (.inl rfl) (.int .i64 (b))
          have hqn : zq ≠ nq := by omega
          have ml0 := HGR.out.cell l0 (by simp; omega)
          have ml1 := HGR.out.cell l1 (by simp; omega)
          have HBS : Hid (Below w.heap.size w ((v6.setCell ⟨zq, 0, none⟩ (.int .i64 (a))).setCell ⟨zq, 1, none⟩ (.int .i64 (b)))) := (HB.out.setCell (by dsimp only; omega) _).setCell (by dsimp only; omega) _
          go_upto_region 12 with fail
          generalize (v6.setCell ⟨zq, 0, none⟩ (.int .i64 (a))).setCell ⟨zq, 1, none⟩ (.int .i64 (b)) = v7 at *
          obtain ⟨⟨y0, y1⟩, -⟩ := HF.out.cells
          go_wp2_with fail
          refine (awake16_c _).mono ?_
          rintro e wy ⟨rfl, hb⟩
          go_wp2_with fail
          go_ret
          exact ⟨rfl, HBS.out.trans (hb.mono HBS.out.size)⟩
  · have HER : Hid (cvErr r xs may = pinErr r xs) := by show _ = _; rw [cvErr, if_neg he]
    have HLN : Hid (cvLn r xs may = (0, 0)) := by show _ = _; rw [cvLn, if_neg he]
    have HPR := Lib.hid (prov_no (st := st) (dr := dr) he)
    rw [HER.out, HLN.out] at HC0
    rw [HPR.out] at HPV
    have q1 : (pinErr r xs == 0) = false := by simp [he]
    have q2 : (pinErr r xs != 0) = true := by simp [he]
    have q3 : (pinErr r xs == pinErr r xs) = true := by simp
    have e510 := eq51 0 0 0 0
    dsimp only at HC0
    clear he HER HLN HPR
    generalize pinErr r xs = te at *
    have hz : (0 : Int) = 0 := rfl
    clear hz
    go_enter Try.func4, Try.ntmps4
    go_wp2_with fail
    generalize ((w.alloc (.cells #[.int .i64 r.rows, .int .i64 r.mid, .int .i64 r.gap, .int .i64 r.reach, .slice A r.links.length c] 24)).alloc (.cells #[.int .i64 st, .int .i64 dr] 50)) = x1 at *
    refine (HTH.out _).mono ?_
    rintro e x8 ⟨rfl, hb⟩
    replace HL := Lib.hid (HL.out.step hb)
    replace HX := Lib.hid (HX.out.step hb)
    replace k0 := cell_of_ans hb k0
    replace k1 := cell_of_ans hb k1
    replace k2 := cell_of_ans hb k2
    replace k3 := cell_of_ans hb k3
    replace k4 := cell_of_ans hb k4
    replace s0 := cell_of_ans hb s0
    replace s1 := cell_of_ans hb s1
    replace HB := Lib.hid (HB.out.trans (hb.mono HB.out.size))
    clear hb
    clear HTH
    go_wp2_with fail
    refine (rack18_c r A c _ HL.out hc hlen).mono ?_
    rintro e w4 ⟨A4, c4, rfl, ⟨hl4, hc4⟩, hb⟩
    replace HL := Lib.hid (HL.out.step hb)
    replace HX := Lib.hid (HX.out.step hb)
    replace k0 := cell_of_ans hb k0
    replace k1 := cell_of_ans hb k1
    replace k2 := cell_of_ans hb k2
    replace k3 := cell_of_ans hb k3
    replace k4 := cell_of_ans hb k4
    replace s0 := cell_of_ans hb s0
    replace s1 := cell_of_ans hb s1
    replace HB := Lib.hid (HB.out.trans (hb.mono HB.out.size))
    clear hb
    have Hhl4 := Lib.hid hl4
    clear hl4
    go_wp2_with fail
    refine (list_c xA xs cx _ HX.out hxl).mono ?_
    rintro e w5 ⟨B4, d4, rfl, ho4, hb⟩
    obtain ⟨hd4, he4, hi4⟩ := isInts_parts (ownsRow_isInts ho4)
    clear ho4
    replace HL := Lib.hid (HL.out.step hb)
    replace HX := Lib.hid (HX.out.step hb)
    replace k0 := cell_of_ans hb k0
    replace k1 := cell_of_ans hb k1
    replace k2 := cell_of_ans hb k2
    replace k3 := cell_of_ans hb k3
    replace k4 := cell_of_ans hb k4
    replace s0 := cell_of_ans hb s0
    replace s1 := cell_of_ans hb s1
    replace Hhl4 := Lib.hid (Hhl4.out.step hb)
    replace HB := Lib.hid (HB.out.trans (hb.mono HB.out.size))
    clear hb
    have Hhi4 := Lib.hid hi4
    clear hi4
    go_wp2_with fail
    refine (HC0.out _ _ _ _ _ Hhl4.out hc4 Hhi4.out ⟨hd4, he4⟩).mono ?_
    rintro e w6 ⟨rfl, hb⟩
    replace HL := Lib.hid (HL.out.step hb)
    replace HX := Lib.hid (HX.out.step hb)
    replace k0 := cell_of_ans hb k0
    replace k1 := cell_of_ans hb k1
    replace k2 := cell_of_ans hb k2
    replace k3 := cell_of_ans hb k3
    replace k4 := cell_of_ans hb k4
    replace s0 := cell_of_ans hb s0
    replace s1 := cell_of_ans hb s1
    replace Hhl4 := Lib.hid (Hhl4.out.step hb)
    replace Hhi4 := Lib.hid (Hhi4.out.step hb)
    replace HB := Lib.hid (HB.out.trans (hb.mono HB.out.size))
    clear hb
    clear Hhl4 Hhi4
    have ltk0 := World.block_lt_of_cell? _ _ k0
    dsimp only at ltk0
    have lts0 := World.block_lt_of_cell? _ _ s0
    dsimp only at lts0
    go_upto_region 4 with fail
    have hb : Below w6.heap.size w6 (w6.alloc (.cells #[.int .i64 0, .int .i64 0] 51)) := (Below.refl _ _).alloc (Nat.le_refl _) _
    replace HL := Lib.hid (HL.out.step hb)
    replace HX := Lib.hid (HX.out.step hb)
    replace k0 := cell_of_ans hb k0
    replace k1 := cell_of_ans hb k1
    replace k2 := cell_of_ans hb k2
    replace k3 := cell_of_ans hb k3
    replace k4 := cell_of_ans hb k4
    replace s0 := cell_of_ans hb s0
    replace s1 := cell_of_ans hb s1
    replace HB := Lib.hid (HB.out.trans (hb.mono HB.out.size))
    clear hb
    have l0 : (w6.alloc (.cells #[.int .i64 0, .int .i64 0] 51)).cell? ⟨w6.heap.size, 0, none⟩ = some (.int .i64 0) := by simp
    have l1 : (w6.alloc (.cells #[.int .i64 0, .int .i64 0] 51)).cell? ⟨w6.heap.size, 1, none⟩ = some (.int .i64 0) := by simp
    generalize (w6.alloc (.cells #[.int .i64 0, .int .i64 0] 51)) = w7 at *
    generalize w6.heap.size = nq at *
    refine wp_region_noPanic ?_
    have hS : (fun W' : World => Below w7.heap.size w7 W') w7.drew := (Below.refl _ _).drew
    refine wp_region_any (by kernel_rfl) (wpAny_of_T (S := fun W' : World => Below w7.heap.size w7 W') (m := 11) _ _ _ _ ?_)
    refine' T_take (i := 0) (v := _) rfl (by kernel_rfl) (by kernel_rfl) (by kernel_rfl) (by kernel_rfl) (fun _ _ _ h => h) (by kernel_rfl) hS ?_ ?_
    rotate_left 1
    · intro Wv hW
      replace k0 := cell_of_ans hW k0
      replace k1 := cell_of_ans hW k1
      replace k2 := cell_of_ans hW k2
      replace k3 := cell_of_ans hW k3
      replace k4 := cell_of_ans hW k4
      replace s0 := cell_of_ans hW s0
      replace s1 := cell_of_ans hW s1
      go_simp
      first | done | with_reducible rfl | omega
    try simp only [Act.put, List.setIfInBounds_toArray, List.set_cons_zero, List.set_cons_succ]
    refine' T_take (i := 2) (v := _) rfl (by kernel_rfl) (by kernel_rfl) (by kernel_rfl) (by kernel_rfl) (fun _ _ _ h => h) (by kernel_rfl) hS ?_ ?_
    rotate_left 1
    · intro Wv hW
      replace k0 := cell_of_ans hW k0
      replace k1 := cell_of_ans hW k1
      replace k2 := cell_of_ans hW k2
      replace k3 := cell_of_ans hW k3
      replace k4 := cell_of_ans hW k4
      replace s0 := cell_of_ans hW s0
      replace s1 := cell_of_ans hW s1
      go_simp
      first | done | with_reducible rfl | omega
    try simp only [Act.put, List.setIfInBounds_toArray, List.set_cons_zero, List.set_cons_succ]
    refine' T_take (i := 4) (v := _) rfl (by kernel_rfl) (by kernel_rfl) (by kernel_rfl) (by kernel_rfl) (fun _ _ _ h => h) (by kernel_rfl) hS ?_ ?_
    rotate_left 1
    · intro Wv hW
      replace k0 := cell_of_ans hW k0
      replace k1 := cell_of_ans hW k1
      replace k2 := cell_of_ans hW k2
      replace k3 := cell_of_ans hW k3
      replace k4 := cell_of_ans hW k4
      replace s0 := cell_of_ans hW s0
      replace s1 := cell_of_ans hW s1
      go_simp
      first | done | with_reducible rfl | omega
    try simp only [Act.put, List.setIfInBounds_toArray, List.set_cons_zero, List.set_cons_succ]
    refine' T_take (i := 5) (v := _) rfl (by kernel_rfl) (by kernel_rfl) (by kernel_rfl) (by kernel_rfl) (fun _ _ _ h => h) (by kernel_rfl) hS ?_ ?_
    rotate_left 1
    · intro Wv hW
      replace k0 := cell_of_ans hW k0
      replace k1 := cell_of_ans hW k1
      replace k2 := cell_of_ans hW k2
      replace k3 := cell_of_ans hW k3
      replace k4 := cell_of_ans hW k4
      replace s0 := cell_of_ans hW s0
      replace s1 := cell_of_ans hW s1
      go_simp
      first | done | with_reducible rfl | omega
    try simp only [Act.put, List.setIfInBounds_toArray, List.set_cons_zero, List.set_cons_succ]
    refine' T_take (i := 6) (v := _) rfl (by kernel_rfl) (by kernel_rfl) (by kernel_rfl) (by kernel_rfl) (fun _ _ _ h => h) (by kernel_rfl) hS ?_ ?_
    rotate_left 1
    · intro Wv hW
      replace k0 := cell_of_ans hW k0
      replace k1 := cell_of_ans hW k1
      replace k2 := cell_of_ans hW k2
      replace k3 := cell_of_ans hW k3
      replace k4 := cell_of_ans hW k4
      replace s0 := cell_of_ans hW s0
      replace s1 := cell_of_ans hW s1
      go_simp
      first | done | with_reducible rfl | omega
    try simp only [Act.put, List.setIfInBounds_toArray, List.set_cons_zero, List.set_cons_succ]
    refine' T_take (i := 7) (v := _) rfl (by kernel_rfl) (by kernel_rfl) (by kernel_rfl) (by kernel_rfl) (fun _ _ _ h => h) (by kernel_rfl) hS ?_ ?_
    rotate_left 1
    · intro Wv hW
      replace k0 := cell_of_ans hW k0
      replace k1 := cell_of_ans hW k1
      replace k2 := cell_of_ans hW k2
      replace k3 := cell_of_ans hW k3
      replace k4 := cell_of_ans hW k4
      replace s0 := cell_of_ans hW s0
      replace s1 := cell_of_ans hW s1
      go_simp
      first | done | with_reducible rfl | omega
    try simp only [Act.put, List.setIfInBounds_toArray, List.set_cons_zero, List.set_cons_succ]
    refine' T_take (i := 8) (v := _) rfl (by kernel_rfl) (by kernel_rfl) (by kernel_rfl) (by kernel_rfl) (fun _ _ _ h => h) (by kernel_rfl) hS ?_ ?_
    rotate_left 1
    · intro Wv hW
      replace k0 := cell_of_ans hW k0
      replace k1 := cell_of_ans hW k1
      replace k2 := cell_of_ans hW k2
      replace k3 := cell_of_ans hW k3
      replace k4 := cell_of_ans hW k4
      replace s0 := cell_of_ans hW s0
      replace s1 := cell_of_ans hW s1
      go_simp
      first | done | with_reducible rfl | omega
    try simp only [Act.put, List.setIfInBounds_toArray, List.set_cons_zero, List.set_cons_succ]
    refine T_ready (rs := [1]) (by kernel_rfl) (by simp) ?_
    refine TReady.cons rfl (fun K hK => ?_) TReady.nil
    try go_simp
    refine (rack18_c r A c _ (HL.out.step hS) hc hlen).mono ?_
    rintro e v1 ⟨A6, c6, rfl, ⟨hl6, hc6⟩, hb⟩
    have hS2 : Below w7.heap.size w7 v1 := below_cat hb hS
    have Hhl6 := Lib.hid hl6
    clear hl6
    try go_simp
    refine hK.out _ _ (fun _ => hS2) (fun _ => ?_)
    clear hK K hS hb
    replace hS := hS2
    clear hS2
    try simp only [Act.put, List.setIfInBounds_toArray, List.set_cons_zero, List.set_cons_succ]
    refine T_ready (rs := [3]) (by kernel_rfl) (by simp) ?_
    refine TReady.cons rfl (fun K hK => ?_) TReady.nil
    try go_simp
    refine (list_c xA xs cx _ (HX.out.step hS) hxl).mono ?_
    rintro e v2 ⟨B6, d6, rfl, ho6, hb⟩
    have hS2 : Below w7.heap.size w7 v2 := below_cat hb hS
    obtain ⟨hd6, he6, hi6⟩ := isInts_parts (ownsRow_isInts ho6)
    have Hhi6 := Lib.hid hi6
    clear hi6 ho6
    replace Hhl6 := Lib.hid (Hhl6.out.step hb)
    try go_simp
    refine hK.out _ _ (fun _ => hS2) (fun _ => ?_)
    clear hK K hS hb
    replace hS := hS2
    clear hS2
    try simp only [Act.put, List.setIfInBounds_toArray, List.set_cons_zero, List.set_cons_succ]
    refine T_ready (rs := [9]) (by kernel_rfl) (by simp) ?_
    refine TReady.cons rfl (fun K hK => ?_) TReady.nil
    try go_simp
    refine (HPV.out _ _ _ _ _ Hhl6.out hc6 Hhi6.out ⟨hd6, he6⟩).mono ?_
    rintro e v3 ⟨rfl, hb⟩
    have hS2 : Below w7.heap.size w7 v3 := below_cat hb hS
    clear Hhl6 Hhi6
    try go_simp
    refine hK.out _ _ (fun _ => hS2) (fun _ => ?_)
    clear hK K hS hb
    replace hS := hS2
    clear hS2
    try simp only [Act.put, List.setIfInBounds_toArray, List.set_cons_zero, List.set_cons_succ]
    refine' T_take (i := 10) (v := _) rfl (by kernel_rfl) (by kernel_rfl) (by kernel_rfl) (by kernel_rfl) (fun _ _ _ h => h) (by kernel_rfl) hS ?_ ?_
    rotate_left 1
    · intro Wv hW
      replace k0 := cell_of_ans hW k0
      replace k1 := cell_of_ans hW k1
      replace k2 := cell_of_ans hW k2
      replace k3 := cell_of_ans hW k3
      replace k4 := cell_of_ans hW k4
      replace s0 := cell_of_ans hW s0
      replace s1 := cell_of_ans hW s1
      go_simp
      first | done | with_reducible rfl | omega
    try simp only [Act.put, List.setIfInBounds_toArray, List.set_cons_zero, List.set_cons_succ]
    refine T_done (by kernel_rfl) ?_ _
    refine NoPanic.normal ?_
    try go_simp
    have hb := hS
    clear hS
    replace HL := Lib.hid (HL.out.step hb)
    replace HX := Lib.hid (HX.out.step hb)
    replace k0 := cell_of_ans hb k0
    replace k1 := cell_of_ans hb k1
    replace k2 := cell_of_ans hb k2
    replace k3 := cell_of_ans hb k3
    replace k4 := cell_of_ans hb k4
    replace s0 := cell_of_ans hb s0
    replace s1 := cell_of_ans hb s1
    replace l0 := cell_of_ans hb l0
    replace l1 := cell_of_ans hb l1
    replace HB := Lib.hid (HB.out.trans (hb.mono HB.out.size))
    clear hb
    go_wp2_with fail
    refine (HPN.out _ HL.out HX.out).mono ?_
    rintro e v4 ⟨rfl, hb⟩
    replace HL := Lib.hid (HL.out.step hb)
    replace HX := Lib.hid (HX.out.step hb)
    replace k0 := cell_of_ans hb k0
    replace k1 := cell_of_ans hb k1
    replace k2 := cell_of_ans hb k2
    replace k3 := cell_of_ans hb k3
    replace k4 := cell_of_ans hb k4
    replace s0 := cell_of_ans hb s0
    replace s1 := cell_of_ans hb s1
    replace l0 := cell_of_ans hb l0
    replace l1 := cell_of_ans hb l1
    replace HB := Lib.hid (HB.out.trans (hb.mono HB.out.size))
    clear hb
    go_upto_region 9 with fail
    have ltl0 := World.block_lt_of_cell? _ _ l0
    dsimp only at ltl0
    have hb : Below v4.heap.size v4 (v4.alloc (.cells #[.int .i64 0, .int .i64 0] 50)) := (Below.refl _ _).alloc (Nat.le_refl _) _
    replace HL := Lib.hid (HL.out.step hb)
    replace HX := Lib.hid (HX.out.step hb)
    replace k0 := cell_of_ans hb k0
    replace k1 := cell_of_ans hb k1
    replace k2 := cell_of_ans hb k2
    replace k3 := cell_of_ans hb k3
    replace k4 := cell_of_ans hb k4
    replace s0 := cell_of_ans hb s0
    replace s1 := cell_of_ans hb s1
    replace l0 := cell_of_ans hb l0
    replace l1 := cell_of_ans hb l1
    replace HB := Lib.hid (HB.out.trans (hb.mono HB.out.size))
    clear hb
    have HZ : Hid (At2 (v4.alloc (.cells #[.int .i64 0, .int .i64 0] 50)) v4.heap.size 50 0 0) := by show At2 _ _ _ _ _; unfold At2; exact World.alloc_heap_new _ _
    generalize (v4.alloc (.cells #[.int .i64 0, .int .i64 0] 50)) = v5 at *
    generalize v4.heap.size = zq at *
    go_wp2_with fail
    refine (awake16_c _).mono ?_
    rintro e wz ⟨rfl, hb⟩
    replace HL := Lib.hid (HL.out.step hb)
    replace HX := Lib.hid (HX.out.step hb)
    replace k0 := cell_of_ans hb k0
    replace k1 := cell_of_ans hb k1
    replace k2 := cell_of_ans hb k2
    replace k3 := cell_of_ans hb k3
    replace k4 := cell_of_ans hb k4
    replace s0 := cell_of_ans hb s0
    replace s1 := cell_of_ans hb s1
    replace l0 := cell_of_ans hb l0
    replace l1 := cell_of_ans hb l1
    replace HZ := Lib.hid (HZ.out.step hb)
    replace HB := Lib.hid (HB.out.trans (hb.mono HB.out.size))
    clear hb
    go_wp2_with fail
    go_ret
    exact ⟨rfl, HB.out⟩
end Go.Proofs.Ytpekajnjjhibjaa
