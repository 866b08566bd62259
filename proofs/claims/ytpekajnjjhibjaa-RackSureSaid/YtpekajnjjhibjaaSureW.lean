/-
  The walk of RackSure.
-/
import Derived.Test.YtpekajnjjhibjaaSureM
import Derived.Test.YtpekajnjjhibjaaAwk
import Derived.Laws.StructEq
namespace Go.Proofs.Ytpekajnjjhibjaa
open Go.RowKit
set_option linter.unusedSimpArgs false
set_option linter.unusedVariables false

attribute [local go_sem] Oper.semAt_some
theorem eq44 (a b c d : Int) (w : World) : (binOp .eql 44 (.agg #[.int .i64 a, .int .i64 b]) (.agg #[.int .i64 c, .int .i64 d])).run Try.prog w = .ok (.bool (a == c && b == d)) w := by
  have u3 := Try.underlying3
  have hS : Try.prog.underlying 44 = some (.struct (Try.prog.fieldsOf 44)) := by kernel_rfl
  have hp : Try.prog.stoodInHeld 44 = false := by kernel_rfl
  rw [run_eql_struct, show (10000 : Nat) = 9999 + 1 from rfl, run_equalIn_agg w 9999 44 _ _ hS hp]
  simp only [Program.fieldsOf, Try.underlying44]
  go_simp
  by_cases h1 : a = c <;> by_cases h2 : b = d <;> simp [h1, h2]
theorem Dn.congr {w : World} {g m : Nat} {D E : Nat → Bool} (h : Dn w g D m) (e : ∀ i, i < m → D i = E i) : Dn w g E m := by
  have : dnL D m = dnL E m := by
    unfold dnL
    refine List.map_congr_left fun q hq => ?_
    rw [e q (List.mem_range.1 hq)]
  unfold Dn at h ⊢
  rw [← this]
  exact h
theorem Dn.far {w : World} {g g' m i : Nat} {D : Nat → Bool} (h : Dn w g D m) (hne : g ≠ g') (v : Value) : Dn (w.setCell ⟨g', i, none⟩ v) g D m := (Below.heap_setCell w _ v g hne).trans h
/-- A row, written up to j. -/
def upJ (D E : Nat → Bool) (j i : Nat) : Bool := if i < j then D i || E i else D i
theorem upJ_0 (D E : Nat → Bool) : upJ D E 0 = D := funext fun i => by simp [upJ]
theorem upJ_at (D E : Nat → Bool) (j : Nat) : upJ D E j j = D j := by simp [upJ]
theorem upJ_succ (D E : Nat → Bool) (j : Nat) : upd (upJ D E j) j (D j || E j) = upJ D E (j + 1) := funext fun i => by
  unfold upd upJ
  by_cases e : i = j
  · subst e; simp
  · rw [if_neg e]
    by_cases h : i < j
    · rw [if_pos h, if_pos (by omega)]
    · rw [if_neg h, if_neg (by omega)]
theorem faF_no {c : Nat → Bool} {h : Nat → Nat → Bool} {n : Nat} (hc : c n = false) : faF c h (n + 1) = faF c h n := funext fun i => by rw [faF, hc]; rfl
theorem stF_no {c : Nat → Bool} {h : Nat → Nat → Bool} {n : Nat} (hc : c n = false) : stF c h (n + 1) = stF c h n := funext fun i => by rw [stF, hc]; rfl
theorem faF_yes {c : Nat → Bool} {h : Nat → Nat → Bool} {n m : Nat} (hc : c n = true) : ∀ i, i < m → upJ (faF c h n) (fun i => !h n i) m i = faF c h (n + 1) i := fun i hi => by rw [upJ, if_pos hi, faF, hc]; rfl
theorem stF_yes {c : Nat → Bool} {h : Nat → Nat → Bool} {n m : Nat} (hc : c n = true) : ∀ i, i < m → upJ (stF c h n) (h n) m i = stF c h (n + 1) i := fun i hi => by rw [upJ, if_pos hi, stF, hc]; rfl
theorem OwnI.step {base : Nat} {w w' : World} {u : Value} {xs : List Int} (h : OwnI base w u xs) (hb : Below w.heap.size w w') : OwnI base w' u xs := h.kept hb
theorem bit_testI (b k : Nat) : (((b : Int) / 2 ^ k).tmod 2 == 1) = b.testBit k := bit_test b k

set_option maxRecDepth 100000 in
set_option maxHeartbeats 32000000 in
theorem sure7_c (r : Rk) (A xA Ab : Option Addr) (c cx cb : Nat) (xs : List Int) (ball : List Rg) (w : World) (hl : Lks w.heap.size w A r.links) (hc : r.links.length ≤ c ∧ c ≤ 9223372036854775807) (hx : Ints w.heap.size w xA xs) (hcx : xs.length ≤ cx ∧ cx ≤ 9223372036854775807) (hball : Rgs w.heap.size w Ab ball) (hcb : ball.length ≤ cb ∧ cb ≤ 9223372036854775807) :
    Calls Try.prog 7 #[.agg #[.int .i64 r.rows, .int .i64 r.mid, .int .i64 r.gap, .int .i64 r.reach, .slice A r.links.length c], .slice xA xs.length cx, .slice Ab ball.length cb] w (Ans w (.bool true)) := by
  have HB := Lib.hid (Below.refl w.heap.size w)
  have HL := Lib.hid hl
  have HX := Lib.hid hx
  have HBa := Lib.hid hball
  clear hl hx hball
  have hb : Below w.heap.size w (w.alloc (.cells #[.int .i64 r.rows, .int .i64 r.mid, .int .i64 r.gap, .int .i64 r.reach, .slice A r.links.length c] 24)) := (Below.refl _ _).alloc (Nat.le_refl _) _
  replace HL := Lib.hid (HL.out.step hb)
  replace HX := Lib.hid (HX.out.step hb)
  replace HBa := Lib.hid (HBa.out.step hb)
  replace HB := Lib.hid (HB.out.trans (hb.mono HB.out.size))
  clear hb
  have k0 : (w.alloc (.cells #[.int .i64 r.rows, .int .i64 r.mid, .int .i64 r.gap, .int .i64 r.reach, .slice A r.links.length c] 24)).cell? ⟨w.heap.size, 0, none⟩ = some (.int .i64 r.rows) := by simp
  have k1 : (w.alloc (.cells #[.int .i64 r.rows, .int .i64 r.mid, .int .i64 r.gap, .int .i64 r.reach, .slice A r.links.length c] 24)).cell? ⟨w.heap.size, 1, none⟩ = some (.int .i64 r.mid) := by simp
  have k2 : (w.alloc (.cells #[.int .i64 r.rows, .int .i64 r.mid, .int .i64 r.gap, .int .i64 r.reach, .slice A r.links.length c] 24)).cell? ⟨w.heap.size, 2, none⟩ = some (.int .i64 r.gap) := by simp
  have k3 : (w.alloc (.cells #[.int .i64 r.rows, .int .i64 r.mid, .int .i64 r.gap, .int .i64 r.reach, .slice A r.links.length c] 24)).cell? ⟨w.heap.size, 3, none⟩ = some (.int .i64 r.reach) := by simp
  have k4 : (w.alloc (.cells #[.int .i64 r.rows, .int .i64 r.mid, .int .i64 r.gap, .int .i64 r.reach, .slice A r.links.length c] 24)).cell? ⟨w.heap.size, 4, none⟩ = some (.slice A r.links.length c) := by simp
  cases hrd : readyB r xs ball
  · go_enter Try.func7, Try.ntmps7
    go_wp2_with fail
    generalize (w.alloc (.cells #[.int .i64 r.rows, .int .i64 r.mid, .int .i64 r.gap, .int .i64 r.reach, .slice A r.links.length c] 24)) = x1 at *
    refine (ready15_c r A xA Ab c cx cb xs ball _ HL.out hc HX.out hcx HBa.out hcb).mono ?_
    rw [hrd]
    rintro e w2 ⟨rfl, hb⟩
    replace HL := Lib.hid (HL.out.step hb)
    replace HX := Lib.hid (HX.out.step hb)
    replace HBa := Lib.hid (HBa.out.step hb)
    replace k0 := cell_of_ans hb k0
    replace k1 := cell_of_ans hb k1
    replace k2 := cell_of_ans hb k2
    replace k3 := cell_of_ans hb k3
    replace k4 := cell_of_ans hb k4
    replace HB := Lib.hid (HB.out.trans (hb.mono HB.out.size))
    clear hb
    clear hrd
    go_wp2_with fail
    refine (awake16_c _).mono ?_
    rintro e wz ⟨rfl, hb⟩
    replace HL := Lib.hid (HL.out.step hb)
    replace HX := Lib.hid (HX.out.step hb)
    replace HBa := Lib.hid (HBa.out.step hb)
    replace k0 := cell_of_ans hb k0
    replace k1 := cell_of_ans hb k1
    replace k2 := cell_of_ans hb k2
    replace k3 := cell_of_ans hb k3
    replace k4 := cell_of_ans hb k4
    replace HB := Lib.hid (HB.out.trans (hb.mono HB.out.size))
    clear hb
    go_wp2_with fail
    go_ret
    exact ⟨rfl, HB.out⟩
  by_cases h6 : xs.length ≤ 6
  rotate_left 1
  · have h6i : (6 : Int) < (xs.length : Int) := by omega
    go_enter Try.func7, Try.ntmps7
    go_wp2_with fail
    generalize (w.alloc (.cells #[.int .i64 r.rows, .int .i64 r.mid, .int .i64 r.gap, .int .i64 r.reach, .slice A r.links.length c] 24)) = x1 at *
    refine (ready15_c r A xA Ab c cx cb xs ball _ HL.out hc HX.out hcx HBa.out hcb).mono ?_
    rw [hrd]
    rintro e w2 ⟨rfl, hb⟩
    replace HL := Lib.hid (HL.out.step hb)
    replace HX := Lib.hid (HX.out.step hb)
    replace HBa := Lib.hid (HBa.out.step hb)
    replace k0 := cell_of_ans hb k0
    replace k1 := cell_of_ans hb k1
    replace k2 := cell_of_ans hb k2
    replace k3 := cell_of_ans hb k3
    replace k4 := cell_of_ans hb k4
    replace HB := Lib.hid (HB.out.trans (hb.mono HB.out.size))
    clear hb
    clear hrd
    go_wp2_with fail
    refine (awake16_c _).mono ?_
    rintro e wz ⟨rfl, hb⟩
    replace HL := Lib.hid (HL.out.step hb)
    replace HX := Lib.hid (HX.out.step hb)
    replace HBa := Lib.hid (HBa.out.step hb)
    replace k0 := cell_of_ans hb k0
    replace k1 := cell_of_ans hb k1
    replace k2 := cell_of_ans hb k2
    replace k3 := cell_of_ans hb k3
    replace k4 := cell_of_ans hb k4
    replace HB := Lib.hid (HB.out.trans (hb.mono HB.out.size))
    clear hb
    go_wp2_with fail
    go_ret
    exact ⟨rfl, HB.out⟩
  have hrd2 := hrd
  rw [readyB, Bool.and_eq_true, decide_eq_true_eq] at hrd2
  obtain ⟨hth, he⟩ := hrd2
  rw [thinB, Bool.and_eq_true, Bool.and_eq_true, decide_eq_true_eq, decide_eq_true_eq, decide_eq_true_eq] at hth
  obtain ⟨hl16, hx15, hb8⟩ := hth
  have hlen : r.links.length ≤ 1000000 := by omega
  have hxl : xs.length ≤ 1000000 := by omega
  have hbl : ball.length ≤ 1000000 := by omega
  obtain ⟨p1, p2, p3, p4, p5⟩ := sure_law he h6
  have HP1 := Lib.hid p1
  have HP2 := Lib.hid p2
  have HP5 := Lib.hid p5
  have HFal := Lib.hid (fun (A4 xA4 Ab4 : Option Addr) (c4 cx4 cb4 : Nat) (W : World) h1 h2 h3 h4 h5 h6 => falls17_c r A4 xA4 Ab4 c4 cx4 cb4 xs ball W h1 h2 h3 h4 h5 h6)
  have HLef := Lib.hid (fun (A4 xA4 Ab4 : Option Addr) (c4 cx4 cb4 : Nat) (W : World) h1 h2 h3 h4 h5 h6 => left21_c r A4 xA4 Ab4 c4 cx4 cb4 xs ball W h1 h2 h3 h4 h5 h6)
  have HCan := Lib.hid (fun (k : Nat) (A4 xA4 Ab4 lA : Option Addr) (c4 cx4 cb4 cl : Nat) (W : World) h1 h2 h3 h4 h5 h6 h7 h8 => (show Calls Try.prog 32 #[.agg #[.int .i64 r.rows, .int .i64 r.mid, .int .i64 r.gap, .int .i64 r.reach, .slice A4 r.links.length c4], .slice xA4 xs.length cx4, .slice Ab4 ball.length cb4, .slice lA (fewT xs k xs.length).length cl] W (Ans W (.bool (cB r xs ball k))) from canLeave_c r A4 xA4 Ab4 lA c4 cx4 cb4 cl xs (fewT xs k xs.length) ball W h1 h2 h3 h4 h5 h6 h7 h8))
  rw [he] at HFal HLef
  rw [← p3, ← p4] at HLef
  clear p1 p2 p5 he
  have HHI : Hid (∀ k i b, hB xs k i = b → hasB (fewT xs k xs.length) (ix xs i) = b) := fun _ _ _ h => h
  have HLB : Hid (∀ k, lB xs k = (fewT xs k xs.length).length) := fun _ => rfl
  obtain ⟨cc, hcc⟩ : ∃ cc, cc = cB r xs ball := ⟨_, rfl⟩
  obtain ⟨hh, hhh⟩ : ∃ hh, hh = hB xs := ⟨_, rfl⟩
  obtain ⟨ll, hll⟩ : ∃ ll, ll = lB xs := ⟨_, rfl⟩
  rw [← hcc] at HP5 HLef HCan
  rw [← hhh] at HP5 HHI
  rw [← hll] at HLef HLB
  clear hcc hhh hll p3 p4
  have hfl := fewT_len xs
  generalize sureL r xs ball = sl at *
  generalize mayL r xs ball = ml at *
  go_enter Try.func7, Try.ntmps7
  go_wp2_with fail
  generalize (w.alloc (.cells #[.int .i64 r.rows, .int .i64 r.mid, .int .i64 r.gap, .int .i64 r.reach, .slice A r.links.length c] 24)) = x1 at *
  refine (ready15_c r A xA Ab c cx cb xs ball _ HL.out hc HX.out hcx HBa.out hcb).mono ?_
  rw [hrd]
  rintro e w2 ⟨rfl, hb⟩
  replace HL := Lib.hid (HL.out.step hb)
  replace HX := Lib.hid (HX.out.step hb)
  replace HBa := Lib.hid (HBa.out.step hb)
  replace k0 := cell_of_ans hb k0
  replace k1 := cell_of_ans hb k1
  replace k2 := cell_of_ans hb k2
  replace k3 := cell_of_ans hb k3
  replace k4 := cell_of_ans hb k4
  replace HB := Lib.hid (HB.out.trans (hb.mono HB.out.size))
  clear hb
  clear hrd
  go_wp2_with fail
  refine (rack18_c r A c _ HL.out hc hlen).mono ?_
  rintro e w8 ⟨A5, c5, rfl, ⟨hl5, hc5⟩, hb⟩
  replace HL := Lib.hid (HL.out.step hb)
  replace HX := Lib.hid (HX.out.step hb)
  replace HBa := Lib.hid (HBa.out.step hb)
  replace k0 := cell_of_ans hb k0
  replace k1 := cell_of_ans hb k1
  replace k2 := cell_of_ans hb k2
  replace k3 := cell_of_ans hb k3
  replace k4 := cell_of_ans hb k4
  replace HB := Lib.hid (HB.out.trans (hb.mono HB.out.size))
  clear hb
  have Hhl5 := Lib.hid hl5
  clear hl5
  go_wp2_with fail
  refine (list_c xA xs cx _ HX.out hxl).mono ?_
  rintro e w9 ⟨B5, d5, rfl, ho5, hb⟩
  obtain ⟨hd5, he5, hi5⟩ := isInts_parts (ownsRow_isInts ho5)
  clear ho5
  replace HL := Lib.hid (HL.out.step hb)
  replace HX := Lib.hid (HX.out.step hb)
  replace HBa := Lib.hid (HBa.out.step hb)
  replace k0 := cell_of_ans hb k0
  replace k1 := cell_of_ans hb k1
  replace k2 := cell_of_ans hb k2
  replace k3 := cell_of_ans hb k3
  replace k4 := cell_of_ans hb k4
  replace Hhl5 := Lib.hid (Hhl5.out.step hb)
  replace HB := Lib.hid (HB.out.trans (hb.mono HB.out.size))
  clear hb
  have Hhi5 := Lib.hid hi5
  clear hi5
  go_wp2_with fail
  refine (ball20_c Ab cb ball _ HBa.out hcb hbl).mono ?_
  rintro e w10 ⟨G5, g5, rfl, ⟨hg5, hh5, hj5⟩, hb⟩
  replace HL := Lib.hid (HL.out.step hb)
  replace HX := Lib.hid (HX.out.step hb)
  replace HBa := Lib.hid (HBa.out.step hb)
  replace k0 := cell_of_ans hb k0
  replace k1 := cell_of_ans hb k1
  replace k2 := cell_of_ans hb k2
  replace k3 := cell_of_ans hb k3
  replace k4 := cell_of_ans hb k4
  replace Hhl5 := Lib.hid (Hhl5.out.step hb)
  replace Hhi5 := Lib.hid (Hhi5.out.step hb)
  replace HB := Lib.hid (HB.out.trans (hb.mono HB.out.size))
  clear hb
  have Hhg5 := Lib.hid hg5
  clear hg5
  go_wp2_with fail
  refine (HFal.out _ _ _ _ _ _ _ Hhl5.out hc5 Hhi5.out ⟨hd5, he5⟩ Hhg5.out ⟨hh5, hj5⟩).mono ?_
  rintro e w11 ⟨sA2, cs2, mA, cm, rfl, ⟨hsl, hsl2⟩, ⟨hml, hml2⟩, hb⟩
  replace HL := Lib.hid (HL.out.step hb)
  replace HX := Lib.hid (HX.out.step hb)
  replace HBa := Lib.hid (HBa.out.step hb)
  replace k0 := cell_of_ans hb k0
  replace k1 := cell_of_ans hb k1
  replace k2 := cell_of_ans hb k2
  replace k3 := cell_of_ans hb k3
  replace k4 := cell_of_ans hb k4
  replace Hhl5 := Lib.hid (Hhl5.out.step hb)
  replace Hhi5 := Lib.hid (Hhi5.out.step hb)
  replace Hhg5 := Lib.hid (Hhg5.out.step hb)
  replace HB := Lib.hid (HB.out.trans (hb.mono HB.out.size))
  clear hb
  have Hhsl := Lib.hid hsl
  clear hsl
  have Hhml := Lib.hid hml
  clear hml
  clear Hhl5 Hhi5 Hhg5
  go_wp2_with fail
  refine (rack18_c r A c _ HL.out hc hlen).mono ?_
  rintro e w12 ⟨A6, c6, rfl, ⟨hl6, hc6⟩, hb⟩
  replace HL := Lib.hid (HL.out.step hb)
  replace HX := Lib.hid (HX.out.step hb)
  replace HBa := Lib.hid (HBa.out.step hb)
  replace k0 := cell_of_ans hb k0
  replace k1 := cell_of_ans hb k1
  replace k2 := cell_of_ans hb k2
  replace k3 := cell_of_ans hb k3
  replace k4 := cell_of_ans hb k4
  replace Hhsl := Lib.hid (Hhsl.out.step hb)
  replace Hhml := Lib.hid (Hhml.out.step hb)
  replace HB := Lib.hid (HB.out.trans (hb.mono HB.out.size))
  clear hb
  have Hhl6 := Lib.hid hl6
  clear hl6
  go_wp2_with fail
  refine (list_c xA xs cx _ HX.out hxl).mono ?_
  rintro e w13 ⟨B6, d6, rfl, ho6, hb⟩
  obtain ⟨hd6, he6, hi6⟩ := isInts_parts (ownsRow_isInts ho6)
  clear ho6
  replace HL := Lib.hid (HL.out.step hb)
  replace HX := Lib.hid (HX.out.step hb)
  replace HBa := Lib.hid (HBa.out.step hb)
  replace k0 := cell_of_ans hb k0
  replace k1 := cell_of_ans hb k1
  replace k2 := cell_of_ans hb k2
  replace k3 := cell_of_ans hb k3
  replace k4 := cell_of_ans hb k4
  replace Hhsl := Lib.hid (Hhsl.out.step hb)
  replace Hhml := Lib.hid (Hhml.out.step hb)
  replace Hhl6 := Lib.hid (Hhl6.out.step hb)
  replace HB := Lib.hid (HB.out.trans (hb.mono HB.out.size))
  clear hb
  have Hhi6 := Lib.hid hi6
  clear hi6
  go_wp2_with fail
  refine (ball20_c Ab cb ball _ HBa.out hcb hbl).mono ?_
  rintro e w14 ⟨G6, g6, rfl, ⟨hg6, hh6, hj6⟩, hb⟩
  replace HL := Lib.hid (HL.out.step hb)
  replace HX := Lib.hid (HX.out.step hb)
  replace HBa := Lib.hid (HBa.out.step hb)
  replace k0 := cell_of_ans hb k0
  replace k1 := cell_of_ans hb k1
  replace k2 := cell_of_ans hb k2
  replace k3 := cell_of_ans hb k3
  replace k4 := cell_of_ans hb k4
  replace Hhsl := Lib.hid (Hhsl.out.step hb)
  replace Hhml := Lib.hid (Hhml.out.step hb)
  replace Hhl6 := Lib.hid (Hhl6.out.step hb)
  replace Hhi6 := Lib.hid (Hhi6.out.step hb)
  replace HB := Lib.hid (HB.out.trans (hb.mono HB.out.size))
  clear hb
  have Hhg6 := Lib.hid hg6
  clear hg6
  go_wp2_with fail
  refine (HLef.out _ _ _ _ _ _ _ Hhl6.out hc6 Hhi6.out ⟨hd6, he6⟩ Hhg6.out ⟨hh6, hj6⟩).mono ?_
  rintro e w15 ⟨rfl, hb⟩
  replace HL := Lib.hid (HL.out.step hb)
  replace HX := Lib.hid (HX.out.step hb)
  replace HBa := Lib.hid (HBa.out.step hb)
  replace k0 := cell_of_ans hb k0
  replace k1 := cell_of_ans hb k1
  replace k2 := cell_of_ans hb k2
  replace k3 := cell_of_ans hb k3
  replace k4 := cell_of_ans hb k4
  replace Hhsl := Lib.hid (Hhsl.out.step hb)
  replace Hhml := Lib.hid (Hhml.out.step hb)
  replace Hhl6 := Lib.hid (Hhl6.out.step hb)
  replace Hhi6 := Lib.hid (Hhi6.out.step hb)
  replace Hhg6 := Lib.hid (Hhg6.out.step hb)
  replace HB := Lib.hid (HB.out.trans (hb.mono HB.out.size))
  clear hb
  clear Hhl6 Hhi6 Hhg6
  have ltk0 := World.block_lt_of_cell? _ _ k0
  dsimp only at ltk0
  go_upto_region 5 with fail
  clear HFal HLef
  have hb : Below w15.heap.size w15 (w15.alloc (.cells #[.int .i64 (lsF cc ll (2 ^ xs.length)), .int .i64 (msF cc ll (2 ^ xs.length))] 44)) := (Below.refl _ _).alloc (Nat.le_refl _) _
  replace HL := Lib.hid (HL.out.step hb)
  replace HX := Lib.hid (HX.out.step hb)
  replace HBa := Lib.hid (HBa.out.step hb)
  replace k0 := cell_of_ans hb k0
  replace k1 := cell_of_ans hb k1
  replace k2 := cell_of_ans hb k2
  replace k3 := cell_of_ans hb k3
  replace k4 := cell_of_ans hb k4
  replace Hhsl := Lib.hid (Hhsl.out.step hb)
  replace Hhml := Lib.hid (Hhml.out.step hb)
  replace HB := Lib.hid (HB.out.trans (hb.mono HB.out.size))
  clear hb
  have n0 : (w15.alloc (.cells #[.int .i64 (lsF cc ll (2 ^ xs.length)), .int .i64 (msF cc ll (2 ^ xs.length))] 44)).cell? ⟨w15.heap.size, 0, none⟩ = some (.int .i64 (lsF cc ll (2 ^ xs.length))) := by simp
  have n1 : (w15.alloc (.cells #[.int .i64 (lsF cc ll (2 ^ xs.length)), .int .i64 (msF cc ll (2 ^ xs.length))] 44)).cell? ⟨w15.heap.size, 1, none⟩ = some (.int .i64 (msF cc ll (2 ^ xs.length))) := by simp
  generalize (w15.alloc (.cells #[.int .i64 (lsF cc ll (2 ^ xs.length)), .int .i64 (msF cc ll (2 ^ xs.length))] 44)) = w16 at *
  generalize w15.heap.size = nq at *
  have HT1 : Hid True := trivial
  go_wp2_with (first | (go_at_call 22; have _t := HT1; refine (within22_c _ _ sl ml cs2 cm _ Hhsl.out hsl2 Hhml.out hml2).mono ?_; rw [HP1.out]; rintro e w24 ⟨rfl, rfl⟩; clear HT1) | (go_at_call 22; refine (within22_c _ _ ml xs cm cx _ Hhml.out hml2 HX.out hcx).mono ?_; rw [HP2.out]; rintro e w25 ⟨rfl, rfl⟩))
  go_upto_region 8 with fail
  clear HP1 HP2
  have hp2 : 2 ^ xs.length ≤ 64 := Nat.le_trans (Nat.pow_le_pow_right (by omega) h6) (by decide)
  have HE : Hid (((2 : Int) ^ xs.length) = ((2 ^ xs.length : Nat) : Int)) := by show _ = _; simp
  obtain ⟨m, hm⟩ : ∃ m, m = 2 ^ xs.length := ⟨_, rfl⟩
  rw [← hm] at hp2 HP5 HE n0 n1
  clear hm
  have hsh : IntKind.i64.wrap ((2 : Int) ^ xs.length) = (m : Int) := by
    rw [HE.out]
    exact IntWalk.i64_in _ (by omega)
  clear HE
  have hmk : ∀ W, (Instr.makeSlice 71 (.int .i64 (xs.length : Int)) (.int .i64 (xs.length : Int))).run Try.prog W = .ok (.slice (some ⟨W.heap.size, 0, none⟩) xs.length xs.length) (W.alloc (.cells (madeCells #[.bool false] xs.length) 4)) := fun W => run_make_row' 71 4 (.bool false) 1 (by kernel_rfl) infoB4 rfl .i64 .i64 xs.length (by omega) (by omega) W
  have ltn0 := World.block_lt_of_cell? _ _ n0
  dsimp only at ltn0
  refine wp_region_noPanic ?_
  have hS : (fun W' : World => Below w16.heap.size w16 W') w16.drew := (Below.refl _ _).drew
  refine wp_region_any (by kernel_rfl) (wpAny_of_T (S := fun W' : World => Below w16.heap.size w16 W') (m := 8) _ _ _ _ ?_)
  refine' T_take (i := 0) (v := _) rfl (by kernel_rfl) (by kernel_rfl) (by kernel_rfl) (by kernel_rfl) (fun _ _ _ h => h) (by kernel_rfl) hS ?_ ?_
  rotate_left 1
  · intro Wv hW
    go_simp
    first | done | with_reducible rfl | omega
  try simp only [Act.put, List.setIfInBounds_toArray, List.set_cons_zero, List.set_cons_succ]
  refine' T_take (i := 1) (v := _) rfl (by kernel_rfl) (by kernel_rfl) (by kernel_rfl) (by kernel_rfl) (fun _ _ _ h => h) (by kernel_rfl) hS ?_ ?_
  rotate_left 1
  · intro Wv hW
    go_simp
    first | done | with_reducible rfl | omega
  try simp only [Act.put, List.setIfInBounds_toArray, List.set_cons_zero, List.set_cons_succ]
  refine' T_take (i := 3) (v := _) rfl (by kernel_rfl) (by kernel_rfl) (by kernel_rfl) (by kernel_rfl) (fun _ _ _ h => h) (by kernel_rfl) hS ?_ ?_
  rotate_left 1
  · intro Wv hW
    go_simp
    first | done | with_reducible rfl | omega
  try simp only [Act.put, List.setIfInBounds_toArray, List.set_cons_zero, List.set_cons_succ]
  refine' T_take (i := 4) (v := _) rfl (by kernel_rfl) (by kernel_rfl) (by kernel_rfl) (by kernel_rfl) (fun _ _ _ h => h) (by kernel_rfl) hS ?_ ?_
  rotate_left 1
  · intro Wv hW
    go_simp
    first | done | with_reducible rfl | omega
  try simp only [Act.put, List.setIfInBounds_toArray, List.set_cons_zero, List.set_cons_succ]
  refine T_ready (rs := [2, 5]) (by kernel_rfl) (by simp) ?_
  refine TReady.cons rfl (fun K hK => ?_) (TReady.cons rfl (fun K hK => ?_) TReady.nil)
  · try go_simp
    refine hK.out _ _ (fun _ => hS.alloc hS.size _) (fun hS2 => ?_)
    replace hS := hS2 (by decide)
    clear hS2 hK K
    try simp only [Act.put, List.setIfInBounds_toArray, List.set_cons_zero, List.set_cons_succ]
    refine' T_take (i := 6) (v := _) rfl (by kernel_rfl) (by kernel_rfl) (by kernel_rfl) (by kernel_rfl) (fun _ _ _ h => h) (by kernel_rfl) hS ?_ ?_
    rotate_left 1
    · intro Wv hW
      go_simp
      first | done | with_reducible rfl | omega
    try simp only [Act.put, List.setIfInBounds_toArray, List.set_cons_zero, List.set_cons_succ]
    refine T_ready (rs := [5]) (by kernel_rfl) (by simp) ?_
    refine TReady.cons rfl (fun K hK => ?_) TReady.nil
    try go_simp
    refine hK.out _ _ (fun _ => hS.alloc hS.size _) (fun hS2 => ?_)
    replace hS := hS2 (by decide)
    clear hS2 hK K
    try simp only [Act.put, List.setIfInBounds_toArray, List.set_cons_zero, List.set_cons_succ]
    refine' T_take (i := 7) (v := _) rfl (by kernel_rfl) (by kernel_rfl) (by kernel_rfl) (by kernel_rfl) (fun _ _ _ h => h) (by kernel_rfl) hS ?_ ?_
    rotate_left 1
    · intro Wv hW
      go_simp
      first | done | with_reducible rfl | omega
    try simp only [Act.put, List.setIfInBounds_toArray, List.set_cons_zero, List.set_cons_succ]
    refine T_done (by kernel_rfl) ?_ _
    refine NoPanic.normal ?_
    try go_simp
    clear hmk
    have hb : Below w16.heap.size w16 ((w16.alloc (.cells (madeCells #[.bool false] xs.length) 4)).alloc (.cells (madeCells #[.bool false] xs.length) 4)).drew := (((Below.refl _ _).alloc (Nat.le_refl _) _).alloc (by simp) _).drew
    clear hS
    have HD1 : Hid (Dn ((w16.alloc (.cells (madeCells #[.bool false] xs.length) 4)).alloc (.cells (madeCells #[.bool false] xs.length) 4)).drew (w16.heap.size) (fun _ => false) xs.length) := ((dn_new w16 xs.length).step ((Below.refl _ _).alloc (Nat.le_refl _) _)).step (Below.refl _ _).drew
    have HD2 : Hid (Dn ((w16.alloc (.cells (madeCells #[.bool false] xs.length) 4)).alloc (.cells (madeCells #[.bool false] xs.length) 4)).drew (w16.heap.size + 1) (fun _ => false) xs.length) := by have h := (dn_new (w16.alloc (.cells (madeCells #[.bool false] xs.length) 4)) xs.length).step (Below.refl _ _).drew; rwa [show (w16.alloc (.cells (madeCells #[.bool false] xs.length) 4)).heap.size = w16.heap.size + 1 by simp] at h
    obtain ⟨nb, hnb⟩ : ∃ nb, nb = w16.heap.size := ⟨_, rfl⟩
    replace HL := Lib.hid (HL.out.below hb)
    replace HX := Lib.hid (HX.out.below hb)
    replace HBa := Lib.hid (HBa.out.below hb)
    replace k0 := cell_of_ans hb k0
    replace k1 := cell_of_ans hb k1
    replace k2 := cell_of_ans hb k2
    replace k3 := cell_of_ans hb k3
    replace k4 := cell_of_ans hb k4
    replace Hhsl := Lib.hid (Hhsl.out.below hb)
    replace Hhml := Lib.hid (Hhml.out.below hb)
    replace n0 := cell_of_ans hb n0
    replace n1 := cell_of_ans hb n1
    have HB9 := Lib.hid hb
    clear hb
    rw [← hnb] at HL HX HBa Hhsl Hhml HB9
    generalize ((w16.alloc (.cells (madeCells #[.bool false] xs.length) 4)).alloc (.cells (madeCells #[.bool false] xs.length) 4)).drew = x9 at *
    generalize hq : w16.heap.size + 1 = q at *
    generalize hp : w16.heap.size = p at *
    have hpq : p ≠ q := by omega
    have hqp : q ≠ p := by omega
    have hnp : nb ≤ p := by omega
    have hnq2 : nb ≤ q := by omega
    have HDP : Hid (Dn x9 p (faF cc hh 0) xs.length) := HD1
    have HDQ : Hid (Dn x9 q (stF cc hh 0) xs.length) := HD2
    have HX9 := HX
    have HB0 := HB
    clear HB
    have lt0 : w.heap.size < nb := by have h := ltk0; omega
    have ltn : nq < nb := by omega
    clear HD1 HD2 hp hq hnb
    go_wp2_with fail
    go_loopw [12, 13, 16, 17, 18, 19] (fun va vb vn vo vi vj wr => ∃ k : Nat, k ≤ m ∧ vn = .int .i64 k ∧ va = .int .i64 (lsF cc ll k) ∧ vb = .int .i64 (msF cc ll k) ∧ Dn wr p (faF cc hh k) xs.length ∧ Dn wr q (stF cc hh k) xs.length ∧ Below nb x9 wr) (fun _ _ vn _ _ _ _ => m - (intOf vn).toNat)
    case atStart => exact ⟨0, by omega, rfl, rfl, rfl, HDP.out, HDQ.out, Below.refl _ _⟩
    case round =>
      clear HDP HDQ
      obtain ⟨k, hk, rfl, rfl, rfl, hdp, hdq, hbr⟩ := hrel
      have HDP := Lib.hid hdp
      have HDQ := Lib.hid hdq
      have HBR := Lib.hid hbr
      have hnr : nb ≤ wr.heap.size := by have := hdp.lt; omega
      clear hdp hdq hbr
      replace k0 := (HBR.out.cell (p := ⟨w.heap.size, 0, none⟩) lt0).trans k0
      replace k1 := (HBR.out.cell (p := ⟨w.heap.size, 1, none⟩) lt0).trans k1
      replace k2 := (HBR.out.cell (p := ⟨w.heap.size, 2, none⟩) lt0).trans k2
      replace k3 := (HBR.out.cell (p := ⟨w.heap.size, 3, none⟩) lt0).trans k3
      replace k4 := (HBR.out.cell (p := ⟨w.heap.size, 4, none⟩) lt0).trans k4
      replace n0 := (HBR.out.cell (p := ⟨nq, 0, none⟩) ltn).trans n0
      replace n1 := (HBR.out.cell (p := ⟨nq, 1, none⟩) ltn).trans n1
      replace HL := Lib.hid ((HL.out.below HBR.out).more hnr)
      replace HX := Lib.hid ((HX.out.below HBR.out).more hnr)
      replace HBa := Lib.hid ((HBa.out.below HBR.out).more hnr)
      replace Hhsl := Lib.hid ((Hhsl.out.below HBR.out).more hnr)
      replace Hhml := Lib.hid ((Hhml.out.below HBR.out).more hnr)
      by_cases hk1 : k < m
      · have hki : (k : Int) < (m : Int) := by omega
        go_wp2_with fail
        generalize wr = wt at *
        go_loopw [17, 18] (fun vo vi wr => ∃ j : Nat, j ≤ xs.length ∧ vi = .int .i64 j ∧ OwnI wt.heap.size wr vo (fewT xs k j) ∧ Below wt.heap.size wt wr) (fun _ vi _ => xs.length - (intOf vi).toNat)
        case atStart => exact ⟨0, by omega, rfl, OwnI.nil _ _, Below.refl _ _⟩
        case round =>
          obtain ⟨j, hj, rfl, ho, hb⟩ := hrel
          have HO := Lib.hid ho
          have HBr := Lib.hid hb
          obtain ⟨Ao, co, rfl⟩ := ho.form
          clear ho
          by_cases h1 : j < xs.length
          · have hwr : wt.heap.size ≤ wr.heap.size := hb.size
            have hk15 : j < 15 := by omega
            have hbt := bit_test k j
            have hfk := fewT_len xs k j
            have hb16 : (k : Int) / 2 ^ j ≤ 64 := by
              have : (k : Int) / 2 ^ j = ((k / 2 ^ j : Nat) : Int) := by simp
              rw [this]
              have := Nat.div_le_self k (2 ^ j)
              omega
            have HT : Hid (fewT xs k (j + 1) = if k.testBit j then fewT xs k j ++ [ix xs j] else fewT xs k j) := rfl
            have HX2 := Lib.hid (HX.out.below hb)
            obtain ⟨b5, off, rfl, _, hcell⟩ := HX2.out.at_ h1
            clear hb
            generalize fewT xs k j = os at *
            generalize ix xs j = x at *
            cases e1 : k.testBit j
            · rw [e1] at HT hbt
              go_wp2_with fail
              go_roundw
              case rel => exact ⟨j + 1, by omega, by go_num, by rw [HT.out]; exact HO.out, HBr.out⟩
              case measure => simp [intOf]; omega
            · rw [e1] at HT hbt
              go_wp2_with (at_builtin; refine wpList_app_int (.tmp 97) (.tmp 102) rfl rfl wt.heap.size _ _ os x rfl rfl HO (by omega) hwr ?_; intro A2 c2 wn HO2 HB2)
              go_roundw
              case rel => exact ⟨j + 1, by omega, by go_num, by rw [HT.out]; exact HO2.out, HBr.out.trans HB2.out⟩
              case measure => simp [intOf]; omega
          · obtain rfl : j = xs.length := by omega
            have ltp0 : p < wt.heap.size := HDP.out.lt
            have ltq0 : q < wt.heap.size := HDQ.out.lt
            clear h1
            replace k0 := cell_of_ans hb k0
            replace k1 := cell_of_ans hb k1
            replace k2 := cell_of_ans hb k2
            replace k3 := cell_of_ans hb k3
            replace k4 := cell_of_ans hb k4
            replace n0 := cell_of_ans hb n0
            replace n1 := cell_of_ans hb n1
            replace HL := Lib.hid (HL.out.step hb)
            replace HX := Lib.hid (HX.out.step hb)
            replace HBa := Lib.hid (HBa.out.step hb)
            replace Hhsl := Lib.hid (Hhsl.out.step hb)
            replace Hhml := Lib.hid (Hhml.out.step hb)
            replace HDP := Lib.hid (HDP.out.step hb)
            replace HDQ := Lib.hid (HDQ.out.step hb)
            have HBW := Lib.hid hb
            clear hb HBr
            skip
            have hfk := hfl k xs.length
            have HLK := Lib.hid (HLB.out k)
            have HHK : Hid (∀ i b, hh k i = b → hasB (fewT xs k xs.length) (ix xs i) = b) := HHI.out k
            have HCK := Lib.hid (HCan.out k)
            generalize fewT xs k xs.length = fw at *
            obtain ⟨hcf1, hcf2, hff⟩ := isInts_parts HO.out.isInts
            have HF := Lib.hid hff
            have HFO := HO
            clear hff HO
            have hfl2 : fw.length ≤ 1000000 := by omega
            have HB := HBW
            clear HBW
            go_wp2_with fail
            refine (rack18_c r A c _ HL.out hc hlen).mono ?_
            rintro e z1 ⟨A7, c7, rfl, ⟨hl7, hc7⟩, hb⟩
            replace k0 := cell_of_ans hb k0
            replace k1 := cell_of_ans hb k1
            replace k2 := cell_of_ans hb k2
            replace k3 := cell_of_ans hb k3
            replace k4 := cell_of_ans hb k4
            replace n0 := cell_of_ans hb n0
            replace n1 := cell_of_ans hb n1
            replace HL := Lib.hid (HL.out.step hb)
            replace HX := Lib.hid (HX.out.step hb)
            replace HBa := Lib.hid (HBa.out.step hb)
            replace Hhsl := Lib.hid (Hhsl.out.step hb)
            replace Hhml := Lib.hid (Hhml.out.step hb)
            replace HDP := Lib.hid (HDP.out.step hb)
            replace HDQ := Lib.hid (HDQ.out.step hb)
            replace HF := Lib.hid (HF.out.step hb)
            replace HFO := Lib.hid (HFO.out.step hb)
            replace HB := Lib.hid (HB.out.trans (hb.mono HB.out.size))
            clear hb
            have Hhl7 := Lib.hid hl7
            clear hl7
            go_wp2_with fail
            refine (list_c xA xs cx _ HX.out hxl).mono ?_
            rintro e z2 ⟨B7, d7, rfl, ho7, hb⟩
            obtain ⟨hd7, he7, hi7⟩ := isInts_parts (ownsRow_isInts ho7)
            clear ho7
            replace k0 := cell_of_ans hb k0
            replace k1 := cell_of_ans hb k1
            replace k2 := cell_of_ans hb k2
            replace k3 := cell_of_ans hb k3
            replace k4 := cell_of_ans hb k4
            replace n0 := cell_of_ans hb n0
            replace n1 := cell_of_ans hb n1
            replace HL := Lib.hid (HL.out.step hb)
            replace HX := Lib.hid (HX.out.step hb)
            replace HBa := Lib.hid (HBa.out.step hb)
            replace Hhsl := Lib.hid (Hhsl.out.step hb)
            replace Hhml := Lib.hid (Hhml.out.step hb)
            replace HDP := Lib.hid (HDP.out.step hb)
            replace HDQ := Lib.hid (HDQ.out.step hb)
            replace HF := Lib.hid (HF.out.step hb)
            replace HFO := Lib.hid (HFO.out.step hb)
            replace Hhl7 := Lib.hid (Hhl7.out.step hb)
            replace HB := Lib.hid (HB.out.trans (hb.mono HB.out.size))
            clear hb
            have Hhi7 := Lib.hid hi7
            clear hi7
            go_wp2_with fail
            refine (ball20_c Ab cb ball _ HBa.out hcb hbl).mono ?_
            rintro e z3 ⟨G7, g7, rfl, ⟨hg7, hh7, hj7⟩, hb⟩
            replace k0 := cell_of_ans hb k0
            replace k1 := cell_of_ans hb k1
            replace k2 := cell_of_ans hb k2
            replace k3 := cell_of_ans hb k3
            replace k4 := cell_of_ans hb k4
            replace n0 := cell_of_ans hb n0
            replace n1 := cell_of_ans hb n1
            replace HL := Lib.hid (HL.out.step hb)
            replace HX := Lib.hid (HX.out.step hb)
            replace HBa := Lib.hid (HBa.out.step hb)
            replace Hhsl := Lib.hid (Hhsl.out.step hb)
            replace Hhml := Lib.hid (Hhml.out.step hb)
            replace HDP := Lib.hid (HDP.out.step hb)
            replace HDQ := Lib.hid (HDQ.out.step hb)
            replace HF := Lib.hid (HF.out.step hb)
            replace HFO := Lib.hid (HFO.out.step hb)
            replace Hhl7 := Lib.hid (Hhl7.out.step hb)
            replace Hhi7 := Lib.hid (Hhi7.out.step hb)
            replace HB := Lib.hid (HB.out.trans (hb.mono HB.out.size))
            clear hb
            have Hhg7 := Lib.hid hg7
            clear hg7
            go_wp2_with fail
            refine (list_c Ao fw co _ HF.out hfl2).mono ?_
            rintro e z4 ⟨B8, d8, rfl, ho8, hb⟩
            obtain ⟨hd8, he8, hi8⟩ := isInts_parts (ownsRow_isInts ho8)
            clear ho8
            replace k0 := cell_of_ans hb k0
            replace k1 := cell_of_ans hb k1
            replace k2 := cell_of_ans hb k2
            replace k3 := cell_of_ans hb k3
            replace k4 := cell_of_ans hb k4
            replace n0 := cell_of_ans hb n0
            replace n1 := cell_of_ans hb n1
            replace HL := Lib.hid (HL.out.step hb)
            replace HX := Lib.hid (HX.out.step hb)
            replace HBa := Lib.hid (HBa.out.step hb)
            replace Hhsl := Lib.hid (Hhsl.out.step hb)
            replace Hhml := Lib.hid (Hhml.out.step hb)
            replace HDP := Lib.hid (HDP.out.step hb)
            replace HDQ := Lib.hid (HDQ.out.step hb)
            replace HF := Lib.hid (HF.out.step hb)
            replace HFO := Lib.hid (HFO.out.step hb)
            replace Hhl7 := Lib.hid (Hhl7.out.step hb)
            replace Hhi7 := Lib.hid (Hhi7.out.step hb)
            replace Hhg7 := Lib.hid (Hhg7.out.step hb)
            replace HB := Lib.hid (HB.out.trans (hb.mono HB.out.size))
            clear hb
            have Hhi8 := Lib.hid hi8
            clear hi8
            cases ec : cc k
            all_goals rw [ec] at HCK
            · go_wp2_with fail
              refine (HCK.out _ _ _ _ _ _ _ _ _ Hhl7.out hc7 Hhi7.out ⟨hd7, he7⟩ Hhg7.out ⟨hh7, hj7⟩ Hhi8.out ⟨hd8, he8⟩).mono ?_
              rintro e z5 ⟨rfl, hb⟩
              replace k0 := cell_of_ans hb k0
              replace k1 := cell_of_ans hb k1
              replace k2 := cell_of_ans hb k2
              replace k3 := cell_of_ans hb k3
              replace k4 := cell_of_ans hb k4
              replace n0 := cell_of_ans hb n0
              replace n1 := cell_of_ans hb n1
              replace HL := Lib.hid (HL.out.step hb)
              replace HX := Lib.hid (HX.out.step hb)
              replace HBa := Lib.hid (HBa.out.step hb)
              replace Hhsl := Lib.hid (Hhsl.out.step hb)
              replace Hhml := Lib.hid (Hhml.out.step hb)
              replace HDP := Lib.hid (HDP.out.step hb)
              replace HDQ := Lib.hid (HDQ.out.step hb)
              replace HF := Lib.hid (HF.out.step hb)
              replace HFO := Lib.hid (HFO.out.step hb)
              replace Hhl7 := Lib.hid (Hhl7.out.step hb)
              replace Hhi7 := Lib.hid (Hhi7.out.step hb)
              replace Hhg7 := Lib.hid (Hhg7.out.step hb)
              replace Hhi8 := Lib.hid (Hhi8.out.step hb)
              replace HB := Lib.hid (HB.out.trans (hb.mono HB.out.size))
              clear hb
              clear Hhl7 Hhi7 Hhg7 Hhi8
              have HLS : Hid (lsF cc ll (k + 1) = lsF cc ll k) := by show _ = _; rw [lsF, ec]; rfl
              have HMS : Hid (msF cc ll (k + 1) = msF cc ll k) := by show _ = _; rw [msF, ec]; rfl
              go_wp2_with fail
              go_roundw
              case rel => exact ⟨k + 1, by omega, by go_num, by rw [HLS.out], by rw [HMS.out], by rw [faF_no ec]; exact HDP.out, by rw [stF_no ec]; exact HDQ.out, HBR.out.trans (HB.out.mono hnr)⟩
              case measure => simp [intOf]; omega
            · go_wp2_with fail
              refine (HCK.out _ _ _ _ _ _ _ _ _ Hhl7.out hc7 Hhi7.out ⟨hd7, he7⟩ Hhg7.out ⟨hh7, hj7⟩ Hhi8.out ⟨hd8, he8⟩).mono ?_
              rintro e z5 ⟨rfl, hb⟩
              replace k0 := cell_of_ans hb k0
              replace k1 := cell_of_ans hb k1
              replace k2 := cell_of_ans hb k2
              replace k3 := cell_of_ans hb k3
              replace k4 := cell_of_ans hb k4
              replace n0 := cell_of_ans hb n0
              replace n1 := cell_of_ans hb n1
              replace HL := Lib.hid (HL.out.step hb)
              replace HX := Lib.hid (HX.out.step hb)
              replace HBa := Lib.hid (HBa.out.step hb)
              replace Hhsl := Lib.hid (Hhsl.out.step hb)
              replace Hhml := Lib.hid (Hhml.out.step hb)
              replace HDP := Lib.hid (HDP.out.step hb)
              replace HDQ := Lib.hid (HDQ.out.step hb)
              replace HF := Lib.hid (HF.out.step hb)
              replace HFO := Lib.hid (HFO.out.step hb)
              replace Hhl7 := Lib.hid (Hhl7.out.step hb)
              replace Hhi7 := Lib.hid (Hhi7.out.step hb)
              replace Hhg7 := Lib.hid (Hhg7.out.step hb)
              replace Hhi8 := Lib.hid (Hhi8.out.step hb)
              replace HB := Lib.hid (HB.out.trans (hb.mono HB.out.size))
              clear hb
              clear Hhl7 Hhi7 Hhg7 Hhi8
              have HLS : Hid (lsF cc ll (k + 1) = min (lsF cc ll k) (fw.length : Int)) := by show _ = _; rw [lsF, ec, HLK.out]; rfl
              have HMS : Hid (msF cc ll (k + 1) = max (msF cc ll k) (fw.length : Int)) := by show _ = _; rw [msF, ec, HLK.out]; rfl
              have HFY := Lib.hid (faF_yes (h := hh) (m := xs.length) ec)
              have HSY := Lib.hid (stF_yes (h := hh) (m := xs.length) ec)
              clear ec
              generalize lsF cc ll k = la at *
              generalize msF cc ll k = lm at *
              generalize hfa : faF cc hh k = fa at *
              generalize hst : stF cc hh k = sa at *
              clear hfa hst
              obtain ⟨mi, hmi0⟩ : ∃ mi, mi = min la (fw.length : Int) := ⟨_, rfl⟩
              obtain ⟨ma, hma0⟩ : ∃ ma, ma = max lm (fw.length : Int) := ⟨_, rfl⟩
              rw [← hmi0] at HLS
              rw [← hma0] at HMS
              have hmi : (if (fw.length : Int) < la then (fw.length : Int) else la) = mi := by rw [hmi0]; split <;> omega
              have hma : (if lm < (fw.length : Int) then (fw.length : Int) else lm) = ma := by rw [hma0]; split <;> omega
              clear hmi0 hma0
              go_wp2_with fail
              clear hmi hma
              skip
              have HB5 := Lib.hid (HBR.out.trans (HB.out.mono hnr))
              have hpw : p < wt.heap.size := by have := ltp0; omega
              have hqw : q < wt.heap.size := by have := ltq0; omega
              generalize z5 = wz at *
              go_loopw [19] (fun vj wr => ∃ j : Nat, j ≤ xs.length ∧ vj = .int .i64 j ∧ Dn wr p (upJ fa (fun i => !hh k i) j) xs.length ∧ Dn wr q (upJ sa (hh k) j) xs.length ∧ Below nb x9 wr ∧ OwnI wt.heap.size wr (.slice Ao fw.length co) fw) (fun vj _ => xs.length - (intOf vj).toNat)
              case atStart => exact ⟨0, by omega, rfl, by rw [upJ_0]; exact HDP.out, by rw [upJ_0]; exact HDQ.out, HB5.out, HFO.out⟩
              case round =>
                obtain ⟨j, hj, rfl, hdp, hdq, hbr, hfo⟩ := hrel
                have HDP2 := Lib.hid hdp
                have HDQ2 := Lib.hid hdq
                have HBR2 := Lib.hid hbr
                have HFO2 := Lib.hid hfo
                clear hdp hdq hbr hfo HDP HDQ HBR HF HFO HB5
                by_cases h1 : j < xs.length
                · have hjl : (j : Int) < (xs.length : Int) := by omega
                  obtain ⟨b1, o1, hA1, hlt1, c1⟩ := (HX9.out.below HBR2.out).at_ h1
                  obtain ⟨d1, f1⟩ := HDP2.out.cell h1
                  obtain ⟨d2, f2⟩ := HDQ2.out.cell h1
                  rw [upJ_at] at d1 d2
                  have hb1p : b1 ≠ p := by omega
                  have HDPd := Lib.hid (HDP2.out.step (Below.refl _ _).drew)
                  have HDQd := Lib.hid (HDQ2.out.step (Below.refl _ _).drew)
                  have HFOd := Lib.hid (HFO2.out.kept (Below.refl _ _).drew)
                  have HHJ := Lib.hid (fun (W : World) (h : W = wr.drew) => (show Calls Try.prog 35 #[.slice Ao fw.length co, .int .i64 (ix xs j)] W (Same W (.bool (hh k j))) from by
                    subst h
                    have h := has35_c Ao fw co (ix xs j) wr.drew (isInts_parts HFOd.out.isInts).2.2 ⟨hcf1, hcf2⟩
                    rwa [HHK.out j _ rfl] at h))
                  have HUP : Hid (∀ b, b = (fa j || !hh k j) → upd (upJ fa (fun i => !hh k i) j) j b = upJ fa (fun i => !hh k i) (j + 1)) := fun b e => by rw [← upJ_succ, e]
                  have HUQ : Hid (∀ b, b = (sa j || hh k j) → upd (upJ sa (hh k) j) j b = upJ sa (hh k) (j + 1)) := fun b e => by rw [← upJ_succ, e]
                  generalize ix xs j = x at *
                  generalize hh k j = hjb at *
                  subst hA1
                  generalize fa j = fj at *
                  generalize sa j = sj at *
                  clear HL HX HX9 HBa Hhsl Hhml HCK HCan HHK HHI HLB hfl k0 k1 k2 k3 k4 n0 n1 HP5 HLK HLS HMS HFY HSY HDP2 HDQ2 HFO2 HB HB9 HB0 hsh hlen hxl hbl hl16 hx15 hb8 hc hcx hcb hsl2 hml2
                  go_upto_region 23 with fail
                  refine wp_region_noPanic ?_
                  have hS : (fun W' : World => wr.grownBy W' (some p)) wr.drew := only_drewN (World.grownBy.refl _ _) 1
                  refine wp_region_any (by kernel_rfl) (wpAny_of_T (S := fun W' : World => wr.grownBy W' (some p)) (m := 32) _ _ _ _ ?_)
                  refine' T_take (i := 0) (v := _) rfl (by kernel_rfl) (by kernel_rfl) (by kernel_rfl) (by kernel_rfl) (fun _ _ _ h => h) (by kernel_rfl) hS ?_ ?_
                  rotate_left 1
                  · intro Wv hW
                    have d2 := hW.cell d2 (by simp; omega)
                    have c1 := hW.cell c1 (by simp; omega)
                    go_simp
                    first | done | with_reducible rfl | omega
                  try simp only [Act.put, List.setIfInBounds_toArray, List.set_cons_zero, List.set_cons_succ]
                  refine' T_take (i := 1) (v := _) rfl (by kernel_rfl) (by kernel_rfl) (by kernel_rfl) (by kernel_rfl) (fun _ _ _ h => h) (by kernel_rfl) hS ?_ ?_
                  rotate_left 1
                  · intro Wv hW
                    have d2 := hW.cell d2 (by simp; omega)
                    have c1 := hW.cell c1 (by simp; omega)
                    go_simp
                    first | done | with_reducible rfl | omega
                  try simp only [Act.put, List.setIfInBounds_toArray, List.set_cons_zero, List.set_cons_succ]
                  refine' T_take (i := 2) (v := _) rfl (by kernel_rfl) (by kernel_rfl) (by kernel_rfl) (by kernel_rfl) (fun _ _ _ h => h) (by kernel_rfl) hS ?_ ?_
                  rotate_left 1
                  · intro Wv hW
                    have d2 := hW.cell d2 (by simp; omega)
                    have c1 := hW.cell c1 (by simp; omega)
                    go_simp
                    first | done | with_reducible rfl | omega
                  try simp only [Act.put, List.setIfInBounds_toArray, List.set_cons_zero, List.set_cons_succ]
                  refine' T_take (i := 3) (v := _) rfl (by kernel_rfl) (by kernel_rfl) (by kernel_rfl) (by kernel_rfl) (fun _ _ _ h => h) (by kernel_rfl) hS ?_ ?_
                  rotate_left 1
                  · intro Wv hW
                    have d2 := hW.cell d2 (by simp; omega)
                    have c1 := hW.cell c1 (by simp; omega)
                    go_simp
                    first | done | with_reducible rfl | omega
                  try simp only [Act.put, List.setIfInBounds_toArray, List.set_cons_zero, List.set_cons_succ]
                  refine' T_take (i := 4) (v := _) rfl (by kernel_rfl) (by kernel_rfl) (by kernel_rfl) (by kernel_rfl) (fun _ _ _ h => h) (by kernel_rfl) hS ?_ ?_
                  rotate_left 1
                  · intro Wv hW
                    have d2 := hW.cell d2 (by simp; omega)
                    have c1 := hW.cell c1 (by simp; omega)
                    go_simp
                    first | done | with_reducible rfl | omega
                  try simp only [Act.put, List.setIfInBounds_toArray, List.set_cons_zero, List.set_cons_succ]
                  refine' T_take (i := 5) (v := _) rfl (by kernel_rfl) (by kernel_rfl) (by kernel_rfl) (by kernel_rfl) (fun _ _ _ h => h) (by kernel_rfl) hS ?_ ?_
                  rotate_left 1
                  · intro Wv hW
                    have d2 := hW.cell d2 (by simp; omega)
                    have c1 := hW.cell c1 (by simp; omega)
                    go_simp
                    first | done | with_reducible rfl | omega
                  try simp only [Act.put, List.setIfInBounds_toArray, List.set_cons_zero, List.set_cons_succ]
                  refine' T_take (i := 6) (v := _) rfl (by kernel_rfl) (by kernel_rfl) (by kernel_rfl) (by kernel_rfl) (fun _ _ _ h => h) (by kernel_rfl) hS ?_ ?_
                  rotate_left 1
                  · intro Wv hW
                    have d2 := hW.cell d2 (by simp; omega)
                    have c1 := hW.cell c1 (by simp; omega)
                    go_simp
                    first | done | with_reducible rfl | omega
                  try simp only [Act.put, List.setIfInBounds_toArray, List.set_cons_zero, List.set_cons_succ]
                  refine' T_take (i := 17) (v := _) rfl (by kernel_rfl) (by kernel_rfl) (by kernel_rfl) (by kernel_rfl) (fun _ _ _ h => h) (by kernel_rfl) hS ?_ ?_
                  rotate_left 1
                  · intro Wv hW
                    have d2 := hW.cell d2 (by simp; omega)
                    have c1 := hW.cell c1 (by simp; omega)
                    go_simp
                    first | done | with_reducible rfl | omega
                  try simp only [Act.put, List.setIfInBounds_toArray, List.set_cons_zero, List.set_cons_succ]
                  refine' T_take (i := 18) (v := _) rfl (by kernel_rfl) (by kernel_rfl) (by kernel_rfl) (by kernel_rfl) (fun _ _ _ h => h) (by kernel_rfl) hS ?_ ?_
                  rotate_left 1
                  · intro Wv hW
                    have d2 := hW.cell d2 (by simp; omega)
                    have c1 := hW.cell c1 (by simp; omega)
                    go_simp
                    first | done | with_reducible rfl | omega
                  try simp only [Act.put, List.setIfInBounds_toArray, List.set_cons_zero, List.set_cons_succ]
                  refine' T_take (i := 19) (v := _) rfl (by kernel_rfl) (by kernel_rfl) (by kernel_rfl) (by kernel_rfl) (fun _ _ _ h => h) (by kernel_rfl) hS ?_ ?_
                  rotate_left 1
                  · intro Wv hW
                    have d2 := hW.cell d2 (by simp; omega)
                    have c1 := hW.cell c1 (by simp; omega)
                    go_simp
                    first | done | with_reducible rfl | omega
                  try simp only [Act.put, List.setIfInBounds_toArray, List.set_cons_zero, List.set_cons_succ]
                  refine' T_take (i := 20) (v := _) rfl (by kernel_rfl) (by kernel_rfl) (by kernel_rfl) (by kernel_rfl) (fun _ _ _ h => h) (by kernel_rfl) hS ?_ ?_
                  rotate_left 1
                  · intro Wv hW
                    have d2 := hW.cell d2 (by simp; omega)
                    have c1 := hW.cell c1 (by simp; omega)
                    go_simp
                    first | done | with_reducible rfl | omega
                  try simp only [Act.put, List.setIfInBounds_toArray, List.set_cons_zero, List.set_cons_succ]
                  refine T_ready (rs := [7]) (by kernel_rfl) (by simp) ?_
                  refine TReady.cons rfl (fun K hK => ?_) TReady.nil
                  try go_simp
                  refine hK.out _ _ (fun _ => hS) (fun _ => ?_)
                  clear hK K
                  try simp only [Act.put, List.setIfInBounds_toArray, List.set_cons_zero, List.set_cons_succ]
                  refine' T_take (i := 8) (v := _) rfl (by kernel_rfl) (by kernel_rfl) (by kernel_rfl) (by kernel_rfl) (fun _ _ _ h => h) (by kernel_rfl) hS ?_ ?_
                  rotate_left 1
                  · intro Wv hW
                    have d2 := hW.cell d2 (by simp; omega)
                    have c1 := hW.cell c1 (by simp; omega)
                    go_simp
                    first | done | with_reducible rfl | omega
                  try simp only [Act.put, List.setIfInBounds_toArray, List.set_cons_zero, List.set_cons_succ]
                  cases fj
                  · skip
                    refine' T_take (i := 9) (v := _) rfl (by kernel_rfl) (by kernel_rfl) (by kernel_rfl) (by kernel_rfl) (fun _ _ _ h => h) (by kernel_rfl) hS ?_ ?_
                    rotate_left 1
                    · intro Wv hW
                      have d2 := hW.cell d2 (by simp; omega)
                      have c1 := hW.cell c1 (by simp; omega)
                      go_simp
                      first | done | with_reducible rfl | omega
                    try simp only [Act.put, List.setIfInBounds_toArray, List.set_cons_zero, List.set_cons_succ]
                    refine' T_take (i := 10) (v := _) rfl (by kernel_rfl) (by kernel_rfl) (by kernel_rfl) (by kernel_rfl) (fun _ _ _ h => h) (by kernel_rfl) hS ?_ ?_
                    rotate_left 1
                    · intro Wv hW
                      have d2 := hW.cell d2 (by simp; omega)
                      have c1 := hW.cell c1 (by simp; omega)
                      go_simp
                      first | done | with_reducible rfl | omega
                    try simp only [Act.put, List.setIfInBounds_toArray, List.set_cons_zero, List.set_cons_succ]
                    refine' T_take (i := 11) (v := _) rfl (by kernel_rfl) (by kernel_rfl) (by kernel_rfl) (by kernel_rfl) (fun _ _ _ h => h) (by kernel_rfl) hS ?_ ?_
                    rotate_left 1
                    · intro Wv hW
                      have d2 := hW.cell d2 (by simp; omega)
                      have c1 := hW.cell c1 (by simp; omega)
                      go_simp
                      first | done | with_reducible rfl | omega
                    try simp only [Act.put, List.setIfInBounds_toArray, List.set_cons_zero, List.set_cons_succ]
                    refine' T_take (i := 12) (v := _) rfl (by kernel_rfl) (by kernel_rfl) (by kernel_rfl) (by kernel_rfl) (fun _ _ _ h => h) (by kernel_rfl) hS ?_ ?_
                    rotate_left 1
                    · intro Wv hW
                      have d2 := hW.cell d2 (by simp; omega)
                      have c1 := hW.cell c1 (by simp; omega)
                      go_simp
                      first | done | with_reducible rfl | omega
                    try simp only [Act.put, List.setIfInBounds_toArray, List.set_cons_zero, List.set_cons_succ]
                    refine' T_take (i := 13) (v := _) rfl (by kernel_rfl) (by kernel_rfl) (by kernel_rfl) (by kernel_rfl) (fun _ _ _ h => h) (by kernel_rfl) hS ?_ ?_
                    rotate_left 1
                    · intro Wv hW
                      have d2 := hW.cell d2 (by simp; omega)
                      have c1 := hW.cell c1 (by simp; omega)
                      go_simp
                      first | done | with_reducible rfl | omega
                    try simp only [Act.put, List.setIfInBounds_toArray, List.set_cons_zero, List.set_cons_succ]
                    refine T_ready (rs := [14]) (by kernel_rfl) (by simp) ?_
                    refine TReady.cons rfl (fun K hK => ?_) TReady.nil
                    try go_simp
                    refine (HHJ.out _ rfl).mono ?_
                    rintro e w6 ⟨rfl, rfl⟩
                    try go_simp
                    refine hK.out _ _ (fun _ => hS) (fun _ => ?_)
                    clear hK K
                    try simp only [Act.put, List.setIfInBounds_toArray, List.set_cons_zero, List.set_cons_succ]
                    refine' T_take (i := 15) (v := _) rfl (by kernel_rfl) (by kernel_rfl) (by kernel_rfl) (by kernel_rfl) (fun _ _ _ h => h) (by kernel_rfl) hS ?_ ?_
                    rotate_left 1
                    · intro Wv hW
                      have d2 := hW.cell d2 (by simp; omega)
                      have c1 := hW.cell c1 (by simp; omega)
                      go_simp
                      first | done | with_reducible rfl | omega
                    try simp only [Act.put, List.setIfInBounds_toArray, List.set_cons_zero, List.set_cons_succ]
                    refine' T_take (i := 16) (v := _) rfl (by kernel_rfl) (by kernel_rfl) (by kernel_rfl) (by kernel_rfl) (fun _ _ _ h => h) (by kernel_rfl) hS ?_ ?_
                    rotate_left 1
                    · intro Wv hW
                      have d2 := hW.cell d2 (by simp; omega)
                      have c1 := hW.cell c1 (by simp; omega)
                      go_simp
                      first | done | with_reducible rfl | omega
                    try simp only [Act.put, List.setIfInBounds_toArray, List.set_cons_zero, List.set_cons_succ]
                    refine' T_take (i := 21) (v := _) rfl (by kernel_rfl) (by kernel_rfl) (by kernel_rfl) (by kernel_rfl) (fun _ _ _ h => h) (by kernel_rfl) hS ?_ ?_
                    rotate_left 1
                    · intro Wv hW
                      have d2 := hW.cell d2 (by simp; omega)
                      have c1 := hW.cell c1 (by simp; omega)
                      go_simp
                      first | done | with_reducible rfl | omega
                    try simp only [Act.put, List.setIfInBounds_toArray, List.set_cons_zero, List.set_cons_succ]
                    cases sj
                    · skip
                      refine' T_take (i := 22) (v := _) rfl (by kernel_rfl) (by kernel_rfl) (by kernel_rfl) (by kernel_rfl) (fun _ _ _ h => h) (by kernel_rfl) hS ?_ ?_
                      rotate_left 1
                      · intro Wv hW
                        have d2 := hW.cell d2 (by simp; omega)
                        have c1 := hW.cell c1 (by simp; omega)
                        go_simp
                        first | done | with_reducible rfl | omega
                      try simp only [Act.put, List.setIfInBounds_toArray, List.set_cons_zero, List.set_cons_succ]
                      refine' T_take (i := 23) (v := _) rfl (by kernel_rfl) (by kernel_rfl) (by kernel_rfl) (by kernel_rfl) (fun _ _ _ h => h) (by kernel_rfl) hS ?_ ?_
                      rotate_left 1
                      · intro Wv hW
                        have d2 := hW.cell d2 (by simp; omega)
                        have c1 := hW.cell c1 (by simp; omega)
                        go_simp
                        first | done | with_reducible rfl | omega
                      try simp only [Act.put, List.setIfInBounds_toArray, List.set_cons_zero, List.set_cons_succ]
                      refine' T_take (i := 24) (v := _) rfl (by kernel_rfl) (by kernel_rfl) (by kernel_rfl) (by kernel_rfl) (fun _ _ _ h => h) (by kernel_rfl) hS ?_ ?_
                      rotate_left 1
                      · intro Wv hW
                        have d2 := hW.cell d2 (by simp; omega)
                        have c1 := hW.cell c1 (by simp; omega)
                        go_simp
                        first | done | with_reducible rfl | omega
                      try simp only [Act.put, List.setIfInBounds_toArray, List.set_cons_zero, List.set_cons_succ]
                      refine' T_take (i := 25) (v := _) rfl (by kernel_rfl) (by kernel_rfl) (by kernel_rfl) (by kernel_rfl) (fun _ _ _ h => h) (by kernel_rfl) hS ?_ ?_
                      rotate_left 1
                      · intro Wv hW
                        have d2 := hW.cell d2 (by simp; omega)
                        have c1 := hW.cell c1 (by simp; omega)
                        go_simp
                        first | done | with_reducible rfl | omega
                      try simp only [Act.put, List.setIfInBounds_toArray, List.set_cons_zero, List.set_cons_succ]
                      refine' T_take (i := 26) (v := _) rfl (by kernel_rfl) (by kernel_rfl) (by kernel_rfl) (by kernel_rfl) (fun _ _ _ h => h) (by kernel_rfl) hS ?_ ?_
                      rotate_left 1
                      · intro Wv hW
                        have d2 := hW.cell d2 (by simp; omega)
                        have c1 := hW.cell c1 (by simp; omega)
                        go_simp
                        first | done | with_reducible rfl | omega
                      try simp only [Act.put, List.setIfInBounds_toArray, List.set_cons_zero, List.set_cons_succ]
                      refine T_ready (rs := [27]) (by kernel_rfl) (by simp) ?_
                      refine TReady.cons rfl (fun K hK => ?_) TReady.nil
                      try go_simp
                      refine (HHJ.out _ rfl).mono ?_
                      rintro e w6 ⟨rfl, rfl⟩
                      try go_simp
                      refine hK.out _ _ (fun _ => hS) (fun _ => ?_)
                      clear hK K
                      try simp only [Act.put, List.setIfInBounds_toArray, List.set_cons_zero, List.set_cons_succ]
                      refine' T_take (i := 28) (v := _) rfl (by kernel_rfl) (by kernel_rfl) (by kernel_rfl) (by kernel_rfl) (fun _ _ _ h => h) (by kernel_rfl) hS ?_ ?_
                      rotate_left 1
                      · intro Wv hW
                        have d2 := hW.cell d2 (by simp; omega)
                        have c1 := hW.cell c1 (by simp; omega)
                        go_simp
                        first | done | with_reducible rfl | omega
                      try simp only [Act.put, List.setIfInBounds_toArray, List.set_cons_zero, List.set_cons_succ]
                      refine' T_take (i := 29) (v := _) rfl (by kernel_rfl) (by kernel_rfl) (by kernel_rfl) (by kernel_rfl) (fun _ _ _ h => h) (by kernel_rfl) hS ?_ ?_
                      rotate_left 1
                      · intro Wv hW
                        have d2 := hW.cell d2 (by simp; omega)
                        have c1 := hW.cell c1 (by simp; omega)
                        go_simp
                        first | done | with_reducible rfl | omega
                      try simp only [Act.put, List.setIfInBounds_toArray, List.set_cons_zero, List.set_cons_succ]
                      refine T_ready (rs := [30]) (by kernel_rfl) (by simp) ?_
                      refine TReady.cons rfl (fun K hK => ?_) TReady.nil
                      try go_simp
                      have hS2 := only_setCell hS (p := ⟨p, j, none⟩) (.inl rfl) (.bool (!hjb))
                      refine hK.out _ _ (fun _ => hS2) (fun _ => ?_)
                      clear hK K hS
                      have hS := hS2
                      clear hS2
                      try simp only [Act.put, List.setIfInBounds_toArray, List.set_cons_zero, List.set_cons_succ]
                      refine' T_take (i := 31) (v := _) rfl (by kernel_rfl) (by kernel_rfl) (by kernel_rfl) (by kernel_rfl) (fun _ _ _ h => h) (by kernel_rfl) hS ?_ ?_
                      rotate_left 1
                      · intro Wv hW
                        have d2 := hW.cell d2 (by simp; omega)
                        have c1 := hW.cell c1 (by simp; omega)
                        go_simp
                        first | done | with_reducible rfl | omega
                      try simp only [Act.put, List.setIfInBounds_toArray, List.set_cons_zero, List.set_cons_succ]
                      refine T_ready (rs := [32]) (by kernel_rfl) (by simp) ?_
                      refine TReady.cons rfl (fun K hK => ?_) TReady.nil
                      obtain ⟨-, e2⟩ := (HDQd.out.far (i := j) hqp (.bool (!hjb))).cell h1
                      try go_simp
                      refine hK.out _ _ (fun h => absurd h (by decide)) (fun _ => ?_)
                      clear hK K
                      try simp only [Act.put, List.setIfInBounds_toArray, List.set_cons_zero, List.set_cons_succ]
                      refine T_done (by kernel_rfl) ?_ _
                      refine NoPanic.normal ?_
                      try go_simp
                      clear hS
                      go_wp2_with fail
                      go_roundw
                      case rel => exact ⟨j + 1, by omega, by go_num, by rw [← HUP.out (!hjb) (by simp)]; exact (HDPd.out.set j (!hjb)).far hpq _, by rw [← HUQ.out hjb (by simp)]; exact (HDQd.out.far hqp _).set j hjb, (HBR2.out.drew.setCell (p := ⟨p, j, none⟩) hnp _).setCell (p := ⟨q, j, none⟩) hnq2 _, (HFOd.out.keptBy (only_setCell (World.grownBy.refl _ _) (.inl rfl) _) hpw).keptBy (only_setCell (World.grownBy.refl _ _) (.inl rfl) _) hqw⟩
                      case measure => simp [intOf]; omega
                    · skip
                      refine' T_skip (i := 22) rfl (by kernel_rfl) (by kernel_rfl) (by kernel_rfl) (by kernel_rfl) (fun _ _ _ h => h) (by kernel_rfl) hS ?_
                      try simp only [Act.put, List.setIfInBounds_toArray, List.set_cons_zero, List.set_cons_succ]
                      refine' T_skip (i := 23) rfl (by kernel_rfl) (by kernel_rfl) (by kernel_rfl) (by kernel_rfl) (fun _ _ _ h => h) (by kernel_rfl) hS ?_
                      try simp only [Act.put, List.setIfInBounds_toArray, List.set_cons_zero, List.set_cons_succ]
                      refine' T_skip (i := 24) rfl (by kernel_rfl) (by kernel_rfl) (by kernel_rfl) (by kernel_rfl) (fun _ _ _ h => h) (by kernel_rfl) hS ?_
                      try simp only [Act.put, List.setIfInBounds_toArray, List.set_cons_zero, List.set_cons_succ]
                      refine' T_skip (i := 25) rfl (by kernel_rfl) (by kernel_rfl) (by kernel_rfl) (by kernel_rfl) (fun _ _ _ h => h) (by kernel_rfl) hS ?_
                      try simp only [Act.put, List.setIfInBounds_toArray, List.set_cons_zero, List.set_cons_succ]
                      refine' T_skip (i := 26) rfl (by kernel_rfl) (by kernel_rfl) (by kernel_rfl) (by kernel_rfl) (fun _ _ _ h => h) (by kernel_rfl) hS ?_
                      try simp only [Act.put, List.setIfInBounds_toArray, List.set_cons_zero, List.set_cons_succ]
                      refine' T_skip (i := 27) rfl (by kernel_rfl) (by kernel_rfl) (by kernel_rfl) (by kernel_rfl) (fun _ _ _ h => h) (by kernel_rfl) hS ?_
                      try simp only [Act.put, List.setIfInBounds_toArray, List.set_cons_zero, List.set_cons_succ]
                      refine' T_take (i := 28) (v := _) rfl (by kernel_rfl) (by kernel_rfl) (by kernel_rfl) (by kernel_rfl) (fun _ _ _ h => h) (by kernel_rfl) hS ?_ ?_
                      rotate_left 1
                      · intro Wv hW
                        have d2 := hW.cell d2 (by simp; omega)
                        have c1 := hW.cell c1 (by simp; omega)
                        go_simp
                        first | done | with_reducible rfl | omega
                      try simp only [Act.put, List.setIfInBounds_toArray, List.set_cons_zero, List.set_cons_succ]
                      refine' T_take (i := 29) (v := _) rfl (by kernel_rfl) (by kernel_rfl) (by kernel_rfl) (by kernel_rfl) (fun _ _ _ h => h) (by kernel_rfl) hS ?_ ?_
                      rotate_left 1
                      · intro Wv hW
                        have d2 := hW.cell d2 (by simp; omega)
                        have c1 := hW.cell c1 (by simp; omega)
                        go_simp
                        first | done | with_reducible rfl | omega
                      try simp only [Act.put, List.setIfInBounds_toArray, List.set_cons_zero, List.set_cons_succ]
                      refine T_ready (rs := [30]) (by kernel_rfl) (by simp) ?_
                      refine TReady.cons rfl (fun K hK => ?_) TReady.nil
                      try go_simp
                      have hS2 := only_setCell hS (p := ⟨p, j, none⟩) (.inl rfl) (.bool (!hjb))
                      refine hK.out _ _ (fun _ => hS2) (fun _ => ?_)
                      clear hK K hS
                      have hS := hS2
                      clear hS2
                      try simp only [Act.put, List.setIfInBounds_toArray, List.set_cons_zero, List.set_cons_succ]
                      refine' T_take (i := 31) (v := _) rfl (by kernel_rfl) (by kernel_rfl) (by kernel_rfl) (by kernel_rfl) (fun _ _ _ h => h) (by kernel_rfl) hS ?_ ?_
                      rotate_left 1
                      · intro Wv hW
                        have d2 := hW.cell d2 (by simp; omega)
                        have c1 := hW.cell c1 (by simp; omega)
                        go_simp
                        first | done | with_reducible rfl | omega
                      try simp only [Act.put, List.setIfInBounds_toArray, List.set_cons_zero, List.set_cons_succ]
                      refine T_ready (rs := [32]) (by kernel_rfl) (by simp) ?_
                      refine TReady.cons rfl (fun K hK => ?_) TReady.nil
                      obtain ⟨-, e2⟩ := (HDQd.out.far (i := j) hqp (.bool (!hjb))).cell h1
                      try go_simp
                      refine hK.out _ _ (fun h => absurd h (by decide)) (fun _ => ?_)
                      clear hK K
                      try simp only [Act.put, List.setIfInBounds_toArray, List.set_cons_zero, List.set_cons_succ]
                      refine T_done (by kernel_rfl) ?_ _
                      refine NoPanic.normal ?_
                      try go_simp
                      clear hS
                      go_wp2_with fail
                      go_roundw
                      case rel => exact ⟨j + 1, by omega, by go_num, by rw [← HUP.out (!hjb) (by simp)]; exact (HDPd.out.set j (!hjb)).far hpq _, by rw [← HUQ.out true (by simp)]; exact (HDQd.out.far hqp _).set j true, (HBR2.out.drew.setCell (p := ⟨p, j, none⟩) hnp _).setCell (p := ⟨q, j, none⟩) hnq2 _, (HFOd.out.keptBy (only_setCell (World.grownBy.refl _ _) (.inl rfl) _) hpw).keptBy (only_setCell (World.grownBy.refl _ _) (.inl rfl) _) hqw⟩
                      case measure => simp [intOf]; omega
                  · skip
                    refine' T_skip (i := 9) rfl (by kernel_rfl) (by kernel_rfl) (by kernel_rfl) (by kernel_rfl) (fun _ _ _ h => h) (by kernel_rfl) hS ?_
                    try simp only [Act.put, List.setIfInBounds_toArray, List.set_cons_zero, List.set_cons_succ]
                    refine' T_skip (i := 10) rfl (by kernel_rfl) (by kernel_rfl) (by kernel_rfl) (by kernel_rfl) (fun _ _ _ h => h) (by kernel_rfl) hS ?_
                    try simp only [Act.put, List.setIfInBounds_toArray, List.set_cons_zero, List.set_cons_succ]
                    refine' T_skip (i := 11) rfl (by kernel_rfl) (by kernel_rfl) (by kernel_rfl) (by kernel_rfl) (fun _ _ _ h => h) (by kernel_rfl) hS ?_
                    try simp only [Act.put, List.setIfInBounds_toArray, List.set_cons_zero, List.set_cons_succ]
                    refine' T_skip (i := 12) rfl (by kernel_rfl) (by kernel_rfl) (by kernel_rfl) (by kernel_rfl) (fun _ _ _ h => h) (by kernel_rfl) hS ?_
                    try simp only [Act.put, List.setIfInBounds_toArray, List.set_cons_zero, List.set_cons_succ]
                    refine' T_skip (i := 13) rfl (by kernel_rfl) (by kernel_rfl) (by kernel_rfl) (by kernel_rfl) (fun _ _ _ h => h) (by kernel_rfl) hS ?_
                    try simp only [Act.put, List.setIfInBounds_toArray, List.set_cons_zero, List.set_cons_succ]
                    refine' T_skip (i := 14) rfl (by kernel_rfl) (by kernel_rfl) (by kernel_rfl) (by kernel_rfl) (fun _ _ _ h => h) (by kernel_rfl) hS ?_
                    try simp only [Act.put, List.setIfInBounds_toArray, List.set_cons_zero, List.set_cons_succ]
                    refine' T_skip (i := 15) rfl (by kernel_rfl) (by kernel_rfl) (by kernel_rfl) (by kernel_rfl) (fun _ _ _ h => h) (by kernel_rfl) hS ?_
                    try simp only [Act.put, List.setIfInBounds_toArray, List.set_cons_zero, List.set_cons_succ]
                    refine' T_take (i := 16) (v := _) rfl (by kernel_rfl) (by kernel_rfl) (by kernel_rfl) (by kernel_rfl) (fun _ _ _ h => h) (by kernel_rfl) hS ?_ ?_
                    rotate_left 1
                    · intro Wv hW
                      have d2 := hW.cell d2 (by simp; omega)
                      have c1 := hW.cell c1 (by simp; omega)
                      go_simp
                      first | done | with_reducible rfl | omega
                    try simp only [Act.put, List.setIfInBounds_toArray, List.set_cons_zero, List.set_cons_succ]
                    refine' T_take (i := 21) (v := _) rfl (by kernel_rfl) (by kernel_rfl) (by kernel_rfl) (by kernel_rfl) (fun _ _ _ h => h) (by kernel_rfl) hS ?_ ?_
                    rotate_left 1
                    · intro Wv hW
                      have d2 := hW.cell d2 (by simp; omega)
                      have c1 := hW.cell c1 (by simp; omega)
                      go_simp
                      first | done | with_reducible rfl | omega
                    try simp only [Act.put, List.setIfInBounds_toArray, List.set_cons_zero, List.set_cons_succ]
                    cases sj
                    · skip
                      refine' T_take (i := 22) (v := _) rfl (by kernel_rfl) (by kernel_rfl) (by kernel_rfl) (by kernel_rfl) (fun _ _ _ h => h) (by kernel_rfl) hS ?_ ?_
                      rotate_left 1
                      · intro Wv hW
                        have d2 := hW.cell d2 (by simp; omega)
                        have c1 := hW.cell c1 (by simp; omega)
                        go_simp
                        first | done | with_reducible rfl | omega
                      try simp only [Act.put, List.setIfInBounds_toArray, List.set_cons_zero, List.set_cons_succ]
                      refine' T_take (i := 23) (v := _) rfl (by kernel_rfl) (by kernel_rfl) (by kernel_rfl) (by kernel_rfl) (fun _ _ _ h => h) (by kernel_rfl) hS ?_ ?_
                      rotate_left 1
                      · intro Wv hW
                        have d2 := hW.cell d2 (by simp; omega)
                        have c1 := hW.cell c1 (by simp; omega)
                        go_simp
                        first | done | with_reducible rfl | omega
                      try simp only [Act.put, List.setIfInBounds_toArray, List.set_cons_zero, List.set_cons_succ]
                      refine' T_take (i := 24) (v := _) rfl (by kernel_rfl) (by kernel_rfl) (by kernel_rfl) (by kernel_rfl) (fun _ _ _ h => h) (by kernel_rfl) hS ?_ ?_
                      rotate_left 1
                      · intro Wv hW
                        have d2 := hW.cell d2 (by simp; omega)
                        have c1 := hW.cell c1 (by simp; omega)
                        go_simp
                        first | done | with_reducible rfl | omega
                      try simp only [Act.put, List.setIfInBounds_toArray, List.set_cons_zero, List.set_cons_succ]
                      refine' T_take (i := 25) (v := _) rfl (by kernel_rfl) (by kernel_rfl) (by kernel_rfl) (by kernel_rfl) (fun _ _ _ h => h) (by kernel_rfl) hS ?_ ?_
                      rotate_left 1
                      · intro Wv hW
                        have d2 := hW.cell d2 (by simp; omega)
                        have c1 := hW.cell c1 (by simp; omega)
                        go_simp
                        first | done | with_reducible rfl | omega
                      try simp only [Act.put, List.setIfInBounds_toArray, List.set_cons_zero, List.set_cons_succ]
                      refine' T_take (i := 26) (v := _) rfl (by kernel_rfl) (by kernel_rfl) (by kernel_rfl) (by kernel_rfl) (fun _ _ _ h => h) (by kernel_rfl) hS ?_ ?_
                      rotate_left 1
                      · intro Wv hW
                        have d2 := hW.cell d2 (by simp; omega)
                        have c1 := hW.cell c1 (by simp; omega)
                        go_simp
                        first | done | with_reducible rfl | omega
                      try simp only [Act.put, List.setIfInBounds_toArray, List.set_cons_zero, List.set_cons_succ]
                      refine T_ready (rs := [27]) (by kernel_rfl) (by simp) ?_
                      refine TReady.cons rfl (fun K hK => ?_) TReady.nil
                      try go_simp
                      refine (HHJ.out _ rfl).mono ?_
                      rintro e w6 ⟨rfl, rfl⟩
                      try go_simp
                      refine hK.out _ _ (fun _ => hS) (fun _ => ?_)
                      clear hK K
                      try simp only [Act.put, List.setIfInBounds_toArray, List.set_cons_zero, List.set_cons_succ]
                      refine' T_take (i := 28) (v := _) rfl (by kernel_rfl) (by kernel_rfl) (by kernel_rfl) (by kernel_rfl) (fun _ _ _ h => h) (by kernel_rfl) hS ?_ ?_
                      rotate_left 1
                      · intro Wv hW
                        have d2 := hW.cell d2 (by simp; omega)
                        have c1 := hW.cell c1 (by simp; omega)
                        go_simp
                        first | done | with_reducible rfl | omega
                      try simp only [Act.put, List.setIfInBounds_toArray, List.set_cons_zero, List.set_cons_succ]
                      refine' T_take (i := 29) (v := _) rfl (by kernel_rfl) (by kernel_rfl) (by kernel_rfl) (by kernel_rfl) (fun _ _ _ h => h) (by kernel_rfl) hS ?_ ?_
                      rotate_left 1
                      · intro Wv hW
                        have d2 := hW.cell d2 (by simp; omega)
                        have c1 := hW.cell c1 (by simp; omega)
                        go_simp
                        first | done | with_reducible rfl | omega
                      try simp only [Act.put, List.setIfInBounds_toArray, List.set_cons_zero, List.set_cons_succ]
                      refine T_ready (rs := [30]) (by kernel_rfl) (by simp) ?_
                      refine TReady.cons rfl (fun K hK => ?_) TReady.nil
                      try go_simp
                      have hS2 := only_setCell hS (p := ⟨p, j, none⟩) (.inl rfl) (.bool true)
                      refine hK.out _ _ (fun _ => hS2) (fun _ => ?_)
                      clear hK K hS
                      have hS := hS2
                      clear hS2
                      try simp only [Act.put, List.setIfInBounds_toArray, List.set_cons_zero, List.set_cons_succ]
                      refine' T_take (i := 31) (v := _) rfl (by kernel_rfl) (by kernel_rfl) (by kernel_rfl) (by kernel_rfl) (fun _ _ _ h => h) (by kernel_rfl) hS ?_ ?_
                      rotate_left 1
                      · intro Wv hW
                        have d2 := hW.cell d2 (by simp; omega)
                        have c1 := hW.cell c1 (by simp; omega)
                        go_simp
                        first | done | with_reducible rfl | omega
                      try simp only [Act.put, List.setIfInBounds_toArray, List.set_cons_zero, List.set_cons_succ]
                      refine T_ready (rs := [32]) (by kernel_rfl) (by simp) ?_
                      refine TReady.cons rfl (fun K hK => ?_) TReady.nil
                      obtain ⟨-, e2⟩ := (HDQd.out.far (i := j) hqp (.bool true)).cell h1
                      try go_simp
                      refine hK.out _ _ (fun h => absurd h (by decide)) (fun _ => ?_)
                      clear hK K
                      try simp only [Act.put, List.setIfInBounds_toArray, List.set_cons_zero, List.set_cons_succ]
                      refine T_done (by kernel_rfl) ?_ _
                      refine NoPanic.normal ?_
                      try go_simp
                      clear hS
                      go_wp2_with fail
                      go_roundw
                      case rel => exact ⟨j + 1, by omega, by go_num, by rw [← HUP.out true (by simp)]; exact (HDPd.out.set j true).far hpq _, by rw [← HUQ.out hjb (by simp)]; exact (HDQd.out.far hqp _).set j hjb, (HBR2.out.drew.setCell (p := ⟨p, j, none⟩) hnp _).setCell (p := ⟨q, j, none⟩) hnq2 _, (HFOd.out.keptBy (only_setCell (World.grownBy.refl _ _) (.inl rfl) _) hpw).keptBy (only_setCell (World.grownBy.refl _ _) (.inl rfl) _) hqw⟩
                      case measure => simp [intOf]; omega
                    · skip
                      refine' T_skip (i := 22) rfl (by kernel_rfl) (by kernel_rfl) (by kernel_rfl) (by kernel_rfl) (fun _ _ _ h => h) (by kernel_rfl) hS ?_
                      try simp only [Act.put, List.setIfInBounds_toArray, List.set_cons_zero, List.set_cons_succ]
                      refine' T_skip (i := 23) rfl (by kernel_rfl) (by kernel_rfl) (by kernel_rfl) (by kernel_rfl) (fun _ _ _ h => h) (by kernel_rfl) hS ?_
                      try simp only [Act.put, List.setIfInBounds_toArray, List.set_cons_zero, List.set_cons_succ]
                      refine' T_skip (i := 24) rfl (by kernel_rfl) (by kernel_rfl) (by kernel_rfl) (by kernel_rfl) (fun _ _ _ h => h) (by kernel_rfl) hS ?_
                      try simp only [Act.put, List.setIfInBounds_toArray, List.set_cons_zero, List.set_cons_succ]
                      refine' T_skip (i := 25) rfl (by kernel_rfl) (by kernel_rfl) (by kernel_rfl) (by kernel_rfl) (fun _ _ _ h => h) (by kernel_rfl) hS ?_
                      try simp only [Act.put, List.setIfInBounds_toArray, List.set_cons_zero, List.set_cons_succ]
                      refine' T_skip (i := 26) rfl (by kernel_rfl) (by kernel_rfl) (by kernel_rfl) (by kernel_rfl) (fun _ _ _ h => h) (by kernel_rfl) hS ?_
                      try simp only [Act.put, List.setIfInBounds_toArray, List.set_cons_zero, List.set_cons_succ]
                      refine' T_skip (i := 27) rfl (by kernel_rfl) (by kernel_rfl) (by kernel_rfl) (by kernel_rfl) (fun _ _ _ h => h) (by kernel_rfl) hS ?_
                      try simp only [Act.put, List.setIfInBounds_toArray, List.set_cons_zero, List.set_cons_succ]
                      refine' T_take (i := 28) (v := _) rfl (by kernel_rfl) (by kernel_rfl) (by kernel_rfl) (by kernel_rfl) (fun _ _ _ h => h) (by kernel_rfl) hS ?_ ?_
                      rotate_left 1
                      · intro Wv hW
                        have d2 := hW.cell d2 (by simp; omega)
                        have c1 := hW.cell c1 (by simp; omega)
                        go_simp
                        first | done | with_reducible rfl | omega
                      try simp only [Act.put, List.setIfInBounds_toArray, List.set_cons_zero, List.set_cons_succ]
                      refine' T_take (i := 29) (v := _) rfl (by kernel_rfl) (by kernel_rfl) (by kernel_rfl) (by kernel_rfl) (fun _ _ _ h => h) (by kernel_rfl) hS ?_ ?_
                      rotate_left 1
                      · intro Wv hW
                        have d2 := hW.cell d2 (by simp; omega)
                        have c1 := hW.cell c1 (by simp; omega)
                        go_simp
                        first | done | with_reducible rfl | omega
                      try simp only [Act.put, List.setIfInBounds_toArray, List.set_cons_zero, List.set_cons_succ]
                      refine T_ready (rs := [30]) (by kernel_rfl) (by simp) ?_
                      refine TReady.cons rfl (fun K hK => ?_) TReady.nil
                      try go_simp
                      have hS2 := only_setCell hS (p := ⟨p, j, none⟩) (.inl rfl) (.bool true)
                      refine hK.out _ _ (fun _ => hS2) (fun _ => ?_)
                      clear hK K hS
                      have hS := hS2
                      clear hS2
                      try simp only [Act.put, List.setIfInBounds_toArray, List.set_cons_zero, List.set_cons_succ]
                      refine' T_take (i := 31) (v := _) rfl (by kernel_rfl) (by kernel_rfl) (by kernel_rfl) (by kernel_rfl) (fun _ _ _ h => h) (by kernel_rfl) hS ?_ ?_
                      rotate_left 1
                      · intro Wv hW
                        have d2 := hW.cell d2 (by simp; omega)
                        have c1 := hW.cell c1 (by simp; omega)
                        go_simp
                        first | done | with_reducible rfl | omega
                      try simp only [Act.put, List.setIfInBounds_toArray, List.set_cons_zero, List.set_cons_succ]
                      refine T_ready (rs := [32]) (by kernel_rfl) (by simp) ?_
                      refine TReady.cons rfl (fun K hK => ?_) TReady.nil
                      obtain ⟨-, e2⟩ := (HDQd.out.far (i := j) hqp (.bool true)).cell h1
                      try go_simp
                      refine hK.out _ _ (fun h => absurd h (by decide)) (fun _ => ?_)
                      clear hK K
                      try simp only [Act.put, List.setIfInBounds_toArray, List.set_cons_zero, List.set_cons_succ]
                      refine T_done (by kernel_rfl) ?_ _
                      refine NoPanic.normal ?_
                      try go_simp
                      clear hS
                      go_wp2_with fail
                      go_roundw
                      case rel => exact ⟨j + 1, by omega, by go_num, by rw [← HUP.out true (by simp)]; exact (HDPd.out.set j true).far hpq _, by rw [← HUQ.out true (by simp)]; exact (HDQd.out.far hqp _).set j true, (HBR2.out.drew.setCell (p := ⟨p, j, none⟩) hnp _).setCell (p := ⟨q, j, none⟩) hnq2 _, (HFOd.out.keptBy (only_setCell (World.grownBy.refl _ _) (.inl rfl) _) hpw).keptBy (only_setCell (World.grownBy.refl _ _) (.inl rfl) _) hqw⟩
                      case measure => simp [intOf]; omega
                · obtain rfl : j = xs.length := by omega
                  have hjl : ¬ (xs.length : Int) < (xs.length : Int) := by omega
                  have HDP3 := Lib.hid (HDP2.out.congr HFY.out)
                  have HDQ3 := Lib.hid (HDQ2.out.congr HSY.out)
                  clear HHI HLB HHK HCK hfl
                  go_wp2_with fail
                  go_roundw
                  case rel => exact ⟨k + 1, by omega, by go_num, by rw [HLS.out], by rw [HMS.out], HDP3.out, HDQ3.out, HBR2.out⟩
                  case measure => simp [intOf]; omega
      · obtain rfl : k = m := by omega
        have hki : ¬ (k : Int) < (k : Int) := by omega
        go_wp2_with fail
        clear HHI HLB hfl HCan hsh
        generalize wr = wo at *
        go_loopw [20] (fun vi wr => ∃ i : Nat, i ≤ xs.length ∧ vi = .int .i64 i ∧ Below wo.heap.size wo wr) (fun vi _ => xs.length - (intOf vi).toNat)
        case atStart => exact ⟨0, by omega, rfl, Below.refl _ _⟩
        case round =>
          obtain ⟨i, hi, rfl, hbr⟩ := hrel
          by_cases h1 : i < xs.length
          · have hil : (i : Int) < (xs.length : Int) := by omega
            obtain ⟨q1, q2⟩ := HP5.out i h1
            obtain ⟨b1, o1, hA1, hlt1, c1⟩ := (HX.out.step hbr).at_ h1
            obtain ⟨d1, -⟩ := (HDP.out.step hbr).cell h1
            obtain ⟨d2, -⟩ := (HDQ.out.step hbr).cell h1
            rw [q1] at d1
            rw [q2] at d2
            have HHM := Lib.hid (fun (W : World) h => (show Calls Try.prog 35 #[.slice mA ml.length cm, .int .i64 (ix xs i)] W (Same W (.bool (hasB ml (ix xs i)))) from has35_c (B := W.heap.size) mA ml cm (ix xs i) W h hml2))
            have HHS := Lib.hid (fun (W : World) h => (show Calls Try.prog 35 #[.slice sA2 sl.length cs2, .int .i64 (ix xs i)] W (Same W (.bool (hasB sl (ix xs i)))) from has35_c (B := W.heap.size) sA2 sl cs2 (ix xs i) W h hsl2))
            have HM := Lib.hid (Hhml.out.step hbr)
            have HS := Lib.hid (Hhsl.out.step hbr)
            have HBq := Lib.hid hbr
            clear q1 q2 hbr
            generalize hasB ml (ix xs i) = bm at *
            generalize hasB sl (ix xs i) = bs at *
            generalize ix xs i = x at *
            subst hA1
            have hbm : (bm != bm) = false := by simp
            have hbs : (!bs == bs) = false := by cases bs <;> rfl
            clear HL HX HX9 HBa Hhsl Hhml k0 k1 k2 k3 k4 n0 n1 HP5 HDP HDQ HB9 HB0 hlen hxl hbl hl16 hx15 hb8 hc hcx hcb hsl2 hml2
            go_upto_region 27 with fail
            refine wp_region_noPanic ?_
            have hS : (fun W' : World => Below wr.heap.size wr W') wr.drew := (Below.refl _ _).drew
            refine wp_region_any (by kernel_rfl) (wpAny_of_T (S := fun W' : World => Below wr.heap.size wr W') (m := 24) _ _ _ _ ?_)
            refine' T_take (i := 0) (v := _) rfl (by kernel_rfl) (by kernel_rfl) (by kernel_rfl) (by kernel_rfl) (fun _ _ _ h => h) (by kernel_rfl) hS ?_ ?_
            rotate_left 1
            · intro Wv hW
              replace d1 := cell_of_ans hW d1
              replace d2 := cell_of_ans hW d2
              replace c1 := cell_of_ans hW c1
              go_simp
              first | done | with_reducible rfl | omega
            try simp only [Act.put, List.setIfInBounds_toArray, List.set_cons_zero, List.set_cons_succ]
            refine' T_take (i := 1) (v := _) rfl (by kernel_rfl) (by kernel_rfl) (by kernel_rfl) (by kernel_rfl) (fun _ _ _ h => h) (by kernel_rfl) hS ?_ ?_
            rotate_left 1
            · intro Wv hW
              replace d1 := cell_of_ans hW d1
              replace d2 := cell_of_ans hW d2
              replace c1 := cell_of_ans hW c1
              go_simp
              first | done | with_reducible rfl | omega
            try simp only [Act.put, List.setIfInBounds_toArray, List.set_cons_zero, List.set_cons_succ]
            refine' T_take (i := 2) (v := _) rfl (by kernel_rfl) (by kernel_rfl) (by kernel_rfl) (by kernel_rfl) (fun _ _ _ h => h) (by kernel_rfl) hS ?_ ?_
            rotate_left 1
            · intro Wv hW
              replace d1 := cell_of_ans hW d1
              replace d2 := cell_of_ans hW d2
              replace c1 := cell_of_ans hW c1
              go_simp
              first | done | with_reducible rfl | omega
            try simp only [Act.put, List.setIfInBounds_toArray, List.set_cons_zero, List.set_cons_succ]
            refine' T_take (i := 3) (v := _) rfl (by kernel_rfl) (by kernel_rfl) (by kernel_rfl) (by kernel_rfl) (fun _ _ _ h => h) (by kernel_rfl) hS ?_ ?_
            rotate_left 1
            · intro Wv hW
              replace d1 := cell_of_ans hW d1
              replace d2 := cell_of_ans hW d2
              replace c1 := cell_of_ans hW c1
              go_simp
              first | done | with_reducible rfl | omega
            try simp only [Act.put, List.setIfInBounds_toArray, List.set_cons_zero, List.set_cons_succ]
            refine' T_take (i := 4) (v := _) rfl (by kernel_rfl) (by kernel_rfl) (by kernel_rfl) (by kernel_rfl) (fun _ _ _ h => h) (by kernel_rfl) hS ?_ ?_
            rotate_left 1
            · intro Wv hW
              replace d1 := cell_of_ans hW d1
              replace d2 := cell_of_ans hW d2
              replace c1 := cell_of_ans hW c1
              go_simp
              first | done | with_reducible rfl | omega
            try simp only [Act.put, List.setIfInBounds_toArray, List.set_cons_zero, List.set_cons_succ]
            refine' T_take (i := 5) (v := _) rfl (by kernel_rfl) (by kernel_rfl) (by kernel_rfl) (by kernel_rfl) (fun _ _ _ h => h) (by kernel_rfl) hS ?_ ?_
            rotate_left 1
            · intro Wv hW
              replace d1 := cell_of_ans hW d1
              replace d2 := cell_of_ans hW d2
              replace c1 := cell_of_ans hW c1
              go_simp
              first | done | with_reducible rfl | omega
            try simp only [Act.put, List.setIfInBounds_toArray, List.set_cons_zero, List.set_cons_succ]
            refine' T_take (i := 6) (v := _) rfl (by kernel_rfl) (by kernel_rfl) (by kernel_rfl) (by kernel_rfl) (fun _ _ _ h => h) (by kernel_rfl) hS ?_ ?_
            rotate_left 1
            · intro Wv hW
              replace d1 := cell_of_ans hW d1
              replace d2 := cell_of_ans hW d2
              replace c1 := cell_of_ans hW c1
              go_simp
              first | done | with_reducible rfl | omega
            try simp only [Act.put, List.setIfInBounds_toArray, List.set_cons_zero, List.set_cons_succ]
            refine' T_take (i := 7) (v := _) rfl (by kernel_rfl) (by kernel_rfl) (by kernel_rfl) (by kernel_rfl) (fun _ _ _ h => h) (by kernel_rfl) hS ?_ ?_
            rotate_left 1
            · intro Wv hW
              replace d1 := cell_of_ans hW d1
              replace d2 := cell_of_ans hW d2
              replace c1 := cell_of_ans hW c1
              go_simp
              first | done | with_reducible rfl | omega
            try simp only [Act.put, List.setIfInBounds_toArray, List.set_cons_zero, List.set_cons_succ]
            refine' T_take (i := 8) (v := _) rfl (by kernel_rfl) (by kernel_rfl) (by kernel_rfl) (by kernel_rfl) (fun _ _ _ h => h) (by kernel_rfl) hS ?_ ?_
            rotate_left 1
            · intro Wv hW
              replace d1 := cell_of_ans hW d1
              replace d2 := cell_of_ans hW d2
              replace c1 := cell_of_ans hW c1
              go_simp
              first | done | with_reducible rfl | omega
            try simp only [Act.put, List.setIfInBounds_toArray, List.set_cons_zero, List.set_cons_succ]
            refine T_ready (rs := [9]) (by kernel_rfl) (by simp) ?_
            refine TReady.cons rfl (fun K hK => ?_) TReady.nil
            try go_simp
            refine (HHM.out _ (HM.out.step hS)).mono ?_
            rintro e w6 ⟨rfl, rfl⟩
            try go_simp
            refine hK.out _ _ (fun _ => hS) (fun _ => ?_)
            clear hK K
            try simp only [Act.put, List.setIfInBounds_toArray, List.set_cons_zero, List.set_cons_succ]
            refine' T_take (i := 10) (v := .bool false) rfl (by kernel_rfl) (by kernel_rfl) (by kernel_rfl) (by kernel_rfl) (fun _ _ _ h => h) (by kernel_rfl) hS ?_ ?_
            skip
            · intro Wv hW
              replace d1 := cell_of_ans hW d1
              replace d2 := cell_of_ans hW d2
              replace c1 := cell_of_ans hW c1
              go_simp
              first | done | with_reducible rfl | omega
            try simp only [Act.put, List.setIfInBounds_toArray, List.set_cons_zero, List.set_cons_succ]
            refine' T_take (i := 11) (v := .bool false) rfl (by kernel_rfl) (by kernel_rfl) (by kernel_rfl) (by kernel_rfl) (fun _ _ _ h => h) (by kernel_rfl) hS ?_ ?_
            skip
            · intro Wv hW
              replace d1 := cell_of_ans hW d1
              replace d2 := cell_of_ans hW d2
              replace c1 := cell_of_ans hW c1
              go_simp
              first | done | with_reducible rfl | omega
            try simp only [Act.put, List.setIfInBounds_toArray, List.set_cons_zero, List.set_cons_succ]
            refine' T_take (i := 12) (v := _) rfl (by kernel_rfl) (by kernel_rfl) (by kernel_rfl) (by kernel_rfl) (fun _ _ _ h => h) (by kernel_rfl) hS ?_ ?_
            rotate_left 1
            · intro Wv hW
              replace d1 := cell_of_ans hW d1
              replace d2 := cell_of_ans hW d2
              replace c1 := cell_of_ans hW c1
              go_simp
              first | done | with_reducible rfl | omega
            try simp only [Act.put, List.setIfInBounds_toArray, List.set_cons_zero, List.set_cons_succ]
            refine' T_take (i := 13) (v := _) rfl (by kernel_rfl) (by kernel_rfl) (by kernel_rfl) (by kernel_rfl) (fun _ _ _ h => h) (by kernel_rfl) hS ?_ ?_
            rotate_left 1
            · intro Wv hW
              replace d1 := cell_of_ans hW d1
              replace d2 := cell_of_ans hW d2
              replace c1 := cell_of_ans hW c1
              go_simp
              first | done | with_reducible rfl | omega
            try simp only [Act.put, List.setIfInBounds_toArray, List.set_cons_zero, List.set_cons_succ]
            refine' T_take (i := 14) (v := _) rfl (by kernel_rfl) (by kernel_rfl) (by kernel_rfl) (by kernel_rfl) (fun _ _ _ h => h) (by kernel_rfl) hS ?_ ?_
            rotate_left 1
            · intro Wv hW
              replace d1 := cell_of_ans hW d1
              replace d2 := cell_of_ans hW d2
              replace c1 := cell_of_ans hW c1
              go_simp
              first | done | with_reducible rfl | omega
            try simp only [Act.put, List.setIfInBounds_toArray, List.set_cons_zero, List.set_cons_succ]
            refine' T_take (i := 15) (v := _) rfl (by kernel_rfl) (by kernel_rfl) (by kernel_rfl) (by kernel_rfl) (fun _ _ _ h => h) (by kernel_rfl) hS ?_ ?_
            rotate_left 1
            · intro Wv hW
              replace d1 := cell_of_ans hW d1
              replace d2 := cell_of_ans hW d2
              replace c1 := cell_of_ans hW c1
              go_simp
              first | done | with_reducible rfl | omega
            try simp only [Act.put, List.setIfInBounds_toArray, List.set_cons_zero, List.set_cons_succ]
            refine' T_take (i := 16) (v := _) rfl (by kernel_rfl) (by kernel_rfl) (by kernel_rfl) (by kernel_rfl) (fun _ _ _ h => h) (by kernel_rfl) hS ?_ ?_
            rotate_left 1
            · intro Wv hW
              replace d1 := cell_of_ans hW d1
              replace d2 := cell_of_ans hW d2
              replace c1 := cell_of_ans hW c1
              go_simp
              first | done | with_reducible rfl | omega
            try simp only [Act.put, List.setIfInBounds_toArray, List.set_cons_zero, List.set_cons_succ]
            refine' T_take (i := 17) (v := _) rfl (by kernel_rfl) (by kernel_rfl) (by kernel_rfl) (by kernel_rfl) (fun _ _ _ h => h) (by kernel_rfl) hS ?_ ?_
            rotate_left 1
            · intro Wv hW
              replace d1 := cell_of_ans hW d1
              replace d2 := cell_of_ans hW d2
              replace c1 := cell_of_ans hW c1
              go_simp
              first | done | with_reducible rfl | omega
            try simp only [Act.put, List.setIfInBounds_toArray, List.set_cons_zero, List.set_cons_succ]
            refine' T_take (i := 18) (v := _) rfl (by kernel_rfl) (by kernel_rfl) (by kernel_rfl) (by kernel_rfl) (fun _ _ _ h => h) (by kernel_rfl) hS ?_ ?_
            rotate_left 1
            · intro Wv hW
              replace d1 := cell_of_ans hW d1
              replace d2 := cell_of_ans hW d2
              replace c1 := cell_of_ans hW c1
              go_simp
              first | done | with_reducible rfl | omega
            try simp only [Act.put, List.setIfInBounds_toArray, List.set_cons_zero, List.set_cons_succ]
            refine' T_take (i := 19) (v := _) rfl (by kernel_rfl) (by kernel_rfl) (by kernel_rfl) (by kernel_rfl) (fun _ _ _ h => h) (by kernel_rfl) hS ?_ ?_
            rotate_left 1
            · intro Wv hW
              replace d1 := cell_of_ans hW d1
              replace d2 := cell_of_ans hW d2
              replace c1 := cell_of_ans hW c1
              go_simp
              first | done | with_reducible rfl | omega
            try simp only [Act.put, List.setIfInBounds_toArray, List.set_cons_zero, List.set_cons_succ]
            refine' T_take (i := 20) (v := _) rfl (by kernel_rfl) (by kernel_rfl) (by kernel_rfl) (by kernel_rfl) (fun _ _ _ h => h) (by kernel_rfl) hS ?_ ?_
            rotate_left 1
            · intro Wv hW
              replace d1 := cell_of_ans hW d1
              replace d2 := cell_of_ans hW d2
              replace c1 := cell_of_ans hW c1
              go_simp
              first | done | with_reducible rfl | omega
            try simp only [Act.put, List.setIfInBounds_toArray, List.set_cons_zero, List.set_cons_succ]
            refine T_ready (rs := [21]) (by kernel_rfl) (by simp) ?_
            refine TReady.cons rfl (fun K hK => ?_) TReady.nil
            try go_simp
            refine (HHS.out _ (HS.out.step hS)).mono ?_
            rintro e w6 ⟨rfl, rfl⟩
            try go_simp
            refine hK.out _ _ (fun _ => hS) (fun _ => ?_)
            clear hK K
            try simp only [Act.put, List.setIfInBounds_toArray, List.set_cons_zero, List.set_cons_succ]
            refine' T_take (i := 22) (v := .bool false) rfl (by kernel_rfl) (by kernel_rfl) (by kernel_rfl) (by kernel_rfl) (fun _ _ _ h => h) (by kernel_rfl) hS ?_ ?_
            skip
            · intro Wv hW
              replace d1 := cell_of_ans hW d1
              replace d2 := cell_of_ans hW d2
              replace c1 := cell_of_ans hW c1
              go_simp
              first | done | with_reducible rfl | omega
            try simp only [Act.put, List.setIfInBounds_toArray, List.set_cons_zero, List.set_cons_succ]
            refine' T_take (i := 23) (v := _) rfl (by kernel_rfl) (by kernel_rfl) (by kernel_rfl) (by kernel_rfl) (fun _ _ _ h => h) (by kernel_rfl) hS ?_ ?_
            rotate_left 1
            · intro Wv hW
              replace d1 := cell_of_ans hW d1
              replace d2 := cell_of_ans hW d2
              replace c1 := cell_of_ans hW c1
              go_simp
              first | done | with_reducible rfl | omega
            try simp only [Act.put, List.setIfInBounds_toArray, List.set_cons_zero, List.set_cons_succ]
            refine T_done (by kernel_rfl) ?_ _
            refine NoPanic.normal ?_
            try go_simp
            go_wp2_with fail
            go_roundw
            case rel => exact ⟨i + 1, by omega, by go_num, HBq.out.trans (hS.mono HBq.out.size)⟩
            case measure => simp [intOf]; omega
          · obtain rfl : i = xs.length := by omega
            have hil : ¬ (xs.length : Int) < (xs.length : Int) := by omega
            have e44 := eq44 (lsF cc ll k) (msF cc ll k) (lsF cc ll k) (msF cc ll k)
            replace n0 := cell_of_ans hbr n0
            replace n1 := cell_of_ans hbr n1
            have HBF : Hid (Below nb x9 wr) := HBR.out.trans (hbr.mono hnr)
            have hnr2 : nb ≤ wr.heap.size := Nat.le_trans hnr hbr.size
            clear hbr
            generalize lsF cc ll k = la at *
            generalize msF cc ll k = lm at *
            go_wp2_with fail
            refine (awake16_c _).mono ?_
            rintro e wy ⟨rfl, hb⟩
            go_wp2_with fail
            go_ret
            exact ⟨rfl, HB0.out.trans ((HB9.out.trans (HBF.out.trans (hb.mono hnr2))).mono (Nat.le_of_lt lt0))⟩
  · try go_simp
    refine hK.out _ _ (fun _ => hS.alloc hS.size _) (fun hS2 => ?_)
    replace hS := hS2 (by decide)
    clear hS2 hK K
    try simp only [Act.put, List.setIfInBounds_toArray, List.set_cons_zero, List.set_cons_succ]
    refine T_ready (rs := [2]) (by kernel_rfl) (by simp) ?_
    refine TReady.cons rfl (fun K hK => ?_) TReady.nil
    try go_simp
    refine hK.out _ _ (fun _ => hS.alloc hS.size _) (fun hS2 => ?_)
    replace hS := hS2 (by decide)
    clear hS2 hK K
    try simp only [Act.put, List.setIfInBounds_toArray, List.set_cons_zero, List.set_cons_succ]
    refine' T_take (i := 6) (v := _) rfl (by kernel_rfl) (by kernel_rfl) (by kernel_rfl) (by kernel_rfl) (fun _ _ _ h => h) (by kernel_rfl) hS ?_ ?_
    rotate_left 1
    · intro Wv hW
      go_simp
      first | done | with_reducible rfl | omega
    try simp only [Act.put, List.setIfInBounds_toArray, List.set_cons_zero, List.set_cons_succ]
    refine' T_take (i := 7) (v := _) rfl (by kernel_rfl) (by kernel_rfl) (by kernel_rfl) (by kernel_rfl) (fun _ _ _ h => h) (by kernel_rfl) hS ?_ ?_
    rotate_left 1
    · intro Wv hW
      go_simp
      first | done | with_reducible rfl | omega
    try simp only [Act.put, List.setIfInBounds_toArray, List.set_cons_zero, List.set_cons_succ]
    refine T_done (by kernel_rfl) ?_ _
    refine NoPanic.normal ?_
    try go_simp
    clear hmk
    have hb : Below w16.heap.size w16 ((w16.alloc (.cells (madeCells #[.bool false] xs.length) 4)).alloc (.cells (madeCells #[.bool false] xs.length) 4)).drew := (((Below.refl _ _).alloc (Nat.le_refl _) _).alloc (by simp) _).drew
    clear hS
    have HD1 : Hid (Dn ((w16.alloc (.cells (madeCells #[.bool false] xs.length) 4)).alloc (.cells (madeCells #[.bool false] xs.length) 4)).drew (w16.heap.size) (fun _ => false) xs.length) := ((dn_new w16 xs.length).step ((Below.refl _ _).alloc (Nat.le_refl _) _)).step (Below.refl _ _).drew
    have HD2 : Hid (Dn ((w16.alloc (.cells (madeCells #[.bool false] xs.length) 4)).alloc (.cells (madeCells #[.bool false] xs.length) 4)).drew (w16.heap.size + 1) (fun _ => false) xs.length) := by have h := (dn_new (w16.alloc (.cells (madeCells #[.bool false] xs.length) 4)) xs.length).step (Below.refl _ _).drew; rwa [show (w16.alloc (.cells (madeCells #[.bool false] xs.length) 4)).heap.size = w16.heap.size + 1 by simp] at h
    obtain ⟨nb, hnb⟩ : ∃ nb, nb = w16.heap.size := ⟨_, rfl⟩
    replace HL := Lib.hid (HL.out.below hb)
    replace HX := Lib.hid (HX.out.below hb)
    replace HBa := Lib.hid (HBa.out.below hb)
    replace k0 := cell_of_ans hb k0
    replace k1 := cell_of_ans hb k1
    replace k2 := cell_of_ans hb k2
    replace k3 := cell_of_ans hb k3
    replace k4 := cell_of_ans hb k4
    replace Hhsl := Lib.hid (Hhsl.out.below hb)
    replace Hhml := Lib.hid (Hhml.out.below hb)
    replace n0 := cell_of_ans hb n0
    replace n1 := cell_of_ans hb n1
    have HB9 := Lib.hid hb
    clear hb
    rw [← hnb] at HL HX HBa Hhsl Hhml HB9
    generalize ((w16.alloc (.cells (madeCells #[.bool false] xs.length) 4)).alloc (.cells (madeCells #[.bool false] xs.length) 4)).drew = x9 at *
    generalize hp : w16.heap.size + 1 = p at *
    generalize hq : w16.heap.size = q at *
    have hpq : p ≠ q := by omega
    have hqp : q ≠ p := by omega
    have hnp : nb ≤ p := by omega
    have hnq2 : nb ≤ q := by omega
    have HDP : Hid (Dn x9 p (faF cc hh 0) xs.length) := HD2
    have HDQ : Hid (Dn x9 q (stF cc hh 0) xs.length) := HD1
    have HX9 := HX
    have HB0 := HB
    clear HB
    have lt0 : w.heap.size < nb := by have h := ltk0; omega
    have ltn : nq < nb := by omega
    clear HD1 HD2 hp hq hnb
    go_wp2_with fail
    go_loopw [12, 13, 16, 17, 18, 19] (fun va vb vn vo vi vj wr => ∃ k : Nat, k ≤ m ∧ vn = .int .i64 k ∧ va = .int .i64 (lsF cc ll k) ∧ vb = .int .i64 (msF cc ll k) ∧ Dn wr p (faF cc hh k) xs.length ∧ Dn wr q (stF cc hh k) xs.length ∧ Below nb x9 wr) (fun _ _ vn _ _ _ _ => m - (intOf vn).toNat)
    case atStart => exact ⟨0, by omega, rfl, rfl, rfl, HDP.out, HDQ.out, Below.refl _ _⟩
    case round =>
      clear HDP HDQ
      obtain ⟨k, hk, rfl, rfl, rfl, hdp, hdq, hbr⟩ := hrel
      have HDP := Lib.hid hdp
      have HDQ := Lib.hid hdq
      have HBR := Lib.hid hbr
      have hnr : nb ≤ wr.heap.size := by have := hdp.lt; omega
      clear hdp hdq hbr
      replace k0 := (HBR.out.cell (p := ⟨w.heap.size, 0, none⟩) lt0).trans k0
      replace k1 := (HBR.out.cell (p := ⟨w.heap.size, 1, none⟩) lt0).trans k1
      replace k2 := (HBR.out.cell (p := ⟨w.heap.size, 2, none⟩) lt0).trans k2
      replace k3 := (HBR.out.cell (p := ⟨w.heap.size, 3, none⟩) lt0).trans k3
      replace k4 := (HBR.out.cell (p := ⟨w.heap.size, 4, none⟩) lt0).trans k4
      replace n0 := (HBR.out.cell (p := ⟨nq, 0, none⟩) ltn).trans n0
      replace n1 := (HBR.out.cell (p := ⟨nq, 1, none⟩) ltn).trans n1
      replace HL := Lib.hid ((HL.out.below HBR.out).more hnr)
      replace HX := Lib.hid ((HX.out.below HBR.out).more hnr)
      replace HBa := Lib.hid ((HBa.out.below HBR.out).more hnr)
      replace Hhsl := Lib.hid ((Hhsl.out.below HBR.out).more hnr)
      replace Hhml := Lib.hid ((Hhml.out.below HBR.out).more hnr)
      by_cases hk1 : k < m
      · have hki : (k : Int) < (m : Int) := by omega
        go_wp2_with fail
        generalize wr = wt at *
        go_loopw [17, 18] (fun vo vi wr => ∃ j : Nat, j ≤ xs.length ∧ vi = .int .i64 j ∧ OwnI wt.heap.size wr vo (fewT xs k j) ∧ Below wt.heap.size wt wr) (fun _ vi _ => xs.length - (intOf vi).toNat)
        case atStart => exact ⟨0, by omega, rfl, OwnI.nil _ _, Below.refl _ _⟩
        case round =>
          obtain ⟨j, hj, rfl, ho, hb⟩ := hrel
          have HO := Lib.hid ho
          have HBr := Lib.hid hb
          obtain ⟨Ao, co, rfl⟩ := ho.form
          clear ho
          by_cases h1 : j < xs.length
          · have hwr : wt.heap.size ≤ wr.heap.size := hb.size
            have hk15 : j < 15 := by omega
            have hbt := bit_test k j
            have hfk := fewT_len xs k j
            have hb16 : (k : Int) / 2 ^ j ≤ 64 := by
              have : (k : Int) / 2 ^ j = ((k / 2 ^ j : Nat) : Int) := by simp
              rw [this]
              have := Nat.div_le_self k (2 ^ j)
              omega
            have HT : Hid (fewT xs k (j + 1) = if k.testBit j then fewT xs k j ++ [ix xs j] else fewT xs k j) := rfl
            have HX2 := Lib.hid (HX.out.below hb)
            obtain ⟨b5, off, rfl, _, hcell⟩ := HX2.out.at_ h1
            clear hb
            generalize fewT xs k j = os at *
            generalize ix xs j = x at *
            cases e1 : k.testBit j
            · rw [e1] at HT hbt
              go_wp2_with fail
              go_roundw
              case rel => exact ⟨j + 1, by omega, by go_num, by rw [HT.out]; exact HO.out, HBr.out⟩
              case measure => simp [intOf]; omega
            · rw [e1] at HT hbt
              go_wp2_with (at_builtin; refine wpList_app_int (.tmp 97) (.tmp 102) rfl rfl wt.heap.size _ _ os x rfl rfl HO (by omega) hwr ?_; intro A2 c2 wn HO2 HB2)
              go_roundw
              case rel => exact ⟨j + 1, by omega, by go_num, by rw [HT.out]; exact HO2.out, HBr.out.trans HB2.out⟩
              case measure => simp [intOf]; omega
          · obtain rfl : j = xs.length := by omega
            have ltp0 : p < wt.heap.size := HDP.out.lt
            have ltq0 : q < wt.heap.size := HDQ.out.lt
            clear h1
            replace k0 := cell_of_ans hb k0
            replace k1 := cell_of_ans hb k1
            replace k2 := cell_of_ans hb k2
            replace k3 := cell_of_ans hb k3
            replace k4 := cell_of_ans hb k4
            replace n0 := cell_of_ans hb n0
            replace n1 := cell_of_ans hb n1
            replace HL := Lib.hid (HL.out.step hb)
            replace HX := Lib.hid (HX.out.step hb)
            replace HBa := Lib.hid (HBa.out.step hb)
            replace Hhsl := Lib.hid (Hhsl.out.step hb)
            replace Hhml := Lib.hid (Hhml.out.step hb)
            replace HDP := Lib.hid (HDP.out.step hb)
            replace HDQ := Lib.hid (HDQ.out.step hb)
            have HBW := Lib.hid hb
            clear hb HBr
            skip
            have hfk := hfl k xs.length
            have HLK := Lib.hid (HLB.out k)
            have HHK : Hid (∀ i b, hh k i = b → hasB (fewT xs k xs.length) (ix xs i) = b) := HHI.out k
            have HCK := Lib.hid (HCan.out k)
            generalize fewT xs k xs.length = fw at *
            obtain ⟨hcf1, hcf2, hff⟩ := isInts_parts HO.out.isInts
            have HF := Lib.hid hff
            have HFO := HO
            clear hff HO
            have hfl2 : fw.length ≤ 1000000 := by omega
            have HB := HBW
            clear HBW
            go_wp2_with fail
            refine (rack18_c r A c _ HL.out hc hlen).mono ?_
            rintro e z1 ⟨A7, c7, rfl, ⟨hl7, hc7⟩, hb⟩
            replace k0 := cell_of_ans hb k0
            replace k1 := cell_of_ans hb k1
            replace k2 := cell_of_ans hb k2
            replace k3 := cell_of_ans hb k3
            replace k4 := cell_of_ans hb k4
            replace n0 := cell_of_ans hb n0
            replace n1 := cell_of_ans hb n1
            replace HL := Lib.hid (HL.out.step hb)
            replace HX := Lib.hid (HX.out.step hb)
            replace HBa := Lib.hid (HBa.out.step hb)
            replace Hhsl := Lib.hid (Hhsl.out.step hb)
            replace Hhml := Lib.hid (Hhml.out.step hb)
            replace HDP := Lib.hid (HDP.out.step hb)
            replace HDQ := Lib.hid (HDQ.out.step hb)
            replace HF := Lib.hid (HF.out.step hb)
            replace HFO := Lib.hid (HFO.out.step hb)
            replace HB := Lib.hid (HB.out.trans (hb.mono HB.out.size))
            clear hb
            have Hhl7 := Lib.hid hl7
            clear hl7
            go_wp2_with fail
            refine (list_c xA xs cx _ HX.out hxl).mono ?_
            rintro e z2 ⟨B7, d7, rfl, ho7, hb⟩
            obtain ⟨hd7, he7, hi7⟩ := isInts_parts (ownsRow_isInts ho7)
            clear ho7
            replace k0 := cell_of_ans hb k0
            replace k1 := cell_of_ans hb k1
            replace k2 := cell_of_ans hb k2
            replace k3 := cell_of_ans hb k3
            replace k4 := cell_of_ans hb k4
            replace n0 := cell_of_ans hb n0
            replace n1 := cell_of_ans hb n1
            replace HL := Lib.hid (HL.out.step hb)
            replace HX := Lib.hid (HX.out.step hb)
            replace HBa := Lib.hid (HBa.out.step hb)
            replace Hhsl := Lib.hid (Hhsl.out.step hb)
            replace Hhml := Lib.hid (Hhml.out.step hb)
            replace HDP := Lib.hid (HDP.out.step hb)
            replace HDQ := Lib.hid (HDQ.out.step hb)
            replace HF := Lib.hid (HF.out.step hb)
            replace HFO := Lib.hid (HFO.out.step hb)
            replace Hhl7 := Lib.hid (Hhl7.out.step hb)
            replace HB := Lib.hid (HB.out.trans (hb.mono HB.out.size))
            clear hb
            have Hhi7 := Lib.hid hi7
            clear hi7
            go_wp2_with fail
            refine (ball20_c Ab cb ball _ HBa.out hcb hbl).mono ?_
            rintro e z3 ⟨G7, g7, rfl, ⟨hg7, hh7, hj7⟩, hb⟩
            replace k0 := cell_of_ans hb k0
            replace k1 := cell_of_ans hb k1
            replace k2 := cell_of_ans hb k2
            replace k3 := cell_of_ans hb k3
            replace k4 := cell_of_ans hb k4
            replace n0 := cell_of_ans hb n0
            replace n1 := cell_of_ans hb n1
            replace HL := Lib.hid (HL.out.step hb)
            replace HX := Lib.hid (HX.out.step hb)
            replace HBa := Lib.hid (HBa.out.step hb)
            replace Hhsl := Lib.hid (Hhsl.out.step hb)
            replace Hhml := Lib.hid (Hhml.out.step hb)
            replace HDP := Lib.hid (HDP.out.step hb)
            replace HDQ := Lib.hid (HDQ.out.step hb)
            replace HF := Lib.hid (HF.out.step hb)
            replace HFO := Lib.hid (HFO.out.step hb)
            replace Hhl7 := Lib.hid (Hhl7.out.step hb)
            replace Hhi7 := Lib.hid (Hhi7.out.step hb)
            replace HB := Lib.hid (HB.out.trans (hb.mono HB.out.size))
            clear hb
            have Hhg7 := Lib.hid hg7
            clear hg7
            go_wp2_with fail
            refine (list_c Ao fw co _ HF.out hfl2).mono ?_
            rintro e z4 ⟨B8, d8, rfl, ho8, hb⟩
            obtain ⟨hd8, he8, hi8⟩ := isInts_parts (ownsRow_isInts ho8)
            clear ho8
            replace k0 := cell_of_ans hb k0
            replace k1 := cell_of_ans hb k1
            replace k2 := cell_of_ans hb k2
            replace k3 := cell_of_ans hb k3
            replace k4 := cell_of_ans hb k4
            replace n0 := cell_of_ans hb n0
            replace n1 := cell_of_ans hb n1
            replace HL := Lib.hid (HL.out.step hb)
            replace HX := Lib.hid (HX.out.step hb)
            replace HBa := Lib.hid (HBa.out.step hb)
            replace Hhsl := Lib.hid (Hhsl.out.step hb)
            replace Hhml := Lib.hid (Hhml.out.step hb)
            replace HDP := Lib.hid (HDP.out.step hb)
            replace HDQ := Lib.hid (HDQ.out.step hb)
            replace HF := Lib.hid (HF.out.step hb)
            replace HFO := Lib.hid (HFO.out.step hb)
            replace Hhl7 := Lib.hid (Hhl7.out.step hb)
            replace Hhi7 := Lib.hid (Hhi7.out.step hb)
            replace Hhg7 := Lib.hid (Hhg7.out.step hb)
            replace HB := Lib.hid (HB.out.trans (hb.mono HB.out.size))
            clear hb
            have Hhi8 := Lib.hid hi8
            clear hi8
            cases ec : cc k
            all_goals rw [ec] at HCK
            · go_wp2_with fail
              refine (HCK.out _ _ _ _ _ _ _ _ _ Hhl7.out hc7 Hhi7.out ⟨hd7, he7⟩ Hhg7.out ⟨hh7, hj7⟩ Hhi8.out ⟨hd8, he8⟩).mono ?_
              rintro e z5 ⟨rfl, hb⟩
              replace k0 := cell_of_ans hb k0
              replace k1 := cell_of_ans hb k1
              replace k2 := cell_of_ans hb k2
              replace k3 := cell_of_ans hb k3
              replace k4 := cell_of_ans hb k4
              replace n0 := cell_of_ans hb n0
              replace n1 := cell_of_ans hb n1
              replace HL := Lib.hid (HL.out.step hb)
              replace HX := Lib.hid (HX.out.step hb)
              replace HBa := Lib.hid (HBa.out.step hb)
              replace Hhsl := Lib.hid (Hhsl.out.step hb)
              replace Hhml := Lib.hid (Hhml.out.step hb)
              replace HDP := Lib.hid (HDP.out.step hb)
              replace HDQ := Lib.hid (HDQ.out.step hb)
              replace HF := Lib.hid (HF.out.step hb)
              replace HFO := Lib.hid (HFO.out.step hb)
              replace Hhl7 := Lib.hid (Hhl7.out.step hb)
              replace Hhi7 := Lib.hid (Hhi7.out.step hb)
              replace Hhg7 := Lib.hid (Hhg7.out.step hb)
              replace Hhi8 := Lib.hid (Hhi8.out.step hb)
              replace HB := Lib.hid (HB.out.trans (hb.mono HB.out.size))
              clear hb
              clear Hhl7 Hhi7 Hhg7 Hhi8
              have HLS : Hid (lsF cc ll (k + 1) = lsF cc ll k) := by show _ = _; rw [lsF, ec]; rfl
              have HMS : Hid (msF cc ll (k + 1) = msF cc ll k) := by show _ = _; rw [msF, ec]; rfl
              go_wp2_with fail
              go_roundw
              case rel => exact ⟨k + 1, by omega, by go_num, by rw [HLS.out], by rw [HMS.out], by rw [faF_no ec]; exact HDP.out, by rw [stF_no ec]; exact HDQ.out, HBR.out.trans (HB.out.mono hnr)⟩
              case measure => simp [intOf]; omega
            · go_wp2_with fail
              refine (HCK.out _ _ _ _ _ _ _ _ _ Hhl7.out hc7 Hhi7.out ⟨hd7, he7⟩ Hhg7.out ⟨hh7, hj7⟩ Hhi8.out ⟨hd8, he8⟩).mono ?_
              rintro e z5 ⟨rfl, hb⟩
              replace k0 := cell_of_ans hb k0
              replace k1 := cell_of_ans hb k1
              replace k2 := cell_of_ans hb k2
              replace k3 := cell_of_ans hb k3
              replace k4 := cell_of_ans hb k4
              replace n0 := cell_of_ans hb n0
              replace n1 := cell_of_ans hb n1
              replace HL := Lib.hid (HL.out.step hb)
              replace HX := Lib.hid (HX.out.step hb)
              replace HBa := Lib.hid (HBa.out.step hb)
              replace Hhsl := Lib.hid (Hhsl.out.step hb)
              replace Hhml := Lib.hid (Hhml.out.step hb)
              replace HDP := Lib.hid (HDP.out.step hb)
              replace HDQ := Lib.hid (HDQ.out.step hb)
              replace HF := Lib.hid (HF.out.step hb)
              replace HFO := Lib.hid (HFO.out.step hb)
              replace Hhl7 := Lib.hid (Hhl7.out.step hb)
              replace Hhi7 := Lib.hid (Hhi7.out.step hb)
              replace Hhg7 := Lib.hid (Hhg7.out.step hb)
              replace Hhi8 := Lib.hid (Hhi8.out.step hb)
              replace HB := Lib.hid (HB.out.trans (hb.mono HB.out.size))
              clear hb
              clear Hhl7 Hhi7 Hhg7 Hhi8
              have HLS : Hid (lsF cc ll (k + 1) = min (lsF cc ll k) (fw.length : Int)) := by show _ = _; rw [lsF, ec, HLK.out]; rfl
              have HMS : Hid (msF cc ll (k + 1) = max (msF cc ll k) (fw.length : Int)) := by show _ = _; rw [msF, ec, HLK.out]; rfl
              have HFY := Lib.hid (faF_yes (h := hh) (m := xs.length) ec)
              have HSY := Lib.hid (stF_yes (h := hh) (m := xs.length) ec)
              clear ec
              generalize lsF cc ll k = la at *
              generalize msF cc ll k = lm at *
              generalize hfa : faF cc hh k = fa at *
              generalize hst : stF cc hh k = sa at *
              clear hfa hst
              obtain ⟨mi, hmi0⟩ : ∃ mi, mi = min la (fw.length : Int) := ⟨_, rfl⟩
              obtain ⟨ma, hma0⟩ : ∃ ma, ma = max lm (fw.length : Int) := ⟨_, rfl⟩
              rw [← hmi0] at HLS
              rw [← hma0] at HMS
              have hmi : (if (fw.length : Int) < la then (fw.length : Int) else la) = mi := by rw [hmi0]; split <;> omega
              have hma : (if lm < (fw.length : Int) then (fw.length : Int) else lm) = ma := by rw [hma0]; split <;> omega
              clear hmi0 hma0
              go_wp2_with fail
              clear hmi hma
              skip
              have HB5 := Lib.hid (HBR.out.trans (HB.out.mono hnr))
              have hpw : p < wt.heap.size := by have := ltp0; omega
              have hqw : q < wt.heap.size := by have := ltq0; omega
              generalize z5 = wz at *
              go_loopw [19] (fun vj wr => ∃ j : Nat, j ≤ xs.length ∧ vj = .int .i64 j ∧ Dn wr p (upJ fa (fun i => !hh k i) j) xs.length ∧ Dn wr q (upJ sa (hh k) j) xs.length ∧ Below nb x9 wr ∧ OwnI wt.heap.size wr (.slice Ao fw.length co) fw) (fun vj _ => xs.length - (intOf vj).toNat)
              case atStart => exact ⟨0, by omega, rfl, by rw [upJ_0]; exact HDP.out, by rw [upJ_0]; exact HDQ.out, HB5.out, HFO.out⟩
              case round =>
                obtain ⟨j, hj, rfl, hdp, hdq, hbr, hfo⟩ := hrel
                have HDP2 := Lib.hid hdp
                have HDQ2 := Lib.hid hdq
                have HBR2 := Lib.hid hbr
                have HFO2 := Lib.hid hfo
                clear hdp hdq hbr hfo HDP HDQ HBR HF HFO HB5
                by_cases h1 : j < xs.length
                · have hjl : (j : Int) < (xs.length : Int) := by omega
                  obtain ⟨b1, o1, hA1, hlt1, c1⟩ := (HX9.out.below HBR2.out).at_ h1
                  obtain ⟨d1, f1⟩ := HDP2.out.cell h1
                  obtain ⟨d2, f2⟩ := HDQ2.out.cell h1
                  rw [upJ_at] at d1 d2
                  have hb1p : b1 ≠ p := by omega
                  have HDPd := Lib.hid (HDP2.out.step (Below.refl _ _).drew)
                  have HDQd := Lib.hid (HDQ2.out.step (Below.refl _ _).drew)
                  have HFOd := Lib.hid (HFO2.out.kept (Below.refl _ _).drew)
                  have HHJ := Lib.hid (fun (W : World) (h : W = wr.drew) => (show Calls Try.prog 35 #[.slice Ao fw.length co, .int .i64 (ix xs j)] W (Same W (.bool (hh k j))) from by
                    subst h
                    have h := has35_c Ao fw co (ix xs j) wr.drew (isInts_parts HFOd.out.isInts).2.2 ⟨hcf1, hcf2⟩
                    rwa [HHK.out j _ rfl] at h))
                  have HUP : Hid (∀ b, b = (fa j || !hh k j) → upd (upJ fa (fun i => !hh k i) j) j b = upJ fa (fun i => !hh k i) (j + 1)) := fun b e => by rw [← upJ_succ, e]
                  have HUQ : Hid (∀ b, b = (sa j || hh k j) → upd (upJ sa (hh k) j) j b = upJ sa (hh k) (j + 1)) := fun b e => by rw [← upJ_succ, e]
                  generalize ix xs j = x at *
                  generalize hh k j = hjb at *
                  subst hA1
                  generalize fa j = fj at *
                  generalize sa j = sj at *
                  clear HL HX HX9 HBa Hhsl Hhml HCK HCan HHK HHI HLB hfl k0 k1 k2 k3 k4 n0 n1 HP5 HLK HLS HMS HFY HSY HDP2 HDQ2 HFO2 HB HB9 HB0 hsh hlen hxl hbl hl16 hx15 hb8 hc hcx hcb hsl2 hml2
                  go_upto_region 23 with fail
                  refine wp_region_noPanic ?_
                  have hS : (fun W' : World => wr.grownBy W' (some p)) wr.drew := only_drewN (World.grownBy.refl _ _) 1
                  refine wp_region_any (by kernel_rfl) (wpAny_of_T (S := fun W' : World => wr.grownBy W' (some p)) (m := 32) _ _ _ _ ?_)
                  refine' T_take (i := 0) (v := _) rfl (by kernel_rfl) (by kernel_rfl) (by kernel_rfl) (by kernel_rfl) (fun _ _ _ h => h) (by kernel_rfl) hS ?_ ?_
                  rotate_left 1
                  · intro Wv hW
                    have d2 := hW.cell d2 (by simp; omega)
                    have c1 := hW.cell c1 (by simp; omega)
                    go_simp
                    first | done | with_reducible rfl | omega
                  try simp only [Act.put, List.setIfInBounds_toArray, List.set_cons_zero, List.set_cons_succ]
                  refine' T_take (i := 1) (v := _) rfl (by kernel_rfl) (by kernel_rfl) (by kernel_rfl) (by kernel_rfl) (fun _ _ _ h => h) (by kernel_rfl) hS ?_ ?_
                  rotate_left 1
                  · intro Wv hW
                    have d2 := hW.cell d2 (by simp; omega)
                    have c1 := hW.cell c1 (by simp; omega)
                    go_simp
                    first | done | with_reducible rfl | omega
                  try simp only [Act.put, List.setIfInBounds_toArray, List.set_cons_zero, List.set_cons_succ]
                  refine' T_take (i := 2) (v := _) rfl (by kernel_rfl) (by kernel_rfl) (by kernel_rfl) (by kernel_rfl) (fun _ _ _ h => h) (by kernel_rfl) hS ?_ ?_
                  rotate_left 1
                  · intro Wv hW
                    have d2 := hW.cell d2 (by simp; omega)
                    have c1 := hW.cell c1 (by simp; omega)
                    go_simp
                    first | done | with_reducible rfl | omega
                  try simp only [Act.put, List.setIfInBounds_toArray, List.set_cons_zero, List.set_cons_succ]
                  refine' T_take (i := 3) (v := _) rfl (by kernel_rfl) (by kernel_rfl) (by kernel_rfl) (by kernel_rfl) (fun _ _ _ h => h) (by kernel_rfl) hS ?_ ?_
                  rotate_left 1
                  · intro Wv hW
                    have d2 := hW.cell d2 (by simp; omega)
                    have c1 := hW.cell c1 (by simp; omega)
                    go_simp
                    first | done | with_reducible rfl | omega
                  try simp only [Act.put, List.setIfInBounds_toArray, List.set_cons_zero, List.set_cons_succ]
                  refine' T_take (i := 4) (v := _) rfl (by kernel_rfl) (by kernel_rfl) (by kernel_rfl) (by kernel_rfl) (fun _ _ _ h => h) (by kernel_rfl) hS ?_ ?_
                  rotate_left 1
                  · intro Wv hW
                    have d2 := hW.cell d2 (by simp; omega)
                    have c1 := hW.cell c1 (by simp; omega)
                    go_simp
                    first | done | with_reducible rfl | omega
                  try simp only [Act.put, List.setIfInBounds_toArray, List.set_cons_zero, List.set_cons_succ]
                  refine' T_take (i := 5) (v := _) rfl (by kernel_rfl) (by kernel_rfl) (by kernel_rfl) (by kernel_rfl) (fun _ _ _ h => h) (by kernel_rfl) hS ?_ ?_
                  rotate_left 1
                  · intro Wv hW
                    have d2 := hW.cell d2 (by simp; omega)
                    have c1 := hW.cell c1 (by simp; omega)
                    go_simp
                    first | done | with_reducible rfl | omega
                  try simp only [Act.put, List.setIfInBounds_toArray, List.set_cons_zero, List.set_cons_succ]
                  refine' T_take (i := 6) (v := _) rfl (by kernel_rfl) (by kernel_rfl) (by kernel_rfl) (by kernel_rfl) (fun _ _ _ h => h) (by kernel_rfl) hS ?_ ?_
                  rotate_left 1
                  · intro Wv hW
                    have d2 := hW.cell d2 (by simp; omega)
                    have c1 := hW.cell c1 (by simp; omega)
                    go_simp
                    first | done | with_reducible rfl | omega
                  try simp only [Act.put, List.setIfInBounds_toArray, List.set_cons_zero, List.set_cons_succ]
                  refine' T_take (i := 17) (v := _) rfl (by kernel_rfl) (by kernel_rfl) (by kernel_rfl) (by kernel_rfl) (fun _ _ _ h => h) (by kernel_rfl) hS ?_ ?_
                  rotate_left 1
                  · intro Wv hW
                    have d2 := hW.cell d2 (by simp; omega)
                    have c1 := hW.cell c1 (by simp; omega)
                    go_simp
                    first | done | with_reducible rfl | omega
                  try simp only [Act.put, List.setIfInBounds_toArray, List.set_cons_zero, List.set_cons_succ]
                  refine' T_take (i := 18) (v := _) rfl (by kernel_rfl) (by kernel_rfl) (by kernel_rfl) (by kernel_rfl) (fun _ _ _ h => h) (by kernel_rfl) hS ?_ ?_
                  rotate_left 1
                  · intro Wv hW
                    have d2 := hW.cell d2 (by simp; omega)
                    have c1 := hW.cell c1 (by simp; omega)
                    go_simp
                    first | done | with_reducible rfl | omega
                  try simp only [Act.put, List.setIfInBounds_toArray, List.set_cons_zero, List.set_cons_succ]
                  refine' T_take (i := 19) (v := _) rfl (by kernel_rfl) (by kernel_rfl) (by kernel_rfl) (by kernel_rfl) (fun _ _ _ h => h) (by kernel_rfl) hS ?_ ?_
                  rotate_left 1
                  · intro Wv hW
                    have d2 := hW.cell d2 (by simp; omega)
                    have c1 := hW.cell c1 (by simp; omega)
                    go_simp
                    first | done | with_reducible rfl | omega
                  try simp only [Act.put, List.setIfInBounds_toArray, List.set_cons_zero, List.set_cons_succ]
                  refine' T_take (i := 20) (v := _) rfl (by kernel_rfl) (by kernel_rfl) (by kernel_rfl) (by kernel_rfl) (fun _ _ _ h => h) (by kernel_rfl) hS ?_ ?_
                  rotate_left 1
                  · intro Wv hW
                    have d2 := hW.cell d2 (by simp; omega)
                    have c1 := hW.cell c1 (by simp; omega)
                    go_simp
                    first | done | with_reducible rfl | omega
                  try simp only [Act.put, List.setIfInBounds_toArray, List.set_cons_zero, List.set_cons_succ]
                  refine T_ready (rs := [7]) (by kernel_rfl) (by simp) ?_
                  refine TReady.cons rfl (fun K hK => ?_) TReady.nil
                  try go_simp
                  refine hK.out _ _ (fun _ => hS) (fun _ => ?_)
                  clear hK K
                  try simp only [Act.put, List.setIfInBounds_toArray, List.set_cons_zero, List.set_cons_succ]
                  refine' T_take (i := 8) (v := _) rfl (by kernel_rfl) (by kernel_rfl) (by kernel_rfl) (by kernel_rfl) (fun _ _ _ h => h) (by kernel_rfl) hS ?_ ?_
                  rotate_left 1
                  · intro Wv hW
                    have d2 := hW.cell d2 (by simp; omega)
                    have c1 := hW.cell c1 (by simp; omega)
                    go_simp
                    first | done | with_reducible rfl | omega
                  try simp only [Act.put, List.setIfInBounds_toArray, List.set_cons_zero, List.set_cons_succ]
                  cases fj
                  · skip
                    refine' T_take (i := 9) (v := _) rfl (by kernel_rfl) (by kernel_rfl) (by kernel_rfl) (by kernel_rfl) (fun _ _ _ h => h) (by kernel_rfl) hS ?_ ?_
                    rotate_left 1
                    · intro Wv hW
                      have d2 := hW.cell d2 (by simp; omega)
                      have c1 := hW.cell c1 (by simp; omega)
                      go_simp
                      first | done | with_reducible rfl | omega
                    try simp only [Act.put, List.setIfInBounds_toArray, List.set_cons_zero, List.set_cons_succ]
                    refine' T_take (i := 10) (v := _) rfl (by kernel_rfl) (by kernel_rfl) (by kernel_rfl) (by kernel_rfl) (fun _ _ _ h => h) (by kernel_rfl) hS ?_ ?_
                    rotate_left 1
                    · intro Wv hW
                      have d2 := hW.cell d2 (by simp; omega)
                      have c1 := hW.cell c1 (by simp; omega)
                      go_simp
                      first | done | with_reducible rfl | omega
                    try simp only [Act.put, List.setIfInBounds_toArray, List.set_cons_zero, List.set_cons_succ]
                    refine' T_take (i := 11) (v := _) rfl (by kernel_rfl) (by kernel_rfl) (by kernel_rfl) (by kernel_rfl) (fun _ _ _ h => h) (by kernel_rfl) hS ?_ ?_
                    rotate_left 1
                    · intro Wv hW
                      have d2 := hW.cell d2 (by simp; omega)
                      have c1 := hW.cell c1 (by simp; omega)
                      go_simp
                      first | done | with_reducible rfl | omega
                    try simp only [Act.put, List.setIfInBounds_toArray, List.set_cons_zero, List.set_cons_succ]
                    refine' T_take (i := 12) (v := _) rfl (by kernel_rfl) (by kernel_rfl) (by kernel_rfl) (by kernel_rfl) (fun _ _ _ h => h) (by kernel_rfl) hS ?_ ?_
                    rotate_left 1
                    · intro Wv hW
                      have d2 := hW.cell d2 (by simp; omega)
                      have c1 := hW.cell c1 (by simp; omega)
                      go_simp
                      first | done | with_reducible rfl | omega
                    try simp only [Act.put, List.setIfInBounds_toArray, List.set_cons_zero, List.set_cons_succ]
                    refine' T_take (i := 13) (v := _) rfl (by kernel_rfl) (by kernel_rfl) (by kernel_rfl) (by kernel_rfl) (fun _ _ _ h => h) (by kernel_rfl) hS ?_ ?_
                    rotate_left 1
                    · intro Wv hW
                      have d2 := hW.cell d2 (by simp; omega)
                      have c1 := hW.cell c1 (by simp; omega)
                      go_simp
                      first | done | with_reducible rfl | omega
                    try simp only [Act.put, List.setIfInBounds_toArray, List.set_cons_zero, List.set_cons_succ]
                    refine T_ready (rs := [14]) (by kernel_rfl) (by simp) ?_
                    refine TReady.cons rfl (fun K hK => ?_) TReady.nil
                    try go_simp
                    refine (HHJ.out _ rfl).mono ?_
                    rintro e w6 ⟨rfl, rfl⟩
                    try go_simp
                    refine hK.out _ _ (fun _ => hS) (fun _ => ?_)
                    clear hK K
                    try simp only [Act.put, List.setIfInBounds_toArray, List.set_cons_zero, List.set_cons_succ]
                    refine' T_take (i := 15) (v := _) rfl (by kernel_rfl) (by kernel_rfl) (by kernel_rfl) (by kernel_rfl) (fun _ _ _ h => h) (by kernel_rfl) hS ?_ ?_
                    rotate_left 1
                    · intro Wv hW
                      have d2 := hW.cell d2 (by simp; omega)
                      have c1 := hW.cell c1 (by simp; omega)
                      go_simp
                      first | done | with_reducible rfl | omega
                    try simp only [Act.put, List.setIfInBounds_toArray, List.set_cons_zero, List.set_cons_succ]
                    refine' T_take (i := 16) (v := _) rfl (by kernel_rfl) (by kernel_rfl) (by kernel_rfl) (by kernel_rfl) (fun _ _ _ h => h) (by kernel_rfl) hS ?_ ?_
                    rotate_left 1
                    · intro Wv hW
                      have d2 := hW.cell d2 (by simp; omega)
                      have c1 := hW.cell c1 (by simp; omega)
                      go_simp
                      first | done | with_reducible rfl | omega
                    try simp only [Act.put, List.setIfInBounds_toArray, List.set_cons_zero, List.set_cons_succ]
                    refine' T_take (i := 21) (v := _) rfl (by kernel_rfl) (by kernel_rfl) (by kernel_rfl) (by kernel_rfl) (fun _ _ _ h => h) (by kernel_rfl) hS ?_ ?_
                    rotate_left 1
                    · intro Wv hW
                      have d2 := hW.cell d2 (by simp; omega)
                      have c1 := hW.cell c1 (by simp; omega)
                      go_simp
                      first | done | with_reducible rfl | omega
                    try simp only [Act.put, List.setIfInBounds_toArray, List.set_cons_zero, List.set_cons_succ]
                    cases sj
                    · skip
                      refine' T_take (i := 22) (v := _) rfl (by kernel_rfl) (by kernel_rfl) (by kernel_rfl) (by kernel_rfl) (fun _ _ _ h => h) (by kernel_rfl) hS ?_ ?_
                      rotate_left 1
                      · intro Wv hW
                        have d2 := hW.cell d2 (by simp; omega)
                        have c1 := hW.cell c1 (by simp; omega)
                        go_simp
                        first | done | with_reducible rfl | omega
                      try simp only [Act.put, List.setIfInBounds_toArray, List.set_cons_zero, List.set_cons_succ]
                      refine' T_take (i := 23) (v := _) rfl (by kernel_rfl) (by kernel_rfl) (by kernel_rfl) (by kernel_rfl) (fun _ _ _ h => h) (by kernel_rfl) hS ?_ ?_
                      rotate_left 1
                      · intro Wv hW
                        have d2 := hW.cell d2 (by simp; omega)
                        have c1 := hW.cell c1 (by simp; omega)
                        go_simp
                        first | done | with_reducible rfl | omega
                      try simp only [Act.put, List.setIfInBounds_toArray, List.set_cons_zero, List.set_cons_succ]
                      refine' T_take (i := 24) (v := _) rfl (by kernel_rfl) (by kernel_rfl) (by kernel_rfl) (by kernel_rfl) (fun _ _ _ h => h) (by kernel_rfl) hS ?_ ?_
                      rotate_left 1
                      · intro Wv hW
                        have d2 := hW.cell d2 (by simp; omega)
                        have c1 := hW.cell c1 (by simp; omega)
                        go_simp
                        first | done | with_reducible rfl | omega
                      try simp only [Act.put, List.setIfInBounds_toArray, List.set_cons_zero, List.set_cons_succ]
                      refine' T_take (i := 25) (v := _) rfl (by kernel_rfl) (by kernel_rfl) (by kernel_rfl) (by kernel_rfl) (fun _ _ _ h => h) (by kernel_rfl) hS ?_ ?_
                      rotate_left 1
                      · intro Wv hW
                        have d2 := hW.cell d2 (by simp; omega)
                        have c1 := hW.cell c1 (by simp; omega)
                        go_simp
                        first | done | with_reducible rfl | omega
                      try simp only [Act.put, List.setIfInBounds_toArray, List.set_cons_zero, List.set_cons_succ]
                      refine' T_take (i := 26) (v := _) rfl (by kernel_rfl) (by kernel_rfl) (by kernel_rfl) (by kernel_rfl) (fun _ _ _ h => h) (by kernel_rfl) hS ?_ ?_
                      rotate_left 1
                      · intro Wv hW
                        have d2 := hW.cell d2 (by simp; omega)
                        have c1 := hW.cell c1 (by simp; omega)
                        go_simp
                        first | done | with_reducible rfl | omega
                      try simp only [Act.put, List.setIfInBounds_toArray, List.set_cons_zero, List.set_cons_succ]
                      refine T_ready (rs := [27]) (by kernel_rfl) (by simp) ?_
                      refine TReady.cons rfl (fun K hK => ?_) TReady.nil
                      try go_simp
                      refine (HHJ.out _ rfl).mono ?_
                      rintro e w6 ⟨rfl, rfl⟩
                      try go_simp
                      refine hK.out _ _ (fun _ => hS) (fun _ => ?_)
                      clear hK K
                      try simp only [Act.put, List.setIfInBounds_toArray, List.set_cons_zero, List.set_cons_succ]
                      refine' T_take (i := 28) (v := _) rfl (by kernel_rfl) (by kernel_rfl) (by kernel_rfl) (by kernel_rfl) (fun _ _ _ h => h) (by kernel_rfl) hS ?_ ?_
                      rotate_left 1
                      · intro Wv hW
                        have d2 := hW.cell d2 (by simp; omega)
                        have c1 := hW.cell c1 (by simp; omega)
                        go_simp
                        first | done | with_reducible rfl | omega
                      try simp only [Act.put, List.setIfInBounds_toArray, List.set_cons_zero, List.set_cons_succ]
                      refine' T_take (i := 29) (v := _) rfl (by kernel_rfl) (by kernel_rfl) (by kernel_rfl) (by kernel_rfl) (fun _ _ _ h => h) (by kernel_rfl) hS ?_ ?_
                      rotate_left 1
                      · intro Wv hW
                        have d2 := hW.cell d2 (by simp; omega)
                        have c1 := hW.cell c1 (by simp; omega)
                        go_simp
                        first | done | with_reducible rfl | omega
                      try simp only [Act.put, List.setIfInBounds_toArray, List.set_cons_zero, List.set_cons_succ]
                      refine T_ready (rs := [30]) (by kernel_rfl) (by simp) ?_
                      refine TReady.cons rfl (fun K hK => ?_) TReady.nil
                      try go_simp
                      have hS2 := only_setCell hS (p := ⟨p, j, none⟩) (.inl rfl) (.bool (!hjb))
                      refine hK.out _ _ (fun _ => hS2) (fun _ => ?_)
                      clear hK K hS
                      have hS := hS2
                      clear hS2
                      try simp only [Act.put, List.setIfInBounds_toArray, List.set_cons_zero, List.set_cons_succ]
                      refine' T_take (i := 31) (v := _) rfl (by kernel_rfl) (by kernel_rfl) (by kernel_rfl) (by kernel_rfl) (fun _ _ _ h => h) (by kernel_rfl) hS ?_ ?_
                      rotate_left 1
                      · intro Wv hW
                        have d2 := hW.cell d2 (by simp; omega)
                        have c1 := hW.cell c1 (by simp; omega)
                        go_simp
                        first | done | with_reducible rfl | omega
                      try simp only [Act.put, List.setIfInBounds_toArray, List.set_cons_zero, List.set_cons_succ]
                      refine T_ready (rs := [32]) (by kernel_rfl) (by simp) ?_
                      refine TReady.cons rfl (fun K hK => ?_) TReady.nil
                      obtain ⟨-, e2⟩ := (HDQd.out.far (i := j) hqp (.bool (!hjb))).cell h1
                      try go_simp
                      refine hK.out _ _ (fun h => absurd h (by decide)) (fun _ => ?_)
                      clear hK K
                      try simp only [Act.put, List.setIfInBounds_toArray, List.set_cons_zero, List.set_cons_succ]
                      refine T_done (by kernel_rfl) ?_ _
                      refine NoPanic.normal ?_
                      try go_simp
                      clear hS
                      go_wp2_with fail
                      go_roundw
                      case rel => exact ⟨j + 1, by omega, by go_num, by rw [← HUP.out (!hjb) (by simp)]; exact (HDPd.out.set j (!hjb)).far hpq _, by rw [← HUQ.out hjb (by simp)]; exact (HDQd.out.far hqp _).set j hjb, (HBR2.out.drew.setCell (p := ⟨p, j, none⟩) hnp _).setCell (p := ⟨q, j, none⟩) hnq2 _, (HFOd.out.keptBy (only_setCell (World.grownBy.refl _ _) (.inl rfl) _) hpw).keptBy (only_setCell (World.grownBy.refl _ _) (.inl rfl) _) hqw⟩
                      case measure => simp [intOf]; omega
                    · skip
                      refine' T_skip (i := 22) rfl (by kernel_rfl) (by kernel_rfl) (by kernel_rfl) (by kernel_rfl) (fun _ _ _ h => h) (by kernel_rfl) hS ?_
                      try simp only [Act.put, List.setIfInBounds_toArray, List.set_cons_zero, List.set_cons_succ]
                      refine' T_skip (i := 23) rfl (by kernel_rfl) (by kernel_rfl) (by kernel_rfl) (by kernel_rfl) (fun _ _ _ h => h) (by kernel_rfl) hS ?_
                      try simp only [Act.put, List.setIfInBounds_toArray, List.set_cons_zero, List.set_cons_succ]
                      refine' T_skip (i := 24) rfl (by kernel_rfl) (by kernel_rfl) (by kernel_rfl) (by kernel_rfl) (fun _ _ _ h => h) (by kernel_rfl) hS ?_
                      try simp only [Act.put, List.setIfInBounds_toArray, List.set_cons_zero, List.set_cons_succ]
                      refine' T_skip (i := 25) rfl (by kernel_rfl) (by kernel_rfl) (by kernel_rfl) (by kernel_rfl) (fun _ _ _ h => h) (by kernel_rfl) hS ?_
                      try simp only [Act.put, List.setIfInBounds_toArray, List.set_cons_zero, List.set_cons_succ]
                      refine' T_skip (i := 26) rfl (by kernel_rfl) (by kernel_rfl) (by kernel_rfl) (by kernel_rfl) (fun _ _ _ h => h) (by kernel_rfl) hS ?_
                      try simp only [Act.put, List.setIfInBounds_toArray, List.set_cons_zero, List.set_cons_succ]
                      refine' T_skip (i := 27) rfl (by kernel_rfl) (by kernel_rfl) (by kernel_rfl) (by kernel_rfl) (fun _ _ _ h => h) (by kernel_rfl) hS ?_
                      try simp only [Act.put, List.setIfInBounds_toArray, List.set_cons_zero, List.set_cons_succ]
                      refine' T_take (i := 28) (v := _) rfl (by kernel_rfl) (by kernel_rfl) (by kernel_rfl) (by kernel_rfl) (fun _ _ _ h => h) (by kernel_rfl) hS ?_ ?_
                      rotate_left 1
                      · intro Wv hW
                        have d2 := hW.cell d2 (by simp; omega)
                        have c1 := hW.cell c1 (by simp; omega)
                        go_simp
                        first | done | with_reducible rfl | omega
                      try simp only [Act.put, List.setIfInBounds_toArray, List.set_cons_zero, List.set_cons_succ]
                      refine' T_take (i := 29) (v := _) rfl (by kernel_rfl) (by kernel_rfl) (by kernel_rfl) (by kernel_rfl) (fun _ _ _ h => h) (by kernel_rfl) hS ?_ ?_
                      rotate_left 1
                      · intro Wv hW
                        have d2 := hW.cell d2 (by simp; omega)
                        have c1 := hW.cell c1 (by simp; omega)
                        go_simp
                        first | done | with_reducible rfl | omega
                      try simp only [Act.put, List.setIfInBounds_toArray, List.set_cons_zero, List.set_cons_succ]
                      refine T_ready (rs := [30]) (by kernel_rfl) (by simp) ?_
                      refine TReady.cons rfl (fun K hK => ?_) TReady.nil
                      try go_simp
                      have hS2 := only_setCell hS (p := ⟨p, j, none⟩) (.inl rfl) (.bool (!hjb))
                      refine hK.out _ _ (fun _ => hS2) (fun _ => ?_)
                      clear hK K hS
                      have hS := hS2
                      clear hS2
                      try simp only [Act.put, List.setIfInBounds_toArray, List.set_cons_zero, List.set_cons_succ]
                      refine' T_take (i := 31) (v := _) rfl (by kernel_rfl) (by kernel_rfl) (by kernel_rfl) (by kernel_rfl) (fun _ _ _ h => h) (by kernel_rfl) hS ?_ ?_
                      rotate_left 1
                      · intro Wv hW
                        have d2 := hW.cell d2 (by simp; omega)
                        have c1 := hW.cell c1 (by simp; omega)
                        go_simp
                        first | done | with_reducible rfl | omega
                      try simp only [Act.put, List.setIfInBounds_toArray, List.set_cons_zero, List.set_cons_succ]
                      refine T_ready (rs := [32]) (by kernel_rfl) (by simp) ?_
                      refine TReady.cons rfl (fun K hK => ?_) TReady.nil
                      obtain ⟨-, e2⟩ := (HDQd.out.far (i := j) hqp (.bool (!hjb))).cell h1
                      try go_simp
                      refine hK.out _ _ (fun h => absurd h (by decide)) (fun _ => ?_)
                      clear hK K
                      try simp only [Act.put, List.setIfInBounds_toArray, List.set_cons_zero, List.set_cons_succ]
                      refine T_done (by kernel_rfl) ?_ _
                      refine NoPanic.normal ?_
                      try go_simp
                      clear hS
                      go_wp2_with fail
                      go_roundw
                      case rel => exact ⟨j + 1, by omega, by go_num, by rw [← HUP.out (!hjb) (by simp)]; exact (HDPd.out.set j (!hjb)).far hpq _, by rw [← HUQ.out true (by simp)]; exact (HDQd.out.far hqp _).set j true, (HBR2.out.drew.setCell (p := ⟨p, j, none⟩) hnp _).setCell (p := ⟨q, j, none⟩) hnq2 _, (HFOd.out.keptBy (only_setCell (World.grownBy.refl _ _) (.inl rfl) _) hpw).keptBy (only_setCell (World.grownBy.refl _ _) (.inl rfl) _) hqw⟩
                      case measure => simp [intOf]; omega
                  · skip
                    refine' T_skip (i := 9) rfl (by kernel_rfl) (by kernel_rfl) (by kernel_rfl) (by kernel_rfl) (fun _ _ _ h => h) (by kernel_rfl) hS ?_
                    try simp only [Act.put, List.setIfInBounds_toArray, List.set_cons_zero, List.set_cons_succ]
                    refine' T_skip (i := 10) rfl (by kernel_rfl) (by kernel_rfl) (by kernel_rfl) (by kernel_rfl) (fun _ _ _ h => h) (by kernel_rfl) hS ?_
                    try simp only [Act.put, List.setIfInBounds_toArray, List.set_cons_zero, List.set_cons_succ]
                    refine' T_skip (i := 11) rfl (by kernel_rfl) (by kernel_rfl) (by kernel_rfl) (by kernel_rfl) (fun _ _ _ h => h) (by kernel_rfl) hS ?_
                    try simp only [Act.put, List.setIfInBounds_toArray, List.set_cons_zero, List.set_cons_succ]
                    refine' T_skip (i := 12) rfl (by kernel_rfl) (by kernel_rfl) (by kernel_rfl) (by kernel_rfl) (fun _ _ _ h => h) (by kernel_rfl) hS ?_
                    try simp only [Act.put, List.setIfInBounds_toArray, List.set_cons_zero, List.set_cons_succ]
                    refine' T_skip (i := 13) rfl (by kernel_rfl) (by kernel_rfl) (by kernel_rfl) (by kernel_rfl) (fun _ _ _ h => h) (by kernel_rfl) hS ?_
                    try simp only [Act.put, List.setIfInBounds_toArray, List.set_cons_zero, List.set_cons_succ]
                    refine' T_skip (i := 14) rfl (by kernel_rfl) (by kernel_rfl) (by kernel_rfl) (by kernel_rfl) (fun _ _ _ h => h) (by kernel_rfl) hS ?_
                    try simp only [Act.put, List.setIfInBounds_toArray, List.set_cons_zero, List.set_cons_succ]
                    refine' T_skip (i := 15) rfl (by kernel_rfl) (by kernel_rfl) (by kernel_rfl) (by kernel_rfl) (fun _ _ _ h => h) (by kernel_rfl) hS ?_
                    try simp only [Act.put, List.setIfInBounds_toArray, List.set_cons_zero, List.set_cons_succ]
                    refine' T_take (i := 16) (v := _) rfl (by kernel_rfl) (by kernel_rfl) (by kernel_rfl) (by kernel_rfl) (fun _ _ _ h => h) (by kernel_rfl) hS ?_ ?_
                    rotate_left 1
                    · intro Wv hW
                      have d2 := hW.cell d2 (by simp; omega)
                      have c1 := hW.cell c1 (by simp; omega)
                      go_simp
                      first | done | with_reducible rfl | omega
                    try simp only [Act.put, List.setIfInBounds_toArray, List.set_cons_zero, List.set_cons_succ]
                    refine' T_take (i := 21) (v := _) rfl (by kernel_rfl) (by kernel_rfl) (by kernel_rfl) (by kernel_rfl) (fun _ _ _ h => h) (by kernel_rfl) hS ?_ ?_
                    rotate_left 1
                    · intro Wv hW
                      have d2 := hW.cell d2 (by simp; omega)
                      have c1 := hW.cell c1 (by simp; omega)
                      go_simp
                      first | done | with_reducible rfl | omega
                    try simp only [Act.put, List.setIfInBounds_toArray, List.set_cons_zero, List.set_cons_succ]
                    cases sj
                    · skip
                      refine' T_take (i := 22) (v := _) rfl (by kernel_rfl) (by kernel_rfl) (by kernel_rfl) (by kernel_rfl) (fun _ _ _ h => h) (by kernel_rfl) hS ?_ ?_
                      rotate_left 1
                      · intro Wv hW
                        have d2 := hW.cell d2 (by simp; omega)
                        have c1 := hW.cell c1 (by simp; omega)
                        go_simp
                        first | done | with_reducible rfl | omega
                      try simp only [Act.put, List.setIfInBounds_toArray, List.set_cons_zero, List.set_cons_succ]
                      refine' T_take (i := 23) (v := _) rfl (by kernel_rfl) (by kernel_rfl) (by kernel_rfl) (by kernel_rfl) (fun _ _ _ h => h) (by kernel_rfl) hS ?_ ?_
                      rotate_left 1
                      · intro Wv hW
                        have d2 := hW.cell d2 (by simp; omega)
                        have c1 := hW.cell c1 (by simp; omega)
                        go_simp
                        first | done | with_reducible rfl | omega
                      try simp only [Act.put, List.setIfInBounds_toArray, List.set_cons_zero, List.set_cons_succ]
                      refine' T_take (i := 24) (v := _) rfl (by kernel_rfl) (by kernel_rfl) (by kernel_rfl) (by kernel_rfl) (fun _ _ _ h => h) (by kernel_rfl) hS ?_ ?_
                      rotate_left 1
                      · intro Wv hW
                        have d2 := hW.cell d2 (by simp; omega)
                        have c1 := hW.cell c1 (by simp; omega)
                        go_simp
                        first | done | with_reducible rfl | omega
                      try simp only [Act.put, List.setIfInBounds_toArray, List.set_cons_zero, List.set_cons_succ]
                      refine' T_take (i := 25) (v := _) rfl (by kernel_rfl) (by kernel_rfl) (by kernel_rfl) (by kernel_rfl) (fun _ _ _ h => h) (by kernel_rfl) hS ?_ ?_
                      rotate_left 1
                      · intro Wv hW
                        have d2 := hW.cell d2 (by simp; omega)
                        have c1 := hW.cell c1 (by simp; omega)
                        go_simp
                        first | done | with_reducible rfl | omega
                      try simp only [Act.put, List.setIfInBounds_toArray, List.set_cons_zero, List.set_cons_succ]
                      refine' T_take (i := 26) (v := _) rfl (by kernel_rfl) (by kernel_rfl) (by kernel_rfl) (by kernel_rfl) (fun _ _ _ h => h) (by kernel_rfl) hS ?_ ?_
                      rotate_left 1
                      · intro Wv hW
                        have d2 := hW.cell d2 (by simp; omega)
                        have c1 := hW.cell c1 (by simp; omega)
                        go_simp
                        first | done | with_reducible rfl | omega
                      try simp only [Act.put, List.setIfInBounds_toArray, List.set_cons_zero, List.set_cons_succ]
                      refine T_ready (rs := [27]) (by kernel_rfl) (by simp) ?_
                      refine TReady.cons rfl (fun K hK => ?_) TReady.nil
                      try go_simp
                      refine (HHJ.out _ rfl).mono ?_
                      rintro e w6 ⟨rfl, rfl⟩
                      try go_simp
                      refine hK.out _ _ (fun _ => hS) (fun _ => ?_)
                      clear hK K
                      try simp only [Act.put, List.setIfInBounds_toArray, List.set_cons_zero, List.set_cons_succ]
                      refine' T_take (i := 28) (v := _) rfl (by kernel_rfl) (by kernel_rfl) (by kernel_rfl) (by kernel_rfl) (fun _ _ _ h => h) (by kernel_rfl) hS ?_ ?_
                      rotate_left 1
                      · intro Wv hW
                        have d2 := hW.cell d2 (by simp; omega)
                        have c1 := hW.cell c1 (by simp; omega)
                        go_simp
                        first | done | with_reducible rfl | omega
                      try simp only [Act.put, List.setIfInBounds_toArray, List.set_cons_zero, List.set_cons_succ]
                      refine' T_take (i := 29) (v := _) rfl (by kernel_rfl) (by kernel_rfl) (by kernel_rfl) (by kernel_rfl) (fun _ _ _ h => h) (by kernel_rfl) hS ?_ ?_
                      rotate_left 1
                      · intro Wv hW
                        have d2 := hW.cell d2 (by simp; omega)
                        have c1 := hW.cell c1 (by simp; omega)
                        go_simp
                        first | done | with_reducible rfl | omega
                      try simp only [Act.put, List.setIfInBounds_toArray, List.set_cons_zero, List.set_cons_succ]
                      refine T_ready (rs := [30]) (by kernel_rfl) (by simp) ?_
                      refine TReady.cons rfl (fun K hK => ?_) TReady.nil
                      try go_simp
                      have hS2 := only_setCell hS (p := ⟨p, j, none⟩) (.inl rfl) (.bool true)
                      refine hK.out _ _ (fun _ => hS2) (fun _ => ?_)
                      clear hK K hS
                      have hS := hS2
                      clear hS2
                      try simp only [Act.put, List.setIfInBounds_toArray, List.set_cons_zero, List.set_cons_succ]
                      refine' T_take (i := 31) (v := _) rfl (by kernel_rfl) (by kernel_rfl) (by kernel_rfl) (by kernel_rfl) (fun _ _ _ h => h) (by kernel_rfl) hS ?_ ?_
                      rotate_left 1
                      · intro Wv hW
                        have d2 := hW.cell d2 (by simp; omega)
                        have c1 := hW.cell c1 (by simp; omega)
                        go_simp
                        first | done | with_reducible rfl | omega
                      try simp only [Act.put, List.setIfInBounds_toArray, List.set_cons_zero, List.set_cons_succ]
                      refine T_ready (rs := [32]) (by kernel_rfl) (by simp) ?_
                      refine TReady.cons rfl (fun K hK => ?_) TReady.nil
                      obtain ⟨-, e2⟩ := (HDQd.out.far (i := j) hqp (.bool true)).cell h1
                      try go_simp
                      refine hK.out _ _ (fun h => absurd h (by decide)) (fun _ => ?_)
                      clear hK K
                      try simp only [Act.put, List.setIfInBounds_toArray, List.set_cons_zero, List.set_cons_succ]
                      refine T_done (by kernel_rfl) ?_ _
                      refine NoPanic.normal ?_
                      try go_simp
                      clear hS
                      go_wp2_with fail
                      go_roundw
                      case rel => exact ⟨j + 1, by omega, by go_num, by rw [← HUP.out true (by simp)]; exact (HDPd.out.set j true).far hpq _, by rw [← HUQ.out hjb (by simp)]; exact (HDQd.out.far hqp _).set j hjb, (HBR2.out.drew.setCell (p := ⟨p, j, none⟩) hnp _).setCell (p := ⟨q, j, none⟩) hnq2 _, (HFOd.out.keptBy (only_setCell (World.grownBy.refl _ _) (.inl rfl) _) hpw).keptBy (only_setCell (World.grownBy.refl _ _) (.inl rfl) _) hqw⟩
                      case measure => simp [intOf]; omega
                    · skip
                      refine' T_skip (i := 22) rfl (by kernel_rfl) (by kernel_rfl) (by kernel_rfl) (by kernel_rfl) (fun _ _ _ h => h) (by kernel_rfl) hS ?_
                      try simp only [Act.put, List.setIfInBounds_toArray, List.set_cons_zero, List.set_cons_succ]
                      refine' T_skip (i := 23) rfl (by kernel_rfl) (by kernel_rfl) (by kernel_rfl) (by kernel_rfl) (fun _ _ _ h => h) (by kernel_rfl) hS ?_
                      try simp only [Act.put, List.setIfInBounds_toArray, List.set_cons_zero, List.set_cons_succ]
                      refine' T_skip (i := 24) rfl (by kernel_rfl) (by kernel_rfl) (by kernel_rfl) (by kernel_rfl) (fun _ _ _ h => h) (by kernel_rfl) hS ?_
                      try simp only [Act.put, List.setIfInBounds_toArray, List.set_cons_zero, List.set_cons_succ]
                      refine' T_skip (i := 25) rfl (by kernel_rfl) (by kernel_rfl) (by kernel_rfl) (by kernel_rfl) (fun _ _ _ h => h) (by kernel_rfl) hS ?_
                      try simp only [Act.put, List.setIfInBounds_toArray, List.set_cons_zero, List.set_cons_succ]
                      refine' T_skip (i := 26) rfl (by kernel_rfl) (by kernel_rfl) (by kernel_rfl) (by kernel_rfl) (fun _ _ _ h => h) (by kernel_rfl) hS ?_
                      try simp only [Act.put, List.setIfInBounds_toArray, List.set_cons_zero, List.set_cons_succ]
                      refine' T_skip (i := 27) rfl (by kernel_rfl) (by kernel_rfl) (by kernel_rfl) (by kernel_rfl) (fun _ _ _ h => h) (by kernel_rfl) hS ?_
                      try simp only [Act.put, List.setIfInBounds_toArray, List.set_cons_zero, List.set_cons_succ]
                      refine' T_take (i := 28) (v := _) rfl (by kernel_rfl) (by kernel_rfl) (by kernel_rfl) (by kernel_rfl) (fun _ _ _ h => h) (by kernel_rfl) hS ?_ ?_
                      rotate_left 1
                      · intro Wv hW
                        have d2 := hW.cell d2 (by simp; omega)
                        have c1 := hW.cell c1 (by simp; omega)
                        go_simp
                        first | done | with_reducible rfl | omega
                      try simp only [Act.put, List.setIfInBounds_toArray, List.set_cons_zero, List.set_cons_succ]
                      refine' T_take (i := 29) (v := _) rfl (by kernel_rfl) (by kernel_rfl) (by kernel_rfl) (by kernel_rfl) (fun _ _ _ h => h) (by kernel_rfl) hS ?_ ?_
                      rotate_left 1
                      · intro Wv hW
                        have d2 := hW.cell d2 (by simp; omega)
                        have c1 := hW.cell c1 (by simp; omega)
                        go_simp
                        first | done | with_reducible rfl | omega
                      try simp only [Act.put, List.setIfInBounds_toArray, List.set_cons_zero, List.set_cons_succ]
                      refine T_ready (rs := [30]) (by kernel_rfl) (by simp) ?_
                      refine TReady.cons rfl (fun K hK => ?_) TReady.nil
                      try go_simp
                      have hS2 := only_setCell hS (p := ⟨p, j, none⟩) (.inl rfl) (.bool true)
                      refine hK.out _ _ (fun _ => hS2) (fun _ => ?_)
                      clear hK K hS
                      have hS := hS2
                      clear hS2
                      try simp only [Act.put, List.setIfInBounds_toArray, List.set_cons_zero, List.set_cons_succ]
                      refine' T_take (i := 31) (v := _) rfl (by kernel_rfl) (by kernel_rfl) (by kernel_rfl) (by kernel_rfl) (fun _ _ _ h => h) (by kernel_rfl) hS ?_ ?_
                      rotate_left 1
                      · intro Wv hW
                        have d2 := hW.cell d2 (by simp; omega)
                        have c1 := hW.cell c1 (by simp; omega)
                        go_simp
                        first | done | with_reducible rfl | omega
                      try simp only [Act.put, List.setIfInBounds_toArray, List.set_cons_zero, List.set_cons_succ]
                      refine T_ready (rs := [32]) (by kernel_rfl) (by simp) ?_
                      refine TReady.cons rfl (fun K hK => ?_) TReady.nil
                      obtain ⟨-, e2⟩ := (HDQd.out.far (i := j) hqp (.bool true)).cell h1
                      try go_simp
                      refine hK.out _ _ (fun h => absurd h (by decide)) (fun _ => ?_)
                      clear hK K
                      try simp only [Act.put, List.setIfInBounds_toArray, List.set_cons_zero, List.set_cons_succ]
                      refine T_done (by kernel_rfl) ?_ _
                      refine NoPanic.normal ?_
                      try go_simp
                      clear hS
                      go_wp2_with fail
                      go_roundw
                      case rel => exact ⟨j + 1, by omega, by go_num, by rw [← HUP.out true (by simp)]; exact (HDPd.out.set j true).far hpq _, by rw [← HUQ.out true (by simp)]; exact (HDQd.out.far hqp _).set j true, (HBR2.out.drew.setCell (p := ⟨p, j, none⟩) hnp _).setCell (p := ⟨q, j, none⟩) hnq2 _, (HFOd.out.keptBy (only_setCell (World.grownBy.refl _ _) (.inl rfl) _) hpw).keptBy (only_setCell (World.grownBy.refl _ _) (.inl rfl) _) hqw⟩
                      case measure => simp [intOf]; omega
                · obtain rfl : j = xs.length := by omega
                  have hjl : ¬ (xs.length : Int) < (xs.length : Int) := by omega
                  have HDP3 := Lib.hid (HDP2.out.congr HFY.out)
                  have HDQ3 := Lib.hid (HDQ2.out.congr HSY.out)
                  clear HHI HLB HHK HCK hfl
                  go_wp2_with fail
                  go_roundw
                  case rel => exact ⟨k + 1, by omega, by go_num, by rw [HLS.out], by rw [HMS.out], HDP3.out, HDQ3.out, HBR2.out⟩
                  case measure => simp [intOf]; omega
      · obtain rfl : k = m := by omega
        have hki : ¬ (k : Int) < (k : Int) := by omega
        go_wp2_with fail
        clear HHI HLB hfl HCan hsh
        generalize wr = wo at *
        go_loopw [20] (fun vi wr => ∃ i : Nat, i ≤ xs.length ∧ vi = .int .i64 i ∧ Below wo.heap.size wo wr) (fun vi _ => xs.length - (intOf vi).toNat)
        case atStart => exact ⟨0, by omega, rfl, Below.refl _ _⟩
        case round =>
          obtain ⟨i, hi, rfl, hbr⟩ := hrel
          by_cases h1 : i < xs.length
          · have hil : (i : Int) < (xs.length : Int) := by omega
            obtain ⟨q1, q2⟩ := HP5.out i h1
            obtain ⟨b1, o1, hA1, hlt1, c1⟩ := (HX.out.step hbr).at_ h1
            obtain ⟨d1, -⟩ := (HDP.out.step hbr).cell h1
            obtain ⟨d2, -⟩ := (HDQ.out.step hbr).cell h1
            rw [q1] at d1
            rw [q2] at d2
            have HHM := Lib.hid (fun (W : World) h => (show Calls Try.prog 35 #[.slice mA ml.length cm, .int .i64 (ix xs i)] W (Same W (.bool (hasB ml (ix xs i)))) from has35_c (B := W.heap.size) mA ml cm (ix xs i) W h hml2))
            have HHS := Lib.hid (fun (W : World) h => (show Calls Try.prog 35 #[.slice sA2 sl.length cs2, .int .i64 (ix xs i)] W (Same W (.bool (hasB sl (ix xs i)))) from has35_c (B := W.heap.size) sA2 sl cs2 (ix xs i) W h hsl2))
            have HM := Lib.hid (Hhml.out.step hbr)
            have HS := Lib.hid (Hhsl.out.step hbr)
            have HBq := Lib.hid hbr
            clear q1 q2 hbr
            generalize hasB ml (ix xs i) = bm at *
            generalize hasB sl (ix xs i) = bs at *
            generalize ix xs i = x at *
            subst hA1
            have hbm : (bm != bm) = false := by simp
            have hbs : (!bs == bs) = false := by cases bs <;> rfl
            clear HL HX HX9 HBa Hhsl Hhml k0 k1 k2 k3 k4 n0 n1 HP5 HDP HDQ HB9 HB0 hlen hxl hbl hl16 hx15 hb8 hc hcx hcb hsl2 hml2
            go_upto_region 27 with fail
            refine wp_region_noPanic ?_
            have hS : (fun W' : World => Below wr.heap.size wr W') wr.drew := (Below.refl _ _).drew
            refine wp_region_any (by kernel_rfl) (wpAny_of_T (S := fun W' : World => Below wr.heap.size wr W') (m := 24) _ _ _ _ ?_)
            refine' T_take (i := 0) (v := _) rfl (by kernel_rfl) (by kernel_rfl) (by kernel_rfl) (by kernel_rfl) (fun _ _ _ h => h) (by kernel_rfl) hS ?_ ?_
            rotate_left 1
            · intro Wv hW
              replace d1 := cell_of_ans hW d1
              replace d2 := cell_of_ans hW d2
              replace c1 := cell_of_ans hW c1
              go_simp
              first | done | with_reducible rfl | omega
            try simp only [Act.put, List.setIfInBounds_toArray, List.set_cons_zero, List.set_cons_succ]
            refine' T_take (i := 1) (v := _) rfl (by kernel_rfl) (by kernel_rfl) (by kernel_rfl) (by kernel_rfl) (fun _ _ _ h => h) (by kernel_rfl) hS ?_ ?_
            rotate_left 1
            · intro Wv hW
              replace d1 := cell_of_ans hW d1
              replace d2 := cell_of_ans hW d2
              replace c1 := cell_of_ans hW c1
              go_simp
              first | done | with_reducible rfl | omega
            try simp only [Act.put, List.setIfInBounds_toArray, List.set_cons_zero, List.set_cons_succ]
            refine' T_take (i := 2) (v := _) rfl (by kernel_rfl) (by kernel_rfl) (by kernel_rfl) (by kernel_rfl) (fun _ _ _ h => h) (by kernel_rfl) hS ?_ ?_
            rotate_left 1
            · intro Wv hW
              replace d1 := cell_of_ans hW d1
              replace d2 := cell_of_ans hW d2
              replace c1 := cell_of_ans hW c1
              go_simp
              first | done | with_reducible rfl | omega
            try simp only [Act.put, List.setIfInBounds_toArray, List.set_cons_zero, List.set_cons_succ]
            refine' T_take (i := 3) (v := _) rfl (by kernel_rfl) (by kernel_rfl) (by kernel_rfl) (by kernel_rfl) (fun _ _ _ h => h) (by kernel_rfl) hS ?_ ?_
            rotate_left 1
            · intro Wv hW
              replace d1 := cell_of_ans hW d1
              replace d2 := cell_of_ans hW d2
              replace c1 := cell_of_ans hW c1
              go_simp
              first | done | with_reducible rfl | omega
            try simp only [Act.put, List.setIfInBounds_toArray, List.set_cons_zero, List.set_cons_succ]
            refine' T_take (i := 4) (v := _) rfl (by kernel_rfl) (by kernel_rfl) (by kernel_rfl) (by kernel_rfl) (fun _ _ _ h => h) (by kernel_rfl) hS ?_ ?_
            rotate_left 1
            · intro Wv hW
              replace d1 := cell_of_ans hW d1
              replace d2 := cell_of_ans hW d2
              replace c1 := cell_of_ans hW c1
              go_simp
              first | done | with_reducible rfl | omega
            try simp only [Act.put, List.setIfInBounds_toArray, List.set_cons_zero, List.set_cons_succ]
            refine' T_take (i := 5) (v := _) rfl (by kernel_rfl) (by kernel_rfl) (by kernel_rfl) (by kernel_rfl) (fun _ _ _ h => h) (by kernel_rfl) hS ?_ ?_
            rotate_left 1
            · intro Wv hW
              replace d1 := cell_of_ans hW d1
              replace d2 := cell_of_ans hW d2
              replace c1 := cell_of_ans hW c1
              go_simp
              first | done | with_reducible rfl | omega
            try simp only [Act.put, List.setIfInBounds_toArray, List.set_cons_zero, List.set_cons_succ]
            refine' T_take (i := 6) (v := _) rfl (by kernel_rfl) (by kernel_rfl) (by kernel_rfl) (by kernel_rfl) (fun _ _ _ h => h) (by kernel_rfl) hS ?_ ?_
            rotate_left 1
            · intro Wv hW
              replace d1 := cell_of_ans hW d1
              replace d2 := cell_of_ans hW d2
              replace c1 := cell_of_ans hW c1
              go_simp
              first | done | with_reducible rfl | omega
            try simp only [Act.put, List.setIfInBounds_toArray, List.set_cons_zero, List.set_cons_succ]
            refine' T_take (i := 7) (v := _) rfl (by kernel_rfl) (by kernel_rfl) (by kernel_rfl) (by kernel_rfl) (fun _ _ _ h => h) (by kernel_rfl) hS ?_ ?_
            rotate_left 1
            · intro Wv hW
              replace d1 := cell_of_ans hW d1
              replace d2 := cell_of_ans hW d2
              replace c1 := cell_of_ans hW c1
              go_simp
              first | done | with_reducible rfl | omega
            try simp only [Act.put, List.setIfInBounds_toArray, List.set_cons_zero, List.set_cons_succ]
            refine' T_take (i := 8) (v := _) rfl (by kernel_rfl) (by kernel_rfl) (by kernel_rfl) (by kernel_rfl) (fun _ _ _ h => h) (by kernel_rfl) hS ?_ ?_
            rotate_left 1
            · intro Wv hW
              replace d1 := cell_of_ans hW d1
              replace d2 := cell_of_ans hW d2
              replace c1 := cell_of_ans hW c1
              go_simp
              first | done | with_reducible rfl | omega
            try simp only [Act.put, List.setIfInBounds_toArray, List.set_cons_zero, List.set_cons_succ]
            refine T_ready (rs := [9]) (by kernel_rfl) (by simp) ?_
            refine TReady.cons rfl (fun K hK => ?_) TReady.nil
            try go_simp
            refine (HHM.out _ (HM.out.step hS)).mono ?_
            rintro e w6 ⟨rfl, rfl⟩
            try go_simp
            refine hK.out _ _ (fun _ => hS) (fun _ => ?_)
            clear hK K
            try simp only [Act.put, List.setIfInBounds_toArray, List.set_cons_zero, List.set_cons_succ]
            refine' T_take (i := 10) (v := .bool false) rfl (by kernel_rfl) (by kernel_rfl) (by kernel_rfl) (by kernel_rfl) (fun _ _ _ h => h) (by kernel_rfl) hS ?_ ?_
            skip
            · intro Wv hW
              replace d1 := cell_of_ans hW d1
              replace d2 := cell_of_ans hW d2
              replace c1 := cell_of_ans hW c1
              go_simp
              first | done | with_reducible rfl | omega
            try simp only [Act.put, List.setIfInBounds_toArray, List.set_cons_zero, List.set_cons_succ]
            refine' T_take (i := 11) (v := .bool false) rfl (by kernel_rfl) (by kernel_rfl) (by kernel_rfl) (by kernel_rfl) (fun _ _ _ h => h) (by kernel_rfl) hS ?_ ?_
            skip
            · intro Wv hW
              replace d1 := cell_of_ans hW d1
              replace d2 := cell_of_ans hW d2
              replace c1 := cell_of_ans hW c1
              go_simp
              first | done | with_reducible rfl | omega
            try simp only [Act.put, List.setIfInBounds_toArray, List.set_cons_zero, List.set_cons_succ]
            refine' T_take (i := 12) (v := _) rfl (by kernel_rfl) (by kernel_rfl) (by kernel_rfl) (by kernel_rfl) (fun _ _ _ h => h) (by kernel_rfl) hS ?_ ?_
            rotate_left 1
            · intro Wv hW
              replace d1 := cell_of_ans hW d1
              replace d2 := cell_of_ans hW d2
              replace c1 := cell_of_ans hW c1
              go_simp
              first | done | with_reducible rfl | omega
            try simp only [Act.put, List.setIfInBounds_toArray, List.set_cons_zero, List.set_cons_succ]
            refine' T_take (i := 13) (v := _) rfl (by kernel_rfl) (by kernel_rfl) (by kernel_rfl) (by kernel_rfl) (fun _ _ _ h => h) (by kernel_rfl) hS ?_ ?_
            rotate_left 1
            · intro Wv hW
              replace d1 := cell_of_ans hW d1
              replace d2 := cell_of_ans hW d2
              replace c1 := cell_of_ans hW c1
              go_simp
              first | done | with_reducible rfl | omega
            try simp only [Act.put, List.setIfInBounds_toArray, List.set_cons_zero, List.set_cons_succ]
            refine' T_take (i := 14) (v := _) rfl (by kernel_rfl) (by kernel_rfl) (by kernel_rfl) (by kernel_rfl) (fun _ _ _ h => h) (by kernel_rfl) hS ?_ ?_
            rotate_left 1
            · intro Wv hW
              replace d1 := cell_of_ans hW d1
              replace d2 := cell_of_ans hW d2
              replace c1 := cell_of_ans hW c1
              go_simp
              first | done | with_reducible rfl | omega
            try simp only [Act.put, List.setIfInBounds_toArray, List.set_cons_zero, List.set_cons_succ]
            refine' T_take (i := 15) (v := _) rfl (by kernel_rfl) (by kernel_rfl) (by kernel_rfl) (by kernel_rfl) (fun _ _ _ h => h) (by kernel_rfl) hS ?_ ?_
            rotate_left 1
            · intro Wv hW
              replace d1 := cell_of_ans hW d1
              replace d2 := cell_of_ans hW d2
              replace c1 := cell_of_ans hW c1
              go_simp
              first | done | with_reducible rfl | omega
            try simp only [Act.put, List.setIfInBounds_toArray, List.set_cons_zero, List.set_cons_succ]
            refine' T_take (i := 16) (v := _) rfl (by kernel_rfl) (by kernel_rfl) (by kernel_rfl) (by kernel_rfl) (fun _ _ _ h => h) (by kernel_rfl) hS ?_ ?_
            rotate_left 1
            · intro Wv hW
              replace d1 := cell_of_ans hW d1
              replace d2 := cell_of_ans hW d2
              replace c1 := cell_of_ans hW c1
              go_simp
              first | done | with_reducible rfl | omega
            try simp only [Act.put, List.setIfInBounds_toArray, List.set_cons_zero, List.set_cons_succ]
            refine' T_take (i := 17) (v := _) rfl (by kernel_rfl) (by kernel_rfl) (by kernel_rfl) (by kernel_rfl) (fun _ _ _ h => h) (by kernel_rfl) hS ?_ ?_
            rotate_left 1
            · intro Wv hW
              replace d1 := cell_of_ans hW d1
              replace d2 := cell_of_ans hW d2
              replace c1 := cell_of_ans hW c1
              go_simp
              first | done | with_reducible rfl | omega
            try simp only [Act.put, List.setIfInBounds_toArray, List.set_cons_zero, List.set_cons_succ]
            refine' T_take (i := 18) (v := _) rfl (by kernel_rfl) (by kernel_rfl) (by kernel_rfl) (by kernel_rfl) (fun _ _ _ h => h) (by kernel_rfl) hS ?_ ?_
            rotate_left 1
            · intro Wv hW
              replace d1 := cell_of_ans hW d1
              replace d2 := cell_of_ans hW d2
              replace c1 := cell_of_ans hW c1
              go_simp
              first | done | with_reducible rfl | omega
            try simp only [Act.put, List.setIfInBounds_toArray, List.set_cons_zero, List.set_cons_succ]
            refine' T_take (i := 19) (v := _) rfl (by kernel_rfl) (by kernel_rfl) (by kernel_rfl) (by kernel_rfl) (fun _ _ _ h => h) (by kernel_rfl) hS ?_ ?_
            rotate_left 1
            · intro Wv hW
              replace d1 := cell_of_ans hW d1
              replace d2 := cell_of_ans hW d2
              replace c1 := cell_of_ans hW c1
              go_simp
              first | done | with_reducible rfl | omega
            try simp only [Act.put, List.setIfInBounds_toArray, List.set_cons_zero, List.set_cons_succ]
            refine' T_take (i := 20) (v := _) rfl (by kernel_rfl) (by kernel_rfl) (by kernel_rfl) (by kernel_rfl) (fun _ _ _ h => h) (by kernel_rfl) hS ?_ ?_
            rotate_left 1
            · intro Wv hW
              replace d1 := cell_of_ans hW d1
              replace d2 := cell_of_ans hW d2
              replace c1 := cell_of_ans hW c1
              go_simp
              first | done | with_reducible rfl | omega
            try simp only [Act.put, List.setIfInBounds_toArray, List.set_cons_zero, List.set_cons_succ]
            refine T_ready (rs := [21]) (by kernel_rfl) (by simp) ?_
            refine TReady.cons rfl (fun K hK => ?_) TReady.nil
            try go_simp
            refine (HHS.out _ (HS.out.step hS)).mono ?_
            rintro e w6 ⟨rfl, rfl⟩
            try go_simp
            refine hK.out _ _ (fun _ => hS) (fun _ => ?_)
            clear hK K
            try simp only [Act.put, List.setIfInBounds_toArray, List.set_cons_zero, List.set_cons_succ]
            refine' T_take (i := 22) (v := .bool false) rfl (by kernel_rfl) (by kernel_rfl) (by kernel_rfl) (by kernel_rfl) (fun _ _ _ h => h) (by kernel_rfl) hS ?_ ?_
            skip
            · intro Wv hW
              replace d1 := cell_of_ans hW d1
              replace d2 := cell_of_ans hW d2
              replace c1 := cell_of_ans hW c1
              go_simp
              first | done | with_reducible rfl | omega
            try simp only [Act.put, List.setIfInBounds_toArray, List.set_cons_zero, List.set_cons_succ]
            refine' T_take (i := 23) (v := _) rfl (by kernel_rfl) (by kernel_rfl) (by kernel_rfl) (by kernel_rfl) (fun _ _ _ h => h) (by kernel_rfl) hS ?_ ?_
            rotate_left 1
            · intro Wv hW
              replace d1 := cell_of_ans hW d1
              replace d2 := cell_of_ans hW d2
              replace c1 := cell_of_ans hW c1
              go_simp
              first | done | with_reducible rfl | omega
            try simp only [Act.put, List.setIfInBounds_toArray, List.set_cons_zero, List.set_cons_succ]
            refine T_done (by kernel_rfl) ?_ _
            refine NoPanic.normal ?_
            try go_simp
            go_wp2_with fail
            go_roundw
            case rel => exact ⟨i + 1, by omega, by go_num, HBq.out.trans (hS.mono HBq.out.size)⟩
            case measure => simp [intOf]; omega
          · obtain rfl : i = xs.length := by omega
            have hil : ¬ (xs.length : Int) < (xs.length : Int) := by omega
            have e44 := eq44 (lsF cc ll k) (msF cc ll k) (lsF cc ll k) (msF cc ll k)
            replace n0 := cell_of_ans hbr n0
            replace n1 := cell_of_ans hbr n1
            have HBF : Hid (Below nb x9 wr) := HBR.out.trans (hbr.mono hnr)
            have hnr2 : nb ≤ wr.heap.size := Nat.le_trans hnr hbr.size
            clear hbr
            generalize lsF cc ll k = la at *
            generalize msF cc ll k = lm at *
            go_wp2_with fail
            refine (awake16_c _).mono ?_
            rintro e wy ⟨rfl, hb⟩
            go_wp2_with fail
            go_ret
            exact ⟨rfl, HB0.out.trans ((HB9.out.trans (HBF.out.trans (hb.mono hnr2))).mono (Nat.le_of_lt lt0))⟩
end Go.Proofs.Ytpekajnjjhibjaa
