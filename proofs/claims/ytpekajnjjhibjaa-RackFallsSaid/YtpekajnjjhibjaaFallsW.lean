/-
  The walk of RackFalls.
-/
import Derived.Test.YtpekajnjjhibjaaLvA
import Derived.Test.YtpekajnjjhibjaaFallsL
import Derived.Test.YtpekajnjjhibjaaFew1
import Derived.Test.YtpekajnjjhibjaaAwk
import Derived.Test.YtpekajnjjhibjaaE6
import Derived.Test.YtpekajnjjhibjaaL2
import Derived.Laws.StructEq
namespace Go.Proofs.Ytpekajnjjhibjaa
open Go.RowKit
set_option linter.unusedSimpArgs false
set_option linter.unusedVariables false

attribute [local go_sem] Oper.semAt_some
theorem eq44' (a b c d : Int) (w : World) : (binOp .eql 44 (.agg #[.int .i64 a, .int .i64 b]) (.agg #[.int .i64 c, .int .i64 d])).run Try.prog w = .ok (.bool (a == c && b == d)) w := by
  have u3 := Try.underlying3
  have hS : Try.prog.underlying 44 = some (.struct (Try.prog.fieldsOf 44)) := by kernel_rfl
  have hp : Try.prog.stoodInHeld 44 = false := by kernel_rfl
  rw [run_eql_struct, show (10000 : Nat) = 9999 + 1 from rfl, run_equalIn_agg w 9999 44 _ _ hS hp]
  simp only [Program.fieldsOf, Try.underlying44]
  go_simp
  by_cases h1 : a = c <;> by_cases h2 : b = d <;> simp [h1, h2]
theorem cL_count {ls : List Lk} : ∀ m bg, bg.length + m = ls.length → (cL ls m bg).length * 2 ^ mayTo ls bg.length = 2 ^ mayTo ls ls.length
  | 0, bg, h => by
    have e : bg.length = ls.length := by omega
    simp [cL, e]
  | m + 1, bg, h => by
    have h1 := cL_count (ls := ls) m (bg ++ [true]) (by simp; omega)
    have h2 := cL_count (ls := ls) m (bg ++ [false]) (by simp; omega)
    rw [List.length_append, List.length_singleton, mayTo] at h1 h2
    rw [cL, List.length_append]
    cases es : (lx ls bg.length).s
    · rw [es] at h1 h2
      simp only [Bool.false_eq_true, if_false, Nat.pow_succ, ← Nat.mul_assoc] at h1 h2 ⊢
      rw [Nat.add_mul]
      omega
    · rw [es] at h1
      simpa using h1
theorem cL_64 {r : Rk} (h : rackErr r = 0) : (cL r.links r.links.length []).length ≤ 64 := by
  have h1 := cL_count (ls := r.links) r.links.length [] (by simp)
  have h2 := rack_may h
  have h3 : 2 ^ mayTo r.links r.links.length ≤ 2 ^ 6 := Nat.pow_le_pow_right (by omega) h2
  have h4 : mayTo r.links ([] : List Bool).length = 0 := rfl
  rw [h4] at h1
  have : 2 ^ 6 = 64 := rfl
  simp at h1
  omega
theorem intsA {B : Nat} (A A' : Option Addr) (xs ys : List Int) (c c' : Nat) (w : World) (hx : Ints B w A xs) (hy : Ints B w A' ys) (hc : xs.length ≤ c ∧ c ≤ 9223372036854775807) (hc' : ys.length ≤ c' ∧ c' ≤ 9223372036854775807) :
    Calls Try.prog 30 #[.slice A xs.length c, .slice A' ys.length c'] w (Ans w (.bool (eqB xs ys))) := (ints_c A A' xs ys c c' w hx hy hc hc').mono (fun {_ _} h => Qt.ans h)
/-- Two own lists of numbers, in two blocks. -/
structure Two (base : Nat) (w : World) (u : Value) (xs : List Int) (v : Value) (ys : List Int) : Prop where
  l : OwnI base w u xs
  r : OwnI base w v ys
  ne : ∀ b, u.ownBlock = some b → v.ownBlock ≠ some b
section
variable {base : Nat} {w w' : World} {u v : Value} {xs ys : List Int}
theorem Two.symm (h : Two base w u xs v ys) : Two base w v ys u xs := ⟨h.r, h.l, fun b h1 h2 => h.ne b h2 h1⟩
theorem Two.kept (h : Two base w u xs v ys) (hb : Below w.heap.size w w') : Two base w' u xs v ys := ⟨h.l.kept hb, h.r.kept hb, h.ne⟩
variable {ops : Array Oper} {rest : List Oper} {o : Oper} {a : Act} {Q : Exit → Act → World → Prop}
theorem wpList_two_l (s x : Operand) (hgd : o.guard = none) (ho : o.op = .call { callee := .builtin .append, args := #[s, x], argTypes := #[25, 25] }) (base : Nat) (w : World) (u v : Value) (xs ys : List Int) (y : Int)
    (hv : a.eval s = u) (hx : a.eval x = .slice (some ⟨w.heap.size, 0, none⟩) 1 1) (hT : Hid (Two base w u xs v ys)) (hl : xs.length ≤ 1000000) (hb : base ≤ w.heap.size)
    (h : ∀ A c w', Hid (Two base w' (.slice A (xs.length + 1) c) (xs ++ [y]) v ys) → Hid (Below base w w') → wpList Try.prog ops Q rest (a.put o.dst (.slice A (xs.length + 1) c)) w') :
    wpList Try.prog ops Q (o :: rest) a (w.alloc (.cells #[.int .i64 y] 3)) := by
  obtain ⟨i0, hi, hz0, hz1, hz2⟩ := info_parts infoInt
  have hO : w.ownsRow base 3 1 u xs.length (xs.map (Value.int .i64)) := hT.out.l
  refine wpList_append_src hgd s x 25 ho base 3 i0 (.int .i64 0) 1 8 Try.underlying25 hi hz0 hz1 hz2 rfl (by decide) u xs.length (xs.map (Value.int .i64)) hv (hO.alloc _) (some ⟨w.heap.size, 0, none⟩) 1 1 [.int .i64 y] hx (src_int w y) (one_ints [y]) (by unfold maxLen; omega) (by omega) (by simp; omega) ?_
  intro v' w' h1 h2 h3
  obtain ⟨A, c, rfl⟩ := ownsRow_form h1
  refine h A c w' ⟨?_, ?_, fun b hb1 hb2 => ?_⟩ (own_below hO hb h2)
  · show OwnI _ _ _ _
    unfold OwnI
    simpa using h1
  · refine World.ownsRow.kept (World.ownsRow.alloc hT.out.r _) h2 ?_
    cases e : v.ownBlock with
    | none => exact .inl rfl
    | some b => exact .inr fun e2 => hT.out.ne b e2.symm e
  · have hlt := (World.ownsRow.lt hT.out.r b hb2).2
    rcases h3 with h3 | h3
    · rw [h3] at hb1
      exact hT.out.ne b hb1 hb2
    · rw [h3] at hb1
      have : (w.alloc (.cells #[.int .i64 y] 3)).heap.size = b := by injection hb1
      simp at this
      omega
theorem wpList_two_r (s x : Operand) (hgd : o.guard = none) (ho : o.op = .call { callee := .builtin .append, args := #[s, x], argTypes := #[25, 25] }) (base : Nat) (w : World) (u v : Value) (xs ys : List Int) (y : Int)
    (hv : a.eval s = v) (hx : a.eval x = .slice (some ⟨w.heap.size, 0, none⟩) 1 1) (hT : Hid (Two base w u xs v ys)) (hl : ys.length ≤ 1000000) (hb : base ≤ w.heap.size)
    (h : ∀ A c w', Hid (Two base w' u xs (.slice A (ys.length + 1) c) (ys ++ [y])) → Hid (Below base w w') → wpList Try.prog ops Q rest (a.put o.dst (.slice A (ys.length + 1) c)) w') :
    wpList Try.prog ops Q (o :: rest) a (w.alloc (.cells #[.int .i64 y] 3)) :=
  wpList_two_l s x hgd ho base w v u ys xs y hv hx hT.out.symm hl hb fun A c w' h1 h2 => h A c w' h1.out.symm h2
end
theorem thr_rack {r : Rk} {xs : List Int} {ball : List Rg} (h : thrErr r xs ball = 0) : rackErr r = 0 := pinErr_rack (thrErr_pin h).1
theorem falls_bad {r : Rk} {xs le : List Int} {ball : List Rg} (h : ¬ thrErr r xs ball = 0) : sureL r xs ball = [] ∧ mayL r xs ball = [] ∧ leftV r xs ball = (0, 0) ∧ canB r xs ball le = false := by
  refine ⟨by rw [sureL, if_neg h], by rw [mayL, if_neg h], by rw [leftV, if_neg h], ?_⟩
  rw [Bool.eq_false_iff, Ne, canB_iff]
  exact fun h1 => h h1.1
set_option maxRecDepth 100000 in
set_option maxHeartbeats 16000000 in
theorem falls6_c (r : Rk) (A xA Ab lA : Option Addr) (c cx cb cl : Nat) (xs le : List Int) (ball : List Rg) (w : World) (hl : Lks w.heap.size w A r.links) (hc : r.links.length ≤ c ∧ c ≤ 9223372036854775807) (hx : Ints w.heap.size w xA xs) (hcx : xs.length ≤ cx ∧ cx ≤ 9223372036854775807) (hball : Rgs w.heap.size w Ab ball) (hcb : ball.length ≤ cb ∧ cb ≤ 9223372036854775807) (hle : Ints w.heap.size w lA le) (hcl : le.length ≤ cl ∧ cl ≤ 9223372036854775807) :
    Calls Try.prog 6 #[.agg #[.int .i64 r.rows, .int .i64 r.mid, .int .i64 r.gap, .int .i64 r.reach, .slice A r.links.length c], .slice xA xs.length cx, .slice Ab ball.length cb, .slice lA le.length cl] w (Ans w (.bool true)) := by
  have HB := Lib.hid (Below.refl w.heap.size w)
  have HL := Lib.hid hl
  have HX := Lib.hid hx
  have HBa := Lib.hid hball
  have HLe := Lib.hid hle
  clear hl hx hball hle
  have hb : Below w.heap.size w (w.alloc (.cells #[.int .i64 r.rows, .int .i64 r.mid, .int .i64 r.gap, .int .i64 r.reach, .slice A r.links.length c] 24)) := (Below.refl _ _).alloc (Nat.le_refl _) _
  replace HL := Lib.hid (HL.out.step hb)
  replace HX := Lib.hid (HX.out.step hb)
  replace HBa := Lib.hid (HBa.out.step hb)
  replace HLe := Lib.hid (HLe.out.step hb)
  replace HB := Lib.hid (HB.out.trans (hb.mono HB.out.size))
  clear hb
  have k0 : (w.alloc (.cells #[.int .i64 r.rows, .int .i64 r.mid, .int .i64 r.gap, .int .i64 r.reach, .slice A r.links.length c] 24)).cell? ⟨w.heap.size, 0, none⟩ = some (.int .i64 r.rows) := by simp
  have k1 : (w.alloc (.cells #[.int .i64 r.rows, .int .i64 r.mid, .int .i64 r.gap, .int .i64 r.reach, .slice A r.links.length c] 24)).cell? ⟨w.heap.size, 1, none⟩ = some (.int .i64 r.mid) := by simp
  have k2 : (w.alloc (.cells #[.int .i64 r.rows, .int .i64 r.mid, .int .i64 r.gap, .int .i64 r.reach, .slice A r.links.length c] 24)).cell? ⟨w.heap.size, 2, none⟩ = some (.int .i64 r.gap) := by simp
  have k3 : (w.alloc (.cells #[.int .i64 r.rows, .int .i64 r.mid, .int .i64 r.gap, .int .i64 r.reach, .slice A r.links.length c] 24)).cell? ⟨w.heap.size, 3, none⟩ = some (.int .i64 r.reach) := by simp
  have k4 : (w.alloc (.cells #[.int .i64 r.rows, .int .i64 r.mid, .int .i64 r.gap, .int .i64 r.reach, .slice A r.links.length c] 24)).cell? ⟨w.heap.size, 4, none⟩ = some (.slice A r.links.length c) := by simp
  cases ht : thinB r.links.length xs.length ball.length
  · have HTH := Lib.hid (fun W => (show Calls Try.prog 23 #[.agg #[.int .i64 r.rows, .int .i64 r.mid, .int .i64 r.gap, .int .i64 r.reach, .slice A r.links.length c], .slice xA xs.length cx, .slice Ab ball.length cb] W (Ans W (.bool false)) from by have h := thin23_c r A xA Ab c xs.length cx ball.length cb W; rwa [ht] at h))
    clear ht
    go_enter Try.func6, Try.ntmps6
    go_wp2_with fail
    generalize (w.alloc (.cells #[.int .i64 r.rows, .int .i64 r.mid, .int .i64 r.gap, .int .i64 r.reach, .slice A r.links.length c] 24)) = x1 at *
    refine (HTH.out _).mono ?_
    rintro e w2 ⟨rfl, hb⟩
    replace HL := Lib.hid (HL.out.step hb)
    replace HX := Lib.hid (HX.out.step hb)
    replace HBa := Lib.hid (HBa.out.step hb)
    replace HLe := Lib.hid (HLe.out.step hb)
    replace k0 := cell_of_ans hb k0
    replace k1 := cell_of_ans hb k1
    replace k2 := cell_of_ans hb k2
    replace k3 := cell_of_ans hb k3
    replace k4 := cell_of_ans hb k4
    replace HB := Lib.hid (HB.out.trans (hb.mono HB.out.size))
    clear hb
    go_wp2_with fail
    refine (awake16_c _).mono ?_
    rintro e wz ⟨rfl, hb⟩
    replace HL := Lib.hid (HL.out.step hb)
    replace HX := Lib.hid (HX.out.step hb)
    replace HBa := Lib.hid (HBa.out.step hb)
    replace HLe := Lib.hid (HLe.out.step hb)
    replace k0 := cell_of_ans hb k0
    replace k1 := cell_of_ans hb k1
    replace k2 := cell_of_ans hb k2
    replace k3 := cell_of_ans hb k3
    replace k4 := cell_of_ans hb k4
    replace HB := Lib.hid (HB.out.trans (hb.mono HB.out.size))
    clear hb
    go_wp2_with fail
    go_ret
    exact ⟨rfl, HB.out⟩
  · have HTH := Lib.hid (fun W => (show Calls Try.prog 23 #[.agg #[.int .i64 r.rows, .int .i64 r.mid, .int .i64 r.gap, .int .i64 r.reach, .slice A r.links.length c], .slice xA xs.length cx, .slice Ab ball.length cb] W (Ans W (.bool true)) from by have h := thin23_c r A xA Ab c xs.length cx ball.length cb W; rwa [ht] at h))
    rw [thinB, Bool.and_eq_true, Bool.and_eq_true, decide_eq_true_eq, decide_eq_true_eq, decide_eq_true_eq] at ht
    obtain ⟨hl16, hx15, hb8⟩ := ht
    have hlen : r.links.length ≤ 1000000 := by omega
    have hxl : xs.length ≤ 1000000 := by omega
    have hbl : ball.length ≤ 1000000 := by omega
    by_cases hle15 : 15 < le.length
    · have hli : (15 : Int) < (le.length : Int) := by omega
      have hld : decide ((15 : Int) < (le.length : Int)) = true := by simp; omega
      go_enter Try.func6, Try.ntmps6
      go_wp2_with fail
      generalize (w.alloc (.cells #[.int .i64 r.rows, .int .i64 r.mid, .int .i64 r.gap, .int .i64 r.reach, .slice A r.links.length c] 24)) = x1 at *
      refine (HTH.out _).mono ?_
      rintro e w2 ⟨rfl, hb⟩
      replace HL := Lib.hid (HL.out.step hb)
      replace HX := Lib.hid (HX.out.step hb)
      replace HBa := Lib.hid (HBa.out.step hb)
      replace HLe := Lib.hid (HLe.out.step hb)
      replace k0 := cell_of_ans hb k0
      replace k1 := cell_of_ans hb k1
      replace k2 := cell_of_ans hb k2
      replace k3 := cell_of_ans hb k3
      replace k4 := cell_of_ans hb k4
      replace HB := Lib.hid (HB.out.trans (hb.mono HB.out.size))
      clear hb
      go_wp2_with fail
      refine (awake16_c _).mono ?_
      rintro e wz ⟨rfl, hb⟩
      replace HL := Lib.hid (HL.out.step hb)
      replace HX := Lib.hid (HX.out.step hb)
      replace HBa := Lib.hid (HBa.out.step hb)
      replace HLe := Lib.hid (HLe.out.step hb)
      replace k0 := cell_of_ans hb k0
      replace k1 := cell_of_ans hb k1
      replace k2 := cell_of_ans hb k2
      replace k3 := cell_of_ans hb k3
      replace k4 := cell_of_ans hb k4
      replace HB := Lib.hid (HB.out.trans (hb.mono HB.out.size))
      clear hb
      go_wp2_with fail
      go_ret
      exact ⟨rfl, HB.out⟩
    · have hli : ¬ (15 : Int) < (le.length : Int) := by omega
      have hld : decide ((15 : Int) < (le.length : Int)) = false := by simp; omega
      have hll : le.length ≤ 1000000 := by omega
      cases hf : fewB r ball
      · have HFW := Lib.hid (fun W h1 h2 => (show Calls Try.prog 31 #[.agg #[.int .i64 r.rows, .int .i64 r.mid, .int .i64 r.gap, .int .i64 r.reach, .slice A r.links.length c], .slice Ab ball.length cb] W (Ans W (.bool false)) from by have h := few31_c r A Ab c cb ball W h1 hc h2 hcb; rwa [hf] at h))
        clear hf
        go_enter Try.func6, Try.ntmps6
        go_wp2_with fail
        generalize (w.alloc (.cells #[.int .i64 r.rows, .int .i64 r.mid, .int .i64 r.gap, .int .i64 r.reach, .slice A r.links.length c] 24)) = x1 at *
        refine (HTH.out _).mono ?_
        rintro e w2 ⟨rfl, hb⟩
        replace HL := Lib.hid (HL.out.step hb)
        replace HX := Lib.hid (HX.out.step hb)
        replace HBa := Lib.hid (HBa.out.step hb)
        replace HLe := Lib.hid (HLe.out.step hb)
        replace k0 := cell_of_ans hb k0
        replace k1 := cell_of_ans hb k1
        replace k2 := cell_of_ans hb k2
        replace k3 := cell_of_ans hb k3
        replace k4 := cell_of_ans hb k4
        replace HB := Lib.hid (HB.out.trans (hb.mono HB.out.size))
        clear hb
        go_wp2_with fail
        refine (HFW.out _ HL.out HBa.out).mono ?_
        rintro e w3 ⟨rfl, hb⟩
        replace HL := Lib.hid (HL.out.step hb)
        replace HX := Lib.hid (HX.out.step hb)
        replace HBa := Lib.hid (HBa.out.step hb)
        replace HLe := Lib.hid (HLe.out.step hb)
        replace k0 := cell_of_ans hb k0
        replace k1 := cell_of_ans hb k1
        replace k2 := cell_of_ans hb k2
        replace k3 := cell_of_ans hb k3
        replace k4 := cell_of_ans hb k4
        replace HB := Lib.hid (HB.out.trans (hb.mono HB.out.size))
        clear hb
        go_wp2_with fail
        refine (awake16_c _).mono ?_
        rintro e wz ⟨rfl, hb⟩
        replace HL := Lib.hid (HL.out.step hb)
        replace HX := Lib.hid (HX.out.step hb)
        replace HBa := Lib.hid (HBa.out.step hb)
        replace HLe := Lib.hid (HLe.out.step hb)
        replace k0 := cell_of_ans hb k0
        replace k1 := cell_of_ans hb k1
        replace k2 := cell_of_ans hb k2
        replace k3 := cell_of_ans hb k3
        replace k4 := cell_of_ans hb k4
        replace HB := Lib.hid (HB.out.trans (hb.mono HB.out.size))
        clear hb
        go_wp2_with fail
        go_ret
        exact ⟨rfl, HB.out⟩
      · have HFW := Lib.hid (fun W h1 h2 => (show Calls Try.prog 31 #[.agg #[.int .i64 r.rows, .int .i64 r.mid, .int .i64 r.gap, .int .i64 r.reach, .slice A r.links.length c], .slice Ab ball.length cb] W (Ans W (.bool true)) from by have h := few31_c r A Ab c cb ball W h1 hc h2 hcb; rwa [hf] at h))
        clear hf
        have HFal := Lib.hid (fun (A4 xA4 Ab4 : Option Addr) (c4 cx4 cb4 : Nat) (W : World) h1 h2 h3 h4 h5 h6 => falls17_c r A4 xA4 Ab4 c4 cx4 cb4 xs ball W h1 h2 h3 h4 h5 h6)
        have HLef := Lib.hid (fun (A4 xA4 Ab4 : Option Addr) (c4 cx4 cb4 : Nat) (W : World) h1 h2 h3 h4 h5 h6 => left21_c r A4 xA4 Ab4 c4 cx4 cb4 xs ball W h1 h2 h3 h4 h5 h6)
        have HCan := Lib.hid (fun (A4 xA4 Ab4 lA4 : Option Addr) (c4 cx4 cb4 cl4 : Nat) (W : World) h1 h2 h3 h4 h5 h6 h7 h8 => canLeave_c r A4 xA4 Ab4 lA4 c4 cx4 cb4 cl4 xs le ball W h1 h2 h3 h4 h5 h6 h7 h8)
        have HThr := Lib.hid (fun (W : World) h1 h2 h3 => thrownAt33_c r A xA Ab c cx cb xs ball W h1 hc h2 hcx h3 hcb)
        obtain ⟨sl, hsl0⟩ : ∃ sl, sl = sureL r xs ball := ⟨_, rfl⟩
        obtain ⟨ml, hml0⟩ : ∃ ml, ml = mayL r xs ball := ⟨_, rfl⟩
        obtain ⟨v1, hv1⟩ : ∃ v1, v1 = ((leftV r xs ball).1 : Int) := ⟨_, rfl⟩
        obtain ⟨v2, hv2⟩ : ∃ v2, v2 = ((leftV r xs ball).2 : Int) := ⟨_, rfl⟩
        obtain ⟨cn, hcn0⟩ : ∃ cn, cn = canB r xs ball le := ⟨_, rfl⟩
        rw [← hsl0, ← hml0] at HFal
        rw [← hv1, ← hv2] at HLef
        rw [← hcn0] at HCan
        by_cases he : thrErr r xs ball = 0
        rotate_left 1
        · obtain ⟨b1, b2, b3, b4⟩ := falls_bad (le := le) he
          rw [← hsl0] at b1
          rw [← hml0] at b2
          rw [b3] at hv1 hv2
          have HV1 : Hid (v1 = 0) := hv1
          have HV2 : Hid (v2 = 0) := hv2
          rw [← hcn0] at b4
          subst b1 b2 b4
          have q1 : (thrErr r xs ball != 0) = true := by simp [he]
          clear b3 hv1 hv2 hsl0 hml0 hcn0 he
          generalize thrErr r xs ball = te at *
          go_enter Try.func6, Try.ntmps6
          go_wp2_with fail
          generalize (w.alloc (.cells #[.int .i64 r.rows, .int .i64 r.mid, .int .i64 r.gap, .int .i64 r.reach, .slice A r.links.length c] 24)) = x1 at *
          refine (HTH.out _).mono ?_
          rintro e w2 ⟨rfl, hb⟩
          replace HL := Lib.hid (HL.out.step hb)
          replace HX := Lib.hid (HX.out.step hb)
          replace HBa := Lib.hid (HBa.out.step hb)
          replace HLe := Lib.hid (HLe.out.step hb)
          replace k0 := cell_of_ans hb k0
          replace k1 := cell_of_ans hb k1
          replace k2 := cell_of_ans hb k2
          replace k3 := cell_of_ans hb k3
          replace k4 := cell_of_ans hb k4
          replace HB := Lib.hid (HB.out.trans (hb.mono HB.out.size))
          clear hb
          go_wp2_with fail
          refine (HFW.out _ HL.out HBa.out).mono ?_
          rintro e w3 ⟨rfl, hb⟩
          replace HL := Lib.hid (HL.out.step hb)
          replace HX := Lib.hid (HX.out.step hb)
          replace HBa := Lib.hid (HBa.out.step hb)
          replace HLe := Lib.hid (HLe.out.step hb)
          replace k0 := cell_of_ans hb k0
          replace k1 := cell_of_ans hb k1
          replace k2 := cell_of_ans hb k2
          replace k3 := cell_of_ans hb k3
          replace k4 := cell_of_ans hb k4
          replace HB := Lib.hid (HB.out.trans (hb.mono HB.out.size))
          clear hb
          go_wp2_with fail
          refine (rack18_c r A c _ HL.out hc hlen).mono ?_
          rintro e w5 ⟨A5, c5, rfl, ⟨hl5, hc5⟩, hb⟩
          replace HL := Lib.hid (HL.out.step hb)
          replace HX := Lib.hid (HX.out.step hb)
          replace HBa := Lib.hid (HBa.out.step hb)
          replace HLe := Lib.hid (HLe.out.step hb)
          replace k0 := cell_of_ans hb k0
          replace k1 := cell_of_ans hb k1
          replace k2 := cell_of_ans hb k2
          replace k3 := cell_of_ans hb k3
          replace k4 := cell_of_ans hb k4
          replace HB := Lib.hid (HB.out.trans (hb.mono HB.out.size))
          clear hb
          have Hhl5 := Lib.hid hl5
          clear hl5
          go_wp2_with fail
          refine (list_c xA xs cx _ HX.out hxl).mono ?_
          rintro e w6 ⟨B5, d5, rfl, ho5, hb⟩
          obtain ⟨hd5, he5, hi5⟩ := isInts_parts (ownsRow_isInts ho5)
          clear ho5
          replace HL := Lib.hid (HL.out.step hb)
          replace HX := Lib.hid (HX.out.step hb)
          replace HBa := Lib.hid (HBa.out.step hb)
          replace HLe := Lib.hid (HLe.out.step hb)
          replace k0 := cell_of_ans hb k0
          replace k1 := cell_of_ans hb k1
          replace k2 := cell_of_ans hb k2
          replace k3 := cell_of_ans hb k3
          replace k4 := cell_of_ans hb k4
          replace Hhl5 := Lib.hid (Hhl5.out.step hb)
          replace HB := Lib.hid (HB.out.trans (hb.mono HB.out.size))
          clear hb
          have Hhi5 := Lib.hid hi5
          clear hi5
          go_wp2_with fail
          refine (ball20_c Ab cb ball _ HBa.out hcb hbl).mono ?_
          rintro e w7 ⟨G5, g5, rfl, ⟨hg5, hh5, hj5⟩, hb⟩
          replace HL := Lib.hid (HL.out.step hb)
          replace HX := Lib.hid (HX.out.step hb)
          replace HBa := Lib.hid (HBa.out.step hb)
          replace HLe := Lib.hid (HLe.out.step hb)
          replace k0 := cell_of_ans hb k0
          replace k1 := cell_of_ans hb k1
          replace k2 := cell_of_ans hb k2
          replace k3 := cell_of_ans hb k3
          replace k4 := cell_of_ans hb k4
          replace Hhl5 := Lib.hid (Hhl5.out.step hb)
          replace Hhi5 := Lib.hid (Hhi5.out.step hb)
          replace HB := Lib.hid (HB.out.trans (hb.mono HB.out.size))
          clear hb
          have Hhg5 := Lib.hid hg5
          clear hg5
          go_wp2_with fail
          refine (HFal.out _ _ _ _ _ _ _ Hhl5.out hc5 Hhi5.out ⟨hd5, he5⟩ Hhg5.out ⟨hh5, hj5⟩).mono ?_
          rintro e w8 ⟨sA2, cs2, mA, cm, rfl, ⟨hsl, hsl2⟩, ⟨hml, hml2⟩, hb⟩
          replace HL := Lib.hid (HL.out.step hb)
          replace HX := Lib.hid (HX.out.step hb)
          replace HBa := Lib.hid (HBa.out.step hb)
          replace HLe := Lib.hid (HLe.out.step hb)
          replace k0 := cell_of_ans hb k0
          replace k1 := cell_of_ans hb k1
          replace k2 := cell_of_ans hb k2
          replace k3 := cell_of_ans hb k3
          replace k4 := cell_of_ans hb k4
          replace Hhl5 := Lib.hid (Hhl5.out.step hb)
          replace Hhi5 := Lib.hid (Hhi5.out.step hb)
          replace Hhg5 := Lib.hid (Hhg5.out.step hb)
          replace HB := Lib.hid (HB.out.trans (hb.mono HB.out.size))
          clear hb
          have Hhsl := Lib.hid hsl
          clear hsl
          have Hhml := Lib.hid hml
          clear hml
          clear Hhl5 Hhi5 Hhg5
          go_wp2_with fail
          refine (rack18_c r A c _ HL.out hc hlen).mono ?_
          rintro e w9 ⟨A6, c6, rfl, ⟨hl6, hc6⟩, hb⟩
          replace HL := Lib.hid (HL.out.step hb)
          replace HX := Lib.hid (HX.out.step hb)
          replace HBa := Lib.hid (HBa.out.step hb)
          replace HLe := Lib.hid (HLe.out.step hb)
          replace k0 := cell_of_ans hb k0
          replace k1 := cell_of_ans hb k1
          replace k2 := cell_of_ans hb k2
          replace k3 := cell_of_ans hb k3
          replace k4 := cell_of_ans hb k4
          replace Hhsl := Lib.hid (Hhsl.out.step hb)
          replace Hhml := Lib.hid (Hhml.out.step hb)
          replace HB := Lib.hid (HB.out.trans (hb.mono HB.out.size))
          clear hb
          have Hhl6 := Lib.hid hl6
          clear hl6
          go_wp2_with fail
          refine (list_c xA xs cx _ HX.out hxl).mono ?_
          rintro e w10 ⟨B6, d6, rfl, ho6, hb⟩
          obtain ⟨hd6, he6, hi6⟩ := isInts_parts (ownsRow_isInts ho6)
          clear ho6
          replace HL := Lib.hid (HL.out.step hb)
          replace HX := Lib.hid (HX.out.step hb)
          replace HBa := Lib.hid (HBa.out.step hb)
          replace HLe := Lib.hid (HLe.out.step hb)
          replace k0 := cell_of_ans hb k0
          replace k1 := cell_of_ans hb k1
          replace k2 := cell_of_ans hb k2
          replace k3 := cell_of_ans hb k3
          replace k4 := cell_of_ans hb k4
          replace Hhsl := Lib.hid (Hhsl.out.step hb)
          replace Hhml := Lib.hid (Hhml.out.step hb)
          replace Hhl6 := Lib.hid (Hhl6.out.step hb)
          replace HB := Lib.hid (HB.out.trans (hb.mono HB.out.size))
          clear hb
          have Hhi6 := Lib.hid hi6
          clear hi6
          go_wp2_with fail
          refine (ball20_c Ab cb ball _ HBa.out hcb hbl).mono ?_
          rintro e w11 ⟨G6, g6, rfl, ⟨hg6, hh6, hj6⟩, hb⟩
          replace HL := Lib.hid (HL.out.step hb)
          replace HX := Lib.hid (HX.out.step hb)
          replace HBa := Lib.hid (HBa.out.step hb)
          replace HLe := Lib.hid (HLe.out.step hb)
          replace k0 := cell_of_ans hb k0
          replace k1 := cell_of_ans hb k1
          replace k2 := cell_of_ans hb k2
          replace k3 := cell_of_ans hb k3
          replace k4 := cell_of_ans hb k4
          replace Hhsl := Lib.hid (Hhsl.out.step hb)
          replace Hhml := Lib.hid (Hhml.out.step hb)
          replace Hhl6 := Lib.hid (Hhl6.out.step hb)
          replace Hhi6 := Lib.hid (Hhi6.out.step hb)
          replace HB := Lib.hid (HB.out.trans (hb.mono HB.out.size))
          clear hb
          have Hhg6 := Lib.hid hg6
          clear hg6
          go_wp2_with fail
          refine (HLef.out _ _ _ _ _ _ _ Hhl6.out hc6 Hhi6.out ⟨hd6, he6⟩ Hhg6.out ⟨hh6, hj6⟩).mono ?_
          rintro e w12 ⟨rfl, hb⟩
          replace HL := Lib.hid (HL.out.step hb)
          replace HX := Lib.hid (HX.out.step hb)
          replace HBa := Lib.hid (HBa.out.step hb)
          replace HLe := Lib.hid (HLe.out.step hb)
          replace k0 := cell_of_ans hb k0
          replace k1 := cell_of_ans hb k1
          replace k2 := cell_of_ans hb k2
          replace k3 := cell_of_ans hb k3
          replace k4 := cell_of_ans hb k4
          replace Hhsl := Lib.hid (Hhsl.out.step hb)
          replace Hhml := Lib.hid (Hhml.out.step hb)
          replace Hhl6 := Lib.hid (Hhl6.out.step hb)
          replace Hhi6 := Lib.hid (Hhi6.out.step hb)
          replace Hhg6 := Lib.hid (Hhg6.out.step hb)
          replace HB := Lib.hid (HB.out.trans (hb.mono HB.out.size))
          clear hb
          clear Hhl6 Hhi6 Hhg6
          have ltk0 := World.block_lt_of_cell? _ _ k0
          dsimp only at ltk0
          go_upto_region 5 with fail
          have hb : Below w12.heap.size w12 (w12.alloc (.cells #[.int .i64 v1, .int .i64 v2] 44)) := (Below.refl _ _).alloc (Nat.le_refl _) _
          replace HL := Lib.hid (HL.out.step hb)
          replace HX := Lib.hid (HX.out.step hb)
          replace HBa := Lib.hid (HBa.out.step hb)
          replace HLe := Lib.hid (HLe.out.step hb)
          replace k0 := cell_of_ans hb k0
          replace k1 := cell_of_ans hb k1
          replace k2 := cell_of_ans hb k2
          replace k3 := cell_of_ans hb k3
          replace k4 := cell_of_ans hb k4
          replace Hhsl := Lib.hid (Hhsl.out.step hb)
          replace Hhml := Lib.hid (Hhml.out.step hb)
          replace HB := Lib.hid (HB.out.trans (hb.mono HB.out.size))
          clear hb
          have n0 : (w12.alloc (.cells #[.int .i64 v1, .int .i64 v2] 44)).cell? ⟨w12.heap.size, 0, none⟩ = some (.int .i64 v1) := by simp
          have n1 : (w12.alloc (.cells #[.int .i64 v1, .int .i64 v2] 44)).cell? ⟨w12.heap.size, 1, none⟩ = some (.int .i64 v2) := by simp
          generalize (w12.alloc (.cells #[.int .i64 v1, .int .i64 v2] 44)) = w13 at *
          generalize w12.heap.size = nq at *
          go_wp2_with fail
          refine (rack18_c r A c _ HL.out hc hlen).mono ?_
          rintro e w14 ⟨A7, c7, rfl, ⟨hl7, hc7⟩, hb⟩
          replace HL := Lib.hid (HL.out.step hb)
          replace HX := Lib.hid (HX.out.step hb)
          replace HBa := Lib.hid (HBa.out.step hb)
          replace HLe := Lib.hid (HLe.out.step hb)
          replace k0 := cell_of_ans hb k0
          replace k1 := cell_of_ans hb k1
          replace k2 := cell_of_ans hb k2
          replace k3 := cell_of_ans hb k3
          replace k4 := cell_of_ans hb k4
          replace Hhsl := Lib.hid (Hhsl.out.step hb)
          replace Hhml := Lib.hid (Hhml.out.step hb)
          replace n0 := cell_of_ans hb n0
          replace n1 := cell_of_ans hb n1
          replace HB := Lib.hid (HB.out.trans (hb.mono HB.out.size))
          clear hb
          have Hhl7 := Lib.hid hl7
          clear hl7
          go_wp2_with fail
          refine (list_c xA xs cx _ HX.out hxl).mono ?_
          rintro e w15 ⟨B7, d7, rfl, ho7, hb⟩
          obtain ⟨hd7, he7, hi7⟩ := isInts_parts (ownsRow_isInts ho7)
          clear ho7
          replace HL := Lib.hid (HL.out.step hb)
          replace HX := Lib.hid (HX.out.step hb)
          replace HBa := Lib.hid (HBa.out.step hb)
          replace HLe := Lib.hid (HLe.out.step hb)
          replace k0 := cell_of_ans hb k0
          replace k1 := cell_of_ans hb k1
          replace k2 := cell_of_ans hb k2
          replace k3 := cell_of_ans hb k3
          replace k4 := cell_of_ans hb k4
          replace Hhsl := Lib.hid (Hhsl.out.step hb)
          replace Hhml := Lib.hid (Hhml.out.step hb)
          replace n0 := cell_of_ans hb n0
          replace n1 := cell_of_ans hb n1
          replace Hhl7 := Lib.hid (Hhl7.out.step hb)
          replace HB := Lib.hid (HB.out.trans (hb.mono HB.out.size))
          clear hb
          have Hhi7 := Lib.hid hi7
          clear hi7
          go_wp2_with fail
          refine (ball20_c Ab cb ball _ HBa.out hcb hbl).mono ?_
          rintro e w16 ⟨G7, g7, rfl, ⟨hg7, hh7, hj7⟩, hb⟩
          replace HL := Lib.hid (HL.out.step hb)
          replace HX := Lib.hid (HX.out.step hb)
          replace HBa := Lib.hid (HBa.out.step hb)
          replace HLe := Lib.hid (HLe.out.step hb)
          replace k0 := cell_of_ans hb k0
          replace k1 := cell_of_ans hb k1
          replace k2 := cell_of_ans hb k2
          replace k3 := cell_of_ans hb k3
          replace k4 := cell_of_ans hb k4
          replace Hhsl := Lib.hid (Hhsl.out.step hb)
          replace Hhml := Lib.hid (Hhml.out.step hb)
          replace n0 := cell_of_ans hb n0
          replace n1 := cell_of_ans hb n1
          replace Hhl7 := Lib.hid (Hhl7.out.step hb)
          replace Hhi7 := Lib.hid (Hhi7.out.step hb)
          replace HB := Lib.hid (HB.out.trans (hb.mono HB.out.size))
          clear hb
          have Hhg7 := Lib.hid hg7
          clear hg7
          go_wp2_with fail
          refine (list_c lA le cl _ HLe.out hll).mono ?_
          rintro e w17 ⟨B8, d8, rfl, ho8, hb⟩
          obtain ⟨hd8, he8, hi8⟩ := isInts_parts (ownsRow_isInts ho8)
          clear ho8
          replace HL := Lib.hid (HL.out.step hb)
          replace HX := Lib.hid (HX.out.step hb)
          replace HBa := Lib.hid (HBa.out.step hb)
          replace HLe := Lib.hid (HLe.out.step hb)
          replace k0 := cell_of_ans hb k0
          replace k1 := cell_of_ans hb k1
          replace k2 := cell_of_ans hb k2
          replace k3 := cell_of_ans hb k3
          replace k4 := cell_of_ans hb k4
          replace Hhsl := Lib.hid (Hhsl.out.step hb)
          replace Hhml := Lib.hid (Hhml.out.step hb)
          replace n0 := cell_of_ans hb n0
          replace n1 := cell_of_ans hb n1
          replace Hhl7 := Lib.hid (Hhl7.out.step hb)
          replace Hhi7 := Lib.hid (Hhi7.out.step hb)
          replace Hhg7 := Lib.hid (Hhg7.out.step hb)
          replace HB := Lib.hid (HB.out.trans (hb.mono HB.out.size))
          clear hb
          have Hhi8 := Lib.hid hi8
          clear hi8
          go_wp2_with fail
          refine (HCan.out _ _ _ _ _ _ _ _ _ Hhl7.out hc7 Hhi7.out ⟨hd7, he7⟩ Hhg7.out ⟨hh7, hj7⟩ Hhi8.out ⟨hd8, he8⟩).mono ?_
          rintro e w18 ⟨rfl, hb⟩
          replace HL := Lib.hid (HL.out.step hb)
          replace HX := Lib.hid (HX.out.step hb)
          replace HBa := Lib.hid (HBa.out.step hb)
          replace HLe := Lib.hid (HLe.out.step hb)
          replace k0 := cell_of_ans hb k0
          replace k1 := cell_of_ans hb k1
          replace k2 := cell_of_ans hb k2
          replace k3 := cell_of_ans hb k3
          replace k4 := cell_of_ans hb k4
          replace Hhsl := Lib.hid (Hhsl.out.step hb)
          replace Hhml := Lib.hid (Hhml.out.step hb)
          replace n0 := cell_of_ans hb n0
          replace n1 := cell_of_ans hb n1
          replace Hhl7 := Lib.hid (Hhl7.out.step hb)
          replace Hhi7 := Lib.hid (Hhi7.out.step hb)
          replace Hhg7 := Lib.hid (Hhg7.out.step hb)
          replace Hhi8 := Lib.hid (Hhi8.out.step hb)
          replace HB := Lib.hid (HB.out.trans (hb.mono HB.out.size))
          clear hb
          clear Hhl7 Hhi7 Hhg7 Hhi8
          go_wp2_with fail
          refine (HThr.out _ HL.out HX.out HBa.out).mono ?_
          rintro e w19 ⟨rfl, hb⟩
          replace HL := Lib.hid (HL.out.step hb)
          replace HX := Lib.hid (HX.out.step hb)
          replace HBa := Lib.hid (HBa.out.step hb)
          replace HLe := Lib.hid (HLe.out.step hb)
          replace k0 := cell_of_ans hb k0
          replace k1 := cell_of_ans hb k1
          replace k2 := cell_of_ans hb k2
          replace k3 := cell_of_ans hb k3
          replace k4 := cell_of_ans hb k4
          replace Hhsl := Lib.hid (Hhsl.out.step hb)
          replace Hhml := Lib.hid (Hhml.out.step hb)
          replace n0 := cell_of_ans hb n0
          replace n1 := cell_of_ans hb n1
          replace HB := Lib.hid (HB.out.trans (hb.mono HB.out.size))
          clear hb
          clear HFal HLef HCan HThr HFW HTH
          rw [HV1.out] at n0
          rw [HV2.out] at n1
          have hq44 := fun (a b c d : Int) (w : World) => eq44' a b c d w
          go_wp2_with fail
          refine (awake16_c _).mono ?_
          rintro e wz ⟨rfl, hb⟩
          replace HL := Lib.hid (HL.out.step hb)
          replace HX := Lib.hid (HX.out.step hb)
          replace HBa := Lib.hid (HBa.out.step hb)
          replace HLe := Lib.hid (HLe.out.step hb)
          replace k0 := cell_of_ans hb k0
          replace k1 := cell_of_ans hb k1
          replace k2 := cell_of_ans hb k2
          replace k3 := cell_of_ans hb k3
          replace k4 := cell_of_ans hb k4
          replace Hhsl := Lib.hid (Hhsl.out.step hb)
          replace Hhml := Lib.hid (Hhml.out.step hb)
          replace n0 := cell_of_ans hb n0
          replace n1 := cell_of_ans hb n1
          replace HB := Lib.hid (HB.out.trans (hb.mono HB.out.size))
          clear hb
          go_wp2_with fail
          go_ret
          exact ⟨rfl, HB.out⟩
        · obtain ⟨f1, f2, f3, f4, f5⟩ := falls_law (leave := le) he
          rw [← hv1] at f1
          rw [← hv2] at f2
          rw [← hcn0] at f3
          rw [← hsl0] at f4
          rw [← hml0] at f5
          obtain ⟨hpe, hok, hbr, -, hrg⟩ := thr_parts he
          have hr4 := hok.rows4
          have hpl := len_many hpe
          have hLv := Lib.hid (fun (W : World) h1 h2 h3 => leaves34_c r A xA Ab c cx cb xs ball W h1 hc h2 hcx h3 hcb hpe hbr (by omega) hok.len (by rw [hpl]; exact many_le _) (cL_64 (thr_rack he)) hrg)
          have hx10 : xs.length ≤ 10 := by rw [hpl]; exact many_le _
          clear hbr hpl hrg hok hpe
          rw [he] at HFal HLef HThr
          clear he hsl0 hml0 hv1 hv2 hcn0
          generalize leavesL r (pinS r xs) ball = L at *
          have HF1 := Lib.hid f1
          have HF2 := Lib.hid f2
          have HF3 := Lib.hid f3
          have HF4 := Lib.hid f4
          have HF5 := Lib.hid f5
          clear f1 f2 f3 f4 f5
          go_enter Try.func6, Try.ntmps6
          go_wp2_with fail
          generalize (w.alloc (.cells #[.int .i64 r.rows, .int .i64 r.mid, .int .i64 r.gap, .int .i64 r.reach, .slice A r.links.length c] 24)) = x1 at *
          refine (HTH.out _).mono ?_
          rintro e w2 ⟨rfl, hb⟩
          replace HL := Lib.hid (HL.out.step hb)
          replace HX := Lib.hid (HX.out.step hb)
          replace HBa := Lib.hid (HBa.out.step hb)
          replace HLe := Lib.hid (HLe.out.step hb)
          replace k0 := cell_of_ans hb k0
          replace k1 := cell_of_ans hb k1
          replace k2 := cell_of_ans hb k2
          replace k3 := cell_of_ans hb k3
          replace k4 := cell_of_ans hb k4
          replace HB := Lib.hid (HB.out.trans (hb.mono HB.out.size))
          clear hb
          go_wp2_with fail
          refine (HFW.out _ HL.out HBa.out).mono ?_
          rintro e w3 ⟨rfl, hb⟩
          replace HL := Lib.hid (HL.out.step hb)
          replace HX := Lib.hid (HX.out.step hb)
          replace HBa := Lib.hid (HBa.out.step hb)
          replace HLe := Lib.hid (HLe.out.step hb)
          replace k0 := cell_of_ans hb k0
          replace k1 := cell_of_ans hb k1
          replace k2 := cell_of_ans hb k2
          replace k3 := cell_of_ans hb k3
          replace k4 := cell_of_ans hb k4
          replace HB := Lib.hid (HB.out.trans (hb.mono HB.out.size))
          clear hb
          go_wp2_with fail
          refine (rack18_c r A c _ HL.out hc hlen).mono ?_
          rintro e w5 ⟨A5, c5, rfl, ⟨hl5, hc5⟩, hb⟩
          replace HL := Lib.hid (HL.out.step hb)
          replace HX := Lib.hid (HX.out.step hb)
          replace HBa := Lib.hid (HBa.out.step hb)
          replace HLe := Lib.hid (HLe.out.step hb)
          replace k0 := cell_of_ans hb k0
          replace k1 := cell_of_ans hb k1
          replace k2 := cell_of_ans hb k2
          replace k3 := cell_of_ans hb k3
          replace k4 := cell_of_ans hb k4
          replace HB := Lib.hid (HB.out.trans (hb.mono HB.out.size))
          clear hb
          have Hhl5 := Lib.hid hl5
          clear hl5
          go_wp2_with fail
          refine (list_c xA xs cx _ HX.out hxl).mono ?_
          rintro e w6 ⟨B5, d5, rfl, ho5, hb⟩
          obtain ⟨hd5, he5, hi5⟩ := isInts_parts (ownsRow_isInts ho5)
          clear ho5
          replace HL := Lib.hid (HL.out.step hb)
          replace HX := Lib.hid (HX.out.step hb)
          replace HBa := Lib.hid (HBa.out.step hb)
          replace HLe := Lib.hid (HLe.out.step hb)
          replace k0 := cell_of_ans hb k0
          replace k1 := cell_of_ans hb k1
          replace k2 := cell_of_ans hb k2
          replace k3 := cell_of_ans hb k3
          replace k4 := cell_of_ans hb k4
          replace Hhl5 := Lib.hid (Hhl5.out.step hb)
          replace HB := Lib.hid (HB.out.trans (hb.mono HB.out.size))
          clear hb
          have Hhi5 := Lib.hid hi5
          clear hi5
          go_wp2_with fail
          refine (ball20_c Ab cb ball _ HBa.out hcb hbl).mono ?_
          rintro e w7 ⟨G5, g5, rfl, ⟨hg5, hh5, hj5⟩, hb⟩
          replace HL := Lib.hid (HL.out.step hb)
          replace HX := Lib.hid (HX.out.step hb)
          replace HBa := Lib.hid (HBa.out.step hb)
          replace HLe := Lib.hid (HLe.out.step hb)
          replace k0 := cell_of_ans hb k0
          replace k1 := cell_of_ans hb k1
          replace k2 := cell_of_ans hb k2
          replace k3 := cell_of_ans hb k3
          replace k4 := cell_of_ans hb k4
          replace Hhl5 := Lib.hid (Hhl5.out.step hb)
          replace Hhi5 := Lib.hid (Hhi5.out.step hb)
          replace HB := Lib.hid (HB.out.trans (hb.mono HB.out.size))
          clear hb
          have Hhg5 := Lib.hid hg5
          clear hg5
          go_wp2_with fail
          refine (HFal.out _ _ _ _ _ _ _ Hhl5.out hc5 Hhi5.out ⟨hd5, he5⟩ Hhg5.out ⟨hh5, hj5⟩).mono ?_
          rintro e w8 ⟨sA2, cs2, mA, cm, rfl, ⟨hsl, hsl2⟩, ⟨hml, hml2⟩, hb⟩
          replace HL := Lib.hid (HL.out.step hb)
          replace HX := Lib.hid (HX.out.step hb)
          replace HBa := Lib.hid (HBa.out.step hb)
          replace HLe := Lib.hid (HLe.out.step hb)
          replace k0 := cell_of_ans hb k0
          replace k1 := cell_of_ans hb k1
          replace k2 := cell_of_ans hb k2
          replace k3 := cell_of_ans hb k3
          replace k4 := cell_of_ans hb k4
          replace Hhl5 := Lib.hid (Hhl5.out.step hb)
          replace Hhi5 := Lib.hid (Hhi5.out.step hb)
          replace Hhg5 := Lib.hid (Hhg5.out.step hb)
          replace HB := Lib.hid (HB.out.trans (hb.mono HB.out.size))
          clear hb
          have Hhsl := Lib.hid hsl
          clear hsl
          have Hhml := Lib.hid hml
          clear hml
          clear Hhl5 Hhi5 Hhg5
          go_wp2_with fail
          refine (rack18_c r A c _ HL.out hc hlen).mono ?_
          rintro e w9 ⟨A6, c6, rfl, ⟨hl6, hc6⟩, hb⟩
          replace HL := Lib.hid (HL.out.step hb)
          replace HX := Lib.hid (HX.out.step hb)
          replace HBa := Lib.hid (HBa.out.step hb)
          replace HLe := Lib.hid (HLe.out.step hb)
          replace k0 := cell_of_ans hb k0
          replace k1 := cell_of_ans hb k1
          replace k2 := cell_of_ans hb k2
          replace k3 := cell_of_ans hb k3
          replace k4 := cell_of_ans hb k4
          replace Hhsl := Lib.hid (Hhsl.out.step hb)
          replace Hhml := Lib.hid (Hhml.out.step hb)
          replace HB := Lib.hid (HB.out.trans (hb.mono HB.out.size))
          clear hb
          have Hhl6 := Lib.hid hl6
          clear hl6
          go_wp2_with fail
          refine (list_c xA xs cx _ HX.out hxl).mono ?_
          rintro e w10 ⟨B6, d6, rfl, ho6, hb⟩
          obtain ⟨hd6, he6, hi6⟩ := isInts_parts (ownsRow_isInts ho6)
          clear ho6
          replace HL := Lib.hid (HL.out.step hb)
          replace HX := Lib.hid (HX.out.step hb)
          replace HBa := Lib.hid (HBa.out.step hb)
          replace HLe := Lib.hid (HLe.out.step hb)
          replace k0 := cell_of_ans hb k0
          replace k1 := cell_of_ans hb k1
          replace k2 := cell_of_ans hb k2
          replace k3 := cell_of_ans hb k3
          replace k4 := cell_of_ans hb k4
          replace Hhsl := Lib.hid (Hhsl.out.step hb)
          replace Hhml := Lib.hid (Hhml.out.step hb)
          replace Hhl6 := Lib.hid (Hhl6.out.step hb)
          replace HB := Lib.hid (HB.out.trans (hb.mono HB.out.size))
          clear hb
          have Hhi6 := Lib.hid hi6
          clear hi6
          go_wp2_with fail
          refine (ball20_c Ab cb ball _ HBa.out hcb hbl).mono ?_
          rintro e w11 ⟨G6, g6, rfl, ⟨hg6, hh6, hj6⟩, hb⟩
          replace HL := Lib.hid (HL.out.step hb)
          replace HX := Lib.hid (HX.out.step hb)
          replace HBa := Lib.hid (HBa.out.step hb)
          replace HLe := Lib.hid (HLe.out.step hb)
          replace k0 := cell_of_ans hb k0
          replace k1 := cell_of_ans hb k1
          replace k2 := cell_of_ans hb k2
          replace k3 := cell_of_ans hb k3
          replace k4 := cell_of_ans hb k4
          replace Hhsl := Lib.hid (Hhsl.out.step hb)
          replace Hhml := Lib.hid (Hhml.out.step hb)
          replace Hhl6 := Lib.hid (Hhl6.out.step hb)
          replace Hhi6 := Lib.hid (Hhi6.out.step hb)
          replace HB := Lib.hid (HB.out.trans (hb.mono HB.out.size))
          clear hb
          have Hhg6 := Lib.hid hg6
          clear hg6
          go_wp2_with fail
          refine (HLef.out _ _ _ _ _ _ _ Hhl6.out hc6 Hhi6.out ⟨hd6, he6⟩ Hhg6.out ⟨hh6, hj6⟩).mono ?_
          rintro e w12 ⟨rfl, hb⟩
          replace HL := Lib.hid (HL.out.step hb)
          replace HX := Lib.hid (HX.out.step hb)
          replace HBa := Lib.hid (HBa.out.step hb)
          replace HLe := Lib.hid (HLe.out.step hb)
          replace k0 := cell_of_ans hb k0
          replace k1 := cell_of_ans hb k1
          replace k2 := cell_of_ans hb k2
          replace k3 := cell_of_ans hb k3
          replace k4 := cell_of_ans hb k4
          replace Hhsl := Lib.hid (Hhsl.out.step hb)
          replace Hhml := Lib.hid (Hhml.out.step hb)
          replace Hhl6 := Lib.hid (Hhl6.out.step hb)
          replace Hhi6 := Lib.hid (Hhi6.out.step hb)
          replace Hhg6 := Lib.hid (Hhg6.out.step hb)
          replace HB := Lib.hid (HB.out.trans (hb.mono HB.out.size))
          clear hb
          clear Hhl6 Hhi6 Hhg6
          have ltk0 := World.block_lt_of_cell? _ _ k0
          dsimp only at ltk0
          go_upto_region 5 with fail
          have hb : Below w12.heap.size w12 (w12.alloc (.cells #[.int .i64 v1, .int .i64 v2] 44)) := (Below.refl _ _).alloc (Nat.le_refl _) _
          replace HL := Lib.hid (HL.out.step hb)
          replace HX := Lib.hid (HX.out.step hb)
          replace HBa := Lib.hid (HBa.out.step hb)
          replace HLe := Lib.hid (HLe.out.step hb)
          replace k0 := cell_of_ans hb k0
          replace k1 := cell_of_ans hb k1
          replace k2 := cell_of_ans hb k2
          replace k3 := cell_of_ans hb k3
          replace k4 := cell_of_ans hb k4
          replace Hhsl := Lib.hid (Hhsl.out.step hb)
          replace Hhml := Lib.hid (Hhml.out.step hb)
          replace HB := Lib.hid (HB.out.trans (hb.mono HB.out.size))
          clear hb
          have n0 : (w12.alloc (.cells #[.int .i64 v1, .int .i64 v2] 44)).cell? ⟨w12.heap.size, 0, none⟩ = some (.int .i64 v1) := by simp
          have n1 : (w12.alloc (.cells #[.int .i64 v1, .int .i64 v2] 44)).cell? ⟨w12.heap.size, 1, none⟩ = some (.int .i64 v2) := by simp
          generalize (w12.alloc (.cells #[.int .i64 v1, .int .i64 v2] 44)) = w13 at *
          generalize w12.heap.size = nq at *
          go_wp2_with fail
          refine (rack18_c r A c _ HL.out hc hlen).mono ?_
          rintro e w14 ⟨A7, c7, rfl, ⟨hl7, hc7⟩, hb⟩
          replace HL := Lib.hid (HL.out.step hb)
          replace HX := Lib.hid (HX.out.step hb)
          replace HBa := Lib.hid (HBa.out.step hb)
          replace HLe := Lib.hid (HLe.out.step hb)
          replace k0 := cell_of_ans hb k0
          replace k1 := cell_of_ans hb k1
          replace k2 := cell_of_ans hb k2
          replace k3 := cell_of_ans hb k3
          replace k4 := cell_of_ans hb k4
          replace Hhsl := Lib.hid (Hhsl.out.step hb)
          replace Hhml := Lib.hid (Hhml.out.step hb)
          replace n0 := cell_of_ans hb n0
          replace n1 := cell_of_ans hb n1
          replace HB := Lib.hid (HB.out.trans (hb.mono HB.out.size))
          clear hb
          have Hhl7 := Lib.hid hl7
          clear hl7
          go_wp2_with fail
          refine (list_c xA xs cx _ HX.out hxl).mono ?_
          rintro e w15 ⟨B7, d7, rfl, ho7, hb⟩
          obtain ⟨hd7, he7, hi7⟩ := isInts_parts (ownsRow_isInts ho7)
          clear ho7
          replace HL := Lib.hid (HL.out.step hb)
          replace HX := Lib.hid (HX.out.step hb)
          replace HBa := Lib.hid (HBa.out.step hb)
          replace HLe := Lib.hid (HLe.out.step hb)
          replace k0 := cell_of_ans hb k0
          replace k1 := cell_of_ans hb k1
          replace k2 := cell_of_ans hb k2
          replace k3 := cell_of_ans hb k3
          replace k4 := cell_of_ans hb k4
          replace Hhsl := Lib.hid (Hhsl.out.step hb)
          replace Hhml := Lib.hid (Hhml.out.step hb)
          replace n0 := cell_of_ans hb n0
          replace n1 := cell_of_ans hb n1
          replace Hhl7 := Lib.hid (Hhl7.out.step hb)
          replace HB := Lib.hid (HB.out.trans (hb.mono HB.out.size))
          clear hb
          have Hhi7 := Lib.hid hi7
          clear hi7
          go_wp2_with fail
          refine (ball20_c Ab cb ball _ HBa.out hcb hbl).mono ?_
          rintro e w16 ⟨G7, g7, rfl, ⟨hg7, hh7, hj7⟩, hb⟩
          replace HL := Lib.hid (HL.out.step hb)
          replace HX := Lib.hid (HX.out.step hb)
          replace HBa := Lib.hid (HBa.out.step hb)
          replace HLe := Lib.hid (HLe.out.step hb)
          replace k0 := cell_of_ans hb k0
          replace k1 := cell_of_ans hb k1
          replace k2 := cell_of_ans hb k2
          replace k3 := cell_of_ans hb k3
          replace k4 := cell_of_ans hb k4
          replace Hhsl := Lib.hid (Hhsl.out.step hb)
          replace Hhml := Lib.hid (Hhml.out.step hb)
          replace n0 := cell_of_ans hb n0
          replace n1 := cell_of_ans hb n1
          replace Hhl7 := Lib.hid (Hhl7.out.step hb)
          replace Hhi7 := Lib.hid (Hhi7.out.step hb)
          replace HB := Lib.hid (HB.out.trans (hb.mono HB.out.size))
          clear hb
          have Hhg7 := Lib.hid hg7
          clear hg7
          go_wp2_with fail
          refine (list_c lA le cl _ HLe.out hll).mono ?_
          rintro e w17 ⟨B8, d8, rfl, ho8, hb⟩
          obtain ⟨hd8, he8, hi8⟩ := isInts_parts (ownsRow_isInts ho8)
          clear ho8
          replace HL := Lib.hid (HL.out.step hb)
          replace HX := Lib.hid (HX.out.step hb)
          replace HBa := Lib.hid (HBa.out.step hb)
          replace HLe := Lib.hid (HLe.out.step hb)
          replace k0 := cell_of_ans hb k0
          replace k1 := cell_of_ans hb k1
          replace k2 := cell_of_ans hb k2
          replace k3 := cell_of_ans hb k3
          replace k4 := cell_of_ans hb k4
          replace Hhsl := Lib.hid (Hhsl.out.step hb)
          replace Hhml := Lib.hid (Hhml.out.step hb)
          replace n0 := cell_of_ans hb n0
          replace n1 := cell_of_ans hb n1
          replace Hhl7 := Lib.hid (Hhl7.out.step hb)
          replace Hhi7 := Lib.hid (Hhi7.out.step hb)
          replace Hhg7 := Lib.hid (Hhg7.out.step hb)
          replace HB := Lib.hid (HB.out.trans (hb.mono HB.out.size))
          clear hb
          have Hhi8 := Lib.hid hi8
          clear hi8
          go_wp2_with fail
          refine (HCan.out _ _ _ _ _ _ _ _ _ Hhl7.out hc7 Hhi7.out ⟨hd7, he7⟩ Hhg7.out ⟨hh7, hj7⟩ Hhi8.out ⟨hd8, he8⟩).mono ?_
          rintro e w18 ⟨rfl, hb⟩
          replace HL := Lib.hid (HL.out.step hb)
          replace HX := Lib.hid (HX.out.step hb)
          replace HBa := Lib.hid (HBa.out.step hb)
          replace HLe := Lib.hid (HLe.out.step hb)
          replace k0 := cell_of_ans hb k0
          replace k1 := cell_of_ans hb k1
          replace k2 := cell_of_ans hb k2
          replace k3 := cell_of_ans hb k3
          replace k4 := cell_of_ans hb k4
          replace Hhsl := Lib.hid (Hhsl.out.step hb)
          replace Hhml := Lib.hid (Hhml.out.step hb)
          replace n0 := cell_of_ans hb n0
          replace n1 := cell_of_ans hb n1
          replace Hhl7 := Lib.hid (Hhl7.out.step hb)
          replace Hhi7 := Lib.hid (Hhi7.out.step hb)
          replace Hhg7 := Lib.hid (Hhg7.out.step hb)
          replace Hhi8 := Lib.hid (Hhi8.out.step hb)
          replace HB := Lib.hid (HB.out.trans (hb.mono HB.out.size))
          clear hb
          clear Hhl7 Hhi7 Hhg7 Hhi8
          go_wp2_with fail
          refine (HThr.out _ HL.out HX.out HBa.out).mono ?_
          rintro e w19 ⟨rfl, hb⟩
          replace HL := Lib.hid (HL.out.step hb)
          replace HX := Lib.hid (HX.out.step hb)
          replace HBa := Lib.hid (HBa.out.step hb)
          replace HLe := Lib.hid (HLe.out.step hb)
          replace k0 := cell_of_ans hb k0
          replace k1 := cell_of_ans hb k1
          replace k2 := cell_of_ans hb k2
          replace k3 := cell_of_ans hb k3
          replace k4 := cell_of_ans hb k4
          replace Hhsl := Lib.hid (Hhsl.out.step hb)
          replace Hhml := Lib.hid (Hhml.out.step hb)
          replace n0 := cell_of_ans hb n0
          replace n1 := cell_of_ans hb n1
          replace HB := Lib.hid (HB.out.trans (hb.mono HB.out.size))
          clear hb
          clear HFal HLef HCan HThr HFW HTH
          go_wp2_with fail
          refine (hLv.out _ HL.out HX.out HBa.out).mono ?_
          rintro e w20 ⟨LA, lc, rfl, hrs, hb⟩
          replace HL := Lib.hid (HL.out.step hb)
          replace HX := Lib.hid (HX.out.step hb)
          replace HBa := Lib.hid (HBa.out.step hb)
          replace HLe := Lib.hid (HLe.out.step hb)
          replace k0 := cell_of_ans hb k0
          replace k1 := cell_of_ans hb k1
          replace k2 := cell_of_ans hb k2
          replace k3 := cell_of_ans hb k3
          replace k4 := cell_of_ans hb k4
          replace Hhsl := Lib.hid (Hhsl.out.step hb)
          replace Hhml := Lib.hid (Hhml.out.step hb)
          replace n0 := cell_of_ans hb n0
          replace n1 := cell_of_ans hb n1
          replace HB := Lib.hid (HB.out.trans (hb.mono HB.out.size))
          clear hb
          have HG := Lib.hid hrs.grd
          obtain ⟨-, hlc1, hlc2⟩ := hrs.parts
          skip
          clear hrs
          clear hLv
          have hLn : L.length ≤ 9223372036854775807 := by omega
          have ltk0 := World.block_lt_of_cell? _ _ k0
          dsimp only at ltk0
          have ltn0 := World.block_lt_of_cell? _ _ n0
          dsimp only at ltn0
          go_wp2_with fail
          have e0 : minL (xs.length : Int) L 0 = (xs.length : Int) := rfl
          have HM0 := Lib.hid e0
          clear e0
          go_loopw [19, 20, 21, 22] (fun mi ma ca i wr => ∃ k : Nat, k ≤ L.length ∧ i = .int .i64 k ∧ mi = .int .i64 (minL (xs.length : Int) L k) ∧ ma = .int .i64 (maxL 0 L k) ∧ ca = .bool (anyL (fun l => eqB l le) L k) ∧ Below w20.heap.size w20 wr) (fun _ _ _ i _ => L.length - (intOf i).toNat)
          case atStart => exact ⟨0, by omega, rfl, rfl, rfl, rfl, Below.refl _ _⟩
          case round =>
            obtain ⟨k, hk, rfl, rfl, rfl, rfl, hb⟩ := hrel
            have HBR := Lib.hid hb
            by_cases h1 : k < L.length
            · have h1i : (k : Int) < (L.length : Int) := by omega
              obtain ⟨gb, off, EA, ec, rfl, hgb, ce, he1, he2, he3⟩ := (HG.out.step hb).at_ h1
              have HE := Lib.hid he3
              have HLr := Lib.hid (HLe.out.step hb)
              have HMI : Hid (minL (xs.length : Int) L (k + 1) = min (minL (xs.length : Int) L k) ((rx L k).length : Int)) := rfl
              have HMA : Hid (maxL 0 L (k + 1) = max (maxL 0 L k) ((rx L k).length : Int)) := rfl
              have HAN : Hid (anyL (fun l => eqB l le) L (k + 1) = (anyL (fun l => eqB l le) L k || eqB (rx L k) le)) := rfl
              clear he3
              generalize minL (xs.length : Int) L k = la at *
              generalize maxL 0 L k = lm at *
              generalize rx L k = l at *
              obtain ⟨mi, hmi0⟩ : ∃ mi, mi = min la (l.length : Int) := ⟨_, rfl⟩
              obtain ⟨ma, hma0⟩ : ∃ ma, ma = max lm (l.length : Int) := ⟨_, rfl⟩
              rw [← hmi0] at HMI
              rw [← hma0] at HMA
              have hmi : (if (l.length : Int) < la then (l.length : Int) else la) = mi := by rw [hmi0]; split <;> omega
              have hma : (if lm < (l.length : Int) then (l.length : Int) else lm) = ma := by rw [hma0]; split <;> omega
              clear hmi0 hma0 hb
              go_upto_region 15 with fail
              refine wp_region_noPanic ?_
              have hS : (fun W' : World => Below wr.heap.size wr W') wr.drew := (Below.refl _ _).drew
              refine wp_region_any (by kernel_rfl) (wpAny_of_T (S := fun W' : World => Below wr.heap.size wr W') (m := 16) _ _ _ _ ?_)
              refine' T_take (i := 0) (v := _) rfl (by kernel_rfl) (by kernel_rfl) (by kernel_rfl) (by kernel_rfl) (fun _ _ _ h => h) (by kernel_rfl) hS ?_ ?_
              rotate_left 1
              · intro Wv hW
                replace ce := cell_of_ans hW ce
                go_simp
                first | done | with_reducible rfl | omega
              try simp only [Act.put, List.setIfInBounds_toArray, List.set_cons_zero, List.set_cons_succ]
              refine' T_take (i := 1) (v := _) rfl (by kernel_rfl) (by kernel_rfl) (by kernel_rfl) (by kernel_rfl) (fun _ _ _ h => h) (by kernel_rfl) hS ?_ ?_
              rotate_left 1
              · intro Wv hW
                replace ce := cell_of_ans hW ce
                go_simp
                first | done | with_reducible rfl | omega
              try simp only [Act.put, List.setIfInBounds_toArray, List.set_cons_zero, List.set_cons_succ]
              refine' T_take (i := 2) (v := _) rfl (by kernel_rfl) (by kernel_rfl) (by kernel_rfl) (by kernel_rfl) (fun _ _ _ h => h) (by kernel_rfl) hS ?_ ?_
              rotate_left 1
              · intro Wv hW
                replace ce := cell_of_ans hW ce
                go_simp
                first | done | with_reducible rfl | omega
              try simp only [Act.put, List.setIfInBounds_toArray, List.set_cons_zero, List.set_cons_succ]
              refine' T_take (i := 3) (v := _) rfl (by kernel_rfl) (by kernel_rfl) (by kernel_rfl) (by kernel_rfl) (fun _ _ _ h => h) (by kernel_rfl) hS ?_ ?_
              rotate_left 1
              · intro Wv hW
                replace ce := cell_of_ans hW ce
                go_simp
                first | done | with_reducible rfl | omega
              try simp only [Act.put, List.setIfInBounds_toArray, List.set_cons_zero, List.set_cons_succ]
              refine' T_take (i := 4) (v := _) rfl (by kernel_rfl) (by kernel_rfl) (by kernel_rfl) (by kernel_rfl) (fun _ _ _ h => h) (by kernel_rfl) hS ?_ ?_
              rotate_left 1
              · intro Wv hW
                replace ce := cell_of_ans hW ce
                go_simp
                first | done | with_reducible rfl | omega
              try simp only [Act.put, List.setIfInBounds_toArray, List.set_cons_zero, List.set_cons_succ]
              refine' T_take (i := 5) (v := _) rfl (by kernel_rfl) (by kernel_rfl) (by kernel_rfl) (by kernel_rfl) (fun _ _ _ h => h) (by kernel_rfl) hS ?_ ?_
              rotate_left 1
              · intro Wv hW
                replace ce := cell_of_ans hW ce
                go_simp
                first | done | with_reducible rfl | omega
              try simp only [Act.put, List.setIfInBounds_toArray, List.set_cons_zero, List.set_cons_succ]
              refine' T_take (i := 6) (v := _) rfl (by kernel_rfl) (by kernel_rfl) (by kernel_rfl) (by kernel_rfl) (fun _ _ _ h => h) (by kernel_rfl) hS ?_ ?_
              rotate_left 1
              · intro Wv hW
                replace ce := cell_of_ans hW ce
                go_simp
                first | done | with_reducible rfl | omega
              try simp only [Act.put, List.setIfInBounds_toArray, List.set_cons_zero, List.set_cons_succ]
              refine' T_take (i := 7) (v := _) rfl (by kernel_rfl) (by kernel_rfl) (by kernel_rfl) (by kernel_rfl) (fun _ _ _ h => h) (by kernel_rfl) hS ?_ ?_
              rotate_left 1
              · intro Wv hW
                replace ce := cell_of_ans hW ce
                go_simp
                first | done | with_reducible rfl | omega
              try simp only [Act.put, List.setIfInBounds_toArray, List.set_cons_zero, List.set_cons_succ]
              refine' T_take (i := 8) (v := _) rfl (by kernel_rfl) (by kernel_rfl) (by kernel_rfl) (by kernel_rfl) (fun _ _ _ h => h) (by kernel_rfl) hS ?_ ?_
              rotate_left 1
              · intro Wv hW
                replace ce := cell_of_ans hW ce
                go_simp
                first | done | with_reducible rfl | omega
              try simp only [Act.put, List.setIfInBounds_toArray, List.set_cons_zero, List.set_cons_succ]
              refine' T_take (i := 9) (v := _) rfl (by kernel_rfl) (by kernel_rfl) (by kernel_rfl) (by kernel_rfl) (fun _ _ _ h => h) (by kernel_rfl) hS ?_ ?_
              rotate_left 1
              · intro Wv hW
                replace ce := cell_of_ans hW ce
                go_simp
                first | done | with_reducible rfl | omega
              try simp only [Act.put, List.setIfInBounds_toArray, List.set_cons_zero, List.set_cons_succ]
              refine' T_take (i := 10) (v := _) rfl (by kernel_rfl) (by kernel_rfl) (by kernel_rfl) (by kernel_rfl) (fun _ _ _ h => h) (by kernel_rfl) hS ?_ ?_
              rotate_left 1
              · intro Wv hW
                replace ce := cell_of_ans hW ce
                go_simp
                first | done | with_reducible rfl | omega
              try simp only [Act.put, List.setIfInBounds_toArray, List.set_cons_zero, List.set_cons_succ]
              refine' T_take (i := 11) (v := _) rfl (by kernel_rfl) (by kernel_rfl) (by kernel_rfl) (by kernel_rfl) (fun _ _ _ h => h) (by kernel_rfl) hS ?_ ?_
              rotate_left 1
              · intro Wv hW
                replace ce := cell_of_ans hW ce
                go_simp
                first | done | with_reducible rfl | omega
              try simp only [Act.put, List.setIfInBounds_toArray, List.set_cons_zero, List.set_cons_succ]
              refine' T_take (i := 12) (v := _) rfl (by kernel_rfl) (by kernel_rfl) (by kernel_rfl) (by kernel_rfl) (fun _ _ _ h => h) (by kernel_rfl) hS ?_ ?_
              rotate_left 1
              · intro Wv hW
                replace ce := cell_of_ans hW ce
                go_simp
                first | done | with_reducible rfl | omega
              try simp only [Act.put, List.setIfInBounds_toArray, List.set_cons_zero, List.set_cons_succ]
              refine' T_take (i := 13) (v := _) rfl (by kernel_rfl) (by kernel_rfl) (by kernel_rfl) (by kernel_rfl) (fun _ _ _ h => h) (by kernel_rfl) hS ?_ ?_
              rotate_left 1
              · intro Wv hW
                replace ce := cell_of_ans hW ce
                go_simp
                first | done | with_reducible rfl | omega
              try simp only [Act.put, List.setIfInBounds_toArray, List.set_cons_zero, List.set_cons_succ]
              refine' T_take (i := 14) (v := _) rfl (by kernel_rfl) (by kernel_rfl) (by kernel_rfl) (by kernel_rfl) (fun _ _ _ h => h) (by kernel_rfl) hS ?_ ?_
              rotate_left 1
              · intro Wv hW
                replace ce := cell_of_ans hW ce
                go_simp
                first | done | with_reducible rfl | omega
              try simp only [Act.put, List.setIfInBounds_toArray, List.set_cons_zero, List.set_cons_succ]
              refine' T_take (i := 15) (v := _) rfl (by kernel_rfl) (by kernel_rfl) (by kernel_rfl) (by kernel_rfl) (fun _ _ _ h => h) (by kernel_rfl) hS ?_ ?_
              rotate_left 1
              · intro Wv hW
                replace ce := cell_of_ans hW ce
                go_simp
                first | done | with_reducible rfl | omega
              try simp only [Act.put, List.setIfInBounds_toArray, List.set_cons_zero, List.set_cons_succ]
              refine T_done (by kernel_rfl) ?_ _
              refine NoPanic.normal ?_
              try go_simp
              skip
              clear hmi hma
              have HB2 := Lib.hid (HBR.out.trans (hS.mono HBR.out.size))
              replace HE := Lib.hid (HE.out.step hS)
              replace HLr := Lib.hid (HLr.out.step hS)
              replace ce := cell_of_ans hS ce
              have hIN := Lib.hid (fun (W : World) h1 h2 => intsA (B := W.heap.size) EA lA l le ec cl W h1 h2 ⟨he1, he2⟩ hcl)
              clear hS HBR
              cases ea : anyL (fun l => eqB l le) L k
              · rw [ea] at HAN
                go_wp2_with fail
                refine (hIN.out _ HE.out HLr.out).mono ?_
                rintro e w21 ⟨rfl, hb⟩
                have HB3 := Lib.hid (HB2.out.trans (hb.mono HB2.out.size))
                clear hb
                generalize eqB l le = q at *
                go_wp2_with fail
                go_roundw
                case rel => exact ⟨k + 1, by omega, by go_num, by rw [HMI.out], by rw [HMA.out], by rw [HAN.out]; rfl, HB3.out⟩
                case measure => simp [intOf]; omega
              · rw [ea] at HAN
                go_wp2_with fail
                go_roundw
                case rel => exact ⟨k + 1, by omega, by go_num, by rw [HMI.out], by rw [HMA.out], by rw [HAN.out]; rfl, HB2.out⟩
                case measure => simp [intOf]; omega
            · obtain rfl : k = L.length := by omega
              have h1i : ¬ (L.length : Int) < (L.length : Int) := by omega
              rw [HF1.out, HF2.out, HF3.out]
              clear HF1 HF2 HF3
              replace HL := Lib.hid (HL.out.step hb)
              replace HX := Lib.hid (HX.out.step hb)
              replace HBa := Lib.hid (HBa.out.step hb)
              replace HLe := Lib.hid (HLe.out.step hb)
              replace k0 := cell_of_ans hb k0
              replace k1 := cell_of_ans hb k1
              replace k2 := cell_of_ans hb k2
              replace k3 := cell_of_ans hb k3
              replace k4 := cell_of_ans hb k4
              replace Hhsl := Lib.hid (Hhsl.out.step hb)
              replace Hhml := Lib.hid (Hhml.out.step hb)
              replace n0 := cell_of_ans hb n0
              replace n1 := cell_of_ans hb n1
              replace HG := Lib.hid (HG.out.step hb)
              replace HB := Lib.hid (HB.out.trans (hb.mono HB.out.size))
              clear hb
              clear h1 hk
              go_wp2_with fail
              generalize wr = wl at *
              go_loopw [17, 18, 23, 24, 25, 26, 27] (fun su my i vs ve vk vf wr => ∃ j : Nat, j ≤ xs.length ∧ i = .int .i64 j ∧ Two wl.heap.size wr su (sureT xs L j) my (mayT xs L j) ∧ Below wl.heap.size wl wr) (fun _ _ i _ _ _ _ _ => xs.length - (intOf i).toNat)
              case atStart => exact ⟨0, by omega, rfl, ⟨OwnI.nil _ _, OwnI.nil _ _, fun b h => by cases h⟩, Below.refl _ _⟩
              case round =>
                obtain ⟨j, hj, rfl, hT, hb⟩ := hrel
                have HT := Lib.hid hT
                have HBJ := Lib.hid hb
                obtain ⟨sA, sc, rfl⟩ := hT.l.form
                obtain ⟨mA2, mc, rfl⟩ := hT.r.form
                clear hT
                have hsl := sureT_len xs L j
                have hml := mayT_len xs L j
                by_cases h1 : j < xs.length
                · have h1i : (j : Int) < (xs.length : Int) := by omega
                  have HST : Hid (sureT xs L (j + 1) = if allL (fun l => !hasB l (ix xs j)) L L.length then sureT xs L j ++ [ix xs j] else sureT xs L j) := rfl
                  have HMT : Hid (mayT xs L (j + 1) = if anyL (fun l => !hasB l (ix xs j)) L L.length then mayT xs L j ++ [ix xs j] else mayT xs L j) := rfl
                  have HXj := Lib.hid (HX.out.below hb)
                  have HGj := Lib.hid (HG.out.step hb)
                  have hwj := hb.size
                  generalize sureT xs L j = sj at *
                  generalize mayT xs L j = mj at *
                  clear hb
                  obtain ⟨xb, xo, rfl, hxb, cx1⟩ := HXj.out.at_ h1
                  generalize ix xs j = x at *
                  go_wp2_with fail
                  generalize wr = wo at *
                  go_loopw [24, 25, 26, 27] (fun vs ve vk vf wr => ∃ k : Nat, k ≤ L.length ∧ vk = .int .i64 k ∧ vs = .bool (anyL (fun l => !hasB l x) L k) ∧ ve = .bool (allL (fun l => !hasB l x) L k) ∧ Below wo.heap.size wo wr) (fun _ _ k _ _ => L.length - (intOf k).toNat)
                  case atStart => exact ⟨0, by omega, rfl, rfl, rfl, Below.refl _ _⟩
                  case round =>
                    obtain ⟨k, hk, rfl, rfl, rfl, hb⟩ := hrel
                    have HBK := Lib.hid hb
                    by_cases h2 : k < L.length
                    · have h2i : (k : Int) < (L.length : Int) := by omega
                      obtain ⟨gb, off, EA, ec, rfl, hgb, ce, he1, he2, he3⟩ := (HGj.out.step hb).at_ h2
                      replace cx1 := cell_of_ans hb cx1
                      have HAN : Hid (anyL (fun l => !hasB l x) L (k + 1) = (anyL (fun l => !hasB l x) L k || !hasB (rx L k) x)) := rfl
                      have HAL : Hid (allL (fun l => !hasB l x) L (k + 1) = (allL (fun l => !hasB l x) L k && !hasB (rx L k) x)) := rfl
                      have HHS := Lib.hid (fun (W : World) (h : Below wr.heap.size wr W) => has35_c (B := wr.heap.size) EA (rx L k) ec x W (he3.below h) ⟨he1, he2⟩)
                      clear he3 hb
                      generalize rx L k = l at *
                      go_upto_region 24 with fail
                      refine wp_region_noPanic ?_
                      have hS : (fun W' : World => Below wr.heap.size wr W') wr.drew := (Below.refl _ _).drew
                      refine wp_region_any (by kernel_rfl) (wpAny_of_T (S := fun W' : World => Below wr.heap.size wr W') (m := 11) _ _ _ _ ?_)
                      refine' T_take (i := 0) (v := _) rfl (by kernel_rfl) (by kernel_rfl) (by kernel_rfl) (by kernel_rfl) (fun _ _ _ h => h) (by kernel_rfl) hS ?_ ?_
                      rotate_left 1
                      · intro Wv hW
                        replace ce := cell_of_ans hW ce
                        replace cx1 := cell_of_ans hW cx1
                        go_simp
                        first | done | with_reducible rfl | omega
                      try simp only [Act.put, List.setIfInBounds_toArray, List.set_cons_zero, List.set_cons_succ]
                      refine' T_take (i := 1) (v := _) rfl (by kernel_rfl) (by kernel_rfl) (by kernel_rfl) (by kernel_rfl) (fun _ _ _ h => h) (by kernel_rfl) hS ?_ ?_
                      rotate_left 1
                      · intro Wv hW
                        replace ce := cell_of_ans hW ce
                        replace cx1 := cell_of_ans hW cx1
                        go_simp
                        first | done | with_reducible rfl | omega
                      try simp only [Act.put, List.setIfInBounds_toArray, List.set_cons_zero, List.set_cons_succ]
                      refine' T_take (i := 2) (v := _) rfl (by kernel_rfl) (by kernel_rfl) (by kernel_rfl) (by kernel_rfl) (fun _ _ _ h => h) (by kernel_rfl) hS ?_ ?_
                      rotate_left 1
                      · intro Wv hW
                        replace ce := cell_of_ans hW ce
                        replace cx1 := cell_of_ans hW cx1
                        go_simp
                        first | done | with_reducible rfl | omega
                      try simp only [Act.put, List.setIfInBounds_toArray, List.set_cons_zero, List.set_cons_succ]
                      refine' T_take (i := 3) (v := _) rfl (by kernel_rfl) (by kernel_rfl) (by kernel_rfl) (by kernel_rfl) (fun _ _ _ h => h) (by kernel_rfl) hS ?_ ?_
                      rotate_left 1
                      · intro Wv hW
                        replace ce := cell_of_ans hW ce
                        replace cx1 := cell_of_ans hW cx1
                        go_simp
                        first | done | with_reducible rfl | omega
                      try simp only [Act.put, List.setIfInBounds_toArray, List.set_cons_zero, List.set_cons_succ]
                      refine' T_take (i := 4) (v := _) rfl (by kernel_rfl) (by kernel_rfl) (by kernel_rfl) (by kernel_rfl) (fun _ _ _ h => h) (by kernel_rfl) hS ?_ ?_
                      rotate_left 1
                      · intro Wv hW
                        replace ce := cell_of_ans hW ce
                        replace cx1 := cell_of_ans hW cx1
                        go_simp
                        first | done | with_reducible rfl | omega
                      try simp only [Act.put, List.setIfInBounds_toArray, List.set_cons_zero, List.set_cons_succ]
                      refine' T_take (i := 5) (v := _) rfl (by kernel_rfl) (by kernel_rfl) (by kernel_rfl) (by kernel_rfl) (fun _ _ _ h => h) (by kernel_rfl) hS ?_ ?_
                      rotate_left 1
                      · intro Wv hW
                        replace ce := cell_of_ans hW ce
                        replace cx1 := cell_of_ans hW cx1
                        go_simp
                        first | done | with_reducible rfl | omega
                      try simp only [Act.put, List.setIfInBounds_toArray, List.set_cons_zero, List.set_cons_succ]
                      refine' T_take (i := 6) (v := _) rfl (by kernel_rfl) (by kernel_rfl) (by kernel_rfl) (by kernel_rfl) (fun _ _ _ h => h) (by kernel_rfl) hS ?_ ?_
                      rotate_left 1
                      · intro Wv hW
                        replace ce := cell_of_ans hW ce
                        replace cx1 := cell_of_ans hW cx1
                        go_simp
                        first | done | with_reducible rfl | omega
                      try simp only [Act.put, List.setIfInBounds_toArray, List.set_cons_zero, List.set_cons_succ]
                      refine' T_take (i := 7) (v := _) rfl (by kernel_rfl) (by kernel_rfl) (by kernel_rfl) (by kernel_rfl) (fun _ _ _ h => h) (by kernel_rfl) hS ?_ ?_
                      rotate_left 1
                      · intro Wv hW
                        replace ce := cell_of_ans hW ce
                        replace cx1 := cell_of_ans hW cx1
                        go_simp
                        first | done | with_reducible rfl | omega
                      try simp only [Act.put, List.setIfInBounds_toArray, List.set_cons_zero, List.set_cons_succ]
                      refine T_ready (rs := [8]) (by kernel_rfl) (by simp) ?_
                      refine TReady.cons rfl (fun K hK => ?_) TReady.nil
                      try go_simp
                      refine (HHS.out _ hS).mono ?_
                      rintro e v9 ⟨rfl, rfl⟩
                      try go_simp
                      refine hK.out _ _ (fun _ => hS) (fun _ => ?_)
                      clear hK K
                      try simp only [Act.put, List.setIfInBounds_toArray, List.set_cons_zero, List.set_cons_succ]
                      refine' T_take (i := 9) (v := _) rfl (by kernel_rfl) (by kernel_rfl) (by kernel_rfl) (by kernel_rfl) (fun _ _ _ h => h) (by kernel_rfl) hS ?_ ?_
                      rotate_left 1
                      · intro Wv hW
                        replace ce := cell_of_ans hW ce
                        replace cx1 := cell_of_ans hW cx1
                        go_simp
                        first | done | with_reducible rfl | omega
                      try simp only [Act.put, List.setIfInBounds_toArray, List.set_cons_zero, List.set_cons_succ]
                      refine' T_take (i := 10) (v := _) rfl (by kernel_rfl) (by kernel_rfl) (by kernel_rfl) (by kernel_rfl) (fun _ _ _ h => h) (by kernel_rfl) hS ?_ ?_
                      rotate_left 1
                      · intro Wv hW
                        replace ce := cell_of_ans hW ce
                        replace cx1 := cell_of_ans hW cx1
                        go_simp
                        first | done | with_reducible rfl | omega
                      try simp only [Act.put, List.setIfInBounds_toArray, List.set_cons_zero, List.set_cons_succ]
                      refine T_done (by kernel_rfl) ?_ _
                      refine NoPanic.normal ?_
                      try go_simp
                      have HB2 := Lib.hid (HBK.out.trans (hS.mono HBK.out.size))
                      clear hS
                      cases eh : hasB l x
                      all_goals
                        rw [eh] at HAN HAL
                        cases ea : anyL (fun l => !hasB l x) L k
                        all_goals
                          rw [ea] at HAN
                          cases el : allL (fun l => !hasB l x) L k
                          all_goals
                            rw [el] at HAL
                            clear eh ea el
                            go_wp2_with fail
                            go_roundw
                            case rel => exact ⟨k + 1, by omega, by go_num, by rw [HAN.out]; rfl, by rw [HAL.out]; rfl, HB2.out⟩
                            case measure => simp [intOf]; omega
                    · obtain rfl : k = L.length := by omega
                      have h2i : ¬ (L.length : Int) < (L.length : Int) := by omega
                      replace cx1 := cell_of_ans hb cx1
                      replace HT := Lib.hid (HT.out.kept hb)
                      have HBX := Lib.hid (HBJ.out.trans (hb.mono hwj))
                      have hwx := HBX.out.size
                      clear hb h2 hk
                      cases el : allL (fun l => !hasB l x) L L.length
                      all_goals
                        cases ea : anyL (fun l => !hasB l x) L L.length
                      all_goals rw [el] at HST
                      all_goals rw [ea] at HMT
                      all_goals clear el ea
                      · go_wp2_with fail
                        go_roundw
                        case rel => exact ⟨j + 1, by omega, by go_num, by rw [HST.out, HMT.out]; exact HT.out, HBX.out⟩
                        case measure => simp [intOf]; omega
                      · go_wp2_with (at_builtin; refine wpList_two_r (.tmp 183) (.tmp 188) rfl rfl wl.heap.size wr _ _ sj mj x rfl rfl HT (by omega) hwx ?_; intro A8 c8 w8 HT8 HB8)
                        go_roundw
                        case rel => exact ⟨j + 1, by omega, by go_num, by rw [HST.out, HMT.out]; exact HT8.out, HBX.out.trans HB8.out⟩
                        case measure => simp [intOf]; omega
                      · go_wp2_with (at_builtin; refine wpList_two_l (.tmp 175) (.tmp 180) rfl rfl wl.heap.size wr _ _ sj mj x rfl rfl HT (by omega) hwx ?_; intro A9 c9 w9 HT9 HB9; have hw9 : wl.heap.size ≤ w9.heap.size := Nat.le_trans hwx HB9.out.size)
                        go_roundw
                        case rel => exact ⟨j + 1, by omega, by go_num, by rw [HST.out, HMT.out]; exact HT9.out, HBX.out.trans HB9.out⟩
                        case measure => simp [intOf]; omega
                      · have CX : Hid (∀ W, Below wl.heap.size wr W → W.cell? ⟨xb, xo + j, none⟩ = some (.int .i64 x)) := fun W h => (h.cell (p := ⟨xb, xo + j, none⟩) hxb).trans cx1
                        go_wp2_with (first | (at_builtin; refine wpList_two_l (.tmp 175) (.tmp 180) rfl rfl wl.heap.size wr _ _ sj mj x rfl rfl HT (by omega) hwx ?_; intro A9 c9 w9 HT9 HB9; have hw9 : wl.heap.size ≤ w9.heap.size := Nat.le_trans hwx HB9.out.size; have cx2 := CX.out _ HB9.out; clear cx1) | (at_builtin; refine wpList_two_r (.tmp 183) (.tmp 188) rfl rfl wl.heap.size w9 _ _ (sj ++ [x]) mj x rfl rfl HT9 (by omega) hw9 ?_; intro A8 c8 w8 HT8 HB8))
                        go_roundw
                        case rel => exact ⟨j + 1, by omega, by go_num, by rw [HST.out, HMT.out]; exact HT8.out, HBX.out.trans (HB9.out.trans HB8.out)⟩
                        case measure => simp [intOf]; omega
                · obtain rfl : j = xs.length := by omega
                  have h1i : ¬ (xs.length : Int) < (xs.length : Int) := by omega
                  rw [HF4.out, HF5.out] at HT
                  rw [HF4.out, HF5.out]
                  clear HF4 HF5 HM0 HG
                  obtain ⟨ho1, ho2, ho3⟩ := isInts_parts HT.out.l.isInts
                  obtain ⟨ho4, ho5, ho6⟩ := isInts_parts HT.out.r.isInts
                  have HO3 := Lib.hid ho3
                  have HO6 := Lib.hid ho6
                  clear ho3 ho6 HT h1 hj hsl hml
                  replace k0 := cell_of_ans hb k0
                  replace Hhsl := Lib.hid (Hhsl.out.step hb)
                  replace Hhml := Lib.hid (Hhml.out.step hb)
                  replace n0 := cell_of_ans hb n0
                  replace n1 := cell_of_ans hb n1
                  replace HB := Lib.hid (HB.out.trans (hb.mono HB.out.size))
                  clear hb
                  have hq44 := fun (a b c d : Int) (w : World) => eq44' a b c d w
                  have EQ1 := Lib.hid (fun (W : World) h1 h2 => (show Calls Try.prog 30 #[.slice sA2 sl.length cs2, .slice sA sl.length sc] W (Ans W (.bool true)) from by have h := intsA (B := W.heap.size) sA2 sA sl sl cs2 sc W h1 h2 hsl2 ⟨ho1, ho2⟩; rwa [show eqB sl sl = true from decide_eq_true rfl] at h))
                  have EQ2 := Lib.hid (fun (W : World) h1 h2 => (show Calls Try.prog 30 #[.slice mA ml.length cm, .slice mA2 ml.length mc] W (Ans W (.bool true)) from by have h := intsA (B := W.heap.size) mA mA2 ml ml cm mc W h1 h2 hml2 ⟨ho4, ho5⟩; rwa [show eqB ml ml = true from decide_eq_true rfl] at h))
                  have hcc : (cn == cn) = true := by simp
                  have hv11 : (v1 == v1) = true := by simp
                  have hv22 : (v2 == v2) = true := by simp
                  go_wp2_with fail
                  refine (EQ1.out _ Hhsl.out HO3.out).mono ?_
                  rintro e y1 ⟨rfl, hb⟩
                  replace k0 := cell_of_ans hb k0
                  replace Hhsl := Lib.hid (Hhsl.out.step hb)
                  replace Hhml := Lib.hid (Hhml.out.step hb)
                  replace n0 := cell_of_ans hb n0
                  replace n1 := cell_of_ans hb n1
                  replace HO3 := Lib.hid (HO3.out.step hb)
                  replace HO6 := Lib.hid (HO6.out.step hb)
                  replace HB := Lib.hid (HB.out.trans (hb.mono HB.out.size))
                  clear hb
                  go_wp2_with fail
                  refine (EQ2.out _ Hhml.out HO6.out).mono ?_
                  rintro e y2 ⟨rfl, hb⟩
                  replace k0 := cell_of_ans hb k0
                  replace Hhsl := Lib.hid (Hhsl.out.step hb)
                  replace Hhml := Lib.hid (Hhml.out.step hb)
                  replace n0 := cell_of_ans hb n0
                  replace n1 := cell_of_ans hb n1
                  replace HO3 := Lib.hid (HO3.out.step hb)
                  replace HO6 := Lib.hid (HO6.out.step hb)
                  replace HB := Lib.hid (HB.out.trans (hb.mono HB.out.size))
                  clear hb
                  go_wp2_with fail
                  refine (awake16_c _).mono ?_
                  rintro e y3 ⟨rfl, hb⟩
                  replace k0 := cell_of_ans hb k0
                  replace Hhsl := Lib.hid (Hhsl.out.step hb)
                  replace Hhml := Lib.hid (Hhml.out.step hb)
                  replace n0 := cell_of_ans hb n0
                  replace n1 := cell_of_ans hb n1
                  replace HO3 := Lib.hid (HO3.out.step hb)
                  replace HO6 := Lib.hid (HO6.out.step hb)
                  replace HB := Lib.hid (HB.out.trans (hb.mono HB.out.size))
                  clear hb
                  go_wp2_with fail
                  go_ret
                  exact ⟨rfl, HB.out⟩
end Go.Proofs.Ytpekajnjjhibjaa
