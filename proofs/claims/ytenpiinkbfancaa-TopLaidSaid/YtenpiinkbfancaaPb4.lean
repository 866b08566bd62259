/-
  The reference of path: what is no lane.
-/
import Derived.Test.YtenpiinkbfancaaPb2
namespace Go.Proofs.Ytenpiinkbfancaa.Pa
open Go.RowKit
set_option linter.unusedSimpArgs false
set_option linter.unusedVariables false

attribute [local go_sem] Oper.semAt_some
/-- A number; if it is 0 the lane is valid. -/
def FaultP (l : Ln) (w : World) (e : Ending) (w' : World) : Prop := ∃ v : Int, e = .returned (.int .i64 v) ∧ (v = 0 → Ok l) ∧ Below w.heap.size w w'
theorem FaultP.no {l : Ln} {w w' : World} {v : Int} (hv : v ≠ 0) (hb : Below w.heap.size w w') : FaultP l w (.returned (.int .i64 v)) w' := ⟨v, rfl, fun h => absurd h hv, hb⟩
set_option maxRecDepth 100000 in
set_option maxHeartbeats 8000000 in
theorem fault28_c (l : Ln) (H P : Option Addr) (ch cp : Nat) (w : World) (hH : Recs 2 w.heap.size w H l.hk) (hP : Recs 5 w.heap.size w P l.pt) :
    Calls Try.prog 28 #[LV l H P ch cp] w (FaultP l w) := by
  unfold LV
  have hb0 : Below w.heap.size w (w.alloc (.cells #[.int .i64 l.nb, .int .i64 l.nr, .slice H l.hk.length ch, .slice P l.pt.length cp] 88)) := (Below.refl _ _).alloc (Nat.le_refl _) _
  have k0 : (w.alloc (.cells #[.int .i64 l.nb, .int .i64 l.nr, .slice H l.hk.length ch, .slice P l.pt.length cp] 88)).cell? ⟨w.heap.size, 0, none⟩ = some (.int .i64 l.nb) := by simp
  have k1 : (w.alloc (.cells #[.int .i64 l.nb, .int .i64 l.nr, .slice H l.hk.length ch, .slice P l.pt.length cp] 88)).cell? ⟨w.heap.size, 1, none⟩ = some (.int .i64 l.nr) := by simp
  have k2 : (w.alloc (.cells #[.int .i64 l.nb, .int .i64 l.nr, .slice H l.hk.length ch, .slice P l.pt.length cp] 88)).cell? ⟨w.heap.size, 2, none⟩ = some (.slice H l.hk.length ch) := by simp
  have k3 : (w.alloc (.cells #[.int .i64 l.nb, .int .i64 l.nr, .slice H l.hk.length ch, .slice P l.pt.length cp] 88)).cell? ⟨w.heap.size, 3, none⟩ = some (.slice P l.pt.length cp) := by simp
  have HHk := Lib.hid (hH.step hb0)
  have HPt := Lib.hid (hP.step hb0)
  have HB := Lib.hid hb0
  clear hb0 hH hP
  by_cases h1 : l.pt.length ≤ 8
  rotate_left 1
  · have t1 : decide ((l.pt.length : Int) > 8) = true := decide_eq_true (by omega)
    have t1' : decide (8 < l.pt.length) = true := decide_eq_true (by omega)
    go_enter Try.func28, Try.ntmps28
    go_wp2_with fail
    go_ret
    exact FaultP.no (by decide) HB.out
  by_cases h2 : l.hk.length ≤ 4
  rotate_left 1
  · have t1 : decide ((l.pt.length : Int) > 8) = false := decide_eq_false (by omega)
    have t1' : decide (8 < l.pt.length) = false := decide_eq_false (by omega)
    have t2 : decide ((l.hk.length : Int) > 4) = true := decide_eq_true (by omega)
    have t2' : decide (4 < l.hk.length) = true := decide_eq_true (by omega)
    go_enter Try.func28, Try.ntmps28
    go_wp2_with fail
    go_ret
    exact FaultP.no (by decide) HB.out
  have t1 : decide ((l.pt.length : Int) > 8) = false := decide_eq_false (by omega)
  have t1' : decide (8 < l.pt.length) = false := decide_eq_false (by omega)
  have t2 : decide ((l.hk.length : Int) > 4) = false := decide_eq_false (by omega)
  have t2' : decide (4 < l.hk.length) = false := decide_eq_false (by omega)
  have H1 := Lib.hid (fun W => in69_c l.nb 1 40 W)
  have H2 := Lib.hid (fun W => in69_c l.nr 1 12 W)
  have HI1 : Hid (inB l.nb 1 40 = true → 1 ≤ l.nb ∧ l.nb ≤ 40) := fun h => (inB_eq _ _ _).1 h
  have HI2 : Hid (inB l.nr 1 12 = true → 1 ≤ l.nr ∧ l.nr ≤ 12) := fun h => (inB_eq _ _ _).1 h
  generalize inB l.nb 1 40 = r at *
  generalize inB l.nr 1 12 = q at *
  cases r
  · go_enter Try.func28, Try.ntmps28
    go_wp2_with fail
    refine (H1.out _).mono ?_
    rintro e w1 ⟨rfl, rfl⟩
    go_wp2_with fail
    go_ret
    exact FaultP.no (by decide) HB.out
  cases q
  · go_enter Try.func28, Try.ntmps28
    go_wp2_with fail
    refine (H1.out _).mono ?_
    rintro e w1 ⟨rfl, rfl⟩
    go_wp2_with fail
    refine (H2.out _).mono ?_
    rintro e w1 ⟨rfl, rfl⟩
    go_wp2_with fail
    go_ret
    exact FaultP.no (by decide) HB.out
  by_cases h3 : l.hk.length = 0
  · have t3 : ((l.hk.length : Int) == 0) = true := by simp [h3]
    clear h3
    go_enter Try.func28, Try.ntmps28
    go_wp2_with fail
    refine (H1.out _).mono ?_
    rintro e w1 ⟨rfl, rfl⟩
    go_wp2_with fail
    refine (H2.out _).mono ?_
    rintro e w1 ⟨rfl, rfl⟩
    go_wp2_with fail
    go_ret
    exact FaultP.no (by decide) HB.out
  have t3 : ((l.hk.length : Int) == 0) = false := by rw [beq_eq_false_iff_ne]; omega
  have H30 := Lib.hid h3
  clear h3
  go_enter Try.func28, Try.ntmps28
  go_wp2_with fail
  refine (H1.out _).mono ?_
  rintro e w1 ⟨rfl, rfl⟩
  go_wp2_with fail
  refine (H2.out _).mono ?_
  rintro e w1 ⟨rfl, rfl⟩
  go_wp2_with fail
  have hr := HI2.out (by trivial)
  have hbd := HI1.out (by trivial)
  generalize w.alloc (.cells #[.int .i64 l.nb, .int .i64 l.nr, .slice H l.hk.length ch, .slice P l.pt.length cp] 88) = W0 at *
  clear t1 t1' t2 t2' t3 HI1 HI2
  have HC := Lib.hid (And.intro k0 (And.intro k1 (And.intro k2 k3)))
  go_loopw [3] (fun iv wr => ∃ k : Nat, k ≤ l.hk.length ∧ iv = .int .i64 (k : Int) ∧ (∀ j, j < k → hookB (rx l.hk j) = true) ∧ Below W0.heap.size W0 wr) (fun iv _ => l.hk.length - (intOf iv).toNat)
  case atStart => exact ⟨0, by omega, rfl, fun j hj => by omega, Below.refl _ _⟩
  case round =>
    obtain ⟨k, hk, rfl, hall, hbw⟩ := hrel
    have HBW := Lib.hid hbw
    have HALL := Lib.hid hall
    clear hall
    have HBT := Lib.hid (HB.out.trans (hbw.mono HB.out.size))
    replace k0 := cell_of_ans hbw k0
    replace k1 := cell_of_ans hbw k1
    replace k2 := cell_of_ans hbw k2
    replace k3 := cell_of_ans hbw k3
    have hw7 : IntKind.i64.wrap ((k : Int) + 1) = (k : Int) + 1 := IntWalk.i64_in _ (by omega)
    by_cases hkl : k < l.hk.length
    · have hkli : (k : Int) < (l.hk.length : Int) := by omega
      obtain ⟨b1, o1, hA1, hb1, c0, c1⟩ := (HHk.out.below hbw).at2 hkl
      rw [hA1] at k2 ⊢
      have HSP := Lib.hid (fun W => span70_c (ix (rx l.hk k) 0) (ix (rx l.hk k) 1) (-3) 3 W)
      have HHB : Hid (hookB (rx l.hk k) = spanB (ix (rx l.hk k) 0) (ix (rx l.hk k) 1) (-3) 3) := rfl
      generalize spanB (ix (rx l.hk k) 0) (ix (rx l.hk k) 1) (-3) 3 = z at *
      generalize ix (rx l.hk k) 0 = x at *
      generalize ix (rx l.hk k) 1 = y at *
      cases z
      · go_wp2_with fail
        refine (HSP.out _).mono ?_
        rintro e w2 ⟨rfl, hb2⟩
        go_wp2_with fail
        try rw [Exit.noGoto_ret]
        go_ret
        exact FaultP.no (by decide) (HBT.out.trans (hb2.mono HBT.out.size))
      · go_wp2_with fail
        refine (HSP.out _).mono ?_
        rintro e w2 ⟨rfl, hb2⟩
        go_wp2_with fail
        go_roundw
        case rel => exact ⟨k + 1, by omega, by go_num, fun j hj => by
          rcases (by omega : j < k ∨ j = k) with h | rfl
          · exact HALL.out j h
          · exact HHB.out, HBW.out.trans (hb2.mono HBW.out.size)⟩
        case measure => simp [intOf]; omega
    · obtain rfl : k = l.hk.length := by omega
      have hkli : ¬ (l.hk.length : Int) < (l.hk.length : Int) := by omega
      go_wp2_with fail
      generalize wr = wt at *
      clear k0 k1 k2 k3
      go_loopw [4] (fun iv wx => ∃ k : Nat, k ≤ l.pt.length ∧ iv = .int .i64 (k : Int) ∧ (∀ j, j < k → patchB l (rx l.pt j) = true) ∧ Below W0.heap.size W0 wx) (fun iv _ => l.pt.length - (intOf iv).toNat)
      case atStart => exact ⟨0, by omega, rfl, fun j hj => by omega, HBW.out⟩
      case round =>
        obtain ⟨k, hk, rfl, hall, hbw⟩ := hrel
        have HBW2 := Lib.hid hbw
        have HALL2 := Lib.hid hall
        clear hall
        replace HB := Lib.hid (HB.out.trans (hbw.mono HB.out.size))
        have k0 : wr.cell? ⟨w.heap.size, 0, none⟩ = some (.int .i64 l.nb) := cell_of_ans hbw HC.out.1
        have k1 : wr.cell? ⟨w.heap.size, 1, none⟩ = some (.int .i64 l.nr) := cell_of_ans hbw HC.out.2.1
        have k2 : wr.cell? ⟨w.heap.size, 2, none⟩ = some (.slice H l.hk.length ch) := cell_of_ans hbw HC.out.2.2.1
        have k3 : wr.cell? ⟨w.heap.size, 3, none⟩ = some (.slice P l.pt.length cp) := cell_of_ans hbw HC.out.2.2.2
        have hw7 : IntKind.i64.wrap ((k : Int) + 1) = (k : Int) + 1 := IntWalk.i64_in _ (by omega)
        have hw8 : IntKind.i64.wrap (l.nr - 1) = l.nr - 1 := IntWalk.i64_in _ (by omega)
        have hw9 : IntKind.i64.wrap ((l.hk.length : Int) - 1) = (l.hk.length : Int) - 1 := IntWalk.i64_in _ (by omega)
        by_cases hkl : k < l.pt.length
        · have hkli : (k : Int) < (l.pt.length : Int) := by omega
          obtain ⟨b1, o1, hA1, hb1, c0, c1, c2, c3, c4⟩ := (HPt.out.below hbw).at5 hkl
          rw [hA1] at k3 ⊢
          have HPB : Hid (patchB l (rx l.pt k) = (spanB (ix (rx l.pt k) 0) (ix (rx l.pt k) 1) 0 (l.nr - 1) && (spanB (ix (rx l.pt k) 2) (ix (rx l.pt k) 3) 1 l.nb && inB (ix (rx l.pt k) 4) 0 ((l.hk.length : Int) - 1)))) := rfl
          have HPA : Hid (∀ j, j < k + 1 → patchB l (rx l.pt k) = true → patchB l (rx l.pt j) = true) := fun j hj h => by
            rcases (by omega : j < k ∨ j = k) with h2 | rfl
            · exact HALL2.out j h2
            · exact h
          generalize patchB l (rx l.pt k) = pb at *
          generalize ix (rx l.pt k) 0 = p0 at *
          generalize ix (rx l.pt k) 1 = p1 at *
          generalize ix (rx l.pt k) 2 = p2 at *
          generalize ix (rx l.pt k) 3 = p3 at *
          generalize ix (rx l.pt k) 4 = p4 at *
          have HS1 := Lib.hid (fun W => span70_c p0 p1 0 (l.nr - 1) W)
          have HS2 := Lib.hid (fun W => span70_c p2 p3 1 l.nb W)
          have HS3 := Lib.hid (fun W => in69_c p4 0 ((l.hk.length : Int) - 1) W)
          generalize spanB p0 p1 0 (l.nr - 1) = z1 at *
          generalize spanB p2 p3 1 l.nb = z2 at *
          generalize inB p4 0 ((l.hk.length : Int) - 1) = z3 at *
          go_upto_region 14 with fail
          have hb : Below wr.heap.size wr (wr.alloc (.cells #[.int .i64 p0, .int .i64 p1, .int .i64 p2, .int .i64 p3, .int .i64 p4] 185)) := (Below.refl _ _).alloc (Nat.le_refl _) _
          have q0 : (wr.alloc (.cells #[.int .i64 p0, .int .i64 p1, .int .i64 p2, .int .i64 p3, .int .i64 p4] 185)).cell? ⟨wr.heap.size, 0, none⟩ = some (.int .i64 p0) := by simp
          have q1 : (wr.alloc (.cells #[.int .i64 p0, .int .i64 p1, .int .i64 p2, .int .i64 p3, .int .i64 p4] 185)).cell? ⟨wr.heap.size, 1, none⟩ = some (.int .i64 p1) := by simp
          have q2 : (wr.alloc (.cells #[.int .i64 p0, .int .i64 p1, .int .i64 p2, .int .i64 p3, .int .i64 p4] 185)).cell? ⟨wr.heap.size, 2, none⟩ = some (.int .i64 p2) := by simp
          have q3 : (wr.alloc (.cells #[.int .i64 p0, .int .i64 p1, .int .i64 p2, .int .i64 p3, .int .i64 p4] 185)).cell? ⟨wr.heap.size, 3, none⟩ = some (.int .i64 p3) := by simp
          have q4 : (wr.alloc (.cells #[.int .i64 p0, .int .i64 p1, .int .i64 p2, .int .i64 p3, .int .i64 p4] 185)).cell? ⟨wr.heap.size, 4, none⟩ = some (.int .i64 p4) := by simp
          replace k0 := cell_of_ans hb k0
          replace k1 := cell_of_ans hb k1
          replace k2 := cell_of_ans hb k2
          replace HBW2 := Lib.hid (HBW2.out.trans (hb.mono HBW2.out.size))
          replace HB := Lib.hid (HB.out.trans (hb.mono HB.out.size))
          clear hb
          generalize (wr.alloc (.cells #[.int .i64 p0, .int .i64 p1, .int .i64 p2, .int .i64 p3, .int .i64 p4] 185)) = wb at *
          generalize wr.heap.size = qb at *
          cases z1
          · go_wp2_with fail
            refine (HS1.out _).mono ?_
            rintro e w2 ⟨rfl, hb⟩
            replace k0 := cell_of_ans hb k0
            replace k1 := cell_of_ans hb k1
            replace k2 := cell_of_ans hb k2
            replace HBW2 := Lib.hid (HBW2.out.trans (hb.mono HBW2.out.size))
            replace q0 := cell_of_ans hb q0
            replace q1 := cell_of_ans hb q1
            replace q2 := cell_of_ans hb q2
            replace q3 := cell_of_ans hb q3
            replace q4 := cell_of_ans hb q4
            replace HB := Lib.hid (HB.out.trans (hb.mono HB.out.size))
            clear hb
            go_wp2_with fail
            try rw [Exit.noGoto_ret]
            go_ret
            exact FaultP.no (by decide) HB.out
          · go_wp2_with fail
            refine (HS1.out _).mono ?_
            rintro e w2 ⟨rfl, hb⟩
            replace k0 := cell_of_ans hb k0
            replace k1 := cell_of_ans hb k1
            replace k2 := cell_of_ans hb k2
            replace HBW2 := Lib.hid (HBW2.out.trans (hb.mono HBW2.out.size))
            replace q0 := cell_of_ans hb q0
            replace q1 := cell_of_ans hb q1
            replace q2 := cell_of_ans hb q2
            replace q3 := cell_of_ans hb q3
            replace q4 := cell_of_ans hb q4
            replace HB := Lib.hid (HB.out.trans (hb.mono HB.out.size))
            clear hb
            cases z2
            · go_wp2_with fail
              refine (HS2.out _).mono ?_
              rintro e w3 ⟨rfl, hb⟩
              replace k0 := cell_of_ans hb k0
              replace k1 := cell_of_ans hb k1
              replace k2 := cell_of_ans hb k2
              replace HBW2 := Lib.hid (HBW2.out.trans (hb.mono HBW2.out.size))
              replace q0 := cell_of_ans hb q0
              replace q1 := cell_of_ans hb q1
              replace q2 := cell_of_ans hb q2
              replace q3 := cell_of_ans hb q3
              replace q4 := cell_of_ans hb q4
              replace HB := Lib.hid (HB.out.trans (hb.mono HB.out.size))
              clear hb
              go_wp2_with fail
              try rw [Exit.noGoto_ret]
              go_ret
              exact FaultP.no (by decide) HB.out
            · go_wp2_with fail
              refine (HS2.out _).mono ?_
              rintro e w3 ⟨rfl, hb⟩
              replace k0 := cell_of_ans hb k0
              replace k1 := cell_of_ans hb k1
              replace k2 := cell_of_ans hb k2
              replace HBW2 := Lib.hid (HBW2.out.trans (hb.mono HBW2.out.size))
              replace q0 := cell_of_ans hb q0
              replace q1 := cell_of_ans hb q1
              replace q2 := cell_of_ans hb q2
              replace q3 := cell_of_ans hb q3
              replace q4 := cell_of_ans hb q4
              replace HB := Lib.hid (HB.out.trans (hb.mono HB.out.size))
              clear hb
              go_wp2_with fail
              refine (HS3.out _).mono ?_
              rintro e w4 ⟨rfl, rfl⟩
              cases z3
              · go_wp2_with fail
                try rw [Exit.noGoto_ret]
                go_ret
                exact FaultP.no (by decide) HB.out
              · go_wp2_with fail
                go_roundw
                case rel => exact ⟨k + 1, by omega, by go_num, fun j hj => HPA.out j hj (by rw [HPB.out]; rfl), HBW2.out⟩
                case measure => simp [intOf]; omega
        · obtain rfl : k = l.pt.length := by omega
          have hkli : ¬ (l.pt.length : Int) < (l.pt.length : Int) := by omega
          go_wp2_with fail
          go_ret
          exact ⟨0, rfl, fun _ => ⟨h1, h2, hbd.1, hbd.2, hr.1, hr.2, by have := H30.out; omega, HALL.out, HALL2.out⟩, HB.out⟩
end Go.Proofs.Ytenpiinkbfancaa.Pa
