/-
  OilPlays: the walk.
-/
import Derived.Test.YtgnonfomlgkpcaaV
import Derived.Handy
namespace Go.Proofs.Ytgnonfomlgkpcaa
open Go.RowKit

theorem Grd.step {w w' : World} {A : Option Addr} {xss : List (List Int)} (h : Grd w.heap.size w A xss) (hb : Below w.heap.size w w') : Grd w'.heap.size w' A xss := (h.below hb).more hb.size
theorem Ints.step {w w' : World} {A : Option Addr} {xs : List Int} (h : Ints w.heap.size w A xs) (hb : Below w.heap.size w w') : Ints w'.heap.size w' A xs := (h.below hb).more hb.size

theorem ballsErr_nil (xss : List (List Int)) (lo hi ca : Int) : ballsErr xss lo hi ca [] = laneErr xss lo hi ca := by
  rw [ballsErr]
  split
  · rename_i h; rw [h]; simp [allB_true (n := 0) (fun j hj => by omega)]
  · rfl

/-- A new pattern and no error. -/
def OkGrd (w : World) (yss : List (List Int)) (e : Ending) (w' : World) : Prop :=
  ∃ A c, e = .returned (.tuple #[.slice A yss.length c, .int .i64 0]) ∧ (yss.length ≤ c ∧ c ≤ 9223372036854775807) ∧ Grd w'.heap.size w' A yss ∧ Below w.heap.size w w'
/-- A new list of lists. -/
def IsNew (w : World) (yss : List (List Int)) (e : Ending) (w' : World) : Prop :=
  ∃ A c, e = .returned (.slice A yss.length c) ∧ (yss.length ≤ c ∧ c ≤ 9223372036854775807) ∧ Grd w'.heap.size w' A yss ∧ Below w.heap.size w w'

section
variable (A Ab Aw : Option Addr) (xss bss wss : List (List Int)) (c cb cw : Nat) (lo hi ca : Int) (w : World)
noncomputable def playX : List (List Int) := rowsOf (playO ca xss.length bss wss (oilOf xss) bss.length) (rx xss 0).length xss.length

theorem play_bad_c (hr : Grd w.heap.size w A xss) (hb : Grd w.heap.size w Ab bss) (hwr : Grd w.heap.size w Aw wss) (hc : xss.length ≤ c ∧ c ≤ 9223372036854775807) (hcb : bss.length ≤ cb ∧ cb ≤ 9223372036854775807) (hcw : wss.length ≤ cw ∧ cw ≤ 9223372036854775807) (h : playErr xss lo hi ca bss wss ≠ 0) :
    Calls Try.prog 20 #[.agg #[.slice A xss.length c, .int .i64 lo, .int .i64 hi, .int .i64 ca], .slice Ab bss.length cb, .slice Aw wss.length cw] w (Ans w (.tuple #[.slice none 0 0, .int .i64 (playErr xss lo hi ca bss wss)])) := by
  refine (play_c A Ab Aw xss bss wss c cb cw lo hi ca w (Nat.le_refl _) hr hb hwr hc hcb hcw).mono ?_
  rintro e w' (⟨_, h1, h2⟩ | ⟨h1, _⟩)
  · exact ⟨h1, h2⟩
  · exact absurd h1 h

theorem play_ok_c (hr : Grd w.heap.size w A xss) (hb : Grd w.heap.size w Ab bss) (hwr : Grd w.heap.size w Aw wss) (hc : xss.length ≤ c ∧ c ≤ 9223372036854775807) (hcb : bss.length ≤ cb ∧ cb ≤ 9223372036854775807) (hcw : wss.length ≤ cw ∧ cw ≤ 9223372036854775807) (h : playErr xss lo hi ca bss wss = 0) :
    Calls Try.prog 20 #[.agg #[.slice A xss.length c, .int .i64 lo, .int .i64 hi, .int .i64 ca], .slice Ab bss.length cb, .slice Aw wss.length cw] w (OkGrd w (playX xss bss wss ca)) := by
  refine (play_c A Ab Aw xss bss wss c cb cw lo hi ca w (Nat.le_refl _) hr hb hwr hc hcb hcw).mono ?_
  rintro e w' (⟨h1, _⟩ | ⟨_, v, rfl, ⟨A', c', rfl, a, b, d⟩, hb⟩)
  · exact absurd h h1
  · exact ⟨A', c', rfl, ⟨a, b⟩, d, hb⟩

theorem refPlay_ok_c (hr : Grd w.heap.size w A xss) (hb : Grd w.heap.size w Ab bss) (hwr : Grd w.heap.size w Aw wss) (h : playErr xss lo hi ca bss wss = 0) :
    Calls Try.prog 25 #[.agg #[.slice A xss.length c, .int .i64 lo, .int .i64 hi, .int .i64 ca], .slice Ab bss.length cb, .slice Aw wss.length cw] w (IsNew w (playX xss bss wss ca)) := by
  refine (refPlay_c A Ab Aw xss bss wss c cb cw lo hi ca w (Nat.le_refl _) hr hb hwr h).mono ?_
  rintro e w' ⟨v, rfl, ⟨A', c', rfl, a, b, d⟩, hb⟩
  exact ⟨A', c', rfl, ⟨a, b⟩, d, hb⟩

theorem copied_new_c (hx : Grd w.heap.size w A xss) (hl : xss.length ≤ 1000000) (hr : ∀ k, k < xss.length → (rx xss k).length ≤ 1000000) : Calls Try.prog 21 #[.slice A xss.length c] w (IsNew w xss) := by
  refine (copied_c A xss c w (Nat.le_refl _) hx hl hr).mono ?_
  rintro e w' ⟨v, vs, rfl, h, hb⟩
  obtain ⟨A', c', rfl, a, b, d⟩ := h.grd
  exact ⟨A', c', rfl, ⟨a, b⟩, d, hb⟩
end

theorem shortB_le {m : Nat} {xss : List (List Int)} (h : shortB m xss = true) : xss.length ≤ m ∧ ∀ k, k < xss.length → (rx xss k).length ≤ 16 := by
  simp only [shortB, Bool.and_eq_true, decide_eq_true_eq, allB_iff] at h
  exact ⟨h.1, fun k hk => by simpa using h.2 k hk⟩
theorem shortB_big {m : Nat} (hm : m ≤ 1000) {xss : List (List Int)} (h : shortB m xss = true) : xss.length ≤ 1000000 ∧ ∀ k, k < xss.length → (rx xss k).length ≤ 1000000 :=
  ⟨by have := (shortB_le h).1; omega, fun k hk => by have := (shortB_le h).2 k hk; omega⟩
theorem grd_nil (B : Nat) (w : World) : Grd B w none [] := fun h => by simp at h

theorem fault2_c (A Ab : Option Addr) (xss bss : List (List Int)) (c cb : Nat) (lo hi ca : Int) (w : World) (hr : Grd w.heap.size w A xss) (hbs : Grd w.heap.size w Ab bss) (hc : xss.length ≤ c ∧ c ≤ 9223372036854775807) :
    Calls Try.prog 22 #[.agg #[.slice A xss.length c, .int .i64 lo, .int .i64 hi, .int .i64 ca], .slice Ab bss.length cb] w (Ans w (.int .i64 (ballsErr xss lo hi ca bss))) := lfault_c A Ab xss bss c cb lo hi ca w (Nat.le_refl _) hr hbs hc

set_option maxRecDepth 100000 in
set_option maxHeartbeats 4000000 in
theorem oilPlays_c (A Ab Aw : Option Addr) (xss bss wss : List (List Int)) (c cb cw : Nat) (lo hi ca : Int) (w : World) (hx : Grd w.heap.size w A xss) (hbs : Grd w.heap.size w Ab bss) (hws : Grd w.heap.size w Aw wss) (hc : xss.length ≤ c ∧ c ≤ 9223372036854775807) (hcb : bss.length ≤ cb ∧ cb ≤ 9223372036854775807) (hcw : wss.length ≤ cw ∧ cw ≤ 9223372036854775807) :
    Calls Try.prog 3 #[.agg #[.slice A xss.length c, .int .i64 lo, .int .i64 hi, .int .i64 ca], .slice Ab bss.length cb, .slice Aw wss.length cw] w (Ans w (.bool true)) := by
  have hb0 : Below w.heap.size w (w.alloc (.cells #[.slice A xss.length c, .int .i64 lo, .int .i64 hi, .int .i64 ca] 26)) := (Below.refl _ _).alloc (Nat.le_refl _) _
  have k0 : (w.alloc (.cells #[.slice A xss.length c, .int .i64 lo, .int .i64 hi, .int .i64 ca] 26)).cell? ⟨w.heap.size, 0, none⟩ = some (.slice A xss.length c) := by simp
  have k1 : (w.alloc (.cells #[.slice A xss.length c, .int .i64 lo, .int .i64 hi, .int .i64 ca] 26)).cell? ⟨w.heap.size, 1, none⟩ = some (.int .i64 lo) := by simp
  have k2 : (w.alloc (.cells #[.slice A xss.length c, .int .i64 lo, .int .i64 hi, .int .i64 ca] 26)).cell? ⟨w.heap.size, 2, none⟩ = some (.int .i64 hi) := by simp
  have k3 : (w.alloc (.cells #[.slice A xss.length c, .int .i64 lo, .int .i64 hi, .int .i64 ca] 26)).cell? ⟨w.heap.size, 3, none⟩ = some (.int .i64 ca) := by simp
  have HX := Lib.hid (hx.step hb0)
  have HBs := Lib.hid (hbs.step hb0)
  have HWs := Lib.hid (hws.step hb0)
  have HB := Lib.hid hb0
  clear hb0 hx hbs hws
  go_enter Try.func3, Try.ntmps3
  go_wp2_with fail
  generalize (w.alloc (.cells #[.slice A xss.length c, .int .i64 lo, .int .i64 hi, .int .i64 ca] 26)) = W0 at k0 k1 k2 k3 HX HBs HWs HB ⊢
  cases hP : shortB 12 xss && shortB 25 bss
  · have HP := Lib.hid hP
    clear hP
    refine (thin_c A Ab xss bss c cb lo hi ca _ (Nat.le_refl _) HX.out HBs.out hc hcb).mono ?_
    rw [HP.out]
    rintro e w1 ⟨rfl, hb⟩
    replace HX := Lib.hid (HX.out.step hb)
    replace HBs := Lib.hid (HBs.out.step hb)
    replace HWs := Lib.hid (HWs.out.step hb)
    replace k0 := cell_of_ans hb k0
    replace k1 := cell_of_ans hb k1
    replace k2 := cell_of_ans hb k2
    replace k3 := cell_of_ans hb k3
    replace HB := Lib.hid (HB.out.trans (hb.mono HB.out.size))
    clear hb
    go_wp2_with fail
    refine (awake_c _).mono ?_
    rintro e w9 ⟨rfl, hb⟩
    replace HX := Lib.hid (HX.out.step hb)
    replace HBs := Lib.hid (HBs.out.step hb)
    replace HWs := Lib.hid (HWs.out.step hb)
    replace k0 := cell_of_ans hb k0
    replace k1 := cell_of_ans hb k1
    replace k2 := cell_of_ans hb k2
    replace k3 := cell_of_ans hb k3
    replace HB := Lib.hid (HB.out.trans (hb.mono HB.out.size))
    clear hb
    go_wp2_with fail
    go_ret
    exact ⟨rfl, HB.out⟩
  · have HP := Lib.hid hP
    clear hP
    refine (thin_c A Ab xss bss c cb lo hi ca _ (Nat.le_refl _) HX.out HBs.out hc hcb).mono ?_
    rw [HP.out]
    rintro e w1 ⟨rfl, hb⟩
    replace HX := Lib.hid (HX.out.step hb)
    replace HBs := Lib.hid (HBs.out.step hb)
    replace HWs := Lib.hid (HWs.out.step hb)
    replace k0 := cell_of_ans hb k0
    replace k1 := cell_of_ans hb k1
    replace k2 := cell_of_ans hb k2
    replace k3 := cell_of_ans hb k3
    replace HB := Lib.hid (HB.out.trans (hb.mono HB.out.size))
    clear hb
    cases hQ : shortB 25 wss
    · have HQ := Lib.hid hQ
      clear hQ
      go_wp2_with fail
      refine (short_c2 Aw wss cw 25 25 rfl _ HWs.out hcw (by omega)).mono ?_
      rw [HQ.out]
      rintro e w2 ⟨rfl, rfl⟩
      go_wp2_with fail
      refine (awake_c _).mono ?_
      rintro e w9 ⟨rfl, hb⟩
      replace HX := Lib.hid (HX.out.step hb)
      replace HBs := Lib.hid (HBs.out.step hb)
      replace HWs := Lib.hid (HWs.out.step hb)
      replace k0 := cell_of_ans hb k0
      replace k1 := cell_of_ans hb k1
      replace k2 := cell_of_ans hb k2
      replace k3 := cell_of_ans hb k3
      replace HB := Lib.hid (HB.out.trans (hb.mono HB.out.size))
      clear hb
      go_wp2_with fail
      go_ret
      exact ⟨rfl, HB.out⟩
    · have HQ := Lib.hid hQ
      clear hQ
      go_wp2_with fail
      refine (short_c2 Aw wss cw 25 25 rfl _ HWs.out hcw (by omega)).mono ?_
      rw [HQ.out]
      rintro e w2 ⟨rfl, rfl⟩
      have HP1 : Hid (shortB 12 xss = true) := (Bool.and_eq_true_iff.1 HP.out).1
      have HP2 : Hid (shortB 25 bss = true) := (Bool.and_eq_true_iff.1 HP.out).2
      go_wp2_with fail
      refine (lane_c A xss c lo hi ca _ (Nat.le_refl _) HX.out (shortB_big (by omega) HP1.out).1 (shortB_big (by omega) HP1.out).2).mono ?_
      rintro e w3 ⟨A1, c1, rfl, hc1, g1, hb⟩
      replace HX := Lib.hid (HX.out.step hb)
      replace HBs := Lib.hid (HBs.out.step hb)
      replace HWs := Lib.hid (HWs.out.step hb)
      replace k0 := cell_of_ans hb k0
      replace k1 := cell_of_ans hb k1
      replace k2 := cell_of_ans hb k2
      replace k3 := cell_of_ans hb k3
      replace HB := Lib.hid (HB.out.trans (hb.mono HB.out.size))
      clear hb
      have Hg1 := Lib.hid g1
      clear g1
      go_wp2_with fail
      refine (checkLane_c A1 xss c1 lo hi ca _ (Nat.le_refl _) Hg1.out hc1).mono ?_
      rintro e w4 ⟨rfl, hb⟩
      replace HX := Lib.hid (HX.out.step hb)
      replace HBs := Lib.hid (HBs.out.step hb)
      replace HWs := Lib.hid (HWs.out.step hb)
      replace k0 := cell_of_ans hb k0
      replace k1 := cell_of_ans hb k1
      replace k2 := cell_of_ans hb k2
      replace k3 := cell_of_ans hb k3
      replace Hg1 := Lib.hid (Hg1.out.step hb)
      replace HB := Lib.hid (HB.out.trans (hb.mono HB.out.size))
      clear hb
      clear Hg1
      go_wp2_with fail
      refine (lane_c A xss c lo hi ca _ (Nat.le_refl _) HX.out (shortB_big (by omega) HP1.out).1 (shortB_big (by omega) HP1.out).2).mono ?_
      rintro e w5 ⟨A2, c2, rfl, hc2, g2, hb⟩
      replace HX := Lib.hid (HX.out.step hb)
      replace HBs := Lib.hid (HBs.out.step hb)
      replace HWs := Lib.hid (HWs.out.step hb)
      replace k0 := cell_of_ans hb k0
      replace k1 := cell_of_ans hb k1
      replace k2 := cell_of_ans hb k2
      replace k3 := cell_of_ans hb k3
      replace HB := Lib.hid (HB.out.trans (hb.mono HB.out.size))
      clear hb
      have Hg2 := Lib.hid g2
      clear g2
      go_wp2_with fail
      refine (copied_new_c Ab bss cb _ HBs.out (shortB_big (by omega) HP2.out).1 (shortB_big (by omega) HP2.out).2).mono ?_
      rintro e w6 ⟨A3, c3, rfl, hc3, g3, hb⟩
      replace HX := Lib.hid (HX.out.step hb)
      replace HBs := Lib.hid (HBs.out.step hb)
      replace HWs := Lib.hid (HWs.out.step hb)
      replace k0 := cell_of_ans hb k0
      replace k1 := cell_of_ans hb k1
      replace k2 := cell_of_ans hb k2
      replace k3 := cell_of_ans hb k3
      replace Hg2 := Lib.hid (Hg2.out.step hb)
      replace HB := Lib.hid (HB.out.trans (hb.mono HB.out.size))
      clear hb
      have Hg3 := Lib.hid g3
      clear g3
      go_wp2_with fail
      refine (copied_new_c Aw wss cw _ HWs.out (shortB_big (by omega) HQ.out).1 (shortB_big (by omega) HQ.out).2).mono ?_
      rintro e w7 ⟨A4, c4, rfl, hc4, g4, hb⟩
      replace HX := Lib.hid (HX.out.step hb)
      replace HBs := Lib.hid (HBs.out.step hb)
      replace HWs := Lib.hid (HWs.out.step hb)
      replace k0 := cell_of_ans hb k0
      replace k1 := cell_of_ans hb k1
      replace k2 := cell_of_ans hb k2
      replace k3 := cell_of_ans hb k3
      replace Hg2 := Lib.hid (Hg2.out.step hb)
      replace Hg3 := Lib.hid (Hg3.out.step hb)
      replace HB := Lib.hid (HB.out.trans (hb.mono HB.out.size))
      clear hb
      have Hg4 := Lib.hid g4
      clear g4
      have HN := Lib.hid (ballsErr_nil xss lo hi ca)
      by_cases h0 : ballsErr xss lo hi ca bss = 0
      · have HZ := Lib.hid h0
        cases hw : wearsB xss.length lo hi bss wss
        · have HV : Hid (playErr xss lo hi ca bss wss = 2) := by show _ = _; simp [playErr, h0, hw]
          have HE : Hid (playErr xss lo hi ca bss wss ≠ 0) := by show _ ≠ _; rw [HV.out]; decide
          have HI := Lib.hid hw
          clear h0 hw
          go_wp2_with fail
          refine (play_bad_c A2 A3 A4 xss bss wss c2 c3 c4 lo hi ca _ Hg2.out Hg3.out Hg4.out hc2 hc3 hc4 HE.out).mono ?_
          rw [HV.out]
          rintro e w8 ⟨rfl, hb⟩
          replace HX := Lib.hid (HX.out.step hb)
          replace HBs := Lib.hid (HBs.out.step hb)
          replace HWs := Lib.hid (HWs.out.step hb)
          replace k0 := cell_of_ans hb k0
          replace k1 := cell_of_ans hb k1
          replace k2 := cell_of_ans hb k2
          replace k3 := cell_of_ans hb k3
          replace Hg2 := Lib.hid (Hg2.out.step hb)
          replace Hg3 := Lib.hid (Hg3.out.step hb)
          replace Hg4 := Lib.hid (Hg4.out.step hb)
          replace HB := Lib.hid (HB.out.trans (hb.mono HB.out.size))
          clear hb
          clear Hg2 Hg3 Hg4
          have hne : (laneErr xss lo hi ca != laneErr xss lo hi ca) = false := by simp
          go_wp2_with fail
          refine (fault2_c A none xss [] c 0 lo hi ca _ HX.out (grd_nil _ _) hc).mono ?_
          rw [HN.out]
          rintro e w10 ⟨rfl, hb⟩
          replace HX := Lib.hid (HX.out.step hb)
          replace HBs := Lib.hid (HBs.out.step hb)
          replace HWs := Lib.hid (HWs.out.step hb)
          replace k0 := cell_of_ans hb k0
          replace k1 := cell_of_ans hb k1
          replace k2 := cell_of_ans hb k2
          replace k3 := cell_of_ans hb k3
          replace HB := Lib.hid (HB.out.trans (hb.mono HB.out.size))
          clear hb
          go_wp2_with fail
          refine (fault2_c A Ab xss bss c cb lo hi ca _ HX.out HBs.out hc).mono ?_
          rw [HZ.out]
          rintro e w11 ⟨rfl, hb⟩
          replace HX := Lib.hid (HX.out.step hb)
          replace HBs := Lib.hid (HBs.out.step hb)
          replace HWs := Lib.hid (HWs.out.step hb)
          replace k0 := cell_of_ans hb k0
          replace k1 := cell_of_ans hb k1
          replace k2 := cell_of_ans hb k2
          replace k3 := cell_of_ans hb k3
          replace HB := Lib.hid (HB.out.trans (hb.mono HB.out.size))
          clear hb
          clear hne
          go_wp2_with fail
          refine (isWear_c A Ab Aw xss.length bss.length wss c cb cw lo hi ca _ (Nat.le_refl _) HWs.out hcw bss rfl (by omega)).mono ?_
          rw [HI.out]
          rintro e w12 ⟨rfl, hb⟩
          replace HX := Lib.hid (HX.out.step hb)
          replace HBs := Lib.hid (HBs.out.step hb)
          replace HWs := Lib.hid (HWs.out.step hb)
          replace k0 := cell_of_ans hb k0
          replace k1 := cell_of_ans hb k1
          replace k2 := cell_of_ans hb k2
          replace k3 := cell_of_ans hb k3
          replace HB := Lib.hid (HB.out.trans (hb.mono HB.out.size))
          clear hb
          go_wp2_with fail
          refine (awake_c _).mono ?_
          rintro e w13 ⟨rfl, hb⟩
          replace HX := Lib.hid (HX.out.step hb)
          replace HBs := Lib.hid (HBs.out.step hb)
          replace HWs := Lib.hid (HWs.out.step hb)
          replace k0 := cell_of_ans hb k0
          replace k1 := cell_of_ans hb k1
          replace k2 := cell_of_ans hb k2
          replace k3 := cell_of_ans hb k3
          replace HB := Lib.hid (HB.out.trans (hb.mono HB.out.size))
          clear hb
          go_wp2_with fail
          go_ret
          exact ⟨rfl, HB.out⟩
        · have HE : Hid (playErr xss lo hi ca bss wss = 0) := by show _ = _; simp [playErr, h0, hw]
          have HI := Lib.hid hw
          clear h0 hw
          go_wp2_with fail
          refine (play_ok_c A2 A3 A4 xss bss wss c2 c3 c4 lo hi ca _ Hg2.out Hg3.out Hg4.out hc2 hc3 hc4 HE.out).mono ?_
          rintro e w8 ⟨A5, c5, rfl, hc5, g5, hb⟩
          replace HX := Lib.hid (HX.out.step hb)
          replace HBs := Lib.hid (HBs.out.step hb)
          replace HWs := Lib.hid (HWs.out.step hb)
          replace k0 := cell_of_ans hb k0
          replace k1 := cell_of_ans hb k1
          replace k2 := cell_of_ans hb k2
          replace k3 := cell_of_ans hb k3
          replace Hg2 := Lib.hid (Hg2.out.step hb)
          replace Hg3 := Lib.hid (Hg3.out.step hb)
          replace Hg4 := Lib.hid (Hg4.out.step hb)
          replace HB := Lib.hid (HB.out.trans (hb.mono HB.out.size))
          clear hb
          have Hg5 := Lib.hid g5
          clear g5
          clear Hg2 Hg3 Hg4
          have hne : (laneErr xss lo hi ca != laneErr xss lo hi ca) = false := by simp
          go_wp2_with fail
          refine (fault2_c A none xss [] c 0 lo hi ca _ HX.out (grd_nil _ _) hc).mono ?_
          rw [HN.out]
          rintro e w10 ⟨rfl, hb⟩
          replace HX := Lib.hid (HX.out.step hb)
          replace HBs := Lib.hid (HBs.out.step hb)
          replace HWs := Lib.hid (HWs.out.step hb)
          replace k0 := cell_of_ans hb k0
          replace k1 := cell_of_ans hb k1
          replace k2 := cell_of_ans hb k2
          replace k3 := cell_of_ans hb k3
          replace Hg5 := Lib.hid (Hg5.out.step hb)
          replace HB := Lib.hid (HB.out.trans (hb.mono HB.out.size))
          clear hb
          go_wp2_with fail
          refine (fault2_c A Ab xss bss c cb lo hi ca _ HX.out HBs.out hc).mono ?_
          rw [HZ.out]
          rintro e w11 ⟨rfl, hb⟩
          replace HX := Lib.hid (HX.out.step hb)
          replace HBs := Lib.hid (HBs.out.step hb)
          replace HWs := Lib.hid (HWs.out.step hb)
          replace k0 := cell_of_ans hb k0
          replace k1 := cell_of_ans hb k1
          replace k2 := cell_of_ans hb k2
          replace k3 := cell_of_ans hb k3
          replace Hg5 := Lib.hid (Hg5.out.step hb)
          replace HB := Lib.hid (HB.out.trans (hb.mono HB.out.size))
          clear hb
          clear hne
          go_wp2_with fail
          refine (isWear_c A Ab Aw xss.length bss.length wss c cb cw lo hi ca _ (Nat.le_refl _) HWs.out hcw bss rfl (by omega)).mono ?_
          rw [HI.out]
          rintro e w12 ⟨rfl, hb⟩
          replace HX := Lib.hid (HX.out.step hb)
          replace HBs := Lib.hid (HBs.out.step hb)
          replace HWs := Lib.hid (HWs.out.step hb)
          replace k0 := cell_of_ans hb k0
          replace k1 := cell_of_ans hb k1
          replace k2 := cell_of_ans hb k2
          replace k3 := cell_of_ans hb k3
          replace Hg5 := Lib.hid (Hg5.out.step hb)
          replace HB := Lib.hid (HB.out.trans (hb.mono HB.out.size))
          clear hb
          go_wp2_with fail
          refine (refPlay_ok_c A Ab Aw xss bss wss c cb cw lo hi ca _ HX.out HBs.out HWs.out HE.out).mono ?_
          rintro e w13 ⟨A6, c6, rfl, hc6, g6, hb⟩
          replace HX := Lib.hid (HX.out.step hb)
          replace HBs := Lib.hid (HBs.out.step hb)
          replace HWs := Lib.hid (HWs.out.step hb)
          replace k0 := cell_of_ans hb k0
          replace k1 := cell_of_ans hb k1
          replace k2 := cell_of_ans hb k2
          replace k3 := cell_of_ans hb k3
          replace Hg5 := Lib.hid (Hg5.out.step hb)
          replace HB := Lib.hid (HB.out.trans (hb.mono HB.out.size))
          clear hb
          have Hg6 := Lib.hid g6
          clear g6
          have HT : Hid (eqGB (playX xss bss wss ca) (playX xss bss wss ca) = true) := by show _ = _; simp [eqGB]
          go_wp2_with fail
          refine (rows_c A5 A6 _ _ c5 c6 _ Hg5.out Hg6.out hc5 hc6).mono ?_
          rw [HT.out]
          rintro e w14 h14
          obtain ⟨rfl, hb⟩ := h14.ans
          clear h14
          replace HX := Lib.hid (HX.out.step hb)
          replace HBs := Lib.hid (HBs.out.step hb)
          replace HWs := Lib.hid (HWs.out.step hb)
          replace k0 := cell_of_ans hb k0
          replace k1 := cell_of_ans hb k1
          replace k2 := cell_of_ans hb k2
          replace k3 := cell_of_ans hb k3
          replace Hg5 := Lib.hid (Hg5.out.step hb)
          replace Hg6 := Lib.hid (Hg6.out.step hb)
          replace HB := Lib.hid (HB.out.trans (hb.mono HB.out.size))
          clear hb
          go_wp2_with fail
          refine (awake_c _).mono ?_
          rintro e w15 ⟨rfl, hb⟩
          replace HX := Lib.hid (HX.out.step hb)
          replace HBs := Lib.hid (HBs.out.step hb)
          replace HWs := Lib.hid (HWs.out.step hb)
          replace k0 := cell_of_ans hb k0
          replace k1 := cell_of_ans hb k1
          replace k2 := cell_of_ans hb k2
          replace k3 := cell_of_ans hb k3
          replace Hg5 := Lib.hid (Hg5.out.step hb)
          replace Hg6 := Lib.hid (Hg6.out.step hb)
          replace HB := Lib.hid (HB.out.trans (hb.mono HB.out.size))
          clear hb
          go_wp2_with fail
          go_ret
          exact ⟨rfl, HB.out⟩
      · have HV : Hid (playErr xss lo hi ca bss wss = ballsErr xss lo hi ca bss) := by show _ = _; simp [playErr, h0]
        have HE : Hid (playErr xss lo hi ca bss wss ≠ 0) := by show _ ≠ _; rw [HV.out]; exact h0
        have hz1 : (ballsErr xss lo hi ca bss == 0) = false := by simp [h0]
        have hz2 : (ballsErr xss lo hi ca bss != 0) = true := by simp [h0]
        have hz3 : (ballsErr xss lo hi ca bss == ballsErr xss lo hi ca bss) = true := by simp
        clear h0
        go_wp2_with fail
        refine (play_bad_c A2 A3 A4 xss bss wss c2 c3 c4 lo hi ca _ Hg2.out Hg3.out Hg4.out hc2 hc3 hc4 HE.out).mono ?_
        rw [HV.out]
        rintro e w8 ⟨rfl, hb⟩
        replace HX := Lib.hid (HX.out.step hb)
        replace HBs := Lib.hid (HBs.out.step hb)
        replace HWs := Lib.hid (HWs.out.step hb)
        replace k0 := cell_of_ans hb k0
        replace k1 := cell_of_ans hb k1
        replace k2 := cell_of_ans hb k2
        replace k3 := cell_of_ans hb k3
        replace Hg2 := Lib.hid (Hg2.out.step hb)
        replace Hg3 := Lib.hid (Hg3.out.step hb)
        replace Hg4 := Lib.hid (Hg4.out.step hb)
        replace HB := Lib.hid (HB.out.trans (hb.mono HB.out.size))
        clear hb
        clear Hg2 Hg3 Hg4
        have hne : (laneErr xss lo hi ca != laneErr xss lo hi ca) = false := by simp
        go_wp2_with fail
        refine (fault2_c A none xss [] c 0 lo hi ca _ HX.out (grd_nil _ _) hc).mono ?_
        rw [HN.out]
        rintro e w10 ⟨rfl, hb⟩
        replace HX := Lib.hid (HX.out.step hb)
        replace HBs := Lib.hid (HBs.out.step hb)
        replace HWs := Lib.hid (HWs.out.step hb)
        replace k0 := cell_of_ans hb k0
        replace k1 := cell_of_ans hb k1
        replace k2 := cell_of_ans hb k2
        replace k3 := cell_of_ans hb k3
        replace HB := Lib.hid (HB.out.trans (hb.mono HB.out.size))
        clear hb
        go_wp2_with fail
        refine (fault2_c A Ab xss bss c cb lo hi ca _ HX.out HBs.out hc).mono ?_
        rintro e w11 ⟨rfl, hb⟩
        replace HX := Lib.hid (HX.out.step hb)
        replace HBs := Lib.hid (HBs.out.step hb)
        replace HWs := Lib.hid (HWs.out.step hb)
        replace k0 := cell_of_ans hb k0
        replace k1 := cell_of_ans hb k1
        replace k2 := cell_of_ans hb k2
        replace k3 := cell_of_ans hb k3
        replace HB := Lib.hid (HB.out.trans (hb.mono HB.out.size))
        clear hb
        clear hne
        go_wp2_with fail
        refine (awake_c _).mono ?_
        rintro e w13 ⟨rfl, hb⟩
        replace HX := Lib.hid (HX.out.step hb)
        replace HBs := Lib.hid (HBs.out.step hb)
        replace HWs := Lib.hid (HWs.out.step hb)
        replace k0 := cell_of_ans hb k0
        replace k1 := cell_of_ans hb k1
        replace k2 := cell_of_ans hb k2
        replace k3 := cell_of_ans hb k3
        replace HB := Lib.hid (HB.out.trans (hb.mono HB.out.size))
        clear hb
        go_wp2_with fail
        go_ret
        exact ⟨rfl, HB.out⟩
end Go.Proofs.Ytgnonfomlgkpcaa
