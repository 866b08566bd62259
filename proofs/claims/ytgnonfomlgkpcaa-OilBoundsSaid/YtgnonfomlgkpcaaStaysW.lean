/-
  OilStays: the walk.
-/
import Derived.Test.YtgnonfomlgkpcaaStaysM
namespace Go.Proofs.Ytgnonfomlgkpcaa
open Go.RowKit

section
variable (A A' An : Option Addr) (xss : List (List Int)) (x nd : List Int) (c c' cn : Nat) (lo hi ca : Int) (w : World) (hr : Grd w.heap.size w A xss) (hx : Ints w.heap.size w A' x) (hn : Ints w.heap.size w An nd) (hc : xss.length ≤ c ∧ c ≤ 9223372036854775807) (hc' : x.length ≤ c' ∧ c' ≤ 9223372036854775807) (hcn : nd.length ≤ cn ∧ cn ≤ 9223372036854775807)
include hr hx hn hc hc' hcn
theorem lasts_bad_c (h : lastsErr xss lo hi ca x nd ≠ 0) : Calls Try.prog 36 #[.agg #[.slice A xss.length c, .int .i64 lo, .int .i64 hi, .int .i64 ca], .agg #[.slice A' x.length c', .slice An nd.length cn]] w (Ans w (.tuple #[.int .i64 0, .int .i64 (lastsErr xss lo hi ca x nd)])) := by
  refine (lasts_c A A' An xss x nd c c' cn lo hi ca w (Nat.le_refl _) hr hx hn hc hc' hcn).mono ?_
  rintro e w' (⟨_, h1, h2⟩ | ⟨h1, _⟩)
  · exact ⟨h1, h2⟩
  · exact absurd h1 h
theorem lasts_ok_c (h : lastsErr xss lo hi ca x nd = 0) : Calls Try.prog 36 #[.agg #[.slice A xss.length c, .int .i64 lo, .int .i64 hi, .int .i64 ca], .agg #[.slice A' x.length c', .slice An nd.length cn]] w (Ans w (.tuple #[.int .i64 (lastsFrom ca x nd lo hi (oilOf xss) 0 20), .int .i64 0])) := by
  refine (lasts_c A A' An xss x nd c c' cn lo hi ca w (Nat.le_refl _) hr hx hn hc hc' hcn).mono ?_
  rintro e w' (⟨h1, _⟩ | ⟨_, h1, h2⟩)
  · exact absurd h h1
  · exact ⟨h1, h2⟩
end

set_option maxRecDepth 100000 in
set_option maxHeartbeats 8000000 in
theorem oilStays_c (A Ab A' An : Option Addr) (xss bss : List (List Int)) (x nd : List Int) (c cb c' cn : Nat) (lo hi ca : Int) (w : World) (hx : Grd w.heap.size w A xss) (hbs : Grd w.heap.size w Ab bss) (hi_ : Ints w.heap.size w A' x) (hn_ : Ints w.heap.size w An nd) (hc : xss.length ≤ c ∧ c ≤ 9223372036854775807) (hcb : bss.length ≤ cb ∧ cb ≤ 9223372036854775807) (hc' : x.length ≤ c' ∧ c' ≤ 9223372036854775807) (hcn : nd.length ≤ cn ∧ cn ≤ 9223372036854775807) :
    Calls Try.prog 8 #[.agg #[.slice A xss.length c, .int .i64 lo, .int .i64 hi, .int .i64 ca], .slice Ab bss.length cb, .agg #[.slice A' x.length c', .slice An nd.length cn]] w (Ans w (.bool true)) := by
  have hb0 : Below w.heap.size w ((w.alloc (.cells #[.slice A xss.length c, .int .i64 lo, .int .i64 hi, .int .i64 ca] 26)).alloc (.cells #[.slice A' x.length c', .slice An nd.length cn] 55)) := ((Below.refl _ _).alloc (Nat.le_refl _) _).alloc (by simp) _
  have k0 : ((w.alloc (.cells #[.slice A xss.length c, .int .i64 lo, .int .i64 hi, .int .i64 ca] 26)).alloc (.cells #[.slice A' x.length c', .slice An nd.length cn] 55)).cell? ⟨w.heap.size, 0, none⟩ = some (.slice A xss.length c) := by go_simp
  have k1 : ((w.alloc (.cells #[.slice A xss.length c, .int .i64 lo, .int .i64 hi, .int .i64 ca] 26)).alloc (.cells #[.slice A' x.length c', .slice An nd.length cn] 55)).cell? ⟨w.heap.size, 1, none⟩ = some (.int .i64 lo) := by go_simp
  have k2 : ((w.alloc (.cells #[.slice A xss.length c, .int .i64 lo, .int .i64 hi, .int .i64 ca] 26)).alloc (.cells #[.slice A' x.length c', .slice An nd.length cn] 55)).cell? ⟨w.heap.size, 2, none⟩ = some (.int .i64 hi) := by go_simp
  have k3 : ((w.alloc (.cells #[.slice A xss.length c, .int .i64 lo, .int .i64 hi, .int .i64 ca] 26)).alloc (.cells #[.slice A' x.length c', .slice An nd.length cn] 55)).cell? ⟨w.heap.size, 3, none⟩ = some (.int .i64 ca) := by go_simp
  have j0 : ((w.alloc (.cells #[.slice A xss.length c, .int .i64 lo, .int .i64 hi, .int .i64 ca] 26)).alloc (.cells #[.slice A' x.length c', .slice An nd.length cn] 55)).cell? ⟨w.heap.size + 1, 0, none⟩ = some (.slice A' x.length c') := by go_simp
  have j1 : ((w.alloc (.cells #[.slice A xss.length c, .int .i64 lo, .int .i64 hi, .int .i64 ca] 26)).alloc (.cells #[.slice A' x.length c', .slice An nd.length cn] 55)).cell? ⟨w.heap.size + 1, 1, none⟩ = some (.slice An nd.length cn) := by go_simp
  have HX := Lib.hid (hx.step hb0)
  have HBs := Lib.hid (hbs.step hb0)
  have HI := Lib.hid (hi_.step hb0)
  have HN := Lib.hid (hn_.step hb0)
  have HB := Lib.hid hb0
  clear hb0 hx hbs hi_ hn_
  go_enter Try.func8, Try.ntmps8
  go_wp2_with fail
  generalize ((w.alloc (.cells #[.slice A xss.length c, .int .i64 lo, .int .i64 hi, .int .i64 ca] 26)).alloc (.cells #[.slice A' x.length c', .slice An nd.length cn] 55)) = W0 at k0 k1 k2 k3 j0 j1 HX HBs HI HN HB ⊢
  cases hP : shortB 12 xss && shortB 25 bss
  · have HP := Lib.hid hP
    clear hP
    refine (thin_c A Ab xss bss c cb lo hi ca _ (Nat.le_refl _) HX.out HBs.out hc hcb).mono ?_
    rw [HP.out]
    rintro e w1 ⟨rfl, hb⟩
    replace HX := Lib.hid (HX.out.step hb)
    replace HBs := Lib.hid (HBs.out.step hb)
    replace HI := Lib.hid (HI.out.step hb)
    replace HN := Lib.hid (HN.out.step hb)
    replace k0 := cell_of_ans hb k0
    replace k1 := cell_of_ans hb k1
    replace k2 := cell_of_ans hb k2
    replace k3 := cell_of_ans hb k3
    replace j0 := cell_of_ans hb j0
    replace j1 := cell_of_ans hb j1
    replace HB := Lib.hid (HB.out.trans (hb.mono HB.out.size))
    clear hb
    go_wp2_with fail
    refine (awake_c _).mono ?_
    rintro e w9 ⟨rfl, hb⟩
    replace HX := Lib.hid (HX.out.step hb)
    replace HBs := Lib.hid (HBs.out.step hb)
    replace HI := Lib.hid (HI.out.step hb)
    replace HN := Lib.hid (HN.out.step hb)
    replace k0 := cell_of_ans hb k0
    replace k1 := cell_of_ans hb k1
    replace k2 := cell_of_ans hb k2
    replace k3 := cell_of_ans hb k3
    replace j0 := cell_of_ans hb j0
    replace j1 := cell_of_ans hb j1
    replace HB := Lib.hid (HB.out.trans (hb.mono HB.out.size))
    clear hb
    go_wp2_with fail
    go_ret
    exact ⟨rfl, HB.out⟩
  · have HP := Lib.hid hP
    clear hP
    refine (thin_c A Ab xss bss c cb lo hi ca _ (Nat.le_refl _) HX.out HBs.out hc hcb).mono ?_
    rw [HP.out]
    rintro e w1 ⟨rfl, hb⟩
    replace HX := Lib.hid (HX.out.step hb)
    replace HBs := Lib.hid (HBs.out.step hb)
    replace HI := Lib.hid (HI.out.step hb)
    replace HN := Lib.hid (HN.out.step hb)
    replace k0 := cell_of_ans hb k0
    replace k1 := cell_of_ans hb k1
    replace k2 := cell_of_ans hb k2
    replace k3 := cell_of_ans hb k3
    replace j0 := cell_of_ans hb j0
    replace j1 := cell_of_ans hb j1
    replace HB := Lib.hid (HB.out.trans (hb.mono HB.out.size))
    clear hb
    cases hF : fewB [(x, nd)]
    · have HF := Lib.hid hF
      clear hF
      go_wp2_with fail
      refine (few1_c A' An x nd c' cn _ HI.out HN.out hc' hcn).mono ?_
      rw [HF.out]
      rintro e w2 ⟨rfl, hb⟩
      replace HX := Lib.hid (HX.out.step hb)
      replace HBs := Lib.hid (HBs.out.step hb)
      replace HI := Lib.hid (HI.out.step hb)
      replace HN := Lib.hid (HN.out.step hb)
      replace k0 := cell_of_ans hb k0
      replace k1 := cell_of_ans hb k1
      replace k2 := cell_of_ans hb k2
      replace k3 := cell_of_ans hb k3
      replace j0 := cell_of_ans hb j0
      replace j1 := cell_of_ans hb j1
      replace HB := Lib.hid (HB.out.trans (hb.mono HB.out.size))
      clear hb
      go_wp2_with fail
      refine (awake_c _).mono ?_
      rintro e w9 ⟨rfl, hb⟩
      replace HX := Lib.hid (HX.out.step hb)
      replace HBs := Lib.hid (HBs.out.step hb)
      replace HI := Lib.hid (HI.out.step hb)
      replace HN := Lib.hid (HN.out.step hb)
      replace k0 := cell_of_ans hb k0
      replace k1 := cell_of_ans hb k1
      replace k2 := cell_of_ans hb k2
      replace k3 := cell_of_ans hb k3
      replace j0 := cell_of_ans hb j0
      replace j1 := cell_of_ans hb j1
      replace HB := Lib.hid (HB.out.trans (hb.mono HB.out.size))
      clear hb
      go_wp2_with fail
      go_ret
      exact ⟨rfl, HB.out⟩
    · have HF := Lib.hid hF
      clear hF
      go_wp2_with fail
      refine (few1_c A' An x nd c' cn _ HI.out HN.out hc' hcn).mono ?_
      rw [HF.out]
      rintro e w2 ⟨rfl, hb⟩
      replace HX := Lib.hid (HX.out.step hb)
      replace HBs := Lib.hid (HBs.out.step hb)
      replace HI := Lib.hid (HI.out.step hb)
      replace HN := Lib.hid (HN.out.step hb)
      replace k0 := cell_of_ans hb k0
      replace k1 := cell_of_ans hb k1
      replace k2 := cell_of_ans hb k2
      replace k3 := cell_of_ans hb k3
      replace j0 := cell_of_ans hb j0
      replace j1 := cell_of_ans hb j1
      replace HB := Lib.hid (HB.out.trans (hb.mono HB.out.size))
      clear hb
      have HS1 : Hid (shortB 12 xss = true) := (Bool.and_eq_true_iff.1 HP.out).1
      have HS2 : Hid (shortB 25 bss = true) := (Bool.and_eq_true_iff.1 HP.out).2
      obtain ⟨hx16, hn16⟩ := fewB1_le HF.out
      by_cases hle : laneErr xss lo hi ca = 0
      · have HLE := Lib.hid hle
        have hn0 := (laneOk hle).1
        have HNil : Hid (ballsErr xss lo hi ca [] = 0) := (ballsErr_nil xss lo hi ca).trans hle
        cases hln : lineB xss x nd
        · have HLV : Hid (lastsErr xss lo hi ca x nd = 2) := by show _ = _; rw [lastsErr, if_pos hle, hln]; rfl
          have HLB : Hid (lastsErr xss lo hi ca x nd ≠ 0) := by show _ ≠ _; rw [HLV.out]; decide
          have HLn := Lib.hid hln
          clear hle hln
          by_cases hbe : ballsErr xss lo hi ca bss = 0
          · have HBE := Lib.hid hbe
            clear hbe
            go_wp2_with fail
            have hd : Below w2.heap.size w2 w2.drew := (Below.refl _ _).drew
            replace HX := Lib.hid (HX.out.step hd)
            replace HBs := Lib.hid (HBs.out.step hd)
            replace HI := Lib.hid (HI.out.step hd)
            replace HN := Lib.hid (HN.out.step hd)
            replace HB := Lib.hid (HB.out.trans (hd.mono HB.out.size))
            clear hd
            go_region_held3 (fun w' => w'.cell? ⟨w.heap.size, 0, none⟩ = some (.slice A xss.length c) ∧ w'.cell? ⟨w.heap.size, 1, none⟩ = some (.int .i64 lo) ∧ w'.cell? ⟨w.heap.size, 2, none⟩ = some (.int .i64 hi) ∧ w'.cell? ⟨w.heap.size, 3, none⟩ = some (.int .i64 ca) ∧ w'.cell? ⟨w.heap.size + 1, 0, none⟩ = some (.slice A' x.length c') ∧ w'.cell? ⟨w.heap.size + 1, 1, none⟩ = some (.slice An nd.length cn)) (go_keep) (first | (go_at_call 19; refine (lane_c A xss c lo hi ca _ (Nat.le_refl _) HX.out (shortB_big (by omega) HS1.out).1 (shortB_big (by omega) HS1.out).2).mono ?_; rintro e w3 ⟨A2, c2, rfl, hc2, g2, hb⟩; replace HX := Lib.hid (HX.out.step hb); replace HBs := Lib.hid (HBs.out.step hb); replace HI := Lib.hid (HI.out.step hb); replace HN := Lib.hid (HN.out.step hb); replace k0 := cell_of_ans (below_drew_l hb) k0; replace k1 := cell_of_ans (below_drew_l hb) k1; replace k2 := cell_of_ans (below_drew_l hb) k2; replace k3 := cell_of_ans (below_drew_l hb) k3; replace j0 := cell_of_ans (below_drew_l hb) j0; replace j1 := cell_of_ans (below_drew_l hb) j1; replace HB := Lib.hid (HB.out.trans (hb.mono HB.out.size)); clear hb; have Hg2 := Lib.hid g2; clear g2) | (go_at_call 21; refine (copied_new_c Ab bss cb _ HBs.out (shortB_big (by omega) HS2.out).1 (shortB_big (by omega) HS2.out).2).mono ?_; rintro e w4 ⟨A3, c3, rfl, hc3, g3, hb⟩; replace HX := Lib.hid (HX.out.step hb); replace HBs := Lib.hid (HBs.out.step hb); replace HI := Lib.hid (HI.out.step hb); replace HN := Lib.hid (HN.out.step hb); replace k0 := cell_of_ans hb k0; replace k1 := cell_of_ans hb k1; replace k2 := cell_of_ans hb k2; replace k3 := cell_of_ans hb k3; replace j0 := cell_of_ans hb j0; replace j1 := cell_of_ans hb j1; replace Hg2 := Lib.hid (Hg2.out.step hb); replace HB := Lib.hid (HB.out.trans (hb.mono HB.out.size)); clear hb; have Hg3 := Lib.hid g3; clear g3) | (go_at_call 35; refine (line35_c A' An x nd c' cn _ HI.out HN.out (by omega) (by omega)).mono ?_; rintro e w5 ⟨A4, c4, A5, c5, rfl, hc4, hc5, g4, g5, hb⟩; replace HX := Lib.hid (HX.out.step hb); replace HBs := Lib.hid (HBs.out.step hb); replace HI := Lib.hid (HI.out.step hb); replace HN := Lib.hid (HN.out.step hb); replace k0 := cell_of_ans hb k0; replace k1 := cell_of_ans hb k1; replace k2 := cell_of_ans hb k2; replace k3 := cell_of_ans hb k3; replace j0 := cell_of_ans hb j0; replace j1 := cell_of_ans hb j1; replace Hg2 := Lib.hid (Hg2.out.step hb); replace Hg3 := Lib.hid (Hg3.out.step hb); replace HB := Lib.hid (HB.out.trans (hb.mono HB.out.size)); clear hb; have Hg4 := Lib.hid g4; clear g4; have Hg5 := Lib.hid g5; clear g5) | (go_at_call 34; refine (playable_bad2 A2 A3 A4 A5 xss bss x nd c2 c3 c4 c5 lo hi ca _ Hg2.out Hg3.out Hg4.out Hg5.out hc2 hc3 hc4 hc5 HBE.out HLn.out).mono ?_; rintro e w6 ⟨rfl, hb⟩; replace HX := Lib.hid (HX.out.step hb); replace HBs := Lib.hid (HBs.out.step hb); replace HI := Lib.hid (HI.out.step hb); replace HN := Lib.hid (HN.out.step hb); replace k0 := cell_of_ans hb k0; replace k1 := cell_of_ans hb k1; replace k2 := cell_of_ans hb k2; replace k3 := cell_of_ans hb k3; replace j0 := cell_of_ans hb j0; replace j1 := cell_of_ans hb j1; replace Hg2 := Lib.hid (Hg2.out.step hb); replace Hg3 := Lib.hid (Hg3.out.step hb); replace Hg4 := Lib.hid (Hg4.out.step hb); replace Hg5 := Lib.hid (Hg5.out.step hb); replace HB := Lib.hid (HB.out.trans (hb.mono HB.out.size)); clear hb))
            clear Hg2 Hg3 Hg4 Hg5
            clear hc2 hc3 hc4 hc5
            go_wp2_with fail
            have hd : Below w6.heap.size w6 w6.drew := (Below.refl _ _).drew
            replace HX := Lib.hid (HX.out.step hd)
            replace HBs := Lib.hid (HBs.out.step hd)
            replace HI := Lib.hid (HI.out.step hd)
            replace HN := Lib.hid (HN.out.step hd)
            replace HB := Lib.hid (HB.out.trans (hd.mono HB.out.size))
            clear hd
            go_region_held3 (fun w' => w'.cell? ⟨w.heap.size, 0, none⟩ = some (.slice A xss.length c) ∧ w'.cell? ⟨w.heap.size, 1, none⟩ = some (.int .i64 lo) ∧ w'.cell? ⟨w.heap.size, 2, none⟩ = some (.int .i64 hi) ∧ w'.cell? ⟨w.heap.size, 3, none⟩ = some (.int .i64 ca) ∧ w'.cell? ⟨w.heap.size + 1, 0, none⟩ = some (.slice A' x.length c') ∧ w'.cell? ⟨w.heap.size + 1, 1, none⟩ = some (.slice An nd.length cn)) (go_keep) (first | (go_at_call 19; refine (lane_c A xss c lo hi ca _ (Nat.le_refl _) HX.out (shortB_big (by omega) HS1.out).1 (shortB_big (by omega) HS1.out).2).mono ?_; rintro e w7 ⟨A6, c6, rfl, hc6, g6, hb⟩; replace HX := Lib.hid (HX.out.step hb); replace HBs := Lib.hid (HBs.out.step hb); replace HI := Lib.hid (HI.out.step hb); replace HN := Lib.hid (HN.out.step hb); replace k0 := cell_of_ans (below_drew_l hb) k0; replace k1 := cell_of_ans (below_drew_l hb) k1; replace k2 := cell_of_ans (below_drew_l hb) k2; replace k3 := cell_of_ans (below_drew_l hb) k3; replace j0 := cell_of_ans (below_drew_l hb) j0; replace j1 := cell_of_ans (below_drew_l hb) j1; replace HB := Lib.hid (HB.out.trans (hb.mono HB.out.size)); clear hb; have Hg6 := Lib.hid g6; clear g6) | (go_at_call 35; refine (line35_c A' An x nd c' cn _ HI.out HN.out (by omega) (by omega)).mono ?_; rintro e w8 ⟨A7, c7, A8, c8, rfl, hc7, hc8, g7, g8, hb⟩; replace HX := Lib.hid (HX.out.step hb); replace HBs := Lib.hid (HBs.out.step hb); replace HI := Lib.hid (HI.out.step hb); replace HN := Lib.hid (HN.out.step hb); replace k0 := cell_of_ans hb k0; replace k1 := cell_of_ans hb k1; replace k2 := cell_of_ans hb k2; replace k3 := cell_of_ans hb k3; replace j0 := cell_of_ans hb j0; replace j1 := cell_of_ans hb j1; replace Hg6 := Lib.hid (Hg6.out.step hb); replace HB := Lib.hid (HB.out.trans (hb.mono HB.out.size)); clear hb; have Hg7 := Lib.hid g7; clear g7; have Hg8 := Lib.hid g8; clear g8) | (go_at_call 36; refine (lasts_bad_c A6 A7 A8 xss x nd c6 c7 c8 lo hi ca _ Hg6.out Hg7.out Hg8.out hc6 hc7 hc8 HLB.out).mono ?_; rw [HLV.out]; rintro e w9 ⟨rfl, hb⟩; replace HX := Lib.hid (HX.out.step hb); replace HBs := Lib.hid (HBs.out.step hb); replace HI := Lib.hid (HI.out.step hb); replace HN := Lib.hid (HN.out.step hb); replace k0 := cell_of_ans hb k0; replace k1 := cell_of_ans hb k1; replace k2 := cell_of_ans hb k2; replace k3 := cell_of_ans hb k3; replace j0 := cell_of_ans hb j0; replace j1 := cell_of_ans hb j1; replace Hg6 := Lib.hid (Hg6.out.step hb); replace Hg7 := Lib.hid (Hg7.out.step hb); replace Hg8 := Lib.hid (Hg8.out.step hb); replace HB := Lib.hid (HB.out.trans (hb.mono HB.out.size)); clear hb))
            clear Hg6 Hg7 Hg8
            clear hc6 hc7 hc8
            go_wp2_with fail
            have HT1 : Hid True := trivial
            have hd : Below w9.heap.size w9 w9.drew := (Below.refl _ _).drew
            replace HX := Lib.hid (HX.out.step hd)
            replace HBs := Lib.hid (HBs.out.step hd)
            replace HI := Lib.hid (HI.out.step hd)
            replace HN := Lib.hid (HN.out.step hd)
            replace HB := Lib.hid (HB.out.trans (hd.mono HB.out.size))
            clear hd
            go_region_held3 (fun w' => w'.cell? ⟨w.heap.size, 0, none⟩ = some (.slice A xss.length c) ∧ w'.cell? ⟨w.heap.size, 1, none⟩ = some (.int .i64 lo) ∧ w'.cell? ⟨w.heap.size, 2, none⟩ = some (.int .i64 hi) ∧ w'.cell? ⟨w.heap.size, 3, none⟩ = some (.int .i64 ca)) (go_keep) (first | (go_at_call 22; have _t := HT1; refine (fault2_c A Ab xss bss c cb lo hi ca _ HX.out HBs.out hc).mono ?_; rw [HBE.out]; rintro e w10 ⟨rfl, hb⟩; replace HX := Lib.hid (HX.out.step hb); replace HBs := Lib.hid (HBs.out.step hb); replace HI := Lib.hid (HI.out.step hb); replace HN := Lib.hid (HN.out.step hb); replace k0 := cell_of_ans (below_drew_l hb) k0; replace k1 := cell_of_ans (below_drew_l hb) k1; replace k2 := cell_of_ans (below_drew_l hb) k2; replace k3 := cell_of_ans (below_drew_l hb) k3; replace j0 := cell_of_ans (below_drew_l hb) j0; replace j1 := cell_of_ans (below_drew_l hb) j1; replace HB := Lib.hid (HB.out.trans (hb.mono HB.out.size)); clear hb; clear HT1) | (go_at_call 22; refine (fault2_c A none xss [] c 0 lo hi ca _ HX.out (grd_nil _ _) hc).mono ?_; rw [HNil.out]; rintro e w11 ⟨rfl, hb⟩; replace HX := Lib.hid (HX.out.step hb); replace HBs := Lib.hid (HBs.out.step hb); replace HI := Lib.hid (HI.out.step hb); replace HN := Lib.hid (HN.out.step hb); replace k0 := cell_of_ans hb k0; replace k1 := cell_of_ans hb k1; replace k2 := cell_of_ans hb k2; replace k3 := cell_of_ans hb k3; replace j0 := cell_of_ans hb j0; replace j1 := cell_of_ans hb j1; replace HB := Lib.hid (HB.out.trans (hb.mono HB.out.size)); clear hb))
            go_wp2_with fail
            refine (isLine_c A A' An xss x nd c c' cn lo hi ca _ HX.out HI.out HN.out hn0 hc' hcn).mono ?_
            rw [HLn.out]
            rintro e w12 ⟨rfl, hb⟩
            replace HX := Lib.hid (HX.out.step hb)
            replace HBs := Lib.hid (HBs.out.step hb)
            replace HI := Lib.hid (HI.out.step hb)
            replace HN := Lib.hid (HN.out.step hb)
            replace k0 := cell_of_ans hb k0
            replace k1 := cell_of_ans hb k1
            replace k2 := cell_of_ans hb k2
            replace k3 := cell_of_ans hb k3
            replace j0 := cell_of_ans hb j0
            replace j1 := cell_of_ans hb j1
            replace HB := Lib.hid (HB.out.trans (hb.mono HB.out.size))
            clear hb
            go_wp2_with fail
            refine (awake_c _).mono ?_
            rintro e w19 ⟨rfl, hb⟩
            replace HX := Lib.hid (HX.out.step hb)
            replace HBs := Lib.hid (HBs.out.step hb)
            replace HI := Lib.hid (HI.out.step hb)
            replace HN := Lib.hid (HN.out.step hb)
            replace k0 := cell_of_ans hb k0
            replace k1 := cell_of_ans hb k1
            replace k2 := cell_of_ans hb k2
            replace k3 := cell_of_ans hb k3
            replace j0 := cell_of_ans hb j0
            replace j1 := cell_of_ans hb j1
            replace HB := Lib.hid (HB.out.trans (hb.mono HB.out.size))
            clear hb
            go_wp2_with fail
            go_ret
            exact ⟨rfl, HB.out⟩
          · have HBad := Lib.hid hbe
            have z1 : (ballsErr xss lo hi ca bss == 0) = false := by simp [hbe]
            have z2 : (ballsErr xss lo hi ca bss != 0) = true := by simp [hbe]
            have z3 : (ballsErr xss lo hi ca bss != ballsErr xss lo hi ca bss) = false := by simp
            clear hbe
            go_wp2_with fail
            have hd : Below w2.heap.size w2 w2.drew := (Below.refl _ _).drew
            replace HX := Lib.hid (HX.out.step hd)
            replace HBs := Lib.hid (HBs.out.step hd)
            replace HI := Lib.hid (HI.out.step hd)
            replace HN := Lib.hid (HN.out.step hd)
            replace HB := Lib.hid (HB.out.trans (hd.mono HB.out.size))
            clear hd
            go_region_held3 (fun w' => w'.cell? ⟨w.heap.size, 0, none⟩ = some (.slice A xss.length c) ∧ w'.cell? ⟨w.heap.size, 1, none⟩ = some (.int .i64 lo) ∧ w'.cell? ⟨w.heap.size, 2, none⟩ = some (.int .i64 hi) ∧ w'.cell? ⟨w.heap.size, 3, none⟩ = some (.int .i64 ca) ∧ w'.cell? ⟨w.heap.size + 1, 0, none⟩ = some (.slice A' x.length c') ∧ w'.cell? ⟨w.heap.size + 1, 1, none⟩ = some (.slice An nd.length cn)) (go_keep) (first | (go_at_call 19; refine (lane_c A xss c lo hi ca _ (Nat.le_refl _) HX.out (shortB_big (by omega) HS1.out).1 (shortB_big (by omega) HS1.out).2).mono ?_; rintro e w3 ⟨A2, c2, rfl, hc2, g2, hb⟩; replace HX := Lib.hid (HX.out.step hb); replace HBs := Lib.hid (HBs.out.step hb); replace HI := Lib.hid (HI.out.step hb); replace HN := Lib.hid (HN.out.step hb); replace k0 := cell_of_ans (below_drew_l hb) k0; replace k1 := cell_of_ans (below_drew_l hb) k1; replace k2 := cell_of_ans (below_drew_l hb) k2; replace k3 := cell_of_ans (below_drew_l hb) k3; replace j0 := cell_of_ans (below_drew_l hb) j0; replace j1 := cell_of_ans (below_drew_l hb) j1; replace HB := Lib.hid (HB.out.trans (hb.mono HB.out.size)); clear hb; have Hg2 := Lib.hid g2; clear g2) | (go_at_call 21; refine (copied_new_c Ab bss cb _ HBs.out (shortB_big (by omega) HS2.out).1 (shortB_big (by omega) HS2.out).2).mono ?_; rintro e w4 ⟨A3, c3, rfl, hc3, g3, hb⟩; replace HX := Lib.hid (HX.out.step hb); replace HBs := Lib.hid (HBs.out.step hb); replace HI := Lib.hid (HI.out.step hb); replace HN := Lib.hid (HN.out.step hb); replace k0 := cell_of_ans hb k0; replace k1 := cell_of_ans hb k1; replace k2 := cell_of_ans hb k2; replace k3 := cell_of_ans hb k3; replace j0 := cell_of_ans hb j0; replace j1 := cell_of_ans hb j1; replace Hg2 := Lib.hid (Hg2.out.step hb); replace HB := Lib.hid (HB.out.trans (hb.mono HB.out.size)); clear hb; have Hg3 := Lib.hid g3; clear g3) | (go_at_call 35; refine (line35_c A' An x nd c' cn _ HI.out HN.out (by omega) (by omega)).mono ?_; rintro e w5 ⟨A4, c4, A5, c5, rfl, hc4, hc5, g4, g5, hb⟩; replace HX := Lib.hid (HX.out.step hb); replace HBs := Lib.hid (HBs.out.step hb); replace HI := Lib.hid (HI.out.step hb); replace HN := Lib.hid (HN.out.step hb); replace k0 := cell_of_ans hb k0; replace k1 := cell_of_ans hb k1; replace k2 := cell_of_ans hb k2; replace k3 := cell_of_ans hb k3; replace j0 := cell_of_ans hb j0; replace j1 := cell_of_ans hb j1; replace Hg2 := Lib.hid (Hg2.out.step hb); replace Hg3 := Lib.hid (Hg3.out.step hb); replace HB := Lib.hid (HB.out.trans (hb.mono HB.out.size)); clear hb; have Hg4 := Lib.hid g4; clear g4; have Hg5 := Lib.hid g5; clear g5) | (go_at_call 34; refine (playable_bad1 A2 A3 A4 A5 xss bss x nd c2 c3 c4 c5 lo hi ca _ Hg2.out Hg3.out Hg4.out Hg5.out hc2 hc3 HBad.out).mono ?_; rintro e w6 ⟨rfl, hb⟩; replace HX := Lib.hid (HX.out.step hb); replace HBs := Lib.hid (HBs.out.step hb); replace HI := Lib.hid (HI.out.step hb); replace HN := Lib.hid (HN.out.step hb); replace k0 := cell_of_ans hb k0; replace k1 := cell_of_ans hb k1; replace k2 := cell_of_ans hb k2; replace k3 := cell_of_ans hb k3; replace j0 := cell_of_ans hb j0; replace j1 := cell_of_ans hb j1; replace Hg2 := Lib.hid (Hg2.out.step hb); replace Hg3 := Lib.hid (Hg3.out.step hb); replace Hg4 := Lib.hid (Hg4.out.step hb); replace Hg5 := Lib.hid (Hg5.out.step hb); replace HB := Lib.hid (HB.out.trans (hb.mono HB.out.size)); clear hb))
            clear Hg2 Hg3 Hg4 Hg5
            clear hc2 hc3 hc4 hc5
            go_wp2_with fail
            have hd : Below w6.heap.size w6 w6.drew := (Below.refl _ _).drew
            replace HX := Lib.hid (HX.out.step hd)
            replace HBs := Lib.hid (HBs.out.step hd)
            replace HI := Lib.hid (HI.out.step hd)
            replace HN := Lib.hid (HN.out.step hd)
            replace HB := Lib.hid (HB.out.trans (hd.mono HB.out.size))
            clear hd
            go_region_held3 (fun w' => w'.cell? ⟨w.heap.size, 0, none⟩ = some (.slice A xss.length c) ∧ w'.cell? ⟨w.heap.size, 1, none⟩ = some (.int .i64 lo) ∧ w'.cell? ⟨w.heap.size, 2, none⟩ = some (.int .i64 hi) ∧ w'.cell? ⟨w.heap.size, 3, none⟩ = some (.int .i64 ca) ∧ w'.cell? ⟨w.heap.size + 1, 0, none⟩ = some (.slice A' x.length c') ∧ w'.cell? ⟨w.heap.size + 1, 1, none⟩ = some (.slice An nd.length cn)) (go_keep) (first | (go_at_call 19; refine (lane_c A xss c lo hi ca _ (Nat.le_refl _) HX.out (shortB_big (by omega) HS1.out).1 (shortB_big (by omega) HS1.out).2).mono ?_; rintro e w7 ⟨A6, c6, rfl, hc6, g6, hb⟩; replace HX := Lib.hid (HX.out.step hb); replace HBs := Lib.hid (HBs.out.step hb); replace HI := Lib.hid (HI.out.step hb); replace HN := Lib.hid (HN.out.step hb); replace k0 := cell_of_ans (below_drew_l hb) k0; replace k1 := cell_of_ans (below_drew_l hb) k1; replace k2 := cell_of_ans (below_drew_l hb) k2; replace k3 := cell_of_ans (below_drew_l hb) k3; replace j0 := cell_of_ans (below_drew_l hb) j0; replace j1 := cell_of_ans (below_drew_l hb) j1; replace HB := Lib.hid (HB.out.trans (hb.mono HB.out.size)); clear hb; have Hg6 := Lib.hid g6; clear g6) | (go_at_call 35; refine (line35_c A' An x nd c' cn _ HI.out HN.out (by omega) (by omega)).mono ?_; rintro e w8 ⟨A7, c7, A8, c8, rfl, hc7, hc8, g7, g8, hb⟩; replace HX := Lib.hid (HX.out.step hb); replace HBs := Lib.hid (HBs.out.step hb); replace HI := Lib.hid (HI.out.step hb); replace HN := Lib.hid (HN.out.step hb); replace k0 := cell_of_ans hb k0; replace k1 := cell_of_ans hb k1; replace k2 := cell_of_ans hb k2; replace k3 := cell_of_ans hb k3; replace j0 := cell_of_ans hb j0; replace j1 := cell_of_ans hb j1; replace Hg6 := Lib.hid (Hg6.out.step hb); replace HB := Lib.hid (HB.out.trans (hb.mono HB.out.size)); clear hb; have Hg7 := Lib.hid g7; clear g7; have Hg8 := Lib.hid g8; clear g8) | (go_at_call 36; refine (lasts_bad_c A6 A7 A8 xss x nd c6 c7 c8 lo hi ca _ Hg6.out Hg7.out Hg8.out hc6 hc7 hc8 HLB.out).mono ?_; rw [HLV.out]; rintro e w9 ⟨rfl, hb⟩; replace HX := Lib.hid (HX.out.step hb); replace HBs := Lib.hid (HBs.out.step hb); replace HI := Lib.hid (HI.out.step hb); replace HN := Lib.hid (HN.out.step hb); replace k0 := cell_of_ans hb k0; replace k1 := cell_of_ans hb k1; replace k2 := cell_of_ans hb k2; replace k3 := cell_of_ans hb k3; replace j0 := cell_of_ans hb j0; replace j1 := cell_of_ans hb j1; replace Hg6 := Lib.hid (Hg6.out.step hb); replace Hg7 := Lib.hid (Hg7.out.step hb); replace Hg8 := Lib.hid (Hg8.out.step hb); replace HB := Lib.hid (HB.out.trans (hb.mono HB.out.size)); clear hb))
            clear Hg6 Hg7 Hg8
            clear hc6 hc7 hc8
            go_wp2_with fail
            have HT1 : Hid True := trivial
            have hd : Below w9.heap.size w9 w9.drew := (Below.refl _ _).drew
            replace HX := Lib.hid (HX.out.step hd)
            replace HBs := Lib.hid (HBs.out.step hd)
            replace HI := Lib.hid (HI.out.step hd)
            replace HN := Lib.hid (HN.out.step hd)
            replace HB := Lib.hid (HB.out.trans (hd.mono HB.out.size))
            clear hd
            go_region_held3 (fun w' => w'.cell? ⟨w.heap.size, 0, none⟩ = some (.slice A xss.length c) ∧ w'.cell? ⟨w.heap.size, 1, none⟩ = some (.int .i64 lo) ∧ w'.cell? ⟨w.heap.size, 2, none⟩ = some (.int .i64 hi) ∧ w'.cell? ⟨w.heap.size, 3, none⟩ = some (.int .i64 ca)) (go_keep) (first | (go_at_call 22; have _t := HT1; refine (fault2_c A Ab xss bss c cb lo hi ca _ HX.out HBs.out hc).mono ?_; rintro e w10 ⟨rfl, hb⟩; replace HX := Lib.hid (HX.out.step hb); replace HBs := Lib.hid (HBs.out.step hb); replace HI := Lib.hid (HI.out.step hb); replace HN := Lib.hid (HN.out.step hb); replace k0 := cell_of_ans (below_drew_l hb) k0; replace k1 := cell_of_ans (below_drew_l hb) k1; replace k2 := cell_of_ans (below_drew_l hb) k2; replace k3 := cell_of_ans (below_drew_l hb) k3; replace j0 := cell_of_ans (below_drew_l hb) j0; replace j1 := cell_of_ans (below_drew_l hb) j1; replace HB := Lib.hid (HB.out.trans (hb.mono HB.out.size)); clear hb; clear HT1) | (go_at_call 22; refine (fault2_c A none xss [] c 0 lo hi ca _ HX.out (grd_nil _ _) hc).mono ?_; rw [HNil.out]; rintro e w11 ⟨rfl, hb⟩; replace HX := Lib.hid (HX.out.step hb); replace HBs := Lib.hid (HBs.out.step hb); replace HI := Lib.hid (HI.out.step hb); replace HN := Lib.hid (HN.out.step hb); replace k0 := cell_of_ans hb k0; replace k1 := cell_of_ans hb k1; replace k2 := cell_of_ans hb k2; replace k3 := cell_of_ans hb k3; replace j0 := cell_of_ans hb j0; replace j1 := cell_of_ans hb j1; replace HB := Lib.hid (HB.out.trans (hb.mono HB.out.size)); clear hb))
            go_wp2_with fail
            refine (isLine_c A A' An xss x nd c c' cn lo hi ca _ HX.out HI.out HN.out hn0 hc' hcn).mono ?_
            rw [HLn.out]
            rintro e w12 ⟨rfl, hb⟩
            replace HX := Lib.hid (HX.out.step hb)
            replace HBs := Lib.hid (HBs.out.step hb)
            replace HI := Lib.hid (HI.out.step hb)
            replace HN := Lib.hid (HN.out.step hb)
            replace k0 := cell_of_ans hb k0
            replace k1 := cell_of_ans hb k1
            replace k2 := cell_of_ans hb k2
            replace k3 := cell_of_ans hb k3
            replace j0 := cell_of_ans hb j0
            replace j1 := cell_of_ans hb j1
            replace HB := Lib.hid (HB.out.trans (hb.mono HB.out.size))
            clear hb
            go_wp2_with fail
            refine (awake_c _).mono ?_
            rintro e w19 ⟨rfl, hb⟩
            replace HX := Lib.hid (HX.out.step hb)
            replace HBs := Lib.hid (HBs.out.step hb)
            replace HI := Lib.hid (HI.out.step hb)
            replace HN := Lib.hid (HN.out.step hb)
            replace k0 := cell_of_ans hb k0
            replace k1 := cell_of_ans hb k1
            replace k2 := cell_of_ans hb k2
            replace k3 := cell_of_ans hb k3
            replace j0 := cell_of_ans hb j0
            replace j1 := cell_of_ans hb j1
            replace HB := Lib.hid (HB.out.trans (hb.mono HB.out.size))
            clear hb
            go_wp2_with fail
            go_ret
            exact ⟨rfl, HB.out⟩
        · have HLB : Hid (lastsErr xss lo hi ca x nd = 0) := by show _ = _; rw [lastsErr, if_pos hle, hln]; rfl
          have HLn := Lib.hid hln
          have HLE2 := Lib.hid (lastsRef_eq hle hln 20 0 (by omega))
          have y1 : ((lastsFrom ca x nd lo hi (oilOf xss) 0 20 : Int) == (lastsFrom ca x nd lo hi (oilOf xss) 0 20 : Int)) = true := by simp
          clear hle hln
          by_cases hbe : ballsErr xss lo hi ca bss = 0
          · have HBE := Lib.hid hbe
            have HPE := Lib.hid (refPlayB_eq hbe HLn.out)
            clear hbe
            have y2 : (enB x nd (endO ca xss.length bss lo hi (oilOf xss) bss.length) == enB x nd (endO ca xss.length bss lo hi (oilOf xss) bss.length)) = true := by simp
            go_wp2_with fail
            have hd : Below w2.heap.size w2 w2.drew := (Below.refl _ _).drew
            replace HX := Lib.hid (HX.out.step hd)
            replace HBs := Lib.hid (HBs.out.step hd)
            replace HI := Lib.hid (HI.out.step hd)
            replace HN := Lib.hid (HN.out.step hd)
            replace HB := Lib.hid (HB.out.trans (hd.mono HB.out.size))
            clear hd
            go_region_held3 (fun w' => w'.cell? ⟨w.heap.size, 0, none⟩ = some (.slice A xss.length c) ∧ w'.cell? ⟨w.heap.size, 1, none⟩ = some (.int .i64 lo) ∧ w'.cell? ⟨w.heap.size, 2, none⟩ = some (.int .i64 hi) ∧ w'.cell? ⟨w.heap.size, 3, none⟩ = some (.int .i64 ca) ∧ w'.cell? ⟨w.heap.size + 1, 0, none⟩ = some (.slice A' x.length c') ∧ w'.cell? ⟨w.heap.size + 1, 1, none⟩ = some (.slice An nd.length cn)) (go_keep) (first | (go_at_call 19; refine (lane_c A xss c lo hi ca _ (Nat.le_refl _) HX.out (shortB_big (by omega) HS1.out).1 (shortB_big (by omega) HS1.out).2).mono ?_; rintro e w3 ⟨A2, c2, rfl, hc2, g2, hb⟩; replace HX := Lib.hid (HX.out.step hb); replace HBs := Lib.hid (HBs.out.step hb); replace HI := Lib.hid (HI.out.step hb); replace HN := Lib.hid (HN.out.step hb); replace k0 := cell_of_ans (below_drew_l hb) k0; replace k1 := cell_of_ans (below_drew_l hb) k1; replace k2 := cell_of_ans (below_drew_l hb) k2; replace k3 := cell_of_ans (below_drew_l hb) k3; replace j0 := cell_of_ans (below_drew_l hb) j0; replace j1 := cell_of_ans (below_drew_l hb) j1; replace HB := Lib.hid (HB.out.trans (hb.mono HB.out.size)); clear hb; have Hg2 := Lib.hid g2; clear g2) | (go_at_call 21; refine (copied_new_c Ab bss cb _ HBs.out (shortB_big (by omega) HS2.out).1 (shortB_big (by omega) HS2.out).2).mono ?_; rintro e w4 ⟨A3, c3, rfl, hc3, g3, hb⟩; replace HX := Lib.hid (HX.out.step hb); replace HBs := Lib.hid (HBs.out.step hb); replace HI := Lib.hid (HI.out.step hb); replace HN := Lib.hid (HN.out.step hb); replace k0 := cell_of_ans hb k0; replace k1 := cell_of_ans hb k1; replace k2 := cell_of_ans hb k2; replace k3 := cell_of_ans hb k3; replace j0 := cell_of_ans hb j0; replace j1 := cell_of_ans hb j1; replace Hg2 := Lib.hid (Hg2.out.step hb); replace HB := Lib.hid (HB.out.trans (hb.mono HB.out.size)); clear hb; have Hg3 := Lib.hid g3; clear g3) | (go_at_call 35; refine (line35_c A' An x nd c' cn _ HI.out HN.out (by omega) (by omega)).mono ?_; rintro e w5 ⟨A4, c4, A5, c5, rfl, hc4, hc5, g4, g5, hb⟩; replace HX := Lib.hid (HX.out.step hb); replace HBs := Lib.hid (HBs.out.step hb); replace HI := Lib.hid (HI.out.step hb); replace HN := Lib.hid (HN.out.step hb); replace k0 := cell_of_ans hb k0; replace k1 := cell_of_ans hb k1; replace k2 := cell_of_ans hb k2; replace k3 := cell_of_ans hb k3; replace j0 := cell_of_ans hb j0; replace j1 := cell_of_ans hb j1; replace Hg2 := Lib.hid (Hg2.out.step hb); replace Hg3 := Lib.hid (Hg3.out.step hb); replace HB := Lib.hid (HB.out.trans (hb.mono HB.out.size)); clear hb; have Hg4 := Lib.hid g4; clear g4; have Hg5 := Lib.hid g5; clear g5) | (go_at_call 34; refine (playable_ok A2 A3 A4 A5 xss bss x nd c2 c3 c4 c5 lo hi ca _ Hg2.out Hg3.out Hg4.out Hg5.out hc2 hc3 hc4 hc5 HBE.out HLn.out).mono ?_; rintro e w6 ⟨rfl, hb⟩; replace HX := Lib.hid (HX.out.step hb); replace HBs := Lib.hid (HBs.out.step hb); replace HI := Lib.hid (HI.out.step hb); replace HN := Lib.hid (HN.out.step hb); replace k0 := cell_of_ans hb k0; replace k1 := cell_of_ans hb k1; replace k2 := cell_of_ans hb k2; replace k3 := cell_of_ans hb k3; replace j0 := cell_of_ans hb j0; replace j1 := cell_of_ans hb j1; replace Hg2 := Lib.hid (Hg2.out.step hb); replace Hg3 := Lib.hid (Hg3.out.step hb); replace Hg4 := Lib.hid (Hg4.out.step hb); replace Hg5 := Lib.hid (Hg5.out.step hb); replace HB := Lib.hid (HB.out.trans (hb.mono HB.out.size)); clear hb))
            clear Hg2 Hg3 Hg4 Hg5
            clear hc2 hc3 hc4 hc5
            go_wp2_with fail
            have hd : Below w6.heap.size w6 w6.drew := (Below.refl _ _).drew
            replace HX := Lib.hid (HX.out.step hd)
            replace HBs := Lib.hid (HBs.out.step hd)
            replace HI := Lib.hid (HI.out.step hd)
            replace HN := Lib.hid (HN.out.step hd)
            replace HB := Lib.hid (HB.out.trans (hd.mono HB.out.size))
            clear hd
            go_region_held3 (fun w' => w'.cell? ⟨w.heap.size, 0, none⟩ = some (.slice A xss.length c) ∧ w'.cell? ⟨w.heap.size, 1, none⟩ = some (.int .i64 lo) ∧ w'.cell? ⟨w.heap.size, 2, none⟩ = some (.int .i64 hi) ∧ w'.cell? ⟨w.heap.size, 3, none⟩ = some (.int .i64 ca) ∧ w'.cell? ⟨w.heap.size + 1, 0, none⟩ = some (.slice A' x.length c') ∧ w'.cell? ⟨w.heap.size + 1, 1, none⟩ = some (.slice An nd.length cn)) (go_keep) (first | (go_at_call 19; refine (lane_c A xss c lo hi ca _ (Nat.le_refl _) HX.out (shortB_big (by omega) HS1.out).1 (shortB_big (by omega) HS1.out).2).mono ?_; rintro e w7 ⟨A6, c6, rfl, hc6, g6, hb⟩; replace HX := Lib.hid (HX.out.step hb); replace HBs := Lib.hid (HBs.out.step hb); replace HI := Lib.hid (HI.out.step hb); replace HN := Lib.hid (HN.out.step hb); replace k0 := cell_of_ans (below_drew_l hb) k0; replace k1 := cell_of_ans (below_drew_l hb) k1; replace k2 := cell_of_ans (below_drew_l hb) k2; replace k3 := cell_of_ans (below_drew_l hb) k3; replace j0 := cell_of_ans (below_drew_l hb) j0; replace j1 := cell_of_ans (below_drew_l hb) j1; replace HB := Lib.hid (HB.out.trans (hb.mono HB.out.size)); clear hb; have Hg6 := Lib.hid g6; clear g6) | (go_at_call 35; refine (line35_c A' An x nd c' cn _ HI.out HN.out (by omega) (by omega)).mono ?_; rintro e w8 ⟨A7, c7, A8, c8, rfl, hc7, hc8, g7, g8, hb⟩; replace HX := Lib.hid (HX.out.step hb); replace HBs := Lib.hid (HBs.out.step hb); replace HI := Lib.hid (HI.out.step hb); replace HN := Lib.hid (HN.out.step hb); replace k0 := cell_of_ans hb k0; replace k1 := cell_of_ans hb k1; replace k2 := cell_of_ans hb k2; replace k3 := cell_of_ans hb k3; replace j0 := cell_of_ans hb j0; replace j1 := cell_of_ans hb j1; replace Hg6 := Lib.hid (Hg6.out.step hb); replace HB := Lib.hid (HB.out.trans (hb.mono HB.out.size)); clear hb; have Hg7 := Lib.hid g7; clear g7; have Hg8 := Lib.hid g8; clear g8) | (go_at_call 36; refine (lasts_ok_c A6 A7 A8 xss x nd c6 c7 c8 lo hi ca _ Hg6.out Hg7.out Hg8.out hc6 hc7 hc8 HLB.out).mono ?_; rintro e w9 ⟨rfl, hb⟩; replace HX := Lib.hid (HX.out.step hb); replace HBs := Lib.hid (HBs.out.step hb); replace HI := Lib.hid (HI.out.step hb); replace HN := Lib.hid (HN.out.step hb); replace k0 := cell_of_ans hb k0; replace k1 := cell_of_ans hb k1; replace k2 := cell_of_ans hb k2; replace k3 := cell_of_ans hb k3; replace j0 := cell_of_ans hb j0; replace j1 := cell_of_ans hb j1; replace Hg6 := Lib.hid (Hg6.out.step hb); replace Hg7 := Lib.hid (Hg7.out.step hb); replace Hg8 := Lib.hid (Hg8.out.step hb); replace HB := Lib.hid (HB.out.trans (hb.mono HB.out.size)); clear hb))
            clear Hg6 Hg7 Hg8
            clear hc6 hc7 hc8
            go_wp2_with fail
            have HT1 : Hid True := trivial
            have hd : Below w9.heap.size w9 w9.drew := (Below.refl _ _).drew
            replace HX := Lib.hid (HX.out.step hd)
            replace HBs := Lib.hid (HBs.out.step hd)
            replace HI := Lib.hid (HI.out.step hd)
            replace HN := Lib.hid (HN.out.step hd)
            replace HB := Lib.hid (HB.out.trans (hd.mono HB.out.size))
            clear hd
            go_region_held3 (fun w' => w'.cell? ⟨w.heap.size, 0, none⟩ = some (.slice A xss.length c) ∧ w'.cell? ⟨w.heap.size, 1, none⟩ = some (.int .i64 lo) ∧ w'.cell? ⟨w.heap.size, 2, none⟩ = some (.int .i64 hi) ∧ w'.cell? ⟨w.heap.size, 3, none⟩ = some (.int .i64 ca)) (go_keep) (first | (go_at_call 22; have _t := HT1; refine (fault2_c A Ab xss bss c cb lo hi ca _ HX.out HBs.out hc).mono ?_; rw [HBE.out]; rintro e w10 ⟨rfl, hb⟩; replace HX := Lib.hid (HX.out.step hb); replace HBs := Lib.hid (HBs.out.step hb); replace HI := Lib.hid (HI.out.step hb); replace HN := Lib.hid (HN.out.step hb); replace k0 := cell_of_ans (below_drew_l hb) k0; replace k1 := cell_of_ans (below_drew_l hb) k1; replace k2 := cell_of_ans (below_drew_l hb) k2; replace k3 := cell_of_ans (below_drew_l hb) k3; replace j0 := cell_of_ans (below_drew_l hb) j0; replace j1 := cell_of_ans (below_drew_l hb) j1; replace HB := Lib.hid (HB.out.trans (hb.mono HB.out.size)); clear hb; clear HT1) | (go_at_call 22; refine (fault2_c A none xss [] c 0 lo hi ca _ HX.out (grd_nil _ _) hc).mono ?_; rw [HNil.out]; rintro e w11 ⟨rfl, hb⟩; replace HX := Lib.hid (HX.out.step hb); replace HBs := Lib.hid (HBs.out.step hb); replace HI := Lib.hid (HI.out.step hb); replace HN := Lib.hid (HN.out.step hb); replace k0 := cell_of_ans hb k0; replace k1 := cell_of_ans hb k1; replace k2 := cell_of_ans hb k2; replace k3 := cell_of_ans hb k3; replace j0 := cell_of_ans hb j0; replace j1 := cell_of_ans hb j1; replace HB := Lib.hid (HB.out.trans (hb.mono HB.out.size)); clear hb))
            go_wp2_with fail
            refine (isLine_c A A' An xss x nd c c' cn lo hi ca _ HX.out HI.out HN.out hn0 hc' hcn).mono ?_
            rw [HLn.out]
            rintro e w12 ⟨rfl, hb⟩
            replace HX := Lib.hid (HX.out.step hb)
            replace HBs := Lib.hid (HBs.out.step hb)
            replace HI := Lib.hid (HI.out.step hb)
            replace HN := Lib.hid (HN.out.step hb)
            replace k0 := cell_of_ans hb k0
            replace k1 := cell_of_ans hb k1
            replace k2 := cell_of_ans hb k2
            replace k3 := cell_of_ans hb k3
            replace j0 := cell_of_ans hb j0
            replace j1 := cell_of_ans hb j1
            replace HB := Lib.hid (HB.out.trans (hb.mono HB.out.size))
            clear hb
            go_wp2_with fail
            refine (refPlayable_c A Ab A' An xss bss x nd c cb c' cn lo hi ca _ HX.out HBs.out HI.out HN.out HBE.out HLn.out).mono ?_
            rw [HPE.out]
            rintro e w13 ⟨rfl, hb⟩
            replace HX := Lib.hid (HX.out.step hb)
            replace HBs := Lib.hid (HBs.out.step hb)
            replace HI := Lib.hid (HI.out.step hb)
            replace HN := Lib.hid (HN.out.step hb)
            replace k0 := cell_of_ans hb k0
            replace k1 := cell_of_ans hb k1
            replace k2 := cell_of_ans hb k2
            replace k3 := cell_of_ans hb k3
            replace j0 := cell_of_ans hb j0
            replace j1 := cell_of_ans hb j1
            replace HB := Lib.hid (HB.out.trans (hb.mono HB.out.size))
            clear hb
            go_wp2_with fail
            refine (refLasts_c A A' An xss x nd c c' cn lo hi ca _ HX.out HI.out HN.out hc' HLE.out HLn.out).mono ?_
            rw [HLE2.out]
            rintro e w14 ⟨rfl, hb⟩
            replace HX := Lib.hid (HX.out.step hb)
            replace HBs := Lib.hid (HBs.out.step hb)
            replace HI := Lib.hid (HI.out.step hb)
            replace HN := Lib.hid (HN.out.step hb)
            replace k0 := cell_of_ans hb k0
            replace k1 := cell_of_ans hb k1
            replace k2 := cell_of_ans hb k2
            replace k3 := cell_of_ans hb k3
            replace j0 := cell_of_ans hb j0
            replace j1 := cell_of_ans hb j1
            replace HB := Lib.hid (HB.out.trans (hb.mono HB.out.size))
            clear hb
            go_wp2_with fail
            refine (awake_c _).mono ?_
            rintro e w19 ⟨rfl, hb⟩
            replace HX := Lib.hid (HX.out.step hb)
            replace HBs := Lib.hid (HBs.out.step hb)
            replace HI := Lib.hid (HI.out.step hb)
            replace HN := Lib.hid (HN.out.step hb)
            replace k0 := cell_of_ans hb k0
            replace k1 := cell_of_ans hb k1
            replace k2 := cell_of_ans hb k2
            replace k3 := cell_of_ans hb k3
            replace j0 := cell_of_ans hb j0
            replace j1 := cell_of_ans hb j1
            replace HB := Lib.hid (HB.out.trans (hb.mono HB.out.size))
            clear hb
            go_wp2_with fail
            go_ret
            exact ⟨rfl, HB.out⟩
          · have HBad := Lib.hid hbe
            have z1 : (ballsErr xss lo hi ca bss == 0) = false := by simp [hbe]
            have z2 : (ballsErr xss lo hi ca bss != 0) = true := by simp [hbe]
            have z3 : (ballsErr xss lo hi ca bss != ballsErr xss lo hi ca bss) = false := by simp
            clear hbe
            go_wp2_with fail
            have hd : Below w2.heap.size w2 w2.drew := (Below.refl _ _).drew
            replace HX := Lib.hid (HX.out.step hd)
            replace HBs := Lib.hid (HBs.out.step hd)
            replace HI := Lib.hid (HI.out.step hd)
            replace HN := Lib.hid (HN.out.step hd)
            replace HB := Lib.hid (HB.out.trans (hd.mono HB.out.size))
            clear hd
            go_region_held3 (fun w' => w'.cell? ⟨w.heap.size, 0, none⟩ = some (.slice A xss.length c) ∧ w'.cell? ⟨w.heap.size, 1, none⟩ = some (.int .i64 lo) ∧ w'.cell? ⟨w.heap.size, 2, none⟩ = some (.int .i64 hi) ∧ w'.cell? ⟨w.heap.size, 3, none⟩ = some (.int .i64 ca) ∧ w'.cell? ⟨w.heap.size + 1, 0, none⟩ = some (.slice A' x.length c') ∧ w'.cell? ⟨w.heap.size + 1, 1, none⟩ = some (.slice An nd.length cn)) (go_keep) (first | (go_at_call 19; refine (lane_c A xss c lo hi ca _ (Nat.le_refl _) HX.out (shortB_big (by omega) HS1.out).1 (shortB_big (by omega) HS1.out).2).mono ?_; rintro e w3 ⟨A2, c2, rfl, hc2, g2, hb⟩; replace HX := Lib.hid (HX.out.step hb); replace HBs := Lib.hid (HBs.out.step hb); replace HI := Lib.hid (HI.out.step hb); replace HN := Lib.hid (HN.out.step hb); replace k0 := cell_of_ans (below_drew_l hb) k0; replace k1 := cell_of_ans (below_drew_l hb) k1; replace k2 := cell_of_ans (below_drew_l hb) k2; replace k3 := cell_of_ans (below_drew_l hb) k3; replace j0 := cell_of_ans (below_drew_l hb) j0; replace j1 := cell_of_ans (below_drew_l hb) j1; replace HB := Lib.hid (HB.out.trans (hb.mono HB.out.size)); clear hb; have Hg2 := Lib.hid g2; clear g2) | (go_at_call 21; refine (copied_new_c Ab bss cb _ HBs.out (shortB_big (by omega) HS2.out).1 (shortB_big (by omega) HS2.out).2).mono ?_; rintro e w4 ⟨A3, c3, rfl, hc3, g3, hb⟩; replace HX := Lib.hid (HX.out.step hb); replace HBs := Lib.hid (HBs.out.step hb); replace HI := Lib.hid (HI.out.step hb); replace HN := Lib.hid (HN.out.step hb); replace k0 := cell_of_ans hb k0; replace k1 := cell_of_ans hb k1; replace k2 := cell_of_ans hb k2; replace k3 := cell_of_ans hb k3; replace j0 := cell_of_ans hb j0; replace j1 := cell_of_ans hb j1; replace Hg2 := Lib.hid (Hg2.out.step hb); replace HB := Lib.hid (HB.out.trans (hb.mono HB.out.size)); clear hb; have Hg3 := Lib.hid g3; clear g3) | (go_at_call 35; refine (line35_c A' An x nd c' cn _ HI.out HN.out (by omega) (by omega)).mono ?_; rintro e w5 ⟨A4, c4, A5, c5, rfl, hc4, hc5, g4, g5, hb⟩; replace HX := Lib.hid (HX.out.step hb); replace HBs := Lib.hid (HBs.out.step hb); replace HI := Lib.hid (HI.out.step hb); replace HN := Lib.hid (HN.out.step hb); replace k0 := cell_of_ans hb k0; replace k1 := cell_of_ans hb k1; replace k2 := cell_of_ans hb k2; replace k3 := cell_of_ans hb k3; replace j0 := cell_of_ans hb j0; replace j1 := cell_of_ans hb j1; replace Hg2 := Lib.hid (Hg2.out.step hb); replace Hg3 := Lib.hid (Hg3.out.step hb); replace HB := Lib.hid (HB.out.trans (hb.mono HB.out.size)); clear hb; have Hg4 := Lib.hid g4; clear g4; have Hg5 := Lib.hid g5; clear g5) | (go_at_call 34; refine (playable_bad1 A2 A3 A4 A5 xss bss x nd c2 c3 c4 c5 lo hi ca _ Hg2.out Hg3.out Hg4.out Hg5.out hc2 hc3 HBad.out).mono ?_; rintro e w6 ⟨rfl, hb⟩; replace HX := Lib.hid (HX.out.step hb); replace HBs := Lib.hid (HBs.out.step hb); replace HI := Lib.hid (HI.out.step hb); replace HN := Lib.hid (HN.out.step hb); replace k0 := cell_of_ans hb k0; replace k1 := cell_of_ans hb k1; replace k2 := cell_of_ans hb k2; replace k3 := cell_of_ans hb k3; replace j0 := cell_of_ans hb j0; replace j1 := cell_of_ans hb j1; replace Hg2 := Lib.hid (Hg2.out.step hb); replace Hg3 := Lib.hid (Hg3.out.step hb); replace Hg4 := Lib.hid (Hg4.out.step hb); replace Hg5 := Lib.hid (Hg5.out.step hb); replace HB := Lib.hid (HB.out.trans (hb.mono HB.out.size)); clear hb))
            clear Hg2 Hg3 Hg4 Hg5
            clear hc2 hc3 hc4 hc5
            go_wp2_with fail
            have hd : Below w6.heap.size w6 w6.drew := (Below.refl _ _).drew
            replace HX := Lib.hid (HX.out.step hd)
            replace HBs := Lib.hid (HBs.out.step hd)
            replace HI := Lib.hid (HI.out.step hd)
            replace HN := Lib.hid (HN.out.step hd)
            replace HB := Lib.hid (HB.out.trans (hd.mono HB.out.size))
            clear hd
            go_region_held3 (fun w' => w'.cell? ⟨w.heap.size, 0, none⟩ = some (.slice A xss.length c) ∧ w'.cell? ⟨w.heap.size, 1, none⟩ = some (.int .i64 lo) ∧ w'.cell? ⟨w.heap.size, 2, none⟩ = some (.int .i64 hi) ∧ w'.cell? ⟨w.heap.size, 3, none⟩ = some (.int .i64 ca) ∧ w'.cell? ⟨w.heap.size + 1, 0, none⟩ = some (.slice A' x.length c') ∧ w'.cell? ⟨w.heap.size + 1, 1, none⟩ = some (.slice An nd.length cn)) (go_keep) (first | (go_at_call 19; refine (lane_c A xss c lo hi ca _ (Nat.le_refl _) HX.out (shortB_big (by omega) HS1.out).1 (shortB_big (by omega) HS1.out).2).mono ?_; rintro e w7 ⟨A6, c6, rfl, hc6, g6, hb⟩; replace HX := Lib.hid (HX.out.step hb); replace HBs := Lib.hid (HBs.out.step hb); replace HI := Lib.hid (HI.out.step hb); replace HN := Lib.hid (HN.out.step hb); replace k0 := cell_of_ans (below_drew_l hb) k0; replace k1 := cell_of_ans (below_drew_l hb) k1; replace k2 := cell_of_ans (below_drew_l hb) k2; replace k3 := cell_of_ans (below_drew_l hb) k3; replace j0 := cell_of_ans (below_drew_l hb) j0; replace j1 := cell_of_ans (below_drew_l hb) j1; replace HB := Lib.hid (HB.out.trans (hb.mono HB.out.size)); clear hb; have Hg6 := Lib.hid g6; clear g6) | (go_at_call 35; refine (line35_c A' An x nd c' cn _ HI.out HN.out (by omega) (by omega)).mono ?_; rintro e w8 ⟨A7, c7, A8, c8, rfl, hc7, hc8, g7, g8, hb⟩; replace HX := Lib.hid (HX.out.step hb); replace HBs := Lib.hid (HBs.out.step hb); replace HI := Lib.hid (HI.out.step hb); replace HN := Lib.hid (HN.out.step hb); replace k0 := cell_of_ans hb k0; replace k1 := cell_of_ans hb k1; replace k2 := cell_of_ans hb k2; replace k3 := cell_of_ans hb k3; replace j0 := cell_of_ans hb j0; replace j1 := cell_of_ans hb j1; replace Hg6 := Lib.hid (Hg6.out.step hb); replace HB := Lib.hid (HB.out.trans (hb.mono HB.out.size)); clear hb; have Hg7 := Lib.hid g7; clear g7; have Hg8 := Lib.hid g8; clear g8) | (go_at_call 36; refine (lasts_ok_c A6 A7 A8 xss x nd c6 c7 c8 lo hi ca _ Hg6.out Hg7.out Hg8.out hc6 hc7 hc8 HLB.out).mono ?_; rintro e w9 ⟨rfl, hb⟩; replace HX := Lib.hid (HX.out.step hb); replace HBs := Lib.hid (HBs.out.step hb); replace HI := Lib.hid (HI.out.step hb); replace HN := Lib.hid (HN.out.step hb); replace k0 := cell_of_ans hb k0; replace k1 := cell_of_ans hb k1; replace k2 := cell_of_ans hb k2; replace k3 := cell_of_ans hb k3; replace j0 := cell_of_ans hb j0; replace j1 := cell_of_ans hb j1; replace Hg6 := Lib.hid (Hg6.out.step hb); replace Hg7 := Lib.hid (Hg7.out.step hb); replace Hg8 := Lib.hid (Hg8.out.step hb); replace HB := Lib.hid (HB.out.trans (hb.mono HB.out.size)); clear hb))
            clear Hg6 Hg7 Hg8
            clear hc6 hc7 hc8
            go_wp2_with fail
            have HT1 : Hid True := trivial
            have hd : Below w9.heap.size w9 w9.drew := (Below.refl _ _).drew
            replace HX := Lib.hid (HX.out.step hd)
            replace HBs := Lib.hid (HBs.out.step hd)
            replace HI := Lib.hid (HI.out.step hd)
            replace HN := Lib.hid (HN.out.step hd)
            replace HB := Lib.hid (HB.out.trans (hd.mono HB.out.size))
            clear hd
            go_region_held3 (fun w' => w'.cell? ⟨w.heap.size, 0, none⟩ = some (.slice A xss.length c) ∧ w'.cell? ⟨w.heap.size, 1, none⟩ = some (.int .i64 lo) ∧ w'.cell? ⟨w.heap.size, 2, none⟩ = some (.int .i64 hi) ∧ w'.cell? ⟨w.heap.size, 3, none⟩ = some (.int .i64 ca)) (go_keep) (first | (go_at_call 22; have _t := HT1; refine (fault2_c A Ab xss bss c cb lo hi ca _ HX.out HBs.out hc).mono ?_; rintro e w10 ⟨rfl, hb⟩; replace HX := Lib.hid (HX.out.step hb); replace HBs := Lib.hid (HBs.out.step hb); replace HI := Lib.hid (HI.out.step hb); replace HN := Lib.hid (HN.out.step hb); replace k0 := cell_of_ans (below_drew_l hb) k0; replace k1 := cell_of_ans (below_drew_l hb) k1; replace k2 := cell_of_ans (below_drew_l hb) k2; replace k3 := cell_of_ans (below_drew_l hb) k3; replace j0 := cell_of_ans (below_drew_l hb) j0; replace j1 := cell_of_ans (below_drew_l hb) j1; replace HB := Lib.hid (HB.out.trans (hb.mono HB.out.size)); clear hb; clear HT1) | (go_at_call 22; refine (fault2_c A none xss [] c 0 lo hi ca _ HX.out (grd_nil _ _) hc).mono ?_; rw [HNil.out]; rintro e w11 ⟨rfl, hb⟩; replace HX := Lib.hid (HX.out.step hb); replace HBs := Lib.hid (HBs.out.step hb); replace HI := Lib.hid (HI.out.step hb); replace HN := Lib.hid (HN.out.step hb); replace k0 := cell_of_ans hb k0; replace k1 := cell_of_ans hb k1; replace k2 := cell_of_ans hb k2; replace k3 := cell_of_ans hb k3; replace j0 := cell_of_ans hb j0; replace j1 := cell_of_ans hb j1; replace HB := Lib.hid (HB.out.trans (hb.mono HB.out.size)); clear hb))
            go_wp2_with fail
            refine (isLine_c A A' An xss x nd c c' cn lo hi ca _ HX.out HI.out HN.out hn0 hc' hcn).mono ?_
            rw [HLn.out]
            rintro e w12 ⟨rfl, hb⟩
            replace HX := Lib.hid (HX.out.step hb)
            replace HBs := Lib.hid (HBs.out.step hb)
            replace HI := Lib.hid (HI.out.step hb)
            replace HN := Lib.hid (HN.out.step hb)
            replace k0 := cell_of_ans hb k0
            replace k1 := cell_of_ans hb k1
            replace k2 := cell_of_ans hb k2
            replace k3 := cell_of_ans hb k3
            replace j0 := cell_of_ans hb j0
            replace j1 := cell_of_ans hb j1
            replace HB := Lib.hid (HB.out.trans (hb.mono HB.out.size))
            clear hb
            go_wp2_with fail
            refine (refLasts_c A A' An xss x nd c c' cn lo hi ca _ HX.out HI.out HN.out hc' HLE.out HLn.out).mono ?_
            rw [HLE2.out]
            rintro e w14 ⟨rfl, hb⟩
            replace HX := Lib.hid (HX.out.step hb)
            replace HBs := Lib.hid (HBs.out.step hb)
            replace HI := Lib.hid (HI.out.step hb)
            replace HN := Lib.hid (HN.out.step hb)
            replace k0 := cell_of_ans hb k0
            replace k1 := cell_of_ans hb k1
            replace k2 := cell_of_ans hb k2
            replace k3 := cell_of_ans hb k3
            replace j0 := cell_of_ans hb j0
            replace j1 := cell_of_ans hb j1
            replace HB := Lib.hid (HB.out.trans (hb.mono HB.out.size))
            clear hb
            go_wp2_with fail
            refine (awake_c _).mono ?_
            rintro e w19 ⟨rfl, hb⟩
            replace HX := Lib.hid (HX.out.step hb)
            replace HBs := Lib.hid (HBs.out.step hb)
            replace HI := Lib.hid (HI.out.step hb)
            replace HN := Lib.hid (HN.out.step hb)
            replace k0 := cell_of_ans hb k0
            replace k1 := cell_of_ans hb k1
            replace k2 := cell_of_ans hb k2
            replace k3 := cell_of_ans hb k3
            replace j0 := cell_of_ans hb j0
            replace j1 := cell_of_ans hb j1
            replace HB := Lib.hid (HB.out.trans (hb.mono HB.out.size))
            clear hb
            go_wp2_with fail
            go_ret
            exact ⟨rfl, HB.out⟩
      · have HBV : Hid (ballsErr xss lo hi ca bss = laneErr xss lo hi ca) := by show _ = _; rw [ballsErr, if_neg hle]
        have HNil : Hid (ballsErr xss lo hi ca [] = ballsErr xss lo hi ca bss) := (ballsErr_nil xss lo hi ca).trans HBV.out.symm
        have HLV : Hid (lastsErr xss lo hi ca x nd = ballsErr xss lo hi ca bss) := by show _ = _; rw [lastsErr, if_neg hle]; exact HBV.out.symm
        have hbe : ballsErr xss lo hi ca bss ≠ 0 := by rw [HBV.out]; exact hle
        have HLB : Hid (lastsErr xss lo hi ca x nd ≠ 0) := by show _ ≠ _; rw [HLV.out]; exact hbe
        have HBad := Lib.hid hbe
        have z1 : (ballsErr xss lo hi ca bss == 0) = false := by simp [hbe]
        have z2 : (ballsErr xss lo hi ca bss != 0) = true := by simp [hbe]
        have z3 : (ballsErr xss lo hi ca bss != ballsErr xss lo hi ca bss) = false := by simp
        have z4 : (ballsErr xss lo hi ca bss == ballsErr xss lo hi ca bss) = true := by simp
        clear hbe hle
        go_wp2_with fail
        have hd : Below w2.heap.size w2 w2.drew := (Below.refl _ _).drew
        replace HX := Lib.hid (HX.out.step hd)
        replace HBs := Lib.hid (HBs.out.step hd)
        replace HI := Lib.hid (HI.out.step hd)
        replace HN := Lib.hid (HN.out.step hd)
        replace HB := Lib.hid (HB.out.trans (hd.mono HB.out.size))
        clear hd
        go_region_held3 (fun w' => w'.cell? ⟨w.heap.size, 0, none⟩ = some (.slice A xss.length c) ∧ w'.cell? ⟨w.heap.size, 1, none⟩ = some (.int .i64 lo) ∧ w'.cell? ⟨w.heap.size, 2, none⟩ = some (.int .i64 hi) ∧ w'.cell? ⟨w.heap.size, 3, none⟩ = some (.int .i64 ca) ∧ w'.cell? ⟨w.heap.size + 1, 0, none⟩ = some (.slice A' x.length c') ∧ w'.cell? ⟨w.heap.size + 1, 1, none⟩ = some (.slice An nd.length cn)) (go_keep) (first | (go_at_call 19; refine (lane_c A xss c lo hi ca _ (Nat.le_refl _) HX.out (shortB_big (by omega) HS1.out).1 (shortB_big (by omega) HS1.out).2).mono ?_; rintro e w3 ⟨A2, c2, rfl, hc2, g2, hb⟩; replace HX := Lib.hid (HX.out.step hb); replace HBs := Lib.hid (HBs.out.step hb); replace HI := Lib.hid (HI.out.step hb); replace HN := Lib.hid (HN.out.step hb); replace k0 := cell_of_ans (below_drew_l hb) k0; replace k1 := cell_of_ans (below_drew_l hb) k1; replace k2 := cell_of_ans (below_drew_l hb) k2; replace k3 := cell_of_ans (below_drew_l hb) k3; replace j0 := cell_of_ans (below_drew_l hb) j0; replace j1 := cell_of_ans (below_drew_l hb) j1; replace HB := Lib.hid (HB.out.trans (hb.mono HB.out.size)); clear hb; have Hg2 := Lib.hid g2; clear g2) | (go_at_call 21; refine (copied_new_c Ab bss cb _ HBs.out (shortB_big (by omega) HS2.out).1 (shortB_big (by omega) HS2.out).2).mono ?_; rintro e w4 ⟨A3, c3, rfl, hc3, g3, hb⟩; replace HX := Lib.hid (HX.out.step hb); replace HBs := Lib.hid (HBs.out.step hb); replace HI := Lib.hid (HI.out.step hb); replace HN := Lib.hid (HN.out.step hb); replace k0 := cell_of_ans hb k0; replace k1 := cell_of_ans hb k1; replace k2 := cell_of_ans hb k2; replace k3 := cell_of_ans hb k3; replace j0 := cell_of_ans hb j0; replace j1 := cell_of_ans hb j1; replace Hg2 := Lib.hid (Hg2.out.step hb); replace HB := Lib.hid (HB.out.trans (hb.mono HB.out.size)); clear hb; have Hg3 := Lib.hid g3; clear g3) | (go_at_call 35; refine (line35_c A' An x nd c' cn _ HI.out HN.out (by omega) (by omega)).mono ?_; rintro e w5 ⟨A4, c4, A5, c5, rfl, hc4, hc5, g4, g5, hb⟩; replace HX := Lib.hid (HX.out.step hb); replace HBs := Lib.hid (HBs.out.step hb); replace HI := Lib.hid (HI.out.step hb); replace HN := Lib.hid (HN.out.step hb); replace k0 := cell_of_ans hb k0; replace k1 := cell_of_ans hb k1; replace k2 := cell_of_ans hb k2; replace k3 := cell_of_ans hb k3; replace j0 := cell_of_ans hb j0; replace j1 := cell_of_ans hb j1; replace Hg2 := Lib.hid (Hg2.out.step hb); replace Hg3 := Lib.hid (Hg3.out.step hb); replace HB := Lib.hid (HB.out.trans (hb.mono HB.out.size)); clear hb; have Hg4 := Lib.hid g4; clear g4; have Hg5 := Lib.hid g5; clear g5) | (go_at_call 34; refine (playable_bad1 A2 A3 A4 A5 xss bss x nd c2 c3 c4 c5 lo hi ca _ Hg2.out Hg3.out Hg4.out Hg5.out hc2 hc3 HBad.out).mono ?_; rintro e w6 ⟨rfl, hb⟩; replace HX := Lib.hid (HX.out.step hb); replace HBs := Lib.hid (HBs.out.step hb); replace HI := Lib.hid (HI.out.step hb); replace HN := Lib.hid (HN.out.step hb); replace k0 := cell_of_ans hb k0; replace k1 := cell_of_ans hb k1; replace k2 := cell_of_ans hb k2; replace k3 := cell_of_ans hb k3; replace j0 := cell_of_ans hb j0; replace j1 := cell_of_ans hb j1; replace Hg2 := Lib.hid (Hg2.out.step hb); replace Hg3 := Lib.hid (Hg3.out.step hb); replace Hg4 := Lib.hid (Hg4.out.step hb); replace Hg5 := Lib.hid (Hg5.out.step hb); replace HB := Lib.hid (HB.out.trans (hb.mono HB.out.size)); clear hb))
        clear Hg2 Hg3 Hg4 Hg5
        clear hc2 hc3 hc4 hc5
        go_wp2_with fail
        have hd : Below w6.heap.size w6 w6.drew := (Below.refl _ _).drew
        replace HX := Lib.hid (HX.out.step hd)
        replace HBs := Lib.hid (HBs.out.step hd)
        replace HI := Lib.hid (HI.out.step hd)
        replace HN := Lib.hid (HN.out.step hd)
        replace HB := Lib.hid (HB.out.trans (hd.mono HB.out.size))
        clear hd
        go_region_held3 (fun w' => w'.cell? ⟨w.heap.size, 0, none⟩ = some (.slice A xss.length c) ∧ w'.cell? ⟨w.heap.size, 1, none⟩ = some (.int .i64 lo) ∧ w'.cell? ⟨w.heap.size, 2, none⟩ = some (.int .i64 hi) ∧ w'.cell? ⟨w.heap.size, 3, none⟩ = some (.int .i64 ca) ∧ w'.cell? ⟨w.heap.size + 1, 0, none⟩ = some (.slice A' x.length c') ∧ w'.cell? ⟨w.heap.size + 1, 1, none⟩ = some (.slice An nd.length cn)) (go_keep) (first | (go_at_call 19; refine (lane_c A xss c lo hi ca _ (Nat.le_refl _) HX.out (shortB_big (by omega) HS1.out).1 (shortB_big (by omega) HS1.out).2).mono ?_; rintro e w7 ⟨A6, c6, rfl, hc6, g6, hb⟩; replace HX := Lib.hid (HX.out.step hb); replace HBs := Lib.hid (HBs.out.step hb); replace HI := Lib.hid (HI.out.step hb); replace HN := Lib.hid (HN.out.step hb); replace k0 := cell_of_ans (below_drew_l hb) k0; replace k1 := cell_of_ans (below_drew_l hb) k1; replace k2 := cell_of_ans (below_drew_l hb) k2; replace k3 := cell_of_ans (below_drew_l hb) k3; replace j0 := cell_of_ans (below_drew_l hb) j0; replace j1 := cell_of_ans (below_drew_l hb) j1; replace HB := Lib.hid (HB.out.trans (hb.mono HB.out.size)); clear hb; have Hg6 := Lib.hid g6; clear g6) | (go_at_call 35; refine (line35_c A' An x nd c' cn _ HI.out HN.out (by omega) (by omega)).mono ?_; rintro e w8 ⟨A7, c7, A8, c8, rfl, hc7, hc8, g7, g8, hb⟩; replace HX := Lib.hid (HX.out.step hb); replace HBs := Lib.hid (HBs.out.step hb); replace HI := Lib.hid (HI.out.step hb); replace HN := Lib.hid (HN.out.step hb); replace k0 := cell_of_ans hb k0; replace k1 := cell_of_ans hb k1; replace k2 := cell_of_ans hb k2; replace k3 := cell_of_ans hb k3; replace j0 := cell_of_ans hb j0; replace j1 := cell_of_ans hb j1; replace Hg6 := Lib.hid (Hg6.out.step hb); replace HB := Lib.hid (HB.out.trans (hb.mono HB.out.size)); clear hb; have Hg7 := Lib.hid g7; clear g7; have Hg8 := Lib.hid g8; clear g8) | (go_at_call 36; refine (lasts_bad_c A6 A7 A8 xss x nd c6 c7 c8 lo hi ca _ Hg6.out Hg7.out Hg8.out hc6 hc7 hc8 HLB.out).mono ?_; rw [HLV.out]; rintro e w9 ⟨rfl, hb⟩; replace HX := Lib.hid (HX.out.step hb); replace HBs := Lib.hid (HBs.out.step hb); replace HI := Lib.hid (HI.out.step hb); replace HN := Lib.hid (HN.out.step hb); replace k0 := cell_of_ans hb k0; replace k1 := cell_of_ans hb k1; replace k2 := cell_of_ans hb k2; replace k3 := cell_of_ans hb k3; replace j0 := cell_of_ans hb j0; replace j1 := cell_of_ans hb j1; replace Hg6 := Lib.hid (Hg6.out.step hb); replace Hg7 := Lib.hid (Hg7.out.step hb); replace Hg8 := Lib.hid (Hg8.out.step hb); replace HB := Lib.hid (HB.out.trans (hb.mono HB.out.size)); clear hb))
        clear Hg6 Hg7 Hg8
        clear hc6 hc7 hc8
        go_wp2_with fail
        have HT1 : Hid True := trivial
        have hd : Below w9.heap.size w9 w9.drew := (Below.refl _ _).drew
        replace HX := Lib.hid (HX.out.step hd)
        replace HBs := Lib.hid (HBs.out.step hd)
        replace HI := Lib.hid (HI.out.step hd)
        replace HN := Lib.hid (HN.out.step hd)
        replace HB := Lib.hid (HB.out.trans (hd.mono HB.out.size))
        clear hd
        go_region_held3 (fun w' => w'.cell? ⟨w.heap.size, 0, none⟩ = some (.slice A xss.length c) ∧ w'.cell? ⟨w.heap.size, 1, none⟩ = some (.int .i64 lo) ∧ w'.cell? ⟨w.heap.size, 2, none⟩ = some (.int .i64 hi) ∧ w'.cell? ⟨w.heap.size, 3, none⟩ = some (.int .i64 ca)) (go_keep) (first | (go_at_call 22; have _t := HT1; refine (fault2_c A Ab xss bss c cb lo hi ca _ HX.out HBs.out hc).mono ?_; rintro e w10 ⟨rfl, hb⟩; replace HX := Lib.hid (HX.out.step hb); replace HBs := Lib.hid (HBs.out.step hb); replace HI := Lib.hid (HI.out.step hb); replace HN := Lib.hid (HN.out.step hb); replace k0 := cell_of_ans (below_drew_l hb) k0; replace k1 := cell_of_ans (below_drew_l hb) k1; replace k2 := cell_of_ans (below_drew_l hb) k2; replace k3 := cell_of_ans (below_drew_l hb) k3; replace j0 := cell_of_ans (below_drew_l hb) j0; replace j1 := cell_of_ans (below_drew_l hb) j1; replace HB := Lib.hid (HB.out.trans (hb.mono HB.out.size)); clear hb; clear HT1) | (go_at_call 22; refine (fault2_c A none xss [] c 0 lo hi ca _ HX.out (grd_nil _ _) hc).mono ?_; rw [HNil.out]; rintro e w11 ⟨rfl, hb⟩; replace HX := Lib.hid (HX.out.step hb); replace HBs := Lib.hid (HBs.out.step hb); replace HI := Lib.hid (HI.out.step hb); replace HN := Lib.hid (HN.out.step hb); replace k0 := cell_of_ans hb k0; replace k1 := cell_of_ans hb k1; replace k2 := cell_of_ans hb k2; replace k3 := cell_of_ans hb k3; replace j0 := cell_of_ans hb j0; replace j1 := cell_of_ans hb j1; replace HB := Lib.hid (HB.out.trans (hb.mono HB.out.size)); clear hb))
        go_wp2_with fail
        refine (awake_c _).mono ?_
        rintro e w19 ⟨rfl, hb⟩
        replace HX := Lib.hid (HX.out.step hb)
        replace HBs := Lib.hid (HBs.out.step hb)
        replace HI := Lib.hid (HI.out.step hb)
        replace HN := Lib.hid (HN.out.step hb)
        replace k0 := cell_of_ans hb k0
        replace k1 := cell_of_ans hb k1
        replace k2 := cell_of_ans hb k2
        replace k3 := cell_of_ans hb k3
        replace j0 := cell_of_ans hb j0
        replace j1 := cell_of_ans hb j1
        replace HB := Lib.hid (HB.out.trans (hb.mono HB.out.size))
        clear hb
        go_wp2_with fail
        go_ret
        exact ⟨rfl, HB.out⟩
end Go.Proofs.Ytgnonfomlgkpcaa
