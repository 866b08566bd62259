/-
  The walk of the law SeenExplains.
-/
import Derived.Test.YtadjkinpimmhkaaWakes
import Derived.Test.YtadjkinpimmhkaaRef4
namespace Go.Proofs.Ytadjkinpimmhkaa
open Go.RowKit
set_option linter.unusedSimpArgs false
set_option linter.unusedVariables false

theorem thin_wakes (ws : List Wd) (ts : List Int) (h : thinB ws ts = true) : ws.length ≤ 35 ∧ ts.length ≤ 8 := by simpa [thinB] using h

set_option maxRecDepth 100000 in
set_option maxHeartbeats 16000000 in
theorem seenExplains_c (A At : Option Addr) (ws : List Wd) (ts : List Int) (c ct : Nat) (frn : Int) (w : World) (hw : Wds w.heap.size w A ws) (ht : Ints w.heap.size w At ts) (hc : ws.length ≤ c ∧ c ≤ 9223372036854775807) (hct : ts.length ≤ ct ∧ ct ≤ 9223372036854775807) :
    Calls Try.prog 3 #[.agg #[.int .i64 frn, .slice A ws.length c], .slice At ts.length ct] w (Ans w (.bool true)) := by
  have hb0 : Below w.heap.size w (w.alloc (.cells #[.int .i64 frn, .slice A ws.length c] 24)) := (Below.refl _ _).alloc (Nat.le_refl _) _
  have k0 : (w.alloc (.cells #[.int .i64 frn, .slice A ws.length c] 24)).cell? ⟨w.heap.size, 0, none⟩ = some (.int .i64 frn) := by simp
  have k1 : (w.alloc (.cells #[.int .i64 frn, .slice A ws.length c] 24)).cell? ⟨w.heap.size, 1, none⟩ = some (.slice A ws.length c) := by simp
  have HB := Lib.hid hb0
  have HW := Lib.hid (hw.step hb0)
  have HT := Lib.hid (ht.step hb0)
  have HWK := Lib.hid wakes_c
  clear hb0 hw ht
  go_enter Try.func3, Try.ntmps3
  go_wp2_with fail
  generalize w.alloc (.cells #[.int .i64 frn, .slice A ws.length c] 24) = W0 at k0 k1 HB HW HT ⊢
  have HTh := Lib.hid (thin_c A At ws ts c ct frn W0)
  cases hth : thinB ws ts
  · rw [hth] at HTh
    clear hth
    refine HTh.out.mono ?_
    rintro e w1 ⟨rfl, hb⟩
    replace HB := Lib.hid (HB.out.trans (hb.mono HB.out.size))
    clear hb
    go_wp2_with fail
    refine (HWK.out _).mono ?_
    rintro e w2 ⟨rfl, hb⟩
    go_wp2_with fail
    go_ret
    exact ⟨rfl, HB.out.trans (hb.mono HB.out.size)⟩
  · rw [hth] at HTh
    obtain ⟨h35, h8⟩ := thin_wakes ws ts hth
    clear hth
    refine HTh.out.mono ?_
    rintro e w1 ⟨rfl, hb⟩
    replace HW := Lib.hid (HW.out.step hb)
    replace HT := Lib.hid (HT.out.step hb)
    replace k0 := cell_of_ans hb k0
    replace k1 := cell_of_ans hb k1
    replace HB := Lib.hid (HB.out.trans (hb.mono HB.out.size))
    clear hb
    go_wp2_with fail
    refine (lane_c A ws c frn _ HW.out hc (by omega)).mono ?_
    rintro e w2 ⟨A1, c1, rfl, hO1, hb⟩
    replace HW := Lib.hid (HW.out.step hb)
    replace HT := Lib.hid (HT.out.step hb)
    replace k0 := cell_of_ans hb k0
    replace k1 := cell_of_ans hb k1
    replace HB := Lib.hid (HB.out.trans (hb.mono HB.out.size))
    clear hb
    obtain ⟨hq1, hq1b, hO1⟩ := hO1.wds
    have HL1 := Lib.hid hO1
    clear hO1
    go_wp2_with fail
    refine (checkLane_c A1 ws c1 frn _ (Nat.le_refl _) HL1.out ⟨hq1, hq1b⟩).mono ?_
    rintro e w3 ⟨rfl, hb⟩
    replace HW := Lib.hid (HW.out.step hb)
    replace HT := Lib.hid (HT.out.step hb)
    replace k0 := cell_of_ans hb k0
    replace k1 := cell_of_ans hb k1
    replace HL1 := Lib.hid (HL1.out.step hb)
    replace HB := Lib.hid (HB.out.trans (hb.mono HB.out.size))
    clear hb
    clear HL1
    go_wp2_with fail
    refine (lane_c A ws c frn _ HW.out hc (by omega)).mono ?_
    rintro e w4 ⟨A2, c2, rfl, hO2, hb⟩
    replace HW := Lib.hid (HW.out.step hb)
    replace HT := Lib.hid (HT.out.step hb)
    replace k0 := cell_of_ans hb k0
    replace k1 := cell_of_ans hb k1
    replace HB := Lib.hid (HB.out.trans (hb.mono HB.out.size))
    clear hb
    obtain ⟨hq2, hq2b, hO2⟩ := hO2.wds
    have HL2 := Lib.hid hO2
    clear hO2
    go_wp2_with fail
    refine (list_c At ts ct _ HT.out (Nat.le_refl _) (by omega)).mono ?_
    rintro e w5 ⟨A3, c3, rfl, hO3, hb⟩
    replace HW := Lib.hid (HW.out.step hb)
    replace HT := Lib.hid (HT.out.step hb)
    replace k0 := cell_of_ans hb k0
    replace k1 := cell_of_ans hb k1
    replace HL2 := Lib.hid (HL2.out.step hb)
    replace HB := Lib.hid (HB.out.trans (hb.mono HB.out.size))
    clear hb
    obtain ⟨hq3, hq3b, hO3⟩ := isInts_parts (ownsRow_isInts hO3)
    have HL3 := Lib.hid hO3
    clear hO3
    go_wp2_with fail
    refine (explains_c A2 A3 ws ts c2 c3 frn _ HL2.out HL3.out ⟨hq2, hq2b⟩ ⟨hq3, hq3b⟩).mono ?_
    rintro e w6 ⟨rfl, hb⟩
    replace HW := Lib.hid (HW.out.step hb)
    replace HT := Lib.hid (HT.out.step hb)
    replace k0 := cell_of_ans hb k0
    replace k1 := cell_of_ans hb k1
    replace HL2 := Lib.hid (HL2.out.step hb)
    replace HL3 := Lib.hid (HL3.out.step hb)
    replace HB := Lib.hid (HB.out.trans (hb.mono HB.out.size))
    clear hb
    clear HL2 HL3
    go_wp2_with fail
    refine (fault23_c A ws c frn _ HW.out hc).mono ?_
    rintro e w7 ⟨rfl, hb⟩
    replace HW := Lib.hid (HW.out.step hb)
    replace HT := Lib.hid (HT.out.step hb)
    replace k0 := cell_of_ans hb k0
    replace k1 := cell_of_ans hb k1
    replace HB := Lib.hid (HB.out.trans (hb.mono HB.out.size))
    clear hb
    have hef : (laneErr frn ws != laneErr frn ws) = false := by simp
    go_wp2_with fail
    refine (asked24_c A At ws ts c ct frn _ HW.out HT.out hc hct).mono ?_
    rintro e w8 ⟨rfl, hb⟩
    replace HW := Lib.hid (HW.out.step hb)
    replace HT := Lib.hid (HT.out.step hb)
    replace k0 := cell_of_ans hb k0
    replace k1 := cell_of_ans hb k1
    replace HB := Lib.hid (HB.out.trans (hb.mono HB.out.size))
    clear hb
    clear hef
    have HAE : Hid (askErr frn ws ts = 0 → laneErr frn ws = 0) := fun h => (askOk h).1
    by_cases hask : askErr frn ws ts = 0
    · obtain ⟨h30, hf1, hf5, hok⟩ := laneOk (HAE.out hask)
      obtain ⟨m, rfl⟩ : ∃ m : Nat, frn = (m : Int) := ⟨frn.toNat, by omega⟩
      have HOK := Lib.hid hok
      clear hok HAE
      rw [hask]
      simp only [decide_true, Bool.true_and]
      clear hask
      have HX := Lib.hid (fun W (h1 : Wds W.heap.size W A ws) (h2 : Ints W.heap.size W At ts) => explains25_c A At ws ts c ct m W h1 h2 hc hct (by omega) HOK.out (by omega))
      generalize explB (m : Int) ws (offT ts) = bx at *
      have hbx : (bx == bx) = true := by simp
      go_wp2_with fail
      refine (HX.out _ HW.out HT.out).mono ?_
      rintro e w9 ⟨rfl, hb⟩
      replace HW := Lib.hid (HW.out.step hb)
      replace HT := Lib.hid (HT.out.step hb)
      replace k0 := cell_of_ans hb k0
      replace k1 := cell_of_ans hb k1
      replace HB := Lib.hid (HB.out.trans (hb.mono HB.out.size))
      clear hb
      go_wp2_with fail
      refine (HWK.out _).mono ?_
      rintro e w10 ⟨rfl, hb⟩
      replace HW := Lib.hid (HW.out.step hb)
      replace HT := Lib.hid (HT.out.step hb)
      replace k0 := cell_of_ans hb k0
      replace k1 := cell_of_ans hb k1
      replace HB := Lib.hid (HB.out.trans (hb.mono HB.out.size))
      clear hb
      go_wp2_with fail
      go_ret
      exact ⟨rfl, HB.out⟩
    · clear HAE
      have hne : (askErr frn ws ts != 0) = true := by simp [hask]
      have hdd : decide (askErr frn ws ts = 0) = false := decide_eq_false hask
      rw [hdd]
      simp only [Bool.false_and]
      clear hask hdd
      generalize askErr frn ws ts = er at *
      have hee : (er == er) = true := by simp
      go_wp2_with fail
      refine (HWK.out _).mono ?_
      rintro e w9 ⟨rfl, hb⟩
      replace HW := Lib.hid (HW.out.step hb)
      replace HT := Lib.hid (HT.out.step hb)
      replace k0 := cell_of_ans hb k0
      replace k1 := cell_of_ans hb k1
      replace HB := Lib.hid (HB.out.trans (hb.mono HB.out.size))
      clear hb
      go_wp2_with fail
      go_ret
      exact ⟨rfl, HB.out⟩
end Go.Proofs.Ytadjkinpimmhkaa
