/-
  oil.Playable.
-/
import Derived.Test.YtgnonfomlgkpcaaDryW
namespace Go.Proofs.Ytgnonfomlgkpcaa
open Go.RowKit

theorem check2_c (A A' : Option Addr) (xss yss : List (List Int)) (c c' : Nat) (lo hi ca : Int) (w : World) (hr : Grd w.heap.size w A xss) (hy : Grd w.heap.size w A' yss) (hc : xss.length ≤ c ∧ c ≤ 9223372036854775807) (hc' : yss.length ≤ c' ∧ c' ≤ 9223372036854775807) :
    Calls Try.prog 57 #[.agg #[.slice A xss.length c, .int .i64 lo, .int .i64 hi, .int .i64 ca], .slice A' yss.length c'] w (Ans w (.int .i64 (ballsErr xss lo hi ca yss))) := check_c A A' xss yss c c' lo hi ca w (Nat.le_refl _) hr hy hc hc'

section
variable (A Ab A' An : Option Addr) (xss bss : List (List Int)) (x nd : List Int) (c cb c' cn : Nat) (lo hi ca : Int) (w : World) (hr : Grd w.heap.size w A xss) (hbs : Grd w.heap.size w Ab bss) (hx : Ints w.heap.size w A' x) (hn : Ints w.heap.size w An nd) (hc : xss.length ≤ c ∧ c ≤ 9223372036854775807) (hcb : bss.length ≤ cb ∧ cb ≤ 9223372036854775807) (hc' : x.length ≤ c' ∧ c' ≤ 9223372036854775807) (hcn : nd.length ≤ cn ∧ cn ≤ 9223372036854775807)
include hr hbs hx hn hc hcb hc' hcn

omit hc' hcn in
set_option maxRecDepth 100000 in
set_option maxHeartbeats 2000000 in
theorem playable_bad1 (h : ballsErr xss lo hi ca bss ≠ 0) : Calls Try.prog 34 #[.agg #[.slice A xss.length c, .int .i64 lo, .int .i64 hi, .int .i64 ca], .slice Ab bss.length cb, .agg #[.slice A' x.length c', .slice An nd.length cn]] w (Ans w (.tuple #[.bool false, .int .i64 (ballsErr xss lo hi ca bss)])) := by
  have h1' : (ballsErr xss lo hi ca bss != 0) = true := by simp [h]
  have hb0 : Below w.heap.size w ((w.alloc (.cells #[.slice A xss.length c, .int .i64 lo, .int .i64 hi, .int .i64 ca] 34)).alloc (.cells #[.slice A' x.length c', .slice An nd.length cn] 60)) := ((Below.refl _ _).alloc (Nat.le_refl _) _).alloc (by simp) _
  have k0 : ((w.alloc (.cells #[.slice A xss.length c, .int .i64 lo, .int .i64 hi, .int .i64 ca] 34)).alloc (.cells #[.slice A' x.length c', .slice An nd.length cn] 60)).cell? ⟨w.heap.size, 0, none⟩ = some (.slice A xss.length c) := by go_simp
  have k1 : ((w.alloc (.cells #[.slice A xss.length c, .int .i64 lo, .int .i64 hi, .int .i64 ca] 34)).alloc (.cells #[.slice A' x.length c', .slice An nd.length cn] 60)).cell? ⟨w.heap.size, 1, none⟩ = some (.int .i64 lo) := by go_simp
  have k2 : ((w.alloc (.cells #[.slice A xss.length c, .int .i64 lo, .int .i64 hi, .int .i64 ca] 34)).alloc (.cells #[.slice A' x.length c', .slice An nd.length cn] 60)).cell? ⟨w.heap.size, 2, none⟩ = some (.int .i64 hi) := by go_simp
  have k3 : ((w.alloc (.cells #[.slice A xss.length c, .int .i64 lo, .int .i64 hi, .int .i64 ca] 34)).alloc (.cells #[.slice A' x.length c', .slice An nd.length cn] 60)).cell? ⟨w.heap.size, 3, none⟩ = some (.int .i64 ca) := by go_simp
  have j0 : ((w.alloc (.cells #[.slice A xss.length c, .int .i64 lo, .int .i64 hi, .int .i64 ca] 34)).alloc (.cells #[.slice A' x.length c', .slice An nd.length cn] 60)).cell? ⟨w.heap.size + 1, 0, none⟩ = some (.slice A' x.length c') := by go_simp
  have j1 : ((w.alloc (.cells #[.slice A xss.length c, .int .i64 lo, .int .i64 hi, .int .i64 ca] 34)).alloc (.cells #[.slice A' x.length c', .slice An nd.length cn] 60)).cell? ⟨w.heap.size + 1, 1, none⟩ = some (.slice An nd.length cn) := by go_simp
  have HX := Lib.hid (hr.step hb0)
  have HBs := Lib.hid (hbs.step hb0)
  have HI := Lib.hid (hx.step hb0)
  have HN := Lib.hid (hn.step hb0)
  have HB := Lib.hid hb0
  clear hb0 hr hbs hx hn
  go_enter Try.func34, Try.ntmps34
  go_wp2_with fail
  generalize ((w.alloc (.cells #[.slice A xss.length c, .int .i64 lo, .int .i64 hi, .int .i64 ca] 34)).alloc (.cells #[.slice A' x.length c', .slice An nd.length cn] 60)) = W0 at k0 k1 k2 k3 j0 j1 HX HBs HI HN HB ⊢
  refine (check2_c A Ab xss bss c cb lo hi ca _ HX.out HBs.out hc hcb).mono ?_
  rintro e w1 ⟨rfl, hb⟩
  replace HX := Lib.hid (HX.out.step hb)
  replace HBs := Lib.hid (HBs.out.step hb)
  replace HI := Lib.hid (HI.out.step hb)
  replace HN := Lib.hid (HN.out.step hb)
  replace k0 := cell_of_ans hb k0
  replace k1 := cell_of_ans hb k1
  replace k2 := cell_of_ans hb k2
  replace k3 := cell_of_ans hb k3
  replace j0 := cell_of_ans hb j0
  replace j1 := cell_of_ans hb j1
  replace HB := Lib.hid (HB.out.trans (hb.mono HB.out.size))
  clear hb
  go_wp2_with fail
  go_ret2
  exact ⟨rfl, HB.out⟩

set_option maxRecDepth 100000 in
set_option maxHeartbeats 2000000 in
theorem playable_bad2 (h : ballsErr xss lo hi ca bss = 0) (hl : lineB xss x nd = false) : Calls Try.prog 34 #[.agg #[.slice A xss.length c, .int .i64 lo, .int .i64 hi, .int .i64 ca], .slice Ab bss.length cb, .agg #[.slice A' x.length c', .slice An nd.length cn]] w (Ans w (.tuple #[.bool false, .int .i64 2])) := by
  have HE := Lib.hid h
  have HL := Lib.hid hl
  have HV := Lib.hid (laneOk (ballsOk h).1)
  clear h hl
  have hb0 : Below w.heap.size w ((w.alloc (.cells #[.slice A xss.length c, .int .i64 lo, .int .i64 hi, .int .i64 ca] 34)).alloc (.cells #[.slice A' x.length c', .slice An nd.length cn] 60)) := ((Below.refl _ _).alloc (Nat.le_refl _) _).alloc (by simp) _
  have k0 : ((w.alloc (.cells #[.slice A xss.length c, .int .i64 lo, .int .i64 hi, .int .i64 ca] 34)).alloc (.cells #[.slice A' x.length c', .slice An nd.length cn] 60)).cell? ⟨w.heap.size, 0, none⟩ = some (.slice A xss.length c) := by go_simp
  have k1 : ((w.alloc (.cells #[.slice A xss.length c, .int .i64 lo, .int .i64 hi, .int .i64 ca] 34)).alloc (.cells #[.slice A' x.length c', .slice An nd.length cn] 60)).cell? ⟨w.heap.size, 1, none⟩ = some (.int .i64 lo) := by go_simp
  have k2 : ((w.alloc (.cells #[.slice A xss.length c, .int .i64 lo, .int .i64 hi, .int .i64 ca] 34)).alloc (.cells #[.slice A' x.length c', .slice An nd.length cn] 60)).cell? ⟨w.heap.size, 2, none⟩ = some (.int .i64 hi) := by go_simp
  have k3 : ((w.alloc (.cells #[.slice A xss.length c, .int .i64 lo, .int .i64 hi, .int .i64 ca] 34)).alloc (.cells #[.slice A' x.length c', .slice An nd.length cn] 60)).cell? ⟨w.heap.size, 3, none⟩ = some (.int .i64 ca) := by go_simp
  have j0 : ((w.alloc (.cells #[.slice A xss.length c, .int .i64 lo, .int .i64 hi, .int .i64 ca] 34)).alloc (.cells #[.slice A' x.length c', .slice An nd.length cn] 60)).cell? ⟨w.heap.size + 1, 0, none⟩ = some (.slice A' x.length c') := by go_simp
  have j1 : ((w.alloc (.cells #[.slice A xss.length c, .int .i64 lo, .int .i64 hi, .int .i64 ca] 34)).alloc (.cells #[.slice A' x.length c', .slice An nd.length cn] 60)).cell? ⟨w.heap.size + 1, 1, none⟩ = some (.slice An nd.length cn) := by go_simp
  have HX := Lib.hid (hr.step hb0)
  have HBs := Lib.hid (hbs.step hb0)
  have HI := Lib.hid (hx.step hb0)
  have HN := Lib.hid (hn.step hb0)
  have HB := Lib.hid hb0
  clear hb0 hr hbs hx hn
  go_enter Try.func34, Try.ntmps34
  go_wp2_with fail
  generalize ((w.alloc (.cells #[.slice A xss.length c, .int .i64 lo, .int .i64 hi, .int .i64 ca] 34)).alloc (.cells #[.slice A' x.length c', .slice An nd.length cn] 60)) = W0 at k0 k1 k2 k3 j0 j1 HX HBs HI HN HB ⊢
  refine (check2_c A Ab xss bss c cb lo hi ca _ HX.out HBs.out hc hcb).mono ?_
  rw [HE.out]
  rintro e w1 ⟨rfl, hb⟩
  replace HX := Lib.hid (HX.out.step hb)
  replace HBs := Lib.hid (HBs.out.step hb)
  replace HI := Lib.hid (HI.out.step hb)
  replace HN := Lib.hid (HN.out.step hb)
  replace k0 := cell_of_ans hb k0
  replace k1 := cell_of_ans hb k1
  replace k2 := cell_of_ans hb k2
  replace k3 := cell_of_ans hb k3
  replace j0 := cell_of_ans hb j0
  replace j1 := cell_of_ans hb j1
  replace HB := Lib.hid (HB.out.trans (hb.mono HB.out.size))
  clear hb
  go_wp2_with fail
  refine (line_c A A' An xss x nd c c' cn lo hi ca _ (Nat.le_refl _) HX.out HI.out HN.out HV.out.1 hc hc' hcn).mono ?_
  rw [HL.out]
  rintro e w2 ⟨rfl, hb⟩
  replace HX := Lib.hid (HX.out.step hb)
  replace HBs := Lib.hid (HBs.out.step hb)
  replace HI := Lib.hid (HI.out.step hb)
  replace HN := Lib.hid (HN.out.step hb)
  replace k0 := cell_of_ans hb k0
  replace k1 := cell_of_ans hb k1
  replace k2 := cell_of_ans hb k2
  replace k3 := cell_of_ans hb k3
  replace j0 := cell_of_ans hb j0
  replace j1 := cell_of_ans hb j1
  replace HB := Lib.hid (HB.out.trans (hb.mono HB.out.size))
  clear hb
  go_wp2_with fail
  go_ret2
  exact ⟨rfl, HB.out⟩

set_option maxRecDepth 100000 in
set_option maxHeartbeats 4000000 in
theorem playable_ok (h : ballsErr xss lo hi ca bss = 0) (hl : lineB xss x nd = true) : Calls Try.prog 34 #[.agg #[.slice A xss.length c, .int .i64 lo, .int .i64 hi, .int .i64 ca], .slice Ab bss.length cb, .agg #[.slice A' x.length c', .slice An nd.length cn]] w (Ans w (.tuple #[.bool (enB x nd (endO ca xss.length bss lo hi (oilOf xss) bss.length)), .int .i64 0])) := by
  have HE := Lib.hid h
  have HL := Lib.hid hl
  have HV1 := Lib.hid (ballsOk h)
  have HV := Lib.hid (laneOk (ballsOk h).1)
  have HOK := Lib.hid (lineOk hl)
  have HLW := Lib.hid (lvl_oilOf (ballsOk h).1)
  clear h hl
  have hb0 : Below w.heap.size w ((w.alloc (.cells #[.slice A xss.length c, .int .i64 lo, .int .i64 hi, .int .i64 ca] 34)).alloc (.cells #[.slice A' x.length c', .slice An nd.length cn] 60)) := ((Below.refl _ _).alloc (Nat.le_refl _) _).alloc (by simp) _
  have k0 : ((w.alloc (.cells #[.slice A xss.length c, .int .i64 lo, .int .i64 hi, .int .i64 ca] 34)).alloc (.cells #[.slice A' x.length c', .slice An nd.length cn] 60)).cell? ⟨w.heap.size, 0, none⟩ = some (.slice A xss.length c) := by go_simp
  have k1 : ((w.alloc (.cells #[.slice A xss.length c, .int .i64 lo, .int .i64 hi, .int .i64 ca] 34)).alloc (.cells #[.slice A' x.length c', .slice An nd.length cn] 60)).cell? ⟨w.heap.size, 1, none⟩ = some (.int .i64 lo) := by go_simp
  have k2 : ((w.alloc (.cells #[.slice A xss.length c, .int .i64 lo, .int .i64 hi, .int .i64 ca] 34)).alloc (.cells #[.slice A' x.length c', .slice An nd.length cn] 60)).cell? ⟨w.heap.size, 2, none⟩ = some (.int .i64 hi) := by go_simp
  have k3 : ((w.alloc (.cells #[.slice A xss.length c, .int .i64 lo, .int .i64 hi, .int .i64 ca] 34)).alloc (.cells #[.slice A' x.length c', .slice An nd.length cn] 60)).cell? ⟨w.heap.size, 3, none⟩ = some (.int .i64 ca) := by go_simp
  have j0 : ((w.alloc (.cells #[.slice A xss.length c, .int .i64 lo, .int .i64 hi, .int .i64 ca] 34)).alloc (.cells #[.slice A' x.length c', .slice An nd.length cn] 60)).cell? ⟨w.heap.size + 1, 0, none⟩ = some (.slice A' x.length c') := by go_simp
  have j1 : ((w.alloc (.cells #[.slice A xss.length c, .int .i64 lo, .int .i64 hi, .int .i64 ca] 34)).alloc (.cells #[.slice A' x.length c', .slice An nd.length cn] 60)).cell? ⟨w.heap.size + 1, 1, none⟩ = some (.slice An nd.length cn) := by go_simp
  have HX := Lib.hid (hr.step hb0)
  have HBs := Lib.hid (hbs.step hb0)
  have HI := Lib.hid (hx.step hb0)
  have HN := Lib.hid (hn.step hb0)
  have HB := Lib.hid hb0
  clear hb0 hr hbs hx hn
  go_enter Try.func34, Try.ntmps34
  go_wp2_with fail
  generalize ((w.alloc (.cells #[.slice A xss.length c, .int .i64 lo, .int .i64 hi, .int .i64 ca] 34)).alloc (.cells #[.slice A' x.length c', .slice An nd.length cn] 60)) = W0 at k0 k1 k2 k3 j0 j1 HX HBs HI HN HB ⊢
  refine (check2_c A Ab xss bss c cb lo hi ca _ HX.out HBs.out hc hcb).mono ?_
  rw [HE.out]
  rintro e w1 ⟨rfl, hb⟩
  replace HX := Lib.hid (HX.out.step hb)
  replace HBs := Lib.hid (HBs.out.step hb)
  replace HI := Lib.hid (HI.out.step hb)
  replace HN := Lib.hid (HN.out.step hb)
  replace k0 := cell_of_ans hb k0
  replace k1 := cell_of_ans hb k1
  replace k2 := cell_of_ans hb k2
  replace k3 := cell_of_ans hb k3
  replace j0 := cell_of_ans hb j0
  replace j1 := cell_of_ans hb j1
  replace HB := Lib.hid (HB.out.trans (hb.mono HB.out.size))
  clear hb
  go_wp2_with fail
  refine (line_c A A' An xss x nd c c' cn lo hi ca _ (Nat.le_refl _) HX.out HI.out HN.out HV.out.1 hc hc' hcn).mono ?_
  rw [HL.out]
  rintro e w2 ⟨rfl, hb⟩
  replace HX := Lib.hid (HX.out.step hb)
  replace HBs := Lib.hid (HBs.out.step hb)
  replace HI := Lib.hid (HI.out.step hb)
  replace HN := Lib.hid (HN.out.step hb)
  replace k0 := cell_of_ans hb k0
  replace k1 := cell_of_ans hb k1
  replace k2 := cell_of_ans hb k2
  replace k3 := cell_of_ans hb k3
  replace j0 := cell_of_ans hb j0
  replace j1 := cell_of_ans hb j1
  replace HB := Lib.hid (HB.out.trans (hb.mono HB.out.size))
  clear hb
  go_wp2_with fail
  refine (fresh_c A xss c lo hi ca _ (Nat.le_refl _) HX.out hc HV.out.2.1 (fun k hk => (HV.out.2.2.1 k hk).2.2)).mono ?_
  rintro e w3 ⟨g, rfl, hg, hW3, hb3⟩
  have HW3 := Lib.hid hW3
  have HB3 := Lib.hid hb3
  have hgl := hW3.lt
  have hz3 := hb3.size
  clear hW3 hb3
  go_wp2_with fail
  go_loopw [29] (fun i wr => ∃ k : Nat, k ≤ bss.length ∧ i = .int .i64 k ∧ Worn wr g (.slice A xss.length c) lo hi ca (endO ca xss.length bss lo hi (oilOf xss) k) ∧ Below w2.heap.size w2 wr) (fun i _ => bss.length - (intOf i).toNat)
  case atStart => exact ⟨0, by omega, rfl, HW3.out, HB3.out⟩
  case round =>
    obtain ⟨k, hk, rfl, hWr, hbr⟩ := hrel
    have hzr := hbr.size
    have p0 := cell_of_ans hbr j0
    have p1 := cell_of_ans hbr j1
    by_cases h1 : k < bss.length
    · obtain ⟨bb0, off0, Ab', cb', rfl, hb0, hcl, hl1, hl2, hin⟩ := (HBs.out.below hbr).at_ h1
      have hball := HV1.out.2.2 k h1
      have h12 := (HV.out.2.2.1 0 HV.out.1).2.2
      have hv := HV.out.2.2.2.2
      have hlen : (rx bss k).length ≤ 8 := by rw [hball.1]; exact HV.out.2.1
      have hbd : ∀ j, j < (rx bss k).length → 0 ≤ ix (rx bss k) j ∧ ix (rx bss k) j < 12 := fun j hj => by
        have := hball.2 j (by rw [← hball.1]; exact hj)
        omega
      have H68 := Lib.hid (roll_c (B := w2.heap.size) g 69 cb' Ab' (rx bss k) (.slice A xss.length c) lo hi ca lo hi _ wr hWr (by omega) (by omega) hin enters69 (fun W => little_c lo hi W) hlen hbd hv.2.2.2.1 hv.2.2.2.2 hv.1 (by omega) (by omega) hv.2.2.1 (lvl_endO HLW.out (by omega) k))
      have HBALL := Lib.hid hball.1
      have HBR := Lib.hid hbr
      clear hball hbd hv hlen h12 hin hWr hbr
      go_wp2_with fail
      refine H68.out.mono ?_
      rintro e w5 ⟨rfl, hW5, hg5⟩
      have HG5 := Lib.hid hg5
      have HW5 := Lib.hid hW5
      clear hg5 hW5
      go_wp2_with fail
      go_roundw
      case rel =>
        refine ⟨k + 1, by omega, by go_num, ?_, HBR.out.trans (below_only HG5.out hg (by omega))⟩
        rw [endO_succ]
        have := HW5.out
        rwa [HBALL.out] at this
      case measure => simp [intOf]; omega
    · obtain rfl : k = bss.length := by omega
      have h12 := (HV.out.2.2.1 0 HV.out.1).2.2
      have hlen : x.length ≤ 8 := by rw [HOK.out.1.1]; exact HV.out.2.1
      have hbd : ∀ j, j < x.length → 0 ≤ ix x j ∧ ix x j < 12 := fun j hj => by
        have := HOK.out.1.2 j (by rw [← HOK.out.1.1]; exact hj)
        omega
      have H74 := Lib.hid (enough_c (B := w2.heap.size) g c' cn A' An x nd (.slice A xss.length c) lo hi ca _ wr hWr (by omega) (HI.out.below hbr) (HN.out.below hbr) (by rw [HOK.out.2.1, HOK.out.1.1]) hlen hbd)
      have HBR := Lib.hid hbr
      clear hWr hbr hbd hlen h12
      go_wp2_with fail
      refine H74.out.mono ?_
      rintro e w6 ⟨rfl, hb6⟩
      go_wp2_with fail
      go_ret2
      exact ⟨rfl, (HB.out.trans (HBR.out.mono HB.out.size)).trans (hb6.mono (Nat.le_trans HB.out.size hzr))⟩
end
end Go.Proofs.Ytgnonfomlgkpcaa
