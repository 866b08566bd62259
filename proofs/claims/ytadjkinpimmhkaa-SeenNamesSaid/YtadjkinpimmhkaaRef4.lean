/-
  The reference's Many and Explains; the law's Thin, fault, asked, explained.
-/
import Derived.Test.YtadjkinpimmhkaaSame
import Derived.Test.YtadjkinpimmhkaaApi
namespace Go.Proofs.Ytadjkinpimmhkaa
open Go.RowKit
set_option linter.unusedSimpArgs false
set_option linter.unusedVariables false

theorem gamesR_len (ws : List Wd) (offl : List Int) (f : Int) : (gamesR ws offl f).length ≤ 66 := by
  unfold gamesR
  exact Nat.le_trans (List.length_filter_le _ _) (by rw [framesL_len]; omega)
theorem manyR_le (ws : List Wd) (offl : List Int) : ∀ k, k ≤ 5 → manyR ws offl k ≤ 66 ^ k
  | 0, _ => Nat.le_refl _
  | k + 1, h => by
    have h1 := manyR_le ws offl k (by omega)
    rw [manyR, Nat.pow_succ]
    exact Nat.mul_le_mul h1 (gamesR_len _ _ _)
theorem manyR_bd (ws : List Wd) (offl : List Int) {k : Nat} (h : k ≤ 5) : manyR ws offl k ≤ 1252332576 :=
  Nat.le_trans (manyR_le ws offl k h) (Nat.le_trans (Nat.pow_le_pow_right (by omega) h) (by decide))

section
variable (A At : Option Addr) (ws : List Wd) (offl : List Int) (c ct m : Nat) (w : World) (hw : Wds w.heap.size w A ws) (ht : Ints w.heap.size w At offl) (hc : ws.length ≤ c ∧ c ≤ 9223372036854775807) (hct : offl.length ≤ ct ∧ ct ≤ 9223372036854775807) (hl : ws.length ≤ 1000000)
include hw ht hc hct hl
set_option maxRecDepth 100000 in
set_option maxHeartbeats 8000000 in
theorem many42_c (hok : ∀ k, k < ws.length → wordB (m : Int) (wx ws k) = true) (hm : m ≤ 5) : Calls Try.prog 42 #[.agg #[.int .i64 (m : Int), .slice A ws.length c], .slice At offl.length ct] w (Ans w (.int .i64 (manyR ws offl m : Nat))) := by
  have hb0 : Below w.heap.size w (w.alloc (.cells #[.int .i64 (m : Int), .slice A ws.length c] 24)) := (Below.refl _ _).alloc (Nat.le_refl _) _
  have k0 : (w.alloc (.cells #[.int .i64 (m : Int), .slice A ws.length c] 24)).cell? ⟨w.heap.size, 0, none⟩ = some (.int .i64 (m : Int)) := by simp
  have k1 : (w.alloc (.cells #[.int .i64 (m : Int), .slice A ws.length c] 24)).cell? ⟨w.heap.size, 1, none⟩ = some (.slice A ws.length c) := by simp
  have HB0 := Lib.hid hb0
  have HW := Lib.hid (hw.step hb0)
  have HT := Lib.hid (ht.step hb0)
  have HOK := Lib.hid hok
  clear hb0 hw ht hok
  go_enter Try.func42, Try.ntmps42
  go_wp2_with fail
  generalize w.alloc (.cells #[.int .i64 (m : Int), .slice A ws.length c] 24) = W0 at k0 k1 HB0 HW HT ⊢
  go_loopw [6, 5] (fun i v wr => ∃ k : Nat, k ≤ m ∧ i = .int .i64 k ∧ v = .int .i64 (manyR ws offl k : Nat) ∧ Below W0.heap.size W0 wr) (fun i _ _ => m - (intOf i).toNat)
  case atStart => exact ⟨0, by omega, rfl, rfl, Below.refl _ _⟩
  case round =>
    obtain ⟨k, hk, rfl, rfl, hbr⟩ := hrel
    have q0 := cell_of_ans hbr k0
    have q1 := cell_of_ans hbr k1
    have HBr := Lib.hid hbr
    have hzr := hbr.size
    by_cases h1 : k < m
    · have hki : (k : Int) < (m : Int) := by omega
      have HG := Lib.hid (games60_c A At ws offl c ct m (m : Int) (k : Int) wr (HW.out.step hbr) (HT.out.step hbr) hc hct hl HOK.out)
      have hml := gamesR_len ws offl (k : Int)
      have hpb := manyR_bd ws offl (k := k) (by omega)
      have hpb' := manyR_bd ws offl (k := k + 1) (by omega)
      have HS : Hid (manyR ws offl (k + 1) = manyR ws offl k * (gamesR ws offl (k : Int)).length) := rfl
      rw [HS.out] at hpb'
      generalize gamesR ws offl (k : Int) = gl at *
      generalize manyR ws offl k = pk at *
      have hq0 : (0 : Int) ≤ (pk : Int) * (gl.length : Int) := by rw [← Int.natCast_mul]; omega
      have hq1 : (pk : Int) * (gl.length : Int) ≤ 1252332576 := by rw [← Int.natCast_mul]; omega
      clear hbr hpb'
      go_wp2_with fail
      refine HG.out.mono ?_
      rintro e w3 ⟨A3, c3, rfl, hc3, hg3, hb3⟩
      have HB3 := Lib.hid (HBr.out.trans (hb3.mono hzr))
      clear hb3 hg3
      go_wp2_with fail
      go_roundw
      case rel => exact ⟨k + 1, by omega, by go_num, by rw [HS.out, Int.natCast_mul], HB3.out⟩
      case measure => simp [intOf]; omega
    · obtain rfl : k = m := by omega
      clear hbr
      go_wp2_with fail
      go_ret
      exact ⟨rfl, HB0.out.trans (HBr.out.mono HB0.out.size)⟩

set_option maxRecDepth 100000 in
set_option maxHeartbeats 4000000 in
theorem explains25_c (hok : ∀ k, k < ws.length → wordB (m : Int) (wx ws k) = true) (hm : m ≤ 5) : Calls Try.prog 25 #[.agg #[.int .i64 (m : Int), .slice A ws.length c], .slice At offl.length ct] w (Ans w (.bool (explB (m : Int) ws (offT offl)))) := by
  have hb0 : Below w.heap.size w (w.alloc (.cells #[.int .i64 (m : Int), .slice A ws.length c] 24)) := (Below.refl _ _).alloc (Nat.le_refl _) _
  have HM := Lib.hid (many42_c A At ws offl c ct m (w.alloc (.cells #[.int .i64 (m : Int), .slice A ws.length c] 24)) (hw.step hb0) (ht.step hb0) hc hct hl hok hm)
  have HE : Hid (explB (m : Int) ws (offT offl) = decide (0 < manyR ws offl m)) := by show _ = _; rw [← manyP_explB, manyR_eq hok]
  have HB0 := Lib.hid hb0
  generalize manyR ws offl m = n at *
  clear hb0 hw ht hok
  by_cases h0 : 0 < n
  · have h0i : (0 : Int) < (n : Int) := by omega
    have HR : Hid (explB (m : Int) ws (offT offl) = true) := by show _ = _; rw [HE.out]; exact decide_eq_true h0
    go_enter Try.func25, Try.ntmps25
    go_wp2_with fail
    refine HM.out.mono ?_
    rintro e w1 ⟨rfl, hb1⟩
    go_wp2_with fail
    go_ret
    exact ⟨ret_bool HR.out.symm, HB0.out.trans (hb1.mono HB0.out.size)⟩
  · have h0i : ¬ (0 : Int) < (n : Int) := by omega
    have HR : Hid (explB (m : Int) ws (offT offl) = false) := by show _ = _; rw [HE.out]; exact decide_eq_false h0
    go_enter Try.func25, Try.ntmps25
    go_wp2_with fail
    refine HM.out.mono ?_
    rintro e w1 ⟨rfl, hb1⟩
    go_wp2_with fail
    go_ret
    exact ⟨ret_bool HR.out.symm, HB0.out.trans (hb1.mono HB0.out.size)⟩
end

def thinB (ws : List Wd) (ts : List Int) : Bool := decide (ws.length ≤ 35) && decide (ts.length ≤ 8)
set_option maxHeartbeats 1000000 in
theorem thin_c (A At : Option Addr) (ws : List Wd) (ts : List Int) (c ct : Nat) (frn : Int) (w : World) : Calls Try.prog 17 #[.agg #[.int .i64 frn, .slice A ws.length c], .slice At ts.length ct] w (Ans w (.bool (thinB ws ts))) := by
  have hb0 : Below w.heap.size w (w.alloc (.cells #[.int .i64 frn, .slice A ws.length c] 24)) := (Below.refl _ _).alloc (Nat.le_refl _) _
  have HB0 := Lib.hid hb0
  clear hb0
  by_cases h1 : ws.length ≤ 35
  · have h1i : (ws.length : Int) ≤ 35 := by omega
    by_cases h2 : ts.length ≤ 8
    · have h2i : (ts.length : Int) ≤ 8 := by omega
      go_enter Try.func17, Try.ntmps17
      go_wp2_with fail
      go_ret
      exact ⟨ret_bool (by simp [thinB, h1, h2]), HB0.out⟩
    · have h2i : ¬ (ts.length : Int) ≤ 8 := by omega
      go_enter Try.func17, Try.ntmps17
      go_wp2_with fail
      go_ret
      exact ⟨ret_bool (by simp [thinB, h1, h2]), HB0.out⟩
  · have h1i : ¬ (ws.length : Int) ≤ 35 := by omega
    go_enter Try.func17, Try.ntmps17
    go_wp2_with fail
    go_ret
    exact ⟨ret_bool (by simp [thinB, h1]), HB0.out⟩

set_option maxHeartbeats 1000000 in
theorem fault23_c (A : Option Addr) (ws : List Wd) (c : Nat) (frn : Int) (w : World) (hw : Wds w.heap.size w A ws) (hc : ws.length ≤ c ∧ c ≤ 9223372036854775807) : Calls Try.prog 23 #[.agg #[.int .i64 frn, .slice A ws.length c]] w (Ans w (.int .i64 (laneErr frn ws))) := by
  have hb0 : Below w.heap.size w (w.alloc (.cells #[.int .i64 frn, .slice A ws.length c] 24)) := (Below.refl _ _).alloc (Nat.le_refl _) _
  have HF := Lib.hid (fault_c A ws c frn _ (hw.step hb0) hc)
  have HB0 := Lib.hid hb0
  clear hb0 hw
  generalize laneErr frn ws = er at *
  go_enter Try.func23, Try.ntmps23
  go_wp2_with fail
  refine HF.out.mono ?_
  rintro e w1 ⟨rfl, hb1⟩
  go_wp2_with fail
  go_ret
  exact ⟨rfl, HB0.out.trans (hb1.mono HB0.out.size)⟩

section
variable (A At : Option Addr) (ws : List Wd) (ts : List Int) (c ct : Nat) (frn : Int) (w : World) (hw : Wds w.heap.size w A ws) (ht : Ints w.heap.size w At ts) (hc : ws.length ≤ c ∧ c ≤ 9223372036854775807) (hct : ts.length ≤ ct ∧ ct ≤ 9223372036854775807)
include hw ht hc hct
set_option maxRecDepth 100000 in
set_option maxHeartbeats 4000000 in
theorem asked24_c : Calls Try.prog 24 #[.agg #[.int .i64 frn, .slice A ws.length c], .slice At ts.length ct] w (Ans w (.int .i64 (askErr frn ws ts))) := by
  have hb0 : Below w.heap.size w (w.alloc (.cells #[.int .i64 frn, .slice A ws.length c] 24)) := (Below.refl _ _).alloc (Nat.le_refl _) _
  have HF := Lib.hid (fault23_c A ws c frn _ (hw.step hb0) hc)
  have HT := Lib.hid (ht.step hb0)
  have HB0 := Lib.hid hb0
  have HD : Hid (askErr frn ws ts = if laneErr frn ws = 0 then (if riseB ts then 0 else 2) else laneErr frn ws) := rfl
  clear hw ht hb0
  generalize laneErr frn ws = er at *
  by_cases h0 : er = 0
  · subst h0
    go_enter Try.func24, Try.ntmps24
    go_wp2_with fail
    refine HF.out.mono ?_
    rintro e w1 ⟨rfl, hb1⟩
    have HR := Lib.hid (rising_c (B := w1.heap.size) At ts ct w1 (Nat.le_refl _) (HT.out.step hb1) hct)
    have HB1 : Hid (Below w.heap.size w w1) := HB0.out.trans (hb1.mono HB0.out.size)
    clear hb1
    cases hr : riseB ts
    · rw [hr] at HR
      have HE : Hid (askErr frn ws ts = 2) := by show _ = _; rw [HD.out, hr]; rfl
      clear hr
      go_wp2_with fail
      refine HR.out.mono ?_
      rintro e w2 ⟨rfl, hb2⟩
      go_wp2_with fail
      go_ret
      exact ⟨ret_int HE.out.symm, HB1.out.trans (hb2.mono HB1.out.size)⟩
    · rw [hr] at HR
      have HE : Hid (askErr frn ws ts = 0) := by show _ = _; rw [HD.out, hr]; rfl
      clear hr
      go_wp2_with fail
      refine HR.out.mono ?_
      rintro e w2 ⟨rfl, hb2⟩
      go_wp2_with fail
      go_ret
      exact ⟨ret_int HE.out.symm, HB1.out.trans (hb2.mono HB1.out.size)⟩
  · have hne : (er != 0) = true := by simp [h0]
    have HE : Hid (askErr frn ws ts = er) := by show _ = _; rw [HD.out, if_neg h0]
    clear h0
    go_enter Try.func24, Try.ntmps24
    go_wp2_with fail
    refine HF.out.mono ?_
    rintro e w1 ⟨rfl, hb1⟩
    go_wp2_with fail
    go_ret
    exact ⟨ret_int HE.out.symm, HB0.out.trans (hb1.mono HB0.out.size)⟩
set_option maxRecDepth 100000 in
set_option maxHeartbeats 4000000 in
theorem explained27_c : Calls Try.prog 27 #[.agg #[.int .i64 frn, .slice A ws.length c], .slice At ts.length ct] w (Ans w (.int .i64 (exErr frn ws ts))) := by
  have hb0 : Below w.heap.size w (w.alloc (.cells #[.int .i64 frn, .slice A ws.length c] 24)) := (Below.refl _ _).alloc (Nat.le_refl _) _
  have k0 : (w.alloc (.cells #[.int .i64 frn, .slice A ws.length c] 24)).cell? ⟨w.heap.size, 0, none⟩ = some (.int .i64 frn) := by simp
  have k1 : (w.alloc (.cells #[.int .i64 frn, .slice A ws.length c] 24)).cell? ⟨w.heap.size, 1, none⟩ = some (.slice A ws.length c) := by simp
  have HA := Lib.hid (asked24_c A At ws ts c ct frn _ (hw.step hb0) (ht.step hb0) hc hct)
  have HW := Lib.hid (hw.step hb0)
  have HT := Lib.hid (ht.step hb0)
  have HB0 := Lib.hid hb0
  have HD : Hid (exErr frn ws ts = if askErr frn ws ts = 0 then (if explB frn ws (offT ts) then 0 else 9) else askErr frn ws ts) := rfl
  have HQ := Lib.hid (fun h : askErr frn ws ts = 0 => laneOk (askOk h).1)
  have hHW := hw.step hb0
  have hHT := ht.step hb0
  clear hw ht hb0 hHW hHT
  generalize askErr frn ws ts = er at *
  by_cases h0 : er = 0
  · obtain ⟨h30, hf1, hf5, hok⟩ := HQ.out h0
    obtain ⟨m, rfl⟩ : ∃ m : Nat, frn = (m : Int) := ⟨frn.toNat, by omega⟩
    have HOK := Lib.hid hok
    subst h0
    clear hok HQ
    go_enter Try.func27, Try.ntmps27
    go_wp2_with fail
    generalize w.alloc (.cells #[.int .i64 (m : Int), .slice A ws.length c] 24) = W0 at k0 k1 HA HW HT HB0 ⊢
    refine HA.out.mono ?_
    rintro e w1 ⟨rfl, hb1⟩
    replace k0 := cell_of_ans hb1 k0
    replace k1 := cell_of_ans hb1 k1
    have HE := Lib.hid (explains25_c A At ws ts c ct m w1 (HW.out.step hb1) (HT.out.step hb1) hc hct (by omega) HOK.out (by omega))
    have HB1 : Hid (Below w.heap.size w w1) := HB0.out.trans (hb1.mono HB0.out.size)
    clear hb1
    cases hx : explB (m : Int) ws (offT ts)
    · rw [hx] at HE
      have HR : Hid (exErr (m : Int) ws ts = 9) := by show _ = _; rw [HD.out, hx]; rfl
      clear hx
      go_wp2_with fail
      refine HE.out.mono ?_
      rintro e w2 ⟨rfl, hb2⟩
      go_wp2_with fail
      go_ret
      exact ⟨ret_int HR.out.symm, HB1.out.trans (hb2.mono HB1.out.size)⟩
    · rw [hx] at HE
      have HR : Hid (exErr (m : Int) ws ts = 0) := by show _ = _; rw [HD.out, hx]; rfl
      clear hx
      go_wp2_with fail
      refine HE.out.mono ?_
      rintro e w2 ⟨rfl, hb2⟩
      go_wp2_with fail
      go_ret
      exact ⟨ret_int HR.out.symm, HB1.out.trans (hb2.mono HB1.out.size)⟩
  · have hne : (er != 0) = true := by simp [h0]
    have HR : Hid (exErr frn ws ts = er) := by show _ = _; rw [HD.out, if_neg h0]
    clear h0 HQ
    go_enter Try.func27, Try.ntmps27
    go_wp2_with fail
    refine HA.out.mono ?_
    rintro e w1 ⟨rfl, hb1⟩
    go_wp2_with fail
    go_ret
    exact ⟨ret_int HR.out.symm, HB0.out.trans (hb1.mono HB0.out.size)⟩
end
end Go.Proofs.Ytadjkinpimmhkaa
