/-
  Lines; how many balls a line does.
-/
import Derived.Test.YtgnonfomlgkpcaaL
namespace Go.Proofs.Ytgnonfomlgkpcaa
open Go.RowKit

/-- Is a line one of a lane? -/
noncomputable def lineB (xss : List (List Int)) (x nd : List Int) : Bool := ballB xss x && decide (nd.length = xss.length) && allB nd.length (fun k => inB (ix nd k) 0 100)

set_option maxHeartbeats 1000000 in
theorem line_c {B : Nat} (A A' An : Option Addr) (xss : List (List Int)) (x nd : List Int) (c c' cn : Nat) (lo hi ca : Int) (w : World) (hB : B ≤ w.heap.size) (hr : Grd B w A xss) (hx : Ints B w A' x) (hn : Ints B w An nd) (h0 : 0 < xss.length) (hc : xss.length ≤ c ∧ c ≤ 9223372036854775807) (hc' : x.length ≤ c' ∧ c' ≤ 9223372036854775807) (_hcn : nd.length ≤ cn ∧ cn ≤ 9223372036854775807) :
    Calls Try.prog 73 #[.agg #[.slice A xss.length c, .int .i64 lo, .int .i64 hi, .int .i64 ca], .agg #[.slice A' x.length c', .slice An nd.length cn]] w (Ans w (.bool (lineB xss x nd))) := by
  have hw1 : Below w.heap.size w ((w.alloc (.cells #[.slice A xss.length c, .int .i64 lo, .int .i64 hi, .int .i64 ca] 34)).alloc (.cells #[.slice A' x.length c', .slice An nd.length cn] 60)) := ((Below.refl _ _).alloc (Nat.le_refl _) _).alloc (by simp) _
  have hz1 := hw1.size
  have H1 := Lib.hid (ball_c (B := B) A A' xss x c c' lo hi ca _ (by omega) (hr.below (hw1.mono hB)) (hx.below (hw1.mono hB)) h0 hc hc')
  have HNd := Lib.hid hn
  clear hr hx hn
  cases hbl : ballB xss x
  · have HR : Hid (lineB xss x nd = false) := by show _ = _; simp [lineB, hbl]
    have HBL := Lib.hid hbl
    clear hbl
    go_enter Try.func73, Try.ntmps73
    go_wp2_with fail
    refine H1.out.mono ?_
    rw [HBL.out]
    rintro e w1 ⟨rfl, hb1⟩
    go_wp2_with fail
    go_ret
    exact ⟨ret_bool HR.out.symm, hw1.trans (hb1.mono hz1)⟩
  · have HBL := Lib.hid hbl
    clear hbl
    go_enter Try.func73, Try.ntmps73
    go_wp2_with fail
    refine H1.out.mono ?_
    rw [HBL.out]
    rintro e w1 ⟨rfl, hb1⟩
    have d0 := cell_of_ans hb1 (p := ⟨w.heap.size, 0, none⟩) (v := .slice A xss.length c) (by go_simp)
    have d1 := cell_of_ans hb1 (p := ⟨w.heap.size + 1, 1, none⟩) (v := .slice An nd.length cn) (by go_simp)
    have HB2 := Lib.hid (hw1.trans (hb1.mono hz1))
    clear hb1 hw1 hz1 H1
    by_cases h2 : nd.length = xss.length
    · have h2' : ((nd.length : Int) == (xss.length : Int)) = true := by simp [h2]
      have HR : Hid (lineB xss x nd = allB nd.length (fun k => inB (ix nd k) 0 100)) := by show _ = _; rw [lineB, HBL.out, decide_eq_true h2]; rfl
      have H2 := Lib.hid (allI (B := B) An nd.length cn 85 #[] #[] _ _ w1 enters85 (Nat.le_trans hB HB2.out.size) (by omega) (HNd.out.below (HB2.out.mono hB)).elems (right_level (B := B) (w := w1) (xs := nd)))
      clear h2
      go_wp2_with fail
      refine H2.out.mono ?_
      rintro e w2 ⟨rfl, hb3⟩
      go_wp2_with fail
      go_ret
      exact ⟨ret_bool HR.out.symm, HB2.out.trans (hb3.mono HB2.out.size)⟩
    · have h2' : ((nd.length : Int) == (xss.length : Int)) = false := by simp; omega
      have HR : Hid (lineB xss x nd = false) := by show _ = _; simp [lineB, h2]
      go_wp2_with fail
      go_ret
      exact ⟨ret_bool HR.out.symm, HB2.out⟩

theorem lineOk {xss : List (List Int)} {x nd : List Int} (h : lineB xss x nd = true) : (x.length = xss.length ∧ ∀ j, j < xss.length → 0 ≤ ix x j ∧ ix x j < (rx xss 0).length) ∧ nd.length = xss.length ∧ ∀ j, j < xss.length → 0 ≤ ix nd j ∧ ix nd j ≤ 100 := by
  simp only [lineB, ballB, Bool.and_eq_true, decide_eq_true_eq, allB_iff] at h
  obtain ⟨⟨⟨a1, a2⟩, a3⟩, a4⟩ := h
  refine ⟨⟨a1, fun j hj => ?_⟩, a3, fun j hj => inB_le (a4 j (by omega))⟩
  have := inB_le (a2 j (by omega))
  omega

/-- Is a line playable on that oil? -/
def enB (x nd : List Int) (o : Nat → Int) : Bool := (List.range x.length).all (enAt x nd o)
/-- The oil behind k of the line's own balls, as little as can be. -/
def ownO (ca : Int) (x : List Int) (lo hi : Int) (o : Nat → Int) : Nat → (Nat → Int)
  | 0 => o
  | k + 1 => rollW ca x (fun _ => lo) (fun _ => hi) (ownO ca x lo hi o k) (List.range x.length)
theorem lvl_ownO {ca : Int} {x : List Int} {lo hi : Int} {o : Nat → Int} (h : Lvl o) (hw : 0 ≤ hi) : ∀ k, Lvl (ownO ca x lo hi o k)
  | 0 => h
  | k + 1 => (lvl_ownO h hw k).roll (fun _ => hw) _
/-- How many balls from the k-th on, m at most, a line does. -/
def lastsFrom (ca : Int) (x nd : List Int) (lo hi : Int) (o : Nat → Int) : Nat → Nat → Nat
  | _, 0 => 0
  | k, m + 1 => if enB x nd (ownO ca x lo hi o k) then lastsFrom ca x nd lo hi o (k + 1) m + 1 else 0

def LastsPost (w : World) (err : Int) (n : Int) (e : Ending) (w' : World) : Prop :=
  (err ≠ 0 ∧ e = .returned (.tuple #[.int .i64 0, .int .i64 err]) ∧ Below w.heap.size w w') ∨ (err = 0 ∧ e = .returned (.tuple #[.int .i64 n, .int .i64 0]) ∧ Below w.heap.size w w')
noncomputable def lastsErr (xss : List (List Int)) (lo hi ca : Int) (x nd : List Int) : Int := if laneErr xss lo hi ca = 0 then (if lineB xss x nd then 0 else 2) else laneErr xss lo hi ca

theorem ret_ie {a b : Int} {u : Int} (h : a = b) : Ending.returned (.tuple #[.int .i64 a, .int .i64 u]) = .returned (.tuple #[.int .i64 b, .int .i64 u]) := by rw [h]

set_option maxRecDepth 100000 in
set_option maxHeartbeats 4000000 in
theorem lasts_c {B : Nat} (A A' An : Option Addr) (xss : List (List Int)) (x nd : List Int) (c c' cn : Nat) (lo hi ca : Int) (w : World) (hB : B ≤ w.heap.size) (hr : Grd B w A xss) (hx : Ints B w A' x) (hn : Ints B w An nd) (hc : xss.length ≤ c ∧ c ≤ 9223372036854775807) (hc' : x.length ≤ c' ∧ c' ≤ 9223372036854775807) (hcn : nd.length ≤ cn ∧ cn ≤ 9223372036854775807) :
    Calls Try.prog 36 #[.agg #[.slice A xss.length c, .int .i64 lo, .int .i64 hi, .int .i64 ca], .agg #[.slice A' x.length c', .slice An nd.length cn]] w (LastsPost w (lastsErr xss lo hi ca x nd) (lastsFrom ca x nd lo hi (oilOf xss) 0 20)) := by
  have hw1 : Below w.heap.size w ((w.alloc (.cells #[.slice A xss.length c, .int .i64 lo, .int .i64 hi, .int .i64 ca] 34)).alloc (.cells #[.slice A' x.length c', .slice An nd.length cn] 60)) := ((Below.refl _ _).alloc (Nat.le_refl _) _).alloc (by simp) _
  have hz1 := hw1.size
  have H1 := Lib.hid (checkLane_c (B := B) A xss c lo hi ca _ (by omega) (hr.below (hw1.mono hB)) hc)
  have HRr := Lib.hid hr
  have HX := Lib.hid hx
  have HNd := Lib.hid hn
  clear hr hx hn
  by_cases h : laneErr xss lo hi ca = 0
  · have HE := Lib.hid h
    clear h
    have HV := Lib.hid (laneOk HE.out)
    have HLW := Lib.hid (lvl_oilOf HE.out)
    go_enter Try.func36, Try.ntmps36
    go_wp2_with fail
    refine H1.out.mono ?_
    rw [HE.out]
    rintro e w1 ⟨rfl, hb1⟩
    have d0 := cell_of_ans hb1 (p := ⟨w.heap.size, 0, none⟩) (v := .slice A xss.length c) (by go_simp)
    have d1 := cell_of_ans hb1 (p := ⟨w.heap.size, 1, none⟩) (v := .int .i64 lo) (by go_simp)
    have d2 := cell_of_ans hb1 (p := ⟨w.heap.size, 2, none⟩) (v := .int .i64 hi) (by go_simp)
    have d3 := cell_of_ans hb1 (p := ⟨w.heap.size, 3, none⟩) (v := .int .i64 ca) (by go_simp)
    have d4 := cell_of_ans hb1 (p := ⟨w.heap.size + 1, 0, none⟩) (v := .slice A' x.length c') (by go_simp)
    have d5 := cell_of_ans hb1 (p := ⟨w.heap.size + 1, 1, none⟩) (v := .slice An nd.length cn) (by go_simp)
    have hz2 : w.heap.size + 1 + 1 ≤ w1.heap.size := by have := hb1.size; simp at this; omega
    have HB2 := Lib.hid (hw1.trans (hb1.mono hz1))
    clear hb1 hw1 hz1 H1
    have H2 := Lib.hid (line_c (B := B) A A' An xss x nd c c' cn lo hi ca w1 (by omega) (HRr.out.below (HB2.out.mono hB)) (HX.out.below (HB2.out.mono hB)) (HNd.out.below (HB2.out.mono hB)) HV.out.1 hc hc' hcn)
    cases hln : lineB xss x nd
    · have HR : Hid (lastsErr xss lo hi ca x nd = 2) := by show _ = _; rw [lastsErr, if_pos HE.out, hln]; rfl
      have HLN := Lib.hid hln
      clear hln
      go_wp2_with fail
      refine H2.out.mono ?_
      rw [HLN.out]
      rintro e w2 ⟨rfl, hb3⟩
      go_wp2_with fail
      go_ret2
      refine .inl ⟨by rw [HR.out]; decide, by rw [HR.out]; rfl, HB2.out.trans (hb3.mono HB2.out.size)⟩
    · have HR : Hid (lastsErr xss lo hi ca x nd = 0) := by show _ = _; rw [lastsErr, if_pos HE.out, hln]; rfl
      have HOK := Lib.hid (lineOk hln)
      have HLN := Lib.hid hln
      clear hln
      go_wp2_with fail
      refine H2.out.mono ?_
      rw [HLN.out]
      rintro e w2 ⟨rfl, hb3⟩
      have e0 := cell_of_ans hb3 d0
      have e1 := cell_of_ans hb3 d1
      have e2 := cell_of_ans hb3 d2
      have e3 := cell_of_ans hb3 d3
      have e4 := cell_of_ans hb3 d4
      have e5 := cell_of_ans hb3 d5
      have hz3 := hb3.size
      have HB3 := Lib.hid (HB2.out.trans (hb3.mono HB2.out.size))
      clear hb3 d0 d1 d2 d3 d4 d5 HB2 H2
      have H5 := Lib.hid (fresh_c (B := B) A xss c lo hi ca w2 (by omega) (HRr.out.below (HB3.out.mono hB)) hc HV.out.2.1 (fun k hk => (HV.out.2.2.1 k hk).2.2))
      go_wp2_with fail
      refine H5.out.mono ?_
      rintro e w5 ⟨g, rfl, hg, hW5, hb5⟩
      have e4' := cell_of_ans hb5 e4
      have e5' := cell_of_ans hb5 e5
      have hz5 := hb5.size
      have HB5 := Lib.hid (HB3.out.trans (hb5.mono (by omega)))
      have HW5 := Lib.hid hW5
      have hgl := hW5.lt
      clear hb5 e0 e1 e2 e3 e4 e5 HB3 H5 hW5
      go_wp2_with fail
      go_loopw [20] (fun i wr => ∃ k : Nat, k ≤ 20 ∧ i = .int .i64 k ∧ Worn wr g (.slice A xss.length c) lo hi ca (ownO ca x lo hi (oilOf xss) k) ∧ KpG w5.heap.size g w5 wr ∧ lastsFrom ca x nd lo hi (oilOf xss) 0 20 = k + lastsFrom ca x nd lo hi (oilOf xss) k (20 - k)) (fun i _ => 20 - (intOf i).toNat)
      case atStart => exact ⟨0, by omega, rfl, HW5.out, KpG.refl _ _ _, by simp⟩
      case round =>
        obtain ⟨k, hk, rfl, hWr, hKr, hls⟩ := hrel
        have HLS := Lib.hid hls
        have hzr := hKr.1
        have hbr : Below B w wr := (HB5.out.mono hB).trans (hKr.below (by omega) (by omega))
        have i4 := hKr.cell e4' (by dsimp only; omega) (by dsimp only; omega)
        have i5 := hKr.cell e5' (by dsimp only; omega) (by dsimp only; omega)
        clear hls
        by_cases h1 : k < 20
        · have h12 := (HV.out.2.2.1 0 HV.out.1).2.2
          have hv := HV.out.2.2.2.2
          have hlen : x.length ≤ 8 := by rw [HOK.out.1.1]; exact HV.out.2.1
          have hbd : ∀ j, j < x.length → 0 ≤ ix x j ∧ ix x j < 12 := fun j hj => by
            have := HOK.out.1.2 j (by rw [← HOK.out.1.1]; exact hj)
            omega
          have H74 := Lib.hid (enough_c (B := B) g c' cn A' An x nd (.slice A xss.length c) lo hi ca _ wr hWr (by omega) (HX.out.below hbr) (HNd.out.below hbr) (by rw [HOK.out.2.1, HOK.out.1.1]) hlen hbd)
          cases hen : enB x nd (ownO ca x lo hi (oilOf xss) k)
          · have HEN := Lib.hid hen
            have HKr := Lib.hid hKr
            have HF : Hid (lastsFrom ca x nd lo hi (oilOf xss) 0 20 = k) := by
              show _ = _
              rw [HLS.out, show 20 - k = (19 - k) + 1 by omega, lastsFrom, hen]
              simp
            clear hen hWr hKr hbr hbd hlen hv h12
            go_wp2_with fail
            refine H74.out.mono ?_
            rw [show (List.range x.length).all (enAt x nd (ownO ca x lo hi (oilOf xss) k)) = false from HEN.out]
            rintro e w6 ⟨rfl, hb6⟩
            go_wp2_with fail
            go_ret2
            refine .inr ⟨HR.out, ret_ie (by rw [HF.out]), ?_⟩
            exact (HB5.out.trans (HKr.out.below (by omega) (by omega))).trans (hb6.mono (by omega))
          · have HEN := Lib.hid hen
            have HF : Hid (lastsFrom ca x nd lo hi (oilOf xss) 0 20 = (k + 1 : Nat) + lastsFrom ca x nd lo hi (oilOf xss) (k + 1) (20 - (k + 1))) := by
              show _ = _
              rw [HLS.out, show 20 - k = (20 - (k + 1)) + 1 by omega, lastsFrom, hen]
              simp
              omega
            have H68 := Lib.hid (fun (W : World) (hW : Below wr.heap.size wr W) => roll_c (B := B) g 69 c' A' x (.slice A xss.length c) lo hi ca lo hi _ W (hWr.below hW hWr.lt) (by have := hW.size; omega) (by omega) (HX.out.below (hbr.trans (hW.mono (by omega)))) enters69 (fun W => little_c lo hi W) hlen hbd hv.2.2.2.1 hv.2.2.2.2 hv.1 (by omega) (by omega) hv.2.2.1 (lvl_ownO HLW.out (by omega) k))
            have HKr := Lib.hid hKr
            clear hen hWr hKr hbr hbd hlen hv h12
            go_wp2_with fail
            refine H74.out.mono ?_
            rw [show (List.range x.length).all (enAt x nd (ownO ca x lo hi (oilOf xss) k)) = true from HEN.out]
            rintro e w6 ⟨rfl, hb6⟩
            have i4' := cell_of_ans hb6 i4
            have HB6 := Lib.hid hb6
            clear hb6
            go_wp2_with fail
            refine (H68.out w6 HB6.out).mono ?_
            rintro e w7 ⟨rfl, hW7, hg7⟩
            have HW7 := Lib.hid hW7
            have HG7 := Lib.hid hg7
            clear hW7 hg7
            go_wp2_with fail
            go_roundw
            case rel =>
              refine ⟨k + 1, by omega, by go_num, HW7.out, ?_, HF.out⟩
              have hz6 := HB6.out.size
              exact (HKr.out.trans ⟨hz6, HB6.out.os, HB6.out.tape, HB6.out.output, fun j hj _ => HB6.out.block j (by omega)⟩).trans (KpG.of_grown HG7.out (by omega))
            case measure => simp [intOf]; omega
        · obtain rfl : k = 20 := by omega
          have HKr := Lib.hid hKr
          clear hWr hKr hbr
          go_wp2_with fail
          go_ret2
          refine .inr ⟨HR.out, ret_ie (by rw [HLS.out]; simp [lastsFrom]), ?_⟩
          exact HB5.out.trans (HKr.out.below (by omega) (by omega))
  · have h1' : (laneErr xss lo hi ca != 0) = true := by simp [h]
    have HR : Hid (lastsErr xss lo hi ca x nd = laneErr xss lo hi ca) := by show _ = _; rw [lastsErr, if_neg h]
    have HE := Lib.hid h
    clear h
    go_enter Try.func36, Try.ntmps36
    go_wp2_with fail
    refine H1.out.mono ?_
    rintro e w1 ⟨rfl, hb1⟩
    go_wp2_with fail
    go_ret2
    refine .inl ⟨by rw [HR.out]; exact HE.out, by rw [HR.out]; rfl, hw1.trans (hb1.mono hz1)⟩
end Go.Proofs.Ytgnonfomlgkpcaa
