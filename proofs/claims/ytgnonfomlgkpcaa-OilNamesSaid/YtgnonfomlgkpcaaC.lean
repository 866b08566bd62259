/-
  The walks of what checks lanes, balls and lines.
-/
import Derived.Test.YtgnonfomlgkpcaaAll
import Derived.Shelf.Abstract
namespace Go.Proofs.Ytgnonfomlgkpcaa
open Go.RowKit

theorem Grd.elems {B : Nat} {w : World} {A : Option Addr} {xss : List (List Int)} (h : Grd B w A xss) : ∃ vs, Elems B w A xss.length vs ∧ ∀ k, k < xss.length → IsInts B w (vs k) (rx xss k) := by
  by_cases h0 : 0 < xss.length
  · obtain ⟨b, off, rfl, hb, hc⟩ := h h0
    refine ⟨fun k => ((w.cell? ⟨b, off + k, none⟩).getD undef), fun _ => ⟨b, off, rfl, hb, fun k hk => ?_⟩, fun k hk => ?_⟩
    · obtain ⟨v, hv, _⟩ := hc k hk
      simp [hv]
    · obtain ⟨v, hv, hi⟩ := hc k hk
      simpa [hv] using hi
  · exact ⟨fun _ => undef, fun hp => absurd hp h0, fun k hk => by omega⟩

theorem enters53 : Enters 53 := fun _ _ => enters_of Try.func53 (by kernel_rfl) rfl _ _
theorem enters55 : Enters 55 := fun _ _ => enters_of Try.func55 (by kernel_rfl) rfl _ _
theorem enters58 : Enters 58 := fun _ _ => enters_of Try.func58 (by kernel_rfl) rfl _ _
theorem enters59 : Enters 59 := fun _ _ => enters_of Try.func59 (by kernel_rfl) rfl _ _
theorem enters85 : Enters 85 := fun _ _ => enters_of Try.func85 (by kernel_rfl) rfl _ _
theorem enters86 : Enters 86 := fun _ _ => enters_of Try.func86 (by kernel_rfl) rfl _ _
theorem enters95 : Enters 95 := fun _ _ => enters_of Try.func95 (by kernel_rfl) rfl _ _
theorem enters73 : Enters 73 := fun _ _ => enters_of Try.func73 (by kernel_rfl) rfl _ _

theorem push0 (x : Value) (cs : Array Value) : ((#[] : Array Value).push x ++ cs) = #[x] ++ cs := rfl
theorem push00 (x : Value) : ((#[] : Array Value).push x ++ #[]) = #[x] := rfl
theorem push10 (y x : Value) : ((#[y] : Array Value).push x ++ #[]) = #[y, x] := rfl

theorem right_few {B : Nat} {w : World} {xss : List (List Int)} {vs : Nat → Value} (hv : ∀ k, k < xss.length → IsInts B w (vs k) (rx xss k)) :
    Right B w xss.length 53 #[] #[] vs (fun k => decide ((rx xss k).length ≤ 12)) := fun k hk W _ => by
  obtain ⟨A, c, hvk, _, _, _⟩ := hv k hk
  rw [push00, hvk]
  exact (few_c A _ c W).mono fun _ _ h => h.ans

theorem right_level {B : Nat} {w : World} {xs : List Int} : Right B w xs.length 85 #[] #[] (fun k => .int .i64 (ix xs k)) (fun k => inB (ix xs k) 0 100) := fun k _ W _ => by
  rw [push00]
  exact (level_c _ W).mono fun _ _ h => h.ans

/-- Is a list a row of a lane whose first row is given? -/
noncomputable def rowB (xss : List (List Int)) (x : List Int) : Bool := decide (0 < x.length) && decide (x.length = (rx xss 0).length) && allB x.length (fun k => inB (ix x k) 0 100)

set_option maxHeartbeats 400000 in
theorem row_c {B : Nat} (A A' : Option Addr) (xss : List (List Int)) (x : List Int) (c c' : Nat) (lo hi ca : Int) (w : World) (hB : B ≤ w.heap.size) (hr : Grd B w A xss) (hx : Ints B w A' x) (h0 : 0 < xss.length) (hc' : x.length ≤ c' ∧ c' ≤ 9223372036854775807) :
    Calls Try.prog 55 #[.agg #[.slice A xss.length c, .int .i64 lo, .int .i64 hi, .int .i64 ca], .slice A' x.length c'] w (Ans w (.bool (rowB xss x))) := by
  have hw1 : Below w.heap.size w (w.alloc (.cells #[.slice A xss.length c, .int .i64 lo, .int .i64 hi, .int .i64 ca] 34)) := (Below.refl _ _).alloc (Nat.le_refl _) _
  by_cases h1 : 0 < x.length
  · have H1 := Lib.hid (boards_c (B := B) A xss c lo hi ca (w.alloc (.cells #[.slice A xss.length c, .int .i64 lo, .int .i64 hi, .int .i64 ca] 34)) (by simp; omega) (hr.below (hw1.mono hB)) h0)
    by_cases h2 : x.length = (rx xss 0).length
    · have h2' : ((x.length : Int) == ((rx xss 0).length : Int)) = true := by simp [h2]
      have HR : Hid (rowB xss x = allB x.length (fun k => inB (ix x k) 0 100)) := by show _ = _; simp [rowB, h2, h2 ▸ h1]
      clear h2
      go_enter Try.func55, Try.ntmps55
      go_wp2_with fail
      refine H1.out.mono ?_
      rintro e w1 ⟨rfl, hb1⟩
      have hb2 := hw1.trans (hb1.mono (by simp))
      have H2 := Lib.hid (allI (B := B) A' x.length c' 85 #[] #[] _ _ w1 enters85 (Nat.le_trans hB hb2.size) (by omega) (hx.below (hb2.mono hB)).elems (right_level (B := B) (w := w1) (xs := x)))
      go_wp2_with fail
      refine H2.out.mono ?_
      rintro e w2 ⟨rfl, hb3⟩
      go_wp2_with fail
      go_ret
      exact ⟨ret_bool HR.out.symm, hb2.trans (hb3.mono hb2.size)⟩
    · have h2' : ((x.length : Int) == ((rx xss 0).length : Int)) = false := by simp; omega
      have HR : Hid (rowB xss x = false) := by show _ = _; simp [rowB, h2]
      clear h2
      go_enter Try.func55, Try.ntmps55
      go_wp2_with fail
      refine H1.out.mono ?_
      rintro e w1 ⟨rfl, hb1⟩
      go_wp2_with fail
      go_ret
      exact ⟨ret_bool HR.out.symm, hw1.trans (hb1.mono (by simp))⟩
  · have HR : Hid (rowB xss x = false) := by show _ = _; simp [rowB]; omega
    go_enter Try.func55, Try.ntmps55
    go_wp2_with fail
    go_ret
    exact ⟨ret_bool HR.out.symm, hw1⟩

noncomputable def limB (xss : List (List Int)) : Bool := decide (xss.length ≤ 8) && allB xss.length (fun k => decide ((rx xss k).length ≤ 12))
noncomputable def argB (xss : List (List Int)) (lo hi ca : Int) : Bool := decide (0 < xss.length) && allB xss.length (fun k => rowB xss (rx xss k)) && inB lo 0 hi && decide (hi ≤ 9) && inB ca 0 100
/-- The error of a lane. -/
noncomputable def laneErr (xss : List (List Int)) (lo hi ca : Int) : Int := if limB xss then (if argB xss lo hi ca then 0 else 1) else 3

theorem right_row {B : Nat} {w : World} {A : Option Addr} {xss : List (List Int)} {c : Nat} {lo hi ca : Int} {vs : Nat → Value} (hB : B ≤ w.heap.size) (hr : Grd B w A xss) (hv : ∀ k, k < xss.length → IsInts B w (vs k) (rx xss k)) :
    Right B w xss.length 55 #[.agg #[.slice A xss.length c, .int .i64 lo, .int .i64 hi, .int .i64 ca]] #[] vs (fun k => rowB xss (rx xss k)) := fun k hk W hW => by
  obtain ⟨A', c', hvk, h1, h2, h3⟩ := hv k hk
  rw [push10, hvk]
  exact row_c (B := B) A A' xss (rx xss k) c c' lo hi ca W (Nat.le_trans hB hW.size) (hr.below hW) (h3.below hW) (by omega) ⟨h1, h2⟩

set_option maxHeartbeats 1000000 in
theorem checkLane_c {B : Nat} (A : Option Addr) (xss : List (List Int)) (c : Nat) (lo hi ca : Int) (w : World) (hB : B ≤ w.heap.size) (hr : Grd B w A xss) (hc : xss.length ≤ c ∧ c ≤ 9223372036854775807) :
    Calls Try.prog 18 #[.agg #[.slice A xss.length c, .int .i64 lo, .int .i64 hi, .int .i64 ca]] w (Ans w (.int .i64 (laneErr xss lo hi ca))) := by
  have hw1 : Below w.heap.size w (w.alloc (.cells #[.slice A xss.length c, .int .i64 lo, .int .i64 hi, .int .i64 ca] 34)) := (Below.refl _ _).alloc (Nat.le_refl _) _
  have hz1 := hw1.size
  obtain ⟨vs, hel, hvs⟩ := hr.elems
  have hn : xss.length ≤ 9223372036854775807 := by omega
  have HN := Lib.hid hn
  clear hn
  by_cases h1 : xss.length ≤ 8
  · have H1 := Lib.hid (allR (B := B) A xss.length c 53 #[] #[] vs _ (w.alloc (.cells #[.slice A xss.length c, .int .i64 lo, .int .i64 hi, .int .i64 ca] 34)) enters53 (Nat.le_trans hB hz1) HN.out (hel.below (hw1.mono hB)) ((right_few hvs).below (hw1.mono hB)))
    cases h2 : allB xss.length (fun k => decide ((rx xss k).length ≤ 12))
    · have HR : Hid (laneErr xss lo hi ca = 3) := by show _ = _; simp [laneErr, limB, h1, h2]
      have H2 := Lib.hid h2
      clear h2
      go_enter Try.func18, Try.ntmps18
      go_wp2_with fail
      refine H1.out.mono ?_
      rw [H2.out]
      rintro e w1 ⟨rfl, hb1⟩
      go_wp2_with fail
      go_ret
      exact ⟨ret_int HR.out.symm, hw1.trans (hb1.mono hz1)⟩
    · have HL : Hid (limB xss = true) := by show _ = _; simp [limB, h1, h2]
      have H2 := Lib.hid h2
      clear h2
      go_enter Try.func18, Try.ntmps18
      go_wp2_with fail
      refine H1.out.mono ?_
      rw [H2.out]
      rintro e w1 ⟨rfl, hb1⟩
      have hb2 := hw1.trans (hb1.mono hz1)
      have hz2 := hb2.size
      obtain ⟨hcell, hfroz⟩ := bcell hb1
      by_cases h3 : 0 < xss.length
      · have h3' : ((xss.length : Int) == 0) = false := by rw [beq_eq_false_iff_ne]; omega
        have hr1 := hr.below (hb2.mono hB)
        have H3 := Lib.hid (allR (B := B) A xss.length c 55 #[.agg #[.slice A xss.length c, .int .i64 lo, .int .i64 hi, .int .i64 ca]] #[] vs _ w1 enters55 (Nat.le_trans hB hz2) HN.out (hel.below (hb2.mono hB)) (right_row (Nat.le_trans hB hz2) hr1 (fun k hk => (hvs k hk).below (hb2.mono hB))))
        cases h4 : allB xss.length (fun k => rowB xss (rx xss k))
        · have HR : Hid (laneErr xss lo hi ca = 1) := by show _ = _; simp [laneErr, argB, HL.out, h4]
          have H4 := Lib.hid h4
          clear h4
          go_wp2_with fail
          refine H3.out.mono ?_
          rw [H4.out]
          rintro e w2 ⟨rfl, hb3⟩
          go_wp2_with fail
          go_ret
          exact ⟨ret_int HR.out.symm, hb2.trans (hb3.mono hz2)⟩
        · have HA : Hid (argB xss lo hi ca = (inB lo 0 hi && decide (hi ≤ 9) && inB ca 0 100)) := by show _ = _; simp [argB, h3, h4]
          have H4 := Lib.hid h4
          clear h4
          go_wp2_with fail
          refine H3.out.mono ?_
          rw [H4.out]
          rintro e w2 ⟨rfl, hb3⟩
          have hb4 := hb2.trans (hb3.mono hz2)
          obtain ⟨hcell2, hfroz2⟩ := bcell hb3
          have hlt : w.heap.size < w1.heap.size := by
            have := hb1.size
            simp at this
            omega
          cases h5 : inB lo 0 hi
          · have HR : Hid (laneErr xss lo hi ca = 1) := by show _ = _; simp [laneErr, HL.out, HA.out, h5]
            have H5 := Lib.hid h5
            clear h5
            go_wp2_with fail
            refine (within_c _ _ _ _).mono ?_
            rw [H5.out]
            rintro e w3 ⟨rfl, rfl⟩
            go_wp2_with fail
            go_ret
            exact ⟨ret_int HR.out.symm, hb4⟩
          · have H5 := Lib.hid h5
            clear h5
            by_cases h6 : hi ≤ 9
            · cases h7 : inB ca 0 100
              · have HR : Hid (laneErr xss lo hi ca = 1) := by show _ = _; simp [laneErr, HL.out, HA.out, h7]
                have H7 := Lib.hid h7
                clear h7
                go_wp2_with fail
                refine (within_c _ _ _ _).mono ?_
                rw [H5.out]
                rintro e w3 ⟨rfl, rfl⟩
                go_wp2_with fail
                refine (within_c _ _ _ _).mono ?_
                rw [H7.out]
                rintro e w3 ⟨rfl, rfl⟩
                go_wp2_with fail
                go_ret
                exact ⟨ret_int HR.out.symm, hb4⟩
              · have HR : Hid (laneErr xss lo hi ca = 0) := by show _ = _; simp [laneErr, HL.out, HA.out, H5.out, h6, h7]
                have H7 := Lib.hid h7
                clear h7
                go_wp2_with fail
                refine (within_c _ _ _ _).mono ?_
                rw [H5.out]
                rintro e w3 ⟨rfl, rfl⟩
                go_wp2_with fail
                refine (within_c _ _ _ _).mono ?_
                rw [H7.out]
                rintro e w3 ⟨rfl, rfl⟩
                go_wp2_with fail
                go_ret
                exact ⟨ret_int HR.out.symm, hb4⟩
            · have HR : Hid (laneErr xss lo hi ca = 1) := by show _ = _; simp [laneErr, HL.out, HA.out, h6]
              go_wp2_with fail
              refine (within_c _ _ _ _).mono ?_
              rw [H5.out]
              rintro e w3 ⟨rfl, rfl⟩
              go_wp2_with fail
              go_ret
              exact ⟨ret_int HR.out.symm, hb4⟩
      · have h3' : ((xss.length : Int) == 0) = true := by rw [beq_iff_eq]; omega
        have HR : Hid (laneErr xss lo hi ca = 1) := by show _ = _; simp [laneErr, argB, HL.out, h3]
        go_wp2_with fail
        go_ret
        exact ⟨ret_int HR.out.symm, hb2⟩
  · have HR : Hid (laneErr xss lo hi ca = 3) := by show _ = _; simp [laneErr, limB, h1]
    go_enter Try.func18, Try.ntmps18
    go_wp2_with fail
    go_ret
    exact ⟨ret_int HR.out.symm, hw1⟩
end Go.Proofs.Ytgnonfomlgkpcaa
