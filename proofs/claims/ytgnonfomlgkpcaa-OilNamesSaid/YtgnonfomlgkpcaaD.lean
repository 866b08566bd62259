/-
  The walks of what checks balls and lines.
-/
import Derived.Test.YtgnonfomlgkpcaaC
namespace Go.Proofs.Ytgnonfomlgkpcaa
open Go.RowKit

set_option maxHeartbeats 400000 in
theorem ball1_c {B : Nat} (A : Option Addr) (xss : List (List Int)) (c bx : Nat) (lo hi ca n : Int) (w : World) (hB : B ≤ w.heap.size) (hr : Grd B w A xss) (h0 : 0 < xss.length)
    (c0 : w.cell? ⟨bx, 0, none⟩ = some (.slice A xss.length c)) (c1 : w.cell? ⟨bx, 1, none⟩ = some (.int .i64 lo)) (c2 : w.cell? ⟨bx, 2, none⟩ = some (.int .i64 hi)) (c3 : w.cell? ⟨bx, 3, none⟩ = some (.int .i64 ca))
    (hl : (rx xss 0).length ≤ 9223372036854775807) :
    Calls Try.prog 95 #[.int .i64 n, .pointer (some ⟨bx, 0, none⟩)] w (Ans w (.bool (inB n 0 ((rx xss 0).length - 1)))) := by
  have H1 := Lib.hid (boards_c (B := B) A xss c lo hi ca w hB hr h0)
  clear hr
  go_enter Try.func95, Try.ntmps95
  go_wp2_with fail
  refine H1.out.mono ?_
  rintro e w1 ⟨rfl, hb1⟩
  go_wp2_with fail
  refine (within_c _ _ _ _).mono ?_
  rintro e w3 ⟨rfl, rfl⟩
  go_wp2_with fail
  go_ret
  exact ⟨rfl, hb1⟩

/-- Is a list a ball of a lane? -/
noncomputable def ballB (xss : List (List Int)) (x : List Int) : Bool := decide (x.length = xss.length) && allB x.length (fun k => inB (ix x k) 0 ((rx xss 0).length - 1))

theorem push01 (x y : Value) : ((#[] : Array Value).push x ++ #[y]) = #[x, y] := rfl
theorem push02 (x y z : Value) : ((#[] : Array Value).push x ++ #[y, z]) = #[x, y, z] := rfl

theorem grd_len {B : Nat} {w : World} {A : Option Addr} {xss : List (List Int)} (hr : Grd B w A xss) {k : Nat} (hk : k < xss.length) : (rx xss k).length ≤ 9223372036854775807 := by
  obtain ⟨b, off, A', c', rfl, hb, hc, h1, h2, _⟩ := hr.at_ hk
  omega

set_option maxHeartbeats 400000 in
theorem ball_c {B : Nat} (A A' : Option Addr) (xss : List (List Int)) (x : List Int) (c c' : Nat) (lo hi ca : Int) (w : World) (hB : B ≤ w.heap.size) (hr : Grd B w A xss) (hx : Ints B w A' x) (h0 : 0 < xss.length) (_hc : xss.length ≤ c ∧ c ≤ 9223372036854775807) (_hc' : x.length ≤ c' ∧ c' ≤ 9223372036854775807) :
    Calls Try.prog 86 #[.agg #[.slice A xss.length c, .int .i64 lo, .int .i64 hi, .int .i64 ca], .slice A' x.length c'] w (Ans w (.bool (ballB xss x))) := by
  have hw1 : Below w.heap.size w (w.alloc (.cells #[.slice A xss.length c, .int .i64 lo, .int .i64 hi, .int .i64 ca] 34)) := (Below.refl _ _).alloc (Nat.le_refl _) _
  by_cases h1 : x.length = xss.length
  · have h1' : ((x.length : Int) == (xss.length : Int)) = true := by simp [h1]
    have HR : Hid (ballB xss x = allB x.length (fun k => inB (ix x k) 0 ((rx xss 0).length - 1))) := by show _ = _; simp [ballB, h1]
    have H1 := Lib.hid (allI (B := w.heap.size + 1) A' x.length c' 95 #[] #[.pointer (some ⟨w.heap.size, 0, none⟩)] (fun k => .int .i64 (ix x k)) (fun k => inB (ix x k) 0 ((rx xss 0).length - 1)) (w.alloc (.cells #[.slice A xss.length c, .int .i64 lo, .int .i64 hi, .int .i64 ca] 34)) enters95 (by simp) (by omega) ((hx.below (hw1.mono hB)).more (by omega)).elems
      (fun k _ W hW => by
        rw [push01]
        have hz := hW.size
        simp at hz
        have hcl : ∀ i, W.cell? ⟨w.heap.size, i, none⟩ = _ := fun i => hW.cell (p := ⟨w.heap.size, i, none⟩) (by simp)
        exact ball1_c (B := B) A xss c w.heap.size lo hi ca (ix x k) W (by omega) (hr.below ((hw1.trans (hW.mono (by omega))).mono hB)) h0 (by rw [hcl]; simp) (by rw [hcl]; simp) (by rw [hcl]; simp) (by rw [hcl]; simp) (grd_len hr h0)))
    clear h1
    go_enter Try.func86, Try.ntmps86
    go_wp2_with fail
    refine H1.out.mono ?_
    rintro e w1 ⟨rfl, hb1⟩
    go_wp2_with fail
    go_ret
    exact ⟨ret_bool HR.out.symm, hw1.trans (hb1.mono hw1.size)⟩
  · have h1' : ((x.length : Int) == (xss.length : Int)) = false := by simp; omega
    have HR : Hid (ballB xss x = false) := by show _ = _; simp [ballB, h1]
    go_enter Try.func86, Try.ntmps86
    go_wp2_with fail
    go_ret
    exact ⟨ret_bool HR.out.symm, hw1⟩

theorem right_ball {B : Nat} {w : World} {A : Option Addr} {xss yss : List (List Int)} {c : Nat} {lo hi ca : Int} {vs : Nat → Value} (hB : B ≤ w.heap.size) (hr : Grd B w A xss) (h0 : 0 < xss.length) (hc : xss.length ≤ c ∧ c ≤ 9223372036854775807) (hv : ∀ k, k < yss.length → IsInts B w (vs k) (rx yss k)) :
    Right B w yss.length 86 #[.agg #[.slice A xss.length c, .int .i64 lo, .int .i64 hi, .int .i64 ca]] #[] vs (fun k => ballB xss (rx yss k)) := fun k hk W hW => by
  obtain ⟨A', c', hvk, h1, h2, h3⟩ := hv k hk
  rw [push10, hvk]
  exact ball_c (B := B) A A' xss (rx yss k) c c' lo hi ca W (Nat.le_trans hB hW.size) (hr.below hW) (h3.below hW) h0 hc ⟨h1, h2⟩

/-- The error of a lane with balls. -/
noncomputable def ballsErr (xss : List (List Int)) (lo hi ca : Int) (yss : List (List Int)) : Int :=
  if laneErr xss lo hi ca = 0 then (if yss.length ≤ 20 then (if allB yss.length (fun k => ballB xss (rx yss k)) then 0 else 2) else 3) else laneErr xss lo hi ca

theorem laneErr_pos {xss : List (List Int)} {lo hi ca : Int} (h : laneErr xss lo hi ca = 0) : 0 < xss.length ∧ xss.length ≤ 8 := by
  unfold laneErr at h
  split at h <;> rename_i h1
  · split at h <;> rename_i h2
    · simp [argB] at h2
      simp [limB] at h1
      exact ⟨h2.1.1.1.1, h1.1⟩
    · cases h
  · cases h

set_option maxHeartbeats 1000000 in
theorem check_c {B : Nat} (A A' : Option Addr) (xss yss : List (List Int)) (c c' : Nat) (lo hi ca : Int) (w : World) (hB : B ≤ w.heap.size) (hr : Grd B w A xss) (hy : Grd B w A' yss) (hc : xss.length ≤ c ∧ c ≤ 9223372036854775807) (_hc' : yss.length ≤ c' ∧ c' ≤ 9223372036854775807) :
    Calls Try.prog 57 #[.agg #[.slice A xss.length c, .int .i64 lo, .int .i64 hi, .int .i64 ca], .slice A' yss.length c'] w (Ans w (.int .i64 (ballsErr xss lo hi ca yss))) := by
  have hw1 : Below w.heap.size w (w.alloc (.cells #[.slice A xss.length c, .int .i64 lo, .int .i64 hi, .int .i64 ca] 34)) := (Below.refl _ _).alloc (Nat.le_refl _) _
  have hz1 := hw1.size
  have H1 := Lib.hid (checkLane_c (B := B) A xss c lo hi ca (w.alloc (.cells #[.slice A xss.length c, .int .i64 lo, .int .i64 hi, .int .i64 ca] 34)) (by omega) (hr.below (hw1.mono hB)) hc)
  by_cases h1 : laneErr xss lo hi ca = 0
  · obtain ⟨h0, h8⟩ := laneErr_pos h1
    have H0 := Lib.hid h1
    clear h1
    obtain ⟨vs, hel, hvs⟩ := hy.elems
    go_enter Try.func57, Try.ntmps57
    go_wp2_with fail
    refine H1.out.mono ?_
    rw [H0.out]
    rintro e w1 ⟨rfl, hb1⟩
    have hb2 := hw1.trans (hb1.mono hz1)
    have hz2 := hb2.size
    obtain ⟨hcell, hfroz⟩ := bcell hb1
    by_cases h2 : yss.length ≤ 20
    · have H2 := Lib.hid (allR (B := B) A' yss.length c' 86 #[.agg #[.slice A xss.length c, .int .i64 lo, .int .i64 hi, .int .i64 ca]] #[] vs _ w1 enters86 (Nat.le_trans hB hz2) (by omega) (hel.below (hb2.mono hB)) (right_ball (Nat.le_trans hB hz2) (hr.below (hb2.mono hB)) h0 hc (fun k hk => (hvs k hk).below (hb2.mono hB))))
      cases h3 : allB yss.length (fun k => ballB xss (rx yss k))
      · have HR : Hid (ballsErr xss lo hi ca yss = 2) := by show _ = _; simp [ballsErr, H0.out, h2, h3]
        have H3 := Lib.hid h3
        clear h3
        go_wp2_with fail
        refine H2.out.mono ?_
        rw [H3.out]
        rintro e w2 ⟨rfl, hb3⟩
        go_wp2_with fail
        go_ret
        exact ⟨ret_int HR.out.symm, hb2.trans (hb3.mono hz2)⟩
      · have HR : Hid (ballsErr xss lo hi ca yss = 0) := by show _ = _; simp [ballsErr, H0.out, h2, h3]
        have H3 := Lib.hid h3
        clear h3
        go_wp2_with fail
        refine H2.out.mono ?_
        rw [H3.out]
        rintro e w2 ⟨rfl, hb3⟩
        go_wp2_with fail
        go_ret
        exact ⟨ret_int HR.out.symm, hb2.trans (hb3.mono hz2)⟩
    · have HR : Hid (ballsErr xss lo hi ca yss = 3) := by show _ = _; simp [ballsErr, H0.out, h2]
      go_wp2_with fail
      go_ret
      exact ⟨ret_int HR.out.symm, hb2⟩
  · have h1' : (laneErr xss lo hi ca != 0) = true := by simp [h1]
    have HR : Hid (ballsErr xss lo hi ca yss = laneErr xss lo hi ca) := by show _ = _; simp [ballsErr, h1]
    go_enter Try.func57, Try.ntmps57
    go_wp2_with fail
    refine H1.out.mono ?_
    rintro e w1 ⟨rfl, hb1⟩
    go_wp2_with fail
    go_ret
    exact ⟨ret_int HR.out.symm, hw1.trans (hb1.mono hz1)⟩


set_option maxHeartbeats 400000 in
theorem play1_c (bx : Nat) (lo hi n : Int) (w : World) (c1 : w.cell? ⟨bx, 1, none⟩ = some (.int .i64 lo)) (c2 : w.cell? ⟨bx, 2, none⟩ = some (.int .i64 hi)) :
    Calls Try.prog 58 #[.int .i64 n, .pointer (some ⟨bx, 0, none⟩)] w (Same w (.bool (inB n lo hi))) := by
  go_enter Try.func58, Try.ntmps58
  go_wp2_with fail
  refine (within_c _ _ _ _).mono ?_
  rintro e w3 ⟨rfl, rfl⟩
  go_wp2_with fail
  go_ret
  exact ⟨rfl, rfl⟩

noncomputable def wearB (n : Nat) (lo hi : Int) (x : List Int) : Bool := decide (x.length = n) && allB x.length (fun k => inB (ix x k) lo hi)

set_option maxHeartbeats 400000 in
theorem play2_c {B : Nat} (A A' : Option Addr) (n c c' bx by_ : Nat) (x : List Int) (lo hi : Int) (w : World) (hB : B ≤ w.heap.size) (hx : Ints B w A' x) (hc' : x.length ≤ c' ∧ c' ≤ 9223372036854775807)
    (hbx : bx < w.heap.size) (_hby : by_ < w.heap.size)
    (c0 : w.cell? ⟨bx, 0, none⟩ = some (.slice A n c)) (c1 : w.cell? ⟨bx, 1, none⟩ = some (.int .i64 lo)) (c2 : w.cell? ⟨bx, 2, none⟩ = some (.int .i64 hi))
    (d0 : w.cell? ⟨by_, 0, none⟩ = some (.func (.func 58) #[] #[.pointer (some ⟨bx, 0, none⟩)])) :
    Calls Try.prog 59 #[.slice A' x.length c', .pointer (some ⟨bx, 0, none⟩), .pointer (some ⟨by_, 0, none⟩)] w (Ans w (.bool (wearB n lo hi x))) := by
  by_cases h1 : x.length = n
  · have h1' : ((x.length : Int) == (n : Int)) = true := by simp [h1]
    have HR : Hid (wearB n lo hi x = allB x.length (fun k => inB (ix x k) lo hi)) := by show _ = _; simp [wearB, h1]
    have H1 := Lib.hid (allI (B := w.heap.size) A' x.length c' 58 #[] #[.pointer (some ⟨bx, 0, none⟩)] (fun k => .int .i64 (ix x k)) (fun k => inB (ix x k) lo hi) w enters58 (by simp) (by omega) (hx.more hB).elems
      (fun k _ W hW => by
        rw [push01]
        have hcl : ∀ i, W.cell? ⟨bx, i, none⟩ = w.cell? ⟨bx, i, none⟩ := fun i => hW.cell (p := ⟨bx, i, none⟩) hbx
        exact (play1_c bx lo hi (ix x k) W (by rw [hcl, c1]) (by rw [hcl, c2])).mono fun _ _ h => h.ans))
    clear h1
    go_enter Try.func59, Try.ntmps59
    go_wp2_with fail
    refine H1.out.mono ?_
    rintro e w1 ⟨rfl, hb1⟩
    go_wp2_with fail
    go_ret
    exact ⟨ret_bool HR.out.symm, hb1⟩
  · have h1' : ((x.length : Int) == (n : Int)) = false := by simp; omega
    have HR : Hid (wearB n lo hi x = false) := by show _ = _; simp [wearB, h1]
    go_enter Try.func59, Try.ntmps59
    go_wp2_with fail
    go_ret
    exact ⟨ret_bool HR.out.symm, Below.refl _ _⟩
end Go.Proofs.Ytgnonfomlgkpcaa
