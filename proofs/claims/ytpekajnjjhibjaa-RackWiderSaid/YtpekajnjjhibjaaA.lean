/-
  The walks of the smallest functions.
-/
import Derived.Test.YtpekajnjjhibjaaGen
namespace Go.Proofs.Ytpekajnjjhibjaa
open Go.RowKit

set_option maxHeartbeats 400000 in
theorem within_c (n lo hi : Int) (w : World) : Calls Try.prog 65 #[.int .i64 n, .int .i64 lo, .int .i64 hi] w (Same w (.bool (inB n lo hi))) := by
  by_cases h : lo ≤ n
  · go_enter Try.func65, Try.ntmps65
    go_wp2
    go_ret
    exact ⟨ret_bool (by simp [inB, h]), rfl⟩
  · go_enter Try.func65, Try.ntmps65
    go_wp2
    go_ret
    exact ⟨ret_bool (by simp only [inB]; rw [decide_eq_false (by omega)]; rfl), rfl⟩
set_option maxHeartbeats 400000 in
theorem in_c (n lo hi : Int) (w : World) : Calls Try.prog 27 #[.int .i64 n, .int .i64 lo, .int .i64 hi] w (Same w (.bool (inB n lo hi))) := by
  by_cases h : lo ≤ n
  · go_enter Try.func27, Try.ntmps27
    go_wp2
    go_ret
    exact ⟨ret_bool (by simp [inB, h]), rfl⟩
  · go_enter Try.func27, Try.ntmps27
    go_wp2
    go_ret
    exact ⟨ret_bool (by simp only [inB]; rw [decide_eq_false (by omega)]; rfl), rfl⟩
set_option maxHeartbeats 400000 in
theorem max2_c (g : Nat) (x y : Int) (w : World) (h0 : w.cell? ⟨g, 0, none⟩ = some (.int .i64 x)) (h1 : w.cell? ⟨g, 1, none⟩ = some (.int .i64 y)) :
    Calls Try.prog 89 #[.slice (some ⟨g, 0, none⟩) 2 2] w (Same w (.int .i64 (max x y))) := by
  go_enter Try.func89, Try.ntmps89
  go_wp2
  go_loop [3, 4] (fun m i => (m = .int .i64 x ∧ i = .int .i64 1) ∨ (m = .int .i64 (max x y) ∧ i = .int .i64 2)) (fun _ i => 2 - (intOf i).toNat)
  case atStart => exact .inl ⟨rfl, rfl⟩
  case round =>
    rcases hrel with ⟨rfl, rfl⟩ | ⟨rfl, rfl⟩
    · go_wp2
      all_goals
        go_round
        case rel => exact .inr ⟨by congr 1; omega, rfl⟩
        case measure => simp [intOf]
    · go_wp2
      go_ret
      exact ⟨rfl, rfl⟩
set_option maxHeartbeats 400000 in
theorem min2_c (g : Nat) (x y : Int) (w : World) (h0 : w.cell? ⟨g, 0, none⟩ = some (.int .i64 x)) (h1 : w.cell? ⟨g, 1, none⟩ = some (.int .i64 y)) :
    Calls Try.prog 88 #[.slice (some ⟨g, 0, none⟩) 2 2] w (Same w (.int .i64 (min x y))) := by
  go_enter Try.func88, Try.ntmps88
  go_wp2
  go_loop [3, 4] (fun m i => (m = .int .i64 x ∧ i = .int .i64 1) ∨ (m = .int .i64 (min x y) ∧ i = .int .i64 2)) (fun _ i => 2 - (intOf i).toNat)
  case atStart => exact .inl ⟨rfl, rfl⟩
  case round =>
    rcases hrel with ⟨rfl, rfl⟩ | ⟨rfl, rfl⟩
    · go_wp2
      all_goals
        go_round
        case rel => exact .inr ⟨by congr 1; omega, rfl⟩
        case measure => simp [intOf]
    · go_wp2
      go_ret
      exact ⟨rfl, rfl⟩
set_option maxHeartbeats 400000 in
theorem greatest_c (g : Nat) (x y : Int) (w : World) (h0 : w.cell? ⟨g, 0, none⟩ = some (.int .i64 x)) (h1 : w.cell? ⟨g, 1, none⟩ = some (.int .i64 y)) :
    Calls Try.prog 62 #[.slice (some ⟨g, 0, none⟩) 2 2] w (Same w (.int .i64 (max x y))) := by
  go_enter Try.func62, Try.ntmps62
  go_wp2_with (go_at_call 89; refine (max2_c _ _ _ _ h0 h1).mono ?_; rintro e w' ⟨rfl, rfl⟩)
  go_ret
  exact ⟨rfl, rfl⟩
set_option maxHeartbeats 400000 in
theorem least_c (g : Nat) (x y : Int) (w : World) (h0 : w.cell? ⟨g, 0, none⟩ = some (.int .i64 x)) (h1 : w.cell? ⟨g, 1, none⟩ = some (.int .i64 y)) :
    Calls Try.prog 60 #[.slice (some ⟨g, 0, none⟩) 2 2] w (Same w (.int .i64 (min x y))) := by
  go_enter Try.func60, Try.ntmps60
  go_wp2_with (go_at_call 88; refine (min2_c _ _ _ _ h0 h1).mono ?_; rintro e w' ⟨rfl, rfl⟩)
  go_ret
  exact ⟨rfl, rfl⟩
set_option maxHeartbeats 400000 in
theorem ints_c {B : Nat} (A A' : Option Addr) (xs ys : List Int) (c c' : Nat) (w : World) (hx : Ints B w A xs) (hy : Ints B w A' ys) (hc : xs.length ≤ c ∧ c ≤ 9223372036854775807) (_hc' : ys.length ≤ c' ∧ c' ≤ 9223372036854775807) :
    Calls Try.prog 30 #[.slice A xs.length c, .slice A' ys.length c'] w (Qt w (.bool (eqB xs ys))) := by
  by_cases hl : xs.length = ys.length
  · have HL := Lib.hid hl
    have hne : ((xs.length : Int) != (ys.length : Int)) = false := by simp [hl]
    clear hl
    go_enter Try.func30, Try.ntmps30
    go_wp2
    go_loopw [5] (fun i wr => ∃ k n : Nat, k ≤ xs.length ∧ i = .int .i64 k ∧ pref xs ys k ∧ wr = w.drewN n) (fun i _ => xs.length - (intOf i).toNat)
    case atStart => exact ⟨0, 0, by omega, rfl, fun j hj => by omega, rfl⟩
    case round =>
      obtain ⟨k, n, hk, rfl, hp, rfl⟩ := hrel
      by_cases h1 : k < xs.length
      · obtain ⟨b, off, rfl, hb, hcell⟩ := hx.at_ h1
        obtain ⟨b', off', rfl, hb', hcell'⟩ := hy.at_ (k := k) (by have := HL.out; omega)
        have h1' : k < ys.length := by have := HL.out; omega
        by_cases he : ix xs k = ix ys k
        · have he' : (ix xs k != ix ys k) = false := by simp [he]
          have HE := Lib.hid he
          clear he
          go_wp2
          go_quiet (fail)
          go_wp2
          go_roundw
          case rel => exact ⟨k + 1, _, by omega, by go_num, fun j hj => by
            by_cases e : j = k
            · subst e; exact HE.out
            · exact hp j (by omega), rfl⟩
          case measure => simp [intOf]; omega
        · have he' : (ix xs k != ix ys k) = true := by simp [he]
          go_wp2
          go_quiet (fail)
          go_wp2
          go_ret
          exact ⟨ret_bool (eqB_at he).symm, _, World.drewN_drewN _ _ _⟩
      · go_wp2
        go_ret
        exact ⟨ret_bool (eqB_all HL.out (fun j hj => hp j (by omega))).symm, _, rfl⟩
  · have hne : ((xs.length : Int) != (ys.length : Int)) = true := by simp; omega
    go_enter Try.func30, Try.ntmps30
    go_wp2
    go_ret
    exact ⟨ret_bool (eqB_len hl).symm, 0, rfl⟩
end Go.Proofs.Ytpekajnjjhibjaa
