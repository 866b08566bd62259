/-
  The walks of the small functions.
-/
import Derived.Test.YtgnonfomlgkpcaaRows
import Derived.Test.YtgnonfomlgkpcaaBase
import Derived.WalkLawsBesides
import Derived.Deep.QuietTactic
import Derived.BigQuiet
namespace Go.Proofs.Ytgnonfomlgkpcaa
open Go.RowKit

/-- Is a number from lo to hi? -/
def inB (n lo hi : Int) : Bool := decide (lo ≤ n) && decide (n ≤ hi)
theorem inB_eq (n lo hi : Int) : inB n lo hi = true ↔ lo ≤ n ∧ n ≤ hi := by simp [inB]

/-- a bool, and the world as it was -/
def Same (w : World) (v : Value) (e : Ending) (w' : World) : Prop := e = .returned v ∧ w = w'
theorem Same.ans {w : World} {v : Value} {e : Ending} {w' : World} (h : Same w v e w') : Ans w v e w' := by
  obtain ⟨rfl, rfl⟩ := h
  exact Ans.same

theorem ret_bool {a b : Bool} (h : a = b) : Ending.returned (.bool a) = .returned (.bool b) := by rw [h]
theorem ret_int {k : IntKind} {a b : Int} (h : a = b) : Ending.returned (.int k a) = .returned (.int k b) := by rw [h]

set_option maxHeartbeats 400000 in
theorem within_c (n lo hi : Int) (w : World) : Calls Try.prog 56 #[.int .i64 n, .int .i64 lo, .int .i64 hi] w (Same w (.bool (inB n lo hi))) := by
  by_cases h : lo ≤ n
  · go_enter Try.func56, Try.ntmps56
    go_wp2
    go_ret
    exact ⟨ret_bool (by simp [inB, h]), rfl⟩
  · go_enter Try.func56, Try.ntmps56
    go_wp2
    go_ret
    exact ⟨ret_bool (by simp only [inB]; rw [decide_eq_false (by omega)]; rfl), rfl⟩

set_option maxHeartbeats 400000 in
theorem in_c (n lo hi : Int) (w : World) : Calls Try.prog 66 #[.int .i64 n, .int .i64 lo, .int .i64 hi] w (Same w (.bool (inB n lo hi))) := by
  by_cases h : lo ≤ n
  · go_enter Try.func66, Try.ntmps66
    go_wp2
    go_ret
    exact ⟨ret_bool (by simp [inB, h]), rfl⟩
  · go_enter Try.func66, Try.ntmps66
    go_wp2
    go_ret
    exact ⟨ret_bool (by simp only [inB]; rw [decide_eq_false (by omega)]; rfl), rfl⟩

set_option maxHeartbeats 400000 in
theorem level_c (n : Int) (w : World) : Calls Try.prog 85 #[.int .i64 n] w (Same w (.bool (inB n 0 100))) := by
  go_enter Try.func85, Try.ntmps85
  go_wp2_with (go_at_call 56; refine (within_c _ _ _ _).mono ?_; rintro e w' ⟨rfl, rfl⟩)
  go_ret
  exact ⟨rfl, rfl⟩

set_option maxHeartbeats 400000 in
theorem few_c (A : Option Addr) (n c : Nat) (w : World) : Calls Try.prog 53 #[.slice A n c] w (Same w (.bool (decide (n ≤ 12)))) := by
  go_enter Try.func53, Try.ntmps53
  go_wp2
  go_ret
  exact ⟨ret_bool (decide_eq_decide.2 (by omega)), rfl⟩

/-- The oil of a cell behind a ball. -/
def wornF (carry oil before own : Int) : Int := max 0 (min 100 (oil + carry * before / 100) - own)

set_option maxHeartbeats 400000 in
theorem worn_c (fv : Value) (lo hi carry oil before own : Int) (w : World) (h1 : 0 ≤ carry) (h2 : carry ≤ 100) (h3 : 0 ≤ before) (h4 : before ≤ 9) (h5 : 0 ≤ oil) (h6 : oil ≤ 100) (h7 : 0 ≤ own) (h8 : own ≤ 9) :
    Calls Try.prog 67 #[.agg #[fv, .int .i64 lo, .int .i64 hi, .int .i64 carry], .int .i64 oil, .int .i64 before, .int .i64 own] w (Ans w (.int .i64 (wornF carry oil before own))) := by
  have h9 : 0 ≤ carry * before := Int.mul_nonneg h1 h3
  have h10 : carry * before ≤ 900 := by
    have := Int.mul_le_mul h2 h4 h3 (by omega)
    omega
  go_enter Try.func67, Try.ntmps67
  go_wp2
  all_goals
    go_ret
    exact ⟨ret_int (by simp only [wornF]; omega), (Below.refl _ _).alloc (Nat.le_refl _) _⟩

set_option maxHeartbeats 400000 in
theorem little_c (lo hi : Int) (w : World) : Calls Try.prog 69 #[.agg #[.int .i64 lo, .int .i64 hi]] w (Ans w (.tuple #[.int .i64 lo, .int .i64 hi])) := by
  go_enter Try.func69, Try.ntmps69
  go_wp2
  go_quiet (fail)
  go_wp2
  go_ret2
  exact ⟨rfl, below_drewN ((Below.refl _ _).alloc (Nat.le_refl _) _) _⟩

set_option maxHeartbeats 400000 in
theorem much_c (lo hi : Int) (w : World) : Calls Try.prog 70 #[.agg #[.int .i64 lo, .int .i64 hi]] w (Ans w (.tuple #[.int .i64 hi, .int .i64 lo])) := by
  go_enter Try.func70, Try.ntmps70
  go_wp2
  go_quiet (fail)
  go_wp2
  go_ret2
  exact ⟨rfl, below_drewN ((Below.refl _ _).alloc (Nat.le_refl _) _) _⟩

set_option maxHeartbeats 400000 in
theorem boards_c {B : Nat} (A : Option Addr) (xss : List (List Int)) (c : Nat) (lo hi ca : Int) (w : World) (hB : B ≤ w.heap.size) (hr : Grd B w A xss) (h0 : 0 < xss.length) :
    Calls Try.prog 84 #[.agg #[.slice A xss.length c, .int .i64 lo, .int .i64 hi, .int .i64 ca]] w (Ans w (.int .i64 (rx xss 0).length)) := by
  obtain ⟨b, off, A', c', rfl, hb, hc, _, _, _⟩ := hr.at_ h0
  have hb' : b < w.heap.size := by omega
  simp only [Nat.add_zero] at hc
  go_enter Try.func84, Try.ntmps84
  go_wp2
  go_ret
  exact ⟨rfl, (Below.refl _ _).alloc (Nat.le_refl _) _⟩

-- Two numbers in a new row: their greatest, their least.
set_option maxHeartbeats 400000 in
theorem max2_c (g : Nat) (x y : Int) (w : World) (h0 : w.cell? ⟨g, 0, none⟩ = some (.int .i64 x)) (h1 : w.cell? ⟨g, 1, none⟩ = some (.int .i64 y)) :
    Calls Try.prog 97 #[.slice (some ⟨g, 0, none⟩) 2 2] w (Same w (.int .i64 (max x y))) := by
  go_enter Try.func97, Try.ntmps97
  go_wp2
  go_loop [3, 4] (fun m i => (m = .int .i64 x ∧ i = .int .i64 1) ∨ (m = .int .i64 (max x y) ∧ i = .int .i64 2)) (fun _ i => 2 - (intOf i).toNat)
  case atStart => exact .inl ⟨rfl, rfl⟩
  case round =>
    rcases hrel with ⟨rfl, rfl⟩ | ⟨rfl, rfl⟩
    · go_wp2
      all_goals
        go_round
        case rel => exact .inr ⟨by congr 1; omega, rfl⟩
        case measure => simp [intOf]
    · go_wp2
      go_ret
      exact ⟨rfl, rfl⟩

set_option maxHeartbeats 400000 in
theorem min2_c (g : Nat) (x y : Int) (w : World) (h0 : w.cell? ⟨g, 0, none⟩ = some (.int .i64 x)) (h1 : w.cell? ⟨g, 1, none⟩ = some (.int .i64 y)) :
    Calls Try.prog 98 #[.slice (some ⟨g, 0, none⟩) 2 2] w (Same w (.int .i64 (min x y))) := by
  go_enter Try.func98, Try.ntmps98
  go_wp2
  go_loop [3, 4] (fun m i => (m = .int .i64 x ∧ i = .int .i64 1) ∨ (m = .int .i64 (min x y) ∧ i = .int .i64 2)) (fun _ i => 2 - (intOf i).toNat)
  case atStart => exact .inl ⟨rfl, rfl⟩
  case round =>
    rcases hrel with ⟨rfl, rfl⟩ | ⟨rfl, rfl⟩
    · go_wp2
      all_goals
        go_round
        case rel => exact .inr ⟨by congr 1; omega, rfl⟩
        case measure => simp [intOf]
    · go_wp2
      go_ret
      exact ⟨rfl, rfl⟩

set_option maxHeartbeats 400000 in
theorem greatest_c (g : Nat) (x y : Int) (w : World) (h0 : w.cell? ⟨g, 0, none⟩ = some (.int .i64 x)) (h1 : w.cell? ⟨g, 1, none⟩ = some (.int .i64 y)) :
    Calls Try.prog 90 #[.slice (some ⟨g, 0, none⟩) 2 2] w (Same w (.int .i64 (max x y))) := by
  go_enter Try.func90, Try.ntmps90
  go_wp2_with (go_at_call 97; refine (max2_c _ _ _ _ h0 h1).mono ?_; rintro e w' ⟨rfl, rfl⟩)
  go_ret
  exact ⟨rfl, rfl⟩

set_option maxHeartbeats 400000 in
theorem least_c (g : Nat) (x y : Int) (w : World) (h0 : w.cell? ⟨g, 0, none⟩ = some (.int .i64 x)) (h1 : w.cell? ⟨g, 1, none⟩ = some (.int .i64 y)) :
    Calls Try.prog 91 #[.slice (some ⟨g, 0, none⟩) 2 2] w (Same w (.int .i64 (min x y))) := by
  go_enter Try.func91, Try.ntmps91
  go_wp2_with (go_at_call 98; refine (min2_c _ _ _ _ h0 h1).mono ?_; rintro e w' ⟨rfl, rfl⟩)
  go_ret
  exact ⟨rfl, rfl⟩

/-- Are two lists the same? -/
def eqB (xs ys : List Int) : Bool := decide (xs = ys)
theorem eqB_len {xs ys : List Int} (h : xs.length ≠ ys.length) : eqB xs ys = false := by
  simp only [eqB, decide_eq_false_iff_not]; rintro rfl; exact h rfl
theorem eqB_at {xs ys : List Int} {k : Nat} (h1 : ix xs k ≠ ix ys k) : eqB xs ys = false := by
  simp only [eqB, decide_eq_false_iff_not]; rintro rfl; exact h1 rfl
theorem eqB_all {xs ys : List Int} (h : xs.length = ys.length) (h1 : ∀ j, j < xs.length → ix xs j = ix ys j) : eqB xs ys = true := by
  simp only [eqB, decide_eq_true_eq]
  refine List.ext_getElem h fun i h2 h3 => ?_
  have := h1 i h2
  rwa [ix_lt h2, ix_lt h3] at this

def pref (xs ys : List Int) (k : Nat) : Prop := ∀ j, j < k → ix xs j = ix ys j

/-- an answer, and nothing but draws -/
def Qt (w : World) (v : Value) (e : Ending) (w' : World) : Prop := e = .returned v ∧ ∃ n, w' = w.drewN n
theorem Qt.ans {w : World} {v : Value} {e : Ending} {w' : World} (h : Qt w v e w') : Ans w v e w' := by
  obtain ⟨rfl, n, rfl⟩ := h
  exact ⟨rfl, below_drewN (Below.refl _ _) n⟩

set_option maxHeartbeats 400000 in
theorem ints_c {B : Nat} (A A' : Option Addr) (xs ys : List Int) (c c' : Nat) (w : World) (hx : Ints B w A xs) (hy : Ints B w A' ys) (hc : xs.length ≤ c ∧ c ≤ 9223372036854775807) (_hc' : ys.length ≤ c' ∧ c' ≤ 9223372036854775807) :
    Calls Try.prog 30 #[.slice A xs.length c, .slice A' ys.length c'] w (Qt w (.bool (eqB xs ys))) := by
  by_cases hl : xs.length = ys.length
  · have HL := Lib.hid hl
    have hne : ((xs.length : Int) != (ys.length : Int)) = false := by simp [hl]
    clear hl
    go_enter Try.func30, Try.ntmps30
    go_wp2
    go_loopw [5] (fun i wr => ∃ k n : Nat, k ≤ xs.length ∧ i = .int .i64 k ∧ pref xs ys k ∧ wr = w.drewN n) (fun i _ => xs.length - (intOf i).toNat)
    case atStart => exact ⟨0, 0, by omega, rfl, fun j hj => by omega, rfl⟩
    case round =>
      obtain ⟨k, n, hk, rfl, hp, rfl⟩ := hrel
      by_cases h1 : k < xs.length
      · obtain ⟨b, off, rfl, hb, hcell⟩ := hx.at_ h1
        obtain ⟨b', off', rfl, hb', hcell'⟩ := hy.at_ (k := k) (by have := HL.out; omega)
        have h1' : k < ys.length := by have := HL.out; omega
        by_cases he : ix xs k = ix ys k
        · have he' : (ix xs k != ix ys k) = false := by simp [he]
          have HE := Lib.hid he
          clear he
          go_wp2
          go_quiet (fail)
          go_wp2
          go_roundw
          case rel => exact ⟨k + 1, _, by omega, by go_num, fun j hj => by
            by_cases e : j = k
            · subst e; exact HE.out
            · exact hp j (by omega), rfl⟩
          case measure => simp [intOf]; omega
        · have he' : (ix xs k != ix ys k) = true := by simp [he]
          go_wp2
          go_quiet (fail)
          go_wp2
          go_ret
          exact ⟨ret_bool (eqB_at he).symm, _, World.drewN_drewN _ _ _⟩
      · go_wp2
        go_ret
        exact ⟨ret_bool (eqB_all HL.out (fun j hj => hp j (by omega))).symm, _, rfl⟩
  · have hne : ((xs.length : Int) != (ys.length : Int)) = true := by simp; omega
    go_enter Try.func30, Try.ntmps30
    go_wp2
    go_ret
    exact ⟨ret_bool (eqB_len hl).symm, 0, rfl⟩
end Go.Proofs.Ytgnonfomlgkpcaa
