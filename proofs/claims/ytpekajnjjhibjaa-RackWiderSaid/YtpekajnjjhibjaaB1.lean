/-
  The rack's smallest functions: pins, pin, link, where, board, has, of, list, many.
-/
import Derived.Test.YtpekajnjjhibjaaAll
import Derived.Test.YtpekajnjjhibjaaOwn
import Derived.Laws.BitsAllLaws
namespace Go.Proofs.Ytpekajnjjhibjaa
open Go.RowKit

/-- How many pins so many rows have. -/
def pn (rows : Int) : Nat := rows.toNat * (rows.toNat + 1) / 2
theorem rows4 {rows : Int} (h1 : 1 ≤ rows) (h4 : rows ≤ 4) : rows = 1 ∨ rows = 2 ∨ rows = 3 ∨ rows = 4 := by omega
theorem pn_le {rows : Int} (h1 : 1 ≤ rows) (h4 : rows ≤ 4) : 1 ≤ pn rows ∧ pn rows ≤ 10 := by
  rcases rows4 h1 h4 with rfl | rfl | rfl | rfl <;> decide

set_option maxHeartbeats 400000 in
theorem pins_c (rows mid gap reach : Int) (A : Option Addr) (n c : Nat) (w : World) (h1 : 1 ≤ rows) (h4 : rows ≤ 4) :
    Calls Try.prog 75 #[.agg #[.int .i64 rows, .int .i64 mid, .int .i64 gap, .int .i64 reach, .slice A n c]] w (Ans w (.int .i64 (pn rows : Int))) := by
  have hb0 : Below w.heap.size w (w.alloc (.cells #[.int .i64 rows, .int .i64 mid, .int .i64 gap, .int .i64 reach, .slice A n c] 39)) := (Below.refl _ _).alloc (Nat.le_refl _) _
  have HB := Lib.hid hb0
  clear hb0
  rcases rows4 h1 h4 with rfl | rfl | rfl | rfl
  all_goals
    go_enter Try.func75, Try.ntmps75
    go_wp2
    go_ret
    exact ⟨rfl, HB.out⟩

set_option maxHeartbeats 400000 in
theorem pin_c (rows mid gap reach x : Int) (A : Option Addr) (n c : Nat) (w : World) (h1 : 1 ≤ rows) (h4 : rows ≤ 4) :
    Calls Try.prog 92 #[.agg #[.int .i64 rows, .int .i64 mid, .int .i64 gap, .int .i64 reach, .slice A n c], .int .i64 x] w (Ans w (.bool (inB x 0 ((pn rows : Int) - 1)))) := by
  have hb0 : Below w.heap.size w (w.alloc (.cells #[.int .i64 rows, .int .i64 mid, .int .i64 gap, .int .i64 reach, .slice A n c] 39)) := (Below.refl _ _).alloc (Nat.le_refl _) _
  have HB := Lib.hid hb0
  have HP := Lib.hid (pins_c rows mid gap reach A n c (w.alloc (.cells #[.int .i64 rows, .int .i64 mid, .int .i64 gap, .int .i64 reach, .slice A n c] 39)) h1 h4)
  have hpn := pn_le h1 h4
  have hwr : IntKind.i64.wrap ((pn rows : Int) - 1) = (pn rows : Int) - 1 := IntWalk.i64_in _ (by omega)
  clear hb0
  go_enter Try.func92, Try.ntmps92
  go_wp2_with (go_at_call 65; refine (within_c _ _ _ _).mono ?_; rintro e w1 ⟨rfl, rfl⟩)
  refine HP.out.mono ?_
  rintro e w1 ⟨rfl, hb⟩
  have H1 := Lib.hid hb
  clear hb
  go_wp2_with (go_at_call 65; refine (within_c _ _ _ _).mono ?_; rintro e w1 ⟨rfl, rfl⟩)
  go_ret
  exact ⟨rfl, HB.out.trans (H1.out.mono HB.out.size)⟩

/-- Is a link one of a rack of so many rows? -/
def linkB (rows : Int) (x : Lk) : Bool := inB x.f 0 ((pn rows : Int) - 1) && (inB x.t 0 ((pn rows : Int) - 1) && !decide (x.f = x.t))

set_option maxHeartbeats 800000 in
theorem link_c (rows mid gap reach : Int) (x : Lk) (A : Option Addr) (n c : Nat) (w : World) (h1 : 1 ≤ rows) (h4 : rows ≤ 4) :
    Calls Try.prog 73 #[.agg #[.int .i64 rows, .int .i64 mid, .int .i64 gap, .int .i64 reach, .slice A n c], lV x] w (Ans w (.bool (linkB rows x))) := by
  obtain ⟨xf, xt, xs⟩ := x
  unfold lV
  dsimp only
  have hb0 : Below w.heap.size w ((w.alloc (.cells #[.int .i64 rows, .int .i64 mid, .int .i64 gap, .int .i64 reach, .slice A n c] 39)).alloc (.cells #[.int .i64 xf, .int .i64 xt, .bool xs] 99)) := ((Below.refl _ _).alloc (Nat.le_refl _) _).alloc (by simp) _
  have HB := Lib.hid hb0
  have y0 : ((w.alloc (.cells #[.int .i64 rows, .int .i64 mid, .int .i64 gap, .int .i64 reach, .slice A n c] 39)).alloc (.cells #[.int .i64 xf, .int .i64 xt, .bool xs] 99)).cell? ⟨w.heap.size + 1, 0, none⟩ = some (.int .i64 xf) := by simp
  have y1 : ((w.alloc (.cells #[.int .i64 rows, .int .i64 mid, .int .i64 gap, .int .i64 reach, .slice A n c] 39)).alloc (.cells #[.int .i64 xf, .int .i64 xt, .bool xs] 99)).cell? ⟨w.heap.size + 1, 1, none⟩ = some (.int .i64 xt) := by simp
  have z0 : ((w.alloc (.cells #[.int .i64 rows, .int .i64 mid, .int .i64 gap, .int .i64 reach, .slice A n c] 39)).alloc (.cells #[.int .i64 xf, .int .i64 xt, .bool xs] 99)).cell? ⟨w.heap.size, 0, none⟩ = some (.int .i64 rows) := by simp
  have z1 : ((w.alloc (.cells #[.int .i64 rows, .int .i64 mid, .int .i64 gap, .int .i64 reach, .slice A n c] 39)).alloc (.cells #[.int .i64 xf, .int .i64 xt, .bool xs] 99)).cell? ⟨w.heap.size, 1, none⟩ = some (.int .i64 mid) := by simp
  have z2 : ((w.alloc (.cells #[.int .i64 rows, .int .i64 mid, .int .i64 gap, .int .i64 reach, .slice A n c] 39)).alloc (.cells #[.int .i64 xf, .int .i64 xt, .bool xs] 99)).cell? ⟨w.heap.size, 2, none⟩ = some (.int .i64 gap) := by simp
  have z3 : ((w.alloc (.cells #[.int .i64 rows, .int .i64 mid, .int .i64 gap, .int .i64 reach, .slice A n c] 39)).alloc (.cells #[.int .i64 xf, .int .i64 xt, .bool xs] 99)).cell? ⟨w.heap.size, 3, none⟩ = some (.int .i64 reach) := by simp
  have z4 : ((w.alloc (.cells #[.int .i64 rows, .int .i64 mid, .int .i64 gap, .int .i64 reach, .slice A n c] 39)).alloc (.cells #[.int .i64 xf, .int .i64 xt, .bool xs] 99)).cell? ⟨w.heap.size, 4, none⟩ = some (.slice A n c) := by simp
  clear hb0
  have HC : Hid (∀ x W, Calls Try.prog 92 #[.agg #[.int .i64 rows, .int .i64 mid, .int .i64 gap, .int .i64 reach, .slice A n c], .int .i64 x] W (Ans W (.bool (inB x 0 ((pn rows : Int) - 1))))) := fun x W => pin_c rows mid gap reach x A n c W h1 h4
  cases e1 : inB xf 0 ((pn rows : Int) - 1)
  · have E1 := Lib.hid e1
    clear e1
    go_enter Try.func73, Try.ntmps73
    go_wp2_with fail
    generalize (w.alloc (.cells #[.int .i64 rows, .int .i64 mid, .int .i64 gap, .int .i64 reach, .slice A n c] 39)).alloc (.cells #[.int .i64 xf, .int .i64 xt, .bool xs] 99) = W at *
    refine (HC.out _ _).mono ?_
    rw [E1.out]
    rintro e w1 ⟨rfl, hb⟩
    have H1 := Lib.hid hb
    clear hb
    go_wp2_with fail
    go_ret
    exact ⟨ret_bool (by simp [linkB, E1.out]), HB.out.trans (H1.out.mono HB.out.size)⟩
  · have E1 := Lib.hid e1
    clear e1
    cases e2 : inB xt 0 ((pn rows : Int) - 1)
    · have E2 := Lib.hid e2
      clear e2
      go_enter Try.func73, Try.ntmps73
      go_wp2_with fail
      generalize (w.alloc (.cells #[.int .i64 rows, .int .i64 mid, .int .i64 gap, .int .i64 reach, .slice A n c] 39)).alloc (.cells #[.int .i64 xf, .int .i64 xt, .bool xs] 99) = W at *
      refine (HC.out _ _).mono ?_
      rw [E1.out]
      rintro e w1 ⟨rfl, hb⟩
      have H1 := Lib.hid hb
      replace y0 := cell_of_ans hb y0
      replace y1 := cell_of_ans hb y1
      replace z0 := cell_of_ans hb z0
      replace z1 := cell_of_ans hb z1
      replace z2 := cell_of_ans hb z2
      replace z3 := cell_of_ans hb z3
      replace z4 := cell_of_ans hb z4
      clear hb
      go_wp2_with fail
      refine (HC.out _ _).mono ?_
      rw [E2.out]
      rintro e w2 ⟨rfl, hb⟩
      have H2 := Lib.hid hb
      clear hb
      go_wp2_with fail
      go_ret
      exact ⟨ret_bool (by simp [linkB, E1.out, E2.out]), HB.out.trans ((H1.out.trans (H2.out.mono H1.out.size)).mono HB.out.size)⟩
    · have E2 := Lib.hid e2
      clear e2
      go_enter Try.func73, Try.ntmps73
      go_wp2_with fail
      generalize (w.alloc (.cells #[.int .i64 rows, .int .i64 mid, .int .i64 gap, .int .i64 reach, .slice A n c] 39)).alloc (.cells #[.int .i64 xf, .int .i64 xt, .bool xs] 99) = W at *
      refine (HC.out _ _).mono ?_
      rw [E1.out]
      rintro e w1 ⟨rfl, hb⟩
      have H1 := Lib.hid hb
      replace y0 := cell_of_ans hb y0
      replace y1 := cell_of_ans hb y1
      replace z0 := cell_of_ans hb z0
      replace z1 := cell_of_ans hb z1
      replace z2 := cell_of_ans hb z2
      replace z3 := cell_of_ans hb z3
      replace z4 := cell_of_ans hb z4
      clear hb
      go_wp2_with fail
      refine (HC.out _ _).mono ?_
      rw [E2.out]
      rintro e w2 ⟨rfl, hb⟩
      have H2 := Lib.hid hb
      replace y0 := cell_of_ans hb y0
      replace y1 := cell_of_ans hb y1
      clear hb z0 z1 z2 z3 z4
      go_wp2_with fail
      go_ret
      exact ⟨ret_bool (by simp [linkB, E1.out, E2.out, bne]; try rfl), HB.out.trans ((H1.out.trans (H2.out.mono H1.out.size)).mono HB.out.size)⟩

set_option maxHeartbeats 400000 in
theorem has_c (s p : Nat) (w : World) (hs : s < 65536) (hp : p < 16) : Calls Try.prog 85 #[.int .u16 s, .int .i64 p] w (Same w (.bool (s.testBit p))) := by
  have HR : Hid ((bits .and .u16 ((s : Int) / 2 ^ p) 1 == 1) = s.testBit p) := by
    show _ = _
    have h1 : ((s : Int) / 2 ^ p) = ((s / 2 ^ p : Nat) : Int) := by simp
    have h2 : s / 2 ^ p < 65536 := Nat.lt_of_le_of_lt (Nat.div_le_self _ _) hs
    rw [h1, show (1 : Int) = ((1 : Nat) : Int) from rfl, u16_and_nat _ 1 h2 (by decide), nat_mask1, Nat.testBit_eq_decide_div_mod_eq]
    rcases Nat.mod_two_eq_zero_or_one (s / 2 ^ p) with e | e <;> simp [e]
  go_enter Try.func85, Try.ntmps85
  go_wp2
  go_ret
  exact ⟨ret_bool HR.out, rfl⟩

theorem toNat_natCast_ix {xs : List Int} {k : Nat} {l : List Nat} (h : xs = l.map Int.ofNat) (hk : k < xs.length) : ix xs k = ((l.getD k 0 : Nat) : Int) := by
  subst h
  rw [ix_lt hk]
  simp at hk
  simp [hk]
theorem or_ofS (l : List Nat) (p : Nat) : ofS l ||| 2 ^ p = ofS (l ++ [p]) := by
  refine Nat.eq_of_testBit_eq fun i => ?_
  rw [Bool.eq_iff_iff, Nat.testBit_or, Bool.or_eq_true, mem_ofS, mem_ofS, Nat.testBit_two_pow]
  simp [eq_comm]

set_option maxHeartbeats 400000 in
theorem of_c {B : Nat} (l : List Nat) (A : Option Addr) (c : Nat) (w : World) (hx : Ints B w A (l.map Int.ofNat)) (hl : ∀ p ∈ l, p < 10) (hn : l.length ≤ 9223372036854775807) :
    Calls Try.prog 93 #[.slice A l.length c] w (Same w (.int .u16 (ofS l : Int))) := by
  go_enter Try.func93, Try.ntmps93
  go_wp2
  go_loopw [2, 7] (fun t i wr => ∃ k : Nat, k ≤ l.length ∧ i = .int .i64 k ∧ t = .int .u16 (ofS (l.take k) : Int) ∧ w = wr) (fun _ i _ => l.length - (intOf i).toNat)
  case atStart => exact ⟨0, by omega, rfl, rfl, rfl⟩
  case round =>
    obtain ⟨k, hk, rfl, rfl, rfl⟩ := hrel
    by_cases h1 : k < l.length
    · obtain ⟨b, off, rfl, hb, hc⟩ := hx.at_ (k := k) (by simpa using h1)
      have hp : l[k] < 10 := hl _ (List.getElem_mem h1)
      rw [show ix (l.map Int.ofNat) k = (l[k] : Int) by rw [ix_lt (by simpa using h1)]; simp] at hc
      have HS : Hid (ofS (l.take (k + 1)) = ofS (l.take k) ||| 2 ^ l[k]) := by show _ = _; rw [or_ofS, List.take_succ_eq_append_getElem h1]
      have hlt : ofS (l.take k) < 2 ^ 10 := ofS_lt fun p hp => hl p (List.mem_of_mem_take hp)
      generalize ofS (l.take k) = s at HS hlt ⊢
      generalize l[k] = p at HS hc hp ⊢
      have hp2 : (2 : Nat) ^ p < 2 ^ 10 := Nat.pow_lt_pow_right (by decide) hp
      have hw : IntKind.u16.wrap ((2 : Int) ^ p) = (2 : Int) ^ p := by
        have e : (2 : Int) ^ p = ((2 ^ p : Nat) : Int) := by simp
        rw [IntKind.wrap_u16, e]
        generalize 2 ^ p = q at hp2 ⊢
        omega
      have HO : Hid (bits .or .u16 (s : Int) ((2 : Int) ^ p) = ((s ||| 2 ^ p : Nat) : Int)) := by
        show _ = _
        rw [show (2 : Int) ^ p = ((2 ^ p : Nat) : Int) by simp, u16_or_nat _ _ (by omega) (by omega)]
      go_wp2
      go_roundw
      case rel => exact ⟨k + 1, by omega, by go_num, by rw [HS.out]; exact congrArg _ HO.out, by trivial⟩
      case measure => simp [intOf]; omega
    · obtain rfl : k = l.length := by omega
      go_wp2
      go_ret
      exact ⟨ret_int (by simp), rfl⟩
end Go.Proofs.Ytpekajnjjhibjaa
