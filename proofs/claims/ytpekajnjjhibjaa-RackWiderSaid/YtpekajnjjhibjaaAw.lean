/-
  What the chapter shows: the rack, its pins, its ball; awake.
-/
import Derived.Test.YtpekajnjjhibjaaComp
import Derived.Test.YtpekajnjjhibjaaE6
namespace Go.Proofs.Ytpekajnjjhibjaa
open Go.RowKit
set_option linter.unusedSimpArgs false
set_option linter.unusedVariables false

attribute [local go_sem] Oper.semAt_some
def tenR : Rk := ⟨4, 20, 3, 2, [⟨0, 1, true⟩, ⟨1, 3, false⟩, ⟨3, 6, true⟩]⟩
def allP : List Int := [0, 1, 2, 3, 4, 5, 6, 7, 8, 9]
def thrL : List Rg := [⟨21, 21⟩, ⟨22, 22⟩, ⟨22, 24⟩, ⟨23, 25⟩]
theorem ten_kind : kindV tenR [6, 9] = 3 := by
  have h : pinErr tenR [6, 9] = 0 := by decide +kernel
  rw [kindV, if_pos h, ← kindC_is pinS_lt]
  decide +kernel
theorem ten_pin69 : pinErr tenR [6, 9] = 0 := by decide +kernel
theorem ten_thr : thrErr tenR allP thrL = 0 := by decide +kernel
theorem ten_all : pinS tenR allP = 1023 := by decide +kernel
theorem ten_136 : pinErr tenR [1, 3, 6] = 0 := by decide +kernel
theorem ten_sure : sureL tenR allP thrL = [0, 1, 2, 8] := by
  rw [sureL, if_pos ten_thr, ten_all, sureC_is (by decide)]
  decide +kernel
theorem ten_may : mayL tenR allP thrL = [0, 1, 2, 3, 4, 5, 6, 8] := by
  rw [mayL, if_pos ten_thr, ten_all, mayC_is (by decide)]
  decide +kernel
theorem lv_all {r : Rk} {pins : Nat} {ball : List Rg} {lo hi : Nat} (hp : pins < 2 ^ 10) (hl : ball.length = r.rows.toNat) (h : ((lvC r pins ball ball.length 0).all fun u => decide (lo ≤ many u) && decide (many u ≤ hi)) = true) (h1 : ((lvC r pins ball ball.length 0).any fun u => decide (many u = lo)) = true) (h2 : ((lvC r pins ball ball.length 0).any fun u => decide (many u = hi)) = true) : LeftIs r pins ball lo hi := by
  simp only [List.all_eq_true, List.any_eq_true, Bool.and_eq_true, decide_eq_true_eq] at h h1 h2
  refine ⟨fun u hu => h u ((leaveC_is hp hl).2 hu), ?_, ?_⟩
  · obtain ⟨u, hu, he⟩ := h1
    exact ⟨u, (leaveC_is hp hl).1 hu, he⟩
  · obtain ⟨u, hu, he⟩ := h2
    exact ⟨u, (leaveC_is hp hl).1 hu, he⟩
theorem ten_left : leftV tenR allP thrL = (3, 6) := by
  rw [leftV, if_pos ten_thr, ten_all]
  refine leftN_eq ?_ (lv_all (by decide) (by decide) (by decide +kernel) (by decide +kernel) (by decide +kernel))
  intro k hk
  have : k = 0 ∨ k = 1 ∨ k = 2 ∨ k = 3 := by have : thrL.length = 4 := rfl; omega
  rcases this with rfl | rfl | rfl | rfl <;> decide
def convC (r : Rk) (pins : Nat) (cf : Nat → Bool) (n : Nat) : Bool := decide (felledC r pins (ovF (lineS n) (lineD n)) cf = pins)
theorem convC_is {r : Rk} {pins : Nat} (hp : pins < 2 ^ 10) (cf : Nat → Bool) (n : Nat) : cvN r pins cf n = convC r pins cf n := by rw [cvN, convB, convC, felledC_is hp]
theorem conv_first {r : Rk} {xs : List Int} {may : Bool} {n : Nat} (he : pinErr r xs = 0) (hn : n < 427) (h : convC r (pinS r xs) (carryOf r.links may) n = true) (h0 : ((List.range n).all fun m => !convC r (pinS r xs) (carryOf r.links may) m) = true) : cvErr r xs may = 0 ∧ cvLn r xs may = (lineS n, lineD n) := by
  have : convO r (pinS r xs) (carryOf r.links may) = some n := convO_some hn (by rw [convC_is pinS_lt]; exact h) fun m hm => by
    rw [convC_is pinS_lt]
    simp only [List.all_eq_true, List.mem_range, Bool.not_eq_true'] at h0
    exact h0 m hm
  constructor
  · rw [cvErr, if_pos he, this]; rfl
  · rw [cvLn, if_pos he, this]
theorem conv_never {r : Rk} {xs : List Int} {may : Bool} (he : pinErr r xs = 0) (h0 : ((List.range 427).all fun m => !convC r (pinS r xs) (carryOf r.links may) m) = true) : cvErr r xs may = 9 ∧ cvLn r xs may = (0, 0) := by
  have : convO r (pinS r xs) (carryOf r.links may) = none := convO_none fun m hm => by
    rw [convC_is pinS_lt]
    simp only [List.all_eq_true, List.mem_range, Bool.not_eq_true'] at h0
    exact h0 m hm
  constructor
  · rw [cvErr, if_pos he, this]; rfl
  · rw [cvLn, if_pos he, this]
theorem ten_conv : cvErr tenR [1, 3, 6] false = 0 ∧ cvLn tenR [1, 3, 6] false = (14, 1) := by
  have := conv_first (r := tenR) (xs := [1, 3, 6]) (may := false) (n := 102) ten_136 (by decide) (by decide +kernel) (by decide +kernel)
  exact ⟨this.1, this.2.trans (by decide)⟩
/-- A literal list of numbers. -/
theorem ints_lit (w : World) (xs : List Int) (cs : Array Value) (h : cs = (xs.map (Value.int .i64)).toArray) : Ints (w.alloc (.cells cs 3)).heap.size (w.alloc (.cells cs 3)) (some ⟨w.heap.size, 0, none⟩) xs := fun hp => ⟨_, 0, rfl, by simp, fun k hk => by
  subst h
  simp [ix_lt hk, hk]⟩
set_option maxRecDepth 100000 in
set_option maxHeartbeats 2000000 in
theorem all51_c (w : World) : Calls Try.prog 51 #[] w (fun e w' => e = .returned (.slice (some ⟨w.heap.size, 0, none⟩) 10 10) ∧ Ints w'.heap.size w' (some ⟨w.heap.size, 0, none⟩) allP ∧ Below w.heap.size w w') := by
  have HI := Lib.hid (ints_lit w allP #[.int .i64 0, .int .i64 1, .int .i64 2, .int .i64 3, .int .i64 4, .int .i64 5, .int .i64 6, .int .i64 7, .int .i64 8, .int .i64 9] rfl)
  have HB : Hid (Below w.heap.size w (w.alloc (.cells #[.int .i64 0, .int .i64 1, .int .i64 2, .int .i64 3, .int .i64 4, .int .i64 5, .int .i64 6, .int .i64 7, .int .i64 8, .int .i64 9] 3))) := (Below.refl _ _).alloc (Nat.le_refl _) _
  go_enter Try.func51, Try.ntmps51
  go_wp2_with fail
  go_ret
  exact ⟨rfl, HI.out, HB.out⟩
set_option maxRecDepth 100000 in
set_option maxHeartbeats 2000000 in
theorem thrown52_c (w : World) : Calls Try.prog 52 #[] w (fun e w' => e = .returned (.slice (some ⟨w.heap.size, 0, none⟩) 4 4) ∧ Rgs w'.heap.size w' (some ⟨w.heap.size, 0, none⟩) thrL ∧ Below w.heap.size w w') := by
  have HI : Hid (Rgs (w.alloc (.cells #[.int .i64 21, .int .i64 21, .int .i64 22, .int .i64 22, .int .i64 22, .int .i64 24, .int .i64 23, .int .i64 25] 44)).heap.size (w.alloc (.cells #[.int .i64 21, .int .i64 21, .int .i64 22, .int .i64 22, .int .i64 22, .int .i64 24, .int .i64 23, .int .i64 25] 44)) (some ⟨w.heap.size, 0, none⟩) thrL) := fun hp => ⟨_, 0, rfl, by simp, fun k hk => by
    have : k = 0 ∨ k = 1 ∨ k = 2 ∨ k = 3 := by have : thrL.length = 4 := rfl; omega
    rcases this with rfl | rfl | rfl | rfl <;> constructor <;> simp [gx, thrL]⟩
  have HB : Hid (Below w.heap.size w (w.alloc (.cells #[.int .i64 21, .int .i64 21, .int .i64 22, .int .i64 22, .int .i64 22, .int .i64 24, .int .i64 23, .int .i64 25] 44))) := (Below.refl _ _).alloc (Nat.le_refl _) _
  go_enter Try.func52, Try.ntmps52
  go_wp2_with fail
  go_ret
  exact ⟨rfl, HI.out, HB.out⟩

set_option maxRecDepth 100000 in
set_option maxHeartbeats 4000000 in
theorem ten50_c (w : World) : Calls Try.prog 50 #[] w (fun e w' => ∃ A c, e = .returned (.agg #[.int .i64 4, .int .i64 20, .int .i64 3, .int .i64 2, .slice A 3 c]) ∧ (Lks w'.heap.size w' A tenR.links ∧ 3 ≤ c ∧ c ≤ 9223372036854775807) ∧ Below w.heap.size w w') := by
  have hb2 : Below (w.alloc (.cells #[.int .i64 4, .int .i64 20, .int .i64 3, .int .i64 2, .slice (some ⟨w.heap.size + 1, 0, none⟩) 3 3] 39)).heap.size (w.alloc (.cells #[.int .i64 4, .int .i64 20, .int .i64 3, .int .i64 2, .slice (some ⟨w.heap.size + 1, 0, none⟩) 3 3] 39)) ((w.alloc (.cells #[.int .i64 4, .int .i64 20, .int .i64 3, .int .i64 2, .slice (some ⟨w.heap.size + 1, 0, none⟩) 3 3] 39)).alloc (.cells #[.int .i64 0, .int .i64 1, .bool true, .int .i64 1, .int .i64 3, .bool false, .int .i64 3, .int .i64 6, .bool true] 99)) := (Below.refl _ _).alloc (Nat.le_refl _) _
  have HF : Hid (At5 ((w.alloc (.cells #[.int .i64 4, .int .i64 20, .int .i64 3, .int .i64 2, .slice (some ⟨w.heap.size + 1, 0, none⟩) 3 3] 39)).alloc (.cells #[.int .i64 0, .int .i64 1, .bool true, .int .i64 1, .int .i64 3, .bool false, .int .i64 3, .int .i64 6, .bool true] 99)) w.heap.size 39 (.int .i64 4) (.int .i64 20) (.int .i64 3) (.int .i64 2) (.slice (some ⟨w.heap.size + 1, 0, none⟩) 3 3)) := (show At5 (w.alloc (.cells #[.int .i64 4, .int .i64 20, .int .i64 3, .int .i64 2, .slice (some ⟨w.heap.size + 1, 0, none⟩) 3 3] 39)) w.heap.size 39 (.int .i64 4) (.int .i64 20) (.int .i64 3) (.int .i64 2) (.slice (some ⟨w.heap.size + 1, 0, none⟩) 3 3) from World.alloc_heap_new w _).step hb2
  have hz : (w.alloc (.cells #[.int .i64 4, .int .i64 20, .int .i64 3, .int .i64 2, .slice (some ⟨w.heap.size + 1, 0, none⟩) 3 3] 39)).heap.size = w.heap.size + 1 := by simp
  have HI : Hid (Lks ((w.alloc (.cells #[.int .i64 4, .int .i64 20, .int .i64 3, .int .i64 2, .slice (some ⟨w.heap.size + 1, 0, none⟩) 3 3] 39)).alloc (.cells #[.int .i64 0, .int .i64 1, .bool true, .int .i64 1, .int .i64 3, .bool false, .int .i64 3, .int .i64 6, .bool true] 99)).heap.size ((w.alloc (.cells #[.int .i64 4, .int .i64 20, .int .i64 3, .int .i64 2, .slice (some ⟨w.heap.size + 1, 0, none⟩) 3 3] 39)).alloc (.cells #[.int .i64 0, .int .i64 1, .bool true, .int .i64 1, .int .i64 3, .bool false, .int .i64 3, .int .i64 6, .bool true] 99)) (some ⟨w.heap.size + 1, 0, none⟩) tenR.links) := fun hp => ⟨_, 0, rfl, by simp, fun k hk => by
    have : k = 0 ∨ k = 1 ∨ k = 2 := by have : tenR.links.length = 3 := rfl; omega
    rcases this with rfl | rfl | rfl <;> refine ⟨?_, ?_, ?_⟩ <;> rw [← hz] <;> simp [lx, tenR]⟩
  have HB0 : Hid (Below w.heap.size w ((w.alloc (.cells #[.int .i64 4, .int .i64 20, .int .i64 3, .int .i64 2, .slice (some ⟨w.heap.size + 1, 0, none⟩) 3 3] 39)).alloc (.cells #[.int .i64 0, .int .i64 1, .bool true, .int .i64 1, .int .i64 3, .bool false, .int .i64 3, .int .i64 6, .bool true] 99))) := ((Below.refl _ _).alloc (Nat.le_refl _) _).trans (hb2.mono (by simp))
  clear hb2 hz
  go_enter Try.func50, Try.ntmps50
  go_wp2_with fail
  generalize ((w.alloc (.cells #[.int .i64 4, .int .i64 20, .int .i64 3, .int .i64 2, .slice (some ⟨w.heap.size + 1, 0, none⟩) 3 3] 39)).alloc (.cells #[.int .i64 0, .int .i64 1, .bool true, .int .i64 1, .int .i64 3, .bool false, .int .i64 3, .int .i64 6, .bool true] 99)) = W9 at *
  obtain ⟨⟨y0, y1, y2, y3, y4⟩, -⟩ := HF.out.cells
  refine bodyPost_ret (v := .agg #[.int .i64 4, .int .i64 20, .int .i64 3, .int .i64 2, .slice (some ⟨w.heap.size + 1, 0, none⟩) 3 3]) (by simp [results, Try.results50, go_sem, y0, y1, y2, y3, y4]) rfl ?_
  exact ⟨_, _, rfl, ⟨HI.out, by omega, by omega⟩, HB0.out⟩
end Go.Proofs.Ytpekajnjjhibjaa
