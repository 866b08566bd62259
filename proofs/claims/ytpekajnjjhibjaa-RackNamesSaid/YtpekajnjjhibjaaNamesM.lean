/-
  The examples of the document, worked out: closed facts; no program.
-/
import Derived.Test.YtpekajnjjhibjaaAw
import Derived.Test.YtpekajnjjhibjaaCens
import Derived.Test.YtpekajnjjhibjaaLawsM
namespace Go.Proofs.Ytpekajnjjhibjaa
open Go.RowKit
set_option linter.unusedVariables false
set_option linter.unusedSimpArgs false

def leftC (r : Rk) (s : Nat) (b : Nat → Int) (c : Nat → Bool) : List Nat := (List.range 10).filter fun p => s.testBit p && !(felledC r s b c).testBit p
theorem leftC_is {r : Rk} {s : Nat} (hs : s < 2 ^ 10) (b : Nat → Int) (c : Nat → Bool) : listS (leftS r s b c) = leftC r s b c := by
  refine rising_ext (rising_listS _) (List.Pairwise.filter _ List.pairwise_lt_range) fun p => ?_
  rw [mem_listS, mem_leftS hs, leftC, List.mem_filter, List.mem_range, felledC_is hs, Bool.and_eq_true, Bool.not_eq_true', ← Bool.not_eq_true]
theorem cenF_c {j : Nat} : ∀ n, n ≤ 1024 → cenF n j = (List.range n).countP fun s => decide (j = kindC s)
  | 0, _ => by simp [cenF]
  | n + 1, h => by
    rw [List.range_succ, List.countP_append, ← cenF_c n (by omega), cenF, ← kindC_is (show n < 2 ^ 10 by omega)]
    by_cases e : j = kindC n
    · rw [if_pos e]; simp [← e]
    · rw [if_neg e]; simp [e]
theorem nm_36 : pinErr tenR [3, 6] = 0 ∧ kindV tenR [3, 6] = 2 := by
  have h : pinErr tenR [3, 6] = 0 := by decide +kernel
  refine ⟨h, ?_⟩
  rw [kindV, if_pos h, ← kindC_is pinS_lt]
  decide +kernel
theorem nm_06 : pinErr tenR [0, 6] = 0 ∧ kindV tenR [0, 6] = 4 := by
  have h : pinErr tenR [0, 6] = 0 := by decide +kernel
  refine ⟨h, ?_⟩
  rw [kindV, if_pos h, ← kindC_is pinS_lt]
  decide +kernel
theorem nm_66 : pinErr tenR [6, 6] = 2 ∧ kindV tenR [6, 6] = 0 := by
  have h : pinErr tenR [6, 6] = 2 := by decide +kernel
  exact ⟨h, by rw [kindV, if_neg (by rw [h]; decide)]⟩
theorem nm_hit : hitErr tenR allP thrL [21, 22, 23, 24] [true, true, true] = 0 ∧ hitL tenR allP thrL [21, 22, 23, 24] [true, true, true] = [4, 5, 7, 9] := by
  have h : hitErr tenR allP thrL [21, 22, 23, 24] [true, true, true] = 0 := by decide +kernel
  refine ⟨h, ?_⟩
  rw [hitL, if_pos h, leftC_is pinS_lt]
  decide +kernel
theorem nm_hit2 : hitErr tenR allP thrL [21, 22, 23, 24] [false, true, true] = 2 ∧ hitL tenR allP thrL [21, 22, 23, 24] [false, true, true] = [] := by
  have h : hitErr tenR allP thrL [21, 22, 23, 24] [false, true, true] = 2 := by decide +kernel
  exact ⟨h, by rw [hitL, if_neg (by rw [h]; decide)]⟩
theorem nm_hit3 : hitErr tenR allP thrL [21, 22, 25, 24] [true, true, true] = 2 ∧ hitL tenR allP thrL [21, 22, 25, 24] [true, true, true] = [] := by
  have h : hitErr tenR allP thrL [21, 22, 25, 24] [true, true, true] = 2 := by decide +kernel
  exact ⟨h, by rw [hitL, if_neg (by rw [h]; decide)]⟩
theorem nm_conv : cvErr tenR [1, 3, 6] true = 0 ∧ cvLn tenR [1, 3, 6] true = (12, 3) := by
  have := conv_first (r := tenR) (xs := [1, 3, 6]) (may := true) (n := 90) ten_136 (by decide) (by decide +kernel) (by decide +kernel)
  exact ⟨this.1, this.2.trans (by decide)⟩
theorem nm_none : cvErr tenR [6, 9] true = 9 ∧ cvLn tenR [6, 9] true = (0, 0) := conv_never ten_pin69 (by decide +kernel)
theorem nm_nil : cvErr tenR [] false = 0 ∧ cvLn tenR [] false = (0, -3) := by
  have := conv_first (r := tenR) (xs := []) (may := false) (n := 0) (by decide +kernel) (by decide) (by decide +kernel) (by decide +kernel)
  exact ⟨this.1, this.2.trans (by decide)⟩
theorem nm_can : canB tenR allP thrL [4, 7, 9] = true := by
  rw [canB_iff]
  refine ⟨ten_thr, by decide +kernel, ?_⟩
  rw [← leaveC_is pinS_lt (by decide +kernel)]
  decide +kernel
theorem nm_cannot : canB tenR allP thrL [7, 9] = false := by
  rw [Bool.eq_false_iff]
  intro h
  rw [canB_iff] at h
  have h2 := h.2.2
  rw [← leaveC_is pinS_lt (by decide +kernel)] at h2
  revert h2
  decide +kernel
theorem nm_prove : provB tenR [1, 3, 6] 14 1 = true := by
  rw [provB, convB, ← felledC_is pinS_lt]
  decide +kernel
theorem nm_prove2 : provB tenR [1, 3, 6] 12 3 = false := by
  rw [provB, convB, ← felledC_is pinS_lt]
  decide +kernel
theorem nm_out : thrErr tenR [10] thrL = 2 ∧ sureL tenR [10] thrL = [] ∧ mayL tenR [10] thrL = [] := by
  have h : thrErr tenR [10] thrL = 2 := by decide +kernel
  exact ⟨h, by rw [sureL, if_neg (by rw [h]; decide)], by rw [mayL, if_neg (by rw [h]; decide)]⟩
def thr3 : List Rg := [⟨21, 21⟩, ⟨22, 22⟩, ⟨22, 24⟩]
theorem nm_few : thrErr tenR allP thr3 = 2 ∧ leftV tenR allP thr3 = (0, 0) := by
  have h : thrErr tenR allP thr3 = 2 := by decide +kernel
  exact ⟨h, by rw [leftV, if_neg (by rw [h]; decide)]⟩
def manyR : Rk := ⟨4, 20, 3, 2, List.replicate 7 ⟨0, 0, false⟩⟩
def loopR : Rk := ⟨4, 20, 3, 2, [⟨0, 1, true⟩, ⟨1, 1, false⟩, ⟨3, 6, true⟩]⟩
def freeR : Rk := ⟨4, 20, 3, 2, [⟨0, 1, true⟩, ⟨1, 3, false⟩, ⟨3, 10, true⟩]⟩
def zeroR : Rk := ⟨0, 0, 0, 0, []⟩
def twoR : Rk := ⟨2, 0, 1, 0, []⟩
theorem nm_racks : rackErr manyR = 3 ∧ rackErr loopR = 1 ∧ rackErr freeR = 1 ∧ rackErr zeroR = 1 ∧ rackErr twoR = 0 := by decide +kernel
theorem nm_cens : cenV twoR 0 = 1 ∧ cenV twoR 1 = 3 ∧ cenV twoR 2 = 4 ∧ cenV twoR 3 = 0 ∧ cenV twoR 4 = 0 := by
  have h : rackErr twoR = 0 := by decide +kernel
  have e : pn twoR.rows = 3 := by decide
  have hc : ∀ j, cenV twoR j = (((List.range 8).countP fun s => decide (j = kindC s) : Nat) : Int) := fun j => by
    rw [cenV, if_pos h, e, cenI, cenF_c _ (by decide)]
  rw [hc, hc, hc, hc, hc]
  decide +kernel
end Go.Proofs.Ytpekajnjjhibjaa
