/-
  A wider range, a link more, a greater Reach, a link that becomes sure: what can be left then: plain facts; no program.
-/
import Derived.Test.YtpekajnjjhibjaaLawsM
namespace Go.Proofs.Ytpekajnjjhibjaa
open Go.RowKit
set_option linter.unusedVariables false
set_option linter.unusedSimpArgs false

section
variable {r x : Rk} {xs : List Int} {ball other : List Rg}
theorem pinS_same (h : pinErr r xs = 0) (h' : pinErr x xs = 0) : pinS x xs = pinS r xs := by rw [pinS, if_pos h', pinS, if_pos h]
theorem sureL_ok {r : Rk} {ball : List Rg} (h : thrErr r xs ball = 0) : sureL r xs ball = natsI (listS (sureS r (pinS r xs) ball)) := by rw [sureL, if_pos h]
theorem mayL_ok {r : Rk} {ball : List Rg} (h : thrErr r xs ball = 0) : mayL r xs ball = natsI (listS (mayS r (pinS r xs) ball)) := by rw [mayL, if_pos h]
theorem leftV_ok {r : Rk} {ball : List Rg} (h : thrErr r xs ball = 0) : leftV r xs ball = leftN r (pinS r xs) ball := by rw [leftV, if_pos h]
/-- What can be left can still be left: nothing more surely falls, nothing less may, Left is not narrower. -/
theorem wide_law (h : thrErr r xs ball = 0) (h' : thrErr x xs other = 0) (hw : ∀ u, LeaveP r (pinS r xs) ball u → LeaveP x (pinS r xs) other u) :
    subB (sureL x xs other) (sureL r xs ball) = true ∧ subB (mayL r xs ball) (mayL x xs other) = true ∧ (leftV x xs other).1 ≤ (leftV r xs ball).1 ∧ (leftV r xs ball).2 ≤ (leftV x xs other).2 := by
  obtain ⟨a1, a2, a3, a4, a5⟩ := thr_parts h
  obtain ⟨b1, b2, b3, b4, b5⟩ := thr_parts h'
  have e := pinS_same a1 b1
  refine ⟨?_, ?_, ?_⟩
  · rw [sureL_ok h', sureL_ok h, subB_sets sureS_lt sureS_lt, e]
    intro p hp
    rw [sure_leaves pinS_lt b3 b4] at hp
    rw [sure_leaves pinS_lt a3 a4]
    exact ⟨hp.1, fun u hu => hp.2 u (hw u hu)⟩
  · rw [mayL_ok h', mayL_ok h, subB_sets mayS_lt mayS_lt, e]
    intro p hp
    rw [may_leaves pinS_lt a3 a4] at hp
    rw [may_leaves pinS_lt b3 b4]
    obtain ⟨hp1, u, hu, hp2⟩ := hp
    exact ⟨hp1, u, hw u hu, hp2⟩
  · rw [leftV_ok h', leftV_ok h, e]
    obtain ⟨c1, ⟨u, hu, hu2⟩, ⟨v, hv, hv2⟩⟩ := leftN_is (r := r) (pins := pinS r xs) (ball := ball) a4
    obtain ⟨d1, _, _⟩ := leftN_is (r := x) (pins := pinS r xs) (ball := other) b4
    have k1 := (d1 u (hw u hu)).1
    have k2 := (d1 v (hw v hv)).2
    omega
/-- Of each leave there is one of before with all its pins: nothing less surely falls, not more are left. -/
theorem better_law (h : thrErr r xs ball = 0) (h' : thrErr x xs other = 0) (hw : ∀ u, LeaveP x (pinS r xs) other u → ∃ v, LeaveP r (pinS r xs) ball v ∧ Sub u v) :
    subB (sureL r xs ball) (sureL x xs other) = true ∧ (leftV x xs other).1 ≤ (leftV x xs other).2 ∧ (leftV x xs other).2 ≤ (leftV r xs ball).2 := by
  obtain ⟨a1, a2, a3, a4, a5⟩ := thr_parts h
  obtain ⟨b1, b2, b3, b4, b5⟩ := thr_parts h'
  have e := pinS_same a1 b1
  refine ⟨?_, ?_⟩
  · rw [sureL_ok h', sureL_ok h, subB_sets sureS_lt sureS_lt, e]
    intro p hp
    rw [sure_leaves pinS_lt a3 a4] at hp
    rw [sure_leaves pinS_lt b3 b4]
    refine ⟨hp.1, fun u hu hup => ?_⟩
    obtain ⟨v, hv, hs⟩ := hw u hu
    exact hp.2 v hv (hs p hup)
  · rw [leftV_ok h', leftV_ok h, e]
    obtain ⟨c1, _, _⟩ := leftN_is (r := r) (pins := pinS r xs) (ball := ball) a4
    obtain ⟨d1, ⟨u, hu, hu2⟩, ⟨v, hv, hv2⟩⟩ := leftN_is (r := x) (pins := pinS r xs) (ball := other) b4
    have k1 := (d1 u hu).2
    obtain ⟨v', hv', hs⟩ := hw v hv
    have k2 := (c1 v' hv').2
    have k3 := many_mono (leave_lt hv) (leave_lt hv') hs
    omega
end
/-- One range wider. -/
def widerG (ball : List Rg) (k : Nat) (lo hi : Int) : List Rg := ball.set k ⟨lo, hi⟩
theorem gx_wider {ball : List Rg} {k j : Nat} {lo hi : Int} (hj : j < ball.length) : gx (widerG ball k lo hi) j = if k = j then ⟨lo, hi⟩ else gx ball j := by
  rw [gx_lt (by simpa [widerG] using hj), gx_lt hj]
  simp only [widerG, List.getElem_set]
theorem wide_range {r : Rk} {pins k : Nat} {ball : List Rg} {lo hi : Int} (h1 : lo ≤ (gx ball k).lo) (h2 : (gx ball k).hi ≤ hi) {u : Nat} (h : LeaveP r pins ball u) : LeaveP r pins (widerG ball k lo hi) u := by
  obtain ⟨b, c, hb, hc, rfl⟩ := h
  refine ⟨b, c, fun j hj => ?_, hc, rfl⟩
  have hj' : j < ball.length := by simpa [widerG] using hj
  have := hb j hj'
  rw [gx_wider hj']
  split
  · next e => subst e; dsimp only; omega
  · exact this
/-- One link more, that is not sure. -/
def moreK (r : Rk) (f t : Int) : Rk := { r with links := r.links ++ [⟨f, t, false⟩] }
theorem lx_append {ls : List Lk} {x : Lk} {i : Nat} (h : i < ls.length) : lx (ls ++ [x]) i = lx ls i := by
  simp [lx, List.getD_eq_getElem?_getD, List.getElem?_append_left h]
theorem lx_last {ls : List Lk} {x : Lk} : lx (ls ++ [x]) ls.length = x := by
  simp [lx, List.getD_eq_getElem?_getD]
theorem fall_more {ls : List Lk} {x : Lk} {c d : Nat → Bool} {pins s p : Nat} (hd : d ls.length = false) (hcd : ∀ i, i < ls.length → d i = c i) : Fall (ls ++ [x]) d pins s p ↔ Fall ls c pins s p := by
  constructor
  · intro h
    induction h with
    | base h => exact .base h
    | @step i hi hci _ ht ih =>
      have hi' : i < ls.length := by
        rw [List.length_append] at hi
        simp at hi
        rcases Nat.lt_or_ge i ls.length with h | h
        · exact h
        · rw [show i = ls.length by omega, hd] at hci; cases hci
      rw [lx_append hi'] at ih ht ⊢
      exact .step hi' (by rw [← hcd i hi']; exact hci) ih ht
  · intro h
    induction h with
    | base h => exact .base h
    | @step i hi hci _ ht ih =>
      have e := lx_append (x := x) hi
      rw [← e] at ih ht ⊢
      exact .step (by rw [List.length_append]; omega) (by rw [hcd i hi]; exact hci) ih ht
theorem wide_link {r : Rk} {pins : Nat} {ball : List Rg} {f t : Int} (hp : pins < 2 ^ 10) {u : Nat} (h : LeaveP r pins ball u) : LeaveP (moreK r f t) pins ball u := by
  obtain ⟨b, c, hb, hc, rfl⟩ := h
  refine ⟨b, fun i => if i = r.links.length then false else c i, hb, fun i hi hs => ?_, ?_⟩
  · have hi' : i < r.links.length + 1 := by simpa [moreK] using hi
    by_cases e : i = r.links.length
    · subst e
      rw [show lx (moreK r f t).links r.links.length = ⟨f, t, false⟩ from lx_last] at hs
      cases hs
    · rw [show lx (moreK r f t).links i = lx r.links i from lx_append (by omega)] at hs
      show (if i = r.links.length then false else c i) = true
      rw [if_neg e]
      exact hc i (by omega) hs
  · refine set_ext (n := 10) leftS_lt leftS_lt fun p _ => ?_
    rw [mem_leftS hp, mem_leftS hp]
    have : (felledS (moreK r f t) pins b (fun i => if i = r.links.length then false else c i)).testBit p = true ↔ (felledS r pins b c).testBit p = true := by
      rw [mem_felledS hp, mem_felledS hp]
      refine exists_congr fun row => and_congr_right fun _ => ?_
      exact fall_more (by simp) (fun i hi => if_neg (by omega))
    rw [this]
/-- A greater Reach. -/
def reachK (r : Rk) (n : Int) : Rk := { r with reach := n }
theorem better_reach {r : Rk} {pins : Nat} {ball : List Rg} {n : Int} (hp : pins < 2 ^ 10) (hn : r.reach ≤ n) {u : Nat} (h : LeaveP (reachK r n) pins ball u) : ∃ v, LeaveP r pins ball v ∧ Sub u v := by
  obtain ⟨b, c, hb, hc, rfl⟩ := h
  refine ⟨_, ⟨b, c, hb, hc, rfl⟩, fun p h => ?_⟩
  rw [mem_leftS hp] at h ⊢
  refine ⟨h.1, fun hf => h.2 ?_⟩
  rw [mem_felledS hp] at hf ⊢
  obtain ⟨row, h1, h2⟩ := hf
  refine ⟨row, h1, h2.mono (fun _ _ h => h) (fun q hq => ?_) Sub.rfl⟩
  rw [touchS, mem_bitsP] at hq ⊢
  refine ⟨hq.1, hq.2.1, hq.2.2.1, ?_⟩
  have h3 := hq.2.2.2
  unfold reachB at h3 ⊢
  rw [Bool.and_eq_true, decide_eq_true_eq, decide_eq_true_eq] at h3 ⊢
  have e : boardP (reachK r n) q = boardP r q := rfl
  rw [e]
  have e2 : (reachK r n).reach = n := rfl
  rw [e2]
  omega
/-- A link becomes sure. -/
def sureK (r : Rk) (k : Nat) : Rk := { r with links := r.links.set k ⟨(lx r.links k).f, (lx r.links k).t, true⟩ }
theorem lx_sure {r : Rk} {k i : Nat} (hi : i < r.links.length) : (lx (sureK r k).links i).f = (lx r.links i).f ∧ (lx (sureK r k).links i).t = (lx r.links i).t ∧ ((lx r.links i).s = true → (lx (sureK r k).links i).s = true) := by
  have e : lx (sureK r k).links i = if k = i then ⟨(lx r.links k).f, (lx r.links k).t, true⟩ else lx r.links i := by
    unfold lx sureK
    rw [List.getD_eq_getElem?_getD, List.getElem?_set]
    split
    · next e => subst e; rw [if_pos hi]; rfl
    · rw [List.getD_eq_getElem?_getD]
  rw [e]
  split
  · next e => subst e; exact ⟨rfl, rfl, fun _ => rfl⟩
  · exact ⟨rfl, rfl, fun h => h⟩
theorem fall_same {ls ms : List Lk} {c : Nat → Bool} {pins s p : Nat} (hn : ms.length = ls.length) (h : ∀ i, i < ls.length → (lx ms i).f = (lx ls i).f ∧ (lx ms i).t = (lx ls i).t) (hf : Fall ms c pins s p) : Fall ls c pins s p := by
  induction hf with
  | base h => exact .base h
  | @step i hi hci _ ht ih =>
    obtain ⟨h1, h2⟩ := h i (by omega)
    rw [h1] at ih
    rw [h2] at ht ⊢
    exact .step (by omega) hci ih ht
theorem better_sure {r : Rk} {pins k : Nat} {ball : List Rg} (hp : pins < 2 ^ 10) {u : Nat} (h : LeaveP (sureK r k) pins ball u) : ∃ v, LeaveP r pins ball v ∧ Sub u v := by
  obtain ⟨b, c, hb, hc, rfl⟩ := h
  have hn : (sureK r k).links.length = r.links.length := by simp [sureK]
  refine ⟨_, ⟨b, c, hb, fun i hi hs => hc i (by omega) ((lx_sure hi).2.2 hs), rfl⟩, fun p h => ?_⟩
  rw [mem_leftS hp] at h ⊢
  refine ⟨h.1, fun hf => h.2 ?_⟩
  rw [mem_felledS hp] at hf ⊢
  obtain ⟨row, h1, h2⟩ := hf
  refine ⟨row, h1, fall_same hn.symm (fun i hi => ?_) h2⟩
  have := lx_sure (r := r) (k := k) (i := i) (by omega)
  exact ⟨this.1.symm, this.2.1.symm⟩
end Go.Proofs.Ytpekajnjjhibjaa
