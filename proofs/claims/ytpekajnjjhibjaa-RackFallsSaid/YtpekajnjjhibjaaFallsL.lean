/-
  What the loops of the statement RackFalls work out of all leaves: plain facts; no program.
-/
import Derived.Test.YtpekajnjjhibjaaLeavesL
namespace Go.Proofs.Ytpekajnjjhibjaa
open Go.RowKit
set_option linter.unusedVariables false
set_option linter.unusedSimpArgs false

def minL (n0 : Int) (L : List (List Int)) : Nat → Int
  | 0 => n0
  | k + 1 => min (minL n0 L k) ((rx L k).length : Int)
def maxL (n0 : Int) (L : List (List Int)) : Nat → Int
  | 0 => n0
  | k + 1 => max (maxL n0 L k) ((rx L k).length : Int)
def anyL (p : List Int → Bool) (L : List (List Int)) : Nat → Bool
  | 0 => false
  | k + 1 => anyL p L k || p (rx L k)
def allL (p : List Int → Bool) (L : List (List Int)) : Nat → Bool
  | 0 => true
  | k + 1 => allL p L k && p (rx L k)
theorem anyL_iff {p : List Int → Bool} {L : List (List Int)} : ∀ k, anyL p L k = true ↔ ∃ j, j < k ∧ p (rx L j) = true
  | 0 => by simp [anyL]
  | k + 1 => by
    rw [anyL, Bool.or_eq_true, anyL_iff k]
    constructor
    · rintro (⟨j, h1, h2⟩ | h)
      · exact ⟨j, by omega, h2⟩
      · exact ⟨k, by omega, h⟩
    · rintro ⟨j, h1, h2⟩
      by_cases e : j = k
      · subst e; exact .inr h2
      · exact .inl ⟨j, by omega, h2⟩
theorem allL_iff {p : List Int → Bool} {L : List (List Int)} : ∀ k, allL p L k = true ↔ ∀ j, j < k → p (rx L j) = true
  | 0 => by simp [allL]
  | k + 1 => by
    rw [allL, Bool.and_eq_true, allL_iff k]
    constructor
    · rintro ⟨h1, h2⟩ j hj
      by_cases e : j = k
      · subst e; exact h2
      · exact h1 j (by omega)
    · intro h
      exact ⟨fun j hj => h j (by omega), h k (by omega)⟩
theorem any_mem {p : List Int → Bool} {L : List (List Int)} : anyL p L L.length = true ↔ ∃ l ∈ L, p l = true := by
  rw [anyL_iff]
  constructor
  · rintro ⟨j, h1, h2⟩
    rw [rx_lt h1] at h2
    exact ⟨_, List.getElem_mem h1, h2⟩
  · rintro ⟨l, h1, h2⟩
    obtain ⟨j, hj, rfl⟩ := List.getElem_of_mem h1
    exact ⟨j, hj, by rw [rx_lt hj]; exact h2⟩
theorem all_mem {p : List Int → Bool} {L : List (List Int)} : allL p L L.length = true ↔ ∀ l ∈ L, p l = true := by
  rw [allL_iff]
  constructor
  · intro h l h1
    obtain ⟨j, hj, rfl⟩ := List.getElem_of_mem h1
    have := h j hj
    rwa [rx_lt hj] at this
  · intro h j hj
    rw [rx_lt hj]
    exact h _ (List.getElem_mem hj)
theorem minL_spec {n0 : Int} {L : List (List Int)} : ∀ k, (∀ j, j < k → minL n0 L k ≤ ((rx L j).length : Int)) ∧ minL n0 L k ≤ n0 ∧ (minL n0 L k = n0 ∨ ∃ j, j < k ∧ minL n0 L k = ((rx L j).length : Int))
  | 0 => ⟨fun j hj => by omega, Int.le_refl _, .inl rfl⟩
  | k + 1 => by
    obtain ⟨h1, h2, h3⟩ := minL_spec (n0 := n0) (L := L) k
    rw [minL]
    refine ⟨fun j hj => ?_, by omega, ?_⟩
    · by_cases e : j = k
      · subst e; omega
      · have := h1 j (by omega); omega
    · by_cases e : minL n0 L k ≤ ((rx L k).length : Int)
      · rw [Int.min_eq_left e]
        rcases h3 with h3 | ⟨j, h4, h5⟩
        · exact .inl h3
        · exact .inr ⟨j, by omega, h5⟩
      · exact .inr ⟨k, by omega, by omega⟩
theorem maxL_spec {n0 : Int} {L : List (List Int)} : ∀ k, (∀ j, j < k → ((rx L j).length : Int) ≤ maxL n0 L k) ∧ n0 ≤ maxL n0 L k ∧ (maxL n0 L k = n0 ∨ ∃ j, j < k ∧ maxL n0 L k = ((rx L j).length : Int))
  | 0 => ⟨fun j hj => by omega, Int.le_refl _, .inl rfl⟩
  | k + 1 => by
    obtain ⟨h1, h2, h3⟩ := maxL_spec (n0 := n0) (L := L) k
    rw [maxL]
    refine ⟨fun j hj => ?_, by omega, ?_⟩
    · by_cases e : j = k
      · subst e; omega
      · have := h1 j (by omega); omega
    · by_cases e : ((rx L k).length : Int) ≤ maxL n0 L k
      · rw [Int.max_eq_left e]
        rcases h3 with h3 | ⟨j, h4, h5⟩
        · exact .inl h3
        · exact .inr ⟨j, by omega, h5⟩
      · exact .inr ⟨k, by omega, by omega⟩
/-- The pins that are in no leave; those that are not in some. -/
def sureT (xs : List Int) (L : List (List Int)) : Nat → List Int
  | 0 => []
  | k + 1 => if allL (fun l => !hasB l (ix xs k)) L L.length then sureT xs L k ++ [ix xs k] else sureT xs L k
def mayT (xs : List Int) (L : List (List Int)) : Nat → List Int
  | 0 => []
  | k + 1 => if anyL (fun l => !hasB l (ix xs k)) L L.length then mayT xs L k ++ [ix xs k] else mayT xs L k
theorem sureT_len (xs : List Int) (L : List (List Int)) : ∀ k, (sureT xs L k).length ≤ k
  | 0 => Nat.le_refl _
  | k + 1 => by
    have := sureT_len xs L k
    rw [sureT]; split
    · rw [List.length_append]; exact Nat.succ_le_succ this
    · omega
theorem mayT_len (xs : List Int) (L : List (List Int)) : ∀ k, (mayT xs L k).length ≤ k
  | 0 => Nat.le_refl _
  | k + 1 => by
    have := mayT_len xs L k
    rw [mayT]; split
    · rw [List.length_append]; exact Nat.succ_le_succ this
    · omega
theorem sureT_is {l : List Nat} {L : List (List Int)} : ∀ k, k ≤ l.length → sureT (natsI l) L k = natsI ((l.take k).filter fun (p : Nat) => allL (fun l => !hasB l (p : Int)) L L.length)
  | 0, _ => rfl
  | k + 1, h => by
    rw [sureT, sureT_is k (by omega), ix_nats (by omega), List.take_succ_eq_append_getElem (by omega), List.filter_append]
    cases e : allL (fun x => !hasB x (l[k] : Int)) L L.length
    · simp [e, natsI]
    · simp [e, natsI]
theorem mayT_is {l : List Nat} {L : List (List Int)} : ∀ k, k ≤ l.length → mayT (natsI l) L k = natsI ((l.take k).filter fun (p : Nat) => anyL (fun l => !hasB l (p : Int)) L L.length)
  | 0, _ => rfl
  | k + 1, h => by
    rw [mayT, mayT_is k (by omega), ix_nats (by omega), List.take_succ_eq_append_getElem (by omega), List.filter_append]
    cases e : anyL (fun x => !hasB x (l[k] : Int)) L L.length
    · simp [e, natsI]
    · simp [e, natsI]
section
variable {r : Rk} {xs leave : List Int} {ball : List Rg}
theorem falls_law (h : thrErr r xs ball = 0) :
    minL (xs.length : Int) (leavesL r (pinS r xs) ball) (leavesL r (pinS r xs) ball).length = ((leftV r xs ball).1 : Int) ∧ maxL 0 (leavesL r (pinS r xs) ball) (leavesL r (pinS r xs) ball).length = ((leftV r xs ball).2 : Int) ∧
    anyL (fun l => eqB l leave) (leavesL r (pinS r xs) ball) (leavesL r (pinS r xs) ball).length = canB r xs ball leave ∧
    sureT xs (leavesL r (pinS r xs) ball) xs.length = sureL r xs ball ∧ mayT xs (leavesL r (pinS r xs) ball) xs.length = mayL r xs ball := by
  obtain ⟨a1, a2, a3, a4, a5⟩ := thr_parts h
  have hs := pinS_lt (r := r) (xs := xs)
  have hm : ∀ l, l ∈ leavesL r (pinS r xs) ball ↔ ∃ u, LeaveP r (pinS r xs) ball u ∧ l = natsI (listS u) := fun l => mem_leavesL hs a3
  have hlen := len_many a1
  obtain ⟨c1, ⟨u1, hu1, hu2⟩, ⟨v1, hv1, hv2⟩⟩ := leftN_is (r := r) (pins := pinS r xs) (ball := ball) a4
  have hle : ∀ u, LeaveP r (pinS r xs) ball u → many u ≤ many (pinS r xs) := fun u hu => many_mono (leave_lt hu) hs (leave_sub hs hu)
  have hat : ∀ u, LeaveP r (pinS r xs) ball u → ∃ j, j < (leavesL r (pinS r xs) ball).length ∧ (rx (leavesL r (pinS r xs) ball) j).length = many u := fun u hu => by
    obtain ⟨j, hj, e⟩ := List.getElem_of_mem ((hm _).2 ⟨u, hu, rfl⟩)
    exact ⟨j, hj, by rw [rx_lt hj, e, natsI_len]; rfl⟩
  have hof : ∀ j, j < (leavesL r (pinS r xs) ball).length → ∃ u, LeaveP r (pinS r xs) ball u ∧ (rx (leavesL r (pinS r xs) ball) j).length = many u := fun j hj => by
    obtain ⟨u, hu, e⟩ := (hm _).1 (List.getElem_mem hj)
    exact ⟨u, hu, by rw [rx_lt hj, e, natsI_len]; rfl⟩
  refine ⟨?_, ?_, ?_, ?_, ?_⟩
  · rw [leftV, if_pos h]
    obtain ⟨m1, m2, m3⟩ := minL_spec (n0 := (xs.length : Int)) (L := leavesL r (pinS r xs) ball) (leavesL r (pinS r xs) ball).length
    obtain ⟨j, hj, ej⟩ := hat u1 hu1
    have k1 := m1 j hj
    have k2 := hle u1 hu1
    rcases m3 with m3 | ⟨i, hi, m3⟩
    · omega
    · obtain ⟨u, hu, eu⟩ := hof i hi
      have := (c1 u hu).1
      omega
  · rw [leftV, if_pos h]
    obtain ⟨m1, m2, m3⟩ := maxL_spec (n0 := 0) (L := leavesL r (pinS r xs) ball) (leavesL r (pinS r xs) ball).length
    obtain ⟨j, hj, ej⟩ := hat v1 hv1
    have k1 := m1 j hj
    rcases m3 with m3 | ⟨i, hi, m3⟩
    · omega
    · obtain ⟨u, hu, eu⟩ := hof i hi
      have := (c1 u hu).2
      omega
  · rw [Bool.eq_iff_iff, any_mem, canB_iff]
    constructor
    · rintro ⟨l, hl, he⟩
      rw [eqB, decide_eq_true_eq] at he
      subst he
      obtain ⟨u, hu, rfl⟩ := (hm _).1 hl
      obtain ⟨p1, p2⟩ := leave_pins a1 hu
      exact ⟨h, p1, by rw [p2]; exact hu⟩
    · rintro ⟨_, p1, p2⟩
      exact ⟨leave, (hm _).2 ⟨_, p2, pins_list p1⟩, decide_eq_true rfl⟩
  · have e := pins_list a1
    rw [sureL, if_pos h]
    have hl : xs.length = (listS (pinS r xs)).length := hlen
    have e2 : sureT xs (leavesL r (pinS r xs) ball) xs.length = sureT (natsI (listS (pinS r xs))) (leavesL r (pinS r xs) ball) (listS (pinS r xs)).length := by rw [hl]; exact congrArg (fun z => sureT z _ _) e
    rw [e2, sureT_is _ (Nat.le_refl _), List.take_length]
    refine congrArg natsI (rising_ext (List.Pairwise.filter _ (rising_listS _)) (rising_listS _) fun p => ?_)
    rw [List.mem_filter, mem_listS, mem_listS, all_mem, sure_leaves hs a3 a4]
    constructor
    · rintro ⟨⟨h1, h2⟩, h3⟩
      refine ⟨h1, h2, fun u hu hp => ?_⟩
      have := h3 _ ((hm _).2 ⟨u, hu, rfl⟩)
      rw [Bool.not_eq_true', ← Bool.not_eq_true, hasB_iff, mem_natsS_nat (leave_lt hu)] at this
      exact this hp
    · rintro ⟨h1, h2, h3⟩
      refine ⟨⟨h1, h2⟩, fun l hl => ?_⟩
      obtain ⟨u, hu, rfl⟩ := (hm _).1 hl
      rw [Bool.not_eq_true', ← Bool.not_eq_true, hasB_iff, mem_natsS_nat (leave_lt hu)]
      exact h3 u hu
  · have e := pins_list a1
    rw [mayL, if_pos h]
    have hl : xs.length = (listS (pinS r xs)).length := hlen
    have e2 : mayT xs (leavesL r (pinS r xs) ball) xs.length = mayT (natsI (listS (pinS r xs))) (leavesL r (pinS r xs) ball) (listS (pinS r xs)).length := by rw [hl]; exact congrArg (fun z => mayT z _ _) e
    rw [e2, mayT_is _ (Nat.le_refl _), List.take_length]
    refine congrArg natsI (rising_ext (List.Pairwise.filter _ (rising_listS _)) (rising_listS _) fun p => ?_)
    rw [List.mem_filter, mem_listS, mem_listS, any_mem, may_leaves hs a3 a4]
    constructor
    · rintro ⟨⟨h1, h2⟩, l, hl, h3⟩
      obtain ⟨u, hu, rfl⟩ := (hm _).1 hl
      rw [Bool.not_eq_true', ← Bool.not_eq_true, hasB_iff, mem_natsS_nat (leave_lt hu)] at h3
      exact ⟨h1, h2, u, hu, h3⟩
    · rintro ⟨h1, h2, u, hu, h3⟩
      refine ⟨⟨h1, h2⟩, _, (hm _).2 ⟨u, hu, rfl⟩, ?_⟩
      rw [Bool.not_eq_true', ← Bool.not_eq_true, hasB_iff, mem_natsS_nat (leave_lt hu)]
      exact h3
end
end Go.Proofs.Ytpekajnjjhibjaa
