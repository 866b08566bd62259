/-
  The counts of a sheet, in plain Lean: how many balls there are up to the end of each frame, how many more its count needs, and the counts themselves.
-/
import Derived.Test.YtenpiinkbfancaaFrM
namespace Go.Proofs.Ytenpiinkbfancaa
set_option linter.unusedSimpArgs false
set_option linter.unusedVariables false

/-- How many balls frame f has among the first k. -/
def nfS (N : Int) (xs : List Int) (k : Nat) (f : Nat) : Nat := (rx (rowsS N xs k) f).length
/-- What the balls of the frame of ball k fell, up to it. -/
def firstS (N : Int) (xs : List Int) (k : Nat) : Int := ((xs.take (k + 1)).drop (k + 1 - nfS N xs (k + 1) (plS N xs k).fr.toNat)).sum
def newM (N : Int) (xs : List Int) (k : Nat) : Int :=
  if (plS N xs k).fr < N - 1 ∧ firstS N xs k = 10 ∧ nfS N xs (k + 1) (plS N xs k).fr.toNat < 3 then 3 - (nfS N xs (k + 1) (plS N xs k).fr.toNat : Int) else 0
def endsS (N : Int) (xs : List Int) : Nat → List Int
  | 0 => []
  | k + 1 => if (plS N xs k).fr < (plS N xs (k + 1)).fr then endsS N xs k ++ [(k : Int) + 1] else endsS N xs k
def moreS (N : Int) (xs : List Int) : Nat → List Int
  | 0 => []
  | k + 1 => if (plS N xs k).fr < (plS N xs (k + 1)).fr then moreS N xs k ++ [newM N xs k] else moreS N xs k
theorem ends_len {N : Int} {xs : List Int} : ∀ k, k ≤ xs.length → ((endsS N xs k).length : Int) = (plS N xs k).fr
  | 0, _ => rfl
  | k + 1, hk => by
    have h1 := ends_len (N := N) (xs := xs) k (by omega)
    have h2 := nextP_fr (N := N) (p := plS N xs k) (b := ix xs k)
    rw [← plS_succ (by omega)] at h2
    simp only [endsS]
    split
    · simp only [List.length_append, List.length_cons, List.length_nil]; omega
    · omega
theorem more_len {N : Int} {xs : List Int} : ∀ k, (moreS N xs k).length = (endsS N xs k).length
  | 0 => rfl
  | k + 1 => by
    have h1 := more_len (N := N) (xs := xs) k
    simp only [endsS, moreS]
    split
    · simp only [List.length_append, List.length_cons, List.length_nil]; omega
    · omega
theorem ix_snoc {xs : List Int} {y : Int} {j : Nat} (h : j < xs.length) : ix (xs ++ [y]) j = ix xs j := by
  rw [ix_lt (by simp; omega), List.getElem_append_left h, ← ix_lt h]
theorem ix_last {xs : List Int} {y : Int} : ix (xs ++ [y]) xs.length = y := by
  rw [ix_lt (by simp)]
  simp
theorem ends_bd {N : Int} {xs : List Int} : ∀ k, ∀ j, j < (endsS N xs k).length → 1 ≤ ix (endsS N xs k) j ∧ ix (endsS N xs k) j ≤ k
  | 0, j, hj => by simp [endsS] at hj
  | k + 1, j, hj => by
    simp only [endsS] at hj ⊢
    by_cases c : (plS N xs k).fr < (plS N xs (k + 1)).fr
    · rw [if_pos c] at hj ⊢
      by_cases h1 : j < (endsS N xs k).length
      · rw [ix_snoc h1]
        have := ends_bd (N := N) (xs := xs) k j h1
        omega
      · have : j = (endsS N xs k).length := by simp at hj; omega
        subst this
        rw [ix_last]
        omega
    · rw [if_neg c] at hj ⊢
      have := ends_bd (N := N) (xs := xs) k j hj
      omega
theorem ends_mono {N : Int} {xs : List Int} : ∀ k, ∀ j, j + 1 < (endsS N xs k).length → ix (endsS N xs k) j ≤ ix (endsS N xs k) (j + 1)
  | 0, j, hj => by simp [endsS] at hj
  | k + 1, j, hj => by
    simp only [endsS] at hj ⊢
    by_cases c : (plS N xs k).fr < (plS N xs (k + 1)).fr
    · rw [if_pos c] at hj ⊢
      by_cases h1 : j + 1 < (endsS N xs k).length
      · rw [ix_snoc h1, ix_snoc (by omega)]
        exact ends_mono k j h1
      · have : j + 1 = (endsS N xs k).length := by simp at hj; omega
        rw [this, ix_last, ix_snoc (by omega)]
        have := ends_bd (N := N) (xs := xs) k j (by omega)
        omega
    · rw [if_neg c] at hj ⊢
      exact ends_mono k j hj
theorem newM_bd {N : Int} {xs : List Int} {k : Nat} : 0 ≤ newM N xs k ∧ newM N xs k ≤ 3 := by
  unfold newM
  split <;> omega
theorem more_bd {N : Int} {xs : List Int} : ∀ k, ∀ j, j < (moreS N xs k).length → 0 ≤ ix (moreS N xs k) j ∧ ix (moreS N xs k) j ≤ 3
  | 0, j, hj => by simp [moreS] at hj
  | k + 1, j, hj => by
    simp only [moreS] at hj ⊢
    by_cases c : (plS N xs k).fr < (plS N xs (k + 1)).fr
    · rw [if_pos c] at hj ⊢
      by_cases h1 : j < (moreS N xs k).length
      · rw [ix_snoc h1]
        exact more_bd k j h1
      · have : j = (moreS N xs k).length := by simp at hj; omega
        subst this
        rw [ix_last]
        exact newM_bd
    · rw [if_neg c] at hj ⊢
      exact more_bd k j hj

/-- Up to where the count of frame j goes, and from where. -/
def upTo_ (N : Int) (xs : List Int) (j : Nat) : Nat := (ix (endsS N xs xs.length) j + ix (moreS N xs xs.length) j).toNat
def fromS (N : Int) (xs : List Int) : Nat → Nat
  | 0 => 0
  | j + 1 => (ix (endsS N xs xs.length) j).toNat
def partS (N : Int) (xs : List Int) (j : Nat) : Int := ((xs.take (upTo_ N xs j)).drop (fromS N xs j)).sum
/-- The counts of the first j frames. -/
def outL (N : Int) (xs : List Int) : Nat → List Int
  | 0 => []
  | j + 1 => outL N xs j ++ [partS N xs j + (if j = 0 then 0 else ix (outL N xs j) (j - 1))]
theorem outL_len (N : Int) (xs : List Int) : ∀ j, (outL N xs j).length = j
  | 0 => rfl
  | j + 1 => by rw [outL, List.length_append, outL_len N xs j]; rfl
theorem sum_bd : ∀ (l : List Int), (∀ x ∈ l, 0 ≤ x ∧ x ≤ 10) → 0 ≤ l.sum ∧ l.sum ≤ 10 * (l.length : Int)
  | [], _ => by simp
  | x :: l, h => by
    have h1 := sum_bd l (fun y hy => h y (List.mem_cons_of_mem _ hy))
    have h2 := h x (List.mem_cons_self ..)
    simp only [List.sum_cons, List.length_cons]
    omega
theorem mem_bd {N : Int} {xs : List Int} (h : SheetOk N xs) : ∀ x ∈ xs, 0 ≤ x ∧ x ≤ 10 := by
  intro x hx
  obtain ⟨k, hk, rfl⟩ := List.getElem_of_mem hx
  rw [← ix_lt hk]
  exact ball_bd h hk
theorem slice_bd {N : Int} {xs : List Int} (h : SheetOk N xs) (a b : Nat) : 0 ≤ ((xs.take a).drop b).sum ∧ ((xs.take a).drop b).sum ≤ 400 := by
  have h1 := sum_bd ((xs.take a).drop b) (fun x hx => mem_bd h x (List.mem_of_mem_take (List.mem_of_mem_drop hx)))
  have h2 : ((xs.take a).drop b).length ≤ 40 := by
    have := h.len
    simp
    omega
  omega
theorem outL_bd {N : Int} {xs : List Int} (h : SheetOk N xs) : ∀ j, ∀ i, i < j → 0 ≤ ix (outL N xs j) i ∧ ix (outL N xs j) i ≤ 400 * ((i : Int) + 1)
  | 0, i, hi => by omega
  | j + 1, i, hi => by
    rw [outL]
    by_cases h1 : i < j
    · rw [ix_snoc (by rw [outL_len]; exact h1)]
      exact outL_bd h j i h1
    · have : i = j := by omega
      subst this
      have hs := slice_bd h (upTo_ N xs i) (fromS N xs i)
      have e := ix_last (xs := outL N xs i) (y := partS N xs i + (if i = 0 then 0 else ix (outL N xs i) (i - 1)))
      rw [outL_len] at e
      rw [e]
      unfold partS
      split
      · omega
      · have := outL_bd h i (i - 1) (by omega)
        omega
/-- What the counts of a sheet are: those of the first frames, up to one that is not settled. -/
def CntP (N : Int) (xs zs : List Int) : Prop := ∃ j, j ≤ (endsS N xs xs.length).length ∧ zs = outL N xs j ∧ (j = (endsS N xs xs.length).length ∨ xs.length < upTo_ N xs j)
theorem cnt_told {zs : List Int} (h : CntP 2 [5, 3] zs) : zs = [8] := by
  obtain ⟨j, hj, rfl, h1⟩ := h
  have e1 : (endsS 2 [5, 3] ([5, 3] : List Int).length).length = 1 := by decide +kernel
  have e2 : upTo_ 2 [5, 3] 0 = 2 := by decide +kernel
  have e3 : outL 2 [5, 3] 1 = [8] := by decide +kernel
  have : j = 1 := by
    rcases h1 with h1 | h1
    · omega
    · rw [e1] at hj
      rcases (by omega : j = 0 ∨ j = 1) with rfl | rfl
      · rw [e2] at h1; simp at h1
      · rfl
  rw [this, e3]
end Go.Proofs.Ytenpiinkbfancaa
