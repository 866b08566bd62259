/-
  ProveGame answers as IsGame and Fits together: plain facts.
-/
import Derived.Test.YtadjkinpimmhkaaIsGame
import Derived.Test.YtadjkinpimmhkaaMoreM
namespace Go.Proofs.Ytadjkinpimmhkaa
open Go.RowKit
set_option linter.unusedSimpArgs false
set_option linter.unusedVariables false

def pairR (xs : List Int) : Nat × Nat := ((10 - ix xs 0).toNat, if xs.length = 2 then (10 - ix xs 0 - ix xs 1).toNat else 0)
theorem isR_iff {xs : List Int} : isR xs = true ↔ (xs.length = 1 ∧ ix xs 0 = 10) ∨ (xs.length = 2 ∧ 0 ≤ ix xs 0 ∧ ix xs 0 ≤ 9 ∧ 0 ≤ ix xs 1 ∧ ix xs 1 ≤ 10 - ix xs 0) := by
  unfold isR
  by_cases h : ix xs 0 = 10
  · rw [if_pos h]
    simp only [Bool.and_eq_true, decide_eq_true_eq, inB_eq]
    omega
  · rw [if_neg h]
    simp only [Bool.and_eq_true, decide_eq_true_eq, inB_eq]
    omega
theorem prR_eq (ws : List Wd) (o : Nat → Bool) (f : Nat) (xs : List Int) : prR ws o f xs = (isR xs && decide (pairR xs ∈ gamesL ws (f : Int) o)) := by
  have e : prR ws o f xs = (inB (xs.length : Int) 1 2 && (inB (ix xs 0) 0 10 && ((decide (ix xs 0 = 10) == decide (xs.length = 1)) && ((decide (xs.length ≠ 2) || inB (ix xs 1) 0 (10 - ix xs 0)) && decide (pairR xs ∈ gamesL ws (f : Int) o))))) := rfl
  rw [e]
  by_cases hP : pairR xs ∈ gamesL ws (f : Int) o
  · rw [decide_eq_true hP, Bool.and_true, Bool.and_true]
    refine Bool.eq_iff_iff.2 ?_
    rw [isR_iff]
    simp only [Bool.and_eq_true, inB_eq, decide_eq_true_eq, Bool.or_eq_true, beq_iff_eq, decide_eq_decide]
    omega
  · rw [decide_eq_false hP]
    simp
theorem isG_iff {m : Nat} {game : List (List Int)} : isG m game = true ↔ game.length = m ∧ ∀ f, f < game.length → isR (rx game f) = true := by
  unfold isG
  rw [Bool.and_eq_true, decide_eq_true_eq, allB_iff]
  rfl
theorem proveB_iff {m : Nat} {ws : List Wd} {o : Nat → Bool} {game : List (List Int)} : proveB m ws o game = true ↔ isG m game = true ∧ ∀ f, f < m → pairR (rx game f) ∈ gamesL ws (f : Int) o := by
  unfold proveB
  rw [Bool.and_eq_true, decide_eq_true_eq, allB_iff, isG_iff]
  constructor
  · rintro ⟨rfl, h⟩
    refine ⟨⟨rfl, fun f hf => ?_⟩, fun f hf => ?_⟩
    · have := h f hf
      dsimp only at this
      rw [prR_eq, Bool.and_eq_true] at this
      exact this.1
    · have := h f hf
      dsimp only at this
      rw [prR_eq, Bool.and_eq_true, decide_eq_true_eq] at this
      exact this.2
  · rintro ⟨⟨rfl, h⟩, h2⟩
    refine ⟨rfl, fun f hf => ?_⟩
    dsimp only
    rw [prR_eq, h f hf, decide_eq_true (h2 f hf)]
    rfl
theorem is_vals {xs : List Int} (h : isR xs = true) : ∀ j, j < xs.length → 0 ≤ ix xs j ∧ ix xs j ≤ 10 := fun j hj => by
  rcases isR_iff.1 h with ⟨h1, h2⟩ | ⟨h1, h2, h3, h4, h5⟩
  · obtain rfl : j = 0 := by omega
    omega
  · rcases (by omega : j = 0 ∨ j = 1) with rfl | rfl <;> omega
theorem behR_pair {game : List (List Int)} {f b : Nat} (h : isR (rx game f) = true) (hb : b ≤ 1) : behR game f b = if b = 0 then ((pairR (rx game f)).1 : Int) else ((pairR (rx game f)).2 : Int) := by
  unfold behR pairR
  generalize rx game f = xs at *
  rcases isR_iff.1 h with ⟨h1, h2⟩ | ⟨h1, h2, h3, h4, h5⟩
  · rcases (by omega : b = 0 ∨ b = 1) with rfl | rfl
    · rw [h1]; simp [behN]; omega
    · rw [h1]; simp [behN]; omega
  · rcases (by omega : b = 0 ∨ b = 1) with rfl | rfl
    · rw [h1]; simp [behN]; omega
    · rw [h1]; simp [behN]; omega
theorem proves_eq {m : Nat} {ws : List Wd} {ts : List Int} {game : List (List Int)} (hok : ∀ k, k < ws.length → wordB (m : Int) (wx ws k) = true) (hg : isG m game = true) : proveB m ws (offT ts) game = fitG ws ts game := by
  obtain ⟨hl, hr⟩ := isG_iff.1 hg
  refine Bool.eq_iff_iff.2 ?_
  rw [proveB_iff]
  unfold fitG
  rw [allB_iff]
  constructor
  · rintro ⟨-, h⟩ k hk
    have hw := hok k hk
    simp only [wordB, Bool.and_eq_true, inB_eq, decide_eq_true_eq] at hw
    have h1 := okW_iff.1 (okB_mem.1 (games_iff.1 (h (wx ws k).fr.toNat (by omega))).2 _ (wx_mem hk)) (by omega)
    show fitW ts game (wx ws k) = true
    unfold fitW
    rw [hasB_offT (by omega), Bool.or_eq_true, inB_eq, behR_pair (hr _ (by omega)) (by omega)]
    cases ho : offT ts (wx ws k).te.toNat
    · refine .inr ?_
      have h2 := h1 ho
      unfold standB at h2
      by_cases hb : (wx ws k).ba = 0
      · rw [if_pos hb] at h2; rw [hb]; exact h2
      · rw [if_neg hb] at h2; rw [if_neg (by omega)]; exact h2
    · exact .inl rfl
  · intro h
    refine ⟨hg, fun f hf => games_iff.2 ⟨?_, okB_mem.2 fun x hx => okW_iff.2 fun hfr hot => ?_⟩⟩
    · have := hr f (by omega)
      rw [upTo_iff]
      unfold pairR
      rcases isR_iff.1 this with ⟨h1, h2⟩ | ⟨h1, h2, h3, h4, h5⟩
      · rw [h1, h2]; simp
      · rw [h1]; simp; omega
    · obtain ⟨k, hk, rfl⟩ := mem_wx hx
      have hw := hok k hk
      simp only [wordB, Bool.and_eq_true, inB_eq, decide_eq_true_eq] at hw
      have h1 := h k hk
      dsimp only at h1
      unfold fitW at h1
      have hft : (wx ws k).fr.toNat = f := by omega
      rw [hasB_offT (by omega), hot, Bool.false_or, inB_eq, behR_pair (hr _ (by omega)) (by omega), hft] at h1
      unfold standB
      by_cases hb : (wx ws k).ba = 0
      · rw [if_pos hb]; rw [hb] at h1; exact h1
      · rw [if_neg hb]; rw [if_neg (by omega)] at h1; exact h1
theorem proves_no {m : Nat} {ws : List Wd} {o : Nat → Bool} {game : List (List Int)} (hg : isG m game = false) : proveB m ws o game = false := by
  refine Bool.eq_false_iff.2 fun h => ?_
  rw [(proveB_iff.1 h).1] at hg
  cases hg
end Go.Proofs.Ytadjkinpimmhkaa
