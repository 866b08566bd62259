/-
  Frames in each of which a ball goes at ten pins within bounds, and nobody saw how many were left: what is told of their places, of the count, and that what happened is one of their games.
-/
import Derived.Test.YtenpiinkbfancaaSnE
namespace Go.Proofs.Ytenpiinkbfancaa.Sn
open Go.RowKit
set_option linter.unusedSimpArgs false
set_option linter.unusedVariables false

/-- The word of frame f; those of the first m frames. -/
def stoodW (a b : Nat) (f : Nat) : Wd := ⟨(f : Int), 0, 0, (a : Int), (b : Int)⟩
def stoodL (a b m : Nat) : List Wd := (List.range m).map (stoodW a b)
theorem stoodL_succ (a b k : Nat) : stoodL a b (k + 1) = stoodL a b k ++ [stoodW a b k] := by simp [stoodL, List.range_succ]
theorem stoodL_len (a b m : Nat) : (stoodL a b m).length = m := by simp [stoodL]
theorem stood_lane {a b m : Nat} (hab : a ≤ b) (hb : b ≤ 10) (h1 : 1 ≤ m) (h5 : m ≤ 5) : laneErr (m : Int) (stoodL a b m) = 0 := by
  refine lane_mk h1 h5 (by rw [stoodL_len]; omega) fun x hx => ?_
  simp only [stoodL, List.mem_map, List.mem_range] at hx
  obtain ⟨f, hf, rfl⟩ := hx
  unfold wordB stoodW
  simp [inB]
  omega
def stG (a b : Nat) : List (Nat × Nat) := (upTo 11 0).filter fun p => decide (a ≤ p.1) && decide (p.1 ≤ b)
theorem stood_games {a b m f : Nat} (hf : f < m) : gamesL (stoodL a b m) (f : Int) (offT []) = stG a b := by
  unfold gamesL gamesTo stG
  refine List.filter_congr fun p _ => ?_
  rw [Bool.eq_iff_iff, okB_mem]
  simp only [stoodL, List.mem_map, List.mem_range, Bool.and_eq_true, decide_eq_true_eq]
  constructor
  · intro h
    have := okW_iff.1 (h _ ⟨f, hf, rfl⟩) rfl rfl
    simp only [stoodW, standB, if_pos] at this
    omega
  · rintro h x ⟨j, hj, rfl⟩
    rw [okW_iff]
    intro _ _
    simp only [stoodW, standB, if_pos]
    omega
theorem stG_all : ∀ a : Fin 11, ∀ b : Fin 11, a.1 ≤ b.1 → loS (fsts (stG a.1 b.1)) = (a.1 : Int) ∧ hiS (fsts (stG a.1 b.1)) = (b.1 : Int) ∧ loS (snds (stG a.1 b.1)) = 0 ∧ hiS (snds (stG a.1 b.1)) = (b.1 : Int) ∧ 0 < (stG a.1 b.1).length := by decide +kernel
theorem stG_is {a b : Nat} (hab : a ≤ b) (hb : b ≤ 10) : loS (fsts (stG a b)) = (a : Int) ∧ hiS (fsts (stG a b)) = (b : Int) ∧ loS (snds (stG a b)) = 0 ∧ hiS (snds (stG a b)) = (b : Int) ∧ 0 < (stG a b).length :=
  stG_all ⟨a, by omega⟩ ⟨b, by omega⟩ hab
theorem stood_expl {a b m : Nat} (hab : a ≤ b) (hb : b ≤ 10) (h1 : 1 ≤ m) (h5 : m ≤ 5) : exErr (m : Int) (stoodL a b m) [] = 0 := by
  have h0 : askErr (m : Int) (stoodL a b m) [] = 0 := by
    unfold askErr
    rw [if_pos (stood_lane hab hb h1 h5)]
    simp [riseB, allB]
  unfold exErr
  rw [if_pos h0, if_pos]
  unfold explB
  rw [allB_iff]
  intro f hf
  dsimp only
  rw [stood_games (by simpa using hf)]
  exact decide_eq_true (stG_is hab hb).2.2.2.2
theorem stood_ask {a b m : Nat} (hab : a ≤ b) (hb : b ≤ 10) (h1 : 1 ≤ m) (h5 : m ≤ 5) : askErr (m : Int) (stoodL a b m) [] = 0 := by
  unfold askErr
  rw [if_pos (stood_lane hab hb h1 h5)]
  simp [riseB, allB]
theorem stood_rgs {a b m f : Nat} (hab : a ≤ b) (hb : b ≤ 10) (hf : f < m) : px (rangesL (stoodL a b m) (offT []) m) (2 * f) = ((a : Int), (b : Int)) ∧ px (rangesL (stoodL a b m) (offT []) m) (2 * f + 1) = (0, (b : Int)) := by
  obtain ⟨e1, e2⟩ := rangesL_at (stoodL a b m) (offT []) m f hf
  obtain ⟨g1, g2, g3, g4, -⟩ := stG_is hab hb
  rw [e1, e2, stood_games hf, g1, g2, g3, g4]
  exact ⟨rfl, rfl⟩
theorem stood_cnt {a b m : Nat} (hab : a ≤ b) (hb : b ≤ 10) : ∀ k, k ≤ m → cntLo (stoodL a b m) (offT []) k = (k : Int) * (10 - (b : Int)) ∧ cntHi (stoodL a b m) (offT []) k = (k : Int) * 10
  | 0, _ => by simp [cntLo, cntHi]
  | k + 1, hk => by
    obtain ⟨h1, h2⟩ := stood_cnt (m := m) hab hb k (by omega)
    obtain ⟨-, -, g3, g4, -⟩ := stG_is hab hb
    simp only [cntLo, cntHi]
    rw [h1, h2, stood_games (m := m) (f := k) (by omega), g3, g4]
    constructor
    · push_cast; rw [Int.add_mul]; omega
    · push_cast; omega
/-- What is left by a ball: the row of its frame. -/
def stoodR (l : Nat) : List Int := if l = 0 then [10] else [10 - (l : Int), 0]
theorem stood_prove {a b m : Nat} (hb : b ≤ 10) (ls : List Nat) (hl : ls.length = m) (h : ∀ l ∈ ls, a ≤ l ∧ l ≤ b) : proveB m (stoodL a b m) (offT []) (ls.map stoodR) = true := by
  have hr : ∀ f, (hf : f < m) → rx (ls.map stoodR) f = stoodR (ls[f]'(by omega)) := fun f hf => by
    unfold rx
    simp [List.getD, show f < ls.length by omega]
  rw [proveB_iff, isG_iff]
  refine ⟨⟨by simpa using hl, fun f hf => ?_⟩, fun f hf => ?_⟩
  · rw [List.length_map, hl] at hf
    rw [hr f hf]
    have := h _ (List.getElem_mem (show f < ls.length by omega))
    generalize ls[f] = l at *
    unfold stoodR isR
    by_cases e : l = 0
    · simp [e, ix, inB]
    · have e1 : ¬ (10 - (l : Int) = 10) := by omega
      simp [e, ix, inB, e1]
      omega
  · rw [stood_games hf, hr f hf]
    have := h _ (List.getElem_mem (show f < ls.length by omega))
    generalize ls[f] = l at *
    unfold stG
    rw [List.mem_filter, upTo_iff]
    unfold stoodR pairR
    by_cases e : l = 0
    · simp [e, ix]
      omega
    · simp [e, ix]
      omega
end Go.Proofs.Ytenpiinkbfancaa.Sn
