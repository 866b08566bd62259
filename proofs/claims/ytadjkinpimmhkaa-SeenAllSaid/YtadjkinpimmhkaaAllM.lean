/-
  A lane without words; the games of its frames alone. Plain facts.
-/
import Derived.Test.YtadjkinpimmhkaaMono
namespace Go.Proofs.Ytadjkinpimmhkaa
open Go.RowKit
set_option linter.unusedSimpArgs false
set_option linter.unusedVariables false

theorem games_nil (f : Int) (o : Nat → Bool) : gamesL [] f o = upTo 11 0 := by
  unfold gamesL gamesTo
  exact List.filter_eq_self.2 fun p _ => by simp [okB, allB]
theorem lane_nil {m : Nat} (h1 : 1 ≤ m) (h5 : m ≤ 5) : laneErr (m : Int) [] = 0 := by
  unfold laneErr
  rw [if_pos (by decide)]
  simp [inB, allB]
  omega
theorem expl_nil (m : Nat) (o : Nat → Bool) : explB (m : Int) [] o = true := by
  unfold explB
  refine allB_true fun f _ => ?_
  rw [games_nil]
  decide +kernel
theorem many_nil (o : Nat → Bool) : ∀ k, manyP [] o k = 66 ^ k
  | 0 => rfl
  | k + 1 => by
    rw [manyP, many_nil o k, games_nil, Nat.pow_succ]
    congr 1
theorem cnt_nil (o : Nat → Bool) : ∀ k : Nat, cntLo [] o k = 0 ∧ cntHi [] o k = 10 * (k : Int)
  | 0 => by simp [cntLo, cntHi]
  | k + 1 => by
    obtain ⟨h1, h2⟩ := cnt_nil o k
    have e1 : hiS (snds (upTo 11 0)) = 10 := by decide +kernel
    have e2 : loS (snds (upTo 11 0)) = 0 := by decide +kernel
    simp only [cntLo, cntHi, games_nil, e1, e2, h1, h2]
    omega
theorem okW_only {x : Wd} {k : Int} (h : x.fr = k) (o : Nat → Bool) (a b : Nat) : okW 0 o { x with fr := 0 } a b = okW k o x a b := by
  obtain ⟨xf, xb, xt, xl, xh⟩ := x
  dsimp only at h
  subst h
  have e1 : okW 0 o ⟨0, xb, xt, xl, xh⟩ a b = (o xt.toNat || fitsB ⟨0, xb, xt, xl, xh⟩ a b) := by simp [okW]
  have e2 : okW xf o ⟨xf, xb, xt, xl, xh⟩ a b = (o xt.toNat || fitsB ⟨xf, xb, xt, xl, xh⟩ a b) := by simp [okW]
  rw [e2]
  exact e1
theorem only_games {m : Nat} {ws : List Wd} (k : Nat) (o : Nat → Bool) : gamesL (onlyL ws (k : Int)) 0 o = gamesL ws (k : Int) o := by
  have e : ∀ {a b : Bool}, (a = true ↔ b = true) → a = b := fun {a b} h => by cases a <;> cases b <;> simp_all
  unfold gamesL gamesTo
  refine List.filter_congr fun p _ => e ?_
  unfold okB
  rw [allB_iff, allB_iff]
  constructor
  · intro h j hj
    show okW (k : Int) o (wx ws j) p.1 p.2 = true
    by_cases hf : (wx ws j).fr = (k : Int)
    · rw [wx_lt hj] at hf ⊢
      have hm : ({ ws[j] with fr := 0 } : Wd) ∈ onlyL ws (k : Int) := by
        simp only [onlyL, List.mem_map, List.mem_filter]
        exact ⟨ws[j], ⟨List.getElem_mem _, by simpa using hf⟩, rfl⟩
      obtain ⟨i, hi, e2⟩ := List.getElem_of_mem hm
      have h3 : okW 0 o (wx (onlyL ws (k : Int)) i) p.1 p.2 = true := h i hi
      rw [wx_lt hi, e2, okW_only hf] at h3
      exact h3
    · simp [okW, hf]
  · intro h j hj
    show okW 0 o (wx (onlyL ws (k : Int)) j) p.1 p.2 = true
    rw [wx_lt hj]
    have hm := List.getElem_mem hj
    generalize (onlyL ws (k : Int))[j] = y at hm
    simp only [onlyL, List.mem_map, List.mem_filter] at hm
    obtain ⟨x, ⟨hx, hf⟩, rfl⟩ := hm
    obtain ⟨i, hi, rfl⟩ := List.getElem_of_mem hx
    have hf' : (ws[i]).fr = (k : Int) := by simpa using hf
    have h3 : okW (k : Int) o (wx ws i) p.1 p.2 = true := h i hi
    rw [wx_lt hi] at h3
    rw [okW_only hf']
    exact h3
theorem only_len (ws : List Wd) (f : Int) : (onlyL ws f).length ≤ ws.length := by
  have := onlyL_len (ws := ws) (f := f) ws.length
  rwa [List.take_length] at this
theorem only_lane {m : Nat} {ws : List Wd} (hl : ws.length ≤ 30) (hok : ∀ k, k < ws.length → wordB (m : Int) (wx ws k) = true) (k : Int) : laneErr 1 (onlyL ws k) = 0 := by
  have h1 := only_len ws k
  unfold laneErr
  rw [if_pos (by omega), if_pos]
  rw [Bool.and_eq_true]
  refine ⟨by decide, allB_true fun j hj => ?_⟩
  rw [wx_lt hj]
  have hm := List.getElem_mem hj
  generalize (onlyL ws k)[j] = y at hm
  simp only [onlyL, List.mem_map, List.mem_filter] at hm
  obtain ⟨x, ⟨hx, hf⟩, rfl⟩ := hm
  obtain ⟨i, hi, rfl⟩ := List.getElem_of_mem hx
  have hw := hok i hi
  rw [wx_lt hi] at hw
  simp only [wordB, Bool.and_eq_true, inB_eq, decide_eq_true_eq] at hw ⊢
  exact ⟨by omega, hw.2⟩
end Go.Proofs.Ytadjkinpimmhkaa
