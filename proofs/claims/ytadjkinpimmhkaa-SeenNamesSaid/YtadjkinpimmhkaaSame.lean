/-
  The reference's games of a frame are the program's, in another order: plain facts.
-/
import Derived.Test.YtadjkinpimmhkaaGames60
namespace Go.Proofs.Ytadjkinpimmhkaa
open Go.RowKit
set_option linter.unusedSimpArgs false
set_option linter.unusedVariables false

/-- The balls of what stood behind both balls of a frame. -/
def ballsOf (p : Nat × Nat) : List Int := if p.1 = 0 then [10] else [10 - (p.1 : Int), (p.1 : Int) - (p.2 : Int)]
theorem frames_perm : framesL.Perm ((upTo 11 0).map ballsOf) := List.isPerm_iff.1 (by decide +kernel)
theorem hasB_offT {ts : List Int} {t : Int} (h : 0 ≤ t) : hasB ts t = offT ts t.toNat := by
  unfold hasB offT
  rw [Int.toNat_of_nonneg h]
theorem behR_one {p : Nat × Nat} (h1 : p.1 ≤ 10) (h2 : p.2 ≤ p.1) : behR [ballsOf p] 0 0 = (p.1 : Int) ∧ behR [ballsOf p] 0 1 = (p.2 : Int) := by
  unfold ballsOf
  by_cases h : p.1 = 0
  · rw [if_pos h]
    have : p.2 = 0 := by omega
    rw [h, this]
    decide
  · rw [if_neg h]
    constructor
    · show behN _ (min 1 2) = _
      simp [behN, ix, rx]
      omega
    · show behN _ (min 2 2) = _
      simp [behN, ix, rx]
      omega
theorem fitF_okB {m : Nat} {ws : List Wd} (hok : ∀ k, k < ws.length → wordB (m : Int) (wx ws k) = true) (offl : List Int) (f : Int) {p : Nat × Nat} (h1 : p.1 ≤ 10) (h2 : p.2 ≤ p.1) : fitF ws offl f (ballsOf p) = okB ws f (offT offl) p := by
  have e : ∀ {a b : Bool}, (a = true ↔ b = true) → a = b := fun {a b} h => by cases a <;> cases b <;> simp_all
  have hw : ∀ x ∈ ws, wordB (m : Int) x = true := fun x hx => by
    obtain ⟨j, hj, rfl⟩ := List.getElem_of_mem hx
    have := hok j hj
    rwa [wx_lt hj] at this
  have key : ∀ x ∈ ws, x.fr = f → (fitW offl [ballsOf p] { x with fr := 0 } = okW f (offT offl) x p.1 p.2) := fun x hx hf => by
    have h3 := hw x hx
    simp only [wordB, Bool.and_eq_true, inB_eq, decide_eq_true_eq] at h3
    obtain ⟨-, ⟨b0, b1⟩, ⟨t0, t3⟩, -⟩ := h3
    obtain ⟨r0, r1⟩ := behR_one h1 h2
    simp only [fitW, okW, hf, decide_true, Bool.not_true, Bool.false_or]
    rw [hasB_offT t0]
    congr 1
    rcases (by omega : x.ba = 0 ∨ x.ba = 1) with hb | hb
    · rw [hb]
      simp only [show (0 : Int).toNat = 0 from rfl]
      rw [r0]
      simp [fitsB, standB, hb, inB]
    · rw [hb]
      simp only [show (0 : Int).toNat = 0 from rfl, show (1 : Int).toNat = 1 from rfl]
      rw [r1]
      simp [fitsB, standB, hb, inB]
  refine e ?_
  unfold fitF fitG okB
  rw [allB_iff, allB_iff]
  constructor
  · intro h k hk
    by_cases hf : (wx ws k).fr = f
    · show okW f (offT offl) (wx ws k) p.1 p.2 = true
      rw [wx_lt hk] at hf ⊢
      have hm : ({ ws[k] with fr := 0 } : Wd) ∈ onlyL ws f := by
        simp only [onlyL, List.mem_map, List.mem_filter]
        exact ⟨ws[k], ⟨List.getElem_mem _, by simpa using hf⟩, rfl⟩
      obtain ⟨j, hj, e2⟩ := List.getElem_of_mem hm
      have h3 := h j hj
      dsimp only at h3
      rw [wx_lt hj, e2, key _ (List.getElem_mem _) hf] at h3
      exact h3
    · simp [okW, hf]
  · intro h k hk
    dsimp only
    rw [wx_lt hk]
    have hm := List.getElem_mem hk
    generalize (onlyL ws f)[k] = y at hm
    simp only [onlyL, List.mem_map, List.mem_filter] at hm
    obtain ⟨x, ⟨hx, hf⟩, rfl⟩ := hm
    have hf' : x.fr = f := by simpa using hf
    rw [key x hx hf']
    obtain ⟨j, hj, rfl⟩ := List.getElem_of_mem hx
    have h3 : okW f (offT offl) (wx ws j) p.1 p.2 = true := h j hj
    rwa [wx_lt hj] at h3
theorem upTo_bds {p : Nat × Nat} (h : p ∈ upTo 11 0) : p.1 ≤ 10 ∧ p.2 ≤ p.1 := by
  simp [upTo, List.mem_flatMap] at h
  obtain ⟨a, ha, b, hb, rfl⟩ := h
  dsimp only
  omega
theorem games_perm {m : Nat} {ws : List Wd} (hok : ∀ k, k < ws.length → wordB (m : Int) (wx ws k) = true) (offl : List Int) (f : Int) : (gamesR ws offl f).Perm ((gamesL ws f (offT offl)).map ballsOf) := by
  unfold gamesR gamesL gamesTo
  refine (frames_perm.filter _).trans ?_
  rw [List.filter_map]
  refine List.Perm.of_eq ?_
  congr 1
  refine List.filter_congr fun p hp => ?_
  obtain ⟨h1, h2⟩ := upTo_bds hp
  exact fitF_okB hok offl f h1 h2
theorem games_len {m : Nat} {ws : List Wd} (hok : ∀ k, k < ws.length → wordB (m : Int) (wx ws k) = true) (offl : List Int) (f : Int) : (gamesR ws offl f).length = (gamesL ws f (offT offl)).length := by
  rw [(games_perm hok offl f).length_eq, List.length_map]
noncomputable def manyR (ws : List Wd) (offl : List Int) : Nat → Nat
  | 0 => 1
  | k + 1 => manyR ws offl k * (gamesR ws offl (k : Int)).length
theorem manyR_eq {m : Nat} {ws : List Wd} (hok : ∀ k, k < ws.length → wordB (m : Int) (wx ws k) = true) (offl : List Int) : ∀ k, manyR ws offl k = manyP ws (offT offl) k
  | 0 => rfl
  | k + 1 => by rw [manyR, manyP, manyR_eq hok offl k, games_len hok]
theorem manyP_pos (ws : List Wd) (o : Nat → Bool) : ∀ k, decide (0 < manyP ws o k) = allB k fun f => decide (0 < (gamesL ws (f : Int) o).length)
  | 0 => by simp [manyP, allB]
  | k + 1 => by
    rw [allB_succ, ← manyP_pos ws o k, manyP]
    have e : ∀ {a b : Bool}, (a = true ↔ b = true) → a = b := fun {a b} h => by cases a <;> cases b <;> simp_all
    refine e ?_
    simp only [decide_eq_true_eq, Bool.and_eq_true]
    exact Nat.mul_pos_iff_of_pos_left' _ _
where
  Nat.mul_pos_iff_of_pos_left' (a b : Nat) : 0 < a * b ↔ 0 < a ∧ 0 < b := by
    constructor
    · intro h
      exact ⟨Nat.pos_of_mul_pos_right h, Nat.pos_of_mul_pos_left h⟩
    · exact fun h => Nat.mul_pos h.1 h.2
theorem manyP_explB (ws : List Wd) (o : Nat → Bool) (m : Nat) : decide (0 < manyP ws o m) = explB (m : Int) ws o := by
  rw [manyP_pos]
  unfold explB
  rw [Int.toNat_natCast]
end Go.Proofs.Ytadjkinpimmhkaa
