/-
  path, plain: what a lane is; what a ball does on it.
-/
import Derived.Test.YtenpiinkbfancaaRec
namespace Go.Proofs.Ytenpiinkbfancaa.Pa
open Go.RowKit
set_option linter.unusedSimpArgs false
set_option linter.unusedVariables false

/-- A lane: boards, rows, hooks ([lo, hi]), patches ([row, row, board, board, level]). -/
structure Ln where
  nb : Int
  nr : Int
  hk : List (List Int)
  pt : List (List Int)
def spanB (x y a b : Int) : Bool := inB x a b && (inB y a b && decide (x ≤ y))
def hookB (r : List Int) : Bool := spanB (ix r 0) (ix r 1) (-3) 3
def patchB (l : Ln) (p : List Int) : Bool := spanB (ix p 0) (ix p 1) 0 (l.nr - 1) && (spanB (ix p 2) (ix p 3) 1 l.nb && inB (ix p 4) 0 ((l.hk.length : Int) - 1))
/-- Is a lane valid? -/
structure Ok (l : Ln) : Prop where
  p8 : l.pt.length ≤ 8
  h4 : l.hk.length ≤ 4
  b0 : 1 ≤ l.nb
  b1 : l.nb ≤ 40
  r0 : 1 ≤ l.nr
  r1 : l.nr ≤ 12
  h0 : 0 < l.hk.length
  hs : ∀ k, k < l.hk.length → hookB (rx l.hk k) = true
  ps : ∀ k, k < l.pt.length → patchB l (rx l.pt k) = true
theorem span_le {x y a b : Int} (h : spanB x y a b = true) : a ≤ x ∧ x ≤ y ∧ y ≤ b := by
  simp [spanB, inB] at h
  omega
theorem hook_bd {l : Ln} (h : Ok l) {k : Nat} (hk : k < l.hk.length) : -3 ≤ ix (rx l.hk k) 0 ∧ ix (rx l.hk k) 0 ≤ ix (rx l.hk k) 1 ∧ ix (rx l.hk k) 1 ≤ 3 := span_le (h.hs k hk)
theorem patch_bd {l : Ln} (h : Ok l) {k : Nat} (hk : k < l.pt.length) : (0 ≤ ix (rx l.pt k) 0 ∧ ix (rx l.pt k) 0 ≤ ix (rx l.pt k) 1 ∧ ix (rx l.pt k) 1 ≤ l.nr - 1) ∧ (1 ≤ ix (rx l.pt k) 2 ∧ ix (rx l.pt k) 2 ≤ ix (rx l.pt k) 3 ∧ ix (rx l.pt k) 3 ≤ l.nb) ∧ 0 ≤ ix (rx l.pt k) 4 ∧ ix (rx l.pt k) 4 ≤ (l.hk.length : Int) - 1 := by
  have := h.ps k hk
  simp only [patchB, Bool.and_eq_true] at this
  refine ⟨span_le this.1, span_le this.2.1, ?_⟩
  have h2 := this.2.2
  simp [inB] at h2
  exact h2
/-- Is a patch over a cell? -/
def overB (p : List Int) (row board : Int) : Bool := inB row (ix p 0) (ix p 1) && inB board (ix p 2) (ix p 3)
/-- The level of a cell, by the first k patches. -/
def lvl (l : Ln) (row board : Int) : Nat → Int
  | 0 => 0
  | k + 1 => if overB (rx l.pt k) row board then ix (rx l.pt k) 4 else lvl l row board k
theorem lvl_bd {l : Ln} (h : Ok l) (row board : Int) : ∀ k, k ≤ l.pt.length → 0 ≤ lvl l row board k ∧ lvl l row board k ≤ (l.hk.length : Int) - 1
  | 0, _ => by have := h.h0; simp only [lvl]; omega
  | k + 1, hk => by
    have ih := lvl_bd h row board k (by omega)
    have := (patch_bd h (show k < l.pt.length by omega)).2.2
    simp only [lvl]
    split
    · exact this
    · exact ih
def level (l : Ln) (row board : Int) : Int := lvl l row board l.pt.length
/-- The hooks of a cell. -/
def hkLo (l : Ln) (row board : Int) : Int := ix (rx l.hk (level l row board).toNat) 0
def hkHi (l : Ln) (row board : Int) : Int := ix (rx l.hk (level l row board).toNat) 1
theorem hk_bd {l : Ln} (h : Ok l) (row board : Int) : -3 ≤ hkLo l row board ∧ hkLo l row board ≤ hkHi l row board ∧ hkHi l row board ≤ 3 := by
  have := lvl_bd h row board _ (Nat.le_refl _)
  exact hook_bd h (k := (level l row board).toNat) (by unfold level; omega)
def nxDir (d turn : Int) : Int := max (-5) (min 5 (d + turn))
def nxt (s : Int × Int) (turn : Int) : Int × Int := (s.1 + nxDir s.2 turn, nxDir s.2 turn)
theorem nxDir_bd (d turn : Int) : -5 ≤ nxDir d turn ∧ nxDir d turn ≤ 5 := by unfold nxDir; omega
def onB (l : Ln) (s : Int × Int) : Bool := inB s.1 1 l.nb
def startB (l : Ln) (s : Int × Int) : Bool := onB l s && inB s.2 (-5) 5
/-- The word for a row. -/
def wordI (ws : List Int) (k : Nat) : Int := if ws.length = 0 then 0 else ix ws (k % ws.length)
/-- The turn for a row, of a state; the state ahead of row k. -/
def turnI (l : Ln) (ws : List Int) (k : Nat) (s : Int × Int) : Int := hkLo l k s.1 + (wordI ws k).tmod (hkHi l k s.1 - hkLo l k s.1 + 1)
def stI (l : Ln) (s : Int × Int) (ws : List Int) : Nat → Int × Int
  | 0 => s
  | k + 1 => nxt (stI l s ws k) (turnI l ws k (stI l s ws k))
/-- It goes on for k rows. -/
def goes (l : Ln) (s : Int × Int) (ws : List Int) (k : Nat) : Prop := ∀ j, j < k → (j : Int) + 1 < l.nr ∧ onB l (stI l s ws j) = true
/-- It goes on for just k rows. -/
def rolls (l : Ln) (s : Int × Int) (ws : List Int) (k : Nat) : Prop := goes l s ws k ∧ ¬ ((k : Int) + 1 < l.nr ∧ onB l (stI l s ws k) = true)
def turnsL (l : Ln) (s : Int × Int) (ws : List Int) (k : Nat) : List Int := (List.range k).map fun j => turnI l ws j (stI l s ws j)
def overL (l : Ln) (s : Int × Int) (ws : List Int) (k : Nat) : List (List Int) := (List.range k).map fun j => [(stI l s ws j).1, (stI l s ws j).2]
theorem turnsL_succ (l : Ln) (s : Int × Int) (ws : List Int) (k : Nat) : turnsL l s ws (k + 1) = turnsL l s ws k ++ [turnI l ws k (stI l s ws k)] := by simp [turnsL, List.range_succ]
theorem overL_succ (l : Ln) (s : Int × Int) (ws : List Int) (k : Nat) : overL l s ws (k + 1) = overL l s ws k ++ [[(stI l s ws k).1, (stI l s ws k).2]] := by simp [overL, List.range_succ]
theorem turnsL_len (l : Ln) (s : Int × Int) (ws : List Int) (k : Nat) : (turnsL l s ws k).length = k := by simp [turnsL]
theorem overL_len (l : Ln) (s : Int × Int) (ws : List Int) (k : Nat) : (overL l s ws k).length = k := by simp [overL]
theorem turnsL_at (l : Ln) (s : Int × Int) (ws : List Int) {k j : Nat} (h : j < k) : ix (turnsL l s ws k) j = turnI l ws j (stI l s ws j) := by
  rw [ix_lt (by rw [turnsL_len]; exact h)]
  simp [turnsL]
theorem st_dir {l : Ln} {s : Int × Int} {ws : List Int} (h : -5 ≤ s.2 ∧ s.2 ≤ 5) : ∀ k, -5 ≤ (stI l s ws k).2 ∧ (stI l s ws k).2 ≤ 5
  | 0 => h
  | k + 1 => nxDir_bd _ _
theorem turn_in {l : Ln} (h : Ok l) (ws : List Int) (hw : ∀ j, 0 ≤ ix ws j) (k : Nat) (s : Int × Int) : hkLo l k s.1 ≤ turnI l ws k s ∧ turnI l ws k s ≤ hkHi l k s.1 := by
  have hb := hk_bd h k s.1
  have h0 : 0 ≤ wordI ws k := by unfold wordI; split; exact Int.le_refl _; exact hw _
  unfold turnI
  rw [Int.tmod_eq_emod_of_nonneg h0]
  have h1 := Int.emod_nonneg (wordI ws k) (b := hkHi l k s.1 - hkLo l k s.1 + 1) (by omega)
  have h2 := Int.emod_lt_of_pos (wordI ws k) (b := hkHi l k s.1 - hkLo l k s.1 + 1) (by omega)
  omega
/-- The states that a ball can have in a row. -/
inductive Can (l : Ln) (s : Int × Int) : Nat → Int × Int → Prop where
  | zero : Can l s 0 s
  | succ {k : Nat} {t : Int × Int} {turn : Int} : Can l s k t → hkLo l k t.1 ≤ turn → turn ≤ hkHi l k t.1 → onB l (nxt t turn) = true → Can l s (k + 1) (nxt t turn)
theorem can_st {l : Ln} (h : Ok l) {s : Int × Int} {ws : List Int} (hw : ∀ j, 0 ≤ ix ws j) : ∀ k, (∀ j, j ≤ k → onB l (stI l s ws j) = true) → Can l s k (stI l s ws k)
  | 0, _ => .zero
  | k + 1, hk => by
    have ih := can_st h hw k (fun j hj => hk j (by omega))
    have := turn_in h ws hw k (stI l s ws k)
    exact .succ ih this.1 this.2 (hk (k + 1) (Nat.le_refl _))
/-- A ball that has not gone into the gutter has been over as many boards as there are rows. -/
theorem rolls_len {l : Ln} (h : Ok l) {s : Int × Int} {ws : List Int} {k : Nat} (hr : rolls l s ws k) (ho : onB l (stI l s ws k) = true) : (k : Int) + 1 = l.nr := by
  obtain ⟨h1, h2⟩ := hr
  have := h.r0
  rcases Nat.eq_zero_or_pos k with rfl | hp
  · have : ¬ ((0 : Nat) : Int) + 1 < l.nr := fun hh => h2 ⟨hh, ho⟩
    omega
  · have a := (h1 (k - 1) (by omega)).1
    have : ¬ (k : Int) + 1 < l.nr := fun hh => h2 ⟨hh, ho⟩
    omega
end Go.Proofs.Ytenpiinkbfancaa.Pa
