/-
  More tellers left out: more games, wider ranges. Plain facts.
-/
import Derived.Test.YtadjkinpimmhkaaRef4
namespace Go.Proofs.Ytadjkinpimmhkaa
open Go.RowKit
set_option linter.unusedSimpArgs false
set_option linter.unusedVariables false

theorem foldl_min_le : ∀ (xs : List Int) (a : Int), xs.foldl min a ≤ a ∧ (∀ x ∈ xs, xs.foldl min a ≤ x) ∧ (xs.foldl min a = a ∨ xs.foldl min a ∈ xs)
  | [], a => ⟨Int.le_refl _, (fun x h => by cases h), .inl rfl⟩
  | y :: ys, a => by
    obtain ⟨h1, h2, h3⟩ := foldl_min_le ys (min a y)
    simp only [List.foldl_cons]
    refine ⟨by omega, fun x hx => ?_, ?_⟩
    · rcases List.mem_cons.1 hx with rfl | hx
      · omega
      · exact h2 x hx
    · rcases h3 with h3 | h3
      · rw [h3]
        rcases (by omega : min a y = a ∨ min a y = y) with e | e
        · exact .inl e
        · exact .inr (by rw [e]; exact List.mem_cons_self ..)
      · exact .inr (List.mem_cons_of_mem _ h3)
theorem foldl_max_le : ∀ (xs : List Int) (a : Int), a ≤ xs.foldl max a ∧ (∀ x ∈ xs, x ≤ xs.foldl max a) ∧ (xs.foldl max a = a ∨ xs.foldl max a ∈ xs)
  | [], a => ⟨Int.le_refl _, (fun x h => by cases h), .inl rfl⟩
  | y :: ys, a => by
    obtain ⟨h1, h2, h3⟩ := foldl_max_le ys (max a y)
    simp only [List.foldl_cons]
    refine ⟨by omega, fun x hx => ?_, ?_⟩
    · rcases List.mem_cons.1 hx with rfl | hx
      · omega
      · exact h2 x hx
    · rcases h3 with h3 | h3
      · rw [h3]
        rcases (by omega : max a y = a ∨ max a y = y) with e | e
        · exact .inl e
        · exact .inr (by rw [e]; exact List.mem_cons_self ..)
      · exact .inr (List.mem_cons_of_mem _ h3)
theorem loS_le {xs : List Int} {x : Int} (h : x ∈ xs) : loS xs ≤ x := by
  cases xs with
  | nil => cases h
  | cons y ys =>
    obtain ⟨h1, h2, _⟩ := foldl_min_le ys y
    show ys.foldl min y ≤ x
    rcases List.mem_cons.1 h with rfl | h
    · exact h1
    · exact h2 x h
theorem loS_mem {xs : List Int} (h : 0 < xs.length) : loS xs ∈ xs := by
  cases xs with
  | nil => cases h
  | cons y ys =>
    obtain ⟨_, _, h3⟩ := foldl_min_le ys y
    show ys.foldl min y ∈ y :: ys
    rcases h3 with h3 | h3
    · rw [h3]; exact List.mem_cons_self ..
    · exact List.mem_cons_of_mem _ h3
theorem hiS_le {xs : List Int} {x : Int} (h : x ∈ xs) : x ≤ hiS xs := by
  cases xs with
  | nil => cases h
  | cons y ys =>
    obtain ⟨h1, h2, _⟩ := foldl_max_le ys y
    show x ≤ ys.foldl max y
    rcases List.mem_cons.1 h with rfl | h
    · exact h1
    · exact h2 x h
theorem hiS_mem {xs : List Int} (h : 0 < xs.length) : hiS xs ∈ xs := by
  cases xs with
  | nil => cases h
  | cons y ys =>
    obtain ⟨_, _, h3⟩ := foldl_max_le ys y
    show ys.foldl max y ∈ y :: ys
    rcases h3 with h3 | h3
    · rw [h3]; exact List.mem_cons_self ..
    · exact List.mem_cons_of_mem _ h3

/-- All tellers that are left out in o are left out in o', too. -/
def leO (o o' : Nat → Bool) : Prop := ∀ j, j < 4 → o j = true → o' j = true
section
variable {m : Nat} {ws : List Wd} (hok : ∀ k, k < ws.length → wordB (m : Int) (wx ws k) = true) {o o' : Nat → Bool} (h : leO o o')
include hok h
theorem okB_mono (f : Int) {p : Nat × Nat} (hp : okB ws f o p = true) : okB ws f o' p = true := by
  unfold okB at *
  rw [allB_iff] at *
  intro k hk
  have h1 : okW f o (wx ws k) p.1 p.2 = true := hp k hk
  have hw := hok k hk
  simp only [wordB, Bool.and_eq_true, inB_eq, decide_eq_true_eq] at hw
  obtain ⟨-, -, ⟨t0, t3⟩, -⟩ := hw
  show okW f o' (wx ws k) p.1 p.2 = true
  unfold okW at *
  cases ho : o (wx ws k).te.toNat
  · rw [ho] at h1
    simp only [Bool.false_or] at h1
    simp only [Bool.or_eq_true] at *
    rcases h1 with h1 | h1
    · exact .inl h1
    · exact .inr (.inr h1)
  · rw [h _ (by omega) ho]
    simp
theorem games_sub (f : Int) {p : Nat × Nat} (hp : p ∈ gamesL ws f o) : p ∈ gamesL ws f o' := by
  unfold gamesL gamesTo at *
  rw [List.mem_filter] at *
  exact ⟨hp.1, okB_mono hok h f hp.2⟩
theorem games_le (f : Int) : (gamesL ws f o).length ≤ (gamesL ws f o').length := by
  have e : gamesL ws f o = (gamesL ws f o').filter (okB ws f o) := by
    unfold gamesL gamesTo
    rw [List.filter_filter]
    refine List.filter_congr fun p _ => ?_
    cases hp : okB ws f o p
    · rfl
    · rw [okB_mono hok h f hp]; rfl
  rw [e]
  exact List.length_filter_le _ _
theorem expl_mono (hx : explB (m : Int) ws o = true) : explB (m : Int) ws o' = true := by
  unfold explB at *
  rw [allB_iff] at *
  intro f hf
  have h1 : decide (0 < (gamesL ws (f : Int) o).length) = true := hx f hf
  have h2 := games_le hok h (f : Int)
  simp only [decide_eq_true_eq] at *
  omega
theorem many_mono : ∀ k, manyP ws o k ≤ manyP ws o' k
  | 0 => Nat.le_refl _
  | k + 1 => Nat.mul_le_mul (many_mono k) (games_le hok h (k : Int))
theorem frame_mono (f : Int) (h0 : 0 < (gamesL ws f o).length) : loS (fsts (gamesL ws f o')) ≤ loS (fsts (gamesL ws f o)) ∧ hiS (fsts (gamesL ws f o)) ≤ hiS (fsts (gamesL ws f o')) ∧ loS (snds (gamesL ws f o')) ≤ loS (snds (gamesL ws f o)) ∧ hiS (snds (gamesL ws f o)) ≤ hiS (snds (gamesL ws f o')) := by
  have s1 : ∀ x ∈ fsts (gamesL ws f o), x ∈ fsts (gamesL ws f o') := fun x hx => by
    simp only [fsts, List.mem_map] at *
    obtain ⟨p, hp, e⟩ := hx
    exact ⟨p, games_sub hok h f hp, e⟩
  have s2 : ∀ x ∈ snds (gamesL ws f o), x ∈ snds (gamesL ws f o') := fun x hx => by
    simp only [snds, List.mem_map] at *
    obtain ⟨p, hp, e⟩ := hx
    exact ⟨p, games_sub hok h f hp, e⟩
  have l1 : 0 < (fsts (gamesL ws f o)).length := by simpa [fsts] using h0
  have l2 : 0 < (snds (gamesL ws f o)).length := by simpa [snds] using h0
  exact ⟨loS_le (s1 _ (loS_mem l1)), hiS_le (s1 _ (hiS_mem l1)), loS_le (s2 _ (loS_mem l2)), hiS_le (s2 _ (hiS_mem l2))⟩
end
theorem expl_games {m : Nat} {ws : List Wd} {o : Nat → Bool} (hx : explB (m : Int) ws o = true) {f : Nat} (hf : f < m) : 0 < (gamesL ws (f : Int) o).length := by
  unfold explB at hx
  rw [allB_iff] at hx
  have h1 : decide (0 < (gamesL ws (f : Int) o).length) = true := hx f (by simpa using hf)
  simpa using h1
theorem px_app1 {a b : List (Int × Int)} {i : Nat} (h : i < a.length) : px (a ++ b) i = px a i := by unfold px; simp [List.getElem?_append_left h]
theorem px_app2 {a b : List (Int × Int)} {i : Nat} (h : a.length ≤ i) : px (a ++ b) i = px b (i - a.length) := by unfold px; simp [List.getElem?_append_right h]
/-- Place 2f and 2f + 1 of the ranges. -/
theorem rangesL_at (ws : List Wd) (o : Nat → Bool) : ∀ m f, f < m → px (rangesL ws o m) (2 * f) = (loS (fsts (gamesL ws (f : Int) o)), hiS (fsts (gamesL ws (f : Int) o))) ∧ px (rangesL ws o m) (2 * f + 1) = (loS (snds (gamesL ws (f : Int) o)), hiS (snds (gamesL ws (f : Int) o)))
  | 0, f, h => by omega
  | m + 1, f, h => by
    have hl := rangesL_len ws o m
    rw [rangesL]
    by_cases e : f = m
    · subst e
      rw [px_app2 (by omega), px_app2 (by omega), hl]
      rw [show 2 * f - 2 * f = 0 by omega, show 2 * f + 1 - 2 * f = 1 by omega]
      exact ⟨rfl, rfl⟩
    · rw [px_app1 (by omega), px_app1 (by omega)]
      exact rangesL_at ws o m f (by omega)
section
variable {m : Nat} {ws : List Wd} (hok : ∀ k, k < ws.length → wordB (m : Int) (wx ws k) = true) {o o' : Nat → Bool} (h : leO o o') (hx : explB (m : Int) ws o = true)
include hok h hx
theorem ranges_mono {i : Nat} (hi : i < 2 * m) : (px (rangesL ws o' m) i).1 ≤ (px (rangesL ws o m) i).1 ∧ (px (rangesL ws o m) i).2 ≤ (px (rangesL ws o' m) i).2 := by
  obtain ⟨h1, h2, h3, h4⟩ := frame_mono hok h ((i / 2 : Nat) : Int) (expl_games hx (f := i / 2) (by omega))
  obtain ⟨a1, a2⟩ := rangesL_at ws o m (i / 2) (by omega)
  obtain ⟨b1, b2⟩ := rangesL_at ws o' m (i / 2) (by omega)
  rcases (by omega : i = 2 * (i / 2) ∨ i = 2 * (i / 2) + 1) with e | e
  · rw [e, a1, b1]; exact ⟨h1, h2⟩
  · rw [e, a2, b2]; exact ⟨h3, h4⟩
theorem cnt_mono : ∀ k, k ≤ m → cntLo ws o' k ≤ cntLo ws o k ∧ cntHi ws o k ≤ cntHi ws o' k
  | 0, _ => ⟨Int.le_refl _, Int.le_refl _⟩
  | k + 1, hk => by
    obtain ⟨c1, c2⟩ := cnt_mono k (by omega)
    obtain ⟨h1, h2, h3, h4⟩ := frame_mono hok h (k : Int) (expl_games hx (by omega))
    simp only [cntLo, cntHi]
    omega
end
end Go.Proofs.Ytadjkinpimmhkaa
