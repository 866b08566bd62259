/-
  The reference's ranges are the program's, where the tellers explain the words. Plain facts.
-/
import Derived.Test.YtadjkinpimmhkaaMono
namespace Go.Proofs.Ytadjkinpimmhkaa
open Go.RowKit
set_option linter.unusedSimpArgs false
set_option linter.unusedVariables false

/-- What stands behind ball b in some games of a frame. -/
def bvs (b : Nat) (gs : List (List Int)) : List Int := gs.map fun g => behR [g] 0 b
def loF (xs : List Int) : Int := xs.foldl min 10
def hiF (xs : List Int) : Int := xs.foldl max 0
theorem loF_snoc (xs : List Int) (n : Int) : loF (xs ++ [n]) = min (loF xs) n := by simp [loF, List.foldl_append]
theorem hiF_snoc (xs : List Int) (n : Int) : hiF (xs ++ [n]) = max (hiF xs) n := by simp [hiF, List.foldl_append]
theorem bvs_take {gs : List (List Int)} {j : Nat} (h : j < gs.length) (b : Nat) : bvs b (gs.take (j + 1)) = bvs b (gs.take j) ++ [behR [rx gs j] 0 b] := by
  rw [rx_lt h]
  unfold bvs
  rw [List.take_succ_eq_append_getElem h, List.map_append]
  rfl
noncomputable def rgsR (ws : List Wd) (offl : List Int) : Nat → List (Int × Int)
  | 0 => []
  | k + 1 => (rgsR ws offl k ++ [(loF (bvs 0 (gamesR ws offl (k : Int))), hiF (bvs 0 (gamesR ws offl (k : Int))))]) ++ [(loF (bvs 1 (gamesR ws offl (k : Int))), hiF (bvs 1 (gamesR ws offl (k : Int))))]
noncomputable def cloR (ws : List Wd) (offl : List Int) : Nat → Int
  | 0 => 0
  | k + 1 => cloR ws offl k + 10 - hiF (bvs 1 (gamesR ws offl (k : Int)))
noncomputable def chiR (ws : List Wd) (offl : List Int) : Nat → Int
  | 0 => 0
  | k + 1 => chiR ws offl k + 10 - loF (bvs 1 (gamesR ws offl (k : Int)))
theorem rgsR_len (ws : List Wd) (offl : List Int) : ∀ k, (rgsR ws offl k).length = 2 * k
  | 0 => rfl
  | k + 1 => by rw [rgsR, List.length_append, List.length_append, rgsR_len ws offl k]; simp; omega
theorem framesB : framesL.all (fun g => decide (0 ≤ behR [g] 0 0 ∧ behR [g] 0 0 ≤ 10 ∧ 0 ≤ behR [g] 0 1 ∧ behR [g] 0 1 ≤ 10)) = true := by decide +kernel
theorem games_mem {ws : List Wd} {offl : List Int} {f : Int} {g : List Int} (h : g ∈ gamesR ws offl f) : g ∈ framesL := (List.mem_filter.1 h).1
theorem games_row {ws : List Wd} {offl : List Int} {f : Int} {k : Nat} (hk : k < (gamesR ws offl f).length) : (∀ j, j < (rx (gamesR ws offl f) k).length → 0 ≤ ix (rx (gamesR ws offl f) k) j ∧ ix (rx (gamesR ws offl f) k) j ≤ 10) ∧ (0 ≤ behR [rx (gamesR ws offl f) k] 0 0 ∧ behR [rx (gamesR ws offl f) k] 0 0 ≤ 10) ∧ 0 ≤ behR [rx (gamesR ws offl f) k] 0 1 ∧ behR [rx (gamesR ws offl f) k] 0 1 ≤ 10 := by
  have hm : rx (gamesR ws offl f) k ∈ framesL := by
    rw [rx_lt hk]
    exact games_mem (List.getElem_mem hk)
  have h1 := List.all_eq_true.1 framesB _ hm
  obtain ⟨i, hi, e⟩ := List.getElem_of_mem hm
  have h2 := fun j hj => framesL_v hi (j := j) hj
  rw [rx_lt hi, e] at h2
  simp only [decide_eq_true_eq] at h1
  exact ⟨h2, ⟨h1.1, h1.2.1⟩, h1.2.2⟩
theorem loF_bd {xs : List Int} (h : ∀ x ∈ xs, 0 ≤ x ∧ x ≤ 10) : 0 ≤ loF xs ∧ loF xs ≤ 10 := by
  obtain ⟨h1, h2, h3⟩ := foldl_min_le xs 10
  rcases h3 with h3 | h3
  · unfold loF; omega
  · exact h _ h3
theorem hiF_bd {xs : List Int} (h : ∀ x ∈ xs, 0 ≤ x ∧ x ≤ 10) : 0 ≤ hiF xs ∧ hiF xs ≤ 10 := by
  obtain ⟨h1, h2, h3⟩ := foldl_max_le xs 0
  rcases h3 with h3 | h3
  · unfold hiF; omega
  · exact h _ h3
theorem bvs_bd {gs : List (List Int)} {b : Nat} (h : ∀ k, k < gs.length → 0 ≤ behR [rx gs k] 0 b ∧ behR [rx gs k] 0 b ≤ 10) (j : Nat) : ∀ x ∈ bvs b (gs.take j), 0 ≤ x ∧ x ≤ 10 := by
  intro x hx
  obtain ⟨g, hg, rfl⟩ := List.mem_map.1 hx
  obtain ⟨i, hi, rfl⟩ := List.getElem_of_mem (List.mem_of_mem_take hg)
  have := h i hi
  rwa [rx_lt hi] at this
theorem games_bd (ws : List Wd) (offl : List Int) (f : Int) {b : Nat} (hb : b = 0 ∨ b = 1) : ∀ x ∈ bvs b (gamesR ws offl f), 0 ≤ x ∧ x ≤ 10 := by
  have h := bvs_bd (gs := gamesR ws offl f) (b := b) (fun k hk => by
    rcases hb with rfl | rfl
    · exact (games_row hk).2.1
    · exact (games_row hk).2.2) (gamesR ws offl f).length
  rwa [List.take_length] at h
theorem cR_bd (ws : List Wd) (offl : List Int) : ∀ k : Nat, (0 ≤ cloR ws offl k ∧ cloR ws offl k ≤ 10 * (k : Int)) ∧ (0 ≤ chiR ws offl k ∧ chiR ws offl k ≤ 10 * (k : Int))
  | 0 => by simp [cloR, chiR]
  | k + 1 => by
    obtain ⟨h1, h2⟩ := cR_bd ws offl k
    have h3 := loF_bd (games_bd ws offl (k : Int) (.inr rfl))
    have h4 := hiF_bd (games_bd ws offl (k : Int) (.inr rfl))
    simp only [cloR, chiR]
    omega
theorem lo_same {xs ys : List Int} (h : ∀ x, x ∈ xs ↔ x ∈ ys) (h0 : 0 < xs.length) (h10 : ∀ x ∈ xs, 0 ≤ x ∧ x ≤ 10) : loF xs = loS ys ∧ hiF xs = hiS ys := by
  have hy : 0 < ys.length := by
    cases xs with
    | nil => cases h0
    | cons a tl => exact List.length_pos_of_mem ((h a).1 (List.mem_cons_self ..))
  obtain ⟨a1, a2, a3⟩ := foldl_min_le xs 10
  obtain ⟨b1, b2, b3⟩ := foldl_max_le xs 0
  have m1 := (h _).2 (loS_mem hy)
  have m2 := (h _).2 (hiS_mem hy)
  have c1 := a2 _ m1
  have c2 := b2 _ m2
  have d1 := h10 _ m1
  have d2 := h10 _ m2
  have e1 : loS ys ≤ xs.foldl min 10 := by
    rcases a3 with a3 | a3
    · omega
    · exact loS_le ((h _).1 a3)
  have e2 : xs.foldl max 0 ≤ hiS ys := by
    rcases b3 with b3 | b3
    · omega
    · exact hiS_le ((h _).1 b3)
  unfold loF hiF
  omega
section
variable {m : Nat} {ws : List Wd} (hok : ∀ k, k < ws.length → wordB (m : Int) (wx ws k) = true) (offl : List Int)
include hok
theorem bvs_mem (f : Int) : (∀ x, x ∈ bvs 0 (gamesR ws offl f) ↔ x ∈ fsts (gamesL ws f (offT offl))) ∧ ∀ x, x ∈ bvs 1 (gamesR ws offl f) ↔ x ∈ snds (gamesL ws f (offT offl)) := by
  have hp := games_perm hok offl f
  have hb : ∀ p ∈ gamesL ws f (offT offl), p.1 ≤ 10 ∧ p.2 ≤ p.1 := fun p hp => upTo_bds (List.mem_filter.1 hp).1
  have key : ∀ (b : Nat) (F : Nat × Nat → Int), (∀ p, p.1 ≤ 10 → p.2 ≤ p.1 → behR [ballsOf p] 0 b = F p) → ∀ x, x ∈ bvs b (gamesR ws offl f) ↔ x ∈ (gamesL ws f (offT offl)).map F := fun b F hF x => by
    simp only [bvs, List.mem_map]
    constructor
    · rintro ⟨g, hg, rfl⟩
      obtain ⟨p, hq, rfl⟩ := List.mem_map.1 (hp.mem_iff.1 hg)
      exact ⟨p, hq, (hF p (hb p hq).1 (hb p hq).2).symm⟩
    · rintro ⟨p, hq, rfl⟩
      exact ⟨ballsOf p, hp.mem_iff.2 (List.mem_map.2 ⟨p, hq, rfl⟩), hF p (hb p hq).1 (hb p hq).2⟩
  exact ⟨key 0 (fun p => (p.1 : Int)) fun p h1 h2 => (behR_one h1 h2).1, key 1 (fun p => (p.2 : Int)) fun p h1 h2 => (behR_one h1 h2).2⟩
theorem frame_same (f : Int) (h0 : 0 < (gamesL ws f (offT offl)).length) : loF (bvs 0 (gamesR ws offl f)) = loS (fsts (gamesL ws f (offT offl))) ∧ hiF (bvs 0 (gamesR ws offl f)) = hiS (fsts (gamesL ws f (offT offl))) ∧ loF (bvs 1 (gamesR ws offl f)) = loS (snds (gamesL ws f (offT offl))) ∧ hiF (bvs 1 (gamesR ws offl f)) = hiS (snds (gamesL ws f (offT offl))) := by
  obtain ⟨h1, h2⟩ := bvs_mem hok offl f
  have hl := games_len hok offl f
  have l : ∀ b, 0 < (bvs b (gamesR ws offl f)).length := fun b => by simp [bvs]; omega
  have a := lo_same h1 (l 0) (games_bd ws offl f (.inl rfl))
  have b := lo_same h2 (l 1) (games_bd ws offl f (.inr rfl))
  exact ⟨a.1, a.2, b.1, b.2⟩
theorem ranges_same (hx : explB (m : Int) ws (offT offl) = true) : ∀ k, k ≤ m → rgsR ws offl k = rangesL ws (offT offl) k ∧ cloR ws offl k = cntLo ws (offT offl) k ∧ chiR ws offl k = cntHi ws (offT offl) k
  | 0, _ => ⟨rfl, rfl, rfl⟩
  | k + 1, hk => by
    obtain ⟨h1, h2, h3⟩ := ranges_same hx k (by omega)
    obtain ⟨a, b, c, d⟩ := frame_same hok offl (k : Int) (expl_games hx (by omega))
    refine ⟨?_, ?_, ?_⟩
    · rw [rgsR, rangesL, h1, a, b, c, d, List.append_assoc]; rfl
    · rw [cloR, cntLo, h2, d]
    · rw [chiR, cntHi, h3, c]
end
end Go.Proofs.Ytadjkinpimmhkaa
