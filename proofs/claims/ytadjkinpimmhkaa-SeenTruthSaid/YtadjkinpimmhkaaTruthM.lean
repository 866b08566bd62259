/-
  A game by words, and words made anew that are true of it: plain facts.
-/
import Derived.Test.YtadjkinpimmhkaaTold
import Derived.Test.YtadjkinpimmhkaaSuresM
import Derived.Test.YtadjkinpimmhkaaMoreM
import Derived.Test.YtadjkinpimmhkaaSetsM
namespace Go.Proofs.Ytadjkinpimmhkaa
open Go.RowKit
set_option linter.unusedSimpArgs false
set_option linter.unusedVariables false

theorem rx_trueG {ns : List Int} {m f : Nat} (hf : f < m) : rx (trueG ns m) f = trueR ns f := by
  rw [rx_lt (by rw [trueG_len]; exact hf)]
  simp [trueG]
theorem trueR_row (ns : List Int) (f : Nat) : trueR ns f = [10] ∨ ∃ a b : Int, trueR ns f = [a, b] ∧ 0 ≤ a ∧ a ≤ 9 ∧ 0 ≤ b ∧ b ≤ 10 - a := by
  have h0 := Int.emod_nonneg (numF ns (2 * f)) (b := 11) (by omega)
  have h1 := Int.emod_lt_of_pos (numF ns (2 * f)) (b := 11) (by omega)
  unfold trueR
  have e : trueA ns f = numF ns (2 * f) % 11 := rfl
  by_cases h : trueA ns f = 10
  · exact .inl (if_pos h)
  · refine .inr ⟨_, _, if_neg h, by omega, by omega, ?_, ?_⟩
    · exact Int.emod_nonneg _ (by omega)
    · have := Int.emod_lt_of_pos (numF ns (2 * f + 1)) (b := 11 - trueA ns f) (by omega)
      omega
theorem true_vals {ns : List Int} {m : Nat} : ∀ f, f < (trueG ns m).length → ∀ j, j < (rx (trueG ns m) f).length → 0 ≤ ix (rx (trueG ns m) f) j ∧ ix (rx (trueG ns m) f) j ≤ 10 := fun f hf j hj => by
  rw [trueG_len] at hf
  rw [rx_trueG hf] at hj ⊢
  rcases trueR_row ns f with e | ⟨a, b, e, h1, h2, h3, h4⟩
  · rw [e] at hj ⊢
    obtain rfl : j = 0 := by simpa using hj
    simp [ix]
  · rw [e] at hj ⊢
    rcases (by simp at hj; omega : j = 0 ∨ j = 1) with rfl | rfl
    · simp [ix]; omega
    · simp [ix]; omega
theorem true_beh {ns : List Int} {m f : Nat} (hf : f < m) : 0 ≤ behR (trueG ns m) f 1 ∧ behR (trueG ns m) f 1 ≤ behR (trueG ns m) f 0 ∧ behR (trueG ns m) f 0 ≤ 10 := by
  unfold behR
  rw [rx_trueG hf]
  rcases trueR_row ns f with e | ⟨a, b, e, h1, h2, h3, h4⟩
  · rw [e]
    simp [behN, ix]
  · rw [e]
    simp [behN, ix]
    omega
theorem true_bd {ns : List Int} {m : Nat} : ∀ f, f < m → ∀ b, b ≤ 1 → 0 ≤ behR (trueG ns m) f b ∧ behR (trueG ns m) f b ≤ 10 := fun f hf b hb => by
  have h := true_beh (ns := ns) hf
  rcases (by omega : b = 0 ∨ b = 1) with rfl | rfl <;> omega

theorem told_mem {game : List (List Int)} {ns : List Int} {b : Nat} {ws : List Wd} {x : Wd} (h : x ∈ toldL game ns b ws) : ∃ i, i < ws.length ∧ x = toldW game ns b i (wx ws i) := by
  obtain ⟨i, hi, rfl⟩ := List.mem_map.1 h
  exact ⟨i, List.mem_range.1 hi, rfl⟩
theorem told_lo {n wide y : Int} (hn : 0 ≤ n) (hw : 0 ≤ wide) : 0 ≤ toldLo n wide y ∧ toldLo n wide y ≤ n := by
  have := Int.emod_nonneg y (b := wide + 1) (by omega)
  unfold toldLo
  omega
theorem told_hi {n wide lo : Int} (hn : n ≤ 10) : n ≤ toldHi n wide lo ∧ toldHi n wide lo ≤ 10 := by
  unfold toldHi
  omega
theorem toldW_no {game : List (List Int)} {ns : List Int} {b i : Nat} {x : Wd} (h : b.testBit x.te.toNat = true) : toldW game ns b i x = x := by unfold toldW; rw [if_pos h]
theorem toldW_yes {game : List (List Int)} {ns : List Int} {b i : Nat} {x : Wd} (h : b.testBit x.te.toNat = false) : toldW game ns b i x = ⟨x.fr, x.ba, x.te, toldLo (behR game x.fr.toNat x.ba.toNat) (x.hi - x.lo) (numF ns (3 * i + 2)), toldHi (behR game x.fr.toNat x.ba.toNat) (x.hi - x.lo) (toldLo (behR game x.fr.toNat x.ba.toNat) (x.hi - x.lo) (numF ns (3 * i + 2)))⟩ := by
  unfold toldW
  rw [if_neg (by simp [h])]
theorem word_mk2 {m : Int} {x : Wd} (h : 0 ≤ x.fr ∧ x.fr ≤ m - 1 ∧ 0 ≤ x.ba ∧ x.ba ≤ 1 ∧ 0 ≤ x.te ∧ x.te ≤ 3 ∧ 0 ≤ x.lo ∧ x.lo ≤ x.hi ∧ x.hi ≤ 10) : wordB m x = true := by
  simp only [wordB, Bool.and_eq_true, inB_eq, decide_eq_true_eq]
  omega
section
variable {m : Nat} {ws : List Wd} {ns : List Int} {b : Nat}
theorem told_word {x : Wd} {i : Nat} (h : wordB (m : Int) x = true) : wordB (m : Int) (toldW (trueG ns m) ns b i x) = true := by
  cases ht : b.testBit x.te.toNat
  · rw [toldW_yes ht]
    obtain ⟨h1, h2, h3, h4, h5, h6, h7, h8, h9⟩ := word_ok h
    obtain ⟨n0, n1⟩ := true_bd (ns := ns) (m := m) x.fr.toNat (by omega) x.ba.toNat (by omega)
    generalize behR (trueG ns m) x.fr.toNat x.ba.toNat = n at *
    have a := told_lo (n := n) (wide := x.hi - x.lo) (y := numF ns (3 * i + 2)) n0 (by omega)
    have c := told_hi (n := n) (wide := x.hi - x.lo) (lo := toldLo n (x.hi - x.lo) (numF ns (3 * i + 2))) n1
    refine word_mk2 ?_
    dsimp only
    omega
  · rw [toldW_no ht]; exact h
theorem told_lane (h : laneErr (m : Int) ws = 0) : laneErr (m : Int) (toldL (trueG ns m) ns b ws) = 0 := by
  obtain ⟨h30, h1, h5, hok⟩ := laneOk h
  refine lane_mk (by omega) (by omega) (by rw [toldL_len]; exact h30) fun x hx => ?_
  obtain ⟨i, hi, rfl⟩ := told_mem hx
  exact told_word (hok i hi)
/-- What stood in a frame is one of its games. -/
def stoodP (ns : List Int) (m f : Nat) : Nat × Nat := ((behR (trueG ns m) f 0).toNat, (behR (trueG ns m) f 1).toNat)
theorem stood_in (h : laneErr (m : Int) ws = 0) {o : Nat → Bool} (ho : ∀ j, j ≤ 3 → b.testBit j = true → o j = true) {f : Nat} (hf : f < m) : stoodP ns m f ∈ gamesL (toldL (trueG ns m) ns b ws) (f : Int) o := by
  obtain ⟨h30, h1, h5, hok⟩ := laneOk h
  obtain ⟨b0, b1, b2⟩ := true_beh (ns := ns) hf
  refine games_iff.2 ⟨upTo_iff.2 ⟨by unfold stoodP; dsimp only; omega, by unfold stoodP; dsimp only; omega⟩, okB_mem.2 fun x hx => okW_iff.2 fun hfr hot => ?_⟩
  obtain ⟨i, hi, rfl⟩ := told_mem hx
  obtain ⟨g1, g2, g3, g4, g5, g6, g7, g8, g9⟩ := word_ok (hok i hi)
  cases ht : b.testBit (wx ws i).te.toNat
  · rw [toldW_yes ht] at hfr hot ⊢
    dsimp only at hfr hot
    generalize wx ws i = x at *
    have e1 : x.fr.toNat = f := by omega
    obtain ⟨n0, n1⟩ := true_bd (ns := ns) (m := m) f hf x.ba.toNat (by omega)
    have est : standB ⟨x.fr, x.ba, x.te, toldLo (behR (trueG ns m) x.fr.toNat x.ba.toNat) (x.hi - x.lo) (numF ns (3 * i + 2)), toldHi (behR (trueG ns m) x.fr.toNat x.ba.toNat) (x.hi - x.lo) (toldLo (behR (trueG ns m) x.fr.toNat x.ba.toNat) (x.hi - x.lo) (numF ns (3 * i + 2)))⟩ (stoodP ns m f).1 (stoodP ns m f).2 = behR (trueG ns m) f x.ba.toNat := by
      unfold standB stoodP
      dsimp only
      by_cases hb : x.ba = 0
      · rw [if_pos hb, hb]
        have := true_bd (ns := ns) (m := m) f hf 0 (by omega)
        simp
        omega
      · rw [if_neg hb, show x.ba = 1 by omega]
        simp
        omega
    rw [est, e1]
    dsimp only
    generalize behR (trueG ns m) f x.ba.toNat = n at *
    have a := told_lo (n := n) (wide := x.hi - x.lo) (y := numF ns (3 * i + 2)) n0 (by omega)
    have c := told_hi (n := n) (wide := x.hi - x.lo) (lo := toldLo n (x.hi - x.lo) (numF ns (3 * i + 2))) n1
    omega
  · rw [toldW_no ht] at hot
    rw [ho _ (by omega) ht] at hot
    cases hot
theorem told_expl (h : laneErr (m : Int) ws = 0) {o : Nat → Bool} (ho : ∀ j, j ≤ 3 → b.testBit j = true → o j = true) : explB (m : Int) (toldL (trueG ns m) ns b ws) o = true := by
  unfold explB
  rw [allB_iff]
  intro f hf
  exact decide_eq_true (List.length_pos_of_mem (stood_in (ns := ns) h ho (by simpa using hf)))
/-- What stood is in the range of its place. -/
theorem stood_rg (h : laneErr (m : Int) ws = 0) {o : Nat → Bool} (ho : ∀ j, j ≤ 3 → b.testBit j = true → o j = true) {i : Nat} (hi : i < 2 * m) :
    (px (rangesL (toldL (trueG ns m) ns b ws) o m) i).1 ≤ behR (trueG ns m) (i / 2) (i % 2) ∧ behR (trueG ns m) (i / 2) (i % 2) ≤ (px (rangesL (toldL (trueG ns m) ns b ws) o m) i).2 := by
  have hf : i / 2 < m := by omega
  have hin := stood_in (ns := ns) h ho hf
  have h1 := stand_at (k := i) hi (x := ⟨0, ((i % 2 : Nat) : Int), 0, 0, 0⟩) rfl hin
  have e : standB ⟨0, ((i % 2 : Nat) : Int), 0, 0, 0⟩ (stoodP ns m (i / 2)).1 (stoodP ns m (i / 2)).2 = behR (trueG ns m) (i / 2) (i % 2) := by
    have a := true_bd (ns := ns) (m := m) (i / 2) hf 0 (by omega)
    have c := true_bd (ns := ns) (m := m) (i / 2) hf 1 (by omega)
    unfold standB stoodP
    dsimp only
    rcases (by omega : i % 2 = 0 ∨ i % 2 = 1) with e | e
    · rw [e, if_pos (by rfl)]; omega
    · rw [e, if_neg (by decide)]; omega
  rw [e] at h1
  exact h1
/-- What fell. -/
def cntT (ns : List Int) (m : Nat) : Nat → Int
  | 0 => 0
  | k + 1 => cntT ns m k + (10 - behR (trueG ns m) k 1)
theorem cntT_bd : ∀ k, k ≤ m → 0 ≤ cntT ns m k ∧ cntT ns m k ≤ 10 * (k : Int)
  | 0, _ => by simp [cntT]
  | k + 1, hk => by
    have a := cntT_bd k (by omega)
    have c := true_bd (ns := ns) (m := m) k (by omega) 1 (by omega)
    simp only [cntT]
    omega
theorem cnt_in (h : laneErr (m : Int) ws = 0) {o : Nat → Bool} (ho : ∀ j, j ≤ 3 → b.testBit j = true → o j = true) : ∀ k, k ≤ m → cntLo (toldL (trueG ns m) ns b ws) o k ≤ cntT ns m k ∧ cntT ns m k ≤ cntHi (toldL (trueG ns m) ns b ws) o k
  | 0, _ => by simp [cntT, cntLo, cntHi]
  | k + 1, hk => by
    have a := cnt_in h ho k (by omega)
    have c := stood_rg (ns := ns) h ho (i := 2 * k + 1) (by omega)
    rw [show (2 * k + 1) / 2 = k by omega, show (2 * k + 1) % 2 = 1 by omega, (rangesL_at _ o m k (by omega)).2] at c
    simp only [cntLo, cntHi, cntT]
    omega
end
theorem sT_mem {r : List (Int × Int)} : ∀ n j, j < (sT r n).length → ∃ i, i < n ∧ px (sT r n) j = (((i / 2 : Nat) : Int), ((i % 2 : Nat) : Int)) ∧ (px r i).1 = (px r i).2
  | 0, j, hj => by simp [sT] at hj
  | n + 1, j, hj => by
    by_cases h : (px r n).1 = (px r n).2
    · rw [sT_yes h] at hj ⊢
      by_cases hj2 : j < (sT r n).length
      · obtain ⟨i, a, c, d⟩ := sT_mem n j hj2
        exact ⟨i, by omega, by rw [px_app1 hj2]; exact c, d⟩
      · have : j = (sT r n).length := by rw [List.length_append] at hj; simp at hj; omega
        subst this
        exact ⟨n, by omega, by rw [px_app2 (Nat.le_refl _)]; simp [px], h⟩
    · rw [sT_no h] at hj ⊢
      obtain ⟨i, a, c, d⟩ := sT_mem n j hj
      exact ⟨i, by omega, c, d⟩
theorem sure_mem {ws : List Wd} {o : Nat → Bool} {m j : Nat} (hj : j < (sureL ws o m).length) : ∃ i, i < 2 * m ∧ px (sureL ws o m) j = (((i / 2 : Nat) : Int), ((i % 2 : Nat) : Int)) ∧ (px (rangesL ws o m) i).1 = (px (rangesL ws o m) i).2 := by
  rw [sureL_sT ws o m m (Nat.le_refl _)] at hj ⊢
  exact sT_mem _ _ hj

theorem chTo_in (b : Nat) : chTo b 4 ∈ setsL := by
  have e : chTo b 4 = (((if b.testBit 0 then [0] else []) ++ (if b.testBit 1 then [1] else [])) ++ (if b.testBit 2 then [2] else [])) ++ (if b.testBit 3 then [3] else []) := by
    have st : ∀ k, chTo b (k + 1) = chTo b k ++ (if b.testBit k then [(k : Int)] else []) := fun k => by
      cases h : b.testBit k
      · rw [chTo_no h]; simp
      · rw [chTo_yes h]; simp
    rw [st, st, st, st]
    rfl
  rw [e]
  have all : ∀ p q r s : Bool, ((((if p then [(0 : Int)] else []) ++ (if q then [1] else [])) ++ (if r then [2] else [])) ++ (if s then [3] else [])) ∈ setsL := by decide +kernel
  exact all _ _ _ _
theorem first_short {ex : (Nat → Bool) → Bool} : ∀ {xss : List (List Int)}, xss.Pairwise (fun a b => a.length ≤ b.length) → ∀ s ∈ xss, ex (offT s) = true → (rx (xss.filter fun s => ex (offT s)) 0).length ≤ s.length
  | [], _, s, hs, _ => by cases hs
  | x :: xs, hp, s, hs, he => by
    rw [List.pairwise_cons] at hp
    rw [List.filter_cons]
    by_cases hx : ex (offT x) = true
    · rw [if_pos hx]
      rcases List.mem_cons.1 hs with rfl | hs
      · exact Nat.le_refl _
      · exact hp.1 s hs
    · rw [if_neg hx]
      rcases List.mem_cons.1 hs with rfl | hs
      · exact absurd he hx
      · exact first_short hp.2 s hs he
theorem sets_sorted : setsL.Pairwise (fun a b => a.length ≤ b.length) := by decide +kernel
theorem least_short {ex : (Nat → Bool) → Bool} {b : Nat} (h : ex (offT (chTo b 4)) = true) : (leastL ex).length ≤ (chTo b 4).length := by
  rw [least_firstL]
  exact first_short sets_sorted _ (chTo_in b) h
theorem blame_who {ex : (Nat → Bool) → Bool} {k : Nat} (hk : k < 4) (h : ex (offT [(k : Int)]) = true) (hb : blameOk ex = true) : blameV ex = (k : Int) := by
  unfold blameV
  rw [if_pos hb]
  simp only [blameOk, Bool.and_eq_true, decide_eq_true_eq] at hb
  have h1 := hb.2
  rw [lst1] at h1 ⊢
  have hin : [(k : Int)] ∈ (setsK 1).filter fun s => ex (offT s) := by
    refine List.mem_filter.2 ⟨?_, by simpa using h⟩
    rcases (by omega : k = 0 ∨ k = 1 ∨ k = 2 ∨ k = 3) with rfl | rfl | rfl | rfl <;> decide
  match hl : (setsK 1).filter fun s => ex (offT s), h1 with
  | [y], _ =>
    rw [hl] at hin
    have : [(k : Int)] = y := by simpa using hin
    rw [← this]
    rfl
theorem off_one {k j : Nat} (hk : k < 4) (hj : j ≤ 3) (h : (1 <<< k).testBit j = true) : offT [(k : Int)] j = true := by
  have e : k = j := by
    rw [Nat.one_shiftLeft, Nat.testBit_two_pow] at h
    simpa using h
  subst e
  rcases (by omega : k = 0 ∨ k = 1 ∨ k = 2 ∨ k = 3) with rfl | rfl | rfl | rfl <;> decide
end Go.Proofs.Ytadjkinpimmhkaa
