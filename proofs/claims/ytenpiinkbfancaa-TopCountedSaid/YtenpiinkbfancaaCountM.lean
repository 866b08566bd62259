/-
  A game of words, ball by ball a sheet of a game with one frame more: how it stands, which frames it has, and between which counts it can end.
-/
import Derived.Test.YtenpiinkbfancaaFg
import Derived.Test.YtenpiinkbfancaaSnE
namespace Go.Proofs.Ytenpiinkbfancaa
open Go.RowKit
set_option linter.unusedSimpArgs false
set_option linter.unusedVariables false

theorem trueG_fr {ns : List Int} {m : Nat} : ∀ r ∈ Sn.trueG ns m, FrR r := by
  intro r hr
  simp only [Sn.trueG, List.mem_map] at hr
  obtain ⟨f, -, rfl⟩ := hr
  rcases Sn.trueR_row ns f with e | ⟨a, b, e, h1, h2, h3, h4⟩
  · rw [e]; exact .inl rfl
  · rw [e]; exact .inr ⟨a, b, rfl, by omega, by omega, by omega, by omega⟩
theorem row_beh {ns : List Int} {m f : Nat} (hf : f < m) : (rx (Sn.trueG ns m) f).sum = 10 - Sn.behR (Sn.trueG ns m) f 1 := by
  unfold Sn.behR
  rw [Sn.rx_trueG hf]
  rcases Sn.trueR_row ns f with e | ⟨a, b, e, h1, h2, h3, h4⟩
  · rw [e]; simp [Sn.behN, ix]
  · rw [e]; simp [Sn.behN, ix]; omega
theorem cnt_sum {ns : List Int} {m : Nat} : ∀ k, k ≤ m → ((Sn.trueG ns m).take k).flatten.sum = Sn.cntT ns m k
  | 0, _ => by simp [Sn.cntT]
  | k + 1, hk => by
    have hl := Sn.trueG_len ns m
    have e : (Sn.trueG ns m)[k]'(by omega) = rx (Sn.trueG ns m) k := by unfold rx; simp [List.getD, show k < (Sn.trueG ns m).length by omega]
    rw [List.take_succ_eq_append_getElem (by omega), List.flatten_append, List.sum_append, cnt_sum k (by omega), e]
    simp only [List.flatten_cons, List.flatten_nil, List.append_nil, Sn.cntT]
    rw [row_beh (by omega)]
/-- What is true of the sheet. -/
structure Counted (ns : List Int) (m : Nat) (xs : List Int) (J K : Nat) (lo hi : Int) : Prop where
  sheet : SheetOk ((m : Int) + 1) xs
  rows : rowsS ((m : Int) + 1) xs xs.length = Sn.trueG ns m
  fr : (plS ((m : Int) + 1) xs xs.length).fr = (m : Int)
  st : (plS ((m : Int) + 1) xs xs.length).st = 10
  j : FinOk ((m : Int) + 1) false (plS ((m : Int) + 1) xs xs.length) J
  k : FinOk ((m : Int) + 1) true (plS ((m : Int) + 1) xs xs.length) K
  elo : totS ((m : Int) + 1) xs xs.length + finT ((m : Int) + 1) false (plS ((m : Int) + 1) xs xs.length) J = lo
  ehi : totS ((m : Int) + 1) xs xs.length + finT ((m : Int) + 1) true (plS ((m : Int) + 1) xs xs.length) K = hi
  least : Sn.cntT ns m m ≤ lo
  most : hi ≤ 30 * ((m : Int) + 1)
theorem counted {ns : List Int} {m : Nat} (hm : m ≤ 5) : ∃ lo hi, Counted ns m (Sn.trueG ns m).flatten 2 3 lo hi := by
  have hl := Sn.trueG_len ns m
  have hfr := @trueG_fr ns m
  have hs := sheet_game hfr (by omega)
  have hr := rows_all hfr
  obtain ⟨b0, b1, e, p0, p1, s1, s2⟩ := game_span hfr
  have hc := cnt_sum (ns := ns) (m := m) m (Nat.le_refl _)
  rw [List.take_of_length_le (by omega)] at hc
  rw [hl] at hs hr e s1 s2
  have hok := plS_ok hs _ (Nat.le_refl _)
  rw [e] at hok
  have q0 := hok.a2
  have q1 := hok.b1
  simp only [atP] at q0 q1
  have hF : (0 : Int) ≤ (m : Int) ∧ (m : Int) ≤ 9 := by omega
  obtain ⟨f1, f2⟩ := fin_least (F := (m : Int)) (a0 := b0) (a1 := b1) hF (by omega) (by omega)
  obtain ⟨g1, g2⟩ := fin_most (F := (m : Int)) (a0 := b0) (a1 := b1) hF (by omega) (by omega)
  refine ⟨_, _, hs, hr, by rw [e]; rfl, by rw [e]; rfl, by rw [e]; exact f1, by rw [e]; exact g1, rfl, rfl, ?_, ?_⟩
  · rw [e, f2, ← hc]; omega
  · rw [e, g2]; omega
theorem take_sum_succ {xs : List Int} {k : Nat} (h : k < xs.length) : (xs.take (k + 1)).sum = (xs.take k).sum + ix xs k := by
  rw [List.take_succ_eq_append_getElem h, List.sum_append, ix_lt h]
  simp
/-- What the statement's loops ask of the game's rows. -/
structure GmF (ns : List Int) (m : Nat) (gm : List (List Int)) : Prop where
  row : ∀ f, f < m → (rx gm f).length ≤ 2 ∧ ∀ k, 0 ≤ ((rx gm f).take k).sum ∧ ((rx gm f).take k).sum ≤ 10
  val : ∀ f, f < m → ∀ k, k < (rx gm f).length → 0 ≤ ix (rx gm f) k ∧ ix (rx gm f) k ≤ 10
  cnt : ∀ f, f < m → Sn.cntT ns m (f + 1) = Sn.cntT ns m f + ((rx gm f).take (rx gm f).length).sum
  beh : ∀ f, f < m → ∀ b, b ≤ 1 → Sn.behR gm f b = 10 - ((rx gm f).take (b + 1)).sum
  flat : ∀ f, f < m → (gm.take (f + 1)).flatten = (gm.take f).flatten ++ rx gm f
  len : ∀ f, f ≤ m → (gm.take f).flatten.length ≤ 100
  all : (gm.take m).flatten = gm.flatten
theorem gmF {ns : List Int} {m : Nat} (hm : m ≤ 5) : GmF ns m (Sn.trueG ns m) := by
  have hl := Sn.trueG_len ns m
  have key : ∀ f, f < m → rx (Sn.trueG ns m) f = [10] ∨ ∃ a b : Int, rx (Sn.trueG ns m) f = [a, b] ∧ 0 ≤ a ∧ a ≤ 9 ∧ 0 ≤ b ∧ b ≤ 10 - a := fun f hf => by
    rw [Sn.rx_trueG hf]
    exact Sn.trueR_row ns f
  refine ⟨fun f hf => ?_, fun f hf k hk => ?_, fun f hf => ?_, fun f hf b hb => ?_, fun f hf => ?_, fun f hf => ?_, ?_⟩
  · rcases key f hf with e | ⟨a, b, e, h1, h2, h3, h4⟩
    · rw [e]
      refine ⟨by simp, fun k => ?_⟩
      cases k <;> simp
    · rw [e]
      refine ⟨by simp, fun k => ?_⟩
      rcases k with _ | _ | k <;> simp <;> omega
  · rcases key f hf with e | ⟨a, b, e, h1, h2, h3, h4⟩
    · rw [e] at hk ⊢
      obtain rfl : k = 0 := by simpa using hk
      simp [ix]
    · rw [e] at hk ⊢
      rcases (by simp at hk; omega : k = 0 ∨ k = 1) with rfl | rfl
      · simp [ix]; omega
      · simp [ix]; omega
  · rw [List.take_length, row_beh hf]
    rfl
  · unfold Sn.behR
    rcases key f hf with e | ⟨a, c, e, h1, h2, h3, h4⟩
    · rw [e]
      rcases (by omega : b = 0 ∨ b = 1) with rfl | rfl <;> simp [Sn.behN, ix]
    · rw [e]
      rcases (by omega : b = 0 ∨ b = 1) with rfl | rfl
      · simp [Sn.behN, ix]
      · simp [Sn.behN, ix]; omega
  · rw [List.take_succ_eq_append_getElem (by omega), List.flatten_append]
    unfold rx
    simp [List.getD, show f < (Sn.trueG ns m).length by omega]
  · have h1 := flat_len (gm := (Sn.trueG ns m).take f) (fun r hr => trueG_fr r (List.mem_of_mem_take hr))
    rw [List.length_take] at h1
    omega
  · rw [List.take_of_length_le (by omega)]
end Go.Proofs.Ytenpiinkbfancaa
