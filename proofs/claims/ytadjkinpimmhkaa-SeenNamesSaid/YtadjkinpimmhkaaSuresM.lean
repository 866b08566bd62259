/-
  The places that are sure, one by one. Plain facts.
-/
import Derived.Test.YtadjkinpimmhkaaMono
import Derived.Test.YtadjkinpimmhkaaSure
namespace Go.Proofs.Ytadjkinpimmhkaa
open Go.RowKit
set_option linter.unusedSimpArgs false
set_option linter.unusedVariables false

/-- Those of the first n places whose range is one number. -/
def sT (r : List (Int × Int)) : Nat → List (Int × Int)
  | 0 => []
  | n + 1 => if (px r n).1 = (px r n).2 then sT r n ++ [(((n / 2 : Nat) : Int), ((n % 2 : Nat) : Int))] else sT r n
theorem sT_yes {r : List (Int × Int)} {n : Nat} (h : (px r n).1 = (px r n).2) : sT r (n + 1) = sT r n ++ [(((n / 2 : Nat) : Int), ((n % 2 : Nat) : Int))] := by rw [sT, if_pos h]
theorem sT_no {r : List (Int × Int)} {n : Nat} (h : ¬ (px r n).1 = (px r n).2) : sT r (n + 1) = sT r n := by rw [sT, if_neg h]
theorem sT_pre (r : List (Int × Int)) (a : Nat) : ∀ d, ∃ t, sT r (a + d) = sT r a ++ t
  | 0 => ⟨[], by simp⟩
  | d + 1 => by
    obtain ⟨t, e⟩ := sT_pre r a d
    by_cases h : (px r (a + d)).1 = (px r (a + d)).2
    · exact ⟨t ++ [((((a + d) / 2 : Nat) : Int), (((a + d) % 2 : Nat) : Int))], by rw [← Nat.add_assoc, sT_yes h, e, List.append_assoc]⟩
    · exact ⟨t, by rw [← Nat.add_assoc, sT_no h, e]⟩
theorem sT_at {r : List (Int × Int)} {i n : Nat} (hi : i < n) (h : (px r i).1 = (px r i).2) : (sT r i).length < (sT r n).length ∧ px (sT r n) (sT r i).length = (((i / 2 : Nat) : Int), ((i % 2 : Nat) : Int)) := by
  obtain ⟨t, e⟩ := sT_pre r (i + 1) (n - (i + 1))
  rw [show i + 1 + (n - (i + 1)) = n by omega, sT_yes h, List.append_assoc] at e
  rw [e]
  refine ⟨by rw [List.length_append, List.length_append]; simp; omega, ?_⟩
  rw [px_app2 (Nat.le_refl _), Nat.sub_self]
  rfl
theorem sT_len (r : List (Int × Int)) : ∀ n, (sT r n).length ≤ n
  | 0 => Nat.le_refl _
  | n + 1 => by
    have := sT_len r n
    unfold sT
    split
    · rw [List.length_append]; simp; omega
    · omega
theorem sureL_sT (ws : List Wd) (o : Nat → Bool) (m : Nat) : ∀ k, k ≤ m → sureL ws o k = sT (rangesL ws o m) (2 * k)
  | 0, _ => rfl
  | k + 1, hk => by
    have ih := sureL_sT ws o m k (by omega)
    obtain ⟨a1, a2⟩ := rangesL_at ws o m k (by omega)
    rw [show 2 * (k + 1) = 2 * k + 1 + 1 by omega, sureL, ih]
    have e1 : sT (rangesL ws o m) (2 * k + 1) = sT (rangesL ws o m) (2 * k) ++ oneS (k : Int) 0 (loS (fsts (gamesL ws (k : Int) o))) (hiS (fsts (gamesL ws (k : Int) o))) := by
      unfold oneS
      by_cases h : loS (fsts (gamesL ws (k : Int) o)) = hiS (fsts (gamesL ws (k : Int) o))
      · rw [sT_yes (by rw [a1]; exact h), if_pos h]
        congr 3
        · omega
        · omega
      · rw [sT_no (by rw [a1]; exact h), if_neg h, List.append_nil]
    have e2 : sT (rangesL ws o m) (2 * k + 1 + 1) = sT (rangesL ws o m) (2 * k + 1) ++ oneS (k : Int) 1 (loS (snds (gamesL ws (k : Int) o))) (hiS (snds (gamesL ws (k : Int) o))) := by
      unfold oneS
      by_cases h : loS (snds (gamesL ws (k : Int) o)) = hiS (snds (gamesL ws (k : Int) o))
      · rw [sT_yes (by rw [a2]; exact h), if_pos h]
        congr 3
        · omega
        · omega
      · rw [sT_no (by rw [a2]; exact h), if_neg h, List.append_nil]
    rw [e2, e1]
theorem OwnP.rgs {base : Nat} {w : World} {A : Option Addr} {n c : Nat} {rs : List (Int × Int)} (h : OwnP base w (.slice A n c) rs) : rs.length ≤ c ∧ c ≤ 9223372036854775807 ∧ Rgs w.heap.size w A rs := by
  rcases h.2 with ⟨e, h0⟩ | ⟨g, cap, cur, e, hb, hg, hn, hm, hs, ht⟩
  · injection e with e1 e2 e3
    subst e1 e3
    exact ⟨by omega, by omega, fun hp => by omega⟩
  · injection e with e1 e2 e3
    subst e1 e3
    refine ⟨hn, by unfold maxLen at hm; omega, fun hp => ⟨g, 0, rfl, (Array.getElem?_eq_some_iff.1 hg).1, fun k hk => ?_⟩⟩
    obtain ⟨a1, a2⟩ := flatR_at rs k hk
    have b1 := h.cells (g := g) rfl _ _ a1
    have b2 := h.cells (g := g) rfl _ _ a2
    rw [add_eq] at b1 b2
    exact ⟨b1, by rw [Nat.add_assoc]; exact b2⟩
end Go.Proofs.Ytadjkinpimmhkaa
