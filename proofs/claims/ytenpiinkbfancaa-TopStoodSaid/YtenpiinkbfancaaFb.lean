/-
  frame: how a game stands behind a ball.
-/
import Derived.Test.YtenpiinkbfancaaFb1
import Derived.Test.YtenpiinkbfancaaFb2
import Derived.Test.YtenpiinkbfancaaFb3
namespace Go.Proofs.Ytenpiinkbfancaa
open Go.RowKit
set_option linter.unusedSimpArgs false
set_option linter.unusedVariables false

/-- The game behind a ball. -/
theorem next_c (N : Int) (p : Pl) (b : Int) (w : World) (hp : PlOk N p) (hN : 1 ≤ N ∧ N ≤ 10) (hf : p.fr < N) (h0 : 0 ≤ b) (h1 : b ≤ p.st) : Calls Try.prog 107 #[plV N p, .int .i64 b] w (Ans w (nxV N p (nextP N p b) b)) := by
  have hs := hp.s1
  have hs0 := hp.s0
  have hfs := hp.fs
  have ht0 := hp.t0
  have ht1 := hp.t1
  have hnd := hp.nd
  have hn2 := hp.n2
  unfold nextP
  by_cases t : p.fresh = true ∧ 10 ≤ b
  · have hst := hfs t.1
    have hb : b = 10 := by omega
    have c2 : p.st - b = 0 := by omega
    by_cases c1 : p.fr = N - 1
    · rw [if_pos c1]
      by_cases c3 : p.th + 1 < 3
      · rw [if_pos ⟨c2, c3⟩]; exact next_l1t N p b w hp hN hf h0 h1 ⟨c1, c2, c3, t.1, hb⟩
      · rw [if_neg (by omega), if_pos (by omega)]; exact next_l2dt N p b w hp hN hf h0 h1 ⟨c1, c2, by omega, by omega, t.1, hb⟩
    · rw [if_neg c1, if_pos c2]
      have := hn2 c1
      by_cases c3 : p.th = 0
      · rw [if_pos c3]; exact next_m1t N p b w hp hN hf h0 h1 ⟨c1, c2, c3, t.1, hb⟩
      · rw [if_neg c3]; exact next_m2t N p b w hp hN hf h0 h1 ⟨c1, c2, by omega, t.1, hb⟩
  · by_cases c1 : p.fr = N - 1
    · rw [if_pos c1]
      by_cases c2 : p.st - b = 0
      · by_cases c3 : p.th + 1 < 3
        · rw [if_pos ⟨c2, c3⟩]; exact next_l1f N p b w hp hN hf h0 h1 ⟨c1, c2, c3, t⟩
        · rw [if_neg (by omega), if_pos (by omega)]; exact next_l2df N p b w hp hN hf h0 h1 ⟨c1, c2, by omega, by omega, t⟩
      · rw [if_neg (fun h => c2 h.1)]
        by_cases c3 : p.th + 1 = p.need
        · rw [if_pos c3]; exact next_l2nf N p b w hp hN hf h0 h1 ⟨c1, c2, c3, t⟩
        · rw [if_neg c3]; exact next_l3f N p b w hp hN hf h0 h1 ⟨c1, c2, c3, t⟩
    · rw [if_neg c1]
      have := hn2 c1
      by_cases c2 : p.st - b = 0
      · rw [if_pos c2]
        by_cases c3 : p.th = 0
        · rw [if_pos c3]; exact next_m1f N p b w hp hN hf h0 h1 ⟨c1, c2, c3, t⟩
        · rw [if_neg c3]; exact next_m2f N p b w hp hN hf h0 h1 ⟨c1, c2, by omega, t⟩
      · rw [if_neg c2]
        by_cases c3 : p.th + 1 = p.need
        · rw [if_pos c3]; exact next_m3f N p b w hp hN hf h0 h1 ⟨c1, c2, c3, t⟩
        · rw [if_neg c3]; exact next_m4f N p b w hp hN hf h0 h1 ⟨c1, c2, c3, t⟩
end Go.Proofs.Ytenpiinkbfancaa
