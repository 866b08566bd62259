/-
  frame: the final count of a sheet that goes on with the balls of an end.
-/
import Derived.Test.YtenpiinkbfancaaFf
namespace Go.Proofs.Ytenpiinkbfancaa
open Go.RowKit
set_option linter.unusedSimpArgs false
set_option linter.unusedVariables false

attribute [local go_sem] Oper.semAt_some
/-- The ball that leads to an end. -/
def ballE (mo : Bool) (p : Pl) : Int := if mo then p.st else 0
/-- Behind j more balls that lead to an end; what they are worth. -/
def finS (N : Int) (mo : Bool) (p : Pl) : Nat → Pl
  | 0 => p
  | j + 1 => nextP N (finS N mo p j) (ballE mo (finS N mo p j))
def finT (N : Int) (mo : Bool) (p : Pl) : Nat → Int
  | 0 => 0
  | j + 1 => finT N mo p j + wth (finS N mo p j) (ballE mo (finS N mo p j))
def endF (mo : Bool) : Nat := if mo then 110 else 109
set_option maxHeartbeats 400000 in
theorem least_c (N : Int) (p : Pl) (w : World) : Calls Try.prog 109 #[plV N p] w (Ans w (.int .i64 0)) := by
  obtain ⟨fr, th, st, fresh, need, a0, a1⟩ := p
  have hb : Below w.heap.size w (w.alloc (.cells #[.int .i64 N, .int .i64 10, .int .i64 2, .int .i64 10, .int .i64 fr, .int .i64 th, .int .i64 st, .bool fresh, .int .i64 need, .int .i64 a0, .int .i64 a1] 148)) := (Below.refl _ _).alloc (Nat.le_refl _) _
  unfold plV
  dsimp only
  go_enter Try.func109, Try.ntmps109
  go_wp2
  go_ret
  exact ⟨rfl, hb⟩
set_option maxHeartbeats 400000 in
theorem most_c (N : Int) (p : Pl) (w : World) : Calls Try.prog 110 #[plV N p] w (Ans w (.int .i64 p.st)) := by
  obtain ⟨fr, th, st, fresh, need, a0, a1⟩ := p
  have hb : Below w.heap.size w (w.alloc (.cells #[.int .i64 N, .int .i64 10, .int .i64 2, .int .i64 10, .int .i64 fr, .int .i64 th, .int .i64 st, .bool fresh, .int .i64 need, .int .i64 a0, .int .i64 a1] 148)) := (Below.refl _ _).alloc (Nat.le_refl _) _
  unfold plV
  dsimp only
  go_enter Try.func110, Try.ntmps110
  go_wp2
  go_ret
  exact ⟨rfl, hb⟩
theorem endF_c (mo : Bool) (N : Int) (p : Pl) (w : World) : Calls Try.prog (endF mo) #[plV N p] w (Ans w (.int .i64 (ballE mo p))) := by
  cases mo
  · exact least_c N p w
  · exact most_c N p w
theorem enters_endF (mo : Bool) : Enters (endF mo) := by
  cases mo
  · exact fun _ _ => enters_of Try.func109 (by kernel_rfl) rfl _ _
  · exact fun _ _ => enters_of Try.func110 (by kernel_rfl) rfl _ _
/-- An end's balls lead to the end: J of them. -/
structure FinOk (N : Int) (mo : Bool) (p : Pl) (J : Nat) : Prop where
  j10 : J ≤ 10
  ok : ∀ j, j ≤ J → PlOk N (finS N mo p j)
  run : ∀ j, j < J → (finS N mo p j).fr < N
  stop : (finS N mo p J).fr = N
theorem ballE_bd {N : Int} {mo : Bool} {p : Pl} (h : PlOk N p) : 0 ≤ ballE mo p ∧ ballE mo p ≤ p.st ∧ ballE mo p ≤ 10 := by
  have := h.s0
  have := h.s1
  unfold ballE
  split <;> omega
theorem finT_bd {N : Int} {mo : Bool} {p : Pl} {J : Nat} (h : FinOk N mo p J) : ∀ j, j ≤ J → 0 ≤ finT N mo p j ∧ finT N mo p j ≤ 30 * (j : Int)
  | 0, _ => by simp [finT]
  | j + 1, hj => by
    have h1 := finT_bd h j (by omega)
    have hb := ballE_bd (mo := mo) (h.ok j (by omega))
    have h2 := wth_bd (h.ok j (by omega)) hb.1 hb.2.2
    simp only [finT]
    omega
theorem fin_least {F a0 a1 : Int} (hF : 0 ≤ F ∧ F ≤ 9) (h0 : 0 ≤ a0 ∧ a0 ≤ 2) (h1 : 0 ≤ a1 ∧ a1 ≤ 1) : FinOk (F + 1) false (atP F a0 a1) 2 ∧ finT (F + 1) false (atP F a0 a1) 2 = 0 := by
  have e0 : finS (F + 1) false (atP F a0 a1) 1 = ⟨F, 1, 10, false, 2, a1, 0⟩ := by simp [finS, nextP, ballE, atP]
  have e1 : finS (F + 1) false (atP F a0 a1) 2 = ⟨F + 1, 0, 10, true, 2, 0, 0⟩ := by rw [finS, e0]; simp [nextP, ballE]
  refine ⟨⟨by omega, fun j hj => ?_, fun j hj => ?_, by rw [e1]⟩, ?_⟩
  · rcases (by omega : j = 0 ∨ j = 1 ∨ j = 2) with rfl | rfl | rfl
    · show PlOk _ (atP F a0 a1)
      constructor <;> simp [atP] <;> omega
    · rw [e0]; constructor <;> simp <;> omega
    · rw [e1]; constructor <;> simp <;> omega
  · rcases (by omega : j = 0 ∨ j = 1) with rfl | rfl
    · show F < F + 1; omega
    · rw [e0]; show F < F + 1; omega
  · simp [finT, wth, ballE]
theorem fin_most {F a0 a1 : Int} (hF : 0 ≤ F ∧ F ≤ 9) (h0 : 0 ≤ a0 ∧ a0 ≤ 2) (h1 : 0 ≤ a1 ∧ a1 ≤ 1) : FinOk (F + 1) true (atP F a0 a1) 3 ∧ finT (F + 1) true (atP F a0 a1) 3 = 30 + 10 * (a0 + a1) := by
  have e0 : finS (F + 1) true (atP F a0 a1) 1 = ⟨F, 1, 10, true, 3, a1, 0⟩ := by simp [finS, nextP, ballE, atP]
  have e1 : finS (F + 1) true (atP F a0 a1) 2 = ⟨F, 2, 10, true, 3, 0, 0⟩ := by rw [finS, e0]; simp [nextP, ballE]
  have e2 : finS (F + 1) true (atP F a0 a1) 3 = ⟨F + 1, 0, 10, true, 2, 0, 0⟩ := by rw [finS, e1]; simp [nextP, ballE]
  refine ⟨⟨by omega, fun j hj => ?_, fun j hj => ?_, by rw [e2]⟩, ?_⟩
  · rcases (by omega : j = 0 ∨ j = 1 ∨ j = 2 ∨ j = 3) with rfl | rfl | rfl | rfl
    · show PlOk _ (atP F a0 a1)
      constructor <;> simp [atP] <;> omega
    · rw [e0]; constructor <;> simp <;> omega
    · rw [e1]; constructor <;> simp <;> omega
    · rw [e2]; constructor <;> simp <;> omega
  · rcases (by omega : j = 0 ∨ j = 1 ∨ j = 2) with rfl | rfl | rfl
    · show F < F + 1; omega
    · rw [e0]; show F < F + 1; omega
    · rw [e1]; show F < F + 1; omega
  · simp only [finT, e0, e1, wth, ballE]
    simp [finS, atP]
    omega
end Go.Proofs.Ytenpiinkbfancaa
