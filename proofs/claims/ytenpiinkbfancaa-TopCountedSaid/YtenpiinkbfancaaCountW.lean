/-
  Read and Span on the sheet of a game of words.
-/
import Derived.Test.YtenpiinkbfancaaCountM
import Derived.Test.YtenpiinkbfancaaFm
namespace Go.Proofs.Ytenpiinkbfancaa
open Go.RowKit
set_option linter.unusedSimpArgs false
set_option linter.unusedVariables false

/-- What Read returns. -/
def GmP (gm : List (List Int)) (w : World) (e : Ending) (w' : World) : Prop :=
  ∃ Af cf Az zl cz, e = .returned (.tuple #[.agg #[.slice Af gm.length cf, .slice Az zl cz, .int .i64 10, .bool false], .int .i64 0]) ∧ gm.length ≤ cf ∧ cf ≤ 9223372036854775807 ∧ Grd w'.heap.size w' Af gm ∧ Below w.heap.size w w'
theorem read_game {ns : List Int} {m : Nat} {xs : List Int} {J K : Nat} {lo hi : Int} (hc : Counted ns m xs J K lo hi) (A : Option Addr) (c : Nat) (w : World) (hx : Ints w.heap.size w A xs) :
    Calls Try.prog 14 #[.agg #[.int .i64 ((m : Int) + 1), .int .i64 10, .int .i64 2, .int .i64 10], .slice A xs.length c] w (GmP (Sn.trueG ns m) w) := by
  have h := read_c _ A c xs w hc.sheet hx
  unfold lawV at h
  refine h.mono ?_
  rintro e w' ⟨Af, cf, zs, Az, cz, st, rfl, hg, -, -, -, hst, hb⟩
  rw [hc.fr, hc.st] at hst
  rw [hc.rows] at hg ⊢
  obtain rfl := hst (by omega)
  obtain ⟨A', c', e, h1, h2, h3⟩ := hg
  injection e with e1 e2 e3
  subst e1 e3
  refine ⟨Af, cf, Az, zs.length, cz, ?_, h1, h2, h3, hb⟩
  rw [hc.fr]
  have : ((m : Int) == (m : Int) + 1) = false := by simp; omega
  rw [this]
theorem span_game {ns : List Int} {m : Nat} {xs : List Int} {J K : Nat} {lo hi : Int} (hc : Counted ns m xs J K lo hi) (A : Option Addr) (c : Nat) (w : World) (hx : Ints w.heap.size w A xs) :
    Calls Try.prog 16 #[.agg #[.int .i64 ((m : Int) + 1), .int .i64 10, .int .i64 2, .int .i64 10], .slice A xs.length c] w (Ans w (.tuple #[.agg #[.int .i64 lo, .int .i64 hi], .int .i64 0])) := by
  have h := Span_c _ A c xs J K w hc.sheet hx hc.j hc.k
  unfold lawV at h
  rw [hc.elo, hc.ehi] at h
  exact h
end Go.Proofs.Ytenpiinkbfancaa
