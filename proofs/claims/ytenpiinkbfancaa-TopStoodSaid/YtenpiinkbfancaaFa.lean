/-
  frame: the law of a game, how it begins, whether it has ended, which ball may follow, how it stands behind a ball.
-/
import Derived.Test.YtenpiinkbfancaaRo
import Derived.Test.YtenpiinkbfancaaFrC
import Derived.Test.YtenpiinkbfancaaRt
import Derived.WalkMore
namespace Go.Proofs.Ytenpiinkbfancaa
open Go.RowKit
set_option linter.unusedSimpArgs false
set_option linter.unusedVariables false

/-- The law of a game of N frames; a game at play. -/
def lawV (N : Int) : Value := .agg #[.int .i64 N, .int .i64 10, .int .i64 2, .int .i64 10]
def plV (N : Int) (p : Pl) : Value := .agg #[.int .i64 N, .int .i64 10, .int .i64 2, .int .i64 10, .int .i64 p.fr, .int .i64 p.th, .int .i64 p.st, .bool p.fresh, .int .i64 p.need, .int .i64 p.a0, .int .i64 p.a1]
set_option maxHeartbeats 400000 in
theorem fwithin_c (n lo hi : Int) (w : World) : Calls Try.prog 146 #[.int .i64 n, .int .i64 lo, .int .i64 hi] w (Same w (.bool (inB n lo hi))) := by
  by_cases h : lo ≤ n
  · go_enter Try.func146, Try.ntmps146
    go_wp2
    go_ret
    exact ⟨ret_bool (by simp [inB, h]), rfl⟩
  · go_enter Try.func146, Try.ntmps146
    go_wp2
    go_ret
    exact ⟨ret_bool (by simp only [inB]; rw [decide_eq_false (by omega)]; rfl), rfl⟩
theorem inB_true {n lo hi : Int} (h : lo ≤ n ∧ n ≤ hi) : inB n lo hi = true := (inB_eq _ _ _).2 h
set_option maxHeartbeats 800000 in
theorem checkLaw_c (N : Int) (w : World) (h : 1 ≤ N ∧ N ≤ 10) : Calls Try.prog 101 #[lawV N] w (Ans w (.int .i64 0)) := by
  have hb : Below w.heap.size w (w.alloc (.cells #[.int .i64 N, .int .i64 10, .int .i64 2, .int .i64 10] 50)) := (Below.refl _ _).alloc (Nat.le_refl _) _
  have HB := Lib.hid hb
  have e1 : inB N 1 10 = true := inB_true h
  have e2 : inB 10 1 10 = true := rfl
  have e3 : inB 2 2 3 = true := rfl
  unfold lawV
  clear hb
  go_enter Try.func101, Try.ntmps101
  go_wp2_with (go_at_call 146; refine (fwithin_c _ _ _ _).mono ?_; rintro e w' ⟨rfl, rfl⟩)
  all_goals (try go_ret)
  exact ⟨rfl, HB.out⟩
set_option maxHeartbeats 800000 in
theorem begin_c (N : Int) (w : World) : Calls Try.prog 105 #[lawV N] w (Ans w (plV N begP)) := by
  have hb : Below w.heap.size w ((w.alloc (.cells #[.int .i64 N, .int .i64 10, .int .i64 2, .int .i64 10] 50)).alloc (.cells #[.int .i64 N, .int .i64 10, .int .i64 2, .int .i64 10, .int .i64 0, .int .i64 0, .int .i64 10, .bool true, .int .i64 2, .int .i64 0, .int .i64 0] 148)) := ((Below.refl _ _).alloc (Nat.le_refl _) _).alloc (by simp) _
  unfold lawV plV begP
  go_enter Try.func105, Try.ntmps105
  go_wp2
  refine bodyPost_ret (v := .agg #[.int .i64 N, .int .i64 10, .int .i64 2, .int .i64 10, .int .i64 0, .int .i64 0, .int .i64 10, .bool true, .int .i64 2, .int .i64 0, .int .i64 0]) ?_ rfl ?_
  · simp [results, Try.results105, go_sem]
  · exact ⟨rfl, hb⟩
set_option maxHeartbeats 800000 in
theorem done_c (N : Int) (p : Pl) (w : World) : Calls Try.prog 50 #[plV N p] w (Ans w (.bool (p.fr == N))) := by
  obtain ⟨fr, th, st, fresh, need, a0, a1⟩ := p
  have hb : Below w.heap.size w (w.alloc (.cells #[.int .i64 N, .int .i64 10, .int .i64 2, .int .i64 10, .int .i64 fr, .int .i64 th, .int .i64 st, .bool fresh, .int .i64 need, .int .i64 a0, .int .i64 a1] 148)) := (Below.refl _ _).alloc (Nat.le_refl _) _
  unfold plV
  dsimp only
  go_enter Try.func50, Try.ntmps50
  go_wp2
  go_ret
  exact ⟨rfl, hb⟩
/-- May a ball follow? -/
def mayB (N : Int) (p : Pl) (b : Int) : Bool := !(p.fr == N) && inB b (-1) p.st
set_option maxHeartbeats 800000 in
theorem may_c (N : Int) (p : Pl) (b : Int) (w : World) : Calls Try.prog 106 #[plV N p, .int .i64 b] w (Ans w (.bool (mayB N p b))) := by
  unfold mayB
  have HD := Lib.hid (fun W => done_c N p W)
  obtain ⟨fr, th, st, fresh, need, a0, a1⟩ := p
  have hb : Below w.heap.size w (w.alloc (.cells #[.int .i64 N, .int .i64 10, .int .i64 2, .int .i64 10, .int .i64 fr, .int .i64 th, .int .i64 st, .bool fresh, .int .i64 need, .int .i64 a0, .int .i64 a1] 148)) := (Below.refl _ _).alloc (Nat.le_refl _) _
  have HB := Lib.hid hb
  have k6 : (w.alloc (.cells #[.int .i64 N, .int .i64 10, .int .i64 2, .int .i64 10, .int .i64 fr, .int .i64 th, .int .i64 st, .bool fresh, .int .i64 need, .int .i64 a0, .int .i64 a1] 148)).cell? ⟨w.heap.size, 6, none⟩ = some (.int .i64 st) := by simp
  unfold plV at *
  dsimp only at *
  clear hb
  by_cases h : fr = N
  · have e1 : (fr == N) = true := by simp [h]
    rw [e1] at HD ⊢
    clear h e1
    go_enter Try.func106, Try.ntmps106
    go_wp2_with fail
    refine (HD.out _).mono ?_
    rintro e w' ⟨rfl, hb⟩
    have HB2 := Lib.hid (HB.out.trans (hb.mono HB.out.size))
    replace k6 := cell_of_ans hb k6
    go_wp2_with fail
    go_ret
    exact ⟨ret_bool (by simp), HB2.out⟩
  · have e1 : (fr == N) = false := by simp [h]
    rw [e1] at HD ⊢
    clear h e1
    go_enter Try.func106, Try.ntmps106
    go_wp2_with fail
    refine (HD.out _).mono ?_
    rintro e w' ⟨rfl, hb⟩
    have HB2 := Lib.hid (HB.out.trans (hb.mono HB.out.size))
    replace k6 := cell_of_ans hb k6
    clear hb
    go_wp2_with (go_at_call 146; refine (fwithin_c _ _ _ _).mono ?_; rintro e w' ⟨rfl, rfl⟩)
    go_ret
    exact ⟨ret_bool (by simp), HB2.out⟩
end Go.Proofs.Ytenpiinkbfancaa
