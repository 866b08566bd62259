/-
  frame: how a game stands behind a ball.
-/
import Derived.Test.YtenpiinkbfancaaFb0
namespace Go.Proofs.Ytenpiinkbfancaa
open Go.RowKit
set_option linter.unusedSimpArgs false
set_option linter.unusedVariables false

set_option maxRecDepth 100000 in
set_option maxHeartbeats 8000000 in
theorem next_l1t (N : Int) (p : Pl) (b : Int) (w : World) (hp : PlOk N p) (hN : 1 ≤ N ∧ N ≤ 10) (hf : p.fr < N) (h0 : 0 ≤ b) (h1 : b ≤ p.st) (hc : p.fr = N - 1 ∧ p.st - b = 0 ∧ p.th + 1 < 3 ∧ p.fresh = true ∧ b = 10) :
    Calls Try.prog 107 #[plV N p, .int .i64 b] w (Ans w (nxV N p ⟨p.fr, p.th + 1, 10, true, 3, p.a1, 0⟩ b)) := by
  obtain ⟨f0, f1, t0, t1, nd, n2, s0, s1, fs, a0, a2, b0, b1⟩ := hp
  unfold nxV plV wth
  dsimp only
  obtain ⟨fr, th, st, fresh, need, x0, x1⟩ := p
  dsimp only at *
  obtain ⟨c1, c2, c3, c4⟩ := hc
  obtain ⟨c6, rfl⟩ := c4
  subst c6
  have w1 : IntKind.i64.wrap (1 + x0) = 1 + x0 := IntWalk.i64_in _ (by omega)
  have m1 : 0 ≤ 10 * (1 + x0) ∧ 10 * (1 + x0) ≤ 30 := by
    constructor
    · exact Int.mul_nonneg (by omega) (by omega)
    · have : 10 * (1 + x0) ≤ 10 * 3 := Int.mul_le_mul_of_nonneg_left (by omega) (by omega)
      omega
  have w2 : IntKind.i64.wrap (10 * (1 + x0)) = 10 * (1 + x0) := IntWalk.i64_in _ (by omega)
  have w3 : IntKind.i64.wrap (st - 10) = st - 10 := IntWalk.i64_in _ (by omega)
  have w4 : IntKind.i64.wrap (th + 1) = th + 1 := IntWalk.i64_in _ (by omega)
  have w5 : IntKind.i64.wrap (N - 1) = N - 1 := IntWalk.i64_in _ (by omega)
  have w6 : IntKind.i64.wrap (fr + 1) = fr + 1 := IntWalk.i64_in _ (by omega)
  have w7 : IntKind.i64.wrap (x1 + 1) = x1 + 1 := IntWalk.i64_in _ (by omega)
  have e1 : (st - 10 == 0) = true := by simp; omega
  have e2 : (fr == N - 1) = true := by simp; omega
  have e3 : decide (th + 1 < 3) = true := decide_eq_true (by omega)
  have e6 : (th + 1 == 3) = false := by simp; omega
  have hb := fun (o o' : Obj) => below_two (w := w) o o'
  have HB := Lib.hid hb
  have HM := Lib.hid m1
  clear hb c1 c2 c3 m1 f0 f1 t0 t1 nd n2 s0 s1 a0 a2 b0 b1
  go_enter Try.func107, Try.ntmps107
  go_wp2_with fail
  refine bodyPost_ret (v := .tuple #[.agg #[.int .i64 N, .int .i64 10, .int .i64 2, .int .i64 10, .int .i64 (fr), .int .i64 (th + 1), .int .i64 (10), .bool true, .int .i64 (3), .int .i64 (x1), .int .i64 (0)], .int .i64 10, .int .i64 (10 * (1 + x0))]) ?_ rfl ?_
  · simp [results, Try.results107, go_sem]
  · exact ⟨rfl, HB.out _ _⟩
set_option maxRecDepth 100000 in
set_option maxHeartbeats 8000000 in
theorem next_l2dt (N : Int) (p : Pl) (b : Int) (w : World) (hp : PlOk N p) (hN : 1 ≤ N ∧ N ≤ 10) (hf : p.fr < N) (h0 : 0 ≤ b) (h1 : b ≤ p.st) (hc : p.fr = N - 1 ∧ p.st - b = 0 ∧ p.th + 1 = 3 ∧ p.need = 3 ∧ p.fresh = true ∧ b = 10) :
    Calls Try.prog 107 #[plV N p, .int .i64 b] w (Ans w (nxV N p ⟨p.fr + 1, 0, 10, true, 2, p.a1, 0⟩ b)) := by
  obtain ⟨f0, f1, t0, t1, nd, n2, s0, s1, fs, a0, a2, b0, b1⟩ := hp
  unfold nxV plV wth
  dsimp only
  obtain ⟨fr, th, st, fresh, need, x0, x1⟩ := p
  dsimp only at *
  obtain ⟨c1, c2, c3, c5, c4⟩ := hc
  obtain ⟨c6, rfl⟩ := c4
  subst c6
  have w1 : IntKind.i64.wrap (1 + x0) = 1 + x0 := IntWalk.i64_in _ (by omega)
  have m1 : 0 ≤ 10 * (1 + x0) ∧ 10 * (1 + x0) ≤ 30 := by
    constructor
    · exact Int.mul_nonneg (by omega) (by omega)
    · have : 10 * (1 + x0) ≤ 10 * 3 := Int.mul_le_mul_of_nonneg_left (by omega) (by omega)
      omega
  have w2 : IntKind.i64.wrap (10 * (1 + x0)) = 10 * (1 + x0) := IntWalk.i64_in _ (by omega)
  have w3 : IntKind.i64.wrap (st - 10) = st - 10 := IntWalk.i64_in _ (by omega)
  have w4 : IntKind.i64.wrap (th + 1) = th + 1 := IntWalk.i64_in _ (by omega)
  have w5 : IntKind.i64.wrap (N - 1) = N - 1 := IntWalk.i64_in _ (by omega)
  have w6 : IntKind.i64.wrap (fr + 1) = fr + 1 := IntWalk.i64_in _ (by omega)
  have w7 : IntKind.i64.wrap (x1 + 1) = x1 + 1 := IntWalk.i64_in _ (by omega)
  have e1 : (st - 10 == 0) = true := by simp; omega
  have e2 : (fr == N - 1) = true := by simp; omega
  have e3 : decide (th + 1 < 3) = false := decide_eq_false (by omega)
  have e6 : (th + 1 == need) = true := by simp; omega
  have hb := fun (o o' : Obj) => below_two (w := w) o o'
  have HB := Lib.hid hb
  have HM := Lib.hid m1
  clear hb c1 c2 c3 m1 f0 f1 t0 t1 nd n2 s0 s1 a0 a2 b0 b1
  go_enter Try.func107, Try.ntmps107
  go_wp2_with fail
  refine bodyPost_ret (v := .tuple #[.agg #[.int .i64 N, .int .i64 10, .int .i64 2, .int .i64 10, .int .i64 (fr + 1), .int .i64 (0), .int .i64 (10), .bool true, .int .i64 (2), .int .i64 (x1), .int .i64 (0)], .int .i64 10, .int .i64 (10 * (1 + x0))]) ?_ rfl ?_
  · simp [results, Try.results107, go_sem]
  · exact ⟨rfl, HB.out _ _⟩
set_option maxRecDepth 100000 in
set_option maxHeartbeats 8000000 in
theorem next_m1t (N : Int) (p : Pl) (b : Int) (w : World) (hp : PlOk N p) (hN : 1 ≤ N ∧ N ≤ 10) (hf : p.fr < N) (h0 : 0 ≤ b) (h1 : b ≤ p.st) (hc : ¬ p.fr = N - 1 ∧ p.st - b = 0 ∧ p.th = 0 ∧ p.fresh = true ∧ b = 10) :
    Calls Try.prog 107 #[plV N p, .int .i64 b] w (Ans w (nxV N p ⟨p.fr + 1, 0, 10, true, 2, p.a1 + 1, 1⟩ b)) := by
  obtain ⟨f0, f1, t0, t1, nd, n2, s0, s1, fs, a0, a2, b0, b1⟩ := hp
  unfold nxV plV wth
  dsimp only
  obtain ⟨fr, th, st, fresh, need, x0, x1⟩ := p
  dsimp only at *
  obtain ⟨c1, c2, c3, c4⟩ := hc
  obtain ⟨c6, rfl⟩ := c4
  subst c6
  have w1 : IntKind.i64.wrap (1 + x0) = 1 + x0 := IntWalk.i64_in _ (by omega)
  have m1 : 0 ≤ 10 * (1 + x0) ∧ 10 * (1 + x0) ≤ 30 := by
    constructor
    · exact Int.mul_nonneg (by omega) (by omega)
    · have : 10 * (1 + x0) ≤ 10 * 3 := Int.mul_le_mul_of_nonneg_left (by omega) (by omega)
      omega
  have w2 : IntKind.i64.wrap (10 * (1 + x0)) = 10 * (1 + x0) := IntWalk.i64_in _ (by omega)
  have w3 : IntKind.i64.wrap (st - 10) = st - 10 := IntWalk.i64_in _ (by omega)
  have w4 : IntKind.i64.wrap (th + 1) = th + 1 := IntWalk.i64_in _ (by omega)
  have w5 : IntKind.i64.wrap (N - 1) = N - 1 := IntWalk.i64_in _ (by omega)
  have w6 : IntKind.i64.wrap (fr + 1) = fr + 1 := IntWalk.i64_in _ (by omega)
  have w7 : IntKind.i64.wrap (x1 + 1) = x1 + 1 := IntWalk.i64_in _ (by omega)
  have e1 : (st - 10 == 0) = true := by simp; omega
  have e2 : (fr == N - 1) = false := by simp; omega
  have e4 : (th + 1 == 1) = true := by simp; omega
  have e6 : (th + 1 == need) = false := by simp; omega
  have hb := fun (o o' : Obj) => below_two (w := w) o o'
  have HB := Lib.hid hb
  have HM := Lib.hid m1
  clear hb c1 c2 c3 m1 f0 f1 t0 t1 nd n2 s0 s1 a0 a2 b0 b1
  go_enter Try.func107, Try.ntmps107
  go_wp2_with fail
  refine bodyPost_ret (v := .tuple #[.agg #[.int .i64 N, .int .i64 10, .int .i64 2, .int .i64 10, .int .i64 (fr + 1), .int .i64 (0), .int .i64 (10), .bool true, .int .i64 (2), .int .i64 (x1 + 1), .int .i64 (1)], .int .i64 10, .int .i64 (10 * (1 + x0))]) ?_ rfl ?_
  · simp [results, Try.results107, go_sem]
  · exact ⟨rfl, HB.out _ _⟩
set_option maxRecDepth 100000 in
set_option maxHeartbeats 8000000 in
theorem next_m2t (N : Int) (p : Pl) (b : Int) (w : World) (hp : PlOk N p) (hN : 1 ≤ N ∧ N ≤ 10) (hf : p.fr < N) (h0 : 0 ≤ b) (h1 : b ≤ p.st) (hc : ¬ p.fr = N - 1 ∧ p.st - b = 0 ∧ p.th = 1 ∧ p.fresh = true ∧ b = 10) :
    Calls Try.prog 107 #[plV N p, .int .i64 b] w (Ans w (nxV N p ⟨p.fr + 1, 0, 10, true, 2, p.a1 + 1, 0⟩ b)) := by
  obtain ⟨f0, f1, t0, t1, nd, n2, s0, s1, fs, a0, a2, b0, b1⟩ := hp
  unfold nxV plV wth
  dsimp only
  obtain ⟨fr, th, st, fresh, need, x0, x1⟩ := p
  dsimp only at *
  obtain ⟨c1, c2, c3, c4⟩ := hc
  obtain ⟨c6, rfl⟩ := c4
  subst c6
  have w1 : IntKind.i64.wrap (1 + x0) = 1 + x0 := IntWalk.i64_in _ (by omega)
  have m1 : 0 ≤ 10 * (1 + x0) ∧ 10 * (1 + x0) ≤ 30 := by
    constructor
    · exact Int.mul_nonneg (by omega) (by omega)
    · have : 10 * (1 + x0) ≤ 10 * 3 := Int.mul_le_mul_of_nonneg_left (by omega) (by omega)
      omega
  have w2 : IntKind.i64.wrap (10 * (1 + x0)) = 10 * (1 + x0) := IntWalk.i64_in _ (by omega)
  have w3 : IntKind.i64.wrap (st - 10) = st - 10 := IntWalk.i64_in _ (by omega)
  have w4 : IntKind.i64.wrap (th + 1) = th + 1 := IntWalk.i64_in _ (by omega)
  have w5 : IntKind.i64.wrap (N - 1) = N - 1 := IntWalk.i64_in _ (by omega)
  have w6 : IntKind.i64.wrap (fr + 1) = fr + 1 := IntWalk.i64_in _ (by omega)
  have w7 : IntKind.i64.wrap (x1 + 1) = x1 + 1 := IntWalk.i64_in _ (by omega)
  have e1 : (st - 10 == 0) = true := by simp; omega
  have e2 : (fr == N - 1) = false := by simp; omega
  have e4 : (th + 1 == 1) = false := by simp; omega
  have e5 : (th + 1 == 2) = true := by simp; omega
  have e6 : (th + 1 == need) = true := by simp; omega
  have hb := fun (o o' : Obj) => below_two (w := w) o o'
  have HB := Lib.hid hb
  have HM := Lib.hid m1
  clear hb c1 c2 c3 m1 f0 f1 t0 t1 nd n2 s0 s1 a0 a2 b0 b1
  go_enter Try.func107, Try.ntmps107
  go_wp2_with fail
  refine bodyPost_ret (v := .tuple #[.agg #[.int .i64 N, .int .i64 10, .int .i64 2, .int .i64 10, .int .i64 (fr + 1), .int .i64 (0), .int .i64 (10), .bool true, .int .i64 (2), .int .i64 (x1 + 1), .int .i64 (0)], .int .i64 10, .int .i64 (10 * (1 + x0))]) ?_ rfl ?_
  · simp [results, Try.results107, go_sem]
  · exact ⟨rfl, HB.out _ _⟩
set_option maxRecDepth 100000 in
set_option maxHeartbeats 8000000 in
theorem next_l1f (N : Int) (p : Pl) (b : Int) (w : World) (hp : PlOk N p) (hN : 1 ≤ N ∧ N ≤ 10) (hf : p.fr < N) (h0 : 0 ≤ b) (h1 : b ≤ p.st) (hc : p.fr = N - 1 ∧ p.st - b = 0 ∧ p.th + 1 < 3 ∧ ¬ (p.fresh = true ∧ 10 ≤ b)) :
    Calls Try.prog 107 #[plV N p, .int .i64 b] w (Ans w (nxV N p ⟨p.fr, p.th + 1, 10, true, 3, p.a1, 0⟩ b)) := by
  obtain ⟨f0, f1, t0, t1, nd, n2, s0, s1, fs, a0, a2, b0, b1⟩ := hp
  unfold nxV plV wth
  dsimp only
  obtain ⟨fr, th, st, fresh, need, x0, x1⟩ := p
  dsimp only at *
  obtain ⟨c1, c2, c3, c4⟩ := hc
  have g1 : fresh = true → ¬ 10 ≤ b := fun h h2 => c4 ⟨h, h2⟩
  have g2 : fresh = true → decide (10 ≤ b) = false := fun h => decide_eq_false (g1 h)
  have w1 : IntKind.i64.wrap (1 + x0) = 1 + x0 := IntWalk.i64_in _ (by omega)
  have m1 : 0 ≤ b * (1 + x0) ∧ b * (1 + x0) ≤ 30 := by
    constructor
    · exact Int.mul_nonneg (by omega) (by omega)
    · have : b * (1 + x0) ≤ b * 3 := Int.mul_le_mul_of_nonneg_left (by omega) (by omega)
      omega
  have w2 : IntKind.i64.wrap (b * (1 + x0)) = b * (1 + x0) := IntWalk.i64_in _ (by omega)
  have w3 : IntKind.i64.wrap (st - b) = st - b := IntWalk.i64_in _ (by omega)
  have w4 : IntKind.i64.wrap (th + 1) = th + 1 := IntWalk.i64_in _ (by omega)
  have w5 : IntKind.i64.wrap (N - 1) = N - 1 := IntWalk.i64_in _ (by omega)
  have w6 : IntKind.i64.wrap (fr + 1) = fr + 1 := IntWalk.i64_in _ (by omega)
  have w7 : IntKind.i64.wrap (x1 + 1) = x1 + 1 := IntWalk.i64_in _ (by omega)
  have e1 : (st - b == 0) = true := by simp; omega
  have e2 : (fr == N - 1) = true := by simp; omega
  have e3 : decide (th + 1 < 3) = true := decide_eq_true (by omega)
  have e6 : (th + 1 == 3) = false := by simp; omega
  have g5 : fresh = true → False := fun h => by have := fs h; have := g1 h; omega
  have x3 : (if b < 0 then (0 : Int) else b) = b := if_neg (by omega)
  have x4 : (if 0 < b then b else (0 : Int)) = b := by split <;> omega
  have hb := fun (o o' : Obj) => below_two (w := w) o o'
  have HB := Lib.hid hb
  have HM := Lib.hid m1
  clear hb c1 c2 c3 m1 f0 f1 t0 t1 nd n2 s0 s1 a0 a2 b0 b1 c4
  cases fresh
  · clear g1 g2
    go_enter Try.func107, Try.ntmps107
    go_wp2_with fail
    refine bodyPost_ret (v := .tuple #[.agg #[.int .i64 N, .int .i64 10, .int .i64 2, .int .i64 10, .int .i64 (fr), .int .i64 (th + 1), .int .i64 (10), .bool true, .int .i64 (3), .int .i64 (x1), .int .i64 (0)], .int .i64 b, .int .i64 (b * (1 + x0))]) ?_ rfl ?_
    · simp [results, Try.results107, go_sem]
    · exact ⟨rfl, HB.out _ _⟩
  · have g3 := g1 rfl
    have g4 := g2 rfl
    clear g1 g2 fs
    exact (g5 rfl).elim
set_option maxRecDepth 100000 in
set_option maxHeartbeats 8000000 in
theorem next_l2df (N : Int) (p : Pl) (b : Int) (w : World) (hp : PlOk N p) (hN : 1 ≤ N ∧ N ≤ 10) (hf : p.fr < N) (h0 : 0 ≤ b) (h1 : b ≤ p.st) (hc : p.fr = N - 1 ∧ p.st - b = 0 ∧ p.th + 1 = 3 ∧ p.need = 3 ∧ ¬ (p.fresh = true ∧ 10 ≤ b)) :
    Calls Try.prog 107 #[plV N p, .int .i64 b] w (Ans w (nxV N p ⟨p.fr + 1, 0, 10, true, 2, p.a1, 0⟩ b)) := by
  obtain ⟨f0, f1, t0, t1, nd, n2, s0, s1, fs, a0, a2, b0, b1⟩ := hp
  unfold nxV plV wth
  dsimp only
  obtain ⟨fr, th, st, fresh, need, x0, x1⟩ := p
  dsimp only at *
  obtain ⟨c1, c2, c3, c5, c4⟩ := hc
  have g1 : fresh = true → ¬ 10 ≤ b := fun h h2 => c4 ⟨h, h2⟩
  have g2 : fresh = true → decide (10 ≤ b) = false := fun h => decide_eq_false (g1 h)
  have w1 : IntKind.i64.wrap (1 + x0) = 1 + x0 := IntWalk.i64_in _ (by omega)
  have m1 : 0 ≤ b * (1 + x0) ∧ b * (1 + x0) ≤ 30 := by
    constructor
    · exact Int.mul_nonneg (by omega) (by omega)
    · have : b * (1 + x0) ≤ b * 3 := Int.mul_le_mul_of_nonneg_left (by omega) (by omega)
      omega
  have w2 : IntKind.i64.wrap (b * (1 + x0)) = b * (1 + x0) := IntWalk.i64_in _ (by omega)
  have w3 : IntKind.i64.wrap (st - b) = st - b := IntWalk.i64_in _ (by omega)
  have w4 : IntKind.i64.wrap (th + 1) = th + 1 := IntWalk.i64_in _ (by omega)
  have w5 : IntKind.i64.wrap (N - 1) = N - 1 := IntWalk.i64_in _ (by omega)
  have w6 : IntKind.i64.wrap (fr + 1) = fr + 1 := IntWalk.i64_in _ (by omega)
  have w7 : IntKind.i64.wrap (x1 + 1) = x1 + 1 := IntWalk.i64_in _ (by omega)
  have e1 : (st - b == 0) = true := by simp; omega
  have e2 : (fr == N - 1) = true := by simp; omega
  have e3 : decide (th + 1 < 3) = false := decide_eq_false (by omega)
  have e6 : (th + 1 == need) = true := by simp; omega
  have g5 : fresh = true → False := fun h => by have := fs h; have := g1 h; omega
  have x3 : (if b < 0 then (0 : Int) else b) = b := if_neg (by omega)
  have x4 : (if 0 < b then b else (0 : Int)) = b := by split <;> omega
  have hb := fun (o o' : Obj) => below_two (w := w) o o'
  have HB := Lib.hid hb
  have HM := Lib.hid m1
  clear hb c1 c2 c3 m1 f0 f1 t0 t1 nd n2 s0 s1 a0 a2 b0 b1 c4
  cases fresh
  · clear g1 g2
    go_enter Try.func107, Try.ntmps107
    go_wp2_with fail
    refine bodyPost_ret (v := .tuple #[.agg #[.int .i64 N, .int .i64 10, .int .i64 2, .int .i64 10, .int .i64 (fr + 1), .int .i64 (0), .int .i64 (10), .bool true, .int .i64 (2), .int .i64 (x1), .int .i64 (0)], .int .i64 b, .int .i64 (b * (1 + x0))]) ?_ rfl ?_
    · simp [results, Try.results107, go_sem]
    · exact ⟨rfl, HB.out _ _⟩
  · have g3 := g1 rfl
    have g4 := g2 rfl
    clear g1 g2 fs
    exact (g5 rfl).elim
set_option maxRecDepth 100000 in
set_option maxHeartbeats 8000000 in
theorem next_m1f (N : Int) (p : Pl) (b : Int) (w : World) (hp : PlOk N p) (hN : 1 ≤ N ∧ N ≤ 10) (hf : p.fr < N) (h0 : 0 ≤ b) (h1 : b ≤ p.st) (hc : ¬ p.fr = N - 1 ∧ p.st - b = 0 ∧ p.th = 0 ∧ ¬ (p.fresh = true ∧ 10 ≤ b)) :
    Calls Try.prog 107 #[plV N p, .int .i64 b] w (Ans w (nxV N p ⟨p.fr + 1, 0, 10, true, 2, p.a1 + 1, 1⟩ b)) := by
  obtain ⟨f0, f1, t0, t1, nd, n2, s0, s1, fs, a0, a2, b0, b1⟩ := hp
  unfold nxV plV wth
  dsimp only
  obtain ⟨fr, th, st, fresh, need, x0, x1⟩ := p
  dsimp only at *
  obtain ⟨c1, c2, c3, c4⟩ := hc
  have g1 : fresh = true → ¬ 10 ≤ b := fun h h2 => c4 ⟨h, h2⟩
  have g2 : fresh = true → decide (10 ≤ b) = false := fun h => decide_eq_false (g1 h)
  have w1 : IntKind.i64.wrap (1 + x0) = 1 + x0 := IntWalk.i64_in _ (by omega)
  have m1 : 0 ≤ b * (1 + x0) ∧ b * (1 + x0) ≤ 30 := by
    constructor
    · exact Int.mul_nonneg (by omega) (by omega)
    · have : b * (1 + x0) ≤ b * 3 := Int.mul_le_mul_of_nonneg_left (by omega) (by omega)
      omega
  have w2 : IntKind.i64.wrap (b * (1 + x0)) = b * (1 + x0) := IntWalk.i64_in _ (by omega)
  have w3 : IntKind.i64.wrap (st - b) = st - b := IntWalk.i64_in _ (by omega)
  have w4 : IntKind.i64.wrap (th + 1) = th + 1 := IntWalk.i64_in _ (by omega)
  have w5 : IntKind.i64.wrap (N - 1) = N - 1 := IntWalk.i64_in _ (by omega)
  have w6 : IntKind.i64.wrap (fr + 1) = fr + 1 := IntWalk.i64_in _ (by omega)
  have w7 : IntKind.i64.wrap (x1 + 1) = x1 + 1 := IntWalk.i64_in _ (by omega)
  have e1 : (st - b == 0) = true := by simp; omega
  have e2 : (fr == N - 1) = false := by simp; omega
  have e4 : (th + 1 == 1) = true := by simp; omega
  have e6 : (th + 1 == need) = false := by simp; omega
  have g5 : fresh = true → False := fun h => by have := fs h; have := g1 h; omega
  have x3 : (if b < 0 then (0 : Int) else b) = b := if_neg (by omega)
  have x4 : (if 0 < b then b else (0 : Int)) = b := by split <;> omega
  have hb := fun (o o' : Obj) => below_two (w := w) o o'
  have HB := Lib.hid hb
  have HM := Lib.hid m1
  clear hb c1 c2 c3 m1 f0 f1 t0 t1 nd n2 s0 s1 a0 a2 b0 b1 c4
  cases fresh
  · clear g1 g2
    go_enter Try.func107, Try.ntmps107
    go_wp2_with fail
    refine bodyPost_ret (v := .tuple #[.agg #[.int .i64 N, .int .i64 10, .int .i64 2, .int .i64 10, .int .i64 (fr + 1), .int .i64 (0), .int .i64 (10), .bool true, .int .i64 (2), .int .i64 (x1 + 1), .int .i64 (1)], .int .i64 b, .int .i64 (b * (1 + x0))]) ?_ rfl ?_
    · simp [results, Try.results107, go_sem]
    · exact ⟨rfl, HB.out _ _⟩
  · have g3 := g1 rfl
    have g4 := g2 rfl
    clear g1 g2 fs
    exact (g5 rfl).elim
set_option maxRecDepth 100000 in
set_option maxHeartbeats 8000000 in
theorem next_m2f (N : Int) (p : Pl) (b : Int) (w : World) (hp : PlOk N p) (hN : 1 ≤ N ∧ N ≤ 10) (hf : p.fr < N) (h0 : 0 ≤ b) (h1 : b ≤ p.st) (hc : ¬ p.fr = N - 1 ∧ p.st - b = 0 ∧ p.th = 1 ∧ ¬ (p.fresh = true ∧ 10 ≤ b)) :
    Calls Try.prog 107 #[plV N p, .int .i64 b] w (Ans w (nxV N p ⟨p.fr + 1, 0, 10, true, 2, p.a1 + 1, 0⟩ b)) := by
  obtain ⟨f0, f1, t0, t1, nd, n2, s0, s1, fs, a0, a2, b0, b1⟩ := hp
  unfold nxV plV wth
  dsimp only
  obtain ⟨fr, th, st, fresh, need, x0, x1⟩ := p
  dsimp only at *
  obtain ⟨c1, c2, c3, c4⟩ := hc
  have g1 : fresh = true → ¬ 10 ≤ b := fun h h2 => c4 ⟨h, h2⟩
  have g2 : fresh = true → decide (10 ≤ b) = false := fun h => decide_eq_false (g1 h)
  have w1 : IntKind.i64.wrap (1 + x0) = 1 + x0 := IntWalk.i64_in _ (by omega)
  have m1 : 0 ≤ b * (1 + x0) ∧ b * (1 + x0) ≤ 30 := by
    constructor
    · exact Int.mul_nonneg (by omega) (by omega)
    · have : b * (1 + x0) ≤ b * 3 := Int.mul_le_mul_of_nonneg_left (by omega) (by omega)
      omega
  have w2 : IntKind.i64.wrap (b * (1 + x0)) = b * (1 + x0) := IntWalk.i64_in _ (by omega)
  have w3 : IntKind.i64.wrap (st - b) = st - b := IntWalk.i64_in _ (by omega)
  have w4 : IntKind.i64.wrap (th + 1) = th + 1 := IntWalk.i64_in _ (by omega)
  have w5 : IntKind.i64.wrap (N - 1) = N - 1 := IntWalk.i64_in _ (by omega)
  have w6 : IntKind.i64.wrap (fr + 1) = fr + 1 := IntWalk.i64_in _ (by omega)
  have w7 : IntKind.i64.wrap (x1 + 1) = x1 + 1 := IntWalk.i64_in _ (by omega)
  have e1 : (st - b == 0) = true := by simp; omega
  have e2 : (fr == N - 1) = false := by simp; omega
  have e4 : (th + 1 == 1) = false := by simp; omega
  have e5 : (th + 1 == 2) = true := by simp; omega
  have e6 : (th + 1 == need) = true := by simp; omega
  have g5 : fresh = true → False := fun h => by have := fs h; have := g1 h; omega
  have x3 : (if b < 0 then (0 : Int) else b) = b := if_neg (by omega)
  have x4 : (if 0 < b then b else (0 : Int)) = b := by split <;> omega
  have hb := fun (o o' : Obj) => below_two (w := w) o o'
  have HB := Lib.hid hb
  have HM := Lib.hid m1
  clear hb c1 c2 c3 m1 f0 f1 t0 t1 nd n2 s0 s1 a0 a2 b0 b1 c4
  cases fresh
  · clear g1 g2
    go_enter Try.func107, Try.ntmps107
    go_wp2_with fail
    refine bodyPost_ret (v := .tuple #[.agg #[.int .i64 N, .int .i64 10, .int .i64 2, .int .i64 10, .int .i64 (fr + 1), .int .i64 (0), .int .i64 (10), .bool true, .int .i64 (2), .int .i64 (x1 + 1), .int .i64 (0)], .int .i64 b, .int .i64 (b * (1 + x0))]) ?_ rfl ?_
    · simp [results, Try.results107, go_sem]
    · exact ⟨rfl, HB.out _ _⟩
  · have g3 := g1 rfl
    have g4 := g2 rfl
    clear g1 g2 fs
    exact (g5 rfl).elim
end Go.Proofs.Ytenpiinkbfancaa
