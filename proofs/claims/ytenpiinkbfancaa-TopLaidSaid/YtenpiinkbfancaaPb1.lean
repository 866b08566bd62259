/-
  path and its reference: the small functions.
-/
import Derived.Test.YtenpiinkbfancaaPaM
import Derived.Test.YtenpiinkbfancaaOlA
namespace Go.Proofs.Ytenpiinkbfancaa.Pa
open Go.RowKit
set_option linter.unusedSimpArgs false
set_option linter.unusedVariables false

attribute [local go_sem] Oper.semAt_some
theorem below_two2 (w : World) (o o' : Obj) : Below w.heap.size w ((w.alloc o).alloc o') := ((Below.refl _ _).alloc (Nat.le_refl _) _).alloc (by simp) _
theorem in69_c (x a b : Int) (w : World) : Calls Try.prog 69 #[.int .i64 x, .int .i64 a, .int .i64 b] w (Same w (.bool (inB x a b))) := by
  unfold inB
  go_enter Try.func69, Try.ntmps69
  by_cases h1 : a ≤ x
  · have t1 : decide (x ≥ a) = true := decide_eq_true h1
    go_wp2_with fail
    go_ret
    exact ⟨by simp [h1], rfl⟩
  · have t1 : decide (x ≥ a) = false := decide_eq_false h1
    go_wp2_with fail
    go_ret
    exact ⟨by simp [h1], rfl⟩
theorem within94_c (x a b : Int) (w : World) : Calls Try.prog 94 #[.int .i64 x, .int .i64 a, .int .i64 b] w (Same w (.bool (inB x a b))) := by
  unfold inB
  go_enter Try.func94, Try.ntmps94
  by_cases h1 : a ≤ x
  · have t1 : decide (a ≤ x) = true := decide_eq_true h1
    go_wp2_with fail
    go_ret
    exact ⟨by simp [h1], rfl⟩
  · have t1 : decide (a ≤ x) = false := decide_eq_false h1
    go_wp2_with fail
    go_ret
    exact ⟨by simp [h1], rfl⟩
theorem span70_c (x y a b : Int) (w : World) : Calls Try.prog 70 #[.agg #[.int .i64 x, .int .i64 y], .int .i64 a, .int .i64 b] w (Ans w (.bool (spanB x y a b))) := by
  have hb0 : Below w.heap.size w (w.alloc (.cells #[.int .i64 x, .int .i64 y] 183)) := (Below.refl _ _).alloc (Nat.le_refl _) _
  have HB := Lib.hid hb0
  unfold spanB
  cases h1 : inB x a b
  · have H1 := Lib.hid (fun W => in69_c x a b W)
    rw [h1] at H1
    clear h1 hb0
    go_enter Try.func70, Try.ntmps70
    go_wp2_with fail
    refine (H1.out _).mono ?_
    rintro e w1 ⟨rfl, rfl⟩
    go_wp2_with fail
    go_ret
    exact ⟨rfl, HB.out⟩
  · cases h2 : inB y a b
    · have H1 := Lib.hid (fun W => in69_c x a b W)
      have H2 := Lib.hid (fun W => in69_c y a b W)
      rw [h1] at H1
      rw [h2] at H2
      clear h1 h2 hb0
      go_enter Try.func70, Try.ntmps70
      go_wp2_with fail
      refine (H1.out _).mono ?_
      rintro e w1 ⟨rfl, rfl⟩
      go_wp2_with fail
      refine (H2.out _).mono ?_
      rintro e w1 ⟨rfl, rfl⟩
      go_wp2_with fail
      go_ret
      exact ⟨rfl, HB.out⟩
    · have H1 := Lib.hid (fun W => in69_c x a b W)
      have H2 := Lib.hid (fun W => in69_c y a b W)
      rw [h1] at H1
      rw [h2] at H2
      clear h1 h2 hb0
      go_enter Try.func70, Try.ntmps70
      go_wp2_with fail
      refine (H1.out _).mono ?_
      rintro e w1 ⟨rfl, rfl⟩
      go_wp2_with fail
      refine (H2.out _).mono ?_
      rintro e w1 ⟨rfl, rfl⟩
      go_wp2_with fail
      go_ret
      exact ⟨rfl, HB.out⟩
theorem to76_c (x y : Int) (w : World) : Calls Try.prog 76 #[.agg #[.int .i64 x, .int .i64 y]] w (Ans w (.agg #[.int .i64 x, .int .i64 y])) := by
  have hb0 : Below w.heap.size w (w.alloc (.cells #[.int .i64 x, .int .i64 y] 183)) := (Below.refl _ _).alloc (Nat.le_refl _) _
  go_enter Try.func76, Try.ntmps76
  go_wp2_with fail
  refine bodyPost_ret (v := .agg #[.int .i64 x, .int .i64 y]) (by simp [results, Try.results76, go_sem]) rfl ?_
  exact ⟨rfl, hb0.alloc (by simp) _⟩
theorem start33_c (x y : Int) (w : World) : Calls Try.prog 33 #[.agg #[.int .i64 x, .int .i64 y]] w (Ans w (.agg #[.int .i64 x, .int .i64 y])) := by
  have hb0 : Below w.heap.size w (w.alloc (.cells #[.int .i64 x, .int .i64 y] 90)) := (Below.refl _ _).alloc (Nat.le_refl _) _
  go_enter Try.func33, Try.ntmps33
  go_wp2_with fail
  refine bodyPost_ret (v := .agg #[.int .i64 x, .int .i64 y]) (by simp [results, Try.results33, go_sem]) rfl ?_
  exact ⟨rfl, hb0.alloc (by simp) _⟩
theorem has73_c (x y n : Int) (w : World) : Calls Try.prog 73 #[.agg #[.int .i64 x, .int .i64 y], .int .i64 n] w (Ans w (.bool (inB n x y))) := by
  have hb0 : Below w.heap.size w (w.alloc (.cells #[.int .i64 x, .int .i64 y] 186)) := (Below.refl _ _).alloc (Nat.le_refl _) _
  have HB := Lib.hid hb0
  have H1 := Lib.hid (fun W => within94_c n x y W)
  generalize inB n x y = r at *
  clear hb0
  go_enter Try.func73, Try.ntmps73
  go_wp2_with fail
  refine (H1.out _).mono ?_
  rintro e w1 ⟨rfl, rfl⟩
  go_wp2_with fail
  go_ret
  exact ⟨rfl, HB.out⟩
def LV (l : Ln) (H P : Option Addr) (ch cp : Nat) : Value := .agg #[.int .i64 l.nb, .int .i64 l.nr, .slice H l.hk.length ch, .slice P l.pt.length cp]
theorem on75_c (l : Ln) (H P : Option Addr) (ch cp : Nat) (b d : Int) (w : World) : Calls Try.prog 75 #[LV l H P ch cp, .agg #[.int .i64 b, .int .i64 d]] w (Ans w (.bool (onB l (b, d)))) := by
  unfold LV onB
  have hb0 : Below w.heap.size w ((w.alloc (.cells #[.int .i64 l.nb, .int .i64 l.nr, .slice H l.hk.length ch, .slice P l.pt.length cp] 103)).alloc (.cells #[.int .i64 b, .int .i64 d] 105)) := below_two2 _ _ _
  have HB := Lib.hid hb0
  have H1 := Lib.hid (fun W => within94_c b 1 l.nb W)
  dsimp only
  generalize inB b 1 l.nb = r at *
  clear hb0
  go_enter Try.func75, Try.ntmps75
  go_wp2_with fail
  refine (H1.out _).mono ?_
  rintro e w1 ⟨rfl, rfl⟩
  go_wp2_with fail
  go_ret
  exact ⟨rfl, HB.out⟩
theorem isStart29_c (l : Ln) (H P : Option Addr) (ch cp : Nat) (b d : Int) (w : World) : Calls Try.prog 29 #[LV l H P ch cp, .agg #[.int .i64 b, .int .i64 d]] w (Ans w (.bool (startB l (b, d)))) := by
  unfold LV startB onB
  have hb0 : Below w.heap.size w ((w.alloc (.cells #[.int .i64 l.nb, .int .i64 l.nr, .slice H l.hk.length ch, .slice P l.pt.length cp] 88)).alloc (.cells #[.int .i64 b, .int .i64 d] 90)) := below_two2 _ _ _
  have HB := Lib.hid hb0
  have H1 := Lib.hid (fun W => in69_c b 1 l.nb W)
  have H2 := Lib.hid (fun W => in69_c d (-5) 5 W)
  dsimp only
  generalize inB b 1 l.nb = r at *
  generalize inB d (-5) 5 = q at *
  clear hb0
  go_enter Try.func29, Try.ntmps29
  go_wp2_with fail
  refine (H1.out _).mono ?_
  rintro e w1 ⟨rfl, rfl⟩
  cases r
  · go_wp2_with fail
    go_ret
    exact ⟨rfl, HB.out⟩
  · go_wp2_with fail
    refine (H2.out _).mono ?_
    rintro e w1 ⟨rfl, rfl⟩
    go_wp2_with fail
    go_ret
    exact ⟨by simp, HB.out⟩
theorem next79_c (b d turn : Int) (hd : -5 ≤ d ∧ d ≤ 5) (hb : 1 ≤ b ∧ b ≤ 40) (ht : -3 ≤ turn ∧ turn ≤ 3) (w : World) : Calls Try.prog 79 #[.agg #[.int .i64 b, .int .i64 d], .int .i64 turn] w (Ans w (.agg #[.int .i64 (nxt (b, d) turn).1, .int .i64 (nxt (b, d) turn).2])) := by
  have hb0 : Below w.heap.size w (w.alloc (.cells #[.int .i64 b, .int .i64 d] 90)) := (Below.refl _ _).alloc (Nat.le_refl _) _
  have hw1 : IntKind.i64.wrap (d + turn) = d + turn := IntWalk.i64_in _ (by omega)
  have hx := nxDir_bd d turn
  have hw2 : IntKind.i64.wrap (b + nxDir d turn) = b + nxDir d turn := IntWalk.i64_in _ (by omega)
  obtain ⟨x, hxe⟩ : ∃ x, x = nxDir d turn := ⟨_, rfl⟩
  unfold nxt
  dsimp only
  rw [← hxe] at hw2 hx ⊢
  unfold nxDir at hxe
  have HX := Lib.hid hxe
  have m1 : (if d + turn < 5 then d + turn else 5) = min 5 (d + turn) := by omega
  have m2 : (if 5 < d + turn then 5 else d + turn) = min 5 (d + turn) := by omega
  obtain ⟨y, hye⟩ : ∃ y, y = min 5 (d + turn) := ⟨_, rfl⟩
  rw [← hye] at m1 m2 hxe
  have m3 : (if y < -5 then -5 else y) = x := by omega
  have m4 : (if -5 < y then y else -5) = x := by omega
  clear hxe hye HX
  go_enter Try.func79, Try.ntmps79
  go_wp2_with fail
  refine bodyPost_ret (v := .agg #[.int .i64 (b + x), .int .i64 x]) (by simp [results, Try.results79, go_sem]) rfl ?_
  exact ⟨rfl, hb0.alloc (by simp) _⟩
end Go.Proofs.Ytenpiinkbfancaa.Pa
