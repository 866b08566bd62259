/-
  A list of numbers appended, whole, to an own one; a law of frames for the program.
-/
import Derived.Test.YtenpiinkbfancaaFj
namespace Go.Proofs.Ytenpiinkbfancaa
open Go.RowKit
set_option linter.unusedSimpArgs false
set_option linter.unusedVariables false

theorem ones_ints (ys : List Int) : ∀ u ∈ ys.map (Value.int .i64), u.oneCell' = true := by
  intro u hu
  obtain ⟨y, -, rfl⟩ := List.mem_map.1 hu
  rfl
theorem wpList_appS {ops : Array Oper} {rest : List Oper} {o : Oper} {a : Act} {Q : Exit → Act → World → Prop} (s x : Operand) (hgd : o.guard = none) (ho : o.op = .call { callee := .builtin .append, args := #[s, x], argTypes := #[42, 42] }) (base : Nat) (w : World) (u : Value) (xs ys : List Int) (m n cx B : Nat) (Ax : Option Addr)
    (hv : a.eval s = u) (hx : a.eval x = .slice Ax n cx) (hown : Hid (OwnN base w u xs)) (hm : Hid (xs.length = m)) (hy : Hid (Ints B w Ax ys)) (hn : Hid (ys.length = n)) (hl : m + n ≤ 1000000) (hb : base ≤ w.heap.size)
    (h : ∀ A c w', Hid (OwnN base w' (.slice A (m + n) c) (xs ++ ys)) → Hid (Below base w w') → wpList Try.prog ops Q rest (a.put o.dst (.slice A (m + n) c)) w') :
    wpList Try.prog ops Q (o :: rest) a w := by
  obtain rfl : xs.length = m := hm.out
  obtain rfl : ys.length = n := hn.out
  obtain ⟨i0, hi, hz0, hz1, hz2⟩ := info_parts3 infoN
  have hO : w.ownsRow base 3 1 u xs.length (xs.map (Value.int .i64)) := hown
  refine wpList_append_src hgd s x 42 ho base 3 i0 (.int .i64 0) 1 8 Try.underlying42 hi hz0 hz1 hz2 rfl (by decide) u xs.length (xs.map (Value.int .i64)) hv hO Ax ys.length cx (ys.map (Value.int .i64)) hx hy.out.isrc (ones_ints ys) (by unfold maxLen; omega) (by omega) hb ?_
  intro v' w' h1 h2 _
  obtain ⟨A, c, rfl⟩ := ownsRow_form h1
  refine h A c w' ?_ (ownN_below hown.out hb h2)
  show w'.ownsRow base 3 1 _ _ _
  simpa using h1
theorem law15_c (N a b t : Int) (w : World) : Calls Try.prog 15 #[.agg #[.int .i64 N, .int .i64 a, .int .i64 b, .int .i64 t]] w (Ans w (.agg #[.int .i64 N, .int .i64 a, .int .i64 b, .int .i64 t])) := by
  have hb0 : Below w.heap.size w (w.alloc (.cells #[.int .i64 N, .int .i64 a, .int .i64 b, .int .i64 t] 45)) := (Below.refl _ _).alloc (Nat.le_refl _) _
  go_enter Try.func15, Try.ntmps15
  go_wp2_with fail
  refine bodyPost_ret (v := .agg #[.int .i64 N, .int .i64 a, .int .i64 b, .int .i64 t]) (by simp [results, Try.results15, go_sem]) rfl ?_
  exact ⟨rfl, hb0.alloc (by simp) _⟩
end Go.Proofs.Ytenpiinkbfancaa
