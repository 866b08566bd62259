/-
  path and its reference: the state behind a turn, the word, the hooks of the reference, thin.
-/
import Derived.Test.YtenpiinkbfancaaPb1
namespace Go.Proofs.Ytenpiinkbfancaa.Pa
open Go.RowKit
set_option linter.unusedSimpArgs false
set_option linter.unusedVariables false

attribute [local go_sem] Oper.semAt_some
theorem least129_c (g : Nat) (x y : Int) (w : World) (h0 : w.cell? ⟨g, 0, none⟩ = some (.int .i64 x)) (h1 : w.cell? ⟨g, 1, none⟩ = some (.int .i64 y)) :
    Calls Try.prog 129 #[.slice (some ⟨g, 0, none⟩) 2 2] w (Same w (.int .i64 (min x y))) := by
  go_enter Try.func129, Try.ntmps129
  go_wp2_with (go_at_call 117; refine (Ol.min2_c _ _ _ _ h0 h1).mono ?_; rintro e w' ⟨rfl, rfl⟩)
  go_ret
  exact ⟨rfl, rfl⟩
theorem greatest128_c (g : Nat) (x y : Int) (w : World) (h0 : w.cell? ⟨g, 0, none⟩ = some (.int .i64 x)) (h1 : w.cell? ⟨g, 1, none⟩ = some (.int .i64 y)) :
    Calls Try.prog 128 #[.slice (some ⟨g, 0, none⟩) 2 2] w (Same w (.int .i64 (max x y))) := by
  go_enter Try.func128, Try.ntmps128
  go_wp2_with (go_at_call 118; refine (Ol.max2_c _ _ _ _ h0 h1).mono ?_; rintro e w' ⟨rfl, rfl⟩)
  go_ret
  exact ⟨rfl, rfl⟩
theorem next74_c (b d turn : Int) (hd : -5 ≤ d ∧ d ≤ 5) (hb : 1 ≤ b ∧ b ≤ 40) (ht : -3 ≤ turn ∧ turn ≤ 3) (w : World) : Calls Try.prog 74 #[.agg #[.int .i64 b, .int .i64 d], .int .i64 turn] w (Ans w (.agg #[.int .i64 (nxt (b, d) turn).1, .int .i64 (nxt (b, d) turn).2])) := by
  have hw1 : IntKind.i64.wrap (d + turn) = d + turn := IntWalk.i64_in _ (by omega)
  have hx := nxDir_bd d turn
  have hw2 : IntKind.i64.wrap (b + nxDir d turn) = b + nxDir d turn := IntWalk.i64_in _ (by omega)
  obtain ⟨x, hxe⟩ : ∃ x, x = nxDir d turn := ⟨_, rfl⟩
  unfold nxt
  dsimp only
  rw [← hxe] at hw2 hx ⊢
  unfold nxDir at hxe
  have HX := Lib.hid hxe
  have hb0 : Below w.heap.size w (w.alloc (.cells #[.int .i64 b, .int .i64 d] 105)) := (Below.refl _ _).alloc (Nat.le_refl _) _
  clear hxe
  go_enter Try.func74, Try.ntmps74
  go_wp2_with fail
  refine (least129_c _ 5 (d + turn) _ (by go_simp) (by go_simp)).mono ?_
  rintro e w1 ⟨rfl, rfl⟩
  generalize min 5 (d + turn) = y at *
  go_wp2_with fail
  refine (greatest128_c _ (-5) y _ (by go_simp) (by go_simp)).mono ?_
  rintro e w1 ⟨rfl, rfl⟩
  rw [← HX.out]
  clear HX
  go_wp2_with fail
  refine bodyPost_ret (v := .agg #[.int .i64 (b + x), .int .i64 x]) (by simp [results, Try.results74, go_sem]) rfl ?_
  refine ⟨rfl, ?_⟩
  exact ((hb0.alloc (by simp) _).alloc (by simp; omega) _).alloc (by simp; omega) _
theorem thin27_c (l : Ln) (H P : Option Addr) (ch cp : Nat) (w : World) : Calls Try.prog 27 #[LV l H P ch cp] w (Ans w (.bool (decide (l.pt.length ≤ 12) && decide (l.hk.length ≤ 6)))) := by
  unfold LV
  have hb0 : Below w.heap.size w (w.alloc (.cells #[.int .i64 l.nb, .int .i64 l.nr, .slice H l.hk.length ch, .slice P l.pt.length cp] 88)) := (Below.refl _ _).alloc (Nat.le_refl _) _
  go_enter Try.func27, Try.ntmps27
  by_cases h1 : l.pt.length ≤ 12
  · have t1 : decide ((l.pt.length : Int) ≤ 12) = true := decide_eq_true (by omega)
    by_cases h2 : l.hk.length ≤ 6
    · have t2 : decide ((l.hk.length : Int) ≤ 6) = true := decide_eq_true (by omega)
      go_wp2_with fail
      go_ret
      exact ⟨by simp [h1, h2], hb0⟩
    · have t2 : decide ((l.hk.length : Int) ≤ 6) = false := decide_eq_false (by omega)
      go_wp2_with fail
      go_ret
      exact ⟨by simp [h1, h2], hb0⟩
  · have t1 : decide ((l.pt.length : Int) ≤ 12) = false := decide_eq_false (by omega)
    go_wp2_with fail
    go_ret
    exact ⟨by simp [h1], hb0⟩
/-- Words: numbers of 16 bits. -/
def W16 (B : Nat) (w : World) (A : Option Addr) (ws : List Int) : Prop :=
  0 < ws.length → ∃ b off, A = some ⟨b, off, none⟩ ∧ b < B ∧ ∀ k, k < ws.length → w.cell? ⟨b, off + k, none⟩ = some (.int .u16 (ix ws k)) ∧ 0 ≤ ix ws k ∧ ix ws k ≤ 65535
theorem W16.step {w w' : World} {A : Option Addr} {xs : List Int} (h : W16 w.heap.size w A xs) (hb : Below w.heap.size w w') : W16 w'.heap.size w' A xs := fun hp => by
  obtain ⟨b, off, hA, hlt, hc⟩ := h hp
  exact ⟨b, off, hA, Nat.lt_of_lt_of_le hlt hb.size, fun k hk => ⟨(hb.cell (p := ⟨b, off + k, none⟩) hlt).trans (hc k hk).1, (hc k hk).2⟩⟩
theorem word78_c (A : Option Addr) (ws : List Int) (c k : Nat) (w : World) (hw : W16 w.heap.size w A ws) (hc : ws.length ≤ c ∧ c ≤ 9223372036854775807) : Calls Try.prog 78 #[.slice A ws.length c, .int .i64 (k : Int)] w (Same w (.int .i64 (wordI ws k))) := by
  go_enter Try.func78, Try.ntmps78
  by_cases h0 : ws.length = 0
  · have t1 : ((ws.length : Int) == 0) = true := by simp [h0]
    go_wp2_with fail
    go_ret
    exact ⟨by simp [wordI, h0], rfl⟩
  · have t1 : ((ws.length : Int) == 0) = false := by rw [beq_eq_false_iff_ne]; omega
    obtain ⟨b, o, rfl, hb, hcc⟩ := hw (by omega)
    obtain ⟨c1, c2, c3⟩ := hcc (k % ws.length) (Nat.mod_lt _ (by omega))
    have hm : ((k : Nat) : Int).tmod (ws.length : Int) = ((k % ws.length : Nat) : Int) := by rw [Int.tmod_eq_emod_of_nonneg (by omega)]; omega
    have hlt : ((k % ws.length : Nat) : Int) < (ws.length : Int) := by have := Nat.mod_lt k (show 0 < ws.length by omega); omega
    have hn0 : ¬ (ws.length : Int) = 0 := by omega
    have hwd : wordI ws k = ix ws (k % ws.length) := by unfold wordI; rw [if_neg h0]
    rw [hwd]
    clear hcc hwd
    have HLT := Lib.hid hlt
    generalize k % ws.length = j at *
    generalize ix ws j = v at *
    have hw1 : IntKind.i64.wrap v = v := IntWalk.i64_in _ (by omega)
    have hw2 : IntKind.i64.wrap (j : Int) = (j : Int) := IntWalk.i64_in _ (by omega)
    go_wp2_with fail
    go_ret
    exact ⟨rfl, rfl⟩
end Go.Proofs.Ytenpiinkbfancaa.Pa
