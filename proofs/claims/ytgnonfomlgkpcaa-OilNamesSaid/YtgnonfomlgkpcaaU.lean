/-
  The chapter's own example: plain values.
-/
import Derived.Test.YtgnonfomlgkpcaaS
namespace Go.Proofs.Ytgnonfomlgkpcaa
open Go.RowKit

def wearX : List (List Int) := [[2, 3, 4], [5, 5, 5]]
theorem aw_play : playErr laidX 2 5 50 rolledX wearX = 0 := by kernel_rfl
theorem aw_playO : rowsOf (playO 50 3 rolledX wearX (oilOf laidX) 2) 3 3 = [[23, 20, 10], [8, 17, 30], [5, 0, 5]] := by kernel_rfl
theorem aw_balls : ballsErr laidX 2 5 50 rolledX = 0 := by kernel_rfl
theorem aw_lo : rowsOf (endO 50 3 rolledX 2 5 (oilOf laidX) 2) 3 3 = [[20, 20, 10], [6, 16, 30], [5, 0, 5]] := by kernel_rfl
theorem aw_hi : rowsOf (endO 50 3 rolledX 5 2 (oilOf laidX) 2) 3 3 = [[26, 20, 10], [10, 20, 30], [5, 5, 5]] := by kernel_rfl
theorem aw_lasts : lastsErr laidX 2 5 50 [0, 0, 0] [10, 0, 0] = 0 := by kernel_rfl
theorem aw_last : lastsFrom 50 [0, 0, 0] [10, 0, 0] 2 5 (oilOf laidX) 0 20 = 5 := by kernel_rfl

/-- Literals: rows of three numbers. -/
abbrev lit2 (w : World) (a b c d e f : Int) : World := ((w.alloc (.cells #[.int .i64 a, .int .i64 b, .int .i64 c] 3)).alloc (.cells #[.int .i64 d, .int .i64 e, .int .i64 f] 3)).alloc (.cells #[.slice (some ⟨w.heap.size, 0, none⟩) 3 3, .slice (some ⟨w.heap.size + 1, 0, none⟩) 3 3] 45)
abbrev lit3 (w : World) (a b c d e f g h i : Int) : World := (((w.alloc (.cells #[.int .i64 a, .int .i64 b, .int .i64 c] 3)).alloc (.cells #[.int .i64 d, .int .i64 e, .int .i64 f] 3)).alloc (.cells #[.int .i64 g, .int .i64 h, .int .i64 i] 3)).alloc (.cells #[.slice (some ⟨w.heap.size, 0, none⟩) 3 3, .slice (some ⟨w.heap.size + 1, 0, none⟩) 3 3, .slice (some ⟨w.heap.size + 2, 0, none⟩) 3 3] 45)
theorem lit2_grd (w : World) (a b c d e f : Int) : Grd (lit2 w a b c d e f).heap.size (lit2 w a b c d e f) (some ⟨w.heap.size + 2, 0, none⟩) [[a, b, c], [d, e, f]] :=
  grd2 (u := .slice (some ⟨w.heap.size, 0, none⟩) 3 3) (v := .slice (some ⟨w.heap.size + 1, 0, none⟩) 3 3) (by go_simp) (by go_simp) (ints3 (by go_simp) (by go_simp) (by go_simp)) (ints3 (by go_simp) (by go_simp) (by go_simp))
theorem lit3_grd (w : World) (a b c d e f g h i : Int) : Grd (lit3 w a b c d e f g h i).heap.size (lit3 w a b c d e f g h i) (some ⟨w.heap.size + 3, 0, none⟩) [[a, b, c], [d, e, f], [g, h, i]] :=
  grd3 (u := .slice (some ⟨w.heap.size, 0, none⟩) 3 3) (v := .slice (some ⟨w.heap.size + 1, 0, none⟩) 3 3) (t := .slice (some ⟨w.heap.size + 2, 0, none⟩) 3 3) (by go_simp) (by go_simp) (by go_simp) (ints3 (by go_simp) (by go_simp) (by go_simp)) (ints3 (by go_simp) (by go_simp) (by go_simp)) (ints3 (by go_simp) (by go_simp) (by go_simp))
theorem lit2_below (w : World) (a b c d e f : Int) : Below w.heap.size w (lit2 w a b c d e f) := (((Below.refl _ _).alloc (Nat.le_refl _) _).alloc (by simp) _).alloc (by simp; omega) _
theorem lit3_below (w : World) (a b c d e f g h i : Int) : Below w.heap.size w (lit3 w a b c d e f g h i) := ((((Below.refl _ _).alloc (Nat.le_refl _) _).alloc (by simp) _).alloc (by simp; omega) _).alloc (by simp; omega) _

/-- A pattern of three rows, and no error. -/
def AwPlay (w : World) (yss : List (List Int)) (e : Ending) (w' : World) : Prop :=
  ∃ A c, e = .returned (.tuple #[.slice A 3 c, .int .i64 0]) ∧ (3 ≤ c ∧ c ≤ 9223372036854775807) ∧ Grd w'.heap.size w' A yss ∧ Below w.heap.size w w'
def AwBounds (w : World) (yss zss : List (List Int)) (e : Ending) (w' : World) : Prop :=
  ∃ A c A' c', e = .returned (.tuple #[.slice A 3 c, .slice A' 3 c', .int .i64 0]) ∧ (3 ≤ c ∧ c ≤ 9223372036854775807) ∧ (3 ≤ c' ∧ c' ≤ 9223372036854775807) ∧ Grd w'.heap.size w' A yss ∧ Grd w'.heap.size w' A' zss ∧ Below w.heap.size w w'

theorem awPlay_c {B : Nat} (A Ab Aw : Option Addr) (c cb cw : Nat) (w : World) (hB : B ≤ w.heap.size) (hr : Grd B w A laidX) (hb : Grd B w Ab rolledX) (hwr : Grd B w Aw wearX) (hc : 3 ≤ c ∧ c ≤ 9223372036854775807) (hcb : 2 ≤ cb ∧ cb ≤ 9223372036854775807) (hcw : 2 ≤ cw ∧ cw ≤ 9223372036854775807) :
    Calls Try.prog 20 #[.agg #[.slice A 3 c, .int .i64 2, .int .i64 5, .int .i64 50], .slice Ab 2 cb, .slice Aw 2 cw] w (AwPlay w [[23, 20, 10], [8, 17, 30], [5, 0, 5]]) := by
  refine (play_c (B := B) A Ab Aw laidX rolledX wearX c cb cw 2 5 50 w hB hr hb hwr hc hcb hcw).mono ?_
  rintro e w' (⟨h, _⟩ | ⟨_, v, rfl, ⟨A', c', rfl, h1, h2, h3⟩, hb⟩)
  · exact absurd aw_play h
  · exact ⟨A', c', rfl, ⟨h1, h2⟩, by rw [← aw_playO]; exact h3, hb⟩

theorem awBounds_c {B : Nat} (A Ab : Option Addr) (c cb : Nat) (w : World) (hB : B ≤ w.heap.size) (hr : Grd B w A laidX) (hb : Grd B w Ab rolledX) (hc : 3 ≤ c ∧ c ≤ 9223372036854775807) (hcb : 2 ≤ cb ∧ cb ≤ 9223372036854775807) :
    Calls Try.prog 26 #[.agg #[.slice A 3 c, .int .i64 2, .int .i64 5, .int .i64 50], .slice Ab 2 cb] w (AwBounds w [[20, 20, 10], [6, 16, 30], [5, 0, 5]] [[26, 20, 10], [10, 20, 30], [5, 5, 5]]) := by
  refine (bounds_c (B := B) A Ab laidX rolledX c cb 2 5 50 w hB hr hb hc hcb).mono ?_
  rintro e w' (⟨h, _⟩ | ⟨_, v, u, rfl, ⟨A', c', rfl, h1, h2, h3⟩, ⟨A2, c2, rfl, h4, h5, h6⟩, hb⟩)
  · exact absurd aw_balls h
  · exact ⟨A', c', A2, c2, rfl, ⟨h1, h2⟩, ⟨h4, h5⟩, by rw [← aw_lo]; exact h3, by rw [← aw_hi]; exact h6, hb⟩

theorem awLasts_c {B : Nat} (A A' An : Option Addr) (c c' cn : Nat) (w : World) (hB : B ≤ w.heap.size) (hr : Grd B w A laidX) (hx : Ints B w A' [0, 0, 0]) (hn : Ints B w An [10, 0, 0]) (hc : 3 ≤ c ∧ c ≤ 9223372036854775807) (hc' : 3 ≤ c' ∧ c' ≤ 9223372036854775807) (hcn : 3 ≤ cn ∧ cn ≤ 9223372036854775807) :
    Calls Try.prog 36 #[.agg #[.slice A 3 c, .int .i64 2, .int .i64 5, .int .i64 50], .agg #[.slice A' 3 c', .slice An 3 cn]] w (Ans w (.tuple #[.int .i64 5, .int .i64 0])) := by
  refine (lasts_c (B := B) A A' An laidX [0, 0, 0] [10, 0, 0] c c' cn 2 5 50 w hB hr hx hn hc hc' hcn).mono ?_
  rintro e w' (⟨h, _⟩ | ⟨_, rfl, hb⟩)
  · exact absurd aw_lasts h
  · exact ⟨by rw [aw_last]; rfl, hb⟩
end Go.Proofs.Ytgnonfomlgkpcaa
