/-
  The reference's lane for the program; the chapter's lane and balls.
-/
import Derived.Test.YtgnonfomlgkpcaaP
namespace Go.Proofs.Ytgnonfomlgkpcaa
open Go.RowKit

/-- A new lane. -/
def LanePost (w : World) (xss : List (List Int)) (lo hi ca : Int) (e : Ending) (w' : World) : Prop :=
  ∃ A c, e = .returned (.agg #[.slice A xss.length c, .int .i64 lo, .int .i64 hi, .int .i64 ca]) ∧ (xss.length ≤ c ∧ c ≤ 9223372036854775807) ∧ Grd w'.heap.size w' A xss ∧ Below w.heap.size w w'

theorem Rws.keptBy {base g : Nat} {w w' : World} {v : Value} {n : Nat} {vs : List Value} {rows : Nat → List Int} (h : Rws base w v n vs rows) (hg : w.grownBy w' (some g)) (hb : g < base) : Rws base w' v n vs rows := by
  obtain ⟨h1, h2, h3⟩ := h
  have k : ∀ {u : Value} {e : TypeId} {m : Nat} {us : List Value}, w.ownsRow base e 1 u m us → w'.ownsRow base e 1 u m us := fun {u e m us} hu => hu.kept hg (.inr fun e' => by
    have := (hu.lt g e').1
    omega)
  refine ⟨k h1, fun j hj => ?_, h3⟩
  obtain ⟨u, a, b, c⟩ := h2 j hj
  exact ⟨u, a, k b, c⟩

theorem four {W0 w1 : World} {g : Nat} {a b c d : Value} {t : TypeId} (h : W0.heap[g]? = some (.cells #[a, b, c, d] t)) (hb : Below W0.heap.size W0 w1) :
    w1.cell? ⟨g, 0, none⟩ = some a ∧ w1.cell? ⟨g, 1, none⟩ = some b ∧ w1.cell? ⟨g, 2, none⟩ = some c ∧ w1.cell? ⟨g, 3, none⟩ = some d ∧ ∀ o, w1.frozen? ⟨g, o, none⟩ = false := by
  have h1 := (hb.block g (Array.getElem?_eq_some_iff.1 h).1).trans h
  simp [World.cell?, World.frozen?, h1]

set_option maxHeartbeats 2000000 in
theorem lane_c {B : Nat} (A : Option Addr) (xss : List (List Int)) (c : Nat) (lo hi ca : Int) (w : World) (hB : B ≤ w.heap.size) (hx : Grd B w A xss) (hl : xss.length ≤ 1000000) (hr : ∀ k, k < xss.length → (rx xss k).length ≤ 1000000) :
    Calls Try.prog 19 #[.agg #[.slice A xss.length c, .int .i64 lo, .int .i64 hi, .int .i64 ca]] w (LanePost w xss lo hi ca) := by
  have HX := Lib.hid hx
  have HR := Lib.hid hr
  have HL := Lib.hid hl
  clear hx hr hl
  go_enter Try.func19, Try.ntmps19
  go_upto_region 1 with fail
  have d0 : ((w.alloc (.cells #[.slice A xss.length c, .int .i64 lo, .int .i64 hi, .int .i64 ca] 26)).alloc (.cells #[.slice none 0 0, .int .i64 0, .int .i64 0, .int .i64 0] 34)).cell? ⟨w.heap.size, 0, none⟩ = some (.slice A xss.length c) := by go_simp
  have d1 : ((w.alloc (.cells #[.slice A xss.length c, .int .i64 lo, .int .i64 hi, .int .i64 ca] 26)).alloc (.cells #[.slice none 0 0, .int .i64 0, .int .i64 0, .int .i64 0] 34)).cell? ⟨w.heap.size, 1, none⟩ = some (.int .i64 lo) := by go_simp
  have d2 : ((w.alloc (.cells #[.slice A xss.length c, .int .i64 lo, .int .i64 hi, .int .i64 ca] 26)).alloc (.cells #[.slice none 0 0, .int .i64 0, .int .i64 0, .int .i64 0] 34)).cell? ⟨w.heap.size, 2, none⟩ = some (.int .i64 hi) := by go_simp
  have d3 : ((w.alloc (.cells #[.slice A xss.length c, .int .i64 lo, .int .i64 hi, .int .i64 ca] 26)).alloc (.cells #[.slice none 0 0, .int .i64 0, .int .i64 0, .int .i64 0] 34)).cell? ⟨w.heap.size, 3, none⟩ = some (.int .i64 ca) := by go_simp
  have HE : Hid (((w.alloc (.cells #[.slice A xss.length c, .int .i64 lo, .int .i64 hi, .int .i64 ca] 26)).alloc (.cells #[.slice none 0 0, .int .i64 0, .int .i64 0, .int .i64 0] 34)).heap[w.heap.size + 1]? = some (.cells #[.slice none 0 0, .int .i64 0, .int .i64 0, .int .i64 0] 34)) := by
    show _ = _
    have := World.alloc_heap_new (w.alloc (.cells #[.slice A xss.length c, .int .i64 lo, .int .i64 hi, .int .i64 ca] 26)) (.cells #[.slice none 0 0, .int .i64 0, .int .i64 0, .int .i64 0] 34)
    rwa [World.size_alloc] at this
  have HZ : Hid (((w.alloc (.cells #[.slice A xss.length c, .int .i64 lo, .int .i64 hi, .int .i64 ca] 26)).alloc (.cells #[.slice none 0 0, .int .i64 0, .int .i64 0, .int .i64 0] 34)).heap.size = w.heap.size + 1 + 1) := by show _ = _; simp
  have HB0 : Hid (Below w.heap.size w ((w.alloc (.cells #[.slice A xss.length c, .int .i64 lo, .int .i64 hi, .int .i64 ca] 26)).alloc (.cells #[.slice none 0 0, .int .i64 0, .int .i64 0, .int .i64 0] 34))) := ((Below.refl _ _).alloc (Nat.le_refl _) _).alloc (by simp) _
  generalize ((w.alloc (.cells #[.slice A xss.length c, .int .i64 lo, .int .i64 hi, .int .i64 ca] 26)).alloc (.cells #[.slice none 0 0, .int .i64 0, .int .i64 0, .int .i64 0] 34)) = W0 at d0 d1 d2 d3 HE HZ HB0 ⊢
  have H21 : Hid (∀ W, Below W0.heap.size W0 W → Calls Try.prog 21 #[.slice A xss.length c] W (CopyPost W xss)) := fun W hW => copied_c (B := B) A xss c W (by have := hW.size; have := HB0.out.size; omega) ((HX.out.below (HB0.out.mono hB)).below (hW.mono (by have := HB0.out.size; omega))) HL.out HR.out
  go_region_held3 (fun w' => w'.cell? ⟨w.heap.size, 0, none⟩ = some (.slice A xss.length c) ∧ w'.cell? ⟨w.heap.size, 1, none⟩ = some (.int .i64 lo) ∧ w'.cell? ⟨w.heap.size, 2, none⟩ = some (.int .i64 hi) ∧ w'.cell? ⟨w.heap.size, 3, none⟩ = some (.int .i64 ca)) (go_keep) (first | (go_at_call 21; refine (H21.out _ (by first | exact (Below.refl _ _) | exact (Below.refl _ _).drew)).mono ?_; rintro e w1 ⟨v, vs, rfl, hv, hb1⟩; obtain ⟨Av, cv, rfl⟩ := ownsRow_form hv.1; have HV := Lib.hid hv; have HB1 := Lib.hid hb1; have r0 := cell_of_ans hb1 (p := ⟨w.heap.size, 0, none⟩) (v := .slice A xss.length c) (by simp [*]); have r1 := cell_of_ans hb1 (p := ⟨w.heap.size, 1, none⟩) (v := .int .i64 lo) (by simp [*]); have r2 := cell_of_ans hb1 (p := ⟨w.heap.size, 2, none⟩) (v := .int .i64 hi) (by simp [*]); have r3 := cell_of_ans hb1 (p := ⟨w.heap.size, 3, none⟩) (v := .int .i64 ca) (by simp [*]); obtain ⟨s0, s1, s2, s3, s4⟩ := four HE.out (by first | exact hb1 | exact below_drew_l hb1); clear hv hb1))
  all_goals
    go_wp2_with fail
    have hz := HZ.out
    have hW := HB1.out.size
    simp only [World.size_drew] at hW
    have hb1 : Below W0.heap.size W0 w1 := by first | exact HB1.out | exact below_drew_l HB1.out
    have hv : Rws W0.heap.size w1 (.slice Av xss.length cv) xss.length vs (rx xss) := HV.out
    have hk := hv.keptBy (g := w.heap.size + 1) (only_setCell (u := .int .i64 ca) (p := ⟨w.heap.size + 1, 3, none⟩) (only_setCell (u := .int .i64 hi) (p := ⟨w.heap.size + 1, 2, none⟩) (only_setCell (u := .int .i64 lo) (p := ⟨w.heap.size + 1, 1, none⟩) (only_setCell (u := .slice Av xss.length cv) (p := ⟨w.heap.size + 1, 0, none⟩) (World.grownBy.refl w1 (some (w.heap.size + 1))) (.inl rfl)) (.inl rfl)) (.inl rfl)) (.inl rfl)) (by omega)
    obtain ⟨A', c', e', l1, l2, l3⟩ := hk.grd
    injection e' with e1 e2 e3
    subst e1 e3
    refine bodyPost_ret (v := .agg #[.slice Av xss.length cv, .int .i64 lo, .int .i64 hi, .int .i64 ca]) (by simp [results, Try.results19, go_sem, s0, s1, s2, s3]) rfl ⟨_, _, rfl, ⟨l1, l2⟩, ?_, ?_⟩
    · exact l3
    · exact (((((HB0.out.trans (hb1.mono HB0.out.size)).setCell (p := ⟨w.heap.size + 1, 0, none⟩) (by dsimp only; omega) _).setCell (p := ⟨w.heap.size + 1, 1, none⟩) (by dsimp only; omega) _).setCell (p := ⟨w.heap.size + 1, 2, none⟩) (by dsimp only; omega) _).setCell (p := ⟨w.heap.size + 1, 3, none⟩) (by dsimp only; omega) _)

def laidX : List (List Int) := [[30, 20, 10], [10, 20, 30], [5, 5, 5]]
def rolledX : List (List Int) := [[0, 0, 1], [0, 1, 1]]

theorem ints3 {w : World} {g : Nat} {a b c : Int} (h0 : w.cell? ⟨g, 0, none⟩ = some (.int .i64 a)) (h1 : w.cell? ⟨g, 1, none⟩ = some (.int .i64 b)) (h2 : w.cell? ⟨g, 2, none⟩ = some (.int .i64 c)) : IsInts w.heap.size w (.slice (some ⟨g, 0, none⟩) 3 3) [a, b, c] := by
  refine ⟨_, 3, rfl, by simp, by omega, fun _ => ⟨g, 0, rfl, World.block_lt_of_cell? w _ h0, fun k hk => ?_⟩⟩
  simp only [List.length_cons, List.length_nil] at hk
  rw [Nat.zero_add]
  match k, hk with
  | 0, _ => exact h0
  | 1, _ => exact h1
  | 2, _ => exact h2
theorem grd3 {w : World} {g : Nat} {u v t : Value} {a b c : List Int} (h0 : w.cell? ⟨g, 0, none⟩ = some u) (h1 : w.cell? ⟨g, 1, none⟩ = some v) (h2 : w.cell? ⟨g, 2, none⟩ = some t) (i0 : IsInts w.heap.size w u a) (i1 : IsInts w.heap.size w v b) (i2 : IsInts w.heap.size w t c) : Grd w.heap.size w (some ⟨g, 0, none⟩) [a, b, c] := fun _ =>
  ⟨g, 0, rfl, World.block_lt_of_cell? w _ h0, fun k hk => by
    simp only [List.length_cons, List.length_nil] at hk
    rw [Nat.zero_add]
    match k, hk with
    | 0, _ => exact ⟨_, h0, i0⟩
    | 1, _ => exact ⟨_, h1, i1⟩
    | 2, _ => exact ⟨_, h2, i2⟩⟩
theorem grd2 {w : World} {g : Nat} {u v : Value} {a b : List Int} (h0 : w.cell? ⟨g, 0, none⟩ = some u) (h1 : w.cell? ⟨g, 1, none⟩ = some v) (i0 : IsInts w.heap.size w u a) (i1 : IsInts w.heap.size w v b) : Grd w.heap.size w (some ⟨g, 0, none⟩) [a, b] := fun _ =>
  ⟨g, 0, rfl, World.block_lt_of_cell? w _ h0, fun k hk => by
    simp only [List.length_cons, List.length_nil] at hk
    rw [Nat.zero_add]
    match k, hk with
    | 0, _ => exact ⟨_, h0, i0⟩
    | 1, _ => exact ⟨_, h1, i1⟩⟩

set_option maxHeartbeats 2000000 in
theorem laid_c (w : World) : Calls Try.prog 51 #[] w (LanePost w laidX 2 5 50) := by
  go_enter Try.func51, Try.ntmps51
  go_wp2_with fail
  refine bodyPost_ret (v := .agg #[.slice (some ⟨w.heap.size + 4, 0, none⟩) 3 3, .int .i64 2, .int .i64 5, .int .i64 50]) (by simp [results, Try.results51, go_sem]) rfl ⟨_, 3, rfl, by decide, ?_, ?_⟩
  · refine grd3 (u := .slice (some ⟨w.heap.size + 1, 0, none⟩) 3 3) (v := .slice (some ⟨w.heap.size + 2, 0, none⟩) 3 3) (t := .slice (some ⟨w.heap.size + 3, 0, none⟩) 3 3) (by go_simp) (by go_simp) (by go_simp) (ints3 (by go_simp) (by go_simp) (by go_simp)) (ints3 (by go_simp) (by go_simp) (by go_simp)) (ints3 (by go_simp) (by go_simp) (by go_simp))
  · repeat (first | exact Below.refl _ _ | refine Below.setCell ?_ (by dsimp only; omega) _ | refine Below.alloc ?_ (by first | exact Nat.le_refl _ | (simp only [World.size_alloc]; omega)) _)

set_option maxHeartbeats 2000000 in
theorem rolled_c (w : World) : Calls Try.prog 52 #[] w (NewGrd w rolledX) := by
  go_enter Try.func52, Try.ntmps52
  go_wp2_with fail
  go_ret
  refine ⟨_, rfl, ⟨_, _, rfl, by decide, by decide, ?_⟩, ?_⟩
  · refine grd2 (u := .slice (some ⟨w.heap.size, 0, none⟩) 3 3) (v := .slice (some ⟨w.heap.size + 1, 0, none⟩) 3 3) (by go_simp) (by go_simp) (ints3 (by go_simp) (by go_simp) (by go_simp)) (ints3 (by go_simp) (by go_simp) (by go_simp))
  · repeat (first | exact Below.refl _ _ | refine Below.setCell ?_ (by dsimp only; omega) _ | refine Below.alloc ?_ (by first | exact Nat.le_refl _ | (simp only [World.size_alloc]; omega)) _)
end Go.Proofs.Ytgnonfomlgkpcaa
