/-
  oil: what balls leave on a lane, and its bounds (carried over from the proofs of the chapter 10).
-/
import Derived.Test.YtenpiinkbfancaaOlA
import Derived.Handy
import Derived.Deep.RegionHeld3
import Derived.IntWalk
namespace Go.Proofs.Ytenpiinkbfancaa.Ol
open Go.RowKit
set_option linter.unusedSimpArgs false
set_option linter.unusedVariables false

section
open Go.RowKit
attribute [local go_sem] Oper.semAt_some
noncomputable def wearsB (n : Nat) (lo hi : Int) (bss wss : List (List Int)) : Bool := decide (wss.length = bss.length) && allB wss.length (fun k => wearB n lo hi (rx wss k))
noncomputable def playErr (xss : List (List Int)) (lo hi ca : Int) (bss wss : List (List Int)) : Int :=
  if ballsErr xss lo hi ca bss = 0 then (if wearsB xss.length lo hi bss wss then 0 else 2) else ballsErr xss lo hi ca bss
/-- The oil behind the first k balls. -/
def playO (ca : Int) (n : Nat) (bss wss : List (List Int)) (o : Nat → Int) (k : Nat) : Nat → Int :=
  (List.range k).foldl (fun o i => rollW ca (rx bss i) (fun r => ix (rx wss i) (r - 1)) (fun r => ix (rx wss i) r) o (List.range n)) o
theorem Elems.mono_ {B B' : Nat} {w : World} {A : Option Addr} {n : Nat} {vs : Nat → Value} (h : Elems B w A n vs) (hB : B ≤ B') : Elems B' w A n vs := fun hp => by
  obtain ⟨b, off, hA, hlt, hc⟩ := h hp
  exact ⟨b, off, hA, by omega, hc⟩
theorem inB_le {n lo hi : Int} (h : inB n lo hi = true) : lo ≤ n ∧ n ≤ hi := (inB_eq n lo hi).1 h
/-- What a lane without an error is. -/
theorem laneOk {xss : List (List Int)} {lo hi ca : Int} (h : laneErr xss lo hi ca = 0) :
    0 < xss.length ∧ xss.length ≤ 8 ∧ (∀ k, k < xss.length → 0 < (rx xss k).length ∧ (rx xss k).length = (rx xss 0).length ∧ (rx xss k).length ≤ 12) ∧ (∀ k, k < xss.length → ∀ j, j < (rx xss k).length → 0 ≤ ix (rx xss k) j ∧ ix (rx xss k) j ≤ 100) ∧
    0 ≤ lo ∧ lo ≤ hi ∧ hi ≤ 9 ∧ 0 ≤ ca ∧ ca ≤ 100 := by
  unfold laneErr at h
  split at h <;> rename_i h1
  · split at h <;> rename_i h2
    · simp only [argB, Bool.and_eq_true, decide_eq_true_eq, allB_iff] at h2
      simp only [limB, Bool.and_eq_true, decide_eq_true_eq, allB_iff] at h1
      obtain ⟨⟨⟨⟨a1, a2⟩, a3⟩, a4⟩, a5⟩ := h2
      have b3 := inB_le a3
      have b5 := inB_le a5
      refine ⟨a1, h1.1, fun k hk => ?_, fun k hk j hj => ?_, b3.1, b3.2, a4, b5.1, b5.2⟩
      · have c1 := a2 k hk
        have c2 := h1.2 k hk
        simp only [rowB, Bool.and_eq_true, decide_eq_true_eq, allB_iff] at c1 c2
        exact ⟨c1.1.1, c1.1.2, c2⟩
      · have c1 := a2 k hk
        simp only [rowB, Bool.and_eq_true, decide_eq_true_eq, allB_iff] at c1
        exact inB_le (c1.2 j hj)
    · cases h
  · cases h
theorem ballsOk {xss bss : List (List Int)} {lo hi ca : Int} (h : ballsErr xss lo hi ca bss = 0) :
    laneErr xss lo hi ca = 0 ∧ bss.length ≤ 20 ∧ ∀ k, k < bss.length → (rx bss k).length = xss.length ∧ ∀ j, j < xss.length → 0 ≤ ix (rx bss k) j ∧ ix (rx bss k) j < (rx xss 0).length := by
  unfold ballsErr at h
  split at h <;> rename_i h1
  · split at h <;> rename_i h2
    · split at h <;> rename_i h3
      · rw [allB_iff] at h3
        refine ⟨h1, h2, fun k hk => ?_⟩
        have c := h3 k hk
        simp only [ballB, Bool.and_eq_true, decide_eq_true_eq, allB_iff] at c
        refine ⟨c.1, fun j hj => ?_⟩
        have := inB_le (c.2 j (by omega))
        omega
      · cases h
    · cases h
  · exact absurd h h1
theorem lvl_oilOf {xss : List (List Int)} {lo hi ca : Int} (h : laneErr xss lo hi ca = 0) : Lvl (oilOf xss) := fun i => by
  obtain ⟨_, _, _, h4, _⟩ := laneOk h
  unfold oilOf
  by_cases hk : i / 12 < xss.length
  · by_cases hj : i % 12 < (rx xss (i / 12)).length
    · exact h4 _ hk _ hj
    · simp only [ix]; rw [List.getD_eq_getElem?_getD, List.getElem?_eq_none (by omega)]; simp
  · have e : rx xss (i / 12) = [] := by simp only [rx]; rw [List.getD_eq_getElem?_getD, List.getElem?_eq_none (by omega)]; rfl
    rw [e]; simp [ix]
theorem playO_succ (ca : Int) (n : Nat) (bss wss : List (List Int)) (o : Nat → Int) (k : Nat) : playO ca n bss wss o (k + 1) = rollW ca (rx bss k) (fun r => ix (rx wss k) (r - 1)) (fun r => ix (rx wss k) r) (playO ca n bss wss o k) (List.range n) := by
  simp [playO, List.range_succ]
theorem KpG.mono {n₀ n₁ g : Nat} {A C : World} (h : KpG n₀ g A C) (hn : n₁ ≤ n₀) : KpG n₁ g A C := ⟨h.1, h.2.1, h.2.2.1, h.2.2.2.1, fun k hk hg => h.2.2.2.2 k (by omega) hg⟩
theorem _root_.Go.Proofs.Ytenpiinkbfancaa.Took.cell {B : Nat} {w w' : World} (h : Took B w w') {p : Addr} {v : Value} (hc : w.cell? p = some v) : w'.cell? p = some v := by
  cases hb : w.heap[p.block]? with
  | none => simp [World.cell?, hb] at hc
  | some o =>
    cases o with
    | cells c t f => rw [← hc]; exact World.cell?_of_block (w := w) ((h.2.2.2.2.2 _ _ hb rfl).trans hb.symm)
    | _ => simp [World.cell?, hb] at hc
theorem _root_.Go.Proofs.Ytenpiinkbfancaa.Ints.took {B B' : Nat} {w w' : World} {A : Option Addr} {xs : List Int} (h : Ints B w A xs) (ht : Took B' w w') : Ints B w' A xs := fun hp => by
  obtain ⟨b, off, hA, hlt, hc⟩ := h hp
  exact ⟨b, off, hA, hlt, fun k hk => ht.cell (hc k hk)⟩
theorem _root_.Go.Proofs.Ytenpiinkbfancaa.IsGrd.took {B B' : Nat} {w w' : World} {v : Value} {xss : List (List Int)} (h : IsGrd B w v xss) (ht : Took B' w w') : IsGrd B w' v xss := by
  obtain ⟨A, c, hv, h1, h2, h3⟩ := h
  refine ⟨A, c, hv, h1, h2, fun hp => ?_⟩
  obtain ⟨b, off, hA, hlt, hc⟩ := h3 hp
  refine ⟨b, off, hA, hlt, fun k hk => ?_⟩
  obtain ⟨u, hu, A', c', hu', h4, h5, h6⟩ := hc k hk
  exact ⟨u, ht.cell hu, A', c', hu', h4, h5, h6.took ht⟩
theorem wears_nonneg {n : Nat} {lo hi : Int} {wss : List (List Int)} (h : allB wss.length (fun k => wearB n lo hi (rx wss k)) = true) (hlo : 0 ≤ lo) : ∀ i r, 0 ≤ ix (rx wss i) r := fun i r => by
  rw [allB_iff] at h
  by_cases hi' : i < wss.length
  · have c := h i hi'
    simp only [wearB, Bool.and_eq_true, decide_eq_true_eq, allB_iff] at c
    by_cases hr : r < (rx wss i).length
    · have := inB_le (c.2 r hr)
      omega
    · simp only [ix]; rw [List.getD_eq_getElem?_getD, List.getElem?_eq_none (by omega)]; simp
  · have e : rx wss i = [] := by simp only [rx]; rw [List.getD_eq_getElem?_getD, List.getElem?_eq_none (by omega)]; rfl
    rw [e]; simp [ix]
theorem lvl_playO {ca : Int} {n : Nat} {bss wss : List (List Int)} {o : Nat → Int} (h : Lvl o) (hw : ∀ i r, 0 ≤ ix (rx wss i) r) (k : Nat) : Lvl (playO ca n bss wss o k) := by
  induction k with
  | zero => exact h
  | succ k ih => rw [playO_succ]; exact ih.roll (fun r => hw k r) _
/-- An error and no pattern; or a pattern. -/
def PlayPost (w : World) (err : Int) (yss : List (List Int)) (e : Ending) (w' : World) : Prop :=
  (err ≠ 0 ∧ e = .returned (.tuple #[.slice none 0 0, .int .i64 err]) ∧ Below w.heap.size w w') ∨
  (err = 0 ∧ ∃ v, e = .returned (.tuple #[v, .int .i64 0]) ∧ IsGrd w'.heap.size w' v yss ∧ Below w.heap.size w w')
theorem ret_err {v : Value} {a b : Int} (h : a = b) : Ending.returned (.tuple #[v, .int .i64 a]) = .returned (.tuple #[v, .int .i64 b]) := by rw [h]
set_option maxRecDepth 100000 in
set_option maxHeartbeats 1000000 in
theorem play_bad1 {B : Nat} (A Ab Aw : Option Addr) (xss bss wss : List (List Int)) (c cb cw : Nat) (lo hi ca : Int) (w : World) (hB : B ≤ w.heap.size) (hr : Grd B w A xss) (hb : Grd B w Ab bss) (hc : xss.length ≤ c ∧ c ≤ 9223372036854775807) (hcb : bss.length ≤ cb ∧ cb ≤ 9223372036854775807)
    (h : ballsErr xss lo hi ca bss ≠ 0) (yss : List (List Int)) :
    Calls Try.prog 35 #[.agg #[.slice A xss.length c, .int .i64 lo, .int .i64 hi, .int .i64 ca], .slice Ab bss.length cb, .slice Aw wss.length cw] w (PlayPost w (playErr xss lo hi ca bss wss) yss) := by
  have hw1 : Below w.heap.size w ((w.alloc (.cells #[.slice A xss.length c, .int .i64 lo, .int .i64 hi, .int .i64 ca] 112)).alloc (.cells #[.slice Aw wss.length cw] 29)) := ((Below.refl _ _).alloc (Nat.le_refl _) _).alloc (by simp) _
  have hz1 := hw1.size
  have H1 := Lib.hid (check_c (B := B) A Ab xss bss c cb lo hi ca _ (by omega) (hr.below (hw1.mono hB)) (hb.below (hw1.mono hB)) hc hcb)
  have h1' : (ballsErr xss lo hi ca bss != 0) = true := by simp [h]
  have HR : Hid (playErr xss lo hi ca bss wss = ballsErr xss lo hi ca bss) := by show _ = _; simp [playErr, h]
  have HE := Lib.hid h
  clear h hr hb
  refine calls_marks Try.func35 rfl ?_
  simp only [Try.ntmps35, List.size_toArray, List.length_cons, List.length_nil, Nat.reduceAdd, Nat.reduceSub, Array.replicate_succ, Array.replicate_zero, List.push_toArray, List.append_toArray, List.nil_append, List.cons_append]
  go_wp2_with fail
  refine H1.out.mono ?_
  rintro e w1 ⟨rfl, hb1⟩
  go_wp2_with fail
  refine ⟨_, results_tmp2 rfl _ _ _, ?_⟩
  refine .inl ⟨by rw [HR.out]; exact HE.out, ret_err HR.out.symm, hw1.trans (hb1.mono hz1)⟩
set_option maxRecDepth 100000 in
set_option maxHeartbeats 2000000 in
theorem play_rest {B : Nat} (A Ab Aw : Option Addr) (xss bss wss : List (List Int)) (c cb cw : Nat) (lo hi ca : Int) (w : World) (hB : B ≤ w.heap.size) (hr : Grd B w A xss) (hb : Grd B w Ab bss) (hwr : Grd B w Aw wss) (hc : xss.length ≤ c ∧ c ≤ 9223372036854775807) (hcb : bss.length ≤ cb ∧ cb ≤ 9223372036854775807) (_hcw : wss.length ≤ cw ∧ cw ≤ 9223372036854775807)
    (h : ballsErr xss lo hi ca bss = 0) :
    Calls Try.prog 35 #[.agg #[.slice A xss.length c, .int .i64 lo, .int .i64 hi, .int .i64 ca], .slice Ab bss.length cb, .slice Aw wss.length cw] w (PlayPost w (playErr xss lo hi ca bss wss) (rowsOf (playO ca xss.length bss wss (oilOf xss) bss.length) (rx xss 0).length xss.length)) := by
  have hw1 : Below w.heap.size w ((w.alloc (.cells #[.slice A xss.length c, .int .i64 lo, .int .i64 hi, .int .i64 ca] 112)).alloc (.cells #[.slice Aw wss.length cw] 29)) := ((Below.refl _ _).alloc (Nat.le_refl _) _).alloc (by simp) _
  have hz1 := hw1.size
  have H1 := Lib.hid (check_c (B := B) A Ab xss bss c cb lo hi ca _ (by omega) (hr.below (hw1.mono hB)) (hb.below (hw1.mono hB)) hc hcb)
  have HE := Lib.hid h
  have HRr := Lib.hid hr
  have HBr := Lib.hid hb
  have HWr := Lib.hid hwr
  clear h hr hb hwr
  refine calls_marks Try.func35 rfl ?_
  simp only [Try.ntmps35, List.size_toArray, List.length_cons, List.length_nil, Nat.reduceAdd, Nat.reduceSub, Array.replicate_succ, Array.replicate_zero, List.push_toArray, List.append_toArray, List.nil_append, List.cons_append]
  go_wp2_with fail
  refine H1.out.mono ?_
  rw [HE.out]
  rintro e w1 ⟨rfl, hb1⟩
  have d0 := cell_of_ans hb1 (p := ⟨w.heap.size, 0, none⟩) (v := .slice A xss.length c) (by go_simp)
  have d1 := cell_of_ans hb1 (p := ⟨w.heap.size, 1, none⟩) (v := .int .i64 lo) (by go_simp)
  have d2 := cell_of_ans hb1 (p := ⟨w.heap.size, 2, none⟩) (v := .int .i64 hi) (by go_simp)
  have d3 := cell_of_ans hb1 (p := ⟨w.heap.size, 3, none⟩) (v := .int .i64 ca) (by go_simp)
  have d4 := cell_of_ans hb1 (p := ⟨w.heap.size + 1, 0, none⟩) (v := .slice Aw wss.length cw) (by go_simp)
  have hz2 : w.heap.size + 1 + 1 ≤ w1.heap.size := by have := hb1.size; simp at this; omega
  have hb2 := hw1.trans (hb1.mono hz1)
  have HB2 := Lib.hid hb2
  clear hb1 hw1 hz1 H1 hb2
  have f0 : (w1.alloc (.cells #[.func (.func 81) #[] #[.pointer (some ⟨w.heap.size, 0, none⟩)]] 193)).cell? ⟨w.heap.size, 0, none⟩ = some (.slice A xss.length c) := cell_alloc_keep _ d0
  have f1 : (w1.alloc (.cells #[.func (.func 81) #[] #[.pointer (some ⟨w.heap.size, 0, none⟩)]] 193)).cell? ⟨w.heap.size, 1, none⟩ = some (.int .i64 lo) := cell_alloc_keep _ d1
  have f2 : (w1.alloc (.cells #[.func (.func 81) #[] #[.pointer (some ⟨w.heap.size, 0, none⟩)]] 193)).cell? ⟨w.heap.size, 2, none⟩ = some (.int .i64 hi) := cell_alloc_keep _ d2
  have f3 : (w1.alloc (.cells #[.func (.func 81) #[] #[.pointer (some ⟨w.heap.size, 0, none⟩)]] 193)).cell? ⟨w.heap.size, 3, none⟩ = some (.int .i64 ca) := cell_alloc_keep _ d3
  have f4 : (w1.alloc (.cells #[.func (.func 81) #[] #[.pointer (some ⟨w.heap.size, 0, none⟩)]] 193)).cell? ⟨w.heap.size + 1, 0, none⟩ = some (.slice Aw wss.length cw) := cell_alloc_keep _ d4
  have f5 : (w1.alloc (.cells #[.func (.func 81) #[] #[.pointer (some ⟨w.heap.size, 0, none⟩)]] 193)).cell? ⟨w1.heap.size, 0, none⟩ = some (.func (.func 81) #[] #[.pointer (some ⟨w.heap.size, 0, none⟩)]) := by simp
  have HB3 : Hid (Below w.heap.size w (w1.alloc (.cells #[.func (.func 81) #[] #[.pointer (some ⟨w.heap.size, 0, none⟩)]] 193))) := HB2.out.alloc (by omega) _
  have HZ3 : Hid ((w1.alloc (.cells #[.func (.func 81) #[] #[.pointer (some ⟨w.heap.size, 0, none⟩)]] 193)).heap.size = w1.heap.size + 1) := by show _ = _; simp
  by_cases hl : wss.length = bss.length
  · have hl' : ((wss.length : Int) != (bss.length : Int)) = false := by simp [hl]
    obtain ⟨vs, hel, hvs⟩ := HWr.out.elems
    have H2 := Lib.hid (allR (B := (w1.alloc (.cells #[.func (.func 81) #[] #[.pointer (some ⟨w.heap.size, 0, none⟩)]] 193)).heap.size) Aw wss.length cw 83 #[] #[.pointer (some ⟨w.heap.size, 0, none⟩), .pointer (some ⟨w1.heap.size, 0, none⟩)] vs (fun k => wearB xss.length lo hi (rx wss k)) (w1.alloc (.cells #[.func (.func 81) #[] #[.pointer (some ⟨w.heap.size, 0, none⟩)]] 193)) enters59 (Nat.le_refl _) (by omega) ((hel.below (HB3.out.mono hB)).mono_ (by have := HZ3.out; omega)) (fun k hk W hW => by
      obtain ⟨A', c', hvk, e1, e2, e3⟩ := hvs k hk
      rw [push02, hvk]
      have g0 := HZ3.out
      exact play2_c (B := B) A A' xss.length c c' w.heap.size w1.heap.size (rx wss k) lo hi W (by have := hW.size; omega) (e3.below ((HB3.out.mono hB).trans (hW.mono (by omega)))) ⟨e1, e2⟩ (by have := hW.size; omega) (by have := hW.size; omega) (cell_of_ans hW f0) (cell_of_ans hW f1) (cell_of_ans hW f2) (cell_of_ans hW f5)))
    have HLE := Lib.hid hl
    clear hl hel hvs
    cases hal : allB wss.length (fun k => wearB xss.length lo hi (rx wss k))
    · have HR : Hid (playErr xss lo hi ca bss wss = 2) := by
        show _ = _
        have hh : wearsB xss.length lo hi bss wss = false := by unfold wearsB; rw [hal, Bool.and_false]
        rw [playErr, if_pos HE.out, hh]; rfl
      have HAL := Lib.hid hal
      clear hal
      go_wp2_with fail
      refine H2.out.mono ?_
      rw [HAL.out]
      rintro e w4 ⟨rfl, hb4⟩
      go_wp2_with fail
      refine ⟨_, results_tmp2 rfl _ _ _, ?_⟩
      refine .inl ⟨by rw [HR.out]; decide, ret_err HR.out.symm, HB3.out.trans (hb4.mono (by have := HZ3.out; omega))⟩
    · have HR : Hid (playErr xss lo hi ca bss wss = 0) := by
        show _ = _
        have hh : wearsB xss.length lo hi bss wss = true := by unfold wearsB; rw [hal, Bool.and_true]; exact decide_eq_true HLE.out
        rw [playErr, if_pos HE.out, hh]; rfl
      have HAL := Lib.hid hal
      clear hal
      go_wp2_with fail
      refine H2.out.mono ?_
      rw [HAL.out]
      rintro e w4 ⟨rfl, hb4⟩
      have g0 := cell_of_ans hb4 f0
      have g1 := cell_of_ans hb4 f1
      have g2 := cell_of_ans hb4 f2
      have g3 := cell_of_ans hb4 f3
      have g4 := cell_of_ans hb4 f4
      have hz4 : w1.heap.size + 1 ≤ w4.heap.size := by have := hb4.size; have := HZ3.out; omega
      have HB4 : Hid (Below w.heap.size w w4) := HB3.out.trans (hb4.mono (by have := HZ3.out; omega))
      clear f0 f1 f2 f3 f4 f5 HB3 HZ3 H2 d0 d1 d2 d3 d4 HB2 hb4
      have hv := laneOk (ballsOk HE.out).1
      have H5 := Lib.hid (fresh_c (B := B) A xss c lo hi ca w4 (by omega) (HRr.out.below (HB4.out.mono hB)) hc hv.2.1 (fun k hk => (hv.2.2.1 k hk).2.2))
      go_wp2_with fail
      refine H5.out.mono ?_
      rintro e w5 ⟨g, rfl, hg, hW5, hb5⟩
      have m4 := cell_alloc_keep (.cells #[.pointer (some ⟨g, 0, none⟩)] 205) (cell_of_ans hb5 g4)
      have m5 : (w5.alloc (.cells #[.pointer (some ⟨g, 0, none⟩)] 205)).cell? ⟨w5.heap.size, 0, none⟩ = some (.pointer (some ⟨g, 0, none⟩)) := by simp
      have HW6 := Lib.hid (hW5.alloc (.cells #[.pointer (some ⟨g, 0, none⟩)] 205))
      have HZ6 : Hid ((w5.alloc (.cells #[.pointer (some ⟨g, 0, none⟩)] 205)).heap.size = w5.heap.size + 1) := by show _ = _; simp
      have hz5 := hb5.size
      have HB6 : Hid (Below w.heap.size w (w5.alloc (.cells #[.pointer (some ⟨g, 0, none⟩)] 205))) := (HB4.out.trans (hb5.mono (by omega))).alloc (by omega) _
      have hgl : g < w5.heap.size := hW5.lt
      clear g0 g1 g2 g3 g4 H5 hW5 hb5 HB4
      go_wp2_with fail
      generalize w5.alloc (.cells #[.pointer (some ⟨g, 0, none⟩)] 205) = W6 at m4 m5 HW6 HZ6 HB6 ⊢
      have hv1 := ballsOk HE.out
      have hlw : Lvl (oilOf xss) := lvl_oilOf hv1.1
      have HV := Lib.hid hv
      have HV1 := Lib.hid hv1
      have HLW := Lib.hid hlw
      clear hv hv1 hlw
      have hz6 := HZ6.out
      have hwz : w.heap.size ≤ w4.heap.size := by omega
      refine wp_loop (fun a wr => ∃ s0 s1 s2 s3 s4 s6 s7 s8 s9 s10 s12 s13 s14 s15 s16 s17 s18 s19 s20 s21 s22 s23 s24 s25 s26 s27 s28 s29 s30 s31 s32 s33 s34 s35 s36 s40 s41 s42 s43 s44 s45 s46 s47 s48 s49 s50 s51 s52 s53 s54 s55 s56 s57 s58 s59 s60 s61 s62 s63 s64 s65 s66 s67 s68 s69 s70 s71 s72 s73 : Value, ∃ (k : Nat) (ds : List Deferred), a = { tmps := #[s0, s1, s2, s3, s4, .pointer (some ⟨w.heap.size + 1, 0, none⟩), s6, s7, s8, s9, s10, .pointer (some ⟨w5.heap.size, 0, none⟩), s12, s13, s14, s15, s16, s17, s18, s19, s20, s21, s22, s23, s24, s25, s26, s27, s28, s29, s30, s31, s32, s33, s34, s35, s36, .slice Ab bss.length cb, .int .i64 (bss.length : Int), .int .i64 (k : Int), s40, s41, s42, s43, s44, s45, s46, s47, s48, s49, s50, s51, s52, s53, s54, s55, s56, s57, s58, s59, s60, s61, s62, s63, s64, s65, s66, s67, s68, s69, s70, s71, s72, s73], defers := ds } ∧ k ≤ bss.length ∧ Worn wr g (.slice A xss.length c) lo hi ca (playO ca xss.length bss wss (oilOf xss) k) ∧ KpG W6.heap.size g W6 wr ∧ Marks W6.heap.size wr ds) (fun a _ => bss.length - (intOf (a.tmps.getD 39 undef)).toNat)
        ⟨_, _, _, _, _, _, _, _, _, _, _, _, _, _, _, _, _, _, _, _, _, _, _, _, _, _, _, _, _, _, _, _, _, _, _, _, _, _, _, _, _, _, _, _, _, _, _, _, _, _, _, _, _, _, _, _, _, _, _, _, _, _, _, _, _, _, _, _, _, 0, [], rfl, by omega, HW6.out, KpG.refl _ _ _, trivial⟩ ?_
      rintro a wr ⟨s0, s1, s2, s3, s4, s6, s7, s8, s9, s10, s12, s13, s14, s15, s16, s17, s18, s19, s20, s21, s22, s23, s24, s25, s26, s27, s28, s29, s30, s31, s32, s33, s34, s35, s36, s40, s41, s42, s43, s44, s45, s46, s47, s48, s49, s50, s51, s52, s53, s54, s55, s56, s57, s58, s59, s60, s61, s62, s63, s64, s65, s66, s67, s68, s69, s70, s71, s72, s73, k, ds, rfl, hk, hWr, hKr, hMr⟩
      have hbr : Below B w wr := (HB6.out.mono hB).trans (hKr.below (by omega) (by omega))
      have hzr := hKr.1
      by_cases h1 : k < bss.length
      · obtain ⟨bb0, off0, Ab', cb', rfl, hb0, hcl, hl1, hl2, hin⟩ := (HBr.out.below hbr).at_ h1
        have HIN := Lib.hid hin
        have HWo := Lib.hid hWr
        have HKr := Lib.hid hKr
        have HMr := Lib.hid hMr
        have HBr2 := Lib.hid hbr
        clear hin hWr hKr hMr hbr
        go_wp2_with (go_at_call 87; refine (cells_c _ _ _ _).mono ?_; rintro e w2 ⟨rfl, rfl⟩)
        have hW7 : Worn ((wr.alloc (.cells #[.int .i64 (k : Int)] 3)).alloc (.cells #[.slice Ab' (rx bss k).length cb'] 42)) g (.slice A xss.length c) lo hi ca (playO ca xss.length bss wss (oilOf xss) k) := (HWo.out.alloc _).alloc _
        have hx7 : Ints B ((wr.alloc (.cells #[.int .i64 (k : Int)] 3)).alloc (.cells #[.slice Ab' (rx bss k).length cb'] 42)) Ab' (rx bss k) := (HIN.out.alloc (by omega) _).alloc (by simp; omega) _
        have hcb7 : ((wr.alloc (.cells #[.int .i64 (k : Int)] 3)).alloc (.cells #[.slice Ab' (rx bss k).length cb'] 42)).cell? ⟨wr.heap.size + 1, 0, none⟩ = some (.slice Ab' (rx bss k).length cb') := by go_simp
        have hk12 : ((wr.alloc (.cells #[.int .i64 (k : Int)] 3)).alloc (.cells #[.slice Ab' (rx bss k).length cb'] 42)).cell? ⟨wr.heap.size, 0, none⟩ = some (.int .i64 (k : Int)) := by go_simp
        have m4' : ((wr.alloc (.cells #[.int .i64 (k : Int)] 3)).alloc (.cells #[.slice Ab' (rx bss k).length cb'] 42)).cell? ⟨w.heap.size + 1, 0, none⟩ = some (.slice Aw wss.length cw) := cell_alloc_keep _ (cell_alloc_keep _ (HKr.out.cell m4 (by dsimp only; omega) (by dsimp only; omega)))
        have m5' : ((wr.alloc (.cells #[.int .i64 (k : Int)] 3)).alloc (.cells #[.slice Ab' (rx bss k).length cb'] 42)).cell? ⟨w5.heap.size, 0, none⟩ = some (.pointer (some ⟨g, 0, none⟩)) := cell_alloc_keep _ (cell_alloc_keep _ (HKr.out.cell m5 (by dsimp only; omega) (by dsimp only; omega)))
        have hw7 : Grd B ((wr.alloc (.cells #[.int .i64 (k : Int)] 3)).alloc (.cells #[.slice Ab' (rx bss k).length cb'] 42)) Aw wss := ((HWr.out.below HBr2.out).alloc (by omega) _).alloc (by simp; omega) _
        have hsz7 : ((wr.alloc (.cells #[.int .i64 (k : Int)] 3)).alloc (.cells #[.slice Ab' (rx bss k).length cb'] 42)).heap.size = wr.heap.size + 1 + 1 := by simp
        have hK7 : KpG W6.heap.size g W6 ((wr.alloc (.cells #[.int .i64 (k : Int)] 3)).alloc (.cells #[.slice Ab' (rx bss k).length cb'] 42)) := HKr.out.trans ⟨by simp; omega, rfl, rfl, rfl, fun j hj _ => (Below.heap_alloc _ _ _ (by simp; omega)).trans (Below.heap_alloc _ _ _ (by omega))⟩
        have hM7 : Marks W6.heap.size ((wr.alloc (.cells #[.int .i64 (k : Int)] 3)).alloc (.cells #[.slice Ab' (rx bss k).length cb'] 42)) ds := HMr.out.keep fun j ob _ hjo _ => ((Below.heap_alloc _ _ _ (by have := (Array.getElem?_eq_some_iff.1 hjo).1; simp; omega)).trans (Below.heap_alloc _ _ _ (Array.getElem?_eq_some_iff.1 hjo).1)).trans hjo
        generalize ((wr.alloc (.cells #[.int .i64 (k : Int)] 3)).alloc (.cells #[.slice Ab' (rx bss k).length cb'] 42)) = W7 at hW7 hx7 hcb7 hk12 m4' m5' hw7 hsz7 hK7 hM7 ⊢
        have hball := (HV1.out.2.2 k h1)
        have HBA := Lib.hid hball
        have hlen : (rx bss k).length ≤ 8 := by rw [hball.1]; exact HV.out.2.1
        clear hball
        refine wpIn_wide.1 (wpIn_rangeFunc_ownH (F := Fence.wide) (n := 5) (α := Fin (rx bss k).length) rfl (by omega) (gf := 136) (lb := #[.pointer (some ⟨wr.heap.size + 1, 0, none⟩)]) rfl trivial (enters_of Try.func136 (by kernel_rfl) rfl)
          (cells_stops (B := B) 4 (wr.heap.size + 1) cb' Ab' (rx bss k) (by omega) (KpG W7.heap.size g) (fun h k => h.trans k) (fun _ => KpG.refl _ _ _) (fun W W' hk hi => hi.below (hk.below (by omega) (by omega))) W7 (by omega) (by omega) hcb7 hx7)
          (fun h k => h.trans k) ?keepPut (Below.refl _ _) (fun _ => rfl)
          (fun pre W => Worn W g (.slice A xss.length c) lo hi ca (rollW ca (rx bss k) (fun r => ix (rx wss k) (r - 1)) (fun r => ix (rx wss k) r) (playO ca xss.length bss wss (oilOf xss) k) (pre.map Fin.val)) ∧ KpG W7.heap.size g W7 W)
          (fun _ _ _ => False) ?ownI (fun _ _ _ _ _ hs _ _ => hs) ⟨hW7, KpG.refl _ _ _⟩
          (fun x a' W => ∃ bb, W7.heap.size ≤ bb ∧ W.heap[bb]? = some (.cells #[.int .i64 (x.1 : Int), .int .i64 (ix (rx bss k) x.1)] 211 (0, 0)) ∧ a' = { tmps := #[s0, s1, s2, s3, s4, .pointer (some ⟨w.heap.size + 1, 0, none⟩), s6, s7, s8, s9, s10, .pointer (some ⟨w5.heap.size, 0, none⟩), .pointer (some ⟨wr.heap.size, 0, none⟩), .slice Ab' (rx bss k).length cb', .pointer (some ⟨bb, 0, none⟩), s15, s16, s17, s18, s19, s20, s21, s22, s23, s24, s25, s26, s27, s28, s29, s30, s31, s32, s33, s34, s35, s36, .slice (some ⟨bb0, off0, none⟩) bss.length cb, .int .i64 (bss.length : Int), .int .i64 (k : Int), .bool true, .int .i64 (k : Int), .pointer (some ⟨bb0, off0 + k, none⟩), .slice Ab' (rx bss k).length cb', .slice Ab' (rx bss k).length cb', .func (.func 136) #[] #[.pointer (some ⟨wr.heap.size + 1, 0, none⟩)], .agg #[.int .i64 (x.1 : Int), .int .i64 (ix (rx bss k) x.1)], s47, s48, s49, s50, s51, s52, s53, s54, s55, s56, s57, s58, s59, s60, s61, s62, s63, s64, s65, s66, s67, s68, s69, s70, s71, s72, s73], defers := [] })
          ?ownA ?assign ?body ?done ?stop)
        case keepPut =>
          intro W l x y hl hx _ _
          exact ⟨by simp, rfl, rfl, rfl, fun k hk _ => World.putObj_heap_other (by omega)⟩
        case ownI =>
          rintro pre W W' row ⟨hWo, hKp⟩ hg' hrow
          refine ⟨hWo.grown hg' (fun e => ?_), hKp.trans ⟨hg'.size, hg'.os, hg'.tape, hg'.output, fun k hk _ => hg'.block k (Nat.lt_of_lt_of_le hk hKp.1) (fun e => ?_)⟩⟩
          · have := (hrow _ e.symm).1
            omega
          · have := (hrow _ e.symm).1
            omega
        case ownA =>
          rintro x a' _ W W' row ⟨bb, hbb, hc, rfl⟩ hg' hrow
          refine ⟨bb, hbb, (hg'.block bb (Array.getElem?_eq_some_iff.1 hc).1 (fun e => ?_)).trans hc, rfl⟩
          obtain ⟨_, ob, ho, hno⟩ := hrow _ e.symm
          rw [hc] at ho
          cases ho
          cases hno
        case assign =>
          rintro l pre x W K ⟨hWo, hKp⟩ hK
          simp only [cellEnc]
          gi_wp2
          exact hK _ _ ((KeepsOthers.alloc _ _).from _) ⟨by simp, rfl, rfl, rfl, fun k hk _ => Below.heap_alloc _ _ _ (Nat.lt_of_lt_of_le hk hKp.1)⟩ ⟨hWo.alloc _, hKp.trans ⟨by simp, rfl, rfl, rfl, fun k hk _ => Below.heap_alloc _ _ _ (Nat.lt_of_lt_of_le hk hKp.1)⟩⟩ ⟨W.heap.size, hKp.1, World.alloc_heap_new _ _, rfl⟩
        case body =>
          rintro l pre ⟨r, hrl⟩ a' W hl ⟨rr, hrr⟩ ⟨hWo, hKp⟩ ⟨bb, hbb, hcell, rfl⟩ hlt
          dsimp only at hcell ⊢
          have hwk : k < wss.length := by rw [HLE.out]; exact h1
          have hwear := (allB_iff.1 HAL.out) k hwk
          simp only [wearB, Bool.and_eq_true, decide_eq_true_eq, allB_iff] at hwear
          obtain ⟨hwl, hwr⟩ := hwear
          have hrx : r < xss.length := by rw [← HBA.out.1]; exact hrl
          have hr8 : r < 8 := Nat.lt_of_lt_of_le hrx HV.out.2.1
          obtain ⟨q0, q1⟩ := HBA.out.2 r hrx
          have q2 : ix (rx bss k) r < 12 := by have := (HV.out.2.2.1 0 HV.out.1).2.2; omega
          have qw := inB_le (hwr r (by omega))
          have qlo := HV.out.2.2.2.2.1
          have qhi := HV.out.2.2.2.2.2.2.1
          have qca := HV.out.2.2.2.2.2.2.2
          have hbW : Below B W7 W := hKp.below (by omega) (by omega)
          have j0 : W.cell? ⟨w5.heap.size, 0, none⟩ = some (.pointer (some ⟨g, 0, none⟩)) := hKp.cell m5' (by dsimp only; omega) (by dsimp only; omega)
          have j1 := hKp.cell m4' (by dsimp only; omega) (by dsimp only; omega)
          have j2 : W.cell? ⟨wr.heap.size, 0, none⟩ = some (.int .i64 (k : Int)) := hKp.cell hk12 (by dsimp only; omega) (by dsimp only; omega)
          have j3 : W.cell? ⟨bb, 0, none⟩ = some (.int .i64 (r : Int)) := by simp [World.cell?, hcell]
          have j4 : W.cell? ⟨bb, 1, none⟩ = some (.int .i64 (ix (rx bss k) r)) := by simp [World.cell?, hcell]
          obtain ⟨b1, off1, Aw', cw', hAw, hb1, jw, _, _, hin1⟩ := (hw7.below hbW).at_ hwk
          obtain ⟨b2, off2, rfl, hb2, hc2⟩ := hin1 (by omega)
          subst hAw
          have jr := hc2 r (by omega)
          have hri : ((r : Nat) : Int) < 8 := by omega
          have hri2 : ((r : Nat) : Int) < ((rx wss k).length : Int) := by omega
          have hri0 : (0 : Int) ≤ ((r : Nat) : Int) := by omega
          have hki : ((k : Nat) : Int) < (wss.length : Int) := by omega
          have hki0 : (0 : Int) ≤ ((k : Nat) : Int) := by omega
          have hnn := wears_nonneg HAL.out qlo
          have hlv' : Lvl (rollW ca (rx bss k) (fun r => ix (rx wss k) (r - 1)) (fun r => ix (rx wss k) r) (playO ca xss.length bss wss (oilOf xss) k) (pre.map Fin.val)) := (lvl_playO HLW.out hnn k).roll (fun r => hnn k r) _
          have hlvr := hlv' (r * 12 + (ix (rx bss k) r).toNat)
          have HKp := Lib.hid hKp
          have hzW := hKp.1
          by_cases hr0 : 0 < r
          · have jr1 := hc2 (r - 1) (by omega)
            have qw1 := inB_le (hwr (r - 1) (by omega))
            have hcall := fun n => wear_c g r (ix (rx bss k) r).toNat (.slice A xss.length c) lo hi ca (ix (rx wss k) (r - 1)) (ix (rx wss k) r) _ (W.drewN n) (hWo.drewN n) hr8 (by omega) qca.1 qca.2 (by omega) (by omega) hlvr.1 hlvr.2 (by omega) (by omega)
            rw [Int.toNat_of_nonneg q0] at hcall
            have HC := Lib.hid hcall
            clear hcall hKp hcell hWo hlv' hlvr hnn hin1 hc2 hwr qw qw1 qlo qhi qca hwl hwk hrx hbW hlt hrr
            gi_wp2
            refine round_quiet (by kernel_rfl) (by kernel_rfl) (by kernel_rfl) (by rintro ⟨_, _, h⟩; exact h) ?_
            repeat (first | go_big_quiet_step (fail) | quiet_step (fail))
            refine wpQuiet_nil ?_
            rintro _ ⟨nq, rfl⟩
            gi_wp2
            refine round_still_tail 11 (by kernel_rfl) (by kernel_rfl) (by kernel_rfl) (by rintro ⟨_, _, h⟩; exact h) ?_
            simp only [List.take_succ_cons, List.take_zero, List.drop_succ_cons, List.drop_zero]
            repeat still_step
            refine wpStill_nil ?_
            go_wp2_with (go_at_call 88; refine (HC.out _).mono ?_; rintro e W2 ⟨rfl, hWo2, hgr⟩; have HWo2 := Lib.hid hWo2; have HGR := Lib.hid hgr; clear hWo2 hgr)
            have hgr : W.grownBy W2 (some g) := ⟨HGR.out.os, HGR.out.tape, HGR.out.output, HGR.out.size, HGR.out.block⟩
            refine ⟨⟨hgr.size, fun j ob hj hjo hno => (hgr.block j (Array.getElem?_eq_some_iff.1 hjo).1 (fun e => ?_)).trans hjo⟩, KpG.of_grown hgr hzW, ?_, HKp.out.trans (KpG.of_grown hgr hzW)⟩
            · injection e with e
              omega
            · have hWo2 := HWo2.out
              rw [List.map_append, List.map_singleton, rollW_snoc]
              exact hWo2
          · obtain rfl : r = 0 := by omega
            have hn0 : 0 < (rx wss k).length := by omega
            have hcall := fun n => wear_c g 0 (ix (rx bss k) 0).toNat (.slice A xss.length c) lo hi ca 0 (ix (rx wss k) 0) _ (W.drewN n) (hWo.drewN n) hr8 (by omega) qca.1 qca.2 (by omega) (by omega) hlvr.1 hlvr.2 (by omega) (by omega)
            rw [Int.toNat_of_nonneg q0, Int.natCast_zero] at hcall
            have HC := Lib.hid hcall
            clear hcall hKp hcell hWo hlv' hlvr hnn hin1 hc2 hwr qw qlo qhi qca hwl hwk hrx hbW hlt hrr
            simp only [Nat.add_zero] at jr
            simp only [Int.natCast_zero] at j3 hri2 ⊢
            gi_wp2
            refine round_still_tail 11 (by kernel_rfl) (by kernel_rfl) (by kernel_rfl) (by rintro ⟨_, _, h⟩; exact h) ?_
            simp only [List.take_succ_cons, List.take_zero, List.drop_succ_cons, List.drop_zero]
            repeat still_step
            refine wpStill_nil ?_
            go_wp2_with (go_at_call 88; refine (HC.out _).mono ?_; rintro e W2 ⟨rfl, hWo2, hgr⟩; have HWo2 := Lib.hid hWo2; have HGR := Lib.hid hgr; clear hWo2 hgr)
            have hgr : W.grownBy W2 (some g) := ⟨HGR.out.os, HGR.out.tape, HGR.out.output, HGR.out.size, HGR.out.block⟩
            refine ⟨⟨hgr.size, fun j ob hj hjo hno => (hgr.block j (Array.getElem?_eq_some_iff.1 hjo).1 (fun e => ?_)).trans hjo⟩, KpG.of_grown hgr hzW, ?_, HKp.out.trans (KpG.of_grown hgr hzW)⟩
            · injection e with e
              omega
            · have hWo2 := HWo2.out
              rw [List.map_append, List.map_singleton, rollW_snoc]
              exact hWo2
        case done =>
          rintro D ys W hD rfl ⟨hWo, hKp⟩ hK
          rw [map_finRange] at hWo
          go_wp2_with fail
          rw [show ((k : Int) + 1) = ((k + 1 : Nat) : Int) by omega]
          refine ⟨⟨_, _, _, _, _, _, _, _, _, _, _, _, _, _, _, _, _, _, _, _, _, _, _, _, _, _, _, _, _, _, _, _, _, _, _, _, _, _, _, _, _, _, _, _, _, _, _, _, _, _, _, _, _, _, _, _, _, _, _, _, _, _, _, _, _, _, _, _, _, k + 1, _, rfl, by omega, ?_, hK7.trans (hKp.mono (by omega)), ⟨D, by omega, rfl, hK, ?_⟩, ?_⟩, ?_⟩
          · rw [playO_succ]
            rw [HBA.out.1] at hWo
            exact hWo
          · intro d' hd' e
            obtain ⟨D', h2, h3⟩ := hM7.lt d' hd'
            rw [h2] at e
            injection e with e
            omega
          · refine hM7.keep fun j ob _ hjo hno => (hKp.2.2.2.2 j (Array.getElem?_eq_some_iff.1 hjo).1 (fun e => ?_)).trans hjo
            subst e
            rw [show W7.heap[j]? = _ from hW7] at hjo
            cases hjo
            cases hno
          · simp [intOf]
            omega
        case stop => exact fun _ _ _ _ _ _ h _ => h.elim
      · obtain rfl : k = bss.length := by omega
        have m5' := hKr.cell m5 (by dsimp only; omega) (by dsimp only; omega)
        have H64 := Lib.hid (list_c (B := B) g A c lo hi ca _ xss wr hWr (by omega) (HRr.out.below hbr) HV.out.1 HV.out.2.1 (HV.out.2.2.1 0 HV.out.1).2.2)
        have HKr := Lib.hid hKr
        have HMr := Lib.hid hMr
        clear hWr hKr hMr hbr
        go_wp2_with fail
        refine H64.out.mono ?_
        rintro e w7 ⟨v, rfl, hv7, hb7⟩
        obtain ⟨va, vc, rfl, _⟩ := id hv7
        go_wp2_with fail
        refine leaves_marks (B := W6.heap.size) ds _ (HMr.out.keep fun k ob hk hko _ => (hb7.block k (Array.getElem?_eq_some_iff.1 hko).1).trans hko) fun w8 h8 => ?_
        refine ⟨_, results_tmp2 rfl _ _ _, .inr ⟨HR.out, _, rfl, ?_, ?_⟩⟩
        · rw [h8.2.2.2.1]
          exact hv7.took h8
        · exact (((HB6.out.trans (HKr.out.below (by omega) (by omega))).trans (hb7.mono (by omega)))).trans ⟨h8.1, h8.2.1, h8.2.2.1, by rw [h8.2.2.2.1]; exact Nat.le_refl _, fun j hj => h8.2.2.2.2.1 j (by omega)⟩
  · have hl' : ((wss.length : Int) != (bss.length : Int)) = true := by simp; omega
    have HR : Hid (playErr xss lo hi ca bss wss = 2) := by show _ = _; simp [playErr, HE.out, wearsB, hl]
    go_wp2_with fail
    refine ⟨_, results_tmp2 rfl _ _ _, ?_⟩
    refine .inl ⟨by rw [HR.out]; decide, ret_err HR.out.symm, HB3.out⟩
/-- **Play**: an error, or the pattern. -/
theorem play_c {B : Nat} (A Ab Aw : Option Addr) (xss bss wss : List (List Int)) (c cb cw : Nat) (lo hi ca : Int) (w : World) (hB : B ≤ w.heap.size) (hr : Grd B w A xss) (hb : Grd B w Ab bss) (hwr : Grd B w Aw wss) (hc : xss.length ≤ c ∧ c ≤ 9223372036854775807) (hcb : bss.length ≤ cb ∧ cb ≤ 9223372036854775807) (hcw : wss.length ≤ cw ∧ cw ≤ 9223372036854775807) :
    Calls Try.prog 35 #[.agg #[.slice A xss.length c, .int .i64 lo, .int .i64 hi, .int .i64 ca], .slice Ab bss.length cb, .slice Aw wss.length cw] w (PlayPost w (playErr xss lo hi ca bss wss) (rowsOf (playO ca xss.length bss wss (oilOf xss) bss.length) (rx xss 0).length xss.length)) := by
  by_cases h : ballsErr xss lo hi ca bss = 0
  · exact play_rest A Ab Aw xss bss wss c cb cw lo hi ca w hB hr hb hwr hc hcb hcw h
  · exact play_bad1 A Ab Aw xss bss wss c cb cw lo hi ca w hB hr hb hc hcb h _
end

section
open Go.RowKit
/-- The oil behind the first k balls, if each wears bf in the row before and ow in its own one. -/
def endO (ca : Int) (n : Nat) (bss : List (List Int)) (bf ow : Int) (o : Nat → Int) (k : Nat) : Nat → Int :=
  (List.range k).foldl (fun o i => rollW ca (rx bss i) (fun _ => bf) (fun _ => ow) o (List.range n)) o
theorem endO_succ (ca : Int) (n : Nat) (bss : List (List Int)) (bf ow : Int) (o : Nat → Int) (k : Nat) : endO ca n bss bf ow o (k + 1) = rollW ca (rx bss k) (fun _ => bf) (fun _ => ow) (endO ca n bss bf ow o k) (List.range n) := by
  simp [endO, List.range_succ]
theorem lvl_endO {ca : Int} {n : Nat} {bss : List (List Int)} {bf ow : Int} {o : Nat → Int} (h : Lvl o) (hw : 0 ≤ ow) (k : Nat) : Lvl (endO ca n bss bf ow o k) := by
  induction k with
  | zero => exact h
  | succ k ih => rw [endO_succ]; exact ih.roll (fun _ => hw) _
def BoundsPost (w : World) (err : Int) (yss zss : List (List Int)) (e : Ending) (w' : World) : Prop :=
  (err ≠ 0 ∧ e = .returned (.tuple #[.slice none 0 0, .slice none 0 0, .int .i64 err]) ∧ Below w.heap.size w w') ∨
  (err = 0 ∧ ∃ v u, e = .returned (.tuple #[v, u, .int .i64 0]) ∧ IsGrd w'.heap.size w' v yss ∧ IsGrd w'.heap.size w' u zss ∧ Below w.heap.size w w')
set_option maxRecDepth 100000 in
set_option maxHeartbeats 4000000 in
theorem bounds_c {B : Nat} (A Ab : Option Addr) (xss bss : List (List Int)) (c cb : Nat) (lo hi ca : Int) (w : World) (hB : B ≤ w.heap.size) (hr : Grd B w A xss) (hb : Grd B w Ab bss) (hc : xss.length ≤ c ∧ c ≤ 9223372036854775807) (hcb : bss.length ≤ cb ∧ cb ≤ 9223372036854775807) :
    Calls Try.prog 39 #[.agg #[.slice A xss.length c, .int .i64 lo, .int .i64 hi, .int .i64 ca], .slice Ab bss.length cb] w
      (BoundsPost w (ballsErr xss lo hi ca bss) (rowsOf (endO ca xss.length bss lo hi (oilOf xss) bss.length) (rx xss 0).length xss.length) (rowsOf (endO ca xss.length bss hi lo (oilOf xss) bss.length) (rx xss 0).length xss.length)) := by
  have hw1 : Below w.heap.size w (w.alloc (.cells #[.slice A xss.length c, .int .i64 lo, .int .i64 hi, .int .i64 ca] 112)) := (Below.refl _ _).alloc (Nat.le_refl _) _
  have hz1 := hw1.size
  have H1 := Lib.hid (check_c (B := B) A Ab xss bss c cb lo hi ca _ (by omega) (hr.below (hw1.mono hB)) (hb.below (hw1.mono hB)) hc hcb)
  have HRr := Lib.hid hr
  have HBr := Lib.hid hb
  clear hr hb
  by_cases h : ballsErr xss lo hi ca bss = 0
  · have HE := Lib.hid h
    clear h
    have HV1 := Lib.hid (ballsOk HE.out)
    have HV := Lib.hid (laneOk HV1.out.1)
    have HLW := Lib.hid (lvl_oilOf HV1.out.1)
    go_enter Try.func39, Try.ntmps39
    go_wp2_with fail
    refine H1.out.mono ?_
    rw [HE.out]
    rintro e w1 ⟨rfl, hb1⟩
    have d0 := cell_of_ans hb1 (p := ⟨w.heap.size, 0, none⟩) (v := .slice A xss.length c) (by go_simp)
    have d1 := cell_of_ans hb1 (p := ⟨w.heap.size, 1, none⟩) (v := .int .i64 lo) (by go_simp)
    have d2 := cell_of_ans hb1 (p := ⟨w.heap.size, 2, none⟩) (v := .int .i64 hi) (by go_simp)
    have d3 := cell_of_ans hb1 (p := ⟨w.heap.size, 3, none⟩) (v := .int .i64 ca) (by go_simp)
    have hz2 : w.heap.size + 1 ≤ w1.heap.size := by have := hb1.size; simp at this; omega
    have HB2 := Lib.hid (hw1.trans (hb1.mono hz1))
    clear hb1 hw1 hz1 H1
    have H61 : Hid (∀ W, Below w.heap.size w W → Calls Try.prog 86 #[.agg #[.slice A xss.length c, .int .i64 lo, .int .i64 hi, .int .i64 ca]] W (FreshPost W (.slice A xss.length c) lo hi ca (oilOf xss))) :=
      fun W hW => fresh_c (B := B) A xss c lo hi ca W (Nat.le_trans hB hW.size) (HRr.out.below (hW.mono hB)) hc HV.out.2.1 (fun k hk => (HV.out.2.2.1 k hk).2.2)
    have HBa : Hid (Below w.heap.size w w1) := HB2.out
    go_upto_region 4 with fail
    go_cut [8, 9] (fun s8 s9 wx => ∃ p q : Nat, s8 = .pointer (some ⟨p, 0, none⟩) ∧ s9 = .pointer (some ⟨q, 0, none⟩) ∧ w1.heap.size ≤ p ∧ p < q ∧ Worn wx p (.slice A xss.length c) lo hi ca (oilOf xss) ∧ Worn wx q (.slice A xss.length c) lo hi ca (oilOf xss) ∧ Below w1.heap.size w1 wx)
    case first =>
      go_region_held3 (fun w' => w'.cell? ⟨w.heap.size, 0, none⟩ = some (.slice A xss.length c) ∧ w'.cell? ⟨w.heap.size, 1, none⟩ = some (.int .i64 lo) ∧ w'.cell? ⟨w.heap.size, 2, none⟩ = some (.int .i64 hi) ∧ w'.cell? ⟨w.heap.size, 3, none⟩ = some (.int .i64 ca)) (go_keep)
        (first
          | (go_at_call 86; refine (H61.out _ HBa.out.drew).mono ?_; clear HBa; rintro e w5 ⟨g5, rfl, hg5, hW5, hb5⟩; have r0 := cell_of_ans hb5 d0; have r1 := cell_of_ans hb5 d1; have r2 := cell_of_ans hb5 d2; have r3 := cell_of_ans hb5 d3; have HB5 := Lib.hid hb5; have HW5 := Lib.hid hW5; have HG5 := Lib.hid hg5; clear hb5 hW5 hg5; have HBb : Hid (Below w.heap.size w w5) := (HB2.out.drew).trans (HB5.out.mono HB2.out.size))
          | (go_at_call 86; refine (H61.out _ HBb.out).mono ?_; clear HBb; rintro e w6 ⟨g6, rfl, hg6, hW6, hb6⟩; have t0 := cell_of_ans hb6 r0; have t1 := cell_of_ans hb6 r1; have t2 := cell_of_ans hb6 r2; have t3 := cell_of_ans hb6 r3; have HB6 := Lib.hid hb6; have HW6 := Lib.hid hW6; have HG6 := Lib.hid hg6; clear hb6 hW6 hg6))
      go_wp2_with fail
      go_meet
      have z5 := HB5.out.size
      have z5' := HG5.out
      rw [World.size_drew] at z5 z5'
      have z6 := HB6.out.size
      have z6' := HG6.out
      have l5 := HW5.out.lt
      exact ⟨g5, g6, rfl, rfl, z5', by omega, HW5.out.below HB6.out l5, HW6.out, (below_drew_l HB5.out).trans (HB6.out.mono z5)⟩
    case rest =>
      obtain ⟨p, q, rfl, rfl, hp, hpq, hWp, hWq, hbx⟩ := hcut
      clear HBa H61 d0 d1 d2 d3
      have HWp := Lib.hid hWp
      have HWq := Lib.hid hWq
      have HBX := Lib.hid hbx
      clear hWp hWq hbx
      go_wp2_with fail
      go_loopw [24] (fun i wr => ∃ k : Nat, k ≤ bss.length ∧ i = .int .i64 k ∧ Worn wr p (.slice A xss.length c) lo hi ca (endO ca xss.length bss lo hi (oilOf xss) k) ∧ Worn wr q (.slice A xss.length c) lo hi ca (endO ca xss.length bss hi lo (oilOf xss) k) ∧ Below w1.heap.size w1 wr) (fun i _ => bss.length - (intOf i).toNat)
      case atStart => exact ⟨0, by omega, rfl, HWp.out, HWq.out, HBX.out⟩
      case round =>
        obtain ⟨k, hk, rfl, hWp, hWq, hbr⟩ := hrel
        clear HWp HWq HBX
        have hzr := hbr.size
        have hbw : Below B w wr := (HB2.out.mono hB).trans (hbr.mono (by omega))
        by_cases h1 : k < bss.length
        · obtain ⟨bb0, off0, Ab', cb', rfl, hb0, hcl, hl1, hl2, hin⟩ := (HBr.out.below hbw).at_ h1
          have hball := HV1.out.2.2 k h1
          have h12 := (HV.out.2.2.1 0 HV.out.1).2.2
          have hv := HV.out.2.2.2.2
          have hlen : (rx bss k).length ≤ 8 := by rw [hball.1]; exact HV.out.2.1
          have hbd : ∀ j, j < (rx bss k).length → 0 ≤ ix (rx bss k) j ∧ ix (rx bss k) j < 12 := fun j hj => by
            have := hball.2 j (by rw [← hball.1]; exact hj)
            omega
          have H68 := Lib.hid (roll_c (B := B) p 92 cb' Ab' (rx bss k) (.slice A xss.length c) lo hi ca lo hi _ wr hWp (by omega) (by omega) hin enters69 (fun W => little_c lo hi W) hlen hbd hv.2.2.2.1 hv.2.2.2.2 hv.1 (by omega) (by omega) hv.2.2.1 (lvl_endO HLW.out (by omega) k))
          have H70 := Lib.hid (fun (W : World) (hW : wr.grownBy W (some p)) => roll_c (B := B) q 93 cb' Ab' (rx bss k) (.slice A xss.length c) lo hi ca hi lo _ W (hWq.grown hW (fun e => by injection e with e; omega)) (by have := hW.size; omega) (by omega) (hin.below (below_only hW (by omega) (by omega))) enters70 (fun W => much_c lo hi W) hlen hbd hv.2.2.2.1 hv.2.2.2.2 (by omega) hv.2.2.1 hv.1 (by omega) (lvl_endO HLW.out hv.1 k))
          have HBALL := Lib.hid hball.1
          have HBRR := Lib.hid hbr
          clear hball hbd hv hlen h12 hin hWp hWq hbr hbw
          go_wp2_with fail
          refine H68.out.mono ?_
          rintro e w5 ⟨rfl, hWp5, hg5⟩
          have HG5 := Lib.hid hg5
          have HP5 := Lib.hid hWp5
          clear hg5 hWp5
          go_wp2_with fail
          refine (H70.out w5 HG5.out).mono ?_
          rintro e w6 ⟨rfl, hWq6, hg6⟩
          have HG6 := Lib.hid hg6
          have HQ6 := Lib.hid hWq6
          clear hg6 hWq6
          go_wp2_with fail
          go_roundw
          case rel =>
            refine ⟨k + 1, by omega, by go_num, ?_, ?_, ?_⟩
            · rw [endO_succ]
              have := HP5.out.grown HG6.out (fun e => by injection e with e; omega)
              rwa [HBALL.out] at this
            · rw [endO_succ]
              have := HQ6.out
              rwa [HBALL.out] at this
            · exact (HBRR.out.trans (below_only HG5.out hp (by omega))).trans (below_only HG6.out (by omega) (by have := HG5.out.size; omega))
          case measure => simp [intOf]; omega
        · obtain rfl : k = bss.length := by omega
          have h12 := (HV.out.2.2.1 0 HV.out.1).2.2
          have H64 := Lib.hid (list_c (B := B) p A c lo hi ca _ xss wr hWp (by omega) (HRr.out.below hbw) HV.out.1 HV.out.2.1 h12)
          have H64b := Lib.hid (fun (W : World) (hW : Below wr.heap.size wr W) => list_c (B := B) q A c lo hi ca _ xss W (hWq.below hW hWq.lt) (by have := hW.size; omega) (HRr.out.below (hbw.trans (hW.mono (by omega)))) HV.out.1 HV.out.2.1 h12)
          have HBRR := Lib.hid hbr
          clear hWp hWq hbr hbw h12
          go_wp2_with fail
          refine H64.out.mono ?_
          rintro e w7 ⟨v7, rfl, hv7, hb7⟩
          have HV7 := Lib.hid hv7
          have HB7 := Lib.hid hb7
          clear hv7 hb7
          go_wp2_with fail
          refine (H64b.out w7 HB7.out).mono ?_
          rintro e w8 ⟨v8, rfl, hv8, hb8⟩
          have HV8 := Lib.hid hv8
          have HB8 := Lib.hid hb8
          clear hv8 hb8
          go_wp2_with fail
          go_ret3
          refine .inr ⟨HE.out, _, _, rfl, (HV7.out.below HB8.out).more HB8.out.size, HV8.out, ?_⟩
          exact ((HB2.out.trans (HBRR.out.mono (by omega))).trans (HB7.out.mono (by omega))).trans (HB8.out.mono (by have := HB7.out.size; omega))
  · have h1' : (ballsErr xss lo hi ca bss != 0) = true := by simp [h]
    have HE := Lib.hid h
    clear h
    go_enter Try.func39, Try.ntmps39
    go_wp2_with fail
    refine H1.out.mono ?_
    rintro e w1 ⟨rfl, hb1⟩
    go_wp2_with fail
    go_ret3
    exact .inl ⟨HE.out, rfl, hw1.trans (hb1.mono hz1)⟩
end

section
open Go.RowKit
/-- Value v is an own slice of n own slices; row j holds rows j. -/
def Rws (base : Nat) (w : World) (v : Value) (n : Nat) (vs : List Value) (rows : Nat → List Int) : Prop :=
  w.ownsRow base 42 1 v n vs ∧ (∀ j, j < n → ∃ u, vs[j]? = some u ∧ w.ownsRow base 3 1 u (rows j).length ((rows j).map (Value.int .i64)) ∧ (u.ownBlock = none ∨ u.ownBlock ≠ v.ownBlock)) ∧
    ∀ (i j : Nat) (u u' : Value), i < j → vs[i]? = some u → vs[j]? = some u' → (u.ownBlock = none ∨ u.ownBlock ≠ u'.ownBlock)
theorem Rws.len {base : Nat} {w : World} {v : Value} {n : Nat} {vs : List Value} {rows : Nat → List Int} (h : Rws base w v n vs rows) : vs.length = n := by have := h.1.1; omega
theorem Rws.nil (base : Nat) (w : World) (rows : Nat → List Int) : Rws base w (.slice none 0 0) 0 [] rows :=
  ⟨World.ownsRow_nil _ _ _ _, fun j hj => by omega, fun i j u u' _ h => by simp at h⟩
theorem Rws.kept {base : Nat} {w w' : World} {v : Value} {n : Nat} {vs : List Value} {rows : Nat → List Int} (h : Rws base w v n vs rows) (hg : Below w.heap.size w w') : Rws base w' v n vs rows := by
  obtain ⟨h1, h2, h3⟩ := h
  have k : ∀ {u : Value} {e : TypeId} {m : Nat} {us : List Value}, w.ownsRow base e 1 u m us → w'.ownsRow base e 1 u m us := fun {u e m us} hu => hu.kept (only_below hg none) (by cases u.ownBlock <;> simp)
  refine ⟨k h1, fun j hj => ?_, h3⟩
  obtain ⟨u, a, b, c⟩ := h2 j hj
  exact ⟨u, a, k b, c⟩
theorem Rws.push {base : Nat} {w w1 w2 : World} {v v' u : Value} {n : Nat} {vs : List Value} {rows : Nat → List Int} (h : Rws base w v n vs rows) (hb : Below w.heap.size w w1) (hB : base ≤ w.heap.size)
    (hu : w1.ownsRow w.heap.size 3 1 u (rows n).length ((rows n).map (Value.int .i64))) (hg : w1.grownBy w2 v.ownBlock) (hv : v'.ownBlock = v.ownBlock ∨ v'.ownBlock = some w1.heap.size)
    (ho : w2.ownsRow base 42 1 v' (n + 1) (vs ++ [u])) : Rws base w2 v' (n + 1) (vs ++ [u]) rows := by
  have hl := h.len
  have hvlt : ∀ k, v.ownBlock = some k → k < w.heap.size := fun k e => (h.1.lt k e).2
  have hult := hu.lt
  have hu2 : w2.ownsRow w.heap.size 3 1 u (rows n).length ((rows n).map (Value.int .i64)) := hu.kept hg (by
    cases e : u.ownBlock with
    | none => exact .inl rfl
    | some k =>
      refine .inr fun e' => ?_
      have a := hvlt k e'.symm
      have b := (hult k e).1
      omega)
  have hsz := hb.size
  refine ⟨ho, fun j hj => ?_, fun i j x y hij hx hy => ?_⟩
  · by_cases e : j = n
    · subst e
      refine ⟨u, by rw [List.getElem?_append_right (by omega)]; simp [hl], ownsRow_base hu2 hB, ?_⟩
      cases e : u.ownBlock with
      | none => exact .inl rfl
      | some k =>
        have a := hult k e
        refine .inr fun e' => ?_
        rcases hv with hv | hv
        · rw [hv] at e'
          have := hvlt k e'.symm
          omega
        · rw [hv] at e'
          injection e' with e'
          omega
    · obtain ⟨x, a, b, c⟩ := h.2.1 j (by omega)
      refine ⟨x, by rw [List.getElem?_append_left (by omega)]; exact a, (b.kept (only_below hb none) (by cases x.ownBlock <;> simp)).kept hg c, ?_⟩
      cases e : x.ownBlock with
      | none => exact .inl rfl
      | some k =>
        rcases hv with hv | hv
        · rw [hv]; rw [e] at c; exact c
        · have d := (b.lt k e).2
          rw [hv]
          refine .inr fun e' => ?_
          injection e' with e'
          omega
  · have hj : j < n + 1 := by
      have := (List.getElem?_eq_some_iff.1 hy).1
      rw [List.length_append] at this
      simp at this
      omega
    by_cases e : j = n
    · subst e
      rw [List.getElem?_append_right (by omega)] at hy
      rw [List.getElem?_append_left (by omega)] at hx
      simp [hl] at hy
      subst hy
      obtain ⟨x', a, b, c⟩ := h.2.1 i (by omega)
      rw [hx] at a
      injection a with a
      subst a
      cases e : x.ownBlock with
      | none => exact .inl rfl
      | some k =>
        have d := (b.lt k e).2
        refine .inr fun e' => ?_
        have := (hult k e'.symm).1
        omega
    · rw [List.getElem?_append_left (by omega)] at hy hx
      exact h.2.2 i j x y hij hx hy
theorem Rws.grd {base : Nat} {w : World} {v : Value} {vs : List Value} {yss : List (List Int)} (h : Rws base w v yss.length vs (rx yss)) : IsGrd w.heap.size w v yss := by
  obtain ⟨h1, h2, _⟩ := h
  rcases h1.2 with ⟨rfl, h0⟩ | ⟨g, cap, cur, rfl, hb, hg, hn, hm, hs, ht⟩
  · have : yss = [] := List.eq_nil_of_length_eq_zero h0
    subst this
    exact ⟨none, 0, rfl, by simp, by simp, fun hp => by simp at hp⟩
  · refine ⟨_, cap, rfl, hn, by unfold maxLen at hm; omega, fun hp => ⟨g, 0, rfl, (Array.getElem?_eq_some_iff.1 hg).1, fun k hk => ?_⟩⟩
    obtain ⟨u, a, b, c⟩ := h2 k hk
    refine ⟨u, ?_, ownsRow_isInts b⟩
    have := h1.cells (g := g) rfl k u a
    rwa [add_eq] at this
/-- A new copy. -/
def CopyPost (w : World) (xss : List (List Int)) (e : Ending) (w' : World) : Prop :=
  ∃ v vs, e = .returned v ∧ Rws w.heap.size w' v xss.length vs (rx xss) ∧ Below w.heap.size w w'
theorem src_one (w : World) (u : Value) : Src (w.alloc (.cells #[u] 42)) 1 (some ⟨w.heap.size, 0, none⟩) 1 [u] := by
  refine ⟨rfl, (fun h => by cases h), fun ad hA j x hx => ?_⟩
  injection hA with hA
  subst hA
  cases j with
  | zero =>
    simp at hx
    subst hx
    rw [add_eq]
    simp
  | succ j => simp at hx
theorem one_slices {base : Nat} {w : World} {e : TypeId} {u : Value} {n : Nat} {xs : List Value} (h : w.ownsRow base e 1 u n xs) : ∀ x ∈ [u], x.oneCell' = true := by
  obtain ⟨A, c, rfl⟩ := ownsRow_form h
  intro x hx
  simp at hx
  subst hx
  rfl
theorem le_alloc {b : Nat} {w w1 : World} {o : Obj} (h : b ≤ w.heap.size) (hb : Below w.heap.size w w1) : b ≤ (w1.alloc o).heap.size := by
  have := hb.size
  rw [World.size_alloc]
  omega
theorem own_ne (u : Value) : u.ownBlock = none ∨ u.ownBlock ≠ none := by cases u.ownBlock <;> simp
theorem below_lit {w w' : World} {n c : Nat} {o : Obj} (h : (w.alloc o).grownBy w' (Value.slice (some ⟨w.heap.size, 0, none⟩) n c).ownBlock) : Below w.heap.size w w' :=
  ((Below.refl w.heap.size w).alloc (Nat.le_refl _) o).grown h (by simp) (fun k e => by injection e with e; subst e; exact Nat.le_refl _)
set_option maxRecDepth 100000 in
set_option maxHeartbeats 2000000 in
theorem copied_c {B : Nat} (A : Option Addr) (xss : List (List Int)) (c : Nat) (w : World) (hB : B ≤ w.heap.size) (hx : Grd B w A xss) (hl : xss.length ≤ 1000000) (hr : ∀ k, k < xss.length → (rx xss k).length ≤ 1000000) :
    Calls Try.prog 37 #[.slice A xss.length c] w (CopyPost w xss) := by
  obtain ⟨i0, hi, hz0, hz1, hz2⟩ := info_parts infoInt
  obtain ⟨i1, hi', hy0, hy1, hy2⟩ := info_parts infoInts
  have HX := Lib.hid hx
  have HR := Lib.hid hr
  clear hx hr
  go_enter Try.func37, Try.ntmps37
  go_wp2_with fail
  go_loopw [4, 3] (fun i v wr => ∃ (k : Nat) (vs : List Value), k ≤ xss.length ∧ i = .int .i64 k ∧ Rws w.heap.size wr v k vs (rx xss) ∧ Below w.heap.size w wr) (fun i _ _ => xss.length - (intOf i).toNat)
  case atStart => exact ⟨0, [], by omega, rfl, Rws.nil _ _ _, Below.refl _ _⟩
  case round =>
    obtain ⟨k, vs, hk, rfl, hO, hb⟩ := hrel
    by_cases h1 : k < xss.length
    · have hz := hb.size
      obtain ⟨b, off, A', c', rfl, hbl, hc1, hc2, hc3, hi3⟩ := (HX.out.below (hb.mono hB)).at_ h1
      have hrk := HR.out k h1
      have hbw : b < wr.heap.size := by omega
      have HB := Lib.hid hb
      have HO := Lib.hid hO
      have hIs := Lib.hid hO.1
      have hs := Lib.hid ((hi3.alloc (by omega) (.cells #[] 3)).isrc)
      have ho : Hid ((wr.alloc (.cells #[] 3)).ownsRow wr.heap.size 3 1 (.slice (some ⟨wr.heap.size, 0, none⟩) 0 0) 0 []) := World.ownsRow_lit wr #[] 0 (Nat.le_refl _) (by simp [maxLen]) (by simp)
      have h63 : Hid (0 + (rx xss k).length ≤ maxLen) := by show _ ≤ _; unfold maxLen; omega
      have hby : Hid ((0 + (rx xss k).length) * 8 ≤ 140737488355328) := by show _ ≤ _; omega
      have h63' : Hid (k + 1 ≤ maxLen) := by show _ ≤ _; unfold maxLen; omega
      have hby' : Hid ((k + 1) * 24 ≤ 140737488355328) := by show _ ≤ _; omega
      clear hb hO hi3 hrk
      go_wp2_with (first | (at_builtin; refine wpList_append_src rfl (.tmp 12) (.tmp 16) 42 rfl wr.heap.size 3 i0 (.int .i64 0) 1 8 Try.underlying42 hi hz0 hz1 hz2 rfl (by decide) (.slice (some ⟨wr.heap.size, 0, none⟩) 0 0) 0 [] rfl ho.out A' (rx xss k).length c' _ rfl hs.out (one_ints (rx xss k)) h63.out hby.out (by simp) ?_; intro u w1 hown hgrow hob; rw [List.nil_append, Nat.zero_add] at hown; obtain ⟨Au, cu, rfl⟩ := ownsRow_form hown; have HO1 := Lib.hid hown; have HB1 := Lib.hid (below_lit hgrow); have hw2 := Lib.hid ((hIs.out.kept (only_below HB1.out none) (own_ne u3)).alloc (.cells #[.slice Au (rx xss k).length cu] 42)); have hs2 := Lib.hid (src_one w1 (.slice Au (rx xss k).length cu)); have hon := Lib.hid (one_slices hown); have hzz : Hid (w.heap.size ≤ (w1.alloc (.cells #[.slice Au (rx xss k).length cu] 42)).heap.size) := le_alloc hz HB1.out; clear hown hgrow hob) | (at_builtin; refine wpList_append_src rfl (.tmp 11) (.tmp 18) 29 rfl w.heap.size 42 i1 (.slice none 0 0) 1 24 Try.underlying29 hi' hy0 hy1 hy2 rfl (by decide) u3 k vs rfl hw2.out (some ⟨w1.heap.size, 0, none⟩) 1 1 [.slice Au (rx xss k).length cu] rfl hs2.out hon.out h63'.out hby'.out hzz.out ?_; intro v' w2 hown hgrow hob; have HO2 := Lib.hid hown; have HG2 := Lib.hid hgrow; have HV := Lib.hid hob; clear hown hgrow hob))
      go_roundw
      case rel =>
        have hu := HO1.out
        have hb1 : Below wr.heap.size wr (w1.alloc (.cells #[.slice Au (rx xss k).length cu] 42)) := HB1.out.alloc HB1.out.size _
        refine ⟨k + 1, vs ++ [.slice Au (rx xss k).length cu], by omega, by go_num, HO.out.push hb1 hz (hu.alloc _) HG2.out HV.out HO2.out, (HB.out.trans (hb1.mono hz)).grown HG2.out hzz.out (fun j e => (HO.out.1.lt j e).1)⟩
      case measure => simp [intOf]; omega
    · obtain rfl : k = xss.length := by omega
      go_wp2_with fail
      go_ret
      exact ⟨_, _, rfl, hO, hb⟩
end

section
open Go.RowKit
/-- A new lane. -/
def LanePost (w : World) (xss : List (List Int)) (lo hi ca : Int) (e : Ending) (w' : World) : Prop :=
  ∃ A c, e = .returned (.agg #[.slice A xss.length c, .int .i64 lo, .int .i64 hi, .int .i64 ca]) ∧ (xss.length ≤ c ∧ c ≤ 9223372036854775807) ∧ Grd w'.heap.size w' A xss ∧ Below w.heap.size w w'
theorem Rws.keptBy {base g : Nat} {w w' : World} {v : Value} {n : Nat} {vs : List Value} {rows : Nat → List Int} (h : Rws base w v n vs rows) (hg : w.grownBy w' (some g)) (hb : g < base) : Rws base w' v n vs rows := by
  obtain ⟨h1, h2, h3⟩ := h
  have k : ∀ {u : Value} {e : TypeId} {m : Nat} {us : List Value}, w.ownsRow base e 1 u m us → w'.ownsRow base e 1 u m us := fun {u e m us} hu => hu.kept hg (.inr fun e' => by
    have := (hu.lt g e').1
    omega)
  refine ⟨k h1, fun j hj => ?_, h3⟩
  obtain ⟨u, a, b, c⟩ := h2 j hj
  exact ⟨u, a, k b, c⟩
theorem four {W0 w1 : World} {g : Nat} {a b c d : Value} {t : TypeId} (h : W0.heap[g]? = some (.cells #[a, b, c, d] t)) (hb : Below W0.heap.size W0 w1) :
    w1.cell? ⟨g, 0, none⟩ = some a ∧ w1.cell? ⟨g, 1, none⟩ = some b ∧ w1.cell? ⟨g, 2, none⟩ = some c ∧ w1.cell? ⟨g, 3, none⟩ = some d ∧ ∀ o, w1.frozen? ⟨g, o, none⟩ = false := by
  have h1 := (hb.block g (Array.getElem?_eq_some_iff.1 h).1).trans h
  simp [World.cell?, World.frozen?, h1]
set_option maxHeartbeats 2000000 in
theorem lane_c {B : Nat} (A : Option Addr) (xss : List (List Int)) (c : Nat) (lo hi ca : Int) (w : World) (hB : B ≤ w.heap.size) (hx : Grd B w A xss) (hl : xss.length ≤ 1000000) (hr : ∀ k, k < xss.length → (rx xss k).length ≤ 1000000) :
    Calls Try.prog 36 #[.agg #[.slice A xss.length c, .int .i64 lo, .int .i64 hi, .int .i64 ca]] w (LanePost w xss lo hi ca) := by
  have HX := Lib.hid hx
  have HR := Lib.hid hr
  have HL := Lib.hid hl
  clear hx hr hl
  go_enter Try.func36, Try.ntmps36
  go_upto_region 1 with fail
  have d0 : ((w.alloc (.cells #[.slice A xss.length c, .int .i64 lo, .int .i64 hi, .int .i64 ca] 96)).alloc (.cells #[.slice none 0 0, .int .i64 0, .int .i64 0, .int .i64 0] 112)).cell? ⟨w.heap.size, 0, none⟩ = some (.slice A xss.length c) := by go_simp
  have d1 : ((w.alloc (.cells #[.slice A xss.length c, .int .i64 lo, .int .i64 hi, .int .i64 ca] 96)).alloc (.cells #[.slice none 0 0, .int .i64 0, .int .i64 0, .int .i64 0] 112)).cell? ⟨w.heap.size, 1, none⟩ = some (.int .i64 lo) := by go_simp
  have d2 : ((w.alloc (.cells #[.slice A xss.length c, .int .i64 lo, .int .i64 hi, .int .i64 ca] 96)).alloc (.cells #[.slice none 0 0, .int .i64 0, .int .i64 0, .int .i64 0] 112)).cell? ⟨w.heap.size, 2, none⟩ = some (.int .i64 hi) := by go_simp
  have d3 : ((w.alloc (.cells #[.slice A xss.length c, .int .i64 lo, .int .i64 hi, .int .i64 ca] 96)).alloc (.cells #[.slice none 0 0, .int .i64 0, .int .i64 0, .int .i64 0] 112)).cell? ⟨w.heap.size, 3, none⟩ = some (.int .i64 ca) := by go_simp
  have HE : Hid (((w.alloc (.cells #[.slice A xss.length c, .int .i64 lo, .int .i64 hi, .int .i64 ca] 96)).alloc (.cells #[.slice none 0 0, .int .i64 0, .int .i64 0, .int .i64 0] 112)).heap[w.heap.size + 1]? = some (.cells #[.slice none 0 0, .int .i64 0, .int .i64 0, .int .i64 0] 112)) := by
    show _ = _
    have := World.alloc_heap_new (w.alloc (.cells #[.slice A xss.length c, .int .i64 lo, .int .i64 hi, .int .i64 ca] 96)) (.cells #[.slice none 0 0, .int .i64 0, .int .i64 0, .int .i64 0] 112)
    rwa [World.size_alloc] at this
  have HZ : Hid (((w.alloc (.cells #[.slice A xss.length c, .int .i64 lo, .int .i64 hi, .int .i64 ca] 96)).alloc (.cells #[.slice none 0 0, .int .i64 0, .int .i64 0, .int .i64 0] 112)).heap.size = w.heap.size + 1 + 1) := by show _ = _; simp
  have HB0 : Hid (Below w.heap.size w ((w.alloc (.cells #[.slice A xss.length c, .int .i64 lo, .int .i64 hi, .int .i64 ca] 96)).alloc (.cells #[.slice none 0 0, .int .i64 0, .int .i64 0, .int .i64 0] 112))) := ((Below.refl _ _).alloc (Nat.le_refl _) _).alloc (by simp) _
  generalize ((w.alloc (.cells #[.slice A xss.length c, .int .i64 lo, .int .i64 hi, .int .i64 ca] 96)).alloc (.cells #[.slice none 0 0, .int .i64 0, .int .i64 0, .int .i64 0] 112)) = W0 at d0 d1 d2 d3 HE HZ HB0 ⊢
  have H21 : Hid (∀ W, Below W0.heap.size W0 W → Calls Try.prog 37 #[.slice A xss.length c] W (CopyPost W xss)) := fun W hW => copied_c (B := B) A xss c W (by have := hW.size; have := HB0.out.size; omega) ((HX.out.below (HB0.out.mono hB)).below (hW.mono (by have := HB0.out.size; omega))) HL.out HR.out
  go_region_held3 (fun w' => w'.cell? ⟨w.heap.size, 0, none⟩ = some (.slice A xss.length c) ∧ w'.cell? ⟨w.heap.size, 1, none⟩ = some (.int .i64 lo) ∧ w'.cell? ⟨w.heap.size, 2, none⟩ = some (.int .i64 hi) ∧ w'.cell? ⟨w.heap.size, 3, none⟩ = some (.int .i64 ca)) (go_keep) (first | (go_at_call 37; refine (H21.out _ (by first | exact (Below.refl _ _) | exact (Below.refl _ _).drew)).mono ?_; rintro e w1 ⟨v, vs, rfl, hv, hb1⟩; obtain ⟨Av, cv, rfl⟩ := ownsRow_form hv.1; have HV := Lib.hid hv; have HB1 := Lib.hid hb1; have r0 := cell_of_ans hb1 (p := ⟨w.heap.size, 0, none⟩) (v := .slice A xss.length c) (by simp [*]); have r1 := cell_of_ans hb1 (p := ⟨w.heap.size, 1, none⟩) (v := .int .i64 lo) (by simp [*]); have r2 := cell_of_ans hb1 (p := ⟨w.heap.size, 2, none⟩) (v := .int .i64 hi) (by simp [*]); have r3 := cell_of_ans hb1 (p := ⟨w.heap.size, 3, none⟩) (v := .int .i64 ca) (by simp [*]); obtain ⟨s0, s1, s2, s3, s4⟩ := four HE.out (by first | exact hb1 | exact below_drew_l hb1); clear hv hb1))
  all_goals
    go_wp2_with fail
    have hz := HZ.out
    have hW := HB1.out.size
    simp only [World.size_drew] at hW
    have hb1 : Below W0.heap.size W0 w1 := by first | exact HB1.out | exact below_drew_l HB1.out
    have hv : Rws W0.heap.size w1 (.slice Av xss.length cv) xss.length vs (rx xss) := HV.out
    have hk := hv.keptBy (g := w.heap.size + 1) (only_setCell (u := .int .i64 ca) (p := ⟨w.heap.size + 1, 3, none⟩) (only_setCell (u := .int .i64 hi) (p := ⟨w.heap.size + 1, 2, none⟩) (only_setCell (u := .int .i64 lo) (p := ⟨w.heap.size + 1, 1, none⟩) (only_setCell (u := .slice Av xss.length cv) (p := ⟨w.heap.size + 1, 0, none⟩) (World.grownBy.refl w1 (some (w.heap.size + 1))) (.inl rfl)) (.inl rfl)) (.inl rfl)) (.inl rfl)) (by omega)
    obtain ⟨A', c', e', l1, l2, l3⟩ := hk.grd
    injection e' with e1 e2 e3
    subst e1 e3
    refine bodyPost_ret (v := .agg #[.slice Av xss.length cv, .int .i64 lo, .int .i64 hi, .int .i64 ca]) (by simp [results, Try.results36, go_sem, s0, s1, s2, s3]) rfl ⟨_, _, rfl, ⟨l1, l2⟩, ?_, ?_⟩
    · exact l3
    · exact (((((HB0.out.trans (hb1.mono HB0.out.size)).setCell (p := ⟨w.heap.size + 1, 0, none⟩) (by dsimp only; omega) _).setCell (p := ⟨w.heap.size + 1, 1, none⟩) (by dsimp only; omega) _).setCell (p := ⟨w.heap.size + 1, 2, none⟩) (by dsimp only; omega) _).setCell (p := ⟨w.heap.size + 1, 3, none⟩) (by dsimp only; omega) _)
end

section
open Go.RowKit
theorem Rws.congr {base : Nat} {w : World} {v : Value} {n : Nat} {vs : List Value} {rows rows' : Nat → List Int} (h : Rws base w v n vs rows) (e : ∀ j, j < n → rows' j = rows j) : Rws base w v n vs rows' :=
  ⟨h.1, fun j hj => by rw [e j hj]; exact h.2.1 j hj, h.2.2⟩
end

section
open Go.RowKit
theorem Grd.step {w w' : World} {A : Option Addr} {xss : List (List Int)} (h : Grd w.heap.size w A xss) (hb : Below w.heap.size w w') : Grd w'.heap.size w' A xss := (h.below hb).more hb.size
theorem Ints.step {w w' : World} {A : Option Addr} {xs : List Int} (h : Ints w.heap.size w A xs) (hb : Below w.heap.size w w') : Ints w'.heap.size w' A xs := (h.below hb).more hb.size
/-- A new pattern and no error. -/
def OkGrd (w : World) (yss : List (List Int)) (e : Ending) (w' : World) : Prop :=
  ∃ A c, e = .returned (.tuple #[.slice A yss.length c, .int .i64 0]) ∧ (yss.length ≤ c ∧ c ≤ 9223372036854775807) ∧ Grd w'.heap.size w' A yss ∧ Below w.heap.size w w'
/-- A new list of lists. -/
def IsNew (w : World) (yss : List (List Int)) (e : Ending) (w' : World) : Prop :=
  ∃ A c, e = .returned (.slice A yss.length c) ∧ (yss.length ≤ c ∧ c ≤ 9223372036854775807) ∧ Grd w'.heap.size w' A yss ∧ Below w.heap.size w w'
section
variable (A Ab Aw : Option Addr) (xss bss wss : List (List Int)) (c cb cw : Nat) (lo hi ca : Int) (w : World)
noncomputable def playX : List (List Int) := rowsOf (playO ca xss.length bss wss (oilOf xss) bss.length) (rx xss 0).length xss.length
theorem play_ok_c (hr : Grd w.heap.size w A xss) (hb : Grd w.heap.size w Ab bss) (hwr : Grd w.heap.size w Aw wss) (hc : xss.length ≤ c ∧ c ≤ 9223372036854775807) (hcb : bss.length ≤ cb ∧ cb ≤ 9223372036854775807) (hcw : wss.length ≤ cw ∧ cw ≤ 9223372036854775807) (h : playErr xss lo hi ca bss wss = 0) :
    Calls Try.prog 35 #[.agg #[.slice A xss.length c, .int .i64 lo, .int .i64 hi, .int .i64 ca], .slice Ab bss.length cb, .slice Aw wss.length cw] w (OkGrd w (playX xss bss wss ca)) := by
  refine (play_c A Ab Aw xss bss wss c cb cw lo hi ca w (Nat.le_refl _) hr hb hwr hc hcb hcw).mono ?_
  rintro e w' (⟨h1, _⟩ | ⟨_, v, rfl, ⟨A', c', rfl, a, b, d⟩, hb⟩)
  · exact absurd h h1
  · exact ⟨A', c', rfl, ⟨a, b⟩, d, hb⟩
theorem copied_new_c (hx : Grd w.heap.size w A xss) (hl : xss.length ≤ 1000000) (hr : ∀ k, k < xss.length → (rx xss k).length ≤ 1000000) : Calls Try.prog 37 #[.slice A xss.length c] w (IsNew w xss) := by
  refine (copied_c A xss c w (Nat.le_refl _) hx hl hr).mono ?_
  rintro e w' ⟨v, vs, rfl, h, hb⟩
  obtain ⟨A', c', rfl, a, b, d⟩ := h.grd
  exact ⟨A', c', rfl, ⟨a, b⟩, d, hb⟩
end
end

section
open Go.RowKit
/-- An own list of numbers, in a block from base on. -/
def OwnI (base : Nat) (w : World) (u : Value) (xs : List Int) : Prop := w.ownsRow base 3 1 u xs.length (xs.map (Value.int .i64))
theorem OwnI.nil (base : Nat) (w : World) : OwnI base w (.slice none 0 0) [] := World.ownsRow_nil _ _ _ _
theorem OwnI.form {base : Nat} {w : World} {u : Value} {xs : List Int} (h : OwnI base w u xs) : ∃ A c, u = .slice A xs.length c := ownsRow_form h
theorem OwnI.kept {base : Nat} {w w' : World} {u : Value} {xs : List Int} (h : OwnI base w u xs) (hb : Below w.heap.size w w') : OwnI base w' u xs := World.ownsRow.kept h (only_below hb none) (by cases u.ownBlock <;> simp)
theorem src_int (w : World) (y : Int) : Src (w.alloc (.cells #[.int .i64 y] 3)) 1 (some ⟨w.heap.size, 0, none⟩) 1 [.int .i64 y] := by
  refine ⟨rfl, (fun h => by cases h), fun ad hA j x hx => ?_⟩
  injection hA with hA
  subst hA
  cases j with
  | zero =>
    simp at hx
    subst hx
    rw [add_eq]
    simp
  | succ j => simp at hx
section
variable {ops : Array Oper} {rest : List Oper} {o : Oper} {a : Act} {Q : Exit → Act → World → Prop}
theorem wpList_app_row (s x : Operand) (hgd : o.guard = none) (ho : o.op = .call { callee := .builtin .append, args := #[s, x], argTypes := #[29, 29] }) (base : Nat) (w w1 : World) (v : Value) (k : Nat) (vs : List Value) (rows : Nat → List Int) (Au : Option Addr) (m cu : Nat)
    (hv : a.eval s = v) (hx : a.eval x = .slice (some ⟨w1.heap.size, 0, none⟩) 1 1) (hR : Hid (Rws base w v k vs rows)) (hm : (rows k).length = m) (hu : Hid (OwnI w.heap.size w1 (.slice Au m cu) (rows k))) (hW : Hid (Below w.heap.size w w1)) (hl : k ≤ 1000000) (hb : base ≤ w.heap.size)
    (h : ∀ A c vs' w', Hid (Rws base w' (.slice A (k + 1) c) (k + 1) vs' rows) → Hid (Below base w w') → wpList Try.prog ops Q rest (a.put o.dst (.slice A (k + 1) c)) w') :
    wpList Try.prog ops Q (o :: rest) a (w1.alloc (.cells #[.slice Au m cu] 42)) := by
  subst hm
  obtain ⟨i1, hi', hy0, hy1, hy2⟩ := info_parts infoInts
  have hO := hR.out.1
  have hO1 : (w1.alloc (.cells #[.slice Au (rows k).length cu] 42)).ownsRow base 42 1 v k vs := (hO.kept (only_below hW.out none) (own_ne v)).alloc _
  have hU : w1.ownsRow w.heap.size 3 1 (.slice Au (rows k).length cu) (rows k).length ((rows k).map (Value.int .i64)) := hu.out
  refine wpList_append_src hgd s x 29 ho base 42 i1 (.slice none 0 0) 1 24 Try.underlying29 hi' hy0 hy1 hy2 rfl (by decide) v k vs hv hO1 (some ⟨w1.heap.size, 0, none⟩) 1 1 [.slice Au (rows k).length cu] hx (src_one w1 _) (one_slices hU) (by unfold maxLen; omega) (by omega) (le_alloc hb hW.out) ?_
  intro v' w' h1 h2 h3
  obtain ⟨A, c, rfl⟩ := ownsRow_form h1
  have hb1 : Below w.heap.size w (w1.alloc (.cells #[.slice Au (rows k).length cu] 42)) := hW.out.alloc hW.out.size _
  exact h A c _ w' (hR.out.push hb1 hb (hU.alloc _) h2 h3 h1) ((hb1.mono hb).grown h2 (le_alloc hb hW.out) (fun j e => (hO.lt j e).1))
end
end

section
/-- The oil of the cell (r, b), which was x, behind the first k balls; bf and ow: the wear of ball i in the row before, and in this one. -/
def cellO (ca : Int) (bss : List (List Int)) (r b : Nat) (bf ow : Nat → Int) (x : Int) : Nat → Int
  | 0 => x
  | k + 1 => if ix (rx bss k) r = (b : Int) then wornF ca (cellO ca bss r b bf ow x k) (bf k) (ow k) else cellO ca bss r b bf ow x k
theorem roll_cell (ca : Int) (xs : List Int) (bf ow : Nat → Int) (o : Nat → Int) (n r b : Nat) (hr : r < n) (hb : b < 12) (hx : ∀ k, k < n → 0 ≤ ix xs k ∧ ix xs k < 12) :
    rollW ca xs bf ow o (List.range n) (r * 12 + b) = if ix xs r = (b : Int) then wornF ca (o (r * 12 + b)) (if 0 < r then bf r else 0) (ow r) else o (r * 12 + b) := by
  have low : ∀ m, m ≤ r → rollW ca xs bf ow o (List.range m) (r * 12 + b) = o (r * 12 + b) := by
    intro m hm
    induction m with
    | zero => rfl
    | succ m ih =>
      rw [List.range_succ, rollW_snoc]
      have := hx m (by omega)
      simp only [stepW, upd]
      rw [if_neg (by omega)]
      exact ih (by omega)
  have high : ∀ m, r < m → m ≤ n → rollW ca xs bf ow o (List.range m) (r * 12 + b) = rollW ca xs bf ow o (List.range (r + 1)) (r * 12 + b) := by
    intro m hm hn
    induction m with
    | zero => omega
    | succ m ih =>
      by_cases e : m = r
      · subst e; rfl
      · rw [List.range_succ, rollW_snoc]
        have := hx m (by omega)
        simp only [stepW, upd]
        rw [if_neg (by omega)]
        exact ih (by omega) (by omega)
  rw [high n hr (Nat.le_refl _), List.range_succ, rollW_snoc]
  have h0 := hx r hr
  simp only [stepW, upd]
  by_cases e : ix xs r = (b : Int)
  · rw [if_pos e, if_pos (by omega), e, Int.toNat_natCast, low r (Nat.le_refl _)]
  · rw [if_neg e, if_neg (by omega)]
    exact low r (Nat.le_refl _)
theorem playO_cell (ca : Int) (bss wss : List (List Int)) (o : Nat → Int) (n r b : Nat) (hr : r < n) (hb : b < 12) : ∀ k, (∀ i, i < k → ∀ j, j < n → 0 ≤ ix (rx bss i) j ∧ ix (rx bss i) j < 12) →
    playO ca n bss wss o k (r * 12 + b) = cellO ca bss r b (fun i => if 0 < r then ix (rx wss i) (r - 1) else 0) (fun i => ix (rx wss i) r) (o (r * 12 + b)) k
  | 0, _ => rfl
  | k + 1, hx => by
    rw [playO_succ, roll_cell _ _ _ _ _ _ _ _ hr hb (hx k (by omega)), playO_cell ca bss wss o n r b hr hb k (fun i hi => hx i (by omega))]
    rfl
theorem endO_cell (ca : Int) (bss : List (List Int)) (bf ow : Int) (o : Nat → Int) (n r b : Nat) (hr : r < n) (hb : b < 12) : ∀ k, (∀ i, i < k → ∀ j, j < n → 0 ≤ ix (rx bss i) j ∧ ix (rx bss i) j < 12) →
    endO ca n bss bf ow o k (r * 12 + b) = cellO ca bss r b (fun _ => if 0 < r then bf else 0) (fun _ => ow) (o (r * 12 + b)) k
  | 0, _ => rfl
  | k + 1, hx => by
    rw [endO_succ, roll_cell _ _ _ _ _ _ _ _ hr hb (hx k (by omega)), endO_cell ca bss bf ow o n r b hr hb k (fun i hi => hx i (by omega))]
    rfl
end

section
open Go.RowKit
theorem take_map_range (n m : Nat) (f : Nat → Int) (h : m < n) : ((List.range n).map f).take (m + 1) = ((List.range n).map f).take m ++ [f m] := by
  rw [List.take_succ_eq_append_getElem (by simpa using h)]
  simp
theorem len_take_map_range (n m : Nat) (f : Nat → Int) (h : m ≤ n) : (((List.range n).map f).take m).length = m := by simp; omega
end

section
open Go.RowKit
/-- Two new patterns and no error. -/
def OkGrd2 (w : World) (yss zss : List (List Int)) (e : Ending) (w' : World) : Prop :=
  ∃ A c A' c', e = .returned (.tuple #[.slice A yss.length c, .slice A' zss.length c', .int .i64 0]) ∧ (yss.length ≤ c ∧ c ≤ 9223372036854775807) ∧ (zss.length ≤ c' ∧ c' ≤ 9223372036854775807) ∧ Grd w'.heap.size w' A yss ∧ Grd w'.heap.size w' A' zss ∧ Below w.heap.size w w'
/-- The bounds. -/
noncomputable def lowX (xss bss : List (List Int)) (lo hi ca : Int) : List (List Int) := rowsOf (endO ca xss.length bss lo hi (oilOf xss) bss.length) (rx xss 0).length xss.length
noncomputable def highX (xss bss : List (List Int)) (lo hi ca : Int) : List (List Int) := rowsOf (endO ca xss.length bss hi lo (oilOf xss) bss.length) (rx xss 0).length xss.length
theorem bounds_ok_c (A Ab : Option Addr) (xss bss : List (List Int)) (c cb : Nat) (lo hi ca : Int) (w : World) (hr : Grd w.heap.size w A xss) (hb : Grd w.heap.size w Ab bss) (hc : xss.length ≤ c ∧ c ≤ 9223372036854775807) (hcb : bss.length ≤ cb ∧ cb ≤ 9223372036854775807) (h : ballsErr xss lo hi ca bss = 0) :
    Calls Try.prog 39 #[.agg #[.slice A xss.length c, .int .i64 lo, .int .i64 hi, .int .i64 ca], .slice Ab bss.length cb] w (OkGrd2 w (lowX xss bss lo hi ca) (highX xss bss lo hi ca)) := by
  refine (bounds_c A Ab xss bss c cb lo hi ca w (Nat.le_refl _) hr hb hc hcb).mono ?_
  rintro e w' (⟨h1, _⟩ | ⟨_, v, u, rfl, ⟨A1, c1, rfl, a1, a2, a3⟩, ⟨A2, c2, rfl, b1, b2, b3⟩, hb⟩)
  · exact absurd h h1
  · exact ⟨A1, c1, A2, c2, rfl, ⟨a1, a2⟩, ⟨b1, b2⟩, a3, b3, hb⟩
end

section
open Go.RowKit
/-- A list of words. -/
def Wds (B : Nat) (w : World) (A : Option Addr) (ws : List Int) : Prop :=
  0 < ws.length → ∃ b off, A = some ⟨b, off, none⟩ ∧ b < B ∧ ∀ k, k < ws.length → w.cell? ⟨b, off + k, none⟩ = some (.int .u16 (ix ws k)) ∧ 0 ≤ ix ws k ∧ ix ws k ≤ 65535
theorem Wds.step {w w' : World} {A : Option Addr} {xs : List Int} (h : Wds w.heap.size w A xs) (hb : Below w.heap.size w w') : Wds w'.heap.size w' A xs := fun hp => by
  obtain ⟨b, off, hA, hlt, hc⟩ := h hp
  exact ⟨b, off, hA, Nat.lt_of_lt_of_le hlt hb.size, fun k hk => ⟨(hb.cell (p := ⟨b, off + k, none⟩) hlt).trans (hc k hk).1, (hc k hk).2⟩⟩
theorem cell_under {B : Nat} {w w' : World} (hb : Below B w w') {p : Addr} {v : Value} (h : w.cell? p = some v) (hp : p.block < B) : w'.cell? p = some v := (hb.cell hp).trans h
/-- As wpList_app_int, at a step of a region that draws its order. -/
theorem step_app_int {ops : Array Oper} {o : Oper} {a : Act} {K : Act → World → Prop} {Q : Exit → Act → World → Prop} {E : Prop} (s x : Operand) (hgd : o.guard = none) (ho : o.op = .call { callee := .builtin .append, args := #[s, x], argTypes := #[42, 42] }) (base : Nat) (w : World) (u : Value) (xs : List Int) (y : Int)
    (m : Nat) (hm : xs.length = m) (hv : a.eval s = u) (hx : a.eval x = .slice (some ⟨w.heap.size, 0, none⟩) 1 1) (hown : Hid (OwnI base w u xs)) (hl : xs.length ≤ 1000000) (hb : base ≤ w.heap.size)
    (h : ∀ A c w', Hid (OwnI base w' (.slice A (m + 1) c) (xs ++ [y])) → Hid (Below base w w') → K (a.put o.dst (.slice A (m + 1) c)) w') :
    if Region.wanted o (yielded ops a.tmps) = true then Oper.wp Try.prog o a (w.alloc (.cells #[.int .i64 y] 3)).drew K Q else E := by
  subst hm
  rw [if_pos (by simp [Region.wanted, hgd])]
  obtain ⟨i0, hi, hz0, hz1, hz2⟩ := info_parts infoInt
  have hO : w.ownsRow base 3 1 u xs.length (xs.map (Value.int .i64)) := hown
  obtain ⟨v', w', hr, h1, h2, _⟩ := run_append_src (P := Try.prog) (w := (w.alloc (.cells #[.int .i64 y] 3)).drew) base 42 o.type 3 i0 (.int .i64 0) 1 8 Try.underlying42 hi hz0 hz1 hz2 rfl (by decide) u xs.length (xs.map (Value.int .i64)) (hO.alloc _).drew (some ⟨w.heap.size, 0, none⟩) 1 1 [.int .i64 y] (src_int w y) (one_ints [y]) (by unfold maxLen; omega) (by omega) (by simp; omega)
  unfold Oper.wp execOp
  simp only [ho, resolve, invoke, builtin, Sem.run_bind, Sem.run_pure, Result.andThen_ok, List.map_toArray, List.map_cons, List.map_nil, hv, hx, hr]
  obtain ⟨A, c, rfl⟩ := ownsRow_form h1
  refine h A c w' ?_ ?_
  · show OwnI _ _ _ _
    unfold OwnI
    simpa using h1
  · exact ((Below.refl base w).alloc hb _).drew.grown h2 (by simp; omega) (fun k e => (hO.lt k e).1)
/-- One of some words. -/
def wordF (ws : List Int) (k : Nat) : Int := if ws.length = 0 then 0 else ix ws (k % ws.length)
theorem wordF_bd {B : Nat} {w : World} {A : Option Addr} {ws : List Int} (h : Wds B w A ws) (k : Nat) : 0 ≤ wordF ws k ∧ wordF ws k ≤ 65535 := by
  unfold wordF
  split
  · omega
  · obtain ⟨b, off, _, _, hc⟩ := h (by omega)
    exact (hc _ (Nat.mod_lt _ (by omega))).2
set_option maxHeartbeats 400000 in
theorem word_c {B : Nat} (A : Option Addr) (ws : List Int) (c k : Nat) (w : World) (h : Wds B w A ws) (hk : k ≤ 1000000) (_hc : ws.length ≤ c ∧ c ≤ 9223372036854775807) :
    Calls Try.prog 90 #[.slice A ws.length c, .int .i64 (k : Int)] w (fun e w' => e = .returned (.int .i64 (wordF ws k)) ∧ w' = w) := by
  by_cases h0 : ws.length = 0
  · have h0' : ((ws.length : Int) == 0) = true := by simp [h0]
    have HR : Hid (wordF ws k = 0) := by show _ = _; simp [wordF, h0]
    clear h0
    go_enter Try.func90, Try.ntmps90
    go_wp2
    go_ret
    exact ⟨ret_int HR.out.symm, rfl⟩
  · have h0' : ((ws.length : Int) == 0) = false := by rw [beq_eq_false_iff_ne]; omega
    obtain ⟨b, off, rfl, _, hcl⟩ := h (by omega)
    have hlt := Nat.mod_lt k (show 0 < ws.length by omega)
    obtain ⟨h1, h2, h3⟩ := hcl _ hlt
    have HR : Hid (wordF ws k = ix ws (k % ws.length)) := by show _ = _; simp [wordF, h0]
    clear hcl
    have e : ((k : Int) % (ws.length : Int)) = ((k % ws.length : Nat) : Int) := by simp
    have hp : 0 < ws.length := by omega
    clear h0
    generalize hj : k % ws.length = j at *
    have HJ := Lib.hid hj
    clear hj
    go_enter Try.func90, Try.ntmps90
    go_wp2
    go_ret
    exact ⟨ret_int HR.out.symm, rfl⟩
/-- A wear of each ball, by words. -/
def pickedR (n : Nat) (lo hi : Int) (ws : List Int) (i : Nat) : List Int := (List.range n).map fun r => lo + wordF ws (7 * i + r) % (hi - lo + 1)
def pickedX (n m : Nat) (lo hi : Int) (ws : List Int) : List (List Int) := (List.range m).map fun i => pickedR n lo hi ws i
theorem rx_pickedX {n m : Nat} {lo hi : Int} {ws : List Int} {i : Nat} (h : i < m) : rx (pickedX n m lo hi ws) i = pickedR n lo hi ws i := by
  rw [rx_lt (by simpa [pickedX] using h)]
  simp [pickedX]
theorem pickedX_len (n m : Nat) (lo hi : Int) (ws : List Int) : (pickedX n m lo hi ws).length = m := by simp [pickedX]
theorem picked_wears {n : Nat} {lo hi : Int} (ws : List Int) (bss : List (List Int)) (h : lo ≤ hi) : wearsB n lo hi bss (pickedX n bss.length lo hi ws) = true := by
  simp only [wearsB, Bool.and_eq_true, decide_eq_true_eq, allB_iff]
  refine ⟨pickedX_len _ _ _ _ _, fun k hk => ?_⟩
  rw [pickedX_len] at hk
  have hn : (rx (pickedX n bss.length lo hi ws) k).length = n := by rw [rx_pickedX hk]; simp [pickedR]
  simp only [wearB, Bool.and_eq_true, decide_eq_true_eq, allB_iff]
  refine ⟨hn, fun j hj => ?_⟩
  rw [hn] at hj
  show inB (ix (rx (pickedX n bss.length lo hi ws) k) j) lo hi = true
  rw [rx_pickedX hk, ix_lt (by simpa [pickedR] using hj), inB_eq]
  simp only [pickedR, List.getElem_map, List.getElem_range]
  have a := Int.emod_nonneg (wordF ws (7 * k + j)) (b := hi - lo + 1) (by omega)
  have b := Int.emod_lt_of_pos (wordF ws (7 * k + j)) (b := hi - lo + 1) (by omega)
  omega
set_option maxRecDepth 100000 in
set_option maxHeartbeats 4000000 in
theorem picked_c (A Ab Aw : Option Addr) (n m c cb cw : Nat) (ws : List Int) (lo hi ca : Int) (w : World) (hws : Wds w.heap.size w Aw ws) (hcw : ws.length ≤ cw ∧ cw ≤ 9223372036854775807) (hn : n ≤ 1000) (hm : m ≤ 1000) (hlo : 0 ≤ lo) (hlh : lo ≤ hi) (hhi : hi ≤ 9) :
    Calls Try.prog 38 #[.agg #[.slice A n c, .int .i64 lo, .int .i64 hi, .int .i64 ca], .slice Ab m cb, .slice Aw ws.length cw] w (IsNew w (pickedX n m lo hi ws)) := by
  have hb0 : Below w.heap.size w (w.alloc (.cells #[.slice A n c, .int .i64 lo, .int .i64 hi, .int .i64 ca] 96)) := (Below.refl _ _).alloc (Nat.le_refl _) _
  have k0 : (w.alloc (.cells #[.slice A n c, .int .i64 lo, .int .i64 hi, .int .i64 ca] 96)).cell? ⟨w.heap.size, 0, none⟩ = some (.slice A n c) := by simp
  have k1 : (w.alloc (.cells #[.slice A n c, .int .i64 lo, .int .i64 hi, .int .i64 ca] 96)).cell? ⟨w.heap.size, 1, none⟩ = some (.int .i64 lo) := by simp
  have k2 : (w.alloc (.cells #[.slice A n c, .int .i64 lo, .int .i64 hi, .int .i64 ca] 96)).cell? ⟨w.heap.size, 2, none⟩ = some (.int .i64 hi) := by simp
  have HWs := Lib.hid (hws.step hb0)
  have HB := Lib.hid hb0
  clear hb0 hws
  go_enter Try.func38, Try.ntmps38
  go_wp2_with fail
  generalize (w.alloc (.cells #[.slice A n c, .int .i64 lo, .int .i64 hi, .int .i64 ca] 96)) = W0 at k0 k1 k2 HB HWs ⊢
  go_loopw [8, 7] (fun i v wr => ∃ (k : Nat) (vs : List Value), k ≤ m ∧ i = .int .i64 k ∧ Rws W0.heap.size wr v k vs (pickedR n lo hi ws) ∧ Below W0.heap.size W0 wr) (fun i _ _ => m - (intOf i).toNat)
  case atStart => exact ⟨0, [], by omega, rfl, Rws.nil _ _ _, Below.refl _ _⟩
  case round =>
    obtain ⟨k, vs, hk, rfl, hO, hb⟩ := hrel
    by_cases h1 : k < m
    · have q0 := cell_of_ans hb k0
      have q1 := cell_of_ans hb k1
      have q2 := cell_of_ans hb k2
      have HWk := Lib.hid (HWs.out.step hb)
      have HO := Lib.hid hO
      have HBk := Lib.hid hb
      have hzk := hb.size
      clear hO hb k0 k1 k2
      obtain ⟨wo, rfl⟩ : ∃ wo : World, wo = wr := ⟨_, rfl⟩
      go_wp2_with fail
      go_loopw [10, 9] (fun j u wr' => ∃ t : Nat, t ≤ n ∧ j = .int .i64 t ∧ OwnI wo.heap.size wr' u ((pickedR n lo hi ws k).take t) ∧ Below wo.heap.size wo wr') (fun j _ _ => n - (intOf j).toNat)
      case atStart => exact ⟨0, by omega, rfl, OwnI.nil _ _, Below.refl _ _⟩
      case round =>
        obtain ⟨t, ht, rfl, hu, hb⟩ := hrel
        have p0 := cell_of_ans hb q0
        have p1 := cell_of_ans hb q1
        have p2 := cell_of_ans hb q2
        have HU := Lib.hid hu
        have HBt := Lib.hid hb
        have hzt := hb.size
        have HWt := Lib.hid (HWk.out.step hb)
        clear hu hb
        by_cases h2 : t < n
        · have HL : Hid (((pickedR n lo hi ws k).take t).length = t) := len_take_map_range n t _ (by omega)
          obtain ⟨hw0, hw1⟩ := wordF_bd HWt.out (7 * k + t)
          have H72 := Lib.hid (word_c Aw ws cw (7 * k + t) wr.drew (HWt.out.step (Below.refl _ _).drew) (by omega) hcw)
          have hk7 : (7 * (k : Int) + (t : Int)) = ((7 * k + t : Nat) : Int) := by omega
          generalize hwf : wordF ws (7 * k + t) = wf at *
          have HWF := Lib.hid hwf
          clear hwf
          have e1 : (0 : Int) < hi - lo + 1 := by omega
          have m0 := Int.emod_nonneg wf (b := hi - lo + 1) (by omega)
          have m1 := Int.emod_lt_of_pos wf (b := hi - lo + 1) (by omega)
          generalize hk7t : 7 * k + t = j7 at *
          have HK7 := Lib.hid hk7t
          clear hk7t
          have hbx : w.heap.size < wo.heap.size := World.block_lt_of_cell? wo _ q0
          have z1 : IntKind.i64.wrap (7 * (k : Int)) = 7 * k := IntWalk.i64_in _ (by omega)
          have z2 : IntKind.i64.wrap (7 * (k : Int) + (t : Int)) = (j7 : Int) := by rw [hk7]; exact IntWalk.i64_in _ (by omega)
          have z3 : IntKind.i64.wrap (hi - lo) = hi - lo := IntWalk.i64_in _ (by omega)
          have z4 : IntKind.i64.wrap (hi - lo + 1) = hi - lo + 1 := IntWalk.i64_in _ (by omega)
          have z5 : wf.tmod (hi - lo + 1) = wf % (hi - lo + 1) := Int.tmod_eq_emod_of_nonneg hw0
          have z6 : IntKind.i64.wrap (wf % (hi - lo + 1)) = wf % (hi - lo + 1) := IntWalk.i64_in _ (by omega)
          have z7 : IntKind.i64.wrap (lo + wf % (hi - lo + 1)) = lo + wf % (hi - lo + 1) := IntWalk.i64_in _ (by omega)
          have z8 : ¬ (hi - lo + 1 = 0) := by omega
          have z9 : (hi - lo + 1 == 0) = false := by rw [beq_eq_false_iff_ne]; omega
          clear hk7 e1 m0 m1
          go_wp2_with fail
          go_region_held3 (fun w' => w'.cell? ⟨w.heap.size, 0, none⟩ = some (.slice A n c) ∧ w'.cell? ⟨w.heap.size, 1, none⟩ = some (.int .i64 lo) ∧ w'.cell? ⟨w.heap.size, 2, none⟩ = some (.int .i64 hi)) (go_keep) (first | (go_at_call 90; refine H72.out.mono ?_; rintro e w2 ⟨rfl, rfl⟩) | (refine step_app_int (.tmp 24) (.tmp 44) rfl rfl wo.heap.size wr _ ((pickedR n lo hi ws k).take t) _ t HL.out rfl rfl HU (by rw [HL.out]; omega) hzt ?_; intro A' c' w2 HU2 HB2; have r0 := cell_under HB2.out p0 hbx; have r1 := cell_under HB2.out p1 hbx; have r2 := cell_under HB2.out p2 hbx))
          clear z1 z2 z3 z4 z5 z6 z7 z8 z9
          go_wp2_with fail
          go_roundw
          case rel =>
            refine ⟨t + 1, by omega, by go_num, ?_, HBt.out.trans HB2.out⟩
            have := HU2.out
            rw [← HWF.out, ← HK7.out] at this
            have e := take_map_range n t (fun r => lo + wordF ws (7 * k + r) % (hi - lo + 1)) h2
            unfold pickedR at this ⊢
            rw [e]
            exact this
          case measure => simp [intOf]; omega
        · obtain rfl : t = n := by omega
          have e : (pickedR t lo hi ws k).take t = pickedR t lo hi ws k := List.take_of_length_le (by simp [pickedR])
          have HU' : Hid (OwnI wo.heap.size wr u9 (pickedR t lo hi ws k)) := by have := HU.out; rw [e] at this; exact this
          have HL : Hid ((pickedR t lo hi ws k).length = t) := by show _ = _; simp [pickedR]
          clear e HU
          obtain ⟨Au, cu, hu⟩ := HU'.out.form
          rw [HL.out] at hu
          subst hu
          go_wp2_with (at_builtin; refine wpList_app_row (.tmp 46) (.tmp 48) rfl rfl W0.heap.size wo wr u7 k vs (pickedR t lo hi ws) Au t cu rfl rfl HO HL.out HU' HBt (by omega) hzk ?_; intro A' c' vs' w2 HO2 HB2)
          go_roundw
          case rel => exact ⟨k + 1, vs', by omega, by go_num, HO2.out, HBk.out.trans HB2.out⟩
          case measure => simp [intOf]; omega
    · obtain rfl : k = m := by omega
      go_wp2_with fail
      go_ret
      have hG : Rws W0.heap.size wr u7 (pickedX n k lo hi ws).length vs (rx (pickedX n k lo hi ws)) := by
        rw [pickedX_len]
        exact hO.congr fun j hj => rx_pickedX hj
      obtain ⟨A', c', rfl, a1, a2, a3⟩ := hG.grd
      exact ⟨A', c', rfl, ⟨a1, a2⟩, a3, HB.out.trans (hb.mono HB.out.size)⟩
end

section
theorem wearsOk {n : Nat} {lo hi : Int} {bss wss : List (List Int)} (h : wearsB n lo hi bss wss = true) : wss.length = bss.length ∧ ∀ k, k < bss.length → (rx wss k).length = n ∧ ∀ j, j < n → lo ≤ ix (rx wss k) j ∧ ix (rx wss k) j ≤ hi := by
  simp only [wearsB, Bool.and_eq_true, decide_eq_true_eq, allB_iff] at h
  refine ⟨h.1, fun k hk => ?_⟩
  have c1 := h.2 k (by omega)
  simp only [wearB, Bool.and_eq_true, decide_eq_true_eq, allB_iff] at c1
  exact ⟨c1.1, fun j hj => inB_le (c1.2 j (by omega))⟩
theorem oilOf_at (xss : List (List Int)) {r b : Nat} (hb : b < 12) : oilOf xss (r * 12 + b) = ix (rx xss r) b := by
  simp only [oilOf]
  rw [show (r * 12 + b) / 12 = r by omega, show (r * 12 + b) % 12 = b by omega]
/-- The numbers of a played pattern. -/
theorem playX_at {xss bss wss : List (List Int)} {lo hi ca : Int} (h : ballsErr xss lo hi ca bss = 0) {r b : Nat} (hr : r < xss.length) (hb : b < (rx xss 0).length) :
    ix (rx (playX xss bss wss ca) r) b = cellO ca bss r b (fun i => if 0 < r then ix (rx wss i) (r - 1) else 0) (fun i => ix (rx wss i) r) (ix (rx xss r) b) bss.length := by
  obtain ⟨hle, _, hbx⟩ := ballsOk h
  obtain ⟨hx0, hx8, hxr, _⟩ := laneOk hle
  have h12 := (hxr 0 hx0).2.2
  rw [playX, rx_rowsOf _ hr, ix_rowOf _ hb, playO_cell _ _ _ _ _ _ _ hr (by omega) _ (fun i hi j hj => by have := (hbx i hi).2 j hj; omega), oilOf_at _ (by omega)]
end

section
open Go.RowKit
theorem small_lane {xss : List (List Int)} {lo hi ca : Int} (h : laneErr xss lo hi ca = 0) : xss.length ≤ 1000000 ∧ ∀ k, k < xss.length → (rx xss k).length ≤ 1000000 := by
  obtain ⟨_, h8, hr, _⟩ := laneOk h
  exact ⟨by omega, fun k hk => by have := (hr k hk).2.2; omega⟩
theorem small_balls {xss bss : List (List Int)} {lo hi ca : Int} (h : ballsErr xss lo hi ca bss = 0) : bss.length ≤ 1000000 ∧ ∀ k, k < bss.length → (rx bss k).length ≤ 1000000 := by
  obtain ⟨hle, h20, hb⟩ := ballsOk h
  obtain ⟨_, h8, _⟩ := laneOk hle
  exact ⟨by omega, fun k hk => by have := (hb k hk).1; omega⟩
end

section
open Go.RowKit
theorem lowX_at {xss bss : List (List Int)} {lo hi ca : Int} (h : ballsErr xss lo hi ca bss = 0) {r b : Nat} (hr : r < xss.length) (hb : b < (rx xss 0).length) :
    ix (rx (lowX xss bss lo hi ca) r) b = cellO ca bss r b (fun _ => if 0 < r then lo else 0) (fun _ => hi) (ix (rx xss r) b) bss.length := by
  obtain ⟨hle, _, hbx⟩ := ballsOk h
  obtain ⟨hx0, hx8, hxr, _⟩ := laneOk hle
  have h12 := (hxr 0 hx0).2.2
  rw [lowX, rx_rowsOf _ hr, ix_rowOf _ hb, endO_cell _ _ _ _ _ _ _ _ hr (by omega) _ (fun i hi j hj => by have := (hbx i hi).2 j hj; omega), oilOf_at _ (by omega)]
theorem highX_at {xss bss : List (List Int)} {lo hi ca : Int} (h : ballsErr xss lo hi ca bss = 0) {r b : Nat} (hr : r < xss.length) (hb : b < (rx xss 0).length) :
    ix (rx (highX xss bss lo hi ca) r) b = cellO ca bss r b (fun _ => if 0 < r then hi else 0) (fun _ => lo) (ix (rx xss r) b) bss.length := by
  obtain ⟨hle, _, hbx⟩ := ballsOk h
  obtain ⟨hx0, hx8, hxr, _⟩ := laneOk hle
  have h12 := (hxr 0 hx0).2.2
  rw [highX, rx_rowsOf _ hr, ix_rowOf _ hb, endO_cell _ _ _ _ _ _ _ _ hr (by omega) _ (fun i hi j hj => by have := (hbx i hi).2 j hj; omega), oilOf_at _ (by omega)]
section
variable {xss bss : List (List Int)} {lo hi : Int}
theorem fresh_bd {ca : Int} (h : ballsErr xss lo hi ca bss = 0) {r b : Nat} (hr : r < xss.length) (hb : b < (rx xss 0).length) : 0 ≤ ix (rx xss r) b ∧ ix (rx xss r) b ≤ 100 := by
  obtain ⟨hle, _, _⟩ := ballsOk h
  obtain ⟨_, _, hxr, hv, _⟩ := laneOk hle
  exact hv r hr b (by rw [(hxr r hr).2.1]; exact hb)
end
end

section
open Go.RowKit
theorem OwnI.keptBy {base g : Nat} {w w' : World} {u : Value} {xs : List Int} (h : OwnI base w u xs) (hg : w.grownBy w' (some g)) (hb : g < base) : OwnI base w' u xs := World.ownsRow.kept h hg (.inr fun e => by
  have := (World.ownsRow.lt h g e).1
  omega)
end

section
open Go.RowKit
theorem wornF_mono {ca x x' b b' o o' : Int} (hc : 0 ≤ ca) (hx : x ≤ x') (hb : b ≤ b') (ho : o' ≤ o) : wornF ca x b o ≤ wornF ca x' b' o' := by
  have h1 : ca * b ≤ ca * b' := Int.mul_le_mul_of_nonneg_left hb hc
  simp only [wornF]
  omega
theorem cellO_mono {ca : Int} (hc : 0 ≤ ca) (bss : List (List Int)) (r b : Nat) {bf ow bf' ow' : Nat → Int} {x x' : Int} (hx : x ≤ x') : ∀ k, (∀ i, i < k → bf i ≤ bf' i ∧ ow' i ≤ ow i) → cellO ca bss r b bf ow x k ≤ cellO ca bss r b bf' ow' x' k
  | 0, _ => hx
  | k + 1, h => by
    have ih := cellO_mono hc bss r b hx k (fun i hi => h i (by omega))
    simp only [cellO]
    split
    · exact wornF_mono hc ih (h k (by omega)).1 (h k (by omega)).2
    · exact ih
theorem cellO_bd (ca : Int) (bss : List (List Int)) (r b : Nat) {bf ow : Nat → Int} {x : Int} (h0 : 0 ≤ x) (h1 : x ≤ 100) : ∀ k, (∀ i, i < k → 0 ≤ ow i) → 0 ≤ cellO ca bss r b bf ow x k ∧ cellO ca bss r b bf ow x k ≤ 100
  | 0, _ => ⟨h0, h1⟩
  | k + 1, h => by
    have ih := cellO_bd ca bss r b h0 h1 k (bf := bf) (fun i hi => h i (by omega))
    simp only [cellO]
    split
    · exact wornF_lvl _ _ _ _ (h k (by omega))
    · exact ih
theorem truth_cell {xss bss wss : List (List Int)} {lo hi ca : Int} (h : ballsErr xss lo hi ca bss = 0) (hw : wearsB xss.length lo hi bss wss = true) {r b : Nat} (hr : r < xss.length) (hb : b < (rx xss 0).length) :
    ix (rx (lowX xss bss lo hi ca) r) b ≤ ix (rx (playX xss bss wss ca) r) b ∧ ix (rx (playX xss bss wss ca) r) b ≤ ix (rx (highX xss bss lo hi ca) r) b ∧ 0 ≤ ix (rx (lowX xss bss lo hi ca) r) b ∧ ix (rx (highX xss bss lo hi ca) r) b ≤ 100 := by
  obtain ⟨_, _, _, _, hlo, hlh, hhi, hca, _⟩ := laneOk (ballsOk h).1
  have hf := fresh_bd h hr hb
  have hwx := (wearsOk hw).2
  rw [lowX_at h hr hb, highX_at h hr hb, playX_at h hr hb]
  refine ⟨cellO_mono hca _ _ _ (Int.le_refl _) _ fun i hi => ?_, cellO_mono hca _ _ _ (Int.le_refl _) _ fun i hi => ?_, (cellO_bd _ _ _ _ hf.1 hf.2 _ fun i hi => by omega).1, (cellO_bd _ _ _ _ hf.1 hf.2 _ fun i hi => hlo).2⟩
  · refine ⟨?_, ((hwx i hi).2 r hr).2⟩
    split
    · exact ((hwx i hi).2 (r - 1) (by omega)).1
    · exact Int.le_refl _
  · refine ⟨?_, ((hwx i hi).2 r hr).1⟩
    split
    · exact ((hwx i hi).2 (r - 1) (by omega)).2
    · exact Int.le_refl _
end

end Go.Proofs.Ytenpiinkbfancaa.Ol
