/-
  The pattern behind balls, in a truth.
-/
import Derived.Test.YtgnonfomlgkpcaaJ
namespace Go.Proofs.Ytgnonfomlgkpcaa
open Go.RowKit

attribute [local go_sem] Oper.semAt_some

noncomputable def wearsB (n : Nat) (lo hi : Int) (bss wss : List (List Int)) : Bool := decide (wss.length = bss.length) && allB wss.length (fun k => wearB n lo hi (rx wss k))
noncomputable def playErr (xss : List (List Int)) (lo hi ca : Int) (bss wss : List (List Int)) : Int :=
  if ballsErr xss lo hi ca bss = 0 then (if wearsB xss.length lo hi bss wss then 0 else 2) else ballsErr xss lo hi ca bss

/-- The oil behind the first k balls. -/
def playO (ca : Int) (n : Nat) (bss wss : List (List Int)) (o : Nat → Int) (k : Nat) : Nat → Int :=
  (List.range k).foldl (fun o i => rollW ca (rx bss i) (fun r => ix (rx wss i) (r - 1)) (fun r => ix (rx wss i) r) o (List.range n)) o

theorem Elems.mono_ {B B' : Nat} {w : World} {A : Option Addr} {n : Nat} {vs : Nat → Value} (h : Elems B w A n vs) (hB : B ≤ B') : Elems B' w A n vs := fun hp => by
  obtain ⟨b, off, hA, hlt, hc⟩ := h hp
  exact ⟨b, off, hA, by omega, hc⟩

theorem inB_le {n lo hi : Int} (h : inB n lo hi = true) : lo ≤ n ∧ n ≤ hi := (inB_eq n lo hi).1 h

/-- What a lane without an error is. -/
theorem laneOk {xss : List (List Int)} {lo hi ca : Int} (h : laneErr xss lo hi ca = 0) :
    0 < xss.length ∧ xss.length ≤ 8 ∧ (∀ k, k < xss.length → 0 < (rx xss k).length ∧ (rx xss k).length = (rx xss 0).length ∧ (rx xss k).length ≤ 12) ∧ (∀ k, k < xss.length → ∀ j, j < (rx xss k).length → 0 ≤ ix (rx xss k) j ∧ ix (rx xss k) j ≤ 100) ∧
    0 ≤ lo ∧ lo ≤ hi ∧ hi ≤ 9 ∧ 0 ≤ ca ∧ ca ≤ 100 := by
  unfold laneErr at h
  split at h <;> rename_i h1
  · split at h <;> rename_i h2
    · simp only [argB, Bool.and_eq_true, decide_eq_true_eq, allB_iff] at h2
      simp only [limB, Bool.and_eq_true, decide_eq_true_eq, allB_iff] at h1
      obtain ⟨⟨⟨⟨a1, a2⟩, a3⟩, a4⟩, a5⟩ := h2
      have b3 := inB_le a3
      have b5 := inB_le a5
      refine ⟨a1, h1.1, fun k hk => ?_, fun k hk j hj => ?_, b3.1, b3.2, a4, b5.1, b5.2⟩
      · have c1 := a2 k hk
        have c2 := h1.2 k hk
        simp only [rowB, Bool.and_eq_true, decide_eq_true_eq, allB_iff] at c1 c2
        exact ⟨c1.1.1, c1.1.2, c2⟩
      · have c1 := a2 k hk
        simp only [rowB, Bool.and_eq_true, decide_eq_true_eq, allB_iff] at c1
        exact inB_le (c1.2 j hj)
    · cases h
  · cases h

theorem ballsOk {xss bss : List (List Int)} {lo hi ca : Int} (h : ballsErr xss lo hi ca bss = 0) :
    laneErr xss lo hi ca = 0 ∧ bss.length ≤ 20 ∧ ∀ k, k < bss.length → (rx bss k).length = xss.length ∧ ∀ j, j < xss.length → 0 ≤ ix (rx bss k) j ∧ ix (rx bss k) j < (rx xss 0).length := by
  unfold ballsErr at h
  split at h <;> rename_i h1
  · split at h <;> rename_i h2
    · split at h <;> rename_i h3
      · rw [allB_iff] at h3
        refine ⟨h1, h2, fun k hk => ?_⟩
        have c := h3 k hk
        simp only [ballB, Bool.and_eq_true, decide_eq_true_eq, allB_iff] at c
        refine ⟨c.1, fun j hj => ?_⟩
        have := inB_le (c.2 j (by omega))
        omega
      · cases h
    · cases h
  · exact absurd h h1

theorem lvl_oilOf {xss : List (List Int)} {lo hi ca : Int} (h : laneErr xss lo hi ca = 0) : Lvl (oilOf xss) := fun i => by
  obtain ⟨_, _, _, h4, _⟩ := laneOk h
  unfold oilOf
  by_cases hk : i / 12 < xss.length
  · by_cases hj : i % 12 < (rx xss (i / 12)).length
    · exact h4 _ hk _ hj
    · simp only [ix]; rw [List.getD_eq_getElem?_getD, List.getElem?_eq_none (by omega)]; simp
  · have e : rx xss (i / 12) = [] := by simp only [rx]; rw [List.getD_eq_getElem?_getD, List.getElem?_eq_none (by omega)]; rfl
    rw [e]; simp [ix]

theorem playO_succ (ca : Int) (n : Nat) (bss wss : List (List Int)) (o : Nat → Int) (k : Nat) : playO ca n bss wss o (k + 1) = rollW ca (rx bss k) (fun r => ix (rx wss k) (r - 1)) (fun r => ix (rx wss k) r) (playO ca n bss wss o k) (List.range n) := by
  simp [playO, List.range_succ]
theorem KpG.mono {n₀ n₁ g : Nat} {A C : World} (h : KpG n₀ g A C) (hn : n₁ ≤ n₀) : KpG n₁ g A C := ⟨h.1, h.2.1, h.2.2.1, h.2.2.2.1, fun k hk hg => h.2.2.2.2 k (by omega) hg⟩

theorem Took.cell {B : Nat} {w w' : World} (h : Took B w w') {p : Addr} {v : Value} (hc : w.cell? p = some v) : w'.cell? p = some v := by
  cases hb : w.heap[p.block]? with
  | none => simp [World.cell?, hb] at hc
  | some o =>
    cases o with
    | cells c t f => rw [← hc]; exact World.cell?_of_block (w := w) ((h.2.2.2.2.2 _ _ hb rfl).trans hb.symm)
    | _ => simp [World.cell?, hb] at hc
theorem Ints.took {B B' : Nat} {w w' : World} {A : Option Addr} {xs : List Int} (h : Ints B w A xs) (ht : Took B' w w') : Ints B w' A xs := fun hp => by
  obtain ⟨b, off, hA, hlt, hc⟩ := h hp
  exact ⟨b, off, hA, hlt, fun k hk => ht.cell (hc k hk)⟩
theorem IsGrd.took {B B' : Nat} {w w' : World} {v : Value} {xss : List (List Int)} (h : IsGrd B w v xss) (ht : Took B' w w') : IsGrd B w' v xss := by
  obtain ⟨A, c, hv, h1, h2, h3⟩ := h
  refine ⟨A, c, hv, h1, h2, fun hp => ?_⟩
  obtain ⟨b, off, hA, hlt, hc⟩ := h3 hp
  refine ⟨b, off, hA, hlt, fun k hk => ?_⟩
  obtain ⟨u, hu, A', c', hu', h4, h5, h6⟩ := hc k hk
  exact ⟨u, ht.cell hu, A', c', hu', h4, h5, h6.took ht⟩

theorem wears_nonneg {n : Nat} {lo hi : Int} {wss : List (List Int)} (h : allB wss.length (fun k => wearB n lo hi (rx wss k)) = true) (hlo : 0 ≤ lo) : ∀ i r, 0 ≤ ix (rx wss i) r := fun i r => by
  rw [allB_iff] at h
  by_cases hi' : i < wss.length
  · have c := h i hi'
    simp only [wearB, Bool.and_eq_true, decide_eq_true_eq, allB_iff] at c
    by_cases hr : r < (rx wss i).length
    · have := inB_le (c.2 r hr)
      omega
    · simp only [ix]; rw [List.getD_eq_getElem?_getD, List.getElem?_eq_none (by omega)]; simp
  · have e : rx wss i = [] := by simp only [rx]; rw [List.getD_eq_getElem?_getD, List.getElem?_eq_none (by omega)]; rfl
    rw [e]; simp [ix]
theorem lvl_playO {ca : Int} {n : Nat} {bss wss : List (List Int)} {o : Nat → Int} (h : Lvl o) (hw : ∀ i r, 0 ≤ ix (rx wss i) r) (k : Nat) : Lvl (playO ca n bss wss o k) := by
  induction k with
  | zero => exact h
  | succ k ih => rw [playO_succ]; exact ih.roll (fun r => hw k r) _

/-- An error and no pattern; or a pattern. -/
def PlayPost (w : World) (err : Int) (yss : List (List Int)) (e : Ending) (w' : World) : Prop :=
  (err ≠ 0 ∧ e = .returned (.tuple #[.slice none 0 0, .int .i64 err]) ∧ Below w.heap.size w w') ∨
  (err = 0 ∧ ∃ v, e = .returned (.tuple #[v, .int .i64 0]) ∧ IsGrd w'.heap.size w' v yss ∧ Below w.heap.size w w')

theorem ret_err {v : Value} {a b : Int} (h : a = b) : Ending.returned (.tuple #[v, .int .i64 a]) = .returned (.tuple #[v, .int .i64 b]) := by rw [h]

set_option maxRecDepth 100000 in
set_option maxHeartbeats 1000000 in
theorem play_bad1 {B : Nat} (A Ab Aw : Option Addr) (xss bss wss : List (List Int)) (c cb cw : Nat) (lo hi ca : Int) (w : World) (hB : B ≤ w.heap.size) (hr : Grd B w A xss) (hb : Grd B w Ab bss) (hc : xss.length ≤ c ∧ c ≤ 9223372036854775807) (hcb : bss.length ≤ cb ∧ cb ≤ 9223372036854775807)
    (h : ballsErr xss lo hi ca bss ≠ 0) (yss : List (List Int)) :
    Calls Try.prog 20 #[.agg #[.slice A xss.length c, .int .i64 lo, .int .i64 hi, .int .i64 ca], .slice Ab bss.length cb, .slice Aw wss.length cw] w (PlayPost w (playErr xss lo hi ca bss wss) yss) := by
  have hw1 : Below w.heap.size w ((w.alloc (.cells #[.slice A xss.length c, .int .i64 lo, .int .i64 hi, .int .i64 ca] 34)).alloc (.cells #[.slice Aw wss.length cw] 22)) := ((Below.refl _ _).alloc (Nat.le_refl _) _).alloc (by simp) _
  have hz1 := hw1.size
  have H1 := Lib.hid (check_c (B := B) A Ab xss bss c cb lo hi ca _ (by omega) (hr.below (hw1.mono hB)) (hb.below (hw1.mono hB)) hc hcb)
  have h1' : (ballsErr xss lo hi ca bss != 0) = true := by simp [h]
  have HR : Hid (playErr xss lo hi ca bss wss = ballsErr xss lo hi ca bss) := by show _ = _; simp [playErr, h]
  have HE := Lib.hid h
  clear h hr hb
  refine calls_marks Try.func20 rfl ?_
  simp only [Try.ntmps20, List.size_toArray, List.length_cons, List.length_nil, Nat.reduceAdd, Nat.reduceSub, Array.replicate_succ, Array.replicate_zero, List.push_toArray, List.append_toArray, List.nil_append, List.cons_append]
  go_wp2_with fail
  refine H1.out.mono ?_
  rintro e w1 ⟨rfl, hb1⟩
  go_wp2_with fail
  refine ⟨_, results_tmp2 rfl _ _ _, ?_⟩
  refine .inl ⟨by rw [HR.out]; exact HE.out, ret_err HR.out.symm, hw1.trans (hb1.mono hz1)⟩

set_option maxRecDepth 100000 in
set_option maxHeartbeats 2000000 in
theorem play_rest {B : Nat} (A Ab Aw : Option Addr) (xss bss wss : List (List Int)) (c cb cw : Nat) (lo hi ca : Int) (w : World) (hB : B ≤ w.heap.size) (hr : Grd B w A xss) (hb : Grd B w Ab bss) (hwr : Grd B w Aw wss) (hc : xss.length ≤ c ∧ c ≤ 9223372036854775807) (hcb : bss.length ≤ cb ∧ cb ≤ 9223372036854775807) (_hcw : wss.length ≤ cw ∧ cw ≤ 9223372036854775807)
    (h : ballsErr xss lo hi ca bss = 0) :
    Calls Try.prog 20 #[.agg #[.slice A xss.length c, .int .i64 lo, .int .i64 hi, .int .i64 ca], .slice Ab bss.length cb, .slice Aw wss.length cw] w (PlayPost w (playErr xss lo hi ca bss wss) (rowsOf (playO ca xss.length bss wss (oilOf xss) bss.length) (rx xss 0).length xss.length)) := by
  have hw1 : Below w.heap.size w ((w.alloc (.cells #[.slice A xss.length c, .int .i64 lo, .int .i64 hi, .int .i64 ca] 34)).alloc (.cells #[.slice Aw wss.length cw] 22)) := ((Below.refl _ _).alloc (Nat.le_refl _) _).alloc (by simp) _
  have hz1 := hw1.size
  have H1 := Lib.hid (check_c (B := B) A Ab xss bss c cb lo hi ca _ (by omega) (hr.below (hw1.mono hB)) (hb.below (hw1.mono hB)) hc hcb)
  have HE := Lib.hid h
  have HRr := Lib.hid hr
  have HBr := Lib.hid hb
  have HWr := Lib.hid hwr
  clear h hr hb hwr
  refine calls_marks Try.func20 rfl ?_
  simp only [Try.ntmps20, List.size_toArray, List.length_cons, List.length_nil, Nat.reduceAdd, Nat.reduceSub, Array.replicate_succ, Array.replicate_zero, List.push_toArray, List.append_toArray, List.nil_append, List.cons_append]
  go_wp2_with fail
  refine H1.out.mono ?_
  rw [HE.out]
  rintro e w1 ⟨rfl, hb1⟩
  have d0 := cell_of_ans hb1 (p := ⟨w.heap.size, 0, none⟩) (v := .slice A xss.length c) (by go_simp)
  have d1 := cell_of_ans hb1 (p := ⟨w.heap.size, 1, none⟩) (v := .int .i64 lo) (by go_simp)
  have d2 := cell_of_ans hb1 (p := ⟨w.heap.size, 2, none⟩) (v := .int .i64 hi) (by go_simp)
  have d3 := cell_of_ans hb1 (p := ⟨w.heap.size, 3, none⟩) (v := .int .i64 ca) (by go_simp)
  have d4 := cell_of_ans hb1 (p := ⟨w.heap.size + 1, 0, none⟩) (v := .slice Aw wss.length cw) (by go_simp)
  have hz2 : w.heap.size + 1 + 1 ≤ w1.heap.size := by have := hb1.size; simp at this; omega
  have hb2 := hw1.trans (hb1.mono hz1)
  have HB2 := Lib.hid hb2
  clear hb1 hw1 hz1 H1 hb2
  have f0 : (w1.alloc (.cells #[.func (.func 58) #[] #[.pointer (some ⟨w.heap.size, 0, none⟩)]] 88)).cell? ⟨w.heap.size, 0, none⟩ = some (.slice A xss.length c) := cell_alloc_keep _ d0
  have f1 : (w1.alloc (.cells #[.func (.func 58) #[] #[.pointer (some ⟨w.heap.size, 0, none⟩)]] 88)).cell? ⟨w.heap.size, 1, none⟩ = some (.int .i64 lo) := cell_alloc_keep _ d1
  have f2 : (w1.alloc (.cells #[.func (.func 58) #[] #[.pointer (some ⟨w.heap.size, 0, none⟩)]] 88)).cell? ⟨w.heap.size, 2, none⟩ = some (.int .i64 hi) := cell_alloc_keep _ d2
  have f3 : (w1.alloc (.cells #[.func (.func 58) #[] #[.pointer (some ⟨w.heap.size, 0, none⟩)]] 88)).cell? ⟨w.heap.size, 3, none⟩ = some (.int .i64 ca) := cell_alloc_keep _ d3
  have f4 : (w1.alloc (.cells #[.func (.func 58) #[] #[.pointer (some ⟨w.heap.size, 0, none⟩)]] 88)).cell? ⟨w.heap.size + 1, 0, none⟩ = some (.slice Aw wss.length cw) := cell_alloc_keep _ d4
  have f5 : (w1.alloc (.cells #[.func (.func 58) #[] #[.pointer (some ⟨w.heap.size, 0, none⟩)]] 88)).cell? ⟨w1.heap.size, 0, none⟩ = some (.func (.func 58) #[] #[.pointer (some ⟨w.heap.size, 0, none⟩)]) := by simp
  have HB3 : Hid (Below w.heap.size w (w1.alloc (.cells #[.func (.func 58) #[] #[.pointer (some ⟨w.heap.size, 0, none⟩)]] 88))) := HB2.out.alloc (by omega) _
  have HZ3 : Hid ((w1.alloc (.cells #[.func (.func 58) #[] #[.pointer (some ⟨w.heap.size, 0, none⟩)]] 88)).heap.size = w1.heap.size + 1) := by show _ = _; simp
  by_cases hl : wss.length = bss.length
  · have hl' : ((wss.length : Int) != (bss.length : Int)) = false := by simp [hl]
    obtain ⟨vs, hel, hvs⟩ := HWr.out.elems
    have H2 := Lib.hid (allR (B := (w1.alloc (.cells #[.func (.func 58) #[] #[.pointer (some ⟨w.heap.size, 0, none⟩)]] 88)).heap.size) Aw wss.length cw 59 #[] #[.pointer (some ⟨w.heap.size, 0, none⟩), .pointer (some ⟨w1.heap.size, 0, none⟩)] vs (fun k => wearB xss.length lo hi (rx wss k)) (w1.alloc (.cells #[.func (.func 58) #[] #[.pointer (some ⟨w.heap.size, 0, none⟩)]] 88)) enters59 (Nat.le_refl _) (by omega) ((hel.below (HB3.out.mono hB)).mono_ (by have := HZ3.out; omega)) (fun k hk W hW => by
      obtain ⟨A', c', hvk, e1, e2, e3⟩ := hvs k hk
      rw [push02, hvk]
      have g0 := HZ3.out
      exact play2_c (B := B) A A' xss.length c c' w.heap.size w1.heap.size (rx wss k) lo hi W (by have := hW.size; omega) (e3.below ((HB3.out.mono hB).trans (hW.mono (by omega)))) ⟨e1, e2⟩ (by have := hW.size; omega) (by have := hW.size; omega) (cell_of_ans hW f0) (cell_of_ans hW f1) (cell_of_ans hW f2) (cell_of_ans hW f5)))
    have HLE := Lib.hid hl
    clear hl hel hvs
    cases hal : allB wss.length (fun k => wearB xss.length lo hi (rx wss k))
    · have HR : Hid (playErr xss lo hi ca bss wss = 2) := by
        show _ = _
        have hh : wearsB xss.length lo hi bss wss = false := by unfold wearsB; rw [hal, Bool.and_false]
        rw [playErr, if_pos HE.out, hh]; rfl
      have HAL := Lib.hid hal
      clear hal
      go_wp2_with fail
      refine H2.out.mono ?_
      rw [HAL.out]
      rintro e w4 ⟨rfl, hb4⟩
      go_wp2_with fail
      refine ⟨_, results_tmp2 rfl _ _ _, ?_⟩
      refine .inl ⟨by rw [HR.out]; decide, ret_err HR.out.symm, HB3.out.trans (hb4.mono (by have := HZ3.out; omega))⟩
    · have HR : Hid (playErr xss lo hi ca bss wss = 0) := by
        show _ = _
        have hh : wearsB xss.length lo hi bss wss = true := by unfold wearsB; rw [hal, Bool.and_true]; exact decide_eq_true HLE.out
        rw [playErr, if_pos HE.out, hh]; rfl
      have HAL := Lib.hid hal
      clear hal
      go_wp2_with fail
      refine H2.out.mono ?_
      rw [HAL.out]
      rintro e w4 ⟨rfl, hb4⟩
      have g0 := cell_of_ans hb4 f0
      have g1 := cell_of_ans hb4 f1
      have g2 := cell_of_ans hb4 f2
      have g3 := cell_of_ans hb4 f3
      have g4 := cell_of_ans hb4 f4
      have hz4 : w1.heap.size + 1 ≤ w4.heap.size := by have := hb4.size; have := HZ3.out; omega
      have HB4 : Hid (Below w.heap.size w w4) := HB3.out.trans (hb4.mono (by have := HZ3.out; omega))
      clear f0 f1 f2 f3 f4 f5 HB3 HZ3 H2 d0 d1 d2 d3 d4 HB2 hb4
      have hv := laneOk (ballsOk HE.out).1
      have H5 := Lib.hid (fresh_c (B := B) A xss c lo hi ca w4 (by omega) (HRr.out.below (HB4.out.mono hB)) hc hv.2.1 (fun k hk => (hv.2.2.1 k hk).2.2))
      go_wp2_with fail
      refine H5.out.mono ?_
      rintro e w5 ⟨g, rfl, hg, hW5, hb5⟩
      have m4 := cell_alloc_keep (.cells #[.pointer (some ⟨g, 0, none⟩)] 90) (cell_of_ans hb5 g4)
      have m5 : (w5.alloc (.cells #[.pointer (some ⟨g, 0, none⟩)] 90)).cell? ⟨w5.heap.size, 0, none⟩ = some (.pointer (some ⟨g, 0, none⟩)) := by simp
      have HW6 := Lib.hid (hW5.alloc (.cells #[.pointer (some ⟨g, 0, none⟩)] 90))
      have HZ6 : Hid ((w5.alloc (.cells #[.pointer (some ⟨g, 0, none⟩)] 90)).heap.size = w5.heap.size + 1) := by show _ = _; simp
      have hz5 := hb5.size
      have HB6 : Hid (Below w.heap.size w (w5.alloc (.cells #[.pointer (some ⟨g, 0, none⟩)] 90))) := (HB4.out.trans (hb5.mono (by omega))).alloc (by omega) _
      have hgl : g < w5.heap.size := hW5.lt
      clear g0 g1 g2 g3 g4 H5 hW5 hb5 HB4
      go_wp2_with fail
      generalize w5.alloc (.cells #[.pointer (some ⟨g, 0, none⟩)] 90) = W6 at m4 m5 HW6 HZ6 HB6 ⊢
      have hv1 := ballsOk HE.out
      have hlw : Lvl (oilOf xss) := lvl_oilOf hv1.1
      have HV := Lib.hid hv
      have HV1 := Lib.hid hv1
      have HLW := Lib.hid hlw
      clear hv hv1 hlw
      have hz6 := HZ6.out
      have hwz : w.heap.size ≤ w4.heap.size := by omega
      refine wp_loop (fun a wr => ∃ s0 s1 s2 s3 s4 s6 s7 s8 s9 s10 s12 s13 s14 s15 s16 s17 s18 s19 s20 s21 s22 s23 s24 s25 s26 s27 s28 s29 s30 s31 s32 s33 s34 s35 s36 s40 s41 s42 s43 s44 s45 s46 s47 s48 s49 s50 s51 s52 s53 s54 s55 s56 s57 s58 s59 s60 s61 s62 s63 s64 s65 s66 s67 s68 s69 s70 s71 s72 s73 : Value, ∃ (k : Nat) (ds : List Deferred), a = { tmps := #[s0, s1, s2, s3, s4, .pointer (some ⟨w.heap.size + 1, 0, none⟩), s6, s7, s8, s9, s10, .pointer (some ⟨w5.heap.size, 0, none⟩), s12, s13, s14, s15, s16, s17, s18, s19, s20, s21, s22, s23, s24, s25, s26, s27, s28, s29, s30, s31, s32, s33, s34, s35, s36, .slice Ab bss.length cb, .int .i64 (bss.length : Int), .int .i64 (k : Int), s40, s41, s42, s43, s44, s45, s46, s47, s48, s49, s50, s51, s52, s53, s54, s55, s56, s57, s58, s59, s60, s61, s62, s63, s64, s65, s66, s67, s68, s69, s70, s71, s72, s73], defers := ds } ∧ k ≤ bss.length ∧ Worn wr g (.slice A xss.length c) lo hi ca (playO ca xss.length bss wss (oilOf xss) k) ∧ KpG W6.heap.size g W6 wr ∧ Marks W6.heap.size wr ds) (fun a _ => bss.length - (intOf (a.tmps.getD 39 undef)).toNat)
        ⟨_, _, _, _, _, _, _, _, _, _, _, _, _, _, _, _, _, _, _, _, _, _, _, _, _, _, _, _, _, _, _, _, _, _, _, _, _, _, _, _, _, _, _, _, _, _, _, _, _, _, _, _, _, _, _, _, _, _, _, _, _, _, _, _, _, _, _, _, _, 0, [], rfl, by omega, HW6.out, KpG.refl _ _ _, trivial⟩ ?_
      rintro a wr ⟨s0, s1, s2, s3, s4, s6, s7, s8, s9, s10, s12, s13, s14, s15, s16, s17, s18, s19, s20, s21, s22, s23, s24, s25, s26, s27, s28, s29, s30, s31, s32, s33, s34, s35, s36, s40, s41, s42, s43, s44, s45, s46, s47, s48, s49, s50, s51, s52, s53, s54, s55, s56, s57, s58, s59, s60, s61, s62, s63, s64, s65, s66, s67, s68, s69, s70, s71, s72, s73, k, ds, rfl, hk, hWr, hKr, hMr⟩
      have hbr : Below B w wr := (HB6.out.mono hB).trans (hKr.below (by omega) (by omega))
      have hzr := hKr.1
      by_cases h1 : k < bss.length
      · obtain ⟨bb0, off0, Ab', cb', rfl, hb0, hcl, hl1, hl2, hin⟩ := (HBr.out.below hbr).at_ h1
        have HIN := Lib.hid hin
        have HWo := Lib.hid hWr
        have HKr := Lib.hid hKr
        have HMr := Lib.hid hMr
        have HBr2 := Lib.hid hbr
        clear hin hWr hKr hMr hbr
        go_wp2_with (go_at_call 62; refine (cells_c _ _ _ _).mono ?_; rintro e w2 ⟨rfl, rfl⟩)
        have hW7 : Worn ((wr.alloc (.cells #[.int .i64 (k : Int)] 3)).alloc (.cells #[.slice Ab' (rx bss k).length cb'] 45)) g (.slice A xss.length c) lo hi ca (playO ca xss.length bss wss (oilOf xss) k) := (HWo.out.alloc _).alloc _
        have hx7 : Ints B ((wr.alloc (.cells #[.int .i64 (k : Int)] 3)).alloc (.cells #[.slice Ab' (rx bss k).length cb'] 45)) Ab' (rx bss k) := (HIN.out.alloc (by omega) _).alloc (by simp; omega) _
        have hcb7 : ((wr.alloc (.cells #[.int .i64 (k : Int)] 3)).alloc (.cells #[.slice Ab' (rx bss k).length cb'] 45)).cell? ⟨wr.heap.size + 1, 0, none⟩ = some (.slice Ab' (rx bss k).length cb') := by go_simp
        have hk12 : ((wr.alloc (.cells #[.int .i64 (k : Int)] 3)).alloc (.cells #[.slice Ab' (rx bss k).length cb'] 45)).cell? ⟨wr.heap.size, 0, none⟩ = some (.int .i64 (k : Int)) := by go_simp
        have m4' : ((wr.alloc (.cells #[.int .i64 (k : Int)] 3)).alloc (.cells #[.slice Ab' (rx bss k).length cb'] 45)).cell? ⟨w.heap.size + 1, 0, none⟩ = some (.slice Aw wss.length cw) := cell_alloc_keep _ (cell_alloc_keep _ (HKr.out.cell m4 (by dsimp only; omega) (by dsimp only; omega)))
        have m5' : ((wr.alloc (.cells #[.int .i64 (k : Int)] 3)).alloc (.cells #[.slice Ab' (rx bss k).length cb'] 45)).cell? ⟨w5.heap.size, 0, none⟩ = some (.pointer (some ⟨g, 0, none⟩)) := cell_alloc_keep _ (cell_alloc_keep _ (HKr.out.cell m5 (by dsimp only; omega) (by dsimp only; omega)))
        have hw7 : Grd B ((wr.alloc (.cells #[.int .i64 (k : Int)] 3)).alloc (.cells #[.slice Ab' (rx bss k).length cb'] 45)) Aw wss := ((HWr.out.below HBr2.out).alloc (by omega) _).alloc (by simp; omega) _
        have hsz7 : ((wr.alloc (.cells #[.int .i64 (k : Int)] 3)).alloc (.cells #[.slice Ab' (rx bss k).length cb'] 45)).heap.size = wr.heap.size + 1 + 1 := by simp
        have hK7 : KpG W6.heap.size g W6 ((wr.alloc (.cells #[.int .i64 (k : Int)] 3)).alloc (.cells #[.slice Ab' (rx bss k).length cb'] 45)) := HKr.out.trans ⟨by simp; omega, rfl, rfl, rfl, fun j hj _ => (Below.heap_alloc _ _ _ (by simp; omega)).trans (Below.heap_alloc _ _ _ (by omega))⟩
        have hM7 : Marks W6.heap.size ((wr.alloc (.cells #[.int .i64 (k : Int)] 3)).alloc (.cells #[.slice Ab' (rx bss k).length cb'] 45)) ds := HMr.out.keep fun j ob _ hjo _ => ((Below.heap_alloc _ _ _ (by have := (Array.getElem?_eq_some_iff.1 hjo).1; simp; omega)).trans (Below.heap_alloc _ _ _ (Array.getElem?_eq_some_iff.1 hjo).1)).trans hjo
        generalize ((wr.alloc (.cells #[.int .i64 (k : Int)] 3)).alloc (.cells #[.slice Ab' (rx bss k).length cb'] 45)) = W7 at hW7 hx7 hcb7 hk12 m4' m5' hw7 hsz7 hK7 hM7 ⊢
        have hball := (HV1.out.2.2 k h1)
        have HBA := Lib.hid hball
        have hlen : (rx bss k).length ≤ 8 := by rw [hball.1]; exact HV.out.2.1
        clear hball
        refine wpIn_wide.1 (wpIn_rangeFunc_ownH (F := Fence.wide) (n := 5) (α := Fin (rx bss k).length) rfl (by omega) (gf := 89) (lb := #[.pointer (some ⟨wr.heap.size + 1, 0, none⟩)]) rfl trivial (enters_of Try.func89 (by kernel_rfl) rfl)
          (cells_stops (B := B) 4 (wr.heap.size + 1) cb' Ab' (rx bss k) (by omega) (KpG W7.heap.size g) (fun h k => h.trans k) (fun _ => KpG.refl _ _ _) (fun W W' hk hi => hi.below (hk.below (by omega) (by omega))) W7 (by omega) (by omega) hcb7 hx7)
          (fun h k => h.trans k) ?keepPut (Below.refl _ _) (fun _ => rfl)
          (fun pre W => Worn W g (.slice A xss.length c) lo hi ca (rollW ca (rx bss k) (fun r => ix (rx wss k) (r - 1)) (fun r => ix (rx wss k) r) (playO ca xss.length bss wss (oilOf xss) k) (pre.map Fin.val)) ∧ KpG W7.heap.size g W7 W)
          (fun _ _ _ => False) ?ownI (fun _ _ _ _ _ hs _ _ => hs) ⟨hW7, KpG.refl _ _ _⟩
          (fun x a' W => ∃ bb, W7.heap.size ≤ bb ∧ W.heap[bb]? = some (.cells #[.int .i64 (x.1 : Int), .int .i64 (ix (rx bss k) x.1)] 96 (0, 0)) ∧ a' = { tmps := #[s0, s1, s2, s3, s4, .pointer (some ⟨w.heap.size + 1, 0, none⟩), s6, s7, s8, s9, s10, .pointer (some ⟨w5.heap.size, 0, none⟩), .pointer (some ⟨wr.heap.size, 0, none⟩), .slice Ab' (rx bss k).length cb', .pointer (some ⟨bb, 0, none⟩), s15, s16, s17, s18, s19, s20, s21, s22, s23, s24, s25, s26, s27, s28, s29, s30, s31, s32, s33, s34, s35, s36, .slice (some ⟨bb0, off0, none⟩) bss.length cb, .int .i64 (bss.length : Int), .int .i64 (k : Int), .bool true, .int .i64 (k : Int), .pointer (some ⟨bb0, off0 + k, none⟩), .slice Ab' (rx bss k).length cb', .slice Ab' (rx bss k).length cb', .func (.func 89) #[] #[.pointer (some ⟨wr.heap.size + 1, 0, none⟩)], .agg #[.int .i64 (x.1 : Int), .int .i64 (ix (rx bss k) x.1)], s47, s48, s49, s50, s51, s52, s53, s54, s55, s56, s57, s58, s59, s60, s61, s62, s63, s64, s65, s66, s67, s68, s69, s70, s71, s72, s73], defers := [] })
          ?ownA ?assign ?body ?done ?stop)
        case keepPut =>
          intro W l x y hl hx _ _
          exact ⟨by simp, rfl, rfl, rfl, fun k hk _ => World.putObj_heap_other (by omega)⟩
        case ownI =>
          rintro pre W W' row ⟨hWo, hKp⟩ hg' hrow
          refine ⟨hWo.grown hg' (fun e => ?_), hKp.trans ⟨hg'.size, hg'.os, hg'.tape, hg'.output, fun k hk _ => hg'.block k (Nat.lt_of_lt_of_le hk hKp.1) (fun e => ?_)⟩⟩
          · have := (hrow _ e.symm).1
            omega
          · have := (hrow _ e.symm).1
            omega
        case ownA =>
          rintro x a' _ W W' row ⟨bb, hbb, hc, rfl⟩ hg' hrow
          refine ⟨bb, hbb, (hg'.block bb (Array.getElem?_eq_some_iff.1 hc).1 (fun e => ?_)).trans hc, rfl⟩
          obtain ⟨_, ob, ho, hno⟩ := hrow _ e.symm
          rw [hc] at ho
          cases ho
          cases hno
        case assign =>
          rintro l pre x W K ⟨hWo, hKp⟩ hK
          simp only [cellEnc]
          gi_wp2
          exact hK _ _ ((KeepsOthers.alloc _ _).from _) ⟨by simp, rfl, rfl, rfl, fun k hk _ => Below.heap_alloc _ _ _ (Nat.lt_of_lt_of_le hk hKp.1)⟩ ⟨hWo.alloc _, hKp.trans ⟨by simp, rfl, rfl, rfl, fun k hk _ => Below.heap_alloc _ _ _ (Nat.lt_of_lt_of_le hk hKp.1)⟩⟩ ⟨W.heap.size, hKp.1, World.alloc_heap_new _ _, rfl⟩
        case body =>
          rintro l pre ⟨r, hrl⟩ a' W hl ⟨rr, hrr⟩ ⟨hWo, hKp⟩ ⟨bb, hbb, hcell, rfl⟩ hlt
          dsimp only at hcell ⊢
          have hwk : k < wss.length := by rw [HLE.out]; exact h1
          have hwear := (allB_iff.1 HAL.out) k hwk
          simp only [wearB, Bool.and_eq_true, decide_eq_true_eq, allB_iff] at hwear
          obtain ⟨hwl, hwr⟩ := hwear
          have hrx : r < xss.length := by rw [← HBA.out.1]; exact hrl
          have hr8 : r < 8 := Nat.lt_of_lt_of_le hrx HV.out.2.1
          obtain ⟨q0, q1⟩ := HBA.out.2 r hrx
          have q2 : ix (rx bss k) r < 12 := by have := (HV.out.2.2.1 0 HV.out.1).2.2; omega
          have qw := inB_le (hwr r (by omega))
          have qlo := HV.out.2.2.2.2.1
          have qhi := HV.out.2.2.2.2.2.2.1
          have qca := HV.out.2.2.2.2.2.2.2
          have hbW : Below B W7 W := hKp.below (by omega) (by omega)
          have j0 : W.cell? ⟨w5.heap.size, 0, none⟩ = some (.pointer (some ⟨g, 0, none⟩)) := hKp.cell m5' (by dsimp only; omega) (by dsimp only; omega)
          have j1 := hKp.cell m4' (by dsimp only; omega) (by dsimp only; omega)
          have j2 : W.cell? ⟨wr.heap.size, 0, none⟩ = some (.int .i64 (k : Int)) := hKp.cell hk12 (by dsimp only; omega) (by dsimp only; omega)
          have j3 : W.cell? ⟨bb, 0, none⟩ = some (.int .i64 (r : Int)) := by simp [World.cell?, hcell]
          have j4 : W.cell? ⟨bb, 1, none⟩ = some (.int .i64 (ix (rx bss k) r)) := by simp [World.cell?, hcell]
          obtain ⟨b1, off1, Aw', cw', hAw, hb1, jw, _, _, hin1⟩ := (hw7.below hbW).at_ hwk
          obtain ⟨b2, off2, rfl, hb2, hc2⟩ := hin1 (by omega)
          subst hAw
          have jr := hc2 r (by omega)
          have hri : ((r : Nat) : Int) < 8 := by omega
          have hri2 : ((r : Nat) : Int) < ((rx wss k).length : Int) := by omega
          have hri0 : (0 : Int) ≤ ((r : Nat) : Int) := by omega
          have hki : ((k : Nat) : Int) < (wss.length : Int) := by omega
          have hki0 : (0 : Int) ≤ ((k : Nat) : Int) := by omega
          have hnn := wears_nonneg HAL.out qlo
          have hlv' : Lvl (rollW ca (rx bss k) (fun r => ix (rx wss k) (r - 1)) (fun r => ix (rx wss k) r) (playO ca xss.length bss wss (oilOf xss) k) (pre.map Fin.val)) := (lvl_playO HLW.out hnn k).roll (fun r => hnn k r) _
          have hlvr := hlv' (r * 12 + (ix (rx bss k) r).toNat)
          have HKp := Lib.hid hKp
          have hzW := hKp.1
          by_cases hr0 : 0 < r
          · have jr1 := hc2 (r - 1) (by omega)
            have qw1 := inB_le (hwr (r - 1) (by omega))
            have hcall := fun n => wear_c g r (ix (rx bss k) r).toNat (.slice A xss.length c) lo hi ca (ix (rx wss k) (r - 1)) (ix (rx wss k) r) _ (W.drewN n) (hWo.drewN n) hr8 (by omega) qca.1 qca.2 (by omega) (by omega) hlvr.1 hlvr.2 (by omega) (by omega)
            rw [Int.toNat_of_nonneg q0] at hcall
            have HC := Lib.hid hcall
            clear hcall hKp hcell hWo hlv' hlvr hnn hin1 hc2 hwr qw qw1 qlo qhi qca hwl hwk hrx hbW hlt hrr
            gi_wp2
            refine round_quiet (by kernel_rfl) (by kernel_rfl) (by kernel_rfl) (by rintro ⟨_, _, h⟩; exact h) ?_
            repeat (first | go_big_quiet_step (fail) | quiet_step (fail))
            refine wpQuiet_nil ?_
            rintro _ ⟨nq, rfl⟩
            gi_wp2
            refine round_still_tail 11 (by kernel_rfl) (by kernel_rfl) (by kernel_rfl) (by rintro ⟨_, _, h⟩; exact h) ?_
            simp only [List.take_succ_cons, List.take_zero, List.drop_succ_cons, List.drop_zero]
            repeat still_step
            refine wpStill_nil ?_
            go_wp2_with (go_at_call 63; refine (HC.out _).mono ?_; rintro e W2 ⟨rfl, hWo2, hgr⟩; have HWo2 := Lib.hid hWo2; have HGR := Lib.hid hgr; clear hWo2 hgr)
            have hgr : W.grownBy W2 (some g) := ⟨HGR.out.os, HGR.out.tape, HGR.out.output, HGR.out.size, HGR.out.block⟩
            refine ⟨⟨hgr.size, fun j ob hj hjo hno => (hgr.block j (Array.getElem?_eq_some_iff.1 hjo).1 (fun e => ?_)).trans hjo⟩, KpG.of_grown hgr hzW, ?_, HKp.out.trans (KpG.of_grown hgr hzW)⟩
            · injection e with e
              omega
            · have hWo2 := HWo2.out
              rw [List.map_append, List.map_singleton, rollW_snoc]
              exact hWo2
          · obtain rfl : r = 0 := by omega
            have hn0 : 0 < (rx wss k).length := by omega
            have hcall := fun n => wear_c g 0 (ix (rx bss k) 0).toNat (.slice A xss.length c) lo hi ca 0 (ix (rx wss k) 0) _ (W.drewN n) (hWo.drewN n) hr8 (by omega) qca.1 qca.2 (by omega) (by omega) hlvr.1 hlvr.2 (by omega) (by omega)
            rw [Int.toNat_of_nonneg q0, Int.natCast_zero] at hcall
            have HC := Lib.hid hcall
            clear hcall hKp hcell hWo hlv' hlvr hnn hin1 hc2 hwr qw qlo qhi qca hwl hwk hrx hbW hlt hrr
            simp only [Nat.add_zero] at jr
            simp only [Int.natCast_zero] at j3 hri2 ⊢
            gi_wp2
            refine round_still_tail 11 (by kernel_rfl) (by kernel_rfl) (by kernel_rfl) (by rintro ⟨_, _, h⟩; exact h) ?_
            simp only [List.take_succ_cons, List.take_zero, List.drop_succ_cons, List.drop_zero]
            repeat still_step
            refine wpStill_nil ?_
            go_wp2_with (go_at_call 63; refine (HC.out _).mono ?_; rintro e W2 ⟨rfl, hWo2, hgr⟩; have HWo2 := Lib.hid hWo2; have HGR := Lib.hid hgr; clear hWo2 hgr)
            have hgr : W.grownBy W2 (some g) := ⟨HGR.out.os, HGR.out.tape, HGR.out.output, HGR.out.size, HGR.out.block⟩
            refine ⟨⟨hgr.size, fun j ob hj hjo hno => (hgr.block j (Array.getElem?_eq_some_iff.1 hjo).1 (fun e => ?_)).trans hjo⟩, KpG.of_grown hgr hzW, ?_, HKp.out.trans (KpG.of_grown hgr hzW)⟩
            · injection e with e
              omega
            · have hWo2 := HWo2.out
              rw [List.map_append, List.map_singleton, rollW_snoc]
              exact hWo2
        case done =>
          rintro D ys W hD rfl ⟨hWo, hKp⟩ hK
          rw [map_finRange] at hWo
          go_wp2_with fail
          rw [show ((k : Int) + 1) = ((k + 1 : Nat) : Int) by omega]
          refine ⟨⟨_, _, _, _, _, _, _, _, _, _, _, _, _, _, _, _, _, _, _, _, _, _, _, _, _, _, _, _, _, _, _, _, _, _, _, _, _, _, _, _, _, _, _, _, _, _, _, _, _, _, _, _, _, _, _, _, _, _, _, _, _, _, _, _, _, _, _, _, _, k + 1, _, rfl, by omega, ?_, hK7.trans (hKp.mono (by omega)), ⟨D, by omega, rfl, hK, ?_⟩, ?_⟩, ?_⟩
          · rw [playO_succ]
            rw [HBA.out.1] at hWo
            exact hWo
          · intro d' hd' e
            obtain ⟨D', h2, h3⟩ := hM7.lt d' hd'
            rw [h2] at e
            injection e with e
            omega
          · refine hM7.keep fun j ob _ hjo hno => (hKp.2.2.2.2 j (Array.getElem?_eq_some_iff.1 hjo).1 (fun e => ?_)).trans hjo
            subst e
            rw [show W7.heap[j]? = _ from hW7] at hjo
            cases hjo
            cases hno
          · simp [intOf]
            omega
        case stop => exact fun _ _ _ _ _ _ h _ => h.elim
      · obtain rfl : k = bss.length := by omega
        have m5' := hKr.cell m5 (by dsimp only; omega) (by dsimp only; omega)
        have H64 := Lib.hid (list_c (B := B) g A c lo hi ca _ xss wr hWr (by omega) (HRr.out.below hbr) HV.out.1 HV.out.2.1 (HV.out.2.2.1 0 HV.out.1).2.2)
        have HKr := Lib.hid hKr
        have HMr := Lib.hid hMr
        clear hWr hKr hMr hbr
        go_wp2_with fail
        refine H64.out.mono ?_
        rintro e w7 ⟨v, rfl, hv7, hb7⟩
        obtain ⟨va, vc, rfl, _⟩ := id hv7
        go_wp2_with fail
        refine leaves_marks (B := W6.heap.size) ds _ (HMr.out.keep fun k ob hk hko _ => (hb7.block k (Array.getElem?_eq_some_iff.1 hko).1).trans hko) fun w8 h8 => ?_
        refine ⟨_, results_tmp2 rfl _ _ _, .inr ⟨HR.out, _, rfl, ?_, ?_⟩⟩
        · rw [h8.2.2.2.1]
          exact hv7.took h8
        · exact (((HB6.out.trans (HKr.out.below (by omega) (by omega))).trans (hb7.mono (by omega)))).trans ⟨h8.1, h8.2.1, h8.2.2.1, by rw [h8.2.2.2.1]; exact Nat.le_refl _, fun j hj => h8.2.2.2.2.1 j (by omega)⟩
  · have hl' : ((wss.length : Int) != (bss.length : Int)) = true := by simp; omega
    have HR : Hid (playErr xss lo hi ca bss wss = 2) := by show _ = _; simp [playErr, HE.out, wearsB, hl]
    go_wp2_with fail
    refine ⟨_, results_tmp2 rfl _ _ _, ?_⟩
    refine .inl ⟨by rw [HR.out]; decide, ret_err HR.out.symm, HB3.out⟩

/-- **Play**: an error, or the pattern. -/
theorem play_c {B : Nat} (A Ab Aw : Option Addr) (xss bss wss : List (List Int)) (c cb cw : Nat) (lo hi ca : Int) (w : World) (hB : B ≤ w.heap.size) (hr : Grd B w A xss) (hb : Grd B w Ab bss) (hwr : Grd B w Aw wss) (hc : xss.length ≤ c ∧ c ≤ 9223372036854775807) (hcb : bss.length ≤ cb ∧ cb ≤ 9223372036854775807) (hcw : wss.length ≤ cw ∧ cw ≤ 9223372036854775807) :
    Calls Try.prog 20 #[.agg #[.slice A xss.length c, .int .i64 lo, .int .i64 hi, .int .i64 ca], .slice Ab bss.length cb, .slice Aw wss.length cw] w (PlayPost w (playErr xss lo hi ca bss wss) (rowsOf (playO ca xss.length bss wss (oilOf xss) bss.length) (rx xss 0).length xss.length)) := by
  by_cases h : ballsErr xss lo hi ca bss = 0
  · exact play_rest A Ab Aw xss bss wss c cb cw lo hi ca w hB hr hb hwr hc hcb hcw h
  · exact play_bad1 A Ab Aw xss bss wss c cb cw lo hi ca w hB hr hb hc hcb h _
end Go.Proofs.Ytgnonfomlgkpcaa
