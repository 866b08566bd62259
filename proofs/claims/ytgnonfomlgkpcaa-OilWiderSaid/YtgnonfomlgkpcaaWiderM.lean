/-
  A wider wear, a greater need: plain.
-/
import Derived.Test.YtgnonfomlgkpcaaFewestM
namespace Go.Proofs.Ytgnonfomlgkpcaa

theorem RP.imp {n : Nat} {hold hold' : Nat → Nat → Bool} (h : ∀ f t, f ≤ t → t ≤ n → hold' f t = true → hold f t = true) : ∀ {q : List Int} {fr : Nat}, fr ≤ n → RP n hold' fr q → RP n hold fr q
  | [], fr, hf, hq => h fr n hf (Nat.le_refl _) hq
  | t :: q, fr, hf, ⟨a, b, c, d⟩ => ⟨a, b, h fr t.toNat (by omega) (by omega) c, RP.imp h (by omega) d⟩

section
variable {xss bss : List (List Int)} {lo hi lo' hi' ca : Int} {ls ls' : Lines}
theorem run_balls {o : Nat → Int} : ∀ k, (∀ j, j < k → (lx ls' j).1 = (lx ls j).1) → runO ca lo hi ls' o k = runO ca lo hi ls o k
  | 0, _ => rfl
  | k + 1, h => by rw [runO, runO, run_balls k (fun j hj => h j (by omega)), h k (by omega)]
theorem en_need {x nd nd' : List Int} {o : Nat → Int} (h : ∀ i, ix nd i ≤ ix nd' i) (he : enB x nd' o = true) : enB x nd o = true := by
  simp only [enB, List.all_eq_true, List.mem_range, enAt, decide_eq_true_eq] at *
  exact fun k hk => Int.le_trans (h k) (he k hk)
theorem hold_mono (hc : 0 ≤ ca) (h1 : lo' ≤ lo) (h2 : hi ≤ hi') (hl : ls'.length = ls.length) (hb : ∀ j, j < ls.length → (lx ls' j).1 = (lx ls j).1 ∧ ∀ i, ix (lx ls j).2 i ≤ ix (lx ls' j).2 i) (f t : Nat) (ht : t ≤ ls.length)
    (h : holdL xss lo' hi' ca ls' f t = true) : holdL xss lo hi ca ls f t = true := by
  unfold holdL holdsB at *
  rw [subL_len (by omega), allB_iff] at h
  rw [subL_len ht, allB_iff]
  intro k hk
  have a := h k hk
  dsimp only at a ⊢
  have e : ∀ j, j < t - f → (lx (subL ls' f t) j).1 = (lx (subL ls f t) j).1 := fun j hj => by
    rw [lx_sub hj, lx_sub hj]
    exact (hb (f + j) (by omega)).1
  rw [e k hk, run_balls k (fun j hj => e j (by omega))] at a
  refine en_mono (run_mono hc h1 h2 _ (OilLe.refl _) k) (en_need ?_ a)
  rw [lx_sub hk, lx_sub hk]
  exact (hb (f + k) (by omega)).2
theorem prove_mono (hbe : blockErr xss lo hi ca ls = 0) (h1 : lo' ≤ lo) (h2 : hi ≤ hi') (hl : ls'.length = ls.length) (hb : ∀ j, j < ls.length → (lx ls' j).1 = (lx ls j).1 ∧ ∀ i, ix (lx ls j).2 i ≤ ix (lx ls' j).2 i) {plan : List Int}
    (h : provePlan xss lo' hi' ca ls' plan = true) : provePlan xss lo hi ca ls plan = true := by
  have hc := (laneOk (blockOk hbe).1).2.2.2.2.2.2.2.1
  refine (prove_RP hbe plan).2 ?_
  unfold provePlan at h
  rw [Bool.and_eq_true, proveP_iff, hl] at h
  exact RP.imp (fun f t _ ht hh => hold_mono hc h1 h2 hl hb f t ht hh) (Nat.zero_le _) h.2
theorem own_mono {x : List Int} {o : Nat → Int} (hc : 0 ≤ ca) (h1 : lo' ≤ lo) (h2 : hi ≤ hi') : ∀ k, OilLe (ownO ca x lo' hi' o k) (ownO ca x lo hi o k)
  | 0 => OilLe.refl o
  | k + 1 => roll_mono hc h1 h2 x _ (own_mono hc h1 h2 k)
theorem lasts_mono {x nd : List Int} {o : Nat → Int} (hc : 0 ≤ ca) (h1 : lo' ≤ lo) (h2 : hi ≤ hi') : ∀ m k, lastsFrom ca x nd lo' hi' o k m ≤ lastsFrom ca x nd lo hi o k m
  | 0, _ => Nat.le_refl _
  | m + 1, k => by
    rw [lastsFrom, lastsFrom]
    by_cases h : enB x nd (ownO ca x lo' hi' o k) = true
    · rw [if_pos h, if_pos (en_mono (own_mono hc h1 h2 k) h)]
      have := lasts_mono (x := x) (nd := nd) (o := o) hc h1 h2 m (k + 1)
      omega
    · rw [if_neg h]
      omega
theorem wide_lane (h : laneErr xss lo hi ca = 0) (h0 : 0 ≤ lo') (h1 : lo' ≤ lo) (h2 : hi ≤ hi') (h9 : hi' ≤ 9) : laneErr xss lo' hi' ca = 0 := by
  obtain ⟨a, b, c, d, e, f, g, k, l⟩ := laneOk h
  exact mk_laneErr a b c d h0 (by omega) h9 k l
theorem wide_balls (h : ballsErr xss lo hi ca bss = 0) (h0 : 0 ≤ lo') (h1 : lo' ≤ lo) (h2 : hi ≤ hi') (h9 : hi' ≤ 9) : ballsErr xss lo' hi' ca bss = 0 := by
  obtain ⟨a, b, c⟩ := ballsOk h
  exact mk_ballsErr (wide_lane a h0 h1 h2 h9) b c
theorem wide_low (h : ballsErr xss lo hi ca bss = 0) (h0 : 0 ≤ lo') (h1 : lo' ≤ lo) (h2 : hi ≤ hi') (h9 : hi' ≤ 9) (r b : Nat) (hr : r < xss.length) (hb : b < (rx xss 0).length) : ix (rx (lowX xss bss lo' hi' ca) r) b ≤ ix (rx (lowX xss bss lo hi ca) r) b := by
  have hc := (laneOk (ballsOk h).1).2.2.2.2.2.2.2.1
  rw [lowX_at h hr hb, lowX_at (wide_balls h h0 h1 h2 h9) hr hb]
  refine cellO_mono hc bss r b (Int.le_refl _) _ fun i _ => ⟨?_, h2⟩
  split
  · exact h1
  · exact Int.le_refl _
theorem wide_high (h : ballsErr xss lo hi ca bss = 0) (h0 : 0 ≤ lo') (h1 : lo' ≤ lo) (h2 : hi ≤ hi') (h9 : hi' ≤ 9) (r b : Nat) (hr : r < xss.length) (hb : b < (rx xss 0).length) : ix (rx (highX xss bss lo hi ca) r) b ≤ ix (rx (highX xss bss lo' hi' ca) r) b := by
  have hc := (laneOk (ballsOk h).1).2.2.2.2.2.2.2.1
  rw [highX_at h hr hb, highX_at (wide_balls h h0 h1 h2 h9) hr hb]
  refine cellO_mono hc bss r b (Int.le_refl _) _ fun i _ => ⟨?_, h1⟩
  split
  · exact h2
  · exact Int.le_refl _

/-- The block with a greater need of line k in row r. -/
def needL (ls : Lines) (k r : Nat) (v : Int) : Lines := ls.set k ((lx ls k).1, (lx ls k).2.set r v)
theorem needL_len (ls : Lines) (k r : Nat) (v : Int) : (needL ls k r v).length = ls.length := by simp [needL]
theorem lx_needL {k r : Nat} {v : Int} (hk : k < ls.length) (j : Nat) : lx (needL ls k r v) j = if j = k then ((lx ls k).1, (lx ls k).2.set r v) else lx ls j := by
  unfold needL
  show List.getD _ _ _ = _
  rw [List.getD_eq_getElem?_getD, List.getElem?_set]
  by_cases h : j = k
  · subst h
    rw [if_pos rfl, if_pos rfl, if_pos hk]
    rfl
  · rw [if_neg (fun e => h e.symm), if_neg h]
    rw [← List.getD_eq_getElem?_getD]
    rfl
theorem ix_set (xs : List Int) (r i : Nat) (v : Int) : ix (xs.set r v) i = if i = r ∧ r < xs.length then v else ix xs i := by
  unfold ix
  rw [List.getD_eq_getElem?_getD, List.getD_eq_getElem?_getD, List.getElem?_set]
  by_cases h : i = r
  · subst h
    by_cases h2 : i < xs.length
    · simp [h2]
    · simp [h2]
  · rw [if_neg (fun e => h e.symm), if_neg (fun e => h e.1)]
theorem needL_ge {k r : Nat} {v : Int} (hk : k < ls.length) (hv : ix (lx ls k).2 r ≤ v) (j : Nat) : (lx (needL ls k r v) j).1 = (lx ls j).1 ∧ ∀ i, ix (lx ls j).2 i ≤ ix (lx (needL ls k r v) j).2 i := by
  rw [lx_needL hk]
  by_cases h : j = k
  · subst h
    rw [if_pos rfl]
    refine ⟨rfl, fun i => ?_⟩
    dsimp only
    rw [ix_set]
    split
    · rename_i e
      rw [e.1]
      exact hv
    · exact Int.le_refl _
  · rw [if_neg h]
    exact ⟨rfl, fun i => Int.le_refl _⟩
theorem few_needL {k r : Nat} {v : Int} (hk : k < ls.length) (h : fewB ls = true) : fewB (needL ls k r v) = true := by
  obtain ⟨h1, h2⟩ := fewB_le h
  simp only [fewB, Bool.and_eq_true, decide_eq_true_eq, allB_iff]
  refine ⟨by rw [needL_len]; exact h1, fun j hj => ?_⟩
  rw [needL_len] at hj
  have a := h2 j hj
  have b := h2 k hk
  dsimp only
  rw [lx_needL hk]
  by_cases e : j = k
  · rw [if_pos e]
    simpa using b
  · rw [if_neg e]
    simpa using a
end
end Go.Proofs.Ytgnonfomlgkpcaa
