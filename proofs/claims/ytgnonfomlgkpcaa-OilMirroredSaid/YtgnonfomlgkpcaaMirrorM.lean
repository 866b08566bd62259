/-
  All boards mirrored: the same holds, mirrored: plain.
-/
import Derived.Test.YtgnonfomlgkpcaaPlA
import Derived.Test.YtgnonfomlgkpcaaMirrorC
namespace Go.Proofs.Ytgnonfomlgkpcaa

theorem scanL_congr {f f' : Nat → Option (List Int)} : ∀ (k a : Nat), (∀ t, a ≤ t → t < a + k → f t = f' t) → scanL f a k = scanL f' a k
  | 0, _, _ => rfl
  | k + 1, a, h => by
    rw [scanL, scanL, h a (Nat.le_refl _) (by omega), scanL_congr k (a + 1) fun t h1 h2 => h t (by omega) (by omega)]
theorem restL_congr {n : Nat} {hold hold' : Nat → Nat → Bool} (h : ∀ f t, f ≤ t → t ≤ n → hold f t = hold' f t) : ∀ (m fr : Nat), fr ≤ n → restL n hold m fr = restL n hold' m fr
  | 0, fr, hf => by rw [restL, restL, h fr n hf (Nat.le_refl _)]
  | m + 1, fr, hf => by
    rw [restL, restL, h fr n hf (Nat.le_refl _)]
    rw [scanL_congr (f := tryL hold (restL n hold m) fr) (f' := tryL hold' (restL n hold' m) fr)]
    intro t h1 h2
    unfold tryL
    rw [h fr t (by omega) (by omega), restL_congr h m t (by omega)]
theorem planFrom_congr {n : Nat} {hold hold' : Nat → Nat → Bool} (h : ∀ f t, f ≤ t → t ≤ n → hold f t = hold' f t) : ∀ (k m : Nat), planFrom n hold m k = planFrom n hold' m k
  | 0, _ => rfl
  | k + 1, m => by rw [planFrom, planFrom, restL_congr h m 0 (Nat.zero_le _), planFrom_congr h k (m + 1)]

def acrL (n : Int) (ls : Lines) : Lines := (List.range ls.length).map fun k => (acrR n (lx ls k).1, (lx ls k).2)
theorem acrL_len (n : Int) (ls : Lines) : (acrL n ls).length = ls.length := by simp [acrL]
theorem lx_acrL {n : Int} {ls : Lines} {k : Nat} (h : k < ls.length) : lx (acrL n ls) k = (acrR n (lx ls k).1, (lx ls k).2) := by
  unfold lx acrL
  rw [List.getD_eq_getElem?_getD]
  simp [h, lx]
def acrB (n : Int) (bss : List (List Int)) : List (List Int) := (List.range bss.length).map fun i => acrR n (rx bss i)
theorem acrB_len (n : Int) (bss : List (List Int)) : (acrB n bss).length = bss.length := by simp [acrB]
theorem rx_acrB {n : Int} {bss : List (List Int)} {i : Nat} (h : i < bss.length) : rx (acrB n bss) i = acrR n (rx bss i) := by rw [rx_lt (by rw [acrB_len]; exact h)]; simp [acrB]

section
variable {xss bss : List (List Int)} {lo hi ca : Int} {ls : Lines}
theorem mir_row0 (h : 0 < xss.length) : (rx (mirX xss) 0).length = (rx xss 0).length := by rw [rx_mirX h, mirR_len]
theorem mir_lane (h : laneErr xss lo hi ca = 0) : laneErr (mirX xss) lo hi ca = 0 := by
  obtain ⟨h0, h8, hr, hv, a, b, c, d, e⟩ := laneOk h
  refine mk_laneErr (by rw [mirX_len]; exact h0) (by rw [mirX_len]; exact h8) (fun k hk => ?_) (fun k hk j hj => ?_) a b c d e
  · rw [mirX_len] at hk
    rw [mir_row0 h0, rx_mirX hk, mirR_len]
    exact hr k hk
  · rw [mirX_len] at hk
    rw [rx_mirX hk, mirR_len] at hj
    rw [rx_mirX hk, ix_mirR hj]
    exact hv k hk _ (by omega)
theorem acr_ball {n : Nat} {x : List Int} {m : Nat} (h : x.length = m ∧ ∀ j, j < m → 0 ≤ ix x j ∧ ix x j < n) : (acrR n x).length = m ∧ ∀ j, j < m → 0 ≤ ix (acrR n x) j ∧ ix (acrR n x) j < n := by
  refine ⟨by rw [acrR_len]; exact h.1, fun j hj => ?_⟩
  rw [ix_acrR (by rw [h.1]; exact hj)]
  have := h.2 j hj
  omega
theorem mir_balls (h : ballsErr xss lo hi ca bss = 0) : ballsErr (mirX xss) lo hi ca (acrB (rx xss 0).length bss) = 0 := by
  obtain ⟨h1, h2, h3⟩ := ballsOk h
  refine mk_ballsErr (mir_lane h1) (by rw [acrB_len]; exact h2) fun k hk => ?_
  rw [acrB_len] at hk
  rw [rx_acrB hk, mirX_len, mir_row0 (laneOk h1).1]
  exact acr_ball (h3 k hk)
theorem cell_mir {n r b : Nat} (hb : b < n) {bf ow : Nat → Int} {x : Int} : ∀ k, k ≤ bss.length → (∀ i, i < bss.length → r < (rx bss i).length) → cellO ca (acrB n bss) r b bf ow x k = cellO ca bss r (n - 1 - b) bf ow x k
  | 0, _, _ => rfl
  | k + 1, hk, hl => by
    have e : ix (rx (acrB n bss) k) r = (b : Int) ↔ ix (rx bss k) r = ((n - 1 - b : Nat) : Int) := by
      rw [rx_acrB (by omega), ix_acrR (hl k (by omega))]
      omega
    rw [cellO, cellO, cell_mir hb k (by omega) hl]
    by_cases h : ix (rx bss k) r = ((n - 1 - b : Nat) : Int)
    · rw [if_pos h, if_pos (e.2 h)]
    · rw [if_neg h, if_neg (fun x => h (e.1 x))]
theorem ext_rows {a b : List (List Int)} (h : a.length = b.length) (h1 : ∀ r, r < a.length → (rx a r).length = (rx b r).length) (h2 : ∀ r, r < a.length → ∀ j, j < (rx a r).length → ix (rx a r) j = ix (rx b r) j) : a = b := by
  refine List.ext_getElem h fun r hr hr' => ?_
  have e1 := h1 r hr
  have e2 := h2 r hr
  rw [rx_lt hr, rx_lt hr'] at e1 e2
  refine List.ext_getElem e1 fun j hj hj' => ?_
  have := e2 j hj
  rwa [ix_lt hj, ix_lt hj'] at this
theorem mir_low (h : ballsErr xss lo hi ca bss = 0) : mirX (lowX xss bss lo hi ca) = lowX (mirX xss) (acrB (rx xss 0).length bss) lo hi ca := by
  obtain ⟨h1, _, h3⟩ := ballsOk h
  obtain ⟨h0, _, hr, _⟩ := laneOk h1
  have hl : ∀ i, i < bss.length → ∀ r, r < xss.length → r < (rx bss i).length := fun i hi r hr => by rw [(h3 i hi).1]; exact hr
  refine ext_rows (by rw [mirX_len, lowX_len, lowX_len, mirX_len]) (fun r hr' => ?_) (fun r hr' j hj => ?_)
  · rw [mirX_len, lowX_len] at hr'
    rw [rx_mirX (by rw [lowX_len]; exact hr'), mirR_len, lowX_row hr', lowX_row (by rw [mirX_len]; exact hr'), mir_row0 h0]
  · rw [mirX_len, lowX_len] at hr'
    rw [rx_mirX (by rw [lowX_len]; exact hr'), mirR_len, lowX_row hr'] at hj
    rw [rx_mirX (by rw [lowX_len]; exact hr'), ix_mirR (by rw [lowX_row hr']; exact hj), lowX_row hr', lowX_at h hr' (by omega), lowX_at (mir_balls h) (by rw [mirX_len]; exact hr') (by rw [mir_row0 h0]; exact hj), acrB_len, cell_mir hj bss.length (Nat.le_refl _) (fun i hi => hl i hi r hr'), rx_mirX hr', ix_mirR (by rw [(hr r hr').2.1]; exact hj), (hr r hr').2.1]
theorem mir_high (h : ballsErr xss lo hi ca bss = 0) : mirX (highX xss bss lo hi ca) = highX (mirX xss) (acrB (rx xss 0).length bss) lo hi ca := by
  obtain ⟨h1, _, h3⟩ := ballsOk h
  obtain ⟨h0, _, hr, _⟩ := laneOk h1
  have hl : ∀ i, i < bss.length → ∀ r, r < xss.length → r < (rx bss i).length := fun i hi r hr => by rw [(h3 i hi).1]; exact hr
  refine ext_rows (by rw [mirX_len, highX_len, highX_len, mirX_len]) (fun r hr' => ?_) (fun r hr' j hj => ?_)
  · rw [mirX_len, highX_len] at hr'
    rw [rx_mirX (by rw [highX_len]; exact hr'), mirR_len, highX_row hr', highX_row (by rw [mirX_len]; exact hr'), mir_row0 h0]
  · rw [mirX_len, highX_len] at hr'
    rw [rx_mirX (by rw [highX_len]; exact hr'), mirR_len, highX_row hr'] at hj
    rw [rx_mirX (by rw [highX_len]; exact hr'), ix_mirR (by rw [highX_row hr']; exact hj), highX_row hr', highX_at h hr' (by omega), highX_at (mir_balls h) (by rw [mirX_len]; exact hr') (by rw [mir_row0 h0]; exact hj), acrB_len, cell_mir hj bss.length (Nat.le_refl _) (fun i hi => hl i hi r hr'), rx_mirX hr', ix_mirR (by rw [(hr r hr').2.1]; exact hj), (hr r hr').2.1]

theorem mk_lineB {x nd : List Int} (h1 : x.length = xss.length) (h2 : ∀ j, j < xss.length → 0 ≤ ix x j ∧ ix x j < (rx xss 0).length) (h3 : nd.length = xss.length) (h4 : ∀ j, j < xss.length → 0 ≤ ix nd j ∧ ix nd j ≤ 100) : lineB xss x nd = true := by
  simp only [lineB, ballB, Bool.and_eq_true, decide_eq_true_eq, allB_iff]
  refine ⟨⟨⟨h1, fun j hj => ?_⟩, h3⟩, fun j hj => (inB_eq _ _ _).2 (h4 j (by omega))⟩
  have := h2 j (by omega)
  exact (inB_eq _ _ _).2 (by omega)
theorem mir_block (h : blockErr xss lo hi ca ls = 0) : blockErr (mirX xss) lo hi ca (acrL (rx xss 0).length ls) = 0 := by
  obtain ⟨h1, h2, h3⟩ := blockOk h
  have h0 := (laneOk h1).1
  unfold blockErr
  rw [if_pos (mir_lane h1), if_pos (by rw [acrL_len]; exact h2), if_pos]
  unfold linesB
  rw [allB_iff]
  intro k hk
  rw [acrL_len] at hk
  dsimp only
  rw [lx_acrL hk]
  obtain ⟨a, b, c⟩ := lineOk (linesOk h3 k hk)
  have a' := acr_ball a
  exact mk_lineB (by rw [mirX_len]; exact a'.1) (by rw [mirX_len, mir_row0 h0]; exact a'.2) (by rw [mirX_len]; exact b) (by rw [mirX_len]; exact c)
theorem ballsP_acr (n : Int) (f i : Nat) (hi' : i ≤ ls.length) : ballsP (acrL n ls) f i = acrB n (ballsP ls f i) := by
  refine List.ext_getElem (by rw [ballsP_len, acrB_len, ballsP_len]) fun k h1 h2 => ?_
  have hk : k < i - f := by rw [ballsP_len] at h1; exact h1
  have e1 : (ballsP (acrL n ls) f i)[k] = rx (ballsP (acrL n ls) f i) k := (rx_lt h1).symm
  have e2 : (acrB n (ballsP ls f i))[k] = rx (acrB n (ballsP ls f i)) k := (rx_lt h2).symm
  rw [e1, e2, rx_ballsP hk, lx_acrL (by omega), rx_acrB (by rw [ballsP_len]; exact hk), rx_ballsP hk]
theorem mir_play (h : blockErr xss lo hi ca ls = 0) (f i : Nat) (hi' : i < ls.length) : playP (mirX xss) lo hi ca (acrL (rx xss 0).length ls) f i = playP xss lo hi ca ls f i := by
  obtain ⟨h1, h2, h3⟩ := blockOk h
  obtain ⟨h0, _, hr, _⟩ := laneOk h1
  have h12 := (hr 0 h0).2.2
  have hb := ballsP_ok h (f := f) (i := i) (by omega)
  have hb2 := ballsP_ok (mir_block h) (f := f) (i := i) (by rw [acrL_len]; omega)
  have hl := linesOk h3 i hi'
  have hl2 : lineB (mirX xss) (lx (acrL (rx xss 0).length ls) i).1 (lx (acrL (rx xss 0).length ls) i).2 = true := linesOk (blockOk (mir_block h)).2.2 i (by rw [acrL_len]; exact hi')
  have hbx := (ballsOk hb).2.2
  have hbx2 := (ballsOk hb2).2.2
  rw [playP, playP, refPlayB_eq hb hl, refPlayB_eq hb2 hl2, lx_acrL hi', enB, enB, acrR_len]
  refine Bool.eq_iff_iff.2 ?_
  simp only [List.all_eq_true, List.mem_range]
  obtain ⟨a, b, c⟩ := lineOk hl
  refine forall_congr' fun r => forall_congr' fun hr' => ?_
  have hrx : r < xss.length := by rw [← a.1]; exact hr'
  have hxr := a.2 r hrx
  unfold enAt
  rw [ix_acrR hr', endO_cell _ _ _ _ _ _ _ _ hrx (by omega) _ (fun k hk j hj => by have := (hbx k hk).2 j hj; omega)]
  rw [endO_cell _ _ _ _ _ _ _ _ (show r < (mirX xss).length by rw [mirX_len]; exact hrx) (by omega) _ (fun k hk j hj => by
    have := (hbx2 k hk).2 j hj
    rw [mir_row0 h0] at this
    omega)]
  rw [ballsP_acr _ _ _ (by omega), acrB_len]
  have hn : ((rx xss 0).length : Int) - 1 - ix (lx ls i).1 r = (((rx xss 0).length - 1 - (ix (lx ls i).1 r).toNat : Nat) : Int) := by omega
  rw [hn, Int.toNat_natCast, cell_mir (by omega) _ (Nat.le_refl _) (fun k hk => by rw [(hbx k hk).1]; exact hrx), oilOf_at _ (by omega), oilOf_at _ (by omega), rx_mirX hrx, ix_mirR (by rw [(hr r hrx).2.1]; omega), (hr r hrx).2.1]
  rw [show (rx xss 0).length - 1 - ((rx xss 0).length - 1 - (ix (lx ls i).1 r).toNat) = (ix (lx ls i).1 r).toNat by omega]
theorem mir_plan (h : blockErr xss lo hi ca ls = 0) : planB (mirX xss) lo hi ca (acrL (rx xss 0).length ls) = planB xss lo hi ca ls := by
  unfold planB planL
  rw [acrL_len]
  refine planFrom_congr (fun f t h1 h2 => Bool.eq_iff_iff.2 ?_) _ _
  rw [holdL_iff h f t h1 h2, holdL_iff (mir_block h) f t h1 (by rw [acrL_len]; exact h2)]
  refine forall_congr' fun j => forall_congr' fun h3 => forall_congr' fun h4 => ?_
  rw [mir_play h f j (by omega)]
end
end Go.Proofs.Ytgnonfomlgkpcaa
