/-
  Ball by ball: plain arithmetic.
-/
import Derived.Test.YtgnonfomlgkpcaaPicked
namespace Go.Proofs.Ytgnonfomlgkpcaa

theorem mk_laneErr {xss : List (List Int)} {lo hi ca : Int} (h0 : 0 < xss.length) (h8 : xss.length ≤ 8) (hr : ∀ k, k < xss.length → 0 < (rx xss k).length ∧ (rx xss k).length = (rx xss 0).length ∧ (rx xss k).length ≤ 12)
    (hv : ∀ k, k < xss.length → ∀ j, j < (rx xss k).length → 0 ≤ ix (rx xss k) j ∧ ix (rx xss k) j ≤ 100) (hlo : 0 ≤ lo) (hlh : lo ≤ hi) (hhi : hi ≤ 9) (hca : 0 ≤ ca) (hca' : ca ≤ 100) : laneErr xss lo hi ca = 0 := by
  refine laneErr_0 ?_ ?_
  · simp only [limB, Bool.and_eq_true, decide_eq_true_eq, allB_iff]
    exact ⟨h8, fun k hk => decide_eq_true (hr k hk).2.2⟩
  · simp only [argB, Bool.and_eq_true, decide_eq_true_eq, allB_iff]
    refine ⟨⟨⟨⟨h0, fun k hk => ?_⟩, (inB_eq _ _ _).2 ⟨hlo, hlh⟩⟩, hhi⟩, (inB_eq _ _ _).2 ⟨hca, hca'⟩⟩
    simp only [rowB, Bool.and_eq_true, decide_eq_true_eq, allB_iff]
    exact ⟨⟨(hr k hk).1, (hr k hk).2.1⟩, fun j hj => (inB_eq _ _ _).2 (hv k hk j hj)⟩

theorem mk_ballsErr {xss yss : List (List Int)} {lo hi ca : Int} (h : laneErr xss lo hi ca = 0) (h20 : yss.length ≤ 20) (hy : ∀ k, k < yss.length → (rx yss k).length = xss.length ∧ ∀ j, j < xss.length → 0 ≤ ix (rx yss k) j ∧ ix (rx yss k) j < (rx xss 0).length) : ballsErr xss lo hi ca yss = 0 := by
  rw [ballsErr, if_pos h, if_pos h20, if_pos]
  rw [allB_iff]
  intro k hk
  simp only [ballB, Bool.and_eq_true, decide_eq_true_eq, allB_iff]
  obtain ⟨a, b⟩ := hy k hk
  refine ⟨a, fun j hj => (inB_eq _ _ _).2 ?_⟩
  have := b j (by omega)
  omega

theorem wearsOk {n : Nat} {lo hi : Int} {bss wss : List (List Int)} (h : wearsB n lo hi bss wss = true) : wss.length = bss.length ∧ ∀ k, k < bss.length → (rx wss k).length = n ∧ ∀ j, j < n → lo ≤ ix (rx wss k) j ∧ ix (rx wss k) j ≤ hi := by
  simp only [wearsB, Bool.and_eq_true, decide_eq_true_eq, allB_iff] at h
  refine ⟨h.1, fun k hk => ?_⟩
  have c1 := h.2 k (by omega)
  simp only [wearB, Bool.and_eq_true, decide_eq_true_eq, allB_iff] at c1
  exact ⟨c1.1, fun j hj => inB_le (c1.2 j (by omega))⟩
theorem mk_wears {n : Nat} {lo hi : Int} {bss wss : List (List Int)} (hl : wss.length = bss.length) (h : ∀ k, k < bss.length → (rx wss k).length = n ∧ ∀ j, j < n → lo ≤ ix (rx wss k) j ∧ ix (rx wss k) j ≤ hi) : wearsB n lo hi bss wss = true := by
  simp only [wearsB, Bool.and_eq_true, decide_eq_true_eq, allB_iff]
  refine ⟨hl, fun k hk => ?_⟩
  obtain ⟨a, b⟩ := h k (by omega)
  simp only [wearB, Bool.and_eq_true, decide_eq_true_eq, allB_iff]
  exact ⟨a, fun j hj => (inB_eq _ _ _).2 (b j (by omega))⟩
theorem mk_playErr {xss bss wss : List (List Int)} {lo hi ca : Int} (h : ballsErr xss lo hi ca bss = 0) (hw : wearsB xss.length lo hi bss wss = true) : playErr xss lo hi ca bss wss = 0 := by simp [playErr, h, hw]

theorem rx_takeL {xss : List (List Int)} {m i : Nat} (h : i < m) : rx (xss.take m) i = rx xss i := by simp [rx, List.getD_eq_getElem?_getD, h]
theorem rx_drop (xss : List (List Int)) (m i : Nat) : rx (xss.drop m) i = rx xss (m + i) := by simp [rx, List.getD_eq_getElem?_getD, List.getElem?_drop]

/-- A worn pattern is one of a lane. -/
theorem lane_worn {xss : List (List Int)} {lo hi ca : Int} (h : laneErr xss lo hi ca = 0) {o : Nat → Int} (ho : Lvl o) : laneErr (rowsOf o (rx xss 0).length xss.length) lo hi ca = 0 := by
  obtain ⟨h0, h8, hr, _, hlo, hlh, hhi, hca, hca'⟩ := laneOk h
  obtain ⟨p0, _, p12⟩ := hr 0 h0
  refine mk_laneErr (by rw [rowsOf_len]; exact h0) (by rw [rowsOf_len]; exact h8) (fun k hk => ?_) (fun k hk j hj => ?_) hlo hlh hhi hca hca'
  · rw [rowsOf_len] at hk
    rw [rx_rowsOf _ hk, rx_rowsOf _ h0, rowOf_len, rowOf_len]
    exact ⟨p0, rfl, p12⟩
  · rw [rowsOf_len] at hk
    rw [rx_rowsOf _ hk] at hj ⊢
    rw [rowOf_len] at hj
    rw [ix_rowOf _ hj]
    exact ho _

theorem lvl_playO' {ca : Int} {n : Nat} {bss wss : List (List Int)} {lo hi : Int} {o : Nat → Int} (h : Lvl o) (hlo : 0 ≤ lo) (hw : wearsB n lo hi bss wss = true) : ∀ k, k ≤ bss.length → ∀ r b, r < n → b < 12 → (∀ i, i < k → ∀ j, j < n → 0 ≤ ix (rx bss i) j ∧ ix (rx bss i) j < 12) →
    0 ≤ playO ca n bss wss o k (r * 12 + b) ∧ playO ca n bss wss o k (r * 12 + b) ≤ 100 := by
  intro k hk r b hr hb hx
  rw [playO_cell ca bss wss o n r b hr hb k hx]
  have hw' := (wearsOk hw).2
  induction k with
  | zero => exact h _
  | succ k ih =>
    simp only [cellO]
    split
    · have := (hw' k (by omega)).2 r hr
      exact wornF_lvl _ _ _ _ (by omega)
    · exact ih (by omega) (fun i hi => hx i (by omega))

theorem cellO_none (ca : Int) (bss : List (List Int)) (r b : Nat) (bf ow : Nat → Int) (x : Int) : ∀ k, (∀ i, i < k → ix (rx bss i) r ≠ (b : Int)) → cellO ca bss r b bf ow x k = x
  | 0, _ => rfl
  | k + 1, h => by
    simp only [cellO]
    rw [if_neg (h k (by omega))]
    exact cellO_none ca bss r b bf ow x k (fun i hi => h i (by omega))
theorem cellO_congrB (ca : Int) (bss bss' : List (List Int)) (r b : Nat) (bf ow bf' ow' : Nat → Int) (x : Int) : ∀ k, (∀ i, i < k → rx bss i = rx bss' i ∧ bf i = bf' i ∧ ow i = ow' i) → cellO ca bss r b bf ow x k = cellO ca bss' r b bf' ow' x k
  | 0, _ => rfl
  | k + 1, h => by
    simp only [cellO]
    rw [cellO_congrB ca bss bss' r b bf ow bf' ow' x k (fun i hi => h i (by omega)), (h k (by omega)).1, (h k (by omega)).2.1, (h k (by omega)).2.2]

theorem oilOf_rowsOf (o : Nat → Int) {nb n r b : Nat} (hr : r < n) (hb : b < nb) (h12 : nb ≤ 12) : oilOf (rowsOf o nb n) (r * 12 + b) = o (r * 12 + b) := by
  simp only [oilOf]
  rw [show (r * 12 + b) / 12 = r by omega, show (r * 12 + b) % 12 = b by omega, rx_rowsOf _ hr, ix_rowOf _ hb]
theorem oilOf_at (xss : List (List Int)) {r b : Nat} (hb : b < 12) : oilOf xss (r * 12 + b) = ix (rx xss r) b := by
  simp only [oilOf]
  rw [show (r * 12 + b) / 12 = r by omega, show (r * 12 + b) % 12 = b by omega]

/-- The numbers of a played pattern. -/
theorem playX_at {xss bss wss : List (List Int)} {lo hi ca : Int} (h : ballsErr xss lo hi ca bss = 0) {r b : Nat} (hr : r < xss.length) (hb : b < (rx xss 0).length) :
    ix (rx (playX xss bss wss ca) r) b = cellO ca bss r b (fun i => if 0 < r then ix (rx wss i) (r - 1) else 0) (fun i => ix (rx wss i) r) (ix (rx xss r) b) bss.length := by
  obtain ⟨hle, _, hbx⟩ := ballsOk h
  obtain ⟨hx0, hx8, hxr, _⟩ := laneOk hle
  have h12 := (hxr 0 hx0).2.2
  rw [playX, rx_rowsOf _ hr, ix_rowOf _ hb, playO_cell _ _ _ _ _ _ _ hr (by omega) _ (fun i hi j hj => by have := (hbx i hi).2 j hj; omega), oilOf_at _ (by omega)]
theorem playX_row {xss bss wss : List (List Int)} {ca : Int} {r : Nat} (hr : r < xss.length) : (rx (playX xss bss wss ca) r).length = (rx xss 0).length := by rw [playX, rx_rowsOf _ hr, rowOf_len]

theorem grid_ext {xss yss : List (List Int)} (h : xss.length = yss.length) (h1 : ∀ r, r < xss.length → (rx xss r).length = (rx yss r).length) (h2 : ∀ r, r < xss.length → ∀ b, b < (rx xss r).length → ix (rx xss r) b = ix (rx yss r) b) : xss = yss := by
  refine List.ext_getElem h fun r a b => ?_
  rw [← rx_lt a, ← rx_lt b]
  refine List.ext_getElem (h1 r a) fun i c d => ?_
  rw [← ix_lt c, ← ix_lt d]
  exact h2 r a i c

section
variable {xss bss wss : List (List Int)} {lo hi ca : Int} {m : Nat}

theorem steps_take (h : ballsErr xss lo hi ca bss = 0) (hw : wearsB xss.length lo hi bss wss = true) : playErr xss lo hi ca (bss.take m) (wss.take m) = 0 := by
  obtain ⟨hle, h20, hbx⟩ := ballsOk h
  obtain ⟨hwl, hwx⟩ := wearsOk hw
  refine mk_playErr (mk_ballsErr hle (by rw [List.length_take]; omega) fun k hk => ?_) (mk_wears (by simp [hwl]) fun k hk => ?_)
  · rw [List.length_take] at hk
    rw [rx_takeL (by omega)]
    exact hbx k (by omega)
  · rw [List.length_take] at hk
    rw [rx_takeL (by omega)]
    exact hwx k (by omega)

theorem steps_lane (h : ballsErr xss lo hi ca bss = 0) (hw : wearsB xss.length lo hi bss wss = true) : laneErr (playX xss (bss.take m) (wss.take m) ca) lo hi ca = 0 := by
  have he := steps_take (m := m) h hw
  obtain ⟨hle, _, _⟩ := ballsOk h
  obtain ⟨h0, h8, hr, hv, hlo, hlh, hhi, hca, hca'⟩ := laneOk hle
  obtain ⟨p0, _, p12⟩ := hr 0 h0
  have hbt : ballsErr xss lo hi ca (bss.take m) = 0 := by
    by_cases e : ballsErr xss lo hi ca (bss.take m) = 0
    · exact e
    · rw [playErr, if_neg e] at he; exact absurd he e
  have hwt : wearsB xss.length lo hi (bss.take m) (wss.take m) = true := by
    rw [playErr, if_pos hbt] at he
    by_cases e : wearsB xss.length lo hi (bss.take m) (wss.take m) = true
    · exact e
    · rw [if_neg e] at he; cases he
  have hl : (playX xss (bss.take m) (wss.take m) ca).length = xss.length := playX_len _ _ _ _
  refine mk_laneErr (by omega) (by omega) (fun k hk => ?_) (fun k hk j hj => ?_) hlo hlh hhi hca hca'
  · rw [hl] at hk
    rw [playX_row hk, playX_row h0]
    exact ⟨p0, rfl, p12⟩
  · rw [hl] at hk
    rw [playX_row hk] at hj
    rw [playX, rx_rowsOf _ hk, ix_rowOf _ hj]
    exact lvl_playO' (lvl_oilOf hle) hlo hwt _ (Nat.le_refl _) k j hk (by omega) (fun i hi j hj => by have := ((ballsOk hbt).2.2 i hi).2 j hj; omega)

theorem steps_drop (h : ballsErr xss lo hi ca bss = 0) (hw : wearsB xss.length lo hi bss wss = true) : playErr (playX xss (bss.take m) (wss.take m) ca) lo hi ca (bss.drop m) (wss.drop m) = 0 := by
  obtain ⟨hle, h20, hbx⟩ := ballsOk h
  obtain ⟨h0, _⟩ := laneOk hle
  obtain ⟨hwl, hwx⟩ := wearsOk hw
  have hl : (playX xss (bss.take m) (wss.take m) ca).length = xss.length := playX_len _ _ _ _
  refine mk_playErr (mk_ballsErr (steps_lane h hw) (by rw [List.length_drop]; omega) fun k hk => ?_) (mk_wears (by simp [hwl]) fun k hk => ?_)
  · rw [List.length_drop] at hk
    rw [rx_drop, hl, playX_row h0]
    exact hbx (m + k) (by omega)
  · rw [List.length_drop] at hk
    rw [rx_drop, hl]
    exact hwx (m + k) (by omega)

theorem steps_last (h : ballsErr xss lo hi ca bss = 0) (hw : wearsB xss.length lo hi bss wss = true) (hm : bss.length = m + 1) : playX (playX xss (bss.take m) (wss.take m) ca) (bss.drop m) (wss.drop m) ca = playX xss bss wss ca := by
  obtain ⟨hle, h20, hbx⟩ := ballsOk h
  obtain ⟨h0, _⟩ := laneOk hle
  have hl : (playX xss (bss.take m) (wss.take m) ca).length = xss.length := playX_len _ _ _ _
  have hd := steps_drop (m := m) h hw
  have hbd : ballsErr (playX xss (bss.take m) (wss.take m) ca) lo hi ca (bss.drop m) = 0 := by
    by_cases e : ballsErr (playX xss (bss.take m) (wss.take m) ca) lo hi ca (bss.drop m) = 0
    · exact e
    · rw [playErr, if_neg e] at hd; exact absurd hd e
  have he := steps_take (m := m) h hw
  have hbt : ballsErr xss lo hi ca (bss.take m) = 0 := by
    by_cases e : ballsErr xss lo hi ca (bss.take m) = 0
    · exact e
    · rw [playErr, if_neg e] at he; exact absurd he e
  refine grid_ext (by rw [playX_len, playX_len, playX_len]) (fun r hr => ?_) (fun r hr b hb => ?_)
  · rw [playX_len, hl] at hr
    rw [playX_row (by omega), playX_row hr, playX_row h0]
  · rw [playX_len, hl] at hr
    rw [playX_row (by omega), playX_row h0] at hb
    rw [playX_at hbd (by omega) (by rw [playX_row h0]; exact hb), playX_at h hr hb, playX_at hbt hr hb]
    have e1 : (bss.drop m).length = 1 := by rw [List.length_drop]; omega
    have e2 : (bss.take m).length = m := by rw [List.length_take]; omega
    rw [e1, e2, hm]
    simp only [cellO, rx_drop, Nat.add_zero]
    rw [cellO_congrB ca (bss.take m) bss r b (fun i => if 0 < r then ix (rx (wss.take m) i) (r - 1) else 0) (fun i => ix (rx (wss.take m) i) r) (fun i => if 0 < r then ix (rx wss i) (r - 1) else 0) (fun i => ix (rx wss i) r) _ m
      (fun i hi => by simp only [rx_takeL hi]; exact ⟨trivial, trivial, trivial⟩)]

theorem steps_same (h : ballsErr xss lo hi ca bss = 0) {r b : Nat} (hr : r < xss.length) (hb : b < (rx xss 0).length) (hn : ∀ i, i < bss.length → ix (rx bss i) r ≠ (b : Int)) : ix (rx (playX xss bss wss ca) r) b = ix (rx xss r) b := by
  rw [playX_at h hr hb]
  exact cellO_none _ _ _ _ _ _ _ _ hn
end
end Go.Proofs.Ytgnonfomlgkpcaa
