/-
  The oil of one cell behind balls: plain arithmetic.
-/
import Derived.Test.YtgnonfomlgkpcaaM
namespace Go.Proofs.Ytgnonfomlgkpcaa

/-- The oil of the cell (r, b), which was x, behind the first k balls; bf and ow: the wear of ball i in the row before, and in this one. -/
def cellO (ca : Int) (bss : List (List Int)) (r b : Nat) (bf ow : Nat → Int) (x : Int) : Nat → Int
  | 0 => x
  | k + 1 => if ix (rx bss k) r = (b : Int) then wornF ca (cellO ca bss r b bf ow x k) (bf k) (ow k) else cellO ca bss r b bf ow x k

theorem roll_cell (ca : Int) (xs : List Int) (bf ow : Nat → Int) (o : Nat → Int) (n r b : Nat) (hr : r < n) (hb : b < 12) (hx : ∀ k, k < n → 0 ≤ ix xs k ∧ ix xs k < 12) :
    rollW ca xs bf ow o (List.range n) (r * 12 + b) = if ix xs r = (b : Int) then wornF ca (o (r * 12 + b)) (if 0 < r then bf r else 0) (ow r) else o (r * 12 + b) := by
  have low : ∀ m, m ≤ r → rollW ca xs bf ow o (List.range m) (r * 12 + b) = o (r * 12 + b) := by
    intro m hm
    induction m with
    | zero => rfl
    | succ m ih =>
      rw [List.range_succ, rollW_snoc]
      have := hx m (by omega)
      simp only [stepW, upd]
      rw [if_neg (by omega)]
      exact ih (by omega)
  have high : ∀ m, r < m → m ≤ n → rollW ca xs bf ow o (List.range m) (r * 12 + b) = rollW ca xs bf ow o (List.range (r + 1)) (r * 12 + b) := by
    intro m hm hn
    induction m with
    | zero => omega
    | succ m ih =>
      by_cases e : m = r
      · subst e; rfl
      · rw [List.range_succ, rollW_snoc]
        have := hx m (by omega)
        simp only [stepW, upd]
        rw [if_neg (by omega)]
        exact ih (by omega) (by omega)
  rw [high n hr (Nat.le_refl _), List.range_succ, rollW_snoc]
  have h0 := hx r hr
  simp only [stepW, upd]
  by_cases e : ix xs r = (b : Int)
  · rw [if_pos e, if_pos (by omega), e, Int.toNat_natCast, low r (Nat.le_refl _)]
  · rw [if_neg e, if_neg (by omega)]
    exact low r (Nat.le_refl _)

theorem playO_cell (ca : Int) (bss wss : List (List Int)) (o : Nat → Int) (n r b : Nat) (hr : r < n) (hb : b < 12) : ∀ k, (∀ i, i < k → ∀ j, j < n → 0 ≤ ix (rx bss i) j ∧ ix (rx bss i) j < 12) →
    playO ca n bss wss o k (r * 12 + b) = cellO ca bss r b (fun i => if 0 < r then ix (rx wss i) (r - 1) else 0) (fun i => ix (rx wss i) r) (o (r * 12 + b)) k
  | 0, _ => rfl
  | k + 1, hx => by
    rw [playO_succ, roll_cell _ _ _ _ _ _ _ _ hr hb (hx k (by omega)), playO_cell ca bss wss o n r b hr hb k (fun i hi => hx i (by omega))]
    rfl

theorem endO_cell (ca : Int) (bss : List (List Int)) (bf ow : Int) (o : Nat → Int) (n r b : Nat) (hr : r < n) (hb : b < 12) : ∀ k, (∀ i, i < k → ∀ j, j < n → 0 ≤ ix (rx bss i) j ∧ ix (rx bss i) j < 12) →
    endO ca n bss bf ow o k (r * 12 + b) = cellO ca bss r b (fun _ => if 0 < r then bf else 0) (fun _ => ow) (o (r * 12 + b)) k
  | 0, _ => rfl
  | k + 1, hx => by
    rw [endO_succ, roll_cell _ _ _ _ _ _ _ _ hr hb (hx k (by omega)), endO_cell ca bss bf ow o n r b hr hb k (fun i hi => hx i (by omega))]
    rfl

theorem cellO_congr (ca : Int) (bss : List (List Int)) (r b : Nat) (bf ow bf' ow' : Nat → Int) (x : Int) : ∀ k, (∀ i, i < k → bf i = bf' i ∧ ow i = ow' i) → cellO ca bss r b bf ow x k = cellO ca bss r b bf' ow' x k
  | 0, _ => rfl
  | k + 1, h => by
    simp only [cellO]
    rw [cellO_congr ca bss r b bf ow bf' ow' x k (fun i hi => h i (by omega)), (h k (by omega)).1, (h k (by omega)).2]

/-- A wear of each ball: of one row one end, of all others the other one. -/
def endedX (n m : Nat) (lo hi : Int) (row : Nat) (high : Bool) : List (List Int) := List.replicate m ((List.range n).map fun r => if (decide (r = row) != high) = true then hi else lo)

theorem rx_endedX {n m : Nat} {lo hi : Int} {row : Nat} {high : Bool} {i : Nat} (h : i < m) : rx (endedX n m lo hi row high) i = (List.range n).map fun r => if (decide (r = row) != high) = true then hi else lo := by
  rw [rx_lt (by simpa [endedX] using h)]
  simp [endedX]
theorem ix_endedX {n m : Nat} {lo hi : Int} {row : Nat} {high : Bool} {i r : Nat} (h : i < m) (hr : r < n) : ix (rx (endedX n m lo hi row high) i) r = if (decide (r = row) != high) = true then hi else lo := by
  rw [rx_endedX h, ix_lt (by simpa using hr)]
  simp

theorem ended_wears {n : Nat} {lo hi : Int} {row : Nat} {high : Bool} (bss : List (List Int)) (h : lo ≤ hi) : wearsB n lo hi bss (endedX n bss.length lo hi row high) = true := by
  have hl : (endedX n bss.length lo hi row high).length = bss.length := by simp [endedX]
  simp only [wearsB, Bool.and_eq_true, decide_eq_true_eq, allB_iff]
  refine ⟨hl, fun k hk => ?_⟩
  rw [hl] at hk
  have hn : (rx (endedX n bss.length lo hi row high) k).length = n := by rw [rx_endedX hk]; simp
  simp only [wearB, Bool.and_eq_true, decide_eq_true_eq, allB_iff]
  refine ⟨hn, fun j hj => ?_⟩
  rw [hn] at hj
  show inB (ix (rx (endedX n bss.length lo hi row high) k) j) lo hi = true
  rw [ix_endedX hk hj, inB_eq]
  split <;> omega

theorem ended_low {xss bss : List (List Int)} {lo hi ca : Int} (h : ballsErr xss lo hi ca bss = 0) {r : Nat} (hr : r < xss.length) :
    rx (rowsOf (endO ca xss.length bss lo hi (oilOf xss) bss.length) (rx xss 0).length xss.length) r = rx (rowsOf (playO ca xss.length bss (endedX xss.length bss.length lo hi r false) (oilOf xss) bss.length) (rx xss 0).length xss.length) r := by
  obtain ⟨hle, _, hbx⟩ := ballsOk h
  obtain ⟨hx0, hx8, hxr, _⟩ := laneOk hle
  have h12 := (hxr 0 hx0).2.2
  have hbd : ∀ i, i < bss.length → ∀ j, j < xss.length → 0 ≤ ix (rx bss i) j ∧ ix (rx bss i) j < 12 := fun i hi j hj => by
    have := (hbx i hi).2 j hj
    omega
  rw [rx_rowsOf _ hr, rx_rowsOf _ hr]
  refine List.ext_getElem (by simp [rowOf]) fun b h1 h2 => ?_
  rw [rowOf_len] at h1
  simp only [rowOf, List.getElem_map, List.getElem_range]
  rw [endO_cell _ _ _ _ _ _ _ _ hr (by omega) _ hbd, playO_cell _ _ _ _ _ _ _ hr (by omega) _ hbd]
  refine cellO_congr _ _ _ _ _ _ _ _ _ _ fun i hi => ⟨?_, ?_⟩
  · by_cases h0 : 0 < r
    · simp only [if_pos h0]
      rw [ix_endedX hi (by omega)]
      rw [if_neg (by simp; omega)]
    · simp only [if_neg h0]
  · rw [ix_endedX hi hr]
    simp

theorem ended_high {xss bss : List (List Int)} {lo hi ca : Int} (h : ballsErr xss lo hi ca bss = 0) {r : Nat} (hr : r < xss.length) :
    rx (rowsOf (endO ca xss.length bss hi lo (oilOf xss) bss.length) (rx xss 0).length xss.length) r = rx (rowsOf (playO ca xss.length bss (endedX xss.length bss.length lo hi r true) (oilOf xss) bss.length) (rx xss 0).length xss.length) r := by
  obtain ⟨hle, _, hbx⟩ := ballsOk h
  obtain ⟨hx0, hx8, hxr, _⟩ := laneOk hle
  have h12 := (hxr 0 hx0).2.2
  have hbd : ∀ i, i < bss.length → ∀ j, j < xss.length → 0 ≤ ix (rx bss i) j ∧ ix (rx bss i) j < 12 := fun i hi j hj => by
    have := (hbx i hi).2 j hj
    omega
  rw [rx_rowsOf _ hr, rx_rowsOf _ hr]
  refine List.ext_getElem (by simp [rowOf]) fun b h1 h2 => ?_
  rw [rowOf_len] at h1
  simp only [rowOf, List.getElem_map, List.getElem_range]
  rw [endO_cell _ _ _ _ _ _ _ _ hr (by omega) _ hbd, playO_cell _ _ _ _ _ _ _ hr (by omega) _ hbd]
  refine cellO_congr _ _ _ _ _ _ _ _ _ _ fun i hi => ⟨?_, ?_⟩
  · by_cases h0 : 0 < r
    · simp only [if_pos h0]
      rw [ix_endedX hi (by omega)]
      rw [if_pos (by simp; omega)]
    · simp only [if_neg h0]
  · rw [ix_endedX hi hr]
    simp
end Go.Proofs.Ytgnonfomlgkpcaa
