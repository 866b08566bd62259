/-
  The least and the greatest number of pins that can be left: plain facts; no program.
-/
import Derived.Test.YtpekajnjjhibjaaLeft
namespace Go.Proofs.Ytpekajnjjhibjaa
set_option linter.unusedVariables false

def LeftIs (r : Rk) (pins : Nat) (ball : List Rg) (lo hi : Nat) : Prop :=
  (∀ u, LeaveP r pins ball u → lo ≤ many u ∧ many u ≤ hi) ∧ (∃ u, LeaveP r pins ball u ∧ many u = lo) ∧ ∃ u, LeaveP r pins ball u ∧ many u = hi
theorem LeftIs.eq {r : Rk} {pins : Nat} {ball : List Rg} {lo hi lo' hi' : Nat} (h : LeftIs r pins ball lo hi) (h' : LeftIs r pins ball lo' hi') : lo = lo' ∧ hi = hi' := by
  obtain ⟨h1, ⟨u, hu, rfl⟩, ⟨v, hv, rfl⟩⟩ := h
  obtain ⟨h1', ⟨u', hu', rfl⟩, ⟨v', hv', rfl⟩⟩ := h'
  have := h1 _ hu'
  have := h1' _ hu
  have := h1 _ hv'
  have := h1' _ hv
  omega
theorem least_ex {P : Nat → Prop} : ∀ n, P n → ∃ m, P m ∧ ∀ k, P k → m ≤ k := by
  intro n
  induction n using Nat.strongRecOn with
  | _ n ih =>
    intro hn
    by_cases h : ∃ k, k < n ∧ P k
    · obtain ⟨k, hk, hp⟩ := h
      exact ih k hk hp
    · exact ⟨n, hn, fun k hk => Nat.le_of_not_lt fun h' => h ⟨k, h', hk⟩⟩
theorem leave_ex {r : Rk} {pins : Nat} {ball : List Rg} (hr : Ranges ball) : ∃ u, LeaveP r pins ball u :=
  ⟨_, fun k => (gx ball k).lo, surely r.links, fun k hk => ⟨Int.le_refl _, hr k hk⟩, surely_carry _, rfl⟩
theorem leftIs_ex {r : Rk} {pins : Nat} {ball : List Rg} (hr : Ranges ball) : ∃ p : Nat × Nat, LeftIs r pins ball p.1 p.2 := by
  obtain ⟨u0, h0⟩ := leave_ex (r := r) (pins := pins) hr
  obtain ⟨lo, ⟨u, hu, rfl⟩, h1⟩ := least_ex (P := fun n => ∃ u, LeaveP r pins ball u ∧ many u = n) _ ⟨u0, h0, rfl⟩
  obtain ⟨d, ⟨v, hv, rfl⟩, h2⟩ := least_ex (P := fun n => ∃ u, LeaveP r pins ball u ∧ 10 - many u = n) _ ⟨u0, h0, rfl⟩
  refine ⟨⟨many u, many v⟩, fun x hx => ⟨h1 _ ⟨x, hx, rfl⟩, ?_⟩, ⟨u, hu, rfl⟩, ⟨v, hv, rfl⟩⟩
  have := h2 _ ⟨x, hx, rfl⟩
  have := many_le x
  have := many_le v
  show many x ≤ many v
  omega
open Classical in
noncomputable def leftN (r : Rk) (pins : Nat) (ball : List Rg) : Nat × Nat := if h : ∃ p : Nat × Nat, LeftIs r pins ball p.1 p.2 then Classical.choose h else (0, 0)
theorem leftN_is {r : Rk} {pins : Nat} {ball : List Rg} (hr : Ranges ball) : LeftIs r pins ball (leftN r pins ball).1 (leftN r pins ball).2 := by
  unfold leftN
  rw [dif_pos (leftIs_ex hr)]
  exact Classical.choose_spec (leftIs_ex hr)
theorem leftN_eq {r : Rk} {pins : Nat} {ball : List Rg} {lo hi : Nat} (hr : Ranges ball) (h : LeftIs r pins ball lo hi) : leftN r pins ball = (lo, hi) := by
  obtain ⟨h1, h2⟩ := (leftN_is hr).eq h
  exact Prod.ext h1 h2
theorem leave_lt {r : Rk} {pins u : Nat} {ball : List Rg} (h : LeaveP r pins ball u) : u < 2 ^ 10 := by
  obtain ⟨b, c, _, _, rfl⟩ := h
  exact leftS_lt
theorem leave_sub {r : Rk} {pins u : Nat} {ball : List Rg} (hp : pins < 2 ^ 10) (h : LeaveP r pins ball u) : Sub u pins := by
  obtain ⟨b, c, _, _, rfl⟩ := h
  exact fun p hp' => ((mem_leftS hp).1 hp').1
theorem many_mono {a b : Nat} (ha : a < 2 ^ 10) (hb : b < 2 ^ 10) (h : Sub a b) : many a ≤ many b := by
  by_cases e : a = b
  · rw [e]; exact Nat.le_refl _
  · exact Nat.le_of_lt (many_lt ha hb h e)
/-- Within the rounds over the leaves: left says which are still to come. -/
structure LMid (r : Rk) (pins : Nat) (ball : List Rg) (left : Nat → Bool) (lo hi : Nat) : Prop where
  all : ∀ u, LeaveP r pins ball u → left u = false → lo ≤ many u ∧ many u ≤ hi
  low : lo = many pins ∨ ∃ u, LeaveP r pins ball u ∧ many u = lo
  high : hi = 0 ∨ ∃ u, LeaveP r pins ball u ∧ many u = hi
theorem LMid.start {r : Rk} {pins : Nat} {ball : List Rg} {left : Nat → Bool} (h : ∀ u, LeaveP r pins ball u → left u = true) : LMid r pins ball left (many pins) 0 :=
  ⟨fun u hu hl => (by rw [h u hu] at hl; cases hl), .inl rfl, .inl rfl⟩
theorem LMid.take {r : Rk} {pins : Nat} {ball : List Rg} {left left' : Nat → Bool} {lo hi x : Nat} (h : LMid r pins ball left lo hi) (hx : LeaveP r pins ball x) (hl : ∀ u, left' u = false → left u = false ∨ u = x) : LMid r pins ball left' (min lo (many x)) (max hi (many x)) := by
  refine ⟨fun u hu h' => ?_, ?_, ?_⟩
  · rcases hl u h' with h1 | rfl
    · have := h.all u hu h1
      omega
    · omega
  · by_cases e : lo ≤ many x
    · rw [Nat.min_eq_left e]; exact h.low
    · exact .inr ⟨x, hx, by omega⟩
  · by_cases e : many x ≤ hi
    · rw [Nat.max_eq_left e]; exact h.high
    · exact .inr ⟨x, hx, by omega⟩
theorem LMid.done {r : Rk} {pins : Nat} {ball : List Rg} {left : Nat → Bool} {lo hi : Nat} (hp : pins < 2 ^ 10) (hr : Ranges ball) (h : LMid r pins ball left lo hi) (hl : ∀ u, LeaveP r pins ball u → left u = false) : leftN r pins ball = (lo, hi) := by
  refine leftN_eq hr ⟨fun u hu => h.all u hu (hl u hu), ?_, ?_⟩
  · rcases h.low with e | h1
    · obtain ⟨u, hu⟩ := leave_ex (r := r) (pins := pins) hr
      have := h.all u hu (hl u hu)
      have := many_mono (leave_lt hu) hp (leave_sub hp hu)
      exact ⟨u, hu, by omega⟩
    · exact h1
  · rcases h.high with e | h1
    · obtain ⟨u, hu⟩ := leave_ex (r := r) (pins := pins) hr
      have := h.all u hu (hl u hu)
      exact ⟨u, hu, by omega⟩
    · exact h1
noncomputable def leftV (r : Rk) (xs : List Int) (ball : List Rg) : Nat × Nat := if thrErr r xs ball = 0 then leftN r (pinS r xs) ball else (0, 0)
open Classical in
noncomputable def canB (r : Rk) (xs : List Int) (ball : List Rg) (leave : List Int) : Bool := decide (thrErr r xs ball = 0 ∧ pinErr r leave = 0 ∧ LeaveP r (pinS r xs) ball (pinS r leave))
theorem canB_iff {r : Rk} {xs : List Int} {ball : List Rg} {leave : List Int} : canB r xs ball leave = true ↔ (thrErr r xs ball = 0 ∧ pinErr r leave = 0 ∧ LeaveP r (pinS r xs) ball (pinS r leave)) := by
  simp [canB]
theorem len_many {r : Rk} {xs : List Int} (h : pinErr r xs = 0) : xs.length = many (pinS r xs) := by
  obtain ⟨h1, h2, h3⟩ := pins_nats h
  have h10 : ∀ p ∈ xs.map Int.toNat, p < 10 := fun p hp => by have := h3 p hp; have := pn_le (rackOk (pinErr_rack h)).rows1 (rackOk (pinErr_rack h)).rows4; omega
  unfold many
  rw [pinS, if_pos h, listS_ofS h2 h10, List.length_map]
end Go.Proofs.Ytpekajnjjhibjaa
