/-
  What leaves works out, state by state, is what there can be left: plain facts; no program.
-/
import Derived.Test.YtpekajnjjhibjaaFallsM
namespace Go.Proofs.Ytpekajnjjhibjaa
set_option linter.unusedVariables false

def someC (ls : List Lk) (bits i : Nat) : Bool := (lx ls i).s || bits.testBit i
noncomputable def idleB (ls : List Lk) (bits : Nat) : Bool := allB ls.length fun i => !((lx ls i).s && bits.testBit i)
/-- What is left of the pins, if some are reached. -/
noncomputable def restS (r : Rk) (pins : Nat) (c : Nat → Bool) (t : Nat) : Nat := bitsP (fun p => pins.testBit p = true ∧ (fallS r.links c pins t).testBit p = false) 10
theorem restS_lt {r : Rk} {pins t : Nat} {c : Nat → Bool} : restS r pins c t < 2 ^ 10 := bitsP_lt _ _
theorem leftS_rest (r : Rk) (pins : Nat) (b : Nat → Int) (c : Nat → Bool) : leftS r pins b c = restS r pins c (touchedS r pins b r.rows.toNat) := rfl
theorem rest_is {r : Rk} {pins t : Nat} {c : Nat → Bool} (hp : pins < 2 ^ 10) (ht : t < 2 ^ 10) : pins &&& (65535 - fallS r.links c pins t) = restS r pins c t := by
  have hf : fallS r.links c pins t < 2 ^ 10 := fallS_lt ht hp
  refine set_ext (n := 10) (Nat.lt_of_le_of_lt Nat.and_le_left hp) restS_lt fun p h10 => ?_
  rw [restS, mem_bitsP, Nat.testBit_and, Bool.and_eq_true]
  have : (65535 - fallS r.links c pins t).testBit p = !(fallS r.links c pins t).testBit p := by
    rw [show 65535 - fallS r.links c pins t = 2 ^ 16 - (fallS r.links c pins t + 1) by omega, Nat.testBit_two_pow_sub_succ (by omega)]
    simp [show p < 16 by omega]
  rw [this]
  simp [h10]
/-- A leave that there can be, m rows ahead of the end, if some pins are reached. -/
def LvF (r : Rk) (pins : Nat) (ball : List Rg) : Nat → Nat → Nat → Prop
  | 0, t, u => ∃ bits, bits < 2 ^ r.links.length ∧ idleB r.links bits = true ∧ u = restS r pins (someC r.links bits) t
  | m + 1, t, u => ∃ n, (gx ball (ball.length - (m + 1))).lo ≤ n ∧ n ≤ (gx ball (ball.length - (m + 1))).hi ∧ LvF r pins ball m (t ||| touchS r pins (ball.length - (m + 1)) n) u
theorem restS_congr {r : Rk} {pins t : Nat} {c d : Nat → Bool} (h : ∀ i, i < r.links.length → c i = d i) : restS r pins c t = restS r pins d t := by
  unfold restS; rw [fallS_congr h]
theorem lvF_iff {r : Rk} {pins : Nat} {ball : List Rg} (hl : ball.length = r.rows.toNat) : ∀ m, m ≤ ball.length → ∀ b0 : Nat → Int, (∀ k, k < ball.length - m → (gx ball k).lo ≤ b0 k ∧ b0 k ≤ (gx ball k).hi) → ∀ u,
    LvF r pins ball m (touchedS r pins b0 (ball.length - m)) u ↔ ∃ b c, (∀ k, k < ball.length - m → b k = b0 k) ∧ Within ball b ∧ Carry r.links c ∧ u = leftS r pins b c := by
  intro m
  induction m with
  | zero =>
    intro _ b0 hb0 u
    rw [Nat.sub_zero] at hb0 ⊢
    constructor
    · rintro ⟨bits, _, h2, rfl⟩
      refine ⟨b0, someC r.links bits, fun _ _ => rfl, hb0, fun i _ hs => by simp [someC, hs], ?_⟩
      rw [leftS_rest, hl]
    · rintro ⟨b, c, hb, _, hc, rfl⟩
      refine ⟨bitsP (fun i => c i = true ∧ (lx r.links i).s = false) r.links.length, bitsP_lt _ _, ?_, ?_⟩
      · rw [idleB, allB_iff]
        intro i hi
        cases hs : (lx r.links i).s
        · simp [hs]
        · have : ¬ (bitsP (fun i => c i = true ∧ (lx r.links i).s = false) r.links.length).testBit i = true := by
            rw [mem_bitsP]; rintro ⟨_, _, h⟩; rw [hs] at h; cases h
          simp [this]
      · rw [leftS_rest, ← hl, touchedS_congr hb]
        refine restS_congr fun i hi => ?_
        rw [someC]
        cases hs : (lx r.links i).s
        · rw [Bool.false_or, testBit_bitsP]
          simp [hi, hs]
        · simp [hc i hi hs]
  | succ m ih =>
    intro hm b0 hb0 u
    have e1 : ball.length - m = ball.length - (m + 1) + 1 := by omega
    constructor
    · rintro ⟨n, h1, h2, h⟩
      have hc : touchedS r pins b0 (ball.length - (m + 1)) ||| touchS r pins (ball.length - (m + 1)) n = touchedS r pins (fun k => if k = ball.length - (m + 1) then n else b0 k) (ball.length - m) := by
        rw [e1, touchedS, if_pos rfl]
        congr 1
        exact touchedS_congr fun k hk => by rw [if_neg (by omega)]
      rw [hc] at h
      obtain ⟨b, c, hb, h3, h4, h5⟩ := (ih (by omega) _ (fun k hk => by
        by_cases e : k = ball.length - (m + 1)
        · subst e; simp [h1, h2]
        · simp only [e, if_false]; exact hb0 k (by omega)) u).1 h
      exact ⟨b, c, fun k hk => (hb k (by omega)).trans (if_neg (by omega)), h3, h4, h5⟩
    · rintro ⟨b, c, hb, h3, h4, h5⟩
      refine ⟨b (ball.length - (m + 1)), (h3 _ (by omega)).1, (h3 _ (by omega)).2, ?_⟩
      have hc : touchedS r pins b0 (ball.length - (m + 1)) ||| touchS r pins (ball.length - (m + 1)) (b (ball.length - (m + 1))) = touchedS r pins b (ball.length - m) := by
        rw [e1, touchedS]
        congr 1
        exact touchedS_congr fun k hk => (hb k hk).symm
      rw [hc]
      exact (ih (by omega) b (fun k hk => h3 k (by omega)) u).2 ⟨b, c, fun _ _ => rfl, h3, h4, h5⟩
theorem leaves_iff {r : Rk} {pins : Nat} {ball : List Rg} (hl : ball.length = r.rows.toNat) (u : Nat) : LvF r pins ball ball.length 0 u ↔ LeaveP r pins ball u := by
  have := lvF_iff (r := r) (pins := pins) (ball := ball) hl ball.length (Nat.le_refl _) (fun _ => 0) (fun k hk => by omega) u
  rw [Nat.sub_self] at this
  rw [show touchedS r pins (fun _ => (0 : Int)) 0 = 0 from rfl] at this
  rw [this]
  exact ⟨fun ⟨b, c, _, h⟩ => ⟨b, c, h⟩, fun ⟨b, c, h⟩ => ⟨b, c, fun k hk => by omega, h⟩⟩
theorem lvF_lt {r : Rk} {pins : Nat} {ball : List Rg} : ∀ {m t u : Nat}, LvF r pins ball m t u → u < 2 ^ 10
  | 0, _, _, ⟨_, _, _, h⟩ => by rw [h]; exact restS_lt
  | _ + 1, _, _, ⟨_, _, _, h⟩ => lvF_lt h

/-- What is known of seen states, and of leaves that are out, m rows ahead of the end. -/
def FInv (r : Rk) (pins : Nat) (ball : List Rg) (m : Nat) (S : Nat → Nat → Bool) (O : Nat → Bool) : Prop := ∀ k t, S k t = true → ball.length - m ≤ k → ∀ u, LvF r pins ball (ball.length - k) t u → O u = true
structure FPost (r : Rk) (pins : Nat) (ball : List Rg) (m t : Nat) (S : Nat → Nat → Bool) (O : Nat → Bool) (S' : Nat → Nat → Bool) (O' : Nat → Bool) : Prop where
  inv : FInv r pins ball m S' O'
  old : ∀ u, O u = true → O' u = true
  new : ∀ u, O' u = true → O u = true ∨ LvF r pins ball m t u
  all : ∀ u, LvF r pins ball m t u → O' u = true
  far : ∀ k t, k < ball.length - m → S' k t = S k t
def updS (S : Nat → Nat → Bool) (k t : Nat) : Nat → Nat → Bool := fun k' t' => if k' = k ∧ t' = t then true else S k' t'
def updO (O : Nat → Bool) (u : Nat) : Nat → Bool := fun u' => if u' = u then true else O u'
section
variable {r : Rk} {pins : Nat} {ball : List Rg} {m t : Nat} {S S' : Nat → Nat → Bool} {O O' : Nat → Bool}
theorem FPost.seen (hm : m ≤ ball.length) (h : FInv r pins ball m S O) (hs : S (ball.length - m) t = true) : FPost r pins ball m t S O S O :=
  ⟨h, fun _ h => h, fun _ h => .inl h, fun u hu => h _ t hs (Nat.le_refl _) u (by rw [show ball.length - (ball.length - m) = m by omega]; exact hu), fun _ _ _ => rfl⟩
/-- Within the rounds over the sets of a row. -/
structure FMid (r : Rk) (pins : Nat) (ball : List Rg) (m t : Nat) (S : Nat → Nat → Bool) (O : Nat → Bool) (pre : List Nat) (S' : Nat → Nat → Bool) (O' : Nat → Bool) : Prop where
  inv : FInv r pins ball m S' O'
  old : ∀ u, O u = true → O' u = true
  new : ∀ u, O' u = true → O u = true ∨ LvF r pins ball (m + 1) t u
  all : ∀ x ∈ pre, ∀ u, LvF r pins ball m (t ||| x) u → O' u = true
  far : ∀ k t', k < ball.length - m → S' k t' = updS S (ball.length - (m + 1)) t k t'
theorem FMid.start (hm : m + 1 ≤ ball.length) (h : FInv r pins ball (m + 1) S O) : FMid r pins ball m t S O [] (updS S (ball.length - (m + 1)) t) O :=
  ⟨fun k t' hs hk => by
    rw [updS, if_neg (by omega)] at hs
    exact h k t' hs (by omega), fun _ h => h, fun _ h => .inl h, fun x hx => (by cases hx), fun _ _ _ => rfl⟩
theorem FMid.step {pre : List Nat} {n : Int} (hm : m + 1 ≤ ball.length) (h : FMid r pins ball m t S O pre S' O') (h1 : (gx ball (ball.length - (m + 1))).lo ≤ n) (h2 : n ≤ (gx ball (ball.length - (m + 1))).hi) {S'' : Nat → Nat → Bool} {O'' : Nat → Bool}
    (hp : FPost r pins ball m (t ||| touchS r pins (ball.length - (m + 1)) n) S' O' S'' O'') : FMid r pins ball m t S O (pre ++ [touchS r pins (ball.length - (m + 1)) n]) S'' O'' := by
  refine ⟨hp.inv, fun u hu => hp.old u (h.old u hu), fun u hu => ?_, fun x hx u hu => ?_, fun k t' hk => (hp.far k t' hk).trans (h.far k t' hk)⟩
  · rcases hp.new u hu with h3 | h3
    · exact h.new u h3
    · exact .inr ⟨n, h1, h2, h3⟩
  · rcases List.mem_append.1 hx with hx | hx
    · exact hp.old u (h.all x hx u hu)
    · rw [List.mem_singleton.1 hx] at hu
      exact hp.all u hu
theorem FMid.done (hm : m + 1 ≤ ball.length) (h0 : FInv r pins ball (m + 1) S O) (h : FMid r pins ball m t S O (rowL r pins ball (ball.length - (m + 1))) S' O') : FPost r pins ball (m + 1) t S O S' O' := by
  have hall : ∀ u, LvF r pins ball (m + 1) t u → O' u = true := by
    rintro u ⟨n, h1, h2, h3⟩
    exact h.all _ (mem_rowL.2 ⟨n, h1, h2, rfl⟩) u h3
  refine ⟨fun k t' hs hk u hu => ?_, h.old, h.new, hall, fun k t' hk => ?_⟩
  · by_cases hk2 : ball.length - m ≤ k
    · exact h.inv k t' hs hk2 u hu
    · rw [h.far k t' (by omega), updS] at hs
      by_cases e : k = ball.length - (m + 1) ∧ t' = t
      · obtain ⟨e1, rfl⟩ := e
        refine hall u ?_
        rwa [show ball.length - k = m + 1 by omega] at hu
      · rw [if_neg e] at hs
        exact h.old u (h0 k t' hs hk u hu)
  · rw [h.far k t' (by omega), updS, if_neg (by omega)]
/-- Within the rounds over what links can do, at the end. -/
structure FEnd (r : Rk) (pins t : Nat) (O : Nat → Bool) (k : Nat) (O' : Nat → Bool) : Prop where
  old : ∀ u, O u = true → O' u = true
  new : ∀ u, O' u = true → O u = true ∨ ∃ bits, bits < k ∧ idleB r.links bits = true ∧ u = restS r pins (someC r.links bits) t
  all : ∀ bits, bits < k → idleB r.links bits = true → O' (restS r pins (someC r.links bits) t) = true
theorem FEnd.start : FEnd r pins t O 0 O := ⟨fun _ h => h, fun _ h => .inl h, fun b hb => by omega⟩
theorem FEnd.skip {k : Nat} (h : FEnd r pins t O k O') (hi : idleB r.links k = false) : FEnd r pins t O (k + 1) O' :=
  ⟨h.old, fun u hu => (h.new u hu).imp id (fun ⟨b, h1, h2⟩ => ⟨b, by omega, h2⟩), fun b hb hi' => by
    by_cases e : b = k
    · subst e; rw [hi] at hi'; cases hi'
    · exact h.all b (by omega) hi'⟩
theorem FEnd.take {k : Nat} (h : FEnd r pins t O k O') (hi : idleB r.links k = true) : FEnd r pins t O (k + 1) (updO O' (restS r pins (someC r.links k) t)) := by
  refine ⟨fun u hu => ?_, fun u hu => ?_, fun b hb hi' => ?_⟩
  · rw [updO]; split
    · rfl
    · exact h.old u hu
  · by_cases e : u = restS r pins (someC r.links k) t
    · exact .inr ⟨k, by omega, hi, e⟩
    · rw [updO, if_neg e] at hu
      exact (h.new u hu).imp id (fun ⟨b, h1, h2⟩ => ⟨b, by omega, h2⟩)
  · rw [updO]; split
    · rfl
    · next hne =>
      refine h.all b ?_ hi'
      rcases Nat.lt_or_ge b k with h1 | h1
      · exact h1
      · exact absurd (by rw [show b = k by omega]) hne
theorem FEnd.done (h0 : FInv r pins ball 0 S O) (h : FEnd r pins t O (2 ^ r.links.length) O') : FPost r pins ball 0 t S O (updS S ball.length t) O' := by
  have hall : ∀ u, LvF r pins ball 0 t u → O' u = true := by
    rintro u ⟨b, h1, h2, rfl⟩
    exact h.all b h1 h2
  refine ⟨fun k t' hs hk u hu => ?_, h.old, h.new, hall, fun k t' hk => ?_⟩
  · rw [updS] at hs
    by_cases e : k = ball.length ∧ t' = t
    · obtain ⟨rfl, rfl⟩ := e
      refine hall u ?_
      rwa [Nat.sub_self] at hu
    · rw [if_neg e] at hs
      exact h.old u (h0 k t' hs hk u hu)
  · rw [updS, if_neg (by omega)]
end
/-- How many states, and leaves, are told at most. -/
def costN : Nat → Nat
  | 0 => 1
  | m + 1 => 1 + 100 * costN m
theorem costN_le : ∀ {m : Nat}, m ≤ 4 → costN m ≤ 101010101 := by decide
end Go.Proofs.Ytpekajnjjhibjaa
