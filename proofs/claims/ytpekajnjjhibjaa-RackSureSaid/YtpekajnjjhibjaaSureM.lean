/-
  All leaves, tried one by one, by bits: plain facts; no program.
-/
import Derived.Test.YtpekajnjjhibjaaMoreM
import Derived.Test.YtpekajnjjhibjaaF2M
namespace Go.Proofs.Ytpekajnjjhibjaa
open Go.RowKit
set_option linter.unusedVariables false
set_option linter.unusedSimpArgs false

section
variable (c : Nat → Bool) (len : Nat → Nat) (h : Nat → Nat → Bool)
/-- The least and the greatest of those that can be, among the first n; which pins fall in one, which stay in one. -/
def lsF : Nat → Int
  | 0 => 99
  | n + 1 => if c n then min (lsF n) (len n) else lsF n
def msF : Nat → Int
  | 0 => -1
  | n + 1 => if c n then max (msF n) (len n) else msF n
def faF : Nat → Nat → Bool
  | 0, _ => false
  | n + 1, i => if c n then faF n i || !h n i else faF n i
def stF : Nat → Nat → Bool
  | 0, _ => false
  | n + 1, i => if c n then stF n i || h n i else stF n i
end
section
variable {c : Nat → Bool} {len : Nat → Nat} {h : Nat → Nat → Bool}
theorem lsF_spec : ∀ n, (∀ m, m < n → c m = true → lsF c len n ≤ len m) ∧ (lsF c len n = 99 ∨ ∃ m, m < n ∧ c m = true ∧ lsF c len n = len m)
  | 0 => ⟨fun m hm => by omega, .inl rfl⟩
  | n + 1 => by
    obtain ⟨h1, h2⟩ := lsF_spec n
    unfold lsF
    cases e : c n
    · rw [if_neg (by simp)]
      refine ⟨fun m hm hc => ?_, ?_⟩
      · by_cases e2 : m = n
        · rw [e2, e] at hc; cases hc
        · exact h1 m (by omega) hc
      · rcases h2 with h2 | ⟨m, h3, h4, h5⟩
        · exact .inl h2
        · exact .inr ⟨m, by omega, h4, h5⟩
    · rw [if_pos rfl]
      refine ⟨fun m hm hc => ?_, ?_⟩
      · by_cases e2 : m = n
        · rw [e2]; omega
        · have := h1 m (by omega) hc
          omega
      · by_cases e3 : lsF c len n ≤ len n
        · rw [Int.min_eq_left e3]
          rcases h2 with h2 | ⟨m, h3, h4, h5⟩
          · exact .inl h2
          · exact .inr ⟨m, by omega, h4, h5⟩
        · exact .inr ⟨n, by omega, e, by omega⟩
theorem msF_spec : ∀ n, (∀ m, m < n → c m = true → (len m : Int) ≤ msF c len n) ∧ (msF c len n = -1 ∨ ∃ m, m < n ∧ c m = true ∧ msF c len n = len m)
  | 0 => ⟨fun m hm => by omega, .inl rfl⟩
  | n + 1 => by
    obtain ⟨h1, h2⟩ := msF_spec n
    unfold msF
    cases e : c n
    · rw [if_neg (by simp)]
      refine ⟨fun m hm hc => ?_, ?_⟩
      · by_cases e2 : m = n
        · rw [e2, e] at hc; cases hc
        · exact h1 m (by omega) hc
      · rcases h2 with h2 | ⟨m, h3, h4, h5⟩
        · exact .inl h2
        · exact .inr ⟨m, by omega, h4, h5⟩
    · rw [if_pos rfl]
      refine ⟨fun m hm hc => ?_, ?_⟩
      · by_cases e2 : m = n
        · rw [e2]; omega
        · have := h1 m (by omega) hc
          omega
      · by_cases e3 : (len n : Int) ≤ msF c len n
        · rw [Int.max_eq_left e3]
          rcases h2 with h2 | ⟨m, h3, h4, h5⟩
          · exact .inl h2
          · exact .inr ⟨m, by omega, h4, h5⟩
        · exact .inr ⟨n, by omega, e, by omega⟩
theorem faF_iff {i : Nat} : ∀ n, faF c h n i = true ↔ ∃ m, m < n ∧ c m = true ∧ h m i = false
  | 0 => by simp [faF]
  | n + 1 => by
    unfold faF
    have ih := faF_iff (i := i) n
    cases e : c n
    · rw [if_neg (by simp), ih]
      constructor
      · rintro ⟨m, h1, h2, h3⟩; exact ⟨m, by omega, h2, h3⟩
      · rintro ⟨m, h1, h2, h3⟩
        by_cases e2 : m = n
        · rw [e2, e] at h2; cases h2
        · exact ⟨m, by omega, h2, h3⟩
    · rw [if_pos rfl, Bool.or_eq_true, ih]
      constructor
      · rintro (⟨m, h1, h2, h3⟩ | h3)
        · exact ⟨m, by omega, h2, h3⟩
        · exact ⟨n, by omega, e, by simpa using h3⟩
      · rintro ⟨m, h1, h2, h3⟩
        by_cases e2 : m = n
        · right; rw [← e2, h3]; rfl
        · exact .inl ⟨m, by omega, h2, h3⟩
theorem stF_iff {i : Nat} : ∀ n, stF c h n i = true ↔ ∃ m, m < n ∧ c m = true ∧ h m i = true
  | 0 => by simp [stF]
  | n + 1 => by
    unfold stF
    have ih := stF_iff (i := i) n
    cases e : c n
    · rw [if_neg (by simp), ih]
      constructor
      · rintro ⟨m, h1, h2, h3⟩; exact ⟨m, by omega, h2, h3⟩
      · rintro ⟨m, h1, h2, h3⟩
        by_cases e2 : m = n
        · rw [e2, e] at h2; cases h2
        · exact ⟨m, by omega, h2, h3⟩
    · rw [if_pos rfl, Bool.or_eq_true, ih]
      constructor
      · rintro (⟨m, h1, h2, h3⟩ | h3)
        · exact ⟨m, by omega, h2, h3⟩
        · exact ⟨n, by omega, e, h3⟩
      · rintro ⟨m, h1, h2, h3⟩
        by_cases e2 : m = n
        · right; rw [← e2, h3]
        · exact .inl ⟨m, by omega, h2, h3⟩
end
theorem fewN_mem_iff {l : List Nat} {b x : Nat} : ∀ k, k ≤ l.length → (x ∈ fewN l b k ↔ ∃ j, ∃ h : j < l.length, j < k ∧ b.testBit j = true ∧ x = l[j])
  | 0, _ => by simp [fewN]
  | k + 1, hk => by
    have ih := fewN_mem_iff (l := l) (b := b) (x := x) k (by omega)
    unfold fewN
    cases e : b.testBit k
    · rw [if_neg (by simp), ih]
      constructor
      · rintro ⟨j, h1, h2, h3, h4⟩; exact ⟨j, h1, by omega, h3, h4⟩
      · rintro ⟨j, h1, h2, h3, h4⟩
        by_cases e2 : j = k
        · rw [e2, e] at h3; cases h3
        · exact ⟨j, h1, by omega, h3, h4⟩
    · rw [if_pos rfl, List.mem_append, List.mem_singleton, ih]
      constructor
      · rintro (⟨j, h1, h2, h3, h4⟩ | h4)
        · exact ⟨j, h1, by omega, h3, h4⟩
        · exact ⟨k, by omega, by omega, e, by rw [h4]; simp [show k < l.length by omega]⟩
      · rintro ⟨j, h1, h2, h3, h4⟩
        by_cases e2 : j = k
        · subst e2; right; rw [h4]; simp [h1]
        · exact .inl ⟨j, h1, by omega, h3, h4⟩
/-- Each set of some of the pins has its bits. -/
theorem few_all {s u : Nat} (hs : s < 2 ^ 10) (hu : Sub u s) : ∃ n, n < 2 ^ (listS s).length ∧ fewN (listS s) n (listS s).length = listS u := by
  refine ⟨bitsP (fun k => ∃ h : k < (listS s).length, u.testBit (listS s)[k] = true) (listS s).length, bitsP_lt _ _, ?_⟩
  refine rising_ext (fewN_rises (rising_listS s) _ (Nat.le_refl _)) (rising_listS u) fun p => ?_
  rw [fewN_mem_iff _ (Nat.le_refl _), mem_listS]
  constructor
  · rintro ⟨j, h1, _, h2, rfl⟩
    obtain ⟨_, h3, h4⟩ := mem_bitsP.1 h2
    exact ⟨(mem_listS.1 (List.getElem_mem h1)).1, h4⟩
  · rintro ⟨h1, h2⟩
    obtain ⟨j, hj, e⟩ := List.getElem_of_mem (mem_listS.2 ⟨h1, hu p h2⟩)
    exact ⟨j, hj, hj, mem_bitsP.2 ⟨hj, hj, by rw [e]; exact h2⟩, e.symm⟩
section
variable {r : Rk} {xs : List Int} {ball : List Rg}
/-- Can the pins of these bits be left? -/
noncomputable def cB (r : Rk) (xs : List Int) (ball : List Rg) (n : Nat) : Bool := canB r xs ball (fewT xs n xs.length)
def lB (xs : List Int) (n : Nat) : Nat := (fewT xs n xs.length).length
def hB (xs : List Int) (n i : Nat) : Bool := hasB (fewT xs n xs.length) (ix xs i)
theorem few_nats (h : pinErr r xs = 0) (n : Nat) : fewT xs n xs.length = natsI (fewN (listS (pinS r xs)) n (listS (pinS r xs)).length) := by
  have e := pins_list h
  have hl : xs.length = (listS (pinS r xs)).length := by
    have := congrArg List.length e
    rwa [natsI_len] at this
  rw [hl, ← fewN_is _ _ _ (Nat.le_refl _), ← e]
theorem can_leave (h : thrErr r xs ball = 0) {n : Nat} (hc : cB r xs ball n = true) : ∃ u, LeaveP r (pinS r xs) ball u ∧ fewT xs n xs.length = natsI (listS u) := by
  rw [cB, canB_iff] at hc
  exact ⟨_, hc.2.2, pins_list hc.2.1⟩
theorem leave_bits (h : thrErr r xs ball = 0) {u : Nat} (hu : LeaveP r (pinS r xs) ball u) : ∃ n, n < 2 ^ xs.length ∧ cB r xs ball n = true ∧ fewT xs n xs.length = natsI (listS u) := by
  have hp := (thr_parts h).1
  obtain ⟨n, h1, h2⟩ := few_all pinS_lt (leave_sub pinS_lt hu)
  have e := few_nats hp n
  rw [h2] at e
  have hl : xs.length = (listS (pinS r xs)).length := by
    have := congrArg List.length (pins_list hp)
    rwa [natsI_len] at this
  exact ⟨n, by rw [hl]; exact h1, by rw [cB, e]; exact leave_can h hu, e⟩
theorem sure_law (h : thrErr r xs ball = 0) (h6 : xs.length ≤ 6) :
    subB (sureL r xs ball) (mayL r xs ball) = true ∧ subB (mayL r xs ball) xs = true ∧ lsF (cB r xs ball) (lB xs) (2 ^ xs.length) = ((leftV r xs ball).1 : Int) ∧ msF (cB r xs ball) (lB xs) (2 ^ xs.length) = ((leftV r xs ball).2 : Int) ∧
    ∀ i, i < xs.length → faF (cB r xs ball) (hB xs) (2 ^ xs.length) i = hasB (mayL r xs ball) (ix xs i) ∧ stF (cB r xs ball) (hB xs) (2 ^ xs.length) i = !hasB (sureL r xs ball) (ix xs i) := by
  obtain ⟨a1, a2, a3, a4, a5⟩ := thr_parts h
  have hs := pinS_lt (r := r) (xs := xs)
  have e := pins_list a1
  have hmL : mayL r xs ball = natsI (listS (mayS r (pinS r xs) ball)) := by rw [mayL, if_pos h]
  have hsL : sureL r xs ball = natsI (listS (sureS r (pinS r xs) ball)) := by rw [sureL, if_pos h]
  obtain ⟨u0, hu0⟩ := leave_ex (r := r) (pins := pinS r xs) a4
  have hB_iff : ∀ {n u p : Nat}, fewT xs n xs.length = natsI (listS u) → u < 2 ^ 10 → ∀ {i : Nat}, ix xs i = (p : Int) → (hB xs n i = true ↔ u.testBit p = true) := fun {n u p} e1 hu {i} e2 => by
    rw [hB, e1, e2, hasB_iff, mem_natsS_nat hu]
  refine ⟨?_, ?_, ?_, ?_, fun i hi => ?_⟩
  · rw [hsL, hmL, subB_sets sureS_lt mayS_lt]
    intro p hp
    rw [sure_leaves hs a3 a4] at hp
    rw [may_leaves hs a3 a4]
    exact ⟨hp.1, u0, hu0, hp.2 u0 hu0⟩
  · have : subB (mayL r xs ball) (natsI (listS (pinS r xs))) = true := by
      rw [hmL, subB_sets mayS_lt hs]
      exact fun p hp => ((may_leaves hs a3 a4).1 hp).1
    rwa [← e] at this
  · obtain ⟨b1, b2⟩ := lsF_spec (c := cB r xs ball) (len := lB xs) (2 ^ xs.length)
    rw [leftV, if_pos h]
    obtain ⟨c1, ⟨u, hu, hu2⟩, _⟩ := leftN_is (r := r) (pins := pinS r xs) (ball := ball) a4
    obtain ⟨n, n1, n2, n3⟩ := leave_bits h hu
    have k1 := b1 n n1 n2
    have k2 : lB xs n = many u := by rw [lB, n3, natsI_len]; rfl
    have k4 : lB xs n ≤ xs.length := fewT_len _ _ _
    rcases b2 with b2 | ⟨m, m1, m2, m3⟩
    · omega
    · obtain ⟨v, hv, hv2⟩ := can_leave h m2
      have k3 : lB xs m = many v := by rw [lB, hv2, natsI_len]; rfl
      have := (c1 v hv).1
      omega
  · obtain ⟨b1, b2⟩ := msF_spec (c := cB r xs ball) (len := lB xs) (2 ^ xs.length)
    rw [leftV, if_pos h]
    obtain ⟨c1, _, ⟨u, hu, hu2⟩⟩ := leftN_is (r := r) (pins := pinS r xs) (ball := ball) a4
    obtain ⟨n, n1, n2, n3⟩ := leave_bits h hu
    have k1 := b1 n n1 n2
    have k2 : lB xs n = many u := by rw [lB, n3, natsI_len]; rfl
    rcases b2 with b2 | ⟨m, m1, m2, m3⟩
    · omega
    · obtain ⟨v, hv, hv2⟩ := can_leave h m2
      have k3 : lB xs m = many v := by rw [lB, hv2, natsI_len]; rfl
      have := (c1 v hv).2
      omega
  · have hl : xs.length = (listS (pinS r xs)).length := by
      have := congrArg List.length e
      rwa [natsI_len] at this
    have ei : ix xs i = ((listS (pinS r xs))[i]'(by omega) : Int) := (congrArg (ix · i) e).trans (ix_nats (by omega))
    have hpin : (pinS r xs).testBit ((listS (pinS r xs))[i]'(by omega)) = true := (mem_listS.1 (List.getElem_mem _)).2
    generalize (listS (pinS r xs))[i]'(by omega) = p at *
    constructor
    · rw [Bool.eq_iff_iff, faF_iff, ei, hmL, hasB_iff, mem_natsS_nat mayS_lt, may_leaves hs a3 a4]
      constructor
      · rintro ⟨n, n1, n2, n3⟩
        obtain ⟨u, hu, hu2⟩ := can_leave h n2
        refine ⟨hpin, u, hu, fun hb => ?_⟩
        rw [(hB_iff hu2 (leave_lt hu) ei).2 hb] at n3
        cases n3
      · rintro ⟨_, u, hu, hb⟩
        obtain ⟨n, n1, n2, n3⟩ := leave_bits h hu
        exact ⟨n, n1, n2, Bool.eq_false_iff.2 fun hh => hb ((hB_iff n3 (leave_lt hu) ei).1 hh)⟩
    · rw [Bool.eq_iff_iff, stF_iff, ei, hsL, Bool.not_eq_true', ← Bool.not_eq_true, hasB_iff, mem_natsS_nat sureS_lt, sure_leaves hs a3 a4]
      constructor
      · rintro ⟨n, n1, n2, n3⟩ ⟨_, hall⟩
        obtain ⟨u, hu, hu2⟩ := can_leave h n2
        exact hall u hu ((hB_iff hu2 (leave_lt hu) ei).1 n3)
      · intro hn
        refine Classical.byContradiction fun hx => hn ⟨hpin, fun u hu hb => ?_⟩
        obtain ⟨n, n1, n2, n3⟩ := leave_bits h hu
        exact hx ⟨n, n1, n2, (hB_iff n3 (leave_lt hu) ei).2 hb⟩
end
end Go.Proofs.Ytpekajnjjhibjaa
