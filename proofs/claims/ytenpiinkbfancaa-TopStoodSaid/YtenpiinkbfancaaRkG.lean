/-
  rack: what can be left, by a computation (carried over from the proofs of the chapter 02).
-/
import Derived.Test.YtenpiinkbfancaaRkF
namespace Go.Proofs.Ytenpiinkbfancaa.Rk
open Go.RowKit
set_option linter.unusedSimpArgs false
set_option linter.unusedVariables false

section
def iterN (F : Nat → Nat) : Nat → Nat → Nat
  | 0, u => u
  | n + 1, u => F (iterN F n u)
theorem iterN_lt {F : Nat → Nat} (hF : ∀ u, u < 2 ^ 10 → F u < 2 ^ 10) {u : Nat} (hu : u < 2 ^ 10) : ∀ n, iterN F n u < 2 ^ 10
  | 0 => hu
  | n + 1 => hF _ (iterN_lt hF hu n)
theorem iterN_sub {F : Nat → Nat} (hS : ∀ u, Sub u (F u)) {u : Nat} : ∀ n, Sub u (iterN F n u)
  | 0 => Sub.rfl
  | n + 1 => (iterN_sub hS n).trans (hS _)
theorem iterN_fix {F : Nat → Nat} (hF : ∀ u, u < 2 ^ 10 → F u < 2 ^ 10) (hS : ∀ u, Sub u (F u)) {u : Nat} (hu : u < 2 ^ 10) : ∀ n, F (iterN F n u) = iterN F n u ∨ n + many u ≤ many (iterN F n u)
  | 0 => .inr (by simp [iterN])
  | n + 1 => by
    rcases iterN_fix hF hS hu n with h | h
    · left
      show F (F (iterN F n u)) = F (iterN F n u)
      rw [h, h]
    · by_cases e : F (iterN F n u) = iterN F n u
      · left
        show F (F (iterN F n u)) = F (iterN F n u)
        rw [e, e]
      · right
        have := many_lt (iterN_lt hF hu n) (hF _ (iterN_lt hF hu n)) (hS _) (Ne.symm e)
        show n + 1 + many u ≤ many (F (iterN F n u))
        omega
theorem iterN_done {F : Nat → Nat} (hF : ∀ u, u < 2 ^ 10 → F u < 2 ^ 10) (hS : ∀ u, Sub u (F u)) {u : Nat} (hu : u < 2 ^ 10) : F (iterN F 11 u) = iterN F 11 u := by
  rcases iterN_fix hF hS hu 11 with h | h
  · exact h
  · have := many_le (iterN F 11 u)
    omega
/-- One link; some links, one behind the other. -/
def stepC (ls : List Lk) (c : Nat → Bool) (pins u i : Nat) : Nat := if (c i && u.testBit (lx ls i).f.toNat) && pins.testBit (lx ls i).t.toNat then u ||| 2 ^ (lx ls i).t.toNat else u
def passC (ls : List Lk) (c : Nat → Bool) (pins u : Nat) : Nat → Nat
  | 0 => u
  | k + 1 => stepC ls c pins (passC ls c pins u k) k
section
variable {ls : List Lk} {c : Nat → Bool} {pins s u : Nat}
theorem stepC_sub (i : Nat) : Sub u (stepC ls c pins u i) := by
  unfold stepC
  split
  · exact fun p h => mem_or_pow.2 (.inl h)
  · exact Sub.rfl
theorem stepC_lt (hp : pins < 2 ^ 10) (hu : u < 2 ^ 10) (i : Nat) : stepC ls c pins u i < 2 ^ 10 := by
  unfold stepC
  split
  · next h =>
    rw [Bool.and_eq_true] at h
    exact or_lt hu (bit_lt hp h.2)
  · exact hu
theorem stepC_sound {i : Nat} (hi : i < ls.length) (h : ∀ p, u.testBit p = true → Fall ls c pins s p) : ∀ p, (stepC ls c pins u i).testBit p = true → Fall ls c pins s p := by
  intro p hp
  unfold stepC at hp
  split at hp
  · next hc =>
    simp only [Bool.and_eq_true] at hc
    rcases mem_or_pow.1 hp with hp | rfl
    · exact h p hp
    · exact .step hi hc.1.1 (h _ hc.1.2) hc.2
  · exact h p hp
theorem passC_sub : ∀ k, Sub u (passC ls c pins u k)
  | 0 => Sub.rfl
  | k + 1 => (passC_sub k).trans (stepC_sub k)
theorem passC_lt (hp : pins < 2 ^ 10) (hu : u < 2 ^ 10) : ∀ k, passC ls c pins u k < 2 ^ 10
  | 0 => hu
  | k + 1 => stepC_lt hp (passC_lt hp hu k) k
theorem passC_sound (h : ∀ p, u.testBit p = true → Fall ls c pins s p) : ∀ k, k ≤ ls.length → ∀ p, (passC ls c pins u k).testBit p = true → Fall ls c pins s p
  | 0, _ => h
  | k + 1, hk => stepC_sound (by omega) (passC_sound h k (by omega))
theorem passC_mono : ∀ k j, j ≤ k → Sub (passC ls c pins u j) (passC ls c pins u k)
  | 0, j, h => by rw [show j = 0 by omega]; exact Sub.rfl
  | k + 1, j, h => by
    by_cases e : j = k + 1
    · rw [e]; exact Sub.rfl
    · exact (passC_mono k j (by omega)).trans (stepC_sub k)
theorem passC_closed (hp : pins < 2 ^ 10) (hu : u < 2 ^ 10) (h : passC ls c pins u ls.length = u) {i : Nat} (hi : i < ls.length) (h1 : c i = true) (h2 : u.testBit (lx ls i).f.toNat = true) (h3 : pins.testBit (lx ls i).t.toNat = true) : u.testBit (lx ls i).t.toNat = true := by
  have e : passC ls c pins u i = u := Sub.antisymm (passC_lt hp hu i) hu (by have := passC_mono (ls := ls) (c := c) (pins := pins) (u := u) ls.length i (by omega); rwa [h] at this) (passC_sub i)
  have hs := passC_mono (ls := ls) (c := c) (pins := pins) (u := u) ls.length (i + 1) (by omega)
  rw [h] at hs
  refine hs _ ?_
  show (stepC ls c pins (passC ls c pins u i) i).testBit _ = true
  rw [e, stepC, if_pos (by simp [h1, h2, h3])]
  exact mem_or_pow.2 (.inr rfl)
/-- So many passes that nothing more falls. -/
def fallC (ls : List Lk) (c : Nat → Bool) (pins s n : Nat) : Nat := iterN (fun u => passC ls c pins u ls.length) n s
theorem fallC_sound : ∀ n p, (fallC ls c pins s n).testBit p = true → Fall ls c pins s p
  | 0, p, h => .base h
  | n + 1, p, h => passC_sound (fallC_sound n) ls.length (Nat.le_refl _) p h
theorem fallC_lt (hp : pins < 2 ^ 10) (hs : s < 2 ^ 10) (n : Nat) : fallC ls c pins s n < 2 ^ 10 := iterN_lt (fun u hu => passC_lt hp hu _) hs n
theorem fallC_of_fix (hp : pins < 2 ^ 10) (hs : s < 2 ^ 10) {n : Nat} (h : passC ls c pins (fallC ls c pins s n) ls.length = fallC ls c pins s n) : fallC ls c pins s n = fallS ls c pins s :=
  fall_is (fallC_lt hp hs n) hs hp (iterN_sub (fun u => passC_sub _) n) (fallC_sound n) fun i hi h1 h2 h3 => passC_closed hp (fallC_lt hp hs n) h hi h1 h2 h3
theorem fallC_is (hp : pins < 2 ^ 10) (hs : s < 2 ^ 10) : fallC ls c pins s 11 = fallS ls c pins s :=
  fallC_of_fix hp hs (iterN_done (F := fun u => passC ls c pins u ls.length) (fun u hu => passC_lt hp hu _) (fun u => passC_sub _) hs)
end
def touchC (r : Rk) (pins row : Nat) (b : Int) : Nat := ofS ((listS pins).filter fun p => decide (rowP p = row) && reachB r p b)
theorem touchC_is (r : Rk) (pins row : Nat) (b : Int) : touchC r pins row b = touchS r pins row b := touch_of r pins row b
/-- The boards of a range. -/
def boardsC (x : Rg) : List Int := (List.range (x.hi - x.lo + 1).toNat).map fun k : Nat => x.lo + (k : Int)
theorem mem_boardsC {x : Rg} {n : Int} : n ∈ boardsC x ↔ x.lo ≤ n ∧ n ≤ x.hi := by
  simp only [boardsC, List.mem_map, List.mem_range]
  constructor
  · rintro ⟨k, h, rfl⟩
    omega
  · rintro ⟨h1, h2⟩
    exact ⟨(n - x.lo).toNat, by omega, by omega⟩
/-- All that can be left. -/
def idleC (ls : List Lk) (bits : Nat) : Bool := (List.range ls.length).all fun i => !((lx ls i).s && bits.testBit i)
def lvC (r : Rk) (pins : Nat) (ball : List Rg) : Nat → Nat → List Nat
  | 0, t => ((List.range (2 ^ r.links.length)).filter (idleC r.links)).map fun bits => pins &&& (65535 - fallC r.links (someC r.links bits) pins t 11)
  | m + 1, t => (boardsC (gx ball (ball.length - (m + 1)))).flatMap fun n => lvC r pins ball m (t ||| touchC r pins (ball.length - (m + 1)) n)
theorem lvC_is {r : Rk} {pins : Nat} {ball : List Rg} (hp : pins < 2 ^ 10) {u : Nat} : ∀ m t, t < 2 ^ 10 → (u ∈ lvC r pins ball m t ↔ LvF r pins ball m t u)
  | 0, t, ht => by
    simp only [lvC, LvF, List.mem_map, List.mem_filter, List.mem_range]
    constructor
    · rintro ⟨bits, ⟨h1, h2⟩, rfl⟩
      exact ⟨bits, h1, h2, by rw [fallC_is hp ht, rest_is hp ht]⟩
    · rintro ⟨bits, h1, h2, rfl⟩
      exact ⟨bits, ⟨h1, h2⟩, by rw [fallC_is hp ht, rest_is hp ht]⟩
  | m + 1, t, ht => by
    simp only [lvC, LvF, List.mem_flatMap, mem_boardsC]
    constructor
    · rintro ⟨n, h1, h2⟩
      rw [touchC_is] at h2
      exact ⟨n, h1.1, h1.2, (lvC_is hp m _ (Nat.or_lt_two_pow ht (touchS_lt ..))).1 h2⟩
    · rintro ⟨n, h1, h2, h3⟩
      refine ⟨n, ⟨h1, h2⟩, ?_⟩
      rw [touchC_is]
      exact (lvC_is hp m _ (Nat.or_lt_two_pow ht (touchS_lt ..))).2 h3
theorem leaveC_is {r : Rk} {pins : Nat} {ball : List Rg} (hp : pins < 2 ^ 10) (hl : ball.length = r.rows.toNat) {u : Nat} : u ∈ lvC r pins ball ball.length 0 ↔ LeaveP r pins ball u := by
  rw [lvC_is hp _ _ (by decide), leaves_iff hl]
end

section
open Go.RowKit
attribute [local go_sem] Oper.semAt_some
theorem lv_all {r : Rk} {pins : Nat} {ball : List Rg} {lo hi : Nat} (hp : pins < 2 ^ 10) (hl : ball.length = r.rows.toNat) (h : ((lvC r pins ball ball.length 0).all fun u => decide (lo ≤ many u) && decide (many u ≤ hi)) = true) (h1 : ((lvC r pins ball ball.length 0).any fun u => decide (many u = lo)) = true) (h2 : ((lvC r pins ball ball.length 0).any fun u => decide (many u = hi)) = true) : LeftIs r pins ball lo hi := by
  simp only [List.all_eq_true, List.any_eq_true, Bool.and_eq_true, decide_eq_true_eq] at h h1 h2
  refine ⟨fun u hu => h u ((leaveC_is hp hl).2 hu), ?_, ?_⟩
  · obtain ⟨u, hu, he⟩ := h1
    exact ⟨u, (leaveC_is hp hl).1 hu, he⟩
  · obtain ⟨u, hu, he⟩ := h2
    exact ⟨u, (leaveC_is hp hl).1 hu, he⟩
end

end Go.Proofs.Ytenpiinkbfancaa.Rk
