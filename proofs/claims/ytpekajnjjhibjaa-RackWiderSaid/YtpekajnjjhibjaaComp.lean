/-
  What falls, what hangs together, what can be left, worked out by steps: plain facts; no program.
-/
import Derived.Test.YtpekajnjjhibjaaL2
namespace Go.Proofs.Ytpekajnjjhibjaa
set_option linter.unusedVariables false
set_option linter.unusedSimpArgs false

def iterN (F : Nat → Nat) : Nat → Nat → Nat
  | 0, u => u
  | n + 1, u => F (iterN F n u)
theorem iterN_lt {F : Nat → Nat} (hF : ∀ u, u < 2 ^ 10 → F u < 2 ^ 10) {u : Nat} (hu : u < 2 ^ 10) : ∀ n, iterN F n u < 2 ^ 10
  | 0 => hu
  | n + 1 => hF _ (iterN_lt hF hu n)
theorem iterN_sub {F : Nat → Nat} (hS : ∀ u, Sub u (F u)) {u : Nat} : ∀ n, Sub u (iterN F n u)
  | 0 => Sub.rfl
  | n + 1 => (iterN_sub hS n).trans (hS _)
theorem iterN_fix {F : Nat → Nat} (hF : ∀ u, u < 2 ^ 10 → F u < 2 ^ 10) (hS : ∀ u, Sub u (F u)) {u : Nat} (hu : u < 2 ^ 10) : ∀ n, F (iterN F n u) = iterN F n u ∨ n + many u ≤ many (iterN F n u)
  | 0 => .inr (by simp [iterN])
  | n + 1 => by
    rcases iterN_fix hF hS hu n with h | h
    · left
      show F (F (iterN F n u)) = F (iterN F n u)
      rw [h, h]
    · by_cases e : F (iterN F n u) = iterN F n u
      · left
        show F (F (iterN F n u)) = F (iterN F n u)
        rw [e, e]
      · right
        have := many_lt (iterN_lt hF hu n) (hF _ (iterN_lt hF hu n)) (hS _) (Ne.symm e)
        show n + 1 + many u ≤ many (F (iterN F n u))
        omega
theorem iterN_done {F : Nat → Nat} (hF : ∀ u, u < 2 ^ 10 → F u < 2 ^ 10) (hS : ∀ u, Sub u (F u)) {u : Nat} (hu : u < 2 ^ 10) : F (iterN F 11 u) = iterN F 11 u := by
  rcases iterN_fix hF hS hu 11 with h | h
  · exact h
  · have := many_le (iterN F 11 u)
    omega
/-- One link; some links, one behind the other. -/
def stepC (ls : List Lk) (c : Nat → Bool) (pins u i : Nat) : Nat := if (c i && u.testBit (lx ls i).f.toNat) && pins.testBit (lx ls i).t.toNat then u ||| 2 ^ (lx ls i).t.toNat else u
def passC (ls : List Lk) (c : Nat → Bool) (pins u : Nat) : Nat → Nat
  | 0 => u
  | k + 1 => stepC ls c pins (passC ls c pins u k) k
section
variable {ls : List Lk} {c : Nat → Bool} {pins s u : Nat}
theorem stepC_sub (i : Nat) : Sub u (stepC ls c pins u i) := by
  unfold stepC
  split
  · exact fun p h => mem_or_pow.2 (.inl h)
  · exact Sub.rfl
theorem stepC_lt (hp : pins < 2 ^ 10) (hu : u < 2 ^ 10) (i : Nat) : stepC ls c pins u i < 2 ^ 10 := by
  unfold stepC
  split
  · next h =>
    rw [Bool.and_eq_true] at h
    exact or_lt hu (bit_lt hp h.2)
  · exact hu
theorem stepC_sound {i : Nat} (hi : i < ls.length) (h : ∀ p, u.testBit p = true → Fall ls c pins s p) : ∀ p, (stepC ls c pins u i).testBit p = true → Fall ls c pins s p := by
  intro p hp
  unfold stepC at hp
  split at hp
  · next hc =>
    simp only [Bool.and_eq_true] at hc
    rcases mem_or_pow.1 hp with hp | rfl
    · exact h p hp
    · exact .step hi hc.1.1 (h _ hc.1.2) hc.2
  · exact h p hp
theorem passC_sub : ∀ k, Sub u (passC ls c pins u k)
  | 0 => Sub.rfl
  | k + 1 => (passC_sub k).trans (stepC_sub k)
theorem passC_lt (hp : pins < 2 ^ 10) (hu : u < 2 ^ 10) : ∀ k, passC ls c pins u k < 2 ^ 10
  | 0 => hu
  | k + 1 => stepC_lt hp (passC_lt hp hu k) k
theorem passC_sound (h : ∀ p, u.testBit p = true → Fall ls c pins s p) : ∀ k, k ≤ ls.length → ∀ p, (passC ls c pins u k).testBit p = true → Fall ls c pins s p
  | 0, _ => h
  | k + 1, hk => stepC_sound (by omega) (passC_sound h k (by omega))
theorem passC_mono : ∀ k j, j ≤ k → Sub (passC ls c pins u j) (passC ls c pins u k)
  | 0, j, h => by rw [show j = 0 by omega]; exact Sub.rfl
  | k + 1, j, h => by
    by_cases e : j = k + 1
    · rw [e]; exact Sub.rfl
    · exact (passC_mono k j (by omega)).trans (stepC_sub k)
theorem passC_closed (hp : pins < 2 ^ 10) (hu : u < 2 ^ 10) (h : passC ls c pins u ls.length = u) {i : Nat} (hi : i < ls.length) (h1 : c i = true) (h2 : u.testBit (lx ls i).f.toNat = true) (h3 : pins.testBit (lx ls i).t.toNat = true) : u.testBit (lx ls i).t.toNat = true := by
  have e : passC ls c pins u i = u := Sub.antisymm (passC_lt hp hu i) hu (by have := passC_mono (ls := ls) (c := c) (pins := pins) (u := u) ls.length i (by omega); rwa [h] at this) (passC_sub i)
  have hs := passC_mono (ls := ls) (c := c) (pins := pins) (u := u) ls.length (i + 1) (by omega)
  rw [h] at hs
  refine hs _ ?_
  show (stepC ls c pins (passC ls c pins u i) i).testBit _ = true
  rw [e, stepC, if_pos (by simp [h1, h2, h3])]
  exact mem_or_pow.2 (.inr rfl)
/-- So many passes that nothing more falls. -/
def fallC (ls : List Lk) (c : Nat → Bool) (pins s n : Nat) : Nat := iterN (fun u => passC ls c pins u ls.length) n s
theorem fallC_sound : ∀ n p, (fallC ls c pins s n).testBit p = true → Fall ls c pins s p
  | 0, p, h => .base h
  | n + 1, p, h => passC_sound (fallC_sound n) ls.length (Nat.le_refl _) p h
theorem fallC_lt (hp : pins < 2 ^ 10) (hs : s < 2 ^ 10) (n : Nat) : fallC ls c pins s n < 2 ^ 10 := iterN_lt (fun u hu => passC_lt hp hu _) hs n
theorem fallC_of_fix (hp : pins < 2 ^ 10) (hs : s < 2 ^ 10) {n : Nat} (h : passC ls c pins (fallC ls c pins s n) ls.length = fallC ls c pins s n) : fallC ls c pins s n = fallS ls c pins s :=
  fall_is (fallC_lt hp hs n) hs hp (iterN_sub (fun u => passC_sub _) n) (fallC_sound n) fun i hi h1 h2 h3 => passC_closed hp (fallC_lt hp hs n) h hi h1 h2 h3
theorem fallC_is (hp : pins < 2 ^ 10) (hs : s < 2 ^ 10) : fallC ls c pins s 11 = fallS ls c pins s :=
  fallC_of_fix hp hs (iterN_done (F := fun u => passC ls c pins u ls.length) (fun u hu => passC_lt hp hu _) (fun u => passC_sub _) hs)
theorem many_lt_pn {m a : Nat} (hm : m ≤ 10) (h : ∀ p, a.testBit p = true → p < m) : many a ≤ m := by
  have : listS a = (List.range m).filter a.testBit := rising_ext (rising_listS a) (List.Pairwise.filter _ List.pairwise_lt_range) fun p => by
    rw [mem_listS, List.mem_filter, List.mem_range]
    exact ⟨fun hp => ⟨h p hp.2, hp.2⟩, fun hp => ⟨by omega, hp.2⟩⟩
  unfold many
  rw [this]
  exact Nat.le_trans (List.length_filter_le _ _) (by simp)
theorem many_zero {a : Nat} (ha : a < 2 ^ 10) (h : many a = 0) : a = 0 := by
  unfold many at h
  have : listS a = [] := List.eq_nil_of_length_eq_zero h
  rw [← ofS_listS ha, this]
  rfl
/-- As many passes as there are pins. -/
theorem fallC_pn {m : Nat} (hm : m ≤ 10) (hp : pins < 2 ^ 10) (hpm : ∀ p, pins.testBit p = true → p < m) (hsub : Sub s pins) : fallC ls c pins s m = fallS ls c pins s := by
  have hs : s < 2 ^ 10 := Nat.lt_pow_two_of_testBit _ fun i hi => by
    rw [Bool.eq_false_iff]
    intro h
    have := hpm i (hsub i h)
    omega
  refine fallC_of_fix hp hs ?_
  rcases iterN_fix (F := fun u => passC ls c pins u ls.length) (fun u hu => passC_lt hp hu _) (fun u => passC_sub _) hs m with h | h
  · exact h
  · have h1 : many (fallC ls c pins s m) ≤ m := many_lt_pn hm fun p hp' => hpm p ((fallC_sound m p hp').in hsub)
    have h2 : many s = 0 := by unfold fallC at h1; omega
    have h3 := many_zero hs h2
    have h4 : fallC ls c pins s m = 0 := by
      refine Nat.eq_of_testBit_eq fun i => ?_
      rw [Nat.zero_testBit, Bool.eq_false_iff]
      intro hi
      have := fallC_sound m i hi
      rw [h3] at this
      exact this.zero
    rw [h4]
    refine Nat.eq_of_testBit_eq fun i => ?_
    rw [Nat.zero_testBit, Bool.eq_false_iff]
    intro hi
    exact (passC_sound (s := 0) (fun p hp' => by simp at hp') ls.length (Nat.le_refl _) i hi).zero
end
/-- What hangs together, by steps. -/
def growC (s u : Nat) : Nat := ofS ((List.range 10).filter fun y => u.testBit y || (s.testBit y && (List.range 10).any fun x => u.testBit x && nbB x y))
theorem mem_growC {s u y : Nat} : (growC s u).testBit y = true ↔ y < 10 ∧ (u.testBit y = true ∨ (s.testBit y = true ∧ ∃ x, x < 10 ∧ u.testBit x = true ∧ nbB x y = true)) := by
  rw [growC, mem_ofS]
  simp only [List.mem_filter, List.mem_range, Bool.or_eq_true, Bool.and_eq_true, List.any_eq_true]
def connC (s a : Nat) : Nat := iterN (fun u => u ||| growC s u) 11 (2 ^ a)
theorem growC_lt {s u : Nat} : growC s u < 2 ^ 10 := ofS_lt fun p hp => by simp at hp; omega
theorem connC_is {s a : Nat} (hs : s < 2 ^ 10) (ha : a < 10) (has : s.testBit a = true) {p : Nat} : (connC s a).testBit p = true ↔ Conn s a p := by
  have hF : ∀ u, u < 2 ^ 10 → u ||| growC s u < 2 ^ 10 := fun u hu => Nat.or_lt_two_pow hu growC_lt
  have hS : ∀ u, Sub u (u ||| growC s u) := fun u p h => by rw [Nat.testBit_or, h, Bool.true_or]
  have h0 : (2 : Nat) ^ a < 2 ^ 10 := Nat.pow_lt_pow_right (by decide) ha
  constructor
  · have : ∀ n p, (iterN (fun u => u ||| growC s u) n (2 ^ a)).testBit p = true → Conn s a p := by
      intro n
      induction n with
      | zero =>
        intro p h
        simp only [iterN, Nat.testBit_two_pow, decide_eq_true_eq] at h
        subst h
        exact .base
      | succ n ih =>
        intro p h
        simp only [iterN, Nat.testBit_or, Bool.or_eq_true] at h
        rcases h with h | h
        · exact ih p h
        · obtain ⟨_, h | ⟨h1, x, _, h2, h3⟩⟩ := mem_growC.1 h
          · exact ih p h
          · exact .step (ih x h2) h1 h3
    exact this 11 p
  · refine conn_closed ?_ fun x y hx hy hn => ?_
    · exact iterN_sub hS 11 a (by simp)
    · have hfix := iterN_done hF hS h0
      show (iterN (fun u => u ||| growC s u) 11 (2 ^ a)).testBit y = true
      rw [← hfix]
      rw [Nat.testBit_or, Bool.or_eq_true]
      right
      exact mem_growC.2 ⟨bit_lt hs hy, .inr ⟨hy, x, bit_lt (iterN_lt hF h0 11) hx, hx, hn⟩⟩
/-- The kind of a leave, by steps. -/
def kindC (s : Nat) : Nat := if many s < 2 then many s else if s &&& connC s (firstS s) = s then 2 else if s.testBit 0 = true then 4 else 3
theorem kindC_is {s : Nat} (hs : s < 2 ^ 10) : kindC s = kindS s := by
  unfold kindC kindS
  by_cases h : many s < 2
  · rw [if_pos h, if_pos h]
  · rw [if_neg h, if_neg h]
    obtain ⟨_, h10, hin⟩ := first_mem (s := s) (by omega)
    have : (s &&& connC s (firstS s) = s) ↔ ∀ p, s.testBit p = true → Conn s (firstS s) p := by
      constructor
      · intro e p hp
        rw [← e, Nat.testBit_and, Bool.and_eq_true] at hp
        exact (connC_is hs h10 hin).1 hp.2
      · intro h2
        refine set_ext (n := 10) (Nat.lt_of_le_of_lt Nat.and_le_left hs) hs fun p _ => ?_
        rw [Nat.testBit_and, Bool.and_eq_true]
        exact ⟨fun h => h.1, fun h => ⟨h, (connC_is hs h10 hin).2 (h2 p h)⟩⟩
    by_cases e : s &&& connC s (firstS s) = s
    · rw [if_pos e, if_pos (this.1 e)]
    · rw [if_neg e, if_neg (fun h => e (this.2 h))]
def touchC (r : Rk) (pins row : Nat) (b : Int) : Nat := ofS ((listS pins).filter fun p => decide (rowP p = row) && reachB r p b)
theorem touchC_is (r : Rk) (pins row : Nat) (b : Int) : touchC r pins row b = touchS r pins row b := touch_of r pins row b
def touchedC (r : Rk) (pins : Nat) (b : Nat → Int) : Nat → Nat
  | 0 => 0
  | n + 1 => touchedC r pins b n ||| touchC r pins n (b n)
theorem touchedC_is (r : Rk) (pins : Nat) (b : Nat → Int) : ∀ n, touchedC r pins b n = touchedS r pins b n
  | 0 => rfl
  | n + 1 => by rw [touchedC, touchedS, touchedC_is r pins b n, touchC_is]
def felledC (r : Rk) (pins : Nat) (b : Nat → Int) (c : Nat → Bool) : Nat := fallC r.links c pins (touchedC r pins b r.rows.toNat) 11
theorem felledC_is {r : Rk} {pins : Nat} (hp : pins < 2 ^ 10) (b : Nat → Int) (c : Nat → Bool) : felledC r pins b c = felledS r pins b c := by
  unfold felledC felledS
  rw [touchedC_is, fallC_is hp (touchedS_lt ..)]
/-- The boards of a range. -/
def boardsC (x : Rg) : List Int := (List.range (x.hi - x.lo + 1).toNat).map fun k : Nat => x.lo + (k : Int)
theorem mem_boardsC {x : Rg} {n : Int} : n ∈ boardsC x ↔ x.lo ≤ n ∧ n ≤ x.hi := by
  simp only [boardsC, List.mem_map, List.mem_range]
  constructor
  · rintro ⟨k, h, rfl⟩
    omega
  · rintro ⟨h1, h2⟩
    exact ⟨(n - x.lo).toNat, by omega, by omega⟩
def sureC (r : Rk) (pins : Nat) (ball : List Rg) : List Nat :=
  (List.range 10).filter fun p => (List.range ball.length).any fun row => (boardsC (gx ball row)).all fun n => (fallC r.links (surely r.links) pins (touchC r pins row n) 11).testBit p
def mayC (r : Rk) (pins : Nat) (ball : List Rg) : List Nat :=
  (List.range 10).filter fun p => (List.range ball.length).any fun row => (boardsC (gx ball row)).any fun n => (fallC r.links (fun _ => true) pins (touchC r pins row n) 11).testBit p
theorem sureC_is {r : Rk} {pins : Nat} {ball : List Rg} (hp : pins < 2 ^ 10) : listS (sureS r pins ball) = sureC r pins ball := by
  refine rising_ext (rising_listS _) (List.Pairwise.filter _ List.pairwise_lt_range) fun p => ?_
  rw [mem_listS, sureS, mem_bitsP, sureC]
  simp only [List.mem_filter, List.mem_range, List.any_eq_true, List.all_eq_true, mem_boardsC]
  have hf : ∀ row n, (fallC r.links (surely r.links) pins (touchC r pins row n) 11).testBit p = true ↔ Fall r.links (surely r.links) pins (touchS r pins row n) p := fun row n => by
    rw [touchC_is, fallC_is hp (touchS_lt ..), mem_fallS (lt16 (touchS_lt ..)) (lt16 hp)]
  constructor
  · rintro ⟨h10, _, row, h1, h2⟩
    exact ⟨h10, row, h1, fun n hn => (hf row n).2 (h2 n hn.1 hn.2)⟩
  · rintro ⟨h10, row, h1, h2⟩
    exact ⟨h10, h10, row, h1, fun n hn1 hn2 => (hf row n).1 (h2 n ⟨hn1, hn2⟩)⟩
theorem mayC_is {r : Rk} {pins : Nat} {ball : List Rg} (hp : pins < 2 ^ 10) : listS (mayS r pins ball) = mayC r pins ball := by
  refine rising_ext (rising_listS _) (List.Pairwise.filter _ List.pairwise_lt_range) fun p => ?_
  rw [mem_listS, mayS, mem_bitsP, mayC]
  simp only [List.mem_filter, List.mem_range, List.any_eq_true, mem_boardsC]
  have hf : ∀ row n, (fallC r.links (fun _ => true) pins (touchC r pins row n) 11).testBit p = true ↔ Fall r.links (fun _ => true) pins (touchS r pins row n) p := fun row n => by
    rw [touchC_is, fallC_is hp (touchS_lt ..), mem_fallS (lt16 (touchS_lt ..)) (lt16 hp)]
  constructor
  · rintro ⟨h10, _, row, n, h1, h2, h3, h4⟩
    exact ⟨h10, row, h1, n, ⟨h2, h3⟩, (hf row n).2 h4⟩
  · rintro ⟨h10, row, h1, n, hn, h4⟩
    exact ⟨h10, h10, row, n, h1, hn.1, hn.2, (hf row n).1 h4⟩
/-- All that can be left. -/
def idleC (ls : List Lk) (bits : Nat) : Bool := (List.range ls.length).all fun i => !((lx ls i).s && bits.testBit i)
def lvC (r : Rk) (pins : Nat) (ball : List Rg) : Nat → Nat → List Nat
  | 0, t => ((List.range (2 ^ r.links.length)).filter (idleC r.links)).map fun bits => pins &&& (65535 - fallC r.links (someC r.links bits) pins t 11)
  | m + 1, t => (boardsC (gx ball (ball.length - (m + 1)))).flatMap fun n => lvC r pins ball m (t ||| touchC r pins (ball.length - (m + 1)) n)
theorem lvC_is {r : Rk} {pins : Nat} {ball : List Rg} (hp : pins < 2 ^ 10) {u : Nat} : ∀ m t, t < 2 ^ 10 → (u ∈ lvC r pins ball m t ↔ LvF r pins ball m t u)
  | 0, t, ht => by
    simp only [lvC, LvF, List.mem_map, List.mem_filter, List.mem_range]
    constructor
    · rintro ⟨bits, ⟨h1, h2⟩, rfl⟩
      exact ⟨bits, h1, h2, by rw [fallC_is hp ht, rest_is hp ht]⟩
    · rintro ⟨bits, h1, h2, rfl⟩
      exact ⟨bits, ⟨h1, h2⟩, by rw [fallC_is hp ht, rest_is hp ht]⟩
  | m + 1, t, ht => by
    simp only [lvC, LvF, List.mem_flatMap, mem_boardsC]
    constructor
    · rintro ⟨n, h1, h2⟩
      rw [touchC_is] at h2
      exact ⟨n, h1.1, h1.2, (lvC_is hp m _ (Nat.or_lt_two_pow ht (touchS_lt ..))).1 h2⟩
    · rintro ⟨n, h1, h2, h3⟩
      refine ⟨n, ⟨h1, h2⟩, ?_⟩
      rw [touchC_is]
      exact (lvC_is hp m _ (Nat.or_lt_two_pow ht (touchS_lt ..))).2 h3
theorem leaveC_is {r : Rk} {pins : Nat} {ball : List Rg} (hp : pins < 2 ^ 10) (hl : ball.length = r.rows.toNat) {u : Nat} : u ∈ lvC r pins ball ball.length 0 ↔ LeaveP r pins ball u := by
  rw [lvC_is hp _ _ (by decide), leaves_iff hl]
end Go.Proofs.Ytpekajnjjhibjaa
