/-
  Racks, sets of pins by bits, what falls with some, what hangs together: plain facts; no program.
-/
import Derived.WalkKit
namespace Go.Proofs.Ytpekajnjjhibjaa

/-- A link; a rack. -/
structure Lk where
  f : Int
  t : Int
  s : Bool
def lx (ls : List Lk) (k : Nat) : Lk := ls.getD k ⟨0, 0, false⟩
theorem lx_lt {ls : List Lk} {k : Nat} (h : k < ls.length) : lx ls k = ls[k] := by simp [lx, h]
structure Rk where
  rows : Int
  mid : Int
  gap : Int
  reach : Int
  links : List Lk

open Classical in
/-- The number with the bits of a predicate, below n. -/
noncomputable def bitsP (P : Nat → Prop) : Nat → Nat
  | 0 => 0
  | n + 1 => bitsP P n ||| (if P n then 2 ^ n else 0)
open Classical in
theorem testBit_bitsP (P : Nat → Prop) (n k : Nat) : (bitsP P n).testBit k = (decide (k < n) && decide (P k)) := by
  induction n with
  | zero => simp [bitsP]
  | succ n ih =>
    rw [bitsP, Nat.testBit_or, ih]
    by_cases hP : P n
    · simp only [hP, if_true, Nat.testBit_two_pow]
      by_cases hk : k = n
      · subst hk; simp [hP]
      · by_cases h2 : k < n
        · simp [h2, show k < n + 1 by omega, show ¬ n = k by omega]
        · simp [h2, show ¬ k < n + 1 by omega, show ¬ n = k by omega]
    · simp only [hP, if_false, Nat.zero_testBit, Bool.or_false]
      by_cases hk : k = n
      · subst hk; simp [hP]
      · by_cases h2 : k < n
        · simp [h2, show k < n + 1 by omega]
        · simp [h2, show ¬ k < n + 1 by omega]
theorem mem_bitsP {P : Nat → Prop} {n k : Nat} : (bitsP P n).testBit k = true ↔ k < n ∧ P k := by simp [testBit_bitsP]
theorem bitsP_lt (P : Nat → Prop) (n : Nat) : bitsP P n < 2 ^ n := by
  induction n with
  | zero => simp [bitsP]
  | succ n ih =>
    rw [bitsP]
    refine Nat.or_lt_two_pow (Nat.lt_trans ih (Nat.pow_lt_pow_right (by decide) (by omega))) ?_
    split
    · exact Nat.pow_lt_pow_right (by decide) (by omega)
    · exact Nat.two_pow_pos _
/-- Two sets of pins with the same pins are the same. -/
theorem set_ext {a b n : Nat} (ha : a < 2 ^ n) (hb : b < 2 ^ n) (h : ∀ p, p < n → (a.testBit p = true ↔ b.testBit p = true)) : a = b := by
  refine Nat.eq_of_testBit_eq fun i => ?_
  by_cases hi : i < n
  · have := h i hi
    cases h1 : a.testBit i <;> cases h2 : b.testBit i <;> simp_all
  · rw [Nat.testBit_lt_two_pow (Nat.lt_of_lt_of_le ha (Nat.pow_le_pow_right (by decide) (by omega))), Nat.testBit_lt_two_pow (Nat.lt_of_lt_of_le hb (Nat.pow_le_pow_right (by decide) (by omega)))]
theorem bit_lt {a n p : Nat} (ha : a < 2 ^ n) (h : a.testBit p = true) : p < n := by
  rcases Nat.lt_or_ge p n with h1 | h1
  · exact h1
  · rw [Nat.testBit_lt_two_pow (Nat.lt_of_lt_of_le ha (Nat.pow_le_pow_right (by decide) h1))] at h; cases h
def Sub (a b : Nat) : Prop := ∀ p, a.testBit p = true → b.testBit p = true
theorem Sub.rfl {a : Nat} : Sub a a := fun _ h => h
theorem Sub.trans {a b c : Nat} (h : Sub a b) (h' : Sub b c) : Sub a c := fun p hp => h' p (h p hp)
theorem Sub.antisymm {a b n : Nat} (ha : a < 2 ^ n) (hb : b < 2 ^ n) (h : Sub a b) (h' : Sub b a) : a = b := set_ext ha hb fun p _ => ⟨h p, h' p⟩

/-- The pins of a set, rising; how many they are. -/
def listS (s : Nat) : List Nat := (List.range 10).filter s.testBit
def many (s : Nat) : Nat := (listS s).length
theorem mem_listS {s p : Nat} : p ∈ listS s ↔ p < 10 ∧ s.testBit p = true := by simp [listS]
theorem many_le (s : Nat) : many s ≤ 10 := Nat.le_trans (List.length_filter_le _ _) (by simp)
/-- The set of some pins. -/
def ofS : List Nat → Nat
  | [] => 0
  | p :: l => 2 ^ p ||| ofS l
theorem mem_ofS {l : List Nat} {p : Nat} : (ofS l).testBit p = true ↔ p ∈ l := by
  induction l with
  | nil => simp [ofS]
  | cons x l ih =>
    rw [ofS, Nat.testBit_or, Bool.or_eq_true, ih, Nat.testBit_two_pow]
    simp only [decide_eq_true_eq, List.mem_cons]
    constructor
    · rintro (h | h)
      · exact .inl h.symm
      · exact .inr h
    · rintro (h | h)
      · exact .inl h.symm
      · exact .inr h
theorem ofS_lt {l : List Nat} {n : Nat} (h : ∀ p ∈ l, p < n) : ofS l < 2 ^ n := by
  induction l with
  | nil => exact Nat.two_pow_pos _
  | cons x l ih =>
    rw [ofS]
    exact Nat.or_lt_two_pow (Nat.pow_lt_pow_right (by decide) (h x (by simp))) (ih fun p hp => h p (by simp [hp]))
/-- Rising lists with the same members are the same. -/
theorem rising_ext : ∀ {l m : List Nat}, l.Pairwise (· < ·) → m.Pairwise (· < ·) → (∀ p, p ∈ l ↔ p ∈ m) → l = m
  | [], [], _, _, _ => rfl
  | [], y :: m, _, _, h => absurd ((h y).2 (by simp)) (by simp)
  | x :: l, [], _, _, h => absurd ((h x).1 (by simp)) (by simp)
  | x :: l, y :: m, hl, hm, h => by
    rw [List.pairwise_cons] at hl hm
    have e : x = y := by
      have h1 := (h x).1 (by simp)
      have h2 := (h y).2 (by simp)
      rcases List.mem_cons.1 h1 with e | e
      · exact e
      rcases List.mem_cons.1 h2 with e' | e'
      · exact e'.symm
      have := hl.1 _ e'
      have := hm.1 _ e
      omega
    subst e
    congr 1
    refine rising_ext hl.2 hm.2 fun p => ?_
    have := h p
    simp only [List.mem_cons] at this
    constructor
    · intro hp
      rcases this.1 (.inr hp) with e | e
      · have := hl.1 p hp; omega
      · exact e
    · intro hp
      rcases this.2 (.inr hp) with e | e
      · have := hm.1 p hp; omega
      · exact e
theorem rising_listS (s : Nat) : (listS s).Pairwise (· < ·) := List.Pairwise.filter _ List.pairwise_lt_range
theorem listS_ofS {l : List Nat} (h : l.Pairwise (· < ·)) (hp : ∀ p ∈ l, p < 10) : listS (ofS l) = l :=
  rising_ext (rising_listS _) h fun p => by rw [mem_listS, mem_ofS]; exact ⟨fun h => h.2, fun h => ⟨hp p h, h⟩⟩
theorem ofS_listS {s : Nat} (h : s < 2 ^ 10) : ofS (listS s) = s :=
  set_ext (ofS_lt fun p hp => (mem_listS.1 hp).1) h fun p hp => by rw [mem_ofS, mem_listS]; exact ⟨fun h => h.2, fun h => ⟨hp, h⟩⟩
theorem listS_inj {a b : Nat} (ha : a < 2 ^ 10) (hb : b < 2 ^ 10) (h : listS a = listS b) : a = b := by rw [← ofS_listS ha, ← ofS_listS hb, h]

/-- What falls with some pins, of those that stand, by links that carry. -/
inductive Fall (ls : List Lk) (c : Nat → Bool) (pins s : Nat) : Nat → Prop
  | base {p : Nat} : s.testBit p = true → Fall ls c pins s p
  | step {i : Nat} : i < ls.length → c i = true → Fall ls c pins s (lx ls i).f.toNat → pins.testBit (lx ls i).t.toNat = true → Fall ls c pins s (lx ls i).t.toNat
noncomputable def fallS (ls : List Lk) (c : Nat → Bool) (pins s : Nat) : Nat := bitsP (Fall ls c pins s) 16
section
variable {ls : List Lk} {c d : Nat → Bool} {pins s t : Nat}
theorem Fall.le {n p : Nat} (hs : s < 2 ^ n) (hp : pins < 2 ^ n) (h : Fall ls c pins s p) : p < n := by
  cases h with
  | base h => exact bit_lt hs h
  | step _ _ _ h => exact bit_lt hp h
theorem mem_fallS {p : Nat} (hs : s < 2 ^ 16) (hp : pins < 2 ^ 16) : (fallS ls c pins s).testBit p = true ↔ Fall ls c pins s p := by
  rw [fallS, mem_bitsP]
  exact ⟨fun h => h.2, fun h => ⟨h.le hs hp, h⟩⟩
theorem fallS_lt {n : Nat} (hs : s < 2 ^ n) (hp : pins < 2 ^ n) : fallS ls c pins s < 2 ^ n := by
  refine Nat.lt_pow_two_of_testBit _ fun i hi => ?_
  rw [Bool.eq_false_iff]
  intro h
  rw [fallS, mem_bitsP] at h
  have := h.2.le hs hp
  omega
theorem Fall.mono {q : Nat} {pins' : Nat} (hc : ∀ i, i < ls.length → c i = true → d i = true) (hs : Sub s t) (hp : Sub pins pins') (h : Fall ls c pins s q) : Fall ls d pins' t q := by
  induction h with
  | base h => exact .base (hs _ h)
  | step hi hci _ ht ih => exact .step hi (hc _ hi hci) ih (hp _ ht)
/-- What falls with two sets falls with one of them. -/
theorem Fall.or {q : Nat} (h : Fall ls c pins (s ||| t) q) : Fall ls c pins s q ∨ Fall ls c pins t q := by
  induction h with
  | base h =>
    rw [Nat.testBit_or, Bool.or_eq_true] at h
    exact h.imp .base .base
  | step hi hci _ ht ih => exact ih.imp (fun h => .step hi hci h ht) (fun h => .step hi hci h ht)
theorem Fall.zero {q : Nat} (h : Fall ls c pins 0 q) : False := by
  induction h with
  | base h => simp at h
  | step _ _ _ _ ih => exact ih
theorem Fall.in {q : Nat} (hs : Sub s pins) (h : Fall ls c pins s q) : pins.testBit q = true := by
  cases h with
  | base h => exact hs _ h
  | step _ _ _ h => exact h
/-- A set within what falls, from which no link leads out, is what falls. -/
theorem fall_closed {u q : Nat} (h0 : Sub s u) (hcl : ∀ i, i < ls.length → c i = true → u.testBit (lx ls i).f.toNat = true → pins.testBit (lx ls i).t.toNat = true → u.testBit (lx ls i).t.toNat = true) (h : Fall ls c pins s q) : u.testBit q = true := by
  induction h with
  | base h => exact h0 _ h
  | step hi hci _ ht ih => exact hcl _ hi hci ih ht
end

/-- Row of a pin, and which one it is there. -/
def plc : Nat → Nat → Nat → Nat × Nat
  | 0, row, pin => (row, pin)
  | n + 1, row, pin => if row < pin then plc n (row + 1) (pin - (row + 1)) else (row, pin)
def rowP (p : Nat) : Nat := (plc p 0 p).1
def atP (p : Nat) : Nat := (plc p 0 p).2
/-- Are two pins neighbours, by their places? -/
def nbB (a b : Nat) : Bool :=
  (decide (rowP a = rowP b) && (decide (atP a = atP b + 1) || decide (atP b = atP a + 1))) ||
  (decide (rowP b + 1 = rowP a) && (decide (atP b = atP a) || decide (atP b + 1 = atP a))) ||
  (decide (rowP b = rowP a + 1) && (decide (atP b = atP a) || decide (atP b = atP a + 1)))
theorem nbB_symm : ∀ a, a < 10 → ∀ b, b < 10 → nbB a b = nbB b a := by decide
/-- What hangs together with a pin. -/
inductive Conn (s a : Nat) : Nat → Prop
  | base : Conn s a a
  | step {x y : Nat} : Conn s a x → s.testBit y = true → nbB x y = true → Conn s a y
theorem Conn.in {s a p : Nat} (ha : s.testBit a = true) (h : Conn s a p) : s.testBit p = true := by
  cases h with
  | base => exact ha
  | step _ h _ => exact h
theorem Conn.trans {s a b p : Nat} (h : Conn s a b) (h' : Conn s b p) : Conn s a p := by
  induction h' with
  | base => exact h
  | step _ hy hn ih => exact .step ih hy hn
/-- A set with a, from which no way leads out, has what hangs together with a. -/
theorem conn_closed {s a u p : Nat} (h0 : u.testBit a = true) (hcl : ∀ x y, u.testBit x = true → s.testBit y = true → nbB x y = true → u.testBit y = true) (h : Conn s a p) : u.testBit p = true := by
  induction h with
  | base => exact h0
  | step _ hy hn ih => exact hcl _ _ ih hy hn
/-- The least pin of a set. -/
def firstS (s : Nat) : Nat := (listS s).headD 0
open Classical in
/-- The kind of a leave: None, Single, Plain, Split, Washout. -/
noncomputable def kindS (s : Nat) : Nat :=
  if many s < 2 then many s else if ∀ p, s.testBit p = true → Conn s (firstS s) p then 2 else if s.testBit 0 = true then 4 else 3
theorem kindS_le (s : Nat) : kindS s ≤ 4 := by
  unfold kindS
  split
  · omega
  · split
    · omega
    · split <;> omega

/-- The board over which a pin stands; the pins of a row that a ball reaches. -/
def boardP (r : Rk) (p : Nat) : Int := r.mid + r.gap * (2 * (atP p : Int) - (rowP p : Int))
def reachB (r : Rk) (p : Nat) (b : Int) : Bool := decide (-r.reach ≤ boardP r p - b) && decide (boardP r p - b ≤ r.reach)
noncomputable def touchS (r : Rk) (pins row : Nat) (b : Int) : Nat := bitsP (fun p => pins.testBit p = true ∧ rowP p = row ∧ reachB r p b = true) 10
theorem touchS_lt (r : Rk) (pins row : Nat) (b : Int) : touchS r pins row b < 2 ^ 10 := bitsP_lt _ _
theorem touchS_sub (r : Rk) (pins row : Nat) (b : Int) : Sub (touchS r pins row b) pins := fun _ h => (mem_bitsP.1 h).2.1
/-- What a ball over some boards touches, in the rows ahead of n. -/
noncomputable def touchedS (r : Rk) (pins : Nat) (b : Nat → Int) : Nat → Nat
  | 0 => 0
  | n + 1 => touchedS r pins b n ||| touchS r pins n (b n)
theorem touchedS_lt (r : Rk) (pins : Nat) (b : Nat → Int) : ∀ n, touchedS r pins b n < 2 ^ 10
  | 0 => by simp [touchedS]
  | n + 1 => Nat.or_lt_two_pow (touchedS_lt r pins b n) (touchS_lt ..)
theorem touchedS_sub (r : Rk) (pins : Nat) (b : Nat → Int) : ∀ n, Sub (touchedS r pins b n) pins
  | 0 => fun _ h => by simp [touchedS] at h
  | n + 1 => fun p h => by
    rw [touchedS, Nat.testBit_or, Bool.or_eq_true] at h
    rcases h with h | h
    · exact touchedS_sub r pins b n p h
    · exact touchS_sub _ _ _ _ p h
theorem mem_touchedS {r : Rk} {pins : Nat} {b : Nat → Int} {n p : Nat} : (touchedS r pins b n).testBit p = true ↔ ∃ row, row < n ∧ (touchS r pins row (b row)).testBit p = true := by
  induction n with
  | zero => simp [touchedS]
  | succ n ih =>
    rw [touchedS, Nat.testBit_or, Bool.or_eq_true, ih]
    constructor
    · rintro (⟨row, h, h'⟩ | h)
      · exact ⟨row, by omega, h'⟩
      · exact ⟨n, by omega, h⟩
    · rintro ⟨row, h, h'⟩
      by_cases e : row = n
      · subst e; exact .inr h'
      · exact .inl ⟨row, by omega, h'⟩
theorem touchedS_congr {r : Rk} {pins : Nat} {b b' : Nat → Int} : ∀ {n : Nat}, (∀ k, k < n → b k = b' k) → touchedS r pins b n = touchedS r pins b' n
  | 0, _ => rfl
  | n + 1, h => by rw [touchedS, touchedS, touchedS_congr fun k hk => h k (by omega), h n (by omega)]
/-- What a ball over some boards fells. -/
noncomputable def felledS (r : Rk) (pins : Nat) (b : Nat → Int) (c : Nat → Bool) : Nat := fallS r.links c pins (touchedS r pins b r.rows.toNat)

end Go.Proofs.Ytpekajnjjhibjaa
