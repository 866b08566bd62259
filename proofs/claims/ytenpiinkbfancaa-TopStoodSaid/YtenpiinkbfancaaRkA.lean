/-
  rack: how many pins a ball can leave; what it leaves in a truth (carried over from the proofs of the chapter 02).
-/
import Derived.Test.YtenpiinkbfancaaBase
import Derived.Test.YtenpiinkbfancaaGen
import Derived.Test.YtenpiinkbfancaaR
import Derived.Test.YtenpiinkbfancaaT
import Derived.Test.YtenpiinkbfancaaRt
import Derived.WalkKit
import Derived.Laws.BitsAllLaws
import Derived.Laws.Bits128
namespace Go.Proofs.Ytenpiinkbfancaa.Rk
open Go.RowKit
set_option linter.unusedSimpArgs false
set_option linter.unusedVariables false

section
open Go.RowKit
set_option maxHeartbeats 400000 in
theorem within_c (n lo hi : Int) (w : World) : Calls Try.prog 60 #[.int .i64 n, .int .i64 lo, .int .i64 hi] w (Same w (.bool (inB n lo hi))) := by
  by_cases h : lo ≤ n
  · go_enter Try.func60, Try.ntmps60
    go_wp2
    go_ret
    exact ⟨ret_bool (by simp [inB, h]), rfl⟩
  · go_enter Try.func60, Try.ntmps60
    go_wp2
    go_ret
    exact ⟨ret_bool (by simp only [inB]; rw [decide_eq_false (by omega)]; rfl), rfl⟩
set_option maxHeartbeats 400000 in
theorem in_c (n lo hi : Int) (w : World) : Calls Try.prog 52 #[.int .i64 n, .int .i64 lo, .int .i64 hi] w (Same w (.bool (inB n lo hi))) := by
  by_cases h : lo ≤ n
  · go_enter Try.func52, Try.ntmps52
    go_wp2
    go_ret
    exact ⟨ret_bool (by simp [inB, h]), rfl⟩
  · go_enter Try.func52, Try.ntmps52
    go_wp2
    go_ret
    exact ⟨ret_bool (by simp only [inB]; rw [decide_eq_false (by omega)]; rfl), rfl⟩
set_option maxHeartbeats 400000 in
theorem max2_c (g : Nat) (x y : Int) (w : World) (h0 : w.cell? ⟨g, 0, none⟩ = some (.int .i64 x)) (h1 : w.cell? ⟨g, 1, none⟩ = some (.int .i64 y)) :
    Calls Try.prog 118 #[.slice (some ⟨g, 0, none⟩) 2 2] w (Same w (.int .i64 (max x y))) := by
  go_enter Try.func118, Try.ntmps118
  go_wp2
  go_loop [3, 4] (fun m i => (m = .int .i64 x ∧ i = .int .i64 1) ∨ (m = .int .i64 (max x y) ∧ i = .int .i64 2)) (fun _ i => 2 - (intOf i).toNat)
  case atStart => exact .inl ⟨rfl, rfl⟩
  case round =>
    rcases hrel with ⟨rfl, rfl⟩ | ⟨rfl, rfl⟩
    · go_wp2
      all_goals
        go_round
        case rel => exact .inr ⟨by congr 1; omega, rfl⟩
        case measure => simp [intOf]
    · go_wp2
      go_ret
      exact ⟨rfl, rfl⟩
set_option maxHeartbeats 400000 in
theorem min2_c (g : Nat) (x y : Int) (w : World) (h0 : w.cell? ⟨g, 0, none⟩ = some (.int .i64 x)) (h1 : w.cell? ⟨g, 1, none⟩ = some (.int .i64 y)) :
    Calls Try.prog 117 #[.slice (some ⟨g, 0, none⟩) 2 2] w (Same w (.int .i64 (min x y))) := by
  go_enter Try.func117, Try.ntmps117
  go_wp2
  go_loop [3, 4] (fun m i => (m = .int .i64 x ∧ i = .int .i64 1) ∨ (m = .int .i64 (min x y) ∧ i = .int .i64 2)) (fun _ i => 2 - (intOf i).toNat)
  case atStart => exact .inl ⟨rfl, rfl⟩
  case round =>
    rcases hrel with ⟨rfl, rfl⟩ | ⟨rfl, rfl⟩
    · go_wp2
      all_goals
        go_round
        case rel => exact .inr ⟨by congr 1; omega, rfl⟩
        case measure => simp [intOf]
    · go_wp2
      go_ret
      exact ⟨rfl, rfl⟩
set_option maxHeartbeats 400000 in
theorem greatest_c (g : Nat) (x y : Int) (w : World) (h0 : w.cell? ⟨g, 0, none⟩ = some (.int .i64 x)) (h1 : w.cell? ⟨g, 1, none⟩ = some (.int .i64 y)) :
    Calls Try.prog 58 #[.slice (some ⟨g, 0, none⟩) 2 2] w (Same w (.int .i64 (max x y))) := by
  go_enter Try.func58, Try.ntmps58
  go_wp2_with (go_at_call 118; refine (max2_c _ _ _ _ h0 h1).mono ?_; rintro e w' ⟨rfl, rfl⟩)
  go_ret
  exact ⟨rfl, rfl⟩
set_option maxHeartbeats 400000 in
theorem least_c (g : Nat) (x y : Int) (w : World) (h0 : w.cell? ⟨g, 0, none⟩ = some (.int .i64 x)) (h1 : w.cell? ⟨g, 1, none⟩ = some (.int .i64 y)) :
    Calls Try.prog 56 #[.slice (some ⟨g, 0, none⟩) 2 2] w (Same w (.int .i64 (min x y))) := by
  go_enter Try.func56, Try.ntmps56
  go_wp2_with (go_at_call 117; refine (min2_c _ _ _ _ h0 h1).mono ?_; rintro e w' ⟨rfl, rfl⟩)
  go_ret
  exact ⟨rfl, rfl⟩
end

section
/-- A link; a rack. -/
structure Lk where
  f : Int
  t : Int
  s : Bool
def lx (ls : List Lk) (k : Nat) : Lk := ls.getD k ⟨0, 0, false⟩
theorem lx_lt {ls : List Lk} {k : Nat} (h : k < ls.length) : lx ls k = ls[k] := by simp [lx, h]
structure Rk where
  rows : Int
  mid : Int
  gap : Int
  reach : Int
  links : List Lk
open Classical in
/-- The number with the bits of a predicate, below n. -/
noncomputable def bitsP (P : Nat → Prop) : Nat → Nat
  | 0 => 0
  | n + 1 => bitsP P n ||| (if P n then 2 ^ n else 0)
open Classical in
theorem testBit_bitsP (P : Nat → Prop) (n k : Nat) : (bitsP P n).testBit k = (decide (k < n) && decide (P k)) := by
  induction n with
  | zero => simp [bitsP]
  | succ n ih =>
    rw [bitsP, Nat.testBit_or, ih]
    by_cases hP : P n
    · simp only [hP, if_true, Nat.testBit_two_pow]
      by_cases hk : k = n
      · subst hk; simp [hP]
      · by_cases h2 : k < n
        · simp [h2, show k < n + 1 by omega, show ¬ n = k by omega]
        · simp [h2, show ¬ k < n + 1 by omega, show ¬ n = k by omega]
    · simp only [hP, if_false, Nat.zero_testBit, Bool.or_false]
      by_cases hk : k = n
      · subst hk; simp [hP]
      · by_cases h2 : k < n
        · simp [h2, show k < n + 1 by omega]
        · simp [h2, show ¬ k < n + 1 by omega]
theorem mem_bitsP {P : Nat → Prop} {n k : Nat} : (bitsP P n).testBit k = true ↔ k < n ∧ P k := by simp [testBit_bitsP]
theorem bitsP_lt (P : Nat → Prop) (n : Nat) : bitsP P n < 2 ^ n := by
  induction n with
  | zero => simp [bitsP]
  | succ n ih =>
    rw [bitsP]
    refine Nat.or_lt_two_pow (Nat.lt_trans ih (Nat.pow_lt_pow_right (by decide) (by omega))) ?_
    split
    · exact Nat.pow_lt_pow_right (by decide) (by omega)
    · exact Nat.two_pow_pos _
/-- Two sets of pins with the same pins are the same. -/
theorem set_ext {a b n : Nat} (ha : a < 2 ^ n) (hb : b < 2 ^ n) (h : ∀ p, p < n → (a.testBit p = true ↔ b.testBit p = true)) : a = b := by
  refine Nat.eq_of_testBit_eq fun i => ?_
  by_cases hi : i < n
  · have := h i hi
    cases h1 : a.testBit i <;> cases h2 : b.testBit i <;> simp_all
  · rw [Nat.testBit_lt_two_pow (Nat.lt_of_lt_of_le ha (Nat.pow_le_pow_right (by decide) (by omega))), Nat.testBit_lt_two_pow (Nat.lt_of_lt_of_le hb (Nat.pow_le_pow_right (by decide) (by omega)))]
theorem bit_lt {a n p : Nat} (ha : a < 2 ^ n) (h : a.testBit p = true) : p < n := by
  rcases Nat.lt_or_ge p n with h1 | h1
  · exact h1
  · rw [Nat.testBit_lt_two_pow (Nat.lt_of_lt_of_le ha (Nat.pow_le_pow_right (by decide) h1))] at h; cases h
def Sub (a b : Nat) : Prop := ∀ p, a.testBit p = true → b.testBit p = true
theorem Sub.rfl {a : Nat} : Sub a a := fun _ h => h
theorem Sub.trans {a b c : Nat} (h : Sub a b) (h' : Sub b c) : Sub a c := fun p hp => h' p (h p hp)
theorem Sub.antisymm {a b n : Nat} (ha : a < 2 ^ n) (hb : b < 2 ^ n) (h : Sub a b) (h' : Sub b a) : a = b := set_ext ha hb fun p _ => ⟨h p, h' p⟩
/-- The pins of a set, rising; how many they are. -/
def listS (s : Nat) : List Nat := (List.range 10).filter s.testBit
def many (s : Nat) : Nat := (listS s).length
theorem mem_listS {s p : Nat} : p ∈ listS s ↔ p < 10 ∧ s.testBit p = true := by simp [listS]
theorem many_le (s : Nat) : many s ≤ 10 := Nat.le_trans (List.length_filter_le _ _) (by simp)
/-- The set of some pins. -/
def ofS : List Nat → Nat
  | [] => 0
  | p :: l => 2 ^ p ||| ofS l
theorem mem_ofS {l : List Nat} {p : Nat} : (ofS l).testBit p = true ↔ p ∈ l := by
  induction l with
  | nil => simp [ofS]
  | cons x l ih =>
    rw [ofS, Nat.testBit_or, Bool.or_eq_true, ih, Nat.testBit_two_pow]
    simp only [decide_eq_true_eq, List.mem_cons]
    constructor
    · rintro (h | h)
      · exact .inl h.symm
      · exact .inr h
    · rintro (h | h)
      · exact .inl h.symm
      · exact .inr h
theorem ofS_lt {l : List Nat} {n : Nat} (h : ∀ p ∈ l, p < n) : ofS l < 2 ^ n := by
  induction l with
  | nil => exact Nat.two_pow_pos _
  | cons x l ih =>
    rw [ofS]
    exact Nat.or_lt_two_pow (Nat.pow_lt_pow_right (by decide) (h x (by simp))) (ih fun p hp => h p (by simp [hp]))
/-- Rising lists with the same members are the same. -/
theorem rising_ext : ∀ {l m : List Nat}, l.Pairwise (· < ·) → m.Pairwise (· < ·) → (∀ p, p ∈ l ↔ p ∈ m) → l = m
  | [], [], _, _, _ => rfl
  | [], y :: m, _, _, h => absurd ((h y).2 (by simp)) (by simp)
  | x :: l, [], _, _, h => absurd ((h x).1 (by simp)) (by simp)
  | x :: l, y :: m, hl, hm, h => by
    rw [List.pairwise_cons] at hl hm
    have e : x = y := by
      have h1 := (h x).1 (by simp)
      have h2 := (h y).2 (by simp)
      rcases List.mem_cons.1 h1 with e | e
      · exact e
      rcases List.mem_cons.1 h2 with e' | e'
      · exact e'.symm
      have := hl.1 _ e'
      have := hm.1 _ e
      omega
    subst e
    congr 1
    refine rising_ext hl.2 hm.2 fun p => ?_
    have := h p
    simp only [List.mem_cons] at this
    constructor
    · intro hp
      rcases this.1 (.inr hp) with e | e
      · have := hl.1 p hp; omega
      · exact e
    · intro hp
      rcases this.2 (.inr hp) with e | e
      · have := hm.1 p hp; omega
      · exact e
theorem rising_listS (s : Nat) : (listS s).Pairwise (· < ·) := List.Pairwise.filter _ List.pairwise_lt_range
theorem listS_ofS {l : List Nat} (h : l.Pairwise (· < ·)) (hp : ∀ p ∈ l, p < 10) : listS (ofS l) = l :=
  rising_ext (rising_listS _) h fun p => by rw [mem_listS, mem_ofS]; exact ⟨fun h => h.2, fun h => ⟨hp p h, h⟩⟩
theorem ofS_listS {s : Nat} (h : s < 2 ^ 10) : ofS (listS s) = s :=
  set_ext (ofS_lt fun p hp => (mem_listS.1 hp).1) h fun p hp => by rw [mem_ofS, mem_listS]; exact ⟨fun h => h.2, fun h => ⟨hp, h⟩⟩
/-- What falls with some pins, of those that stand, by links that carry. -/
inductive Fall (ls : List Lk) (c : Nat → Bool) (pins s : Nat) : Nat → Prop
  | base {p : Nat} : s.testBit p = true → Fall ls c pins s p
  | step {i : Nat} : i < ls.length → c i = true → Fall ls c pins s (lx ls i).f.toNat → pins.testBit (lx ls i).t.toNat = true → Fall ls c pins s (lx ls i).t.toNat
noncomputable def fallS (ls : List Lk) (c : Nat → Bool) (pins s : Nat) : Nat := bitsP (Fall ls c pins s) 16
section
variable {ls : List Lk} {c d : Nat → Bool} {pins s t : Nat}
theorem Fall.le {n p : Nat} (hs : s < 2 ^ n) (hp : pins < 2 ^ n) (h : Fall ls c pins s p) : p < n := by
  cases h with
  | base h => exact bit_lt hs h
  | step _ _ _ h => exact bit_lt hp h
theorem mem_fallS {p : Nat} (hs : s < 2 ^ 16) (hp : pins < 2 ^ 16) : (fallS ls c pins s).testBit p = true ↔ Fall ls c pins s p := by
  rw [fallS, mem_bitsP]
  exact ⟨fun h => h.2, fun h => ⟨h.le hs hp, h⟩⟩
theorem fallS_lt {n : Nat} (hs : s < 2 ^ n) (hp : pins < 2 ^ n) : fallS ls c pins s < 2 ^ n := by
  refine Nat.lt_pow_two_of_testBit _ fun i hi => ?_
  rw [Bool.eq_false_iff]
  intro h
  rw [fallS, mem_bitsP] at h
  have := h.2.le hs hp
  omega
theorem Fall.mono {q : Nat} {pins' : Nat} (hc : ∀ i, i < ls.length → c i = true → d i = true) (hs : Sub s t) (hp : Sub pins pins') (h : Fall ls c pins s q) : Fall ls d pins' t q := by
  induction h with
  | base h => exact .base (hs _ h)
  | step hi hci _ ht ih => exact .step hi (hc _ hi hci) ih (hp _ ht)
/-- What falls with two sets falls with one of them. -/
theorem Fall.or {q : Nat} (h : Fall ls c pins (s ||| t) q) : Fall ls c pins s q ∨ Fall ls c pins t q := by
  induction h with
  | base h =>
    rw [Nat.testBit_or, Bool.or_eq_true] at h
    exact h.imp .base .base
  | step hi hci _ ht ih => exact ih.imp (fun h => .step hi hci h ht) (fun h => .step hi hci h ht)
theorem Fall.zero {q : Nat} (h : Fall ls c pins 0 q) : False := by
  induction h with
  | base h => simp at h
  | step _ _ _ _ ih => exact ih
/-- A set within what falls, from which no link leads out, is what falls. -/
theorem fall_closed {u q : Nat} (h0 : Sub s u) (hcl : ∀ i, i < ls.length → c i = true → u.testBit (lx ls i).f.toNat = true → pins.testBit (lx ls i).t.toNat = true → u.testBit (lx ls i).t.toNat = true) (h : Fall ls c pins s q) : u.testBit q = true := by
  induction h with
  | base h => exact h0 _ h
  | step hi hci _ ht ih => exact hcl _ hi hci ih ht
end
/-- Row of a pin, and which one it is there. -/
def plc : Nat → Nat → Nat → Nat × Nat
  | 0, row, pin => (row, pin)
  | n + 1, row, pin => if row < pin then plc n (row + 1) (pin - (row + 1)) else (row, pin)
def rowP (p : Nat) : Nat := (plc p 0 p).1
def atP (p : Nat) : Nat := (plc p 0 p).2
/-- Are two pins neighbours, by their places? -/
def nbB (a b : Nat) : Bool :=
  (decide (rowP a = rowP b) && (decide (atP a = atP b + 1) || decide (atP b = atP a + 1))) ||
  (decide (rowP b + 1 = rowP a) && (decide (atP b = atP a) || decide (atP b + 1 = atP a))) ||
  (decide (rowP b = rowP a + 1) && (decide (atP b = atP a) || decide (atP b = atP a + 1)))
/-- The board over which a pin stands; the pins of a row that a ball reaches. -/
def boardP (r : Rk) (p : Nat) : Int := r.mid + r.gap * (2 * (atP p : Int) - (rowP p : Int))
def reachB (r : Rk) (p : Nat) (b : Int) : Bool := decide (-r.reach ≤ boardP r p - b) && decide (boardP r p - b ≤ r.reach)
noncomputable def touchS (r : Rk) (pins row : Nat) (b : Int) : Nat := bitsP (fun p => pins.testBit p = true ∧ rowP p = row ∧ reachB r p b = true) 10
theorem touchS_lt (r : Rk) (pins row : Nat) (b : Int) : touchS r pins row b < 2 ^ 10 := bitsP_lt _ _
/-- What a ball over some boards touches, in the rows ahead of n. -/
noncomputable def touchedS (r : Rk) (pins : Nat) (b : Nat → Int) : Nat → Nat
  | 0 => 0
  | n + 1 => touchedS r pins b n ||| touchS r pins n (b n)
theorem touchedS_lt (r : Rk) (pins : Nat) (b : Nat → Int) : ∀ n, touchedS r pins b n < 2 ^ 10
  | 0 => by simp [touchedS]
  | n + 1 => Nat.or_lt_two_pow (touchedS_lt r pins b n) (touchS_lt ..)
theorem touchedS_congr {r : Rk} {pins : Nat} {b b' : Nat → Int} : ∀ {n : Nat}, (∀ k, k < n → b k = b' k) → touchedS r pins b n = touchedS r pins b' n
  | 0, _ => rfl
  | n + 1, h => by rw [touchedS, touchedS, touchedS_congr fun k hk => h k (by omega), h n (by omega)]
/-- What a ball over some boards fells. -/
noncomputable def felledS (r : Rk) (pins : Nat) (b : Nat → Int) (c : Nat → Bool) : Nat := fallS r.links c pins (touchedS r pins b r.rows.toNat)
end

section
/-- A range of boards. -/
structure Rg where
  lo : Int
  hi : Int
def gx (l : List Rg) (k : Nat) : Rg := l.getD k ⟨0, 0⟩
theorem gx_lt {l : List Rg} {k : Nat} (h : k < l.length) : gx l k = l[k] := by simp [gx, h]
/-- Boards within ranges; links that can carry so. -/
def Within (ball : List Rg) (b : Nat → Int) : Prop := ∀ k, k < ball.length → (gx ball k).lo ≤ b k ∧ b k ≤ (gx ball k).hi
def Carry (ls : List Lk) (c : Nat → Bool) : Prop := ∀ i, i < ls.length → (lx ls i).s = true → c i = true
def surely (ls : List Lk) (i : Nat) : Bool := (lx ls i).s
/-- What a truth leaves. -/
noncomputable def leftS (r : Rk) (pins : Nat) (b : Nat → Int) (c : Nat → Bool) : Nat := bitsP (fun p => pins.testBit p = true ∧ (felledS r pins b c).testBit p = false) 10
def LeaveP (r : Rk) (pins : Nat) (ball : List Rg) (u : Nat) : Prop := ∃ b c, Within ball b ∧ Carry r.links c ∧ u = leftS r pins b c
def Ranges (ball : List Rg) : Prop := ∀ k, k < ball.length → (gx ball k).lo ≤ (gx ball k).hi
section
variable {r : Rk} {pins : Nat} {ball : List Rg}
theorem felledS_lt {b : Nat → Int} {c : Nat → Bool} (hp : pins < 2 ^ 10) : felledS r pins b c < 2 ^ 10 := fallS_lt (touchedS_lt ..) hp
theorem leftS_lt {b : Nat → Int} {c : Nat → Bool} : leftS r pins b c < 2 ^ 10 := bitsP_lt _ _
theorem mem_leftS {b : Nat → Int} {c : Nat → Bool} {p : Nat} (hp : pins < 2 ^ 10) : (leftS r pins b c).testBit p = true ↔ pins.testBit p = true ∧ ¬ (felledS r pins b c).testBit p = true := by
  rw [leftS, mem_bitsP]
  constructor
  · rintro ⟨_, h, h'⟩; exact ⟨h, by simp [h']⟩
  · rintro ⟨h, h'⟩; exact ⟨bit_lt hp h, h, by simpa using h'⟩
theorem surely_carry (ls : List Lk) : Carry ls (surely ls) := fun _ _ h => h
end
end

section
open Go.RowKit
/-- The function g says p k of element k, in whatever world in which J k holds; then J (k + 1) holds. -/
structure RightJ (n g : Nat) (fs cs : Array Value) (vs : Nat → Value) (p : Nat → Bool) (A : Option Addr) (row : Option Nat) (J : Nat → World → Prop) : Prop where
  step : ∀ k, k < n → ∀ W, J k W → Calls Try.prog g (fs.push (vs k) ++ cs) W (fun e W' => e = .returned (.bool (p k)) ∧ J (k + 1) W' ∧ W.grownBy W' row)
  below : ∀ k W W', J k W → Below W.heap.size W W' → J k W'
  elem : ∀ k, k < n → ∀ W, J k W → ∃ b off, A = some ⟨b, off, none⟩ ∧ W.cell? ⟨b, off + k, none⟩ = some (vs k)
def FoundJ (w : World) (n : Nat) (p : Nat → Bool) (row : Option Nat) (J : Nat → World → Prop) (e : Ending) (w' : World) : Prop :=
  ((∃ k : Nat, e = .returned (.int .i64 k) ∧ allB n p = false) ∨ (e = .returned (.int .i64 (-1)) ∧ allB n p = true)) ∧ (∃ k, J k w') ∧ w.grownBy w' row
def AnsJ (w : World) (v : Value) (row : Option Nat) (J : Nat → World → Prop) (e : Ending) (w' : World) : Prop := e = .returned v ∧ (∃ k, J k w') ∧ w.grownBy w' row
set_option maxHeartbeats 400000 in
theorem clI (g bx : Nat) (fs cs : Array Value) (x : Value) (W : World) (b : Bool) (R : World → Prop) (he : Enters g)
    (hbx : W.cell? ⟨bx, 0, none⟩ = some (.func (.func g) fs cs)) (hc : Calls Try.prog g (fs.push x ++ cs) W (fun e W' => e = .returned (.bool b) ∧ R W')) :
    Calls Try.prog 174 #[x, .pointer (some ⟨bx, 0, none⟩)] W (fun e W' => e = .returned (.bool (!b)) ∧ R W') := by
  have H := Lib.hid hc
  clear hc
  unfold Enters at he
  go_enter Try.func174, Try.ntmps174
  go_wp2_with fail
  refine H.out.mono ?_
  rintro e w1 ⟨rfl, hb⟩
  go_wp2_with fail
  go_ret
  exact ⟨rfl, hb⟩
set_option maxHeartbeats 400000 in
theorem indexI (A : Option Addr) (n c g bx : Nat) (fs cs : Array Value) (vs : Nat → Value) (p : Nat → Bool) (row : Option Nat) (J : Nat → World → Prop) (w : World) (he : Enters g) (hn : n ≤ 9223372036854775807)
    (hcell : w.cell? ⟨bx, 0, none⟩ = some (.func (.func g) fs cs)) (hrow : some bx ≠ row) (hr : RightJ n g fs cs vs p A row J) (h0 : J 0 w) :
    Calls Try.prog 166 #[.slice A n c, .func (.func 174) #[] #[.pointer (some ⟨bx, 0, none⟩)]] w (FoundJ w n p row J) := by
  have HR := Lib.hid hr
  have HC := Lib.hid hcell
  have HE := Lib.hid he
  have HJ0 := Lib.hid h0
  have HNE := Lib.hid hrow
  clear hr hcell he h0 hrow
  go_enter Try.func166, Try.ntmps166
  go_wp2_with fail
  go_loopw [8] (fun i wr => ∃ k : Nat, k ≤ n ∧ i = .int .i64 k ∧ AllB k p ∧ J k wr ∧ w.grownBy wr row) (fun i _ => n - (intOf i).toNat)
  case atStart => exact ⟨0, by omega, rfl, fun j hj => by omega, HJ0.out, World.grownBy.refl _ _⟩
  case round =>
    obtain ⟨k, hk, rfl, hp, hj, hb⟩ := hrel
    have HP := Lib.hid hp
    have HJ := Lib.hid hj
    have HB := Lib.hid hb
    clear hp hj hb
    by_cases h1 : k < n
    · obtain ⟨b, off, rfl, hc⟩ := HR.out.elem k h1 wr HJ.out
      have hcl := clI g bx fs cs (vs k) wr (p k) _ HE.out (HB.out.cell HC.out HNE.out) (HR.out.step k h1 wr HJ.out)
      have HCL := Lib.hid hcl
      clear hcl
      cases hpk : p k
      · have HPK := Lib.hid hpk
        clear hpk
        go_wp2_with fail
        refine HCL.out.mono ?_
        rw [HPK.out]
        rintro e w1 ⟨rfl, hj2, hb2⟩
        have H2 := Lib.hid hj2
        have H3 := Lib.hid hb2
        clear hj2 hb2
        go_wp2_with fail
        go_ret
        exact ⟨.inl ⟨k, rfl, allB_false h1 HPK.out⟩, ⟨k + 1, H2.out⟩, HB.out.trans H3.out⟩
      · have HPK := Lib.hid hpk
        clear hpk
        go_wp2_with fail
        refine HCL.out.mono ?_
        rw [HPK.out]
        rintro e w1 ⟨rfl, hj2, hb2⟩
        have H2 := Lib.hid hj2
        have H3 := Lib.hid hb2
        clear hj2 hb2
        go_wp2_with fail
        go_roundw
        case rel => exact ⟨k + 1, by omega, by go_num, HP.out.succ HPK.out, H2.out, HB.out.trans H3.out⟩
        case measure => simp [intOf]; omega
    · go_wp2_with fail
      go_ret
      exact ⟨.inr ⟨rfl, allB_true (by have : k = n := by omega
                                      have h := HP.out
                                      rwa [this] at h)⟩, ⟨k, HJ.out⟩, HB.out⟩
set_option maxHeartbeats 400000 in
theorem containsI (A : Option Addr) (n c g bx : Nat) (fs cs : Array Value) (vs : Nat → Value) (p : Nat → Bool) (row : Option Nat) (J : Nat → World → Prop) (w : World) (he : Enters g) (hn : n ≤ 9223372036854775807)
    (hcell : w.cell? ⟨bx, 0, none⟩ = some (.func (.func g) fs cs)) (hrow : some bx ≠ row) (hr : RightJ n g fs cs vs p A row J) (h0 : J 0 w) :
    Calls Try.prog 132 #[.slice A n c, .func (.func 174) #[] #[.pointer (some ⟨bx, 0, none⟩)]] w (AnsJ w (.bool (!allB n p)) row J) := by
  have H := Lib.hid (indexI A n c g bx fs cs vs p row J w he hn hcell hrow hr h0)
  clear hcell hr he h0 hrow
  go_enter Try.func132, Try.ntmps132
  go_wp2_with fail
  refine H.out.mono ?_
  rintro e w1 ⟨⟨k, rfl, hk⟩ | ⟨rfl, hk⟩, hj, hg⟩
  all_goals
    have HJ := Lib.hid hj
    have HG := Lib.hid hg
    clear hj hg
    go_wp2_with fail
    go_ret
    exact ⟨ret_bool (by rw [hk]; simp), HJ.out, HG.out⟩
set_option maxHeartbeats 400000 in
theorem allJ (A : Option Addr) (n c g : Nat) (fs cs : Array Value) (vs : Nat → Value) (p : Nat → Bool) (row : Option Nat) (J : Nat → World → Prop) (w : World) (he : Enters g) (hn : n ≤ 9223372036854775807)
    (hrow : ∀ q, row = some q → q < w.heap.size) (hr : RightJ n g fs cs vs p A row J) (h0 : J 0 w) :
    Calls Try.prog 150 #[.slice A n c, .func (.func g) fs cs] w (AnsJ w (.bool (allB n p)) row J) := by
  have hw : Below w.heap.size w (w.alloc (.cells #[.func (.func g) fs cs] 193)) := (Below.refl _ _).alloc (Nat.le_refl _) _
  have H := Lib.hid (containsI A n c g w.heap.size fs cs vs p row J (w.alloc (.cells #[.func (.func g) fs cs] 193)) he hn (by simp) (fun e => by have := hrow _ e.symm; omega) hr (hr.below _ _ _ h0 hw))
  clear hr he h0 hrow
  go_enter Try.func150, Try.ntmps150
  go_wp2_with fail
  refine H.out.mono ?_
  rintro e w1 ⟨rfl, hj, hg⟩
  have HJ := Lib.hid hj
  have HG := Lib.hid hg
  clear hj hg
  go_wp2_with fail
  go_ret
  exact ⟨ret_bool (by simp), HJ.out, (only_below hw row).trans HG.out⟩
/-- Plain: a function that writes nothing of the old. -/
theorem allI {B : Nat} (A : Option Addr) (xs : List Int) (c g : Nat) (fs cs : Array Value) (p : Nat → Bool) (w : World) (he : Enters g) (hB : B ≤ w.heap.size) (hn : xs.length ≤ 9223372036854775807)
    (hel : Ints B w A xs) (hr : ∀ k, k < xs.length → ∀ W, Below w.heap.size w W → Calls Try.prog g (fs.push (.int .i64 (ix xs k)) ++ cs) W (Ans W (.bool (p k)))) :
    Calls Try.prog 150 #[.slice A xs.length c, .func (.func g) fs cs] w (Ans w (.bool (allB xs.length p))) := by
  refine (allJ A xs.length c g fs cs (fun k => .int .i64 (ix xs k)) p none (fun _ W => Below w.heap.size w W) w he hn (fun q e => by cases e) ⟨?_, ?_, ?_⟩ (Below.refl _ _)).mono ?_
  · intro k hk W hW
    refine (hr k hk W hW).mono ?_
    rintro e W' ⟨rfl, hb⟩
    exact ⟨rfl, hW.trans (hb.mono hW.size), only_below hb none⟩
  · intro _ W W' h hb; exact h.trans (hb.mono h.size)
  · intro k hk W hW
    obtain ⟨b, off, hA, _, hc⟩ := (hel.below (hW.mono hB)).at_ hk
    exact ⟨b, off, hA, hc⟩
  · rintro e W' ⟨rfl, ⟨_, hb⟩, _⟩
    exact ⟨rfl, hb⟩
/-- Elements of a slice of structs. -/
def W3 (w : World) (b p : Nat) (x : Lk) : Prop := w.cell? ⟨b, p, none⟩ = some (.int .i64 x.f) ∧ w.cell? ⟨b, p + 1, none⟩ = some (.int .i64 x.t) ∧ w.cell? ⟨b, p + 2, none⟩ = some (.bool x.s)
theorem W3.below {B : Nat} {w w' : World} {b p : Nat} {x : Lk} (h : W3 w b p x) (hb : Below B w w') (hlt : b < B) : W3 w' b p x := ⟨(hb.cell (p := ⟨b, p, none⟩) hlt).trans h.1, (hb.cell (p := ⟨b, p + 1, none⟩) hlt).trans h.2.1, (hb.cell (p := ⟨b, p + 2, none⟩) hlt).trans h.2.2⟩
def Lks (B : Nat) (w : World) (A : Option Addr) (ws : List Lk) : Prop :=
  0 < ws.length → ∃ b off, A = some ⟨b, off, none⟩ ∧ b < B ∧ ∀ k, k < ws.length → W3 w b (off + k * 3) (lx ws k)
theorem Lks.at_ {B : Nat} {w : World} {A : Option Addr} {ws : List Lk} (h : Lks B w A ws) {k : Nat} (hk : k < ws.length) : ∃ b off, A = some ⟨b, off, none⟩ ∧ b < B ∧ W3 w b (off + k * 3) (lx ws k) := by
  obtain ⟨b, off, hA, hb, hc⟩ := h (by omega)
  exact ⟨b, off, hA, hb, hc k hk⟩
theorem Lks.below {B : Nat} {w w' : World} {A : Option Addr} {ws : List Lk} (h : Lks B w A ws) (hb : Below B w w') : Lks B w' A ws := fun hp => by
  obtain ⟨b, off, hA, hlt, hc⟩ := h hp
  exact ⟨b, off, hA, hlt, fun k hk => (hc k hk).below hb hlt⟩
theorem Lks.more {B B' : Nat} {w : World} {A : Option Addr} {ws : List Lk} (h : Lks B w A ws) (hB : B ≤ B') : Lks B' w A ws := fun hp => by
  obtain ⟨b, off, hA, hlt, hc⟩ := h hp
  exact ⟨b, off, hA, by omega, hc⟩
theorem Lks.step {w w' : World} {A : Option Addr} {ws : List Lk} (h : Lks w.heap.size w A ws) (hb : Below w.heap.size w w') : Lks w'.heap.size w' A ws := (h.below hb).more hb.size
/-- The value of one. -/
def lV (x : Lk) : Value := .agg #[.int .i64 x.f, .int .i64 x.t, .bool x.s]
set_option maxHeartbeats 400000 in
theorem clLk (g bx : Nat) (fs cs : Array Value) (x : Lk) (W : World) (b : Bool) (he : Enters g)
    (hbx : W.cell? ⟨bx, 0, none⟩ = some (.func (.func g) fs cs)) (hc : Calls Try.prog g (fs.push (lV x) ++ cs) (W.alloc (.cells #[.int .i64 x.f, .int .i64 x.t, .bool x.s] 165)) (Ans (W.alloc (.cells #[.int .i64 x.f, .int .i64 x.t, .bool x.s] 165)) (.bool b))) :
    Calls Try.prog 198 #[lV x, .pointer (some ⟨bx, 0, none⟩)] W (Ans W (.bool (!b))) := by
  have H := Lib.hid hc
  clear hc
  unfold Enters at he
  obtain ⟨xf, xt, xs⟩ := x
  unfold lV at H ⊢
  dsimp only at H ⊢
  have hbx2 := cell_alloc_keep (.cells #[.int .i64 xf, .int .i64 xt, .bool xs] 165) hbx
  have hb0 : Below W.heap.size W (W.alloc (.cells #[.int .i64 xf, .int .i64 xt, .bool xs] 165)) := (Below.refl _ _).alloc (Nat.le_refl _) _
  have hz0 := hb0.size
  go_enter Try.func198, Try.ntmps198
  go_wp2_with fail
  refine H.out.mono ?_
  rintro e w1 ⟨rfl, hb⟩
  go_wp2_with fail
  go_ret
  exact ⟨rfl, hb0.trans (hb.mono hz0)⟩
/-- The function g says p k of element k, in whatever world that has the old blocks. -/
def RightLk (B : Nat) (w : World) (n g : Nat) (fs cs : Array Value) (ws : List Lk) (p : Nat → Bool) : Prop :=
  ∀ k, k < n → ∀ W, Below B w W → Calls Try.prog g (fs.push (lV (lx ws k)) ++ cs) W (Ans W (.bool (p k)))
theorem RightLk.below {B : Nat} {w w' : World} {n g : Nat} {fs cs : Array Value} {ws : List Lk} {p : Nat → Bool} (h : RightLk B w n g fs cs ws p) (hb : Below B w w') : RightLk B w' n g fs cs ws p :=
  fun k hk W hW => h k hk W (hb.trans hW)
set_option maxHeartbeats 400000 in
theorem indexLk {B : Nat} (A : Option Addr) (c g bx : Nat) (fs cs : Array Value) (ws : List Lk) (p : Nat → Bool) (w : World) (he : Enters g) (hB : B ≤ w.heap.size) (hbx : bx < w.heap.size) (hn : ws.length ≤ 9223372036854775807)
    (hcell : w.cell? ⟨bx, 0, none⟩ = some (.func (.func g) fs cs)) (hel : Lks B w A ws) (hr : RightLk B w ws.length g fs cs ws p) :
    Calls Try.prog 209 #[.slice A ws.length c, .func (.func 198) #[] #[.pointer (some ⟨bx, 0, none⟩)]] w (Found w ws.length p) := by
  have HR := Lib.hid hr
  have HC := Lib.hid hcell
  have HE := Lib.hid he
  clear hr hcell he
  go_enter Try.func209, Try.ntmps209
  go_wp2_with fail
  go_loopw [8] (fun i wr => ∃ k : Nat, k ≤ ws.length ∧ i = .int .i64 k ∧ AllB k p ∧ Below w.heap.size w wr) (fun i _ => ws.length - (intOf i).toNat)
  case atStart => exact ⟨0, by omega, rfl, fun j hj => by omega, Below.refl _ _⟩
  case round =>
    obtain ⟨k, hk, rfl, hp, hb⟩ := hrel
    by_cases h1 : k < ws.length
    · obtain ⟨b, off, rfl, hb1, hc0⟩ := hel.at_ h1
      obtain ⟨c1, c2, c3⟩ := (hc0.below hb (by omega) : W3 wr b (off + k * 3) (lx ws k))
      clear hc0
      have hz := hb.size
      have hcl := clLk g bx fs cs (lx ws k) wr (p k) HE.out ((hb.cell (p := ⟨bx, 0, none⟩) hbx).trans HC.out) (HR.out k h1 _ ((hb.mono hB).alloc (by omega) _))
      unfold lV at hcl
      have HCL := Lib.hid hcl
      clear hcl
      cases hpk : p k
      · have HP := Lib.hid hpk
        clear hpk
        go_wp2_with fail
        refine HCL.out.mono ?_
        rw [HP.out]
        rintro e w1 ⟨rfl, hb2⟩
        go_wp2_with fail
        go_ret
        exact found_at h1 HP.out (hb.trans (hb2.mono hz))
      · have HP := Lib.hid hpk
        clear hpk
        go_wp2_with fail
        refine HCL.out.mono ?_
        rw [HP.out]
        rintro e w1 ⟨rfl, hb2⟩
        go_wp2_with fail
        go_roundw
        case rel => exact ⟨k + 1, by omega, by go_num, hp.succ HP.out, hb.trans (hb2.mono hz)⟩
        case measure => simp [intOf]; omega
    · go_wp2_with fail
      go_ret
      exact found_none (by have : k = ws.length := by omega
                           rwa [this] at hp) hb
set_option maxHeartbeats 400000 in
theorem containsLk {B : Nat} (A : Option Addr) (c g bx : Nat) (fs cs : Array Value) (ws : List Lk) (p : Nat → Bool) (w : World) (he : Enters g) (hB : B ≤ w.heap.size) (hbx : bx < w.heap.size) (hn : ws.length ≤ 9223372036854775807)
    (hcell : w.cell? ⟨bx, 0, none⟩ = some (.func (.func g) fs cs)) (hel : Lks B w A ws) (hr : RightLk B w ws.length g fs cs ws p) :
    Calls Try.prog 197 #[.slice A ws.length c, .func (.func 198) #[] #[.pointer (some ⟨bx, 0, none⟩)]] w (Ans w (.bool (!allB ws.length p))) := by
  have H := Lib.hid (indexLk A c g bx fs cs ws p w he hB hbx hn hcell hel hr)
  clear hcell hr he
  go_enter Try.func197, Try.ntmps197
  go_wp2_with fail
  refine H.out.mono ?_
  rintro e w1 (⟨k, rfl, hk, hb⟩ | ⟨rfl, hk, hb⟩)
  · go_wp2_with fail
    go_ret
    exact ⟨ret_bool (by rw [hk]; simp), hb⟩
  · go_wp2_with fail
    go_ret
    exact ⟨ret_bool (by rw [hk]; rfl), hb⟩
set_option maxHeartbeats 400000 in
theorem allLk {B : Nat} (A : Option Addr) (c g : Nat) (fs cs : Array Value) (ws : List Lk) (p : Nat → Bool) (w : World) (he : Enters g) (hB : B ≤ w.heap.size) (hn : ws.length ≤ 9223372036854775807)
    (hel : Lks B w A ws) (hr : RightLk B w ws.length g fs cs ws p) :
    Calls Try.prog 172 #[.slice A ws.length c, .func (.func g) fs cs] w (Ans w (.bool (allB ws.length p))) := by
  have hw : Below B w (w.alloc (.cells #[.func (.func g) fs cs] 295)) := (Below.refl _ _).alloc hB _
  have H := Lib.hid (containsLk (B := B) A c g w.heap.size fs cs ws p (w.alloc (.cells #[.func (.func g) fs cs] 295)) he (by simp; omega) (by simp) hn (by simp) (hel.below hw) (hr.below hw))
  clear hr he
  go_enter Try.func172, Try.ntmps172
  go_wp2_with fail
  refine H.out.mono ?_
  rintro e w1 ⟨rfl, hb⟩
  go_wp2_with fail
  go_ret
  exact ⟨ret_bool (by simp), (((Below.refl w.heap.size w).alloc (Nat.le_refl _) _).trans (hb.mono (by simp)))⟩
/-- Elements of a slice of structs. -/
def W2 (w : World) (b p : Nat) (x : Rg) : Prop := w.cell? ⟨b, p, none⟩ = some (.int .i64 x.lo) ∧ w.cell? ⟨b, p + 1, none⟩ = some (.int .i64 x.hi)
theorem W2.below {B : Nat} {w w' : World} {b p : Nat} {x : Rg} (h : W2 w b p x) (hb : Below B w w') (hlt : b < B) : W2 w' b p x := ⟨(hb.cell (p := ⟨b, p, none⟩) hlt).trans h.1, (hb.cell (p := ⟨b, p + 1, none⟩) hlt).trans h.2⟩
def Rgs (B : Nat) (w : World) (A : Option Addr) (ws : List Rg) : Prop :=
  0 < ws.length → ∃ b off, A = some ⟨b, off, none⟩ ∧ b < B ∧ ∀ k, k < ws.length → W2 w b (off + k * 2) (gx ws k)
theorem Rgs.at_ {B : Nat} {w : World} {A : Option Addr} {ws : List Rg} (h : Rgs B w A ws) {k : Nat} (hk : k < ws.length) : ∃ b off, A = some ⟨b, off, none⟩ ∧ b < B ∧ W2 w b (off + k * 2) (gx ws k) := by
  obtain ⟨b, off, hA, hb, hc⟩ := h (by omega)
  exact ⟨b, off, hA, hb, hc k hk⟩
theorem Rgs.below {B : Nat} {w w' : World} {A : Option Addr} {ws : List Rg} (h : Rgs B w A ws) (hb : Below B w w') : Rgs B w' A ws := fun hp => by
  obtain ⟨b, off, hA, hlt, hc⟩ := h hp
  exact ⟨b, off, hA, hlt, fun k hk => (hc k hk).below hb hlt⟩
theorem Rgs.more {B B' : Nat} {w : World} {A : Option Addr} {ws : List Rg} (h : Rgs B w A ws) (hB : B ≤ B') : Rgs B' w A ws := fun hp => by
  obtain ⟨b, off, hA, hlt, hc⟩ := h hp
  exact ⟨b, off, hA, by omega, hc⟩
theorem Rgs.step {w w' : World} {A : Option Addr} {ws : List Rg} (h : Rgs w.heap.size w A ws) (hb : Below w.heap.size w w') : Rgs w'.heap.size w' A ws := (h.below hb).more hb.size
/-- The value of one. -/
def gV (x : Rg) : Value := .agg #[.int .i64 x.lo, .int .i64 x.hi]
set_option maxHeartbeats 400000 in
theorem clRg (g bx : Nat) (fs cs : Array Value) (x : Rg) (W : World) (b : Bool) (he : Enters g)
    (hbx : W.cell? ⟨bx, 0, none⟩ = some (.func (.func g) fs cs)) (hc : Calls Try.prog g (fs.push (gV x) ++ cs) (W.alloc (.cells #[.int .i64 x.lo, .int .i64 x.hi] 64)) (Ans (W.alloc (.cells #[.int .i64 x.lo, .int .i64 x.hi] 64)) (.bool b))) :
    Calls Try.prog 177 #[gV x, .pointer (some ⟨bx, 0, none⟩)] W (Ans W (.bool (!b))) := by
  have H := Lib.hid hc
  clear hc
  unfold Enters at he
  obtain ⟨xlo, xhi⟩ := x
  unfold gV at H ⊢
  dsimp only at H ⊢
  have hbx2 := cell_alloc_keep (.cells #[.int .i64 xlo, .int .i64 xhi] 64) hbx
  have hb0 : Below W.heap.size W (W.alloc (.cells #[.int .i64 xlo, .int .i64 xhi] 64)) := (Below.refl _ _).alloc (Nat.le_refl _) _
  have hz0 := hb0.size
  go_enter Try.func177, Try.ntmps177
  go_wp2_with fail
  refine H.out.mono ?_
  rintro e w1 ⟨rfl, hb⟩
  go_wp2_with fail
  go_ret
  exact ⟨rfl, hb0.trans (hb.mono hz0)⟩
/-- The function g says p k of element k, in whatever world that has the old blocks. -/
def RightRg (B : Nat) (w : World) (n g : Nat) (fs cs : Array Value) (ws : List Rg) (p : Nat → Bool) : Prop :=
  ∀ k, k < n → ∀ W, Below B w W → Calls Try.prog g (fs.push (gV (gx ws k)) ++ cs) W (Ans W (.bool (p k)))
theorem RightRg.below {B : Nat} {w w' : World} {n g : Nat} {fs cs : Array Value} {ws : List Rg} {p : Nat → Bool} (h : RightRg B w n g fs cs ws p) (hb : Below B w w') : RightRg B w' n g fs cs ws p :=
  fun k hk W hW => h k hk W (hb.trans hW)
set_option maxHeartbeats 400000 in
theorem indexRg {B : Nat} (A : Option Addr) (c g bx : Nat) (fs cs : Array Value) (ws : List Rg) (p : Nat → Bool) (w : World) (he : Enters g) (hB : B ≤ w.heap.size) (hbx : bx < w.heap.size) (hn : ws.length ≤ 9223372036854775807)
    (hcell : w.cell? ⟨bx, 0, none⟩ = some (.func (.func g) fs cs)) (hel : Rgs B w A ws) (hr : RightRg B w ws.length g fs cs ws p) :
    Calls Try.prog 199 #[.slice A ws.length c, .func (.func 177) #[] #[.pointer (some ⟨bx, 0, none⟩)]] w (Found w ws.length p) := by
  have HR := Lib.hid hr
  have HC := Lib.hid hcell
  have HE := Lib.hid he
  clear hr hcell he
  go_enter Try.func199, Try.ntmps199
  go_wp2_with fail
  go_loopw [8] (fun i wr => ∃ k : Nat, k ≤ ws.length ∧ i = .int .i64 k ∧ AllB k p ∧ Below w.heap.size w wr) (fun i _ => ws.length - (intOf i).toNat)
  case atStart => exact ⟨0, by omega, rfl, fun j hj => by omega, Below.refl _ _⟩
  case round =>
    obtain ⟨k, hk, rfl, hp, hb⟩ := hrel
    by_cases h1 : k < ws.length
    · obtain ⟨b, off, rfl, hb1, hc0⟩ := hel.at_ h1
      obtain ⟨c1, c2⟩ := (hc0.below hb (by omega) : W2 wr b (off + k * 2) (gx ws k))
      clear hc0
      have hz := hb.size
      have hcl := clRg g bx fs cs (gx ws k) wr (p k) HE.out ((hb.cell (p := ⟨bx, 0, none⟩) hbx).trans HC.out) (HR.out k h1 _ ((hb.mono hB).alloc (by omega) _))
      unfold gV at hcl
      have HCL := Lib.hid hcl
      clear hcl
      cases hpk : p k
      · have HP := Lib.hid hpk
        clear hpk
        go_wp2_with fail
        refine HCL.out.mono ?_
        rw [HP.out]
        rintro e w1 ⟨rfl, hb2⟩
        go_wp2_with fail
        go_ret
        exact found_at h1 HP.out (hb.trans (hb2.mono hz))
      · have HP := Lib.hid hpk
        clear hpk
        go_wp2_with fail
        refine HCL.out.mono ?_
        rw [HP.out]
        rintro e w1 ⟨rfl, hb2⟩
        go_wp2_with fail
        go_roundw
        case rel => exact ⟨k + 1, by omega, by go_num, hp.succ HP.out, hb.trans (hb2.mono hz)⟩
        case measure => simp [intOf]; omega
    · go_wp2_with fail
      go_ret
      exact found_none (by have : k = ws.length := by omega
                           rwa [this] at hp) hb
set_option maxHeartbeats 400000 in
theorem containsRg {B : Nat} (A : Option Addr) (c g bx : Nat) (fs cs : Array Value) (ws : List Rg) (p : Nat → Bool) (w : World) (he : Enters g) (hB : B ≤ w.heap.size) (hbx : bx < w.heap.size) (hn : ws.length ≤ 9223372036854775807)
    (hcell : w.cell? ⟨bx, 0, none⟩ = some (.func (.func g) fs cs)) (hel : Rgs B w A ws) (hr : RightRg B w ws.length g fs cs ws p) :
    Calls Try.prog 176 #[.slice A ws.length c, .func (.func 177) #[] #[.pointer (some ⟨bx, 0, none⟩)]] w (Ans w (.bool (!allB ws.length p))) := by
  have H := Lib.hid (indexRg A c g bx fs cs ws p w he hB hbx hn hcell hel hr)
  clear hcell hr he
  go_enter Try.func176, Try.ntmps176
  go_wp2_with fail
  refine H.out.mono ?_
  rintro e w1 (⟨k, rfl, hk, hb⟩ | ⟨rfl, hk, hb⟩)
  · go_wp2_with fail
    go_ret
    exact ⟨ret_bool (by rw [hk]; simp), hb⟩
  · go_wp2_with fail
    go_ret
    exact ⟨ret_bool (by rw [hk]; rfl), hb⟩
set_option maxHeartbeats 400000 in
theorem allRg {B : Nat} (A : Option Addr) (c g : Nat) (fs cs : Array Value) (ws : List Rg) (p : Nat → Bool) (w : World) (he : Enters g) (hB : B ≤ w.heap.size) (hn : ws.length ≤ 9223372036854775807)
    (hel : Rgs B w A ws) (hr : RightRg B w ws.length g fs cs ws p) :
    Calls Try.prog 154 #[.slice A ws.length c, .func (.func g) fs cs] w (Ans w (.bool (allB ws.length p))) := by
  have hw : Below B w (w.alloc (.cells #[.func (.func g) fs cs] 278)) := (Below.refl _ _).alloc hB _
  have H := Lib.hid (containsRg (B := B) A c g w.heap.size fs cs ws p (w.alloc (.cells #[.func (.func g) fs cs] 278)) he (by simp; omega) (by simp) hn (by simp) (hel.below hw) (hr.below hw))
  clear hr he
  go_enter Try.func154, Try.ntmps154
  go_wp2_with fail
  refine H.out.mono ?_
  rintro e w1 ⟨rfl, hb⟩
  go_wp2_with fail
  go_ret
  exact ⟨ret_bool (by simp), (((Below.refl w.heap.size w).alloc (Nat.le_refl _) _).trans (hb.mono (by simp)))⟩
end

section
open Go.RowKit
theorem infoInt : (Try.prog.info? 3).map (fun i => (i.zero, i.size, i.bytes)) = some (some (.int .i64 0), 1, 8) := by kernel_rfl
/-- An own list of numbers, in a block from base on. -/
def OwnI (base : Nat) (w : World) (u : Value) (xs : List Int) : Prop := w.ownsRow base 3 1 u xs.length (xs.map (Value.int .i64))
theorem OwnI.nil (base : Nat) (w : World) : OwnI base w (.slice none 0 0) [] := World.ownsRow_nil _ _ _ _
theorem OwnI.form {base : Nat} {w : World} {u : Value} {xs : List Int} (h : OwnI base w u xs) : ∃ A c, u = .slice A xs.length c := ownsRow_form h
theorem OwnI.kept {base : Nat} {w w' : World} {u : Value} {xs : List Int} (h : OwnI base w u xs) (hb : Below w.heap.size w w') : OwnI base w' u xs := World.ownsRow.kept h (only_below hb none) (by cases u.ownBlock <;> simp)
theorem OwnI.isInts {base : Nat} {w : World} {u : Value} {xs : List Int} (h : OwnI base w u xs) : IsInts w.heap.size w u xs := ownsRow_isInts h
theorem src_int (w : World) (y : Int) : Src (w.alloc (.cells #[.int .i64 y] 3)) 1 (some ⟨w.heap.size, 0, none⟩) 1 [.int .i64 y] := by
  refine ⟨rfl, (fun h => by cases h), fun ad hA j x hx => ?_⟩
  injection hA with hA
  subst hA
  cases j with
  | zero =>
    simp at hx
    subst hx
    rw [add_eq]
    simp
  | succ j => simp at hx
theorem own_below {base : Nat} {w w1 : World} {o : Obj} {e : TypeId} {u : Value} {n : Nat} {xs : List Value} (hown : w.ownsRow base e 1 u n xs) (hB : base ≤ w.heap.size) (hg : (w.alloc o).grownBy w1 u.ownBlock) : Below base w w1 :=
  ((Below.refl base w).alloc hB o).grown hg (by simp; omega) (fun k e => (hown.lt k e).1)
section
variable {ops : Array Oper} {rest : List Oper} {o : Oper} {a : Act} {Q : Exit → Act → World → Prop}
theorem wpList_app_int (s x : Operand) (hgd : o.guard = none) (ho : o.op = .call { callee := .builtin .append, args := #[s, x], argTypes := #[42, 42] }) (base : Nat) (w : World) (u : Value) (xs : List Int) (y : Int)
    (hv : a.eval s = u) (hx : a.eval x = .slice (some ⟨w.heap.size, 0, none⟩) 1 1) (hown : Hid (OwnI base w u xs)) (hl : xs.length ≤ 1000000) (hb : base ≤ w.heap.size)
    (h : ∀ A c w', Hid (OwnI base w' (.slice A (xs.length + 1) c) (xs ++ [y])) → Hid (Below base w w') → wpList Try.prog ops Q rest (a.put o.dst (.slice A (xs.length + 1) c)) w') :
    wpList Try.prog ops Q (o :: rest) a (w.alloc (.cells #[.int .i64 y] 3)) := by
  obtain ⟨i0, hi, hz0, hz1, hz2⟩ := info_parts infoInt
  have hO : w.ownsRow base 3 1 u xs.length (xs.map (Value.int .i64)) := hown
  refine wpList_append_src hgd s x 42 ho base 3 i0 (.int .i64 0) 1 8 Try.underlying42 hi hz0 hz1 hz2 rfl (by decide) u xs.length (xs.map (Value.int .i64)) hv (hO.alloc _) (some ⟨w.heap.size, 0, none⟩) 1 1 [.int .i64 y] hx (src_int w y) (one_ints [y]) (by unfold maxLen; omega) (by omega) (by simp; omega) ?_
  intro v' w' h1 h2 _
  obtain ⟨A, c, rfl⟩ := ownsRow_form h1
  refine h A c w' ?_ (own_below hO hb h2)
  show OwnI _ _ _ _
  unfold OwnI
  simpa using h1
end
/-- A new own list of numbers. -/
def NewO (w : World) (xs : List Int) (e : Ending) (w' : World) : Prop := ∃ A c, e = .returned (.slice A xs.length c) ∧ OwnI w.heap.size w' (.slice A xs.length c) xs ∧ Below w.heap.size w w'
theorem OwnI.keptBy {base g : Nat} {w w' : World} {u : Value} {xs : List Int} (h : OwnI base w u xs) (hg : w.grownBy w' (some g)) (hb : g < base) : OwnI base w' u xs := World.ownsRow.kept h hg (.inr fun e => by
  have := (World.ownsRow.lt h g e).1
  omega)
theorem isInts_parts {B : Nat} {w : World} {A : Option Addr} {n c : Nat} {xs : List Int} (h : IsInts B w (.slice A n c) xs) : xs.length ≤ c ∧ c ≤ 9223372036854775807 ∧ Ints B w A xs := by
  obtain ⟨A', c', e, h1, h2, h3⟩ := h
  injection e with e1 e2 e3
  subst e1 e3
  exact ⟨h1, h2, h3⟩
end

section
open Go.RowKit
/-- How many pins so many rows have. -/
def pn (rows : Int) : Nat := rows.toNat * (rows.toNat + 1) / 2
theorem rows4 {rows : Int} (h1 : 1 ≤ rows) (h4 : rows ≤ 4) : rows = 1 ∨ rows = 2 ∨ rows = 3 ∨ rows = 4 := by omega
theorem pn_le {rows : Int} (h1 : 1 ≤ rows) (h4 : rows ≤ 4) : 1 ≤ pn rows ∧ pn rows ≤ 10 := by
  rcases rows4 h1 h4 with rfl | rfl | rfl | rfl <;> decide
set_option maxHeartbeats 400000 in
theorem pins_c (rows mid gap reach : Int) (A : Option Addr) (n c : Nat) (w : World) (h1 : 1 ≤ rows) (h4 : rows ≤ 4) :
    Calls Try.prog 175 #[.agg #[.int .i64 rows, .int .i64 mid, .int .i64 gap, .int .i64 reach, .slice A n c]] w (Ans w (.int .i64 (pn rows : Int))) := by
  have hb0 : Below w.heap.size w (w.alloc (.cells #[.int .i64 rows, .int .i64 mid, .int .i64 gap, .int .i64 reach, .slice A n c] 69)) := (Below.refl _ _).alloc (Nat.le_refl _) _
  have HB := Lib.hid hb0
  clear hb0
  rcases rows4 h1 h4 with rfl | rfl | rfl | rfl
  all_goals
    go_enter Try.func175, Try.ntmps175
    go_wp2
    go_ret
    exact ⟨rfl, HB.out⟩
set_option maxHeartbeats 400000 in
theorem pin_c (rows mid gap reach x : Int) (A : Option Addr) (n c : Nat) (w : World) (h1 : 1 ≤ rows) (h4 : rows ≤ 4) :
    Calls Try.prog 151 #[.agg #[.int .i64 rows, .int .i64 mid, .int .i64 gap, .int .i64 reach, .slice A n c], .int .i64 x] w (Ans w (.bool (inB x 0 ((pn rows : Int) - 1)))) := by
  have hb0 : Below w.heap.size w (w.alloc (.cells #[.int .i64 rows, .int .i64 mid, .int .i64 gap, .int .i64 reach, .slice A n c] 69)) := (Below.refl _ _).alloc (Nat.le_refl _) _
  have HB := Lib.hid hb0
  have HP := Lib.hid (pins_c rows mid gap reach A n c (w.alloc (.cells #[.int .i64 rows, .int .i64 mid, .int .i64 gap, .int .i64 reach, .slice A n c] 69)) h1 h4)
  have hpn := pn_le h1 h4
  have hwr : IntKind.i64.wrap ((pn rows : Int) - 1) = (pn rows : Int) - 1 := IntWalk.i64_in _ (by omega)
  clear hb0
  go_enter Try.func151, Try.ntmps151
  go_wp2_with (go_at_call 60; refine (within_c _ _ _ _).mono ?_; rintro e w1 ⟨rfl, rfl⟩)
  refine HP.out.mono ?_
  rintro e w1 ⟨rfl, hb⟩
  have H1 := Lib.hid hb
  clear hb
  go_wp2_with (go_at_call 60; refine (within_c _ _ _ _).mono ?_; rintro e w1 ⟨rfl, rfl⟩)
  go_ret
  exact ⟨rfl, HB.out.trans (H1.out.mono HB.out.size)⟩
/-- Is a link one of a rack of so many rows? -/
def linkB (rows : Int) (x : Lk) : Bool := inB x.f 0 ((pn rows : Int) - 1) && (inB x.t 0 ((pn rows : Int) - 1) && !decide (x.f = x.t))
set_option maxHeartbeats 800000 in
theorem link_c (rows mid gap reach : Int) (x : Lk) (A : Option Addr) (n c : Nat) (w : World) (h1 : 1 ≤ rows) (h4 : rows ≤ 4) :
    Calls Try.prog 173 #[.agg #[.int .i64 rows, .int .i64 mid, .int .i64 gap, .int .i64 reach, .slice A n c], lV x] w (Ans w (.bool (linkB rows x))) := by
  obtain ⟨xf, xt, xs⟩ := x
  unfold lV
  dsimp only
  have hb0 : Below w.heap.size w ((w.alloc (.cells #[.int .i64 rows, .int .i64 mid, .int .i64 gap, .int .i64 reach, .slice A n c] 69)).alloc (.cells #[.int .i64 xf, .int .i64 xt, .bool xs] 165)) := ((Below.refl _ _).alloc (Nat.le_refl _) _).alloc (by simp) _
  have HB := Lib.hid hb0
  have y0 : ((w.alloc (.cells #[.int .i64 rows, .int .i64 mid, .int .i64 gap, .int .i64 reach, .slice A n c] 69)).alloc (.cells #[.int .i64 xf, .int .i64 xt, .bool xs] 165)).cell? ⟨w.heap.size + 1, 0, none⟩ = some (.int .i64 xf) := by simp
  have y1 : ((w.alloc (.cells #[.int .i64 rows, .int .i64 mid, .int .i64 gap, .int .i64 reach, .slice A n c] 69)).alloc (.cells #[.int .i64 xf, .int .i64 xt, .bool xs] 165)).cell? ⟨w.heap.size + 1, 1, none⟩ = some (.int .i64 xt) := by simp
  have z0 : ((w.alloc (.cells #[.int .i64 rows, .int .i64 mid, .int .i64 gap, .int .i64 reach, .slice A n c] 69)).alloc (.cells #[.int .i64 xf, .int .i64 xt, .bool xs] 165)).cell? ⟨w.heap.size, 0, none⟩ = some (.int .i64 rows) := by simp
  have z1 : ((w.alloc (.cells #[.int .i64 rows, .int .i64 mid, .int .i64 gap, .int .i64 reach, .slice A n c] 69)).alloc (.cells #[.int .i64 xf, .int .i64 xt, .bool xs] 165)).cell? ⟨w.heap.size, 1, none⟩ = some (.int .i64 mid) := by simp
  have z2 : ((w.alloc (.cells #[.int .i64 rows, .int .i64 mid, .int .i64 gap, .int .i64 reach, .slice A n c] 69)).alloc (.cells #[.int .i64 xf, .int .i64 xt, .bool xs] 165)).cell? ⟨w.heap.size, 2, none⟩ = some (.int .i64 gap) := by simp
  have z3 : ((w.alloc (.cells #[.int .i64 rows, .int .i64 mid, .int .i64 gap, .int .i64 reach, .slice A n c] 69)).alloc (.cells #[.int .i64 xf, .int .i64 xt, .bool xs] 165)).cell? ⟨w.heap.size, 3, none⟩ = some (.int .i64 reach) := by simp
  have z4 : ((w.alloc (.cells #[.int .i64 rows, .int .i64 mid, .int .i64 gap, .int .i64 reach, .slice A n c] 69)).alloc (.cells #[.int .i64 xf, .int .i64 xt, .bool xs] 165)).cell? ⟨w.heap.size, 4, none⟩ = some (.slice A n c) := by simp
  clear hb0
  have HC : Hid (∀ x W, Calls Try.prog 151 #[.agg #[.int .i64 rows, .int .i64 mid, .int .i64 gap, .int .i64 reach, .slice A n c], .int .i64 x] W (Ans W (.bool (inB x 0 ((pn rows : Int) - 1))))) := fun x W => pin_c rows mid gap reach x A n c W h1 h4
  cases e1 : inB xf 0 ((pn rows : Int) - 1)
  · have E1 := Lib.hid e1
    clear e1
    go_enter Try.func173, Try.ntmps173
    go_wp2_with fail
    generalize (w.alloc (.cells #[.int .i64 rows, .int .i64 mid, .int .i64 gap, .int .i64 reach, .slice A n c] 69)).alloc (.cells #[.int .i64 xf, .int .i64 xt, .bool xs] 165) = W at *
    refine (HC.out _ _).mono ?_
    rw [E1.out]
    rintro e w1 ⟨rfl, hb⟩
    have H1 := Lib.hid hb
    clear hb
    go_wp2_with fail
    go_ret
    exact ⟨ret_bool (by simp [linkB, E1.out]), HB.out.trans (H1.out.mono HB.out.size)⟩
  · have E1 := Lib.hid e1
    clear e1
    cases e2 : inB xt 0 ((pn rows : Int) - 1)
    · have E2 := Lib.hid e2
      clear e2
      go_enter Try.func173, Try.ntmps173
      go_wp2_with fail
      generalize (w.alloc (.cells #[.int .i64 rows, .int .i64 mid, .int .i64 gap, .int .i64 reach, .slice A n c] 69)).alloc (.cells #[.int .i64 xf, .int .i64 xt, .bool xs] 165) = W at *
      refine (HC.out _ _).mono ?_
      rw [E1.out]
      rintro e w1 ⟨rfl, hb⟩
      have H1 := Lib.hid hb
      replace y0 := cell_of_ans hb y0
      replace y1 := cell_of_ans hb y1
      replace z0 := cell_of_ans hb z0
      replace z1 := cell_of_ans hb z1
      replace z2 := cell_of_ans hb z2
      replace z3 := cell_of_ans hb z3
      replace z4 := cell_of_ans hb z4
      clear hb
      go_wp2_with fail
      refine (HC.out _ _).mono ?_
      rw [E2.out]
      rintro e w2 ⟨rfl, hb⟩
      have H2 := Lib.hid hb
      clear hb
      go_wp2_with fail
      go_ret
      exact ⟨ret_bool (by simp [linkB, E1.out, E2.out]), HB.out.trans ((H1.out.trans (H2.out.mono H1.out.size)).mono HB.out.size)⟩
    · have E2 := Lib.hid e2
      clear e2
      go_enter Try.func173, Try.ntmps173
      go_wp2_with fail
      generalize (w.alloc (.cells #[.int .i64 rows, .int .i64 mid, .int .i64 gap, .int .i64 reach, .slice A n c] 69)).alloc (.cells #[.int .i64 xf, .int .i64 xt, .bool xs] 165) = W at *
      refine (HC.out _ _).mono ?_
      rw [E1.out]
      rintro e w1 ⟨rfl, hb⟩
      have H1 := Lib.hid hb
      replace y0 := cell_of_ans hb y0
      replace y1 := cell_of_ans hb y1
      replace z0 := cell_of_ans hb z0
      replace z1 := cell_of_ans hb z1
      replace z2 := cell_of_ans hb z2
      replace z3 := cell_of_ans hb z3
      replace z4 := cell_of_ans hb z4
      clear hb
      go_wp2_with fail
      refine (HC.out _ _).mono ?_
      rw [E2.out]
      rintro e w2 ⟨rfl, hb⟩
      have H2 := Lib.hid hb
      replace y0 := cell_of_ans hb y0
      replace y1 := cell_of_ans hb y1
      clear hb z0 z1 z2 z3 z4
      go_wp2_with fail
      go_ret
      exact ⟨ret_bool (by simp [linkB, E1.out, E2.out, bne]; try rfl), HB.out.trans ((H1.out.trans (H2.out.mono H1.out.size)).mono HB.out.size)⟩
set_option maxHeartbeats 400000 in
theorem has_c (s p : Nat) (w : World) (hs : s < 65536) (hp : p < 16) : Calls Try.prog 120 #[.int .u16 s, .int .i64 p] w (Same w (.bool (s.testBit p))) := by
  have HR : Hid ((bits .and .u16 ((s : Int) / 2 ^ p) 1 == 1) = s.testBit p) := by
    show _ = _
    have h1 : ((s : Int) / 2 ^ p) = ((s / 2 ^ p : Nat) : Int) := by simp
    have h2 : s / 2 ^ p < 65536 := Nat.lt_of_le_of_lt (Nat.div_le_self _ _) hs
    rw [h1, show (1 : Int) = ((1 : Nat) : Int) from rfl, u16_and_nat _ 1 h2 (by decide), nat_mask1, Nat.testBit_eq_decide_div_mod_eq]
    rcases Nat.mod_two_eq_zero_or_one (s / 2 ^ p) with e | e <;> simp [e]
  go_enter Try.func120, Try.ntmps120
  go_wp2
  go_ret
  exact ⟨ret_bool HR.out, rfl⟩
theorem or_ofS (l : List Nat) (p : Nat) : ofS l ||| 2 ^ p = ofS (l ++ [p]) := by
  refine Nat.eq_of_testBit_eq fun i => ?_
  rw [Bool.eq_iff_iff, Nat.testBit_or, Bool.or_eq_true, mem_ofS, mem_ofS, Nat.testBit_two_pow]
  simp [eq_comm]
set_option maxHeartbeats 400000 in
theorem of_c {B : Nat} (l : List Nat) (A : Option Addr) (c : Nat) (w : World) (hx : Ints B w A (l.map Int.ofNat)) (hl : ∀ p ∈ l, p < 10) (hn : l.length ≤ 9223372036854775807) :
    Calls Try.prog 152 #[.slice A l.length c] w (Same w (.int .u16 (ofS l : Int))) := by
  go_enter Try.func152, Try.ntmps152
  go_wp2
  go_loopw [2, 7] (fun t i wr => ∃ k : Nat, k ≤ l.length ∧ i = .int .i64 k ∧ t = .int .u16 (ofS (l.take k) : Int) ∧ w = wr) (fun _ i _ => l.length - (intOf i).toNat)
  case atStart => exact ⟨0, by omega, rfl, rfl, rfl⟩
  case round =>
    obtain ⟨k, hk, rfl, rfl, rfl⟩ := hrel
    by_cases h1 : k < l.length
    · obtain ⟨b, off, rfl, hb, hc⟩ := hx.at_ (k := k) (by simpa using h1)
      have hp : l[k] < 10 := hl _ (List.getElem_mem h1)
      rw [show ix (l.map Int.ofNat) k = (l[k] : Int) by rw [ix_lt (by simpa using h1)]; simp] at hc
      have HS : Hid (ofS (l.take (k + 1)) = ofS (l.take k) ||| 2 ^ l[k]) := by show _ = _; rw [or_ofS, List.take_succ_eq_append_getElem h1]
      have hlt : ofS (l.take k) < 2 ^ 10 := ofS_lt fun p hp => hl p (List.mem_of_mem_take hp)
      generalize ofS (l.take k) = s at HS hlt ⊢
      generalize l[k] = p at HS hc hp ⊢
      have hp2 : (2 : Nat) ^ p < 2 ^ 10 := Nat.pow_lt_pow_right (by decide) hp
      have hw : IntKind.u16.wrap ((2 : Int) ^ p) = (2 : Int) ^ p := by
        have e : (2 : Int) ^ p = ((2 ^ p : Nat) : Int) := by simp
        rw [IntKind.wrap_u16, e]
        generalize 2 ^ p = q at hp2 ⊢
        omega
      have HO : Hid (bits .or .u16 (s : Int) ((2 : Int) ^ p) = ((s ||| 2 ^ p : Nat) : Int)) := by
        show _ = _
        rw [show (2 : Int) ^ p = ((2 ^ p : Nat) : Int) by simp, u16_or_nat _ _ (by omega) (by omega)]
      go_wp2
      go_roundw
      case rel => exact ⟨k + 1, by omega, by go_num, by rw [HS.out]; exact congrArg _ HO.out, by trivial⟩
      case measure => simp [intOf]; omega
    · obtain rfl : k = l.length := by omega
      go_wp2
      go_ret
      exact ⟨ret_int (by simp), rfl⟩
end

section
open Go.RowKit
/-- A rack that is valid. -/
structure Ok (r : Rk) : Prop where
  rows1 : 1 ≤ r.rows
  rows4 : r.rows ≤ 4
  mid0 : 0 ≤ r.mid
  mid60 : r.mid ≤ 60
  gap1 : 1 ≤ r.gap
  gap8 : r.gap ≤ 8
  reach0 : 0 ≤ r.reach
  reach10 : r.reach ≤ 10
  len : r.links.length ≤ 12
  link : ∀ k, k < r.links.length → linkB r.rows (lx r.links k) = true
def triN (row : Nat) : Nat := row * (row + 1) / 2
theorem place_at {p row : Nat} (hp : p < 10) (h3 : row ≤ 3) (h1 : triN row ≤ p) (h2 : p - triN row ≤ row) : rowP p = row ∧ atP p = p - triN row := by
  have : ∀ row, row ≤ 3 → ∀ p, p < 10 → triN row ≤ p → p - triN row ≤ row → rowP p = row ∧ atP p = p - triN row := by decide
  exact this row h3 p hp h1 h2
theorem tri_next {row : Nat} (h3 : row ≤ 3) : triN (row + 1) = triN row + (row + 1) := by
  have : ∀ row, row ≤ 3 → triN (row + 1) = triN row + (row + 1) := by decide
  exact this row h3
theorem tri_3 {p row : Nat} (hp : p < 10) (h3 : row ≤ 3) (h : row < p - triN row) : row + 1 ≤ 3 ∧ triN (row + 1) ≤ p := by
  have : ∀ row, row ≤ 3 → ∀ p, p < 10 → row < p - triN row → row + 1 ≤ 3 ∧ triN (row + 1) ≤ p := by decide
  exact this row h3 p hp h
theorem place_le {p : Nat} (hp : p < 10) : rowP p ≤ 3 ∧ atP p ≤ 3 ∧ atP p ≤ rowP p := by
  have : ∀ p, p < 10 → rowP p ≤ 3 ∧ atP p ≤ 3 ∧ atP p ≤ rowP p := by decide
  exact this p hp
set_option maxHeartbeats 400000 in
theorem where_c (p : Nat) (w : World) (hp : p < 10) : Calls Try.prog 157 #[.int .i64 (p : Int)] w (Ans w (.agg #[.int .i64 (rowP p : Int), .int .i64 (atP p : Int)])) := by
  have hb0 : Below w.heap.size w (w.alloc (.cells #[.int .i64 0, .int .i64 0] 282)) := (Below.refl _ _).alloc (Nat.le_refl _) _
  have HB := Lib.hid hb0
  clear hb0
  go_enter Try.func157, Try.ntmps157
  go_wp2
  go_loopw [0, 3] (fun t i wr => ∃ row : Nat, row ≤ 3 ∧ triN row ≤ p ∧ i = .int .i64 row ∧ t = .int .i64 ((p - triN row : Nat) : Int) ∧ wr = w.alloc (.cells #[.int .i64 0, .int .i64 0] 282)) (fun _ i _ => 3 - (intOf i).toNat)
  case atStart => exact ⟨0, by omega, by simp [triN], rfl, by simp [triN], rfl⟩
  case round =>
    obtain ⟨row, h3, h1, rfl, rfl, rfl⟩ := hrel
    by_cases h2 : row < p - triN row
    · obtain ⟨h4, h5⟩ := tri_3 hp h3 h2
      have h6 := tri_next h3
      have h7 : ((row : Int) < ((p - triN row : Nat) : Int)) := by omega
      have h8 : IntKind.i64.wrap ((row : Int) + 1) = (row : Int) + 1 := IntWalk.i64_in _ (by omega)
      have h9 : IntKind.i64.wrap (((p - triN row : Nat) : Int) - ((row : Int) + 1)) = ((p - triN (row + 1) : Nat) : Int) := by
        rw [IntWalk.i64_in _ (by omega)]; omega
      generalize p - triN row = d at *
      go_wp2
      go_roundw
      case rel => exact ⟨row + 1, h4, h5, by go_num, by first | rfl | rw [h6], by trivial⟩
      case measure => simp [intOf]; omega
    · obtain ⟨e1, e2⟩ := place_at hp h3 h1 (by omega)
      have h7 : ¬ ((row : Int) < ((p - triN row : Nat) : Int)) := by omega
      rw [e1, e2]
      generalize p - triN row = d at *
      go_wp2
      refine bodyPost_ret (v := .agg #[.int .i64 (row : Int), .int .i64 (d : Int)]) (by simp [results, Try.results157, go_sem]) rfl ?_
      exact ⟨rfl, (Below.refl _ _).alloc (Nat.le_refl _) _⟩
theorem board_in {r : Rk} (hr : Ok r) {p : Nat} (hp : p < 10) : -100 ≤ boardP r p ∧ boardP r p ≤ 200 := by
  have h := place_le hp
  have h1 := hr.mid0; have h2 := hr.mid60; have h3 := hr.gap1; have h4 := hr.gap8
  unfold boardP
  generalize hd : 2 * (atP p : Int) - (rowP p : Int) = d
  have d1 : -3 ≤ d := by omega
  have d2 : d ≤ 6 := by omega
  have m1 : -24 ≤ r.gap * d := by
    rcases (by omega : r.gap = 1 ∨ r.gap = 2 ∨ r.gap = 3 ∨ r.gap = 4 ∨ r.gap = 5 ∨ r.gap = 6 ∨ r.gap = 7 ∨ r.gap = 8) with e | e | e | e | e | e | e | e <;> rw [e] <;> omega
  have m2 : r.gap * d ≤ 48 := by
    rcases (by omega : r.gap = 1 ∨ r.gap = 2 ∨ r.gap = 3 ∨ r.gap = 4 ∨ r.gap = 5 ∨ r.gap = 6 ∨ r.gap = 7 ∨ r.gap = 8) with e | e | e | e | e | e | e | e <;> rw [e] <;> omega
  omega
set_option maxHeartbeats 800000 in
theorem board_c (r : Rk) (A : Option Addr) (c p : Nat) (w : World) (hr : Ok r) (hp : p < 10) :
    Calls Try.prog 178 #[.agg #[.int .i64 r.rows, .int .i64 r.mid, .int .i64 r.gap, .int .i64 r.reach, .slice A r.links.length c], .int .i64 (p : Int)] w (Ans w (.int .i64 (boardP r p))) := by
  have HB := Lib.hid (Below.refl w.heap.size w)
  have h1 := place_le hp
  have h2 := hr.mid0
  have h3 := hr.mid60
  have h4 := hr.gap1
  have h5 := hr.gap8
  have h6 := board_in hr hp
  have q1 : IntKind.i64.wrap (2 * (atP p : Int)) = 2 * (atP p : Int) := IntWalk.i64_in _ (by omega)
  have q2 : IntKind.i64.wrap (2 * (atP p : Int) - (rowP p : Int)) = 2 * (atP p : Int) - (rowP p : Int) := IntWalk.i64_in _ (by omega)
  have q3 : IntKind.i64.wrap (r.gap * (2 * (atP p : Int) - (rowP p : Int))) = r.gap * (2 * (atP p : Int) - (rowP p : Int)) := IntWalk.i64_in _ (by unfold boardP at h6; omega)
  have q4 : IntKind.i64.wrap (r.mid + r.gap * (2 * (atP p : Int) - (rowP p : Int))) = r.mid + r.gap * (2 * (atP p : Int) - (rowP p : Int)) := IntWalk.i64_in _ (by unfold boardP at h6; omega)
  have HR : Hid (r.mid + r.gap * (2 * (atP p : Int) - (rowP p : Int)) = boardP r p) := rfl
  have hb : Below w.heap.size w (w.alloc (.cells #[.int .i64 r.rows, .int .i64 r.mid, .int .i64 r.gap, .int .i64 r.reach, .slice A r.links.length c] 69)) := (Below.refl _ _).alloc (Nat.le_refl _) _
  replace HB := Lib.hid (HB.out.trans (hb.mono HB.out.size))
  clear hb
  have k1 : (w.alloc (.cells #[.int .i64 r.rows, .int .i64 r.mid, .int .i64 r.gap, .int .i64 r.reach, .slice A r.links.length c] 69)).cell? ⟨w.heap.size, 1, none⟩ = some (.int .i64 r.mid) := by simp
  have k2 : (w.alloc (.cells #[.int .i64 r.rows, .int .i64 r.mid, .int .i64 r.gap, .int .i64 r.reach, .slice A r.links.length c] 69)).cell? ⟨w.heap.size, 2, none⟩ = some (.int .i64 r.gap) := by simp
  go_enter Try.func178, Try.ntmps178
  go_wp2_with fail
  generalize (w.alloc (.cells #[.int .i64 r.rows, .int .i64 r.mid, .int .i64 r.gap, .int .i64 r.reach, .slice A r.links.length c] 69)) = x1 at *
  refine (where_c p _ hp).mono ?_
  rintro e x2 ⟨rfl, hb⟩
  replace k1 := cell_of_ans hb k1
  replace k2 := cell_of_ans hb k2
  replace HB := Lib.hid (HB.out.trans (hb.mono HB.out.size))
  clear hb
  have ltk1 := World.block_lt_of_cell? _ _ k1
  dsimp only at ltk1
  go_wp2_with fail
  go_ret
  exact ⟨ret_int HR.out, HB.out.trans ((((Below.refl _ _).alloc (Nat.le_refl _) _).mono HB.out.size))⟩
def natsI (l : List Nat) : List Int := l.map Int.ofNat
theorem natsI_len (l : List Nat) : (natsI l).length = l.length := by simp [natsI]
theorem listS_take (s k : Nat) (h : s.testBit k = true) : natsI ((List.range (k + 1)).filter s.testBit) = natsI ((List.range k).filter s.testBit) ++ [(k : Int)] := by
  simp [natsI, List.range_succ, List.filter_append, h]
theorem listS_skip (s k : Nat) (h : s.testBit k = false) : natsI ((List.range (k + 1)).filter s.testBit) = natsI ((List.range k).filter s.testBit) := by
  simp [natsI, List.range_succ, List.filter_append, h]
set_option maxHeartbeats 800000 in
theorem list_s (s : Nat) (w : World) (hs : s < 65536) : Calls Try.prog 63 #[.int .u16 (s : Int)] w (NewO w (natsI (listS s))) := by
  go_enter Try.func63, Try.ntmps63
  go_wp2
  go_loopw [2, 4] (fun u i wr => ∃ k : Nat, k ≤ 10 ∧ i = .int .i64 k ∧ Hid (OwnI w.heap.size wr u (natsI ((List.range k).filter s.testBit))) ∧ Below w.heap.size w wr) (fun _ i _ => 10 - (intOf i).toNat)
  case atStart => exact ⟨0, by omega, rfl, OwnI.nil _ _, Below.refl _ _⟩
  case round =>
    obtain ⟨k, hk, rfl, hO, hb⟩ := hrel
    have HB := Lib.hid hb
    have hz := hb.size
    clear hb
    have HL : Hid ((natsI ((List.range k).filter s.testBit)).length ≤ 1000000) := by
      show _ ≤ _
      have := List.length_filter_le s.testBit (List.range k)
      rw [natsI_len]; simp at this; omega
    by_cases h1 : k < 10
    · obtain ⟨Au, cu, hu⟩ := hO.out.form
      have HH := Lib.hid (has_c s k wr hs (by omega))
      cases hp : s.testBit k
      · rw [hp] at HH
        have HS := Lib.hid (listS_skip s k hp)
        clear hp
        generalize natsI ((List.range k).filter s.testBit) = xs at *
        subst hu
        go_wp2_with fail
        refine HH.out.mono ?_
        rintro e w1 ⟨rfl, rfl⟩
        go_wp2_with fail
        go_roundw
        case rel => exact ⟨k + 1, by omega, by go_num, by rw [HS.out]; exact hO, HB.out⟩
        case measure => simp [intOf]; omega
      · rw [hp] at HH
        have HS := Lib.hid (listS_take s k hp)
        clear hp
        generalize natsI ((List.range k).filter s.testBit) = xs at *
        subst hu
        have HLX : Hid ((xs ++ [(k : Int)]).length = xs.length + 1) := by show _ = _; simp
        go_wp2_with fail
        refine HH.out.mono ?_
        rintro e w1 ⟨rfl, rfl⟩
        go_wp2_with (at_builtin; refine wpList_app_int (.tmp 10) (.tmp 12) rfl rfl w.heap.size wr _ xs (k : Int) rfl rfl hO HL.out hz ?_; intro As cs w3 HO3 HB3)
        go_roundw
        case rel => exact ⟨k + 1, by omega, by go_num, by rw [HS.out]; exact HO3, HB.out.trans HB3.out⟩
        case measure => simp [intOf]; omega
    · obtain rfl : k = 10 := by omega
      obtain ⟨Au, cu, rfl⟩ := hO.out.form
      go_wp2_with fail
      go_ret
      exact ⟨_, _, rfl, hO.out, HB.out⟩
set_option maxHeartbeats 400000 in
theorem many_c (s : Nat) (w : World) (hs : s < 65536) : Calls Try.prog 57 #[.int .u16 (s : Int)] w (Ans w (.int .i64 (many s : Int))) := by
  have HH := Lib.hid (list_s s w hs)
  have HR : Hid ((natsI (listS s)).length = many s) := by show _ = _; rw [natsI_len]; rfl
  go_enter Try.func57, Try.ntmps57
  go_wp2_with fail
  refine HH.out.mono ?_
  rintro e w1 ⟨A, c, rfl, hO, hb⟩
  have HB := Lib.hid hb
  rw [HR.out]
  clear hb hO
  go_wp2_with fail
  go_ret
  exact ⟨rfl, HB.out⟩
/-- How many links of the first k are not sure. -/
def mayTo (ls : List Lk) : Nat → Nat
  | 0 => 0
  | k + 1 => mayTo ls k + (if (lx ls k).s then 0 else 1)
theorem mayTo_le (ls : List Lk) : ∀ k, mayTo ls k ≤ k
  | 0 => Nat.le_refl _
  | k + 1 => by
    have := mayTo_le ls k
    rw [mayTo]; split <;> omega
/-- The error of a rack. -/
noncomputable def rackErr (r : Rk) : Int :=
  if r.links.length ≤ 12 ∧ mayTo r.links r.links.length ≤ 6 then
    (if inB r.rows 1 4 && (inB r.mid 0 60 && (inB r.gap 1 8 && (inB r.reach 0 10 && allB r.links.length (fun k => linkB r.rows (lx r.links k))))) then 0 else 1) else 3
theorem rackOk {r : Rk} (h : rackErr r = 0) : Ok r := by
  unfold rackErr at h
  split at h
  · rename_i h1
    split at h
    · rename_i h2
      simp only [Bool.and_eq_true, inB_eq, allB_iff] at h2
      obtain ⟨⟨a, b⟩, ⟨c, d⟩, ⟨e, f⟩, ⟨i, j⟩, k⟩ := h2
      exact ⟨a, b, c, d, e, f, i, j, h1.1, k⟩
    · cases h
  · cases h
theorem enters73 : Enters 173 := fun _ _ => enters_of Try.func173 (by kernel_rfl) rfl _ _
set_option maxHeartbeats 4000000 in
theorem checkRack_c (r : Rk) (A : Option Addr) (c : Nat) (w : World) (hl : Lks w.heap.size w A r.links) (hc : r.links.length ≤ c ∧ c ≤ 9223372036854775807) :
    Calls Try.prog 148 #[.agg #[.int .i64 r.rows, .int .i64 r.mid, .int .i64 r.gap, .int .i64 r.reach, .slice A r.links.length c]] w (Ans w (.int .i64 (rackErr r))) := by
  have HB := Lib.hid (Below.refl w.heap.size w)
  have HL := Lib.hid hl
  clear hl
  have hb : Below w.heap.size w (w.alloc (.cells #[.int .i64 r.rows, .int .i64 r.mid, .int .i64 r.gap, .int .i64 r.reach, .slice A r.links.length c] 69)) := (Below.refl _ _).alloc (Nat.le_refl _) _
  replace HL := Lib.hid (HL.out.step hb)
  replace HB := Lib.hid (HB.out.trans (hb.mono HB.out.size))
  clear hb
  have k0 : (w.alloc (.cells #[.int .i64 r.rows, .int .i64 r.mid, .int .i64 r.gap, .int .i64 r.reach, .slice A r.links.length c] 69)).cell? ⟨w.heap.size, 0, none⟩ = some (.int .i64 r.rows) := by simp
  have k1 : (w.alloc (.cells #[.int .i64 r.rows, .int .i64 r.mid, .int .i64 r.gap, .int .i64 r.reach, .slice A r.links.length c] 69)).cell? ⟨w.heap.size, 1, none⟩ = some (.int .i64 r.mid) := by simp
  have k2 : (w.alloc (.cells #[.int .i64 r.rows, .int .i64 r.mid, .int .i64 r.gap, .int .i64 r.reach, .slice A r.links.length c] 69)).cell? ⟨w.heap.size, 2, none⟩ = some (.int .i64 r.gap) := by simp
  have k3 : (w.alloc (.cells #[.int .i64 r.rows, .int .i64 r.mid, .int .i64 r.gap, .int .i64 r.reach, .slice A r.links.length c] 69)).cell? ⟨w.heap.size, 3, none⟩ = some (.int .i64 r.reach) := by simp
  have k4 : (w.alloc (.cells #[.int .i64 r.rows, .int .i64 r.mid, .int .i64 r.gap, .int .i64 r.reach, .slice A r.links.length c] 69)).cell? ⟨w.heap.size, 4, none⟩ = some (.slice A r.links.length c) := by simp
  go_enter Try.func148, Try.ntmps148
  go_wp2_with fail
  generalize (w.alloc (.cells #[.int .i64 r.rows, .int .i64 r.mid, .int .i64 r.gap, .int .i64 r.reach, .slice A r.links.length c] 69)) = x1 at *
  go_loopw [3, 9] (fun m i wr => ∃ k : Nat, k ≤ r.links.length ∧ i = .int .i64 k ∧ m = .int .i64 (mayTo r.links k : Int) ∧ Below x1.heap.size x1 wr) (fun _ i _ => r.links.length - (intOf i).toNat)
  case atStart => exact ⟨0, by omega, rfl, rfl, Below.refl _ _⟩
  case round =>
    obtain ⟨k, hk, rfl, rfl, hb⟩ := hrel
    by_cases h1 : k < r.links.length
    · obtain ⟨b, off, rfl, hb1, c1, c2, c3⟩ := (HL.out.step hb).at_ h1
      have HM : Hid (mayTo r.links (k + 1) = mayTo r.links k + (if (lx r.links k).s then 0 else 1)) := rfl
      have hm := mayTo_le r.links k
      generalize mayTo r.links k = m at *
      generalize lx r.links k = x at *
      obtain ⟨xf, xt, xs⟩ := x
      dsimp only at c1 c2 c3 HM
      have hz := hb.size
      have h1i : (k : Int) < (r.links.length : Int) := by omega
      have hb2 : Below x1.heap.size x1 (wr.alloc (.cells #[.int .i64 xf, .int .i64 xt, .bool xs] 165)) := hb.alloc hz _
      have HB2 := Lib.hid hb2
      clear hb hb2
      cases xs
      all_goals
        go_wp2_with fail
        go_roundw
        case rel => exact ⟨k + 1, by omega, by go_num, by rw [HM.out]; simp, HB2.out⟩
        case measure => simp [intOf]; omega
    · obtain rfl : k = r.links.length := by omega
      replace HL := Lib.hid (HL.out.step hb)
      replace k0 := cell_of_ans hb k0
      replace k1 := cell_of_ans hb k1
      replace k2 := cell_of_ans hb k2
      replace k3 := cell_of_ans hb k3
      replace k4 := cell_of_ans hb k4
      replace HB := Lib.hid (HB.out.trans (hb.mono HB.out.size))
      clear hb
      have hm := mayTo_le r.links r.links.length
      by_cases t0 : r.links.length ≤ 12
      · by_cases t1 : mayTo r.links r.links.length ≤ 6
        · have HA : Hid (allB r.links.length (fun k => linkB r.rows (lx r.links k)) = allB r.links.length (fun k => linkB r.rows (lx r.links k))) := rfl
          have HE : Hid (rackErr r = if inB r.rows 1 4 && (inB r.mid 0 60 && (inB r.gap 1 8 && (inB r.reach 0 10 && allB r.links.length (fun k => linkB r.rows (lx r.links k))))) then (0 : Int) else 1) := by show _ = _; rw [rackErr, if_pos ⟨t0, t1⟩]
          have ht0 : (r.links.length : Int) ≤ 12 := by omega
          have ht1 : ((mayTo r.links r.links.length : Nat) : Int) ≤ 6 := by omega
          generalize mayTo r.links r.links.length = m at *
          clear t1
          cases e0 : inB r.rows 1 4
          · rw [e0] at HE
            go_wp2_with (go_at_call 60; refine (within_c _ _ _ _).mono ?_; rintro e w1 ⟨rfl, rfl⟩)
            go_ret
            exact ⟨ret_int (by rw [HE.out]; rfl), HB.out⟩
          · cases e1 : inB r.mid 0 60
            · rw [e0, e1] at HE
              go_wp2_with (go_at_call 60; refine (within_c _ _ _ _).mono ?_; rintro e w1 ⟨rfl, rfl⟩)
              go_ret
              exact ⟨ret_int (by rw [HE.out]; rfl), HB.out⟩
            · cases e2 : inB r.gap 1 8
              · rw [e0, e1, e2] at HE
                go_wp2_with (go_at_call 60; refine (within_c _ _ _ _).mono ?_; rintro e w1 ⟨rfl, rfl⟩)
                go_ret
                exact ⟨ret_int (by rw [HE.out]; rfl), HB.out⟩
              · cases e3 : inB r.reach 0 10
                · rw [e0, e1, e2, e3] at HE
                  go_wp2_with (go_at_call 60; refine (within_c _ _ _ _).mono ?_; rintro e w1 ⟨rfl, rfl⟩)
                  go_ret
                  exact ⟨ret_int (by rw [HE.out]; rfl), HB.out⟩
                · obtain ⟨hr1, hr4⟩ := (inB_eq _ _ _).1 e0
                  have H1 := Lib.hid (allLk (B := wr.heap.size) A c 173 #[.agg #[.int .i64 r.rows, .int .i64 r.mid, .int .i64 r.gap, .int .i64 r.reach, .slice A r.links.length c]] #[] r.links (fun k => linkB r.rows (lx r.links k)) wr enters73 (Nat.le_refl _) (by omega) HL.out (fun k _ W _ => link_c r.rows r.mid r.gap r.reach (lx r.links k) A r.links.length c W hr1 hr4))
                  rw [e0, e1, e2, e3] at HE
                  cases h3 : allB r.links.length (fun k => linkB r.rows (lx r.links k))
                  all_goals
                    have H3 := Lib.hid h3
                    clear h3
                    go_wp2_with (go_at_call 60; refine (within_c _ _ _ _).mono ?_; rintro e w1 ⟨rfl, rfl⟩)
                    refine H1.out.mono ?_
                    rw [H3.out]
                    rintro e w1 ⟨rfl, hb⟩
                    replace HL := Lib.hid (HL.out.step hb)
                    replace k0 := cell_of_ans hb k0
                    replace k1 := cell_of_ans hb k1
                    replace k2 := cell_of_ans hb k2
                    replace k3 := cell_of_ans hb k3
                    replace k4 := cell_of_ans hb k4
                    replace HB := Lib.hid (HB.out.trans (hb.mono HB.out.size))
                    clear hb
                    go_wp2_with fail
                    go_ret
                    exact ⟨ret_int (by rw [HE.out, H3.out]; rfl), HB.out⟩
        · have HE : Hid (rackErr r = 3) := by show _ = _; rw [rackErr, if_neg (fun h => t1 h.2)]
          have ht0 : (r.links.length : Int) ≤ 12 := by omega
          have ht1 : ¬ ((mayTo r.links r.links.length : Nat) : Int) ≤ 6 := by omega
          generalize mayTo r.links r.links.length = m at *
          go_wp2_with fail
          go_ret
          exact ⟨ret_int HE.out.symm, HB.out⟩
      · have HE : Hid (rackErr r = 3) := by show _ = _; rw [rackErr, if_neg (fun h => t0 h.1)]
        have ht0 : ¬ (r.links.length : Int) ≤ 12 := by omega
        go_wp2_with fail
        go_ret
        exact ⟨ret_int HE.out.symm, HB.out⟩
theorem i64_and1 (n : Int) : bits .and .i64 n 1 = n % 2 := by
  have h1 : (BitVec.ofInt 64 1).toNat = 2 ^ 1 - 1 := by decide
  have key : (BitVec.ofInt 64 n &&& BitVec.ofInt 64 1).toNat = (n % ((2 ^ 64 : Nat) : Int)).toNat % 2 ^ 1 := by
    rw [BitVec.toNat_and, BitVec.toNat_ofInt, h1, Nat.and_two_pow_sub_one_eq_mod]
  show IntKind.i64.wrap ((BitVec.ofInt 64 n &&& BitVec.ofInt 64 1).toNat : Nat) = n % 2
  rw [key, IntKind.wrap_i64]
  omega
theorem some_bit (b i : Nat) : (bits .and .i64 ((b : Int) / 2 ^ i) 1 == 1) = b.testBit i := by
  have h1 : ((b : Int) / 2 ^ i) = ((b / 2 ^ i : Nat) : Int) := by simp
  rw [i64_and1, h1, Nat.testBit_eq_decide_div_mod_eq]
  generalize b / 2 ^ i = x
  rcases Nat.mod_two_eq_zero_or_one x with e | e
  · simp [e]; omega
  · simp [e]; omega
set_option maxHeartbeats 400000 in
theorem some_c (x : Lk) (i b : Nat) (w : World) (hi : i < 16) : Calls Try.prog 62 #[lV x, .int .i64 (i : Int), .int .i64 (b : Int)] w (Ans w (.bool (x.s || b.testBit i))) := by
  obtain ⟨xf, xt, xs⟩ := x
  unfold lV
  dsimp only
  have hb0 : Below w.heap.size w (w.alloc (.cells #[.int .i64 xf, .int .i64 xt, .bool xs] 165)) := (Below.refl _ _).alloc (Nat.le_refl _) _
  have HB := Lib.hid hb0
  have HR := Lib.hid (some_bit b i)
  clear hb0
  cases xs
  · go_enter Try.func62, Try.ntmps62
    go_wp2_with fail
    go_ret
    exact ⟨ret_bool (by rw [← HR.out]; rfl), HB.out⟩
  · go_enter Try.func62, Try.ntmps62
    go_wp2_with fail
    go_ret
    exact ⟨rfl, HB.out⟩
end

section
open Go.RowKit
set_option maxHeartbeats 1000000 in
theorem reaches_c (r : Rk) (A : Option Addr) (c pins p : Nat) (b : Int) (w : World) (hr : Ok r) (hp : p < 10) (hb1 : -1000 ≤ b) (hb2 : b ≤ 1000) :
    Calls Try.prog 156 #[.agg #[.int .i64 r.rows, .int .i64 r.mid, .int .i64 r.gap, .int .i64 r.reach, .slice A r.links.length c, .int .u16 (pins : Int)], .int .i64 (p : Int), .int .i64 b] w (Ans w (.bool (reachB r p b))) := by
  have HB := Lib.hid (Below.refl w.heap.size w)
  have h6 := board_in hr hp
  have h7 := hr.reach0
  have h8 := hr.reach10
  have q1 : IntKind.i64.wrap (-r.reach) = -r.reach := IntWalk.i64_in _ (by omega)
  have q2 : IntKind.i64.wrap (boardP r p - b) = boardP r p - b := IntWalk.i64_in _ (by omega)
  have hb : Below w.heap.size w (w.alloc (.cells #[.int .i64 r.rows, .int .i64 r.mid, .int .i64 r.gap, .int .i64 r.reach, .slice A r.links.length c, .int .u16 (pins : Int)] 158)) := (Below.refl _ _).alloc (Nat.le_refl _) _
  replace HB := Lib.hid (HB.out.trans (hb.mono HB.out.size))
  clear hb
  have k0 : (w.alloc (.cells #[.int .i64 r.rows, .int .i64 r.mid, .int .i64 r.gap, .int .i64 r.reach, .slice A r.links.length c, .int .u16 (pins : Int)] 158)).cell? ⟨w.heap.size, 0, none⟩ = some (.int .i64 r.rows) := by simp
  have k1 : (w.alloc (.cells #[.int .i64 r.rows, .int .i64 r.mid, .int .i64 r.gap, .int .i64 r.reach, .slice A r.links.length c, .int .u16 (pins : Int)] 158)).cell? ⟨w.heap.size, 1, none⟩ = some (.int .i64 r.mid) := by simp
  have k2 : (w.alloc (.cells #[.int .i64 r.rows, .int .i64 r.mid, .int .i64 r.gap, .int .i64 r.reach, .slice A r.links.length c, .int .u16 (pins : Int)] 158)).cell? ⟨w.heap.size, 2, none⟩ = some (.int .i64 r.gap) := by simp
  have k3 : (w.alloc (.cells #[.int .i64 r.rows, .int .i64 r.mid, .int .i64 r.gap, .int .i64 r.reach, .slice A r.links.length c, .int .u16 (pins : Int)] 158)).cell? ⟨w.heap.size, 3, none⟩ = some (.int .i64 r.reach) := by simp
  have k4 : (w.alloc (.cells #[.int .i64 r.rows, .int .i64 r.mid, .int .i64 r.gap, .int .i64 r.reach, .slice A r.links.length c, .int .u16 (pins : Int)] 158)).cell? ⟨w.heap.size, 4, none⟩ = some (.slice A r.links.length c) := by simp
  have k5 : (w.alloc (.cells #[.int .i64 r.rows, .int .i64 r.mid, .int .i64 r.gap, .int .i64 r.reach, .slice A r.links.length c, .int .u16 (pins : Int)] 158)).cell? ⟨w.heap.size, 5, none⟩ = some (.int .u16 (pins : Int)) := by simp
  go_enter Try.func156, Try.ntmps156
  go_upto_region 1 with fail
  generalize (w.alloc (.cells #[.int .i64 r.rows, .int .i64 r.mid, .int .i64 r.gap, .int .i64 r.reach, .slice A r.links.length c, .int .u16 (pins : Int)] 158)) = x1 at *
  have hd : Below x1.heap.size x1 x1.drew := (Below.refl _ _).drew
  replace HB := Lib.hid (HB.out.trans (hd.mono HB.out.size))
  clear hd
  go_region_held3 (fun w' => w'.cell? ⟨w.heap.size, 0, none⟩ = some (.int .i64 r.rows) ∧ w'.cell? ⟨w.heap.size, 1, none⟩ = some (.int .i64 r.mid) ∧ w'.cell? ⟨w.heap.size, 2, none⟩ = some (.int .i64 r.gap) ∧ w'.cell? ⟨w.heap.size, 3, none⟩ = some (.int .i64 r.reach) ∧ w'.cell? ⟨w.heap.size, 4, none⟩ = some (.slice A r.links.length c)) (go_keep) (first | (go_at_call 178; refine (board_c r A c p _ hr hp).mono ?_; rintro e x9 ⟨rfl, hb⟩; replace k0 := cell_of_ans (below_drew_l hb) k0; replace k1 := cell_of_ans (below_drew_l hb) k1; replace k2 := cell_of_ans (below_drew_l hb) k2; replace k3 := cell_of_ans (below_drew_l hb) k3; replace k4 := cell_of_ans (below_drew_l hb) k4; replace k5 := cell_of_ans (below_drew_l hb) k5; replace HB := Lib.hid (HB.out.trans (hb.mono HB.out.size)); clear hb) | (go_at_call 60; refine (within_c _ _ _ _).mono ?_; rintro e w1 ⟨rfl, rfl⟩))
  go_wp2_with fail
  go_ret
  exact ⟨rfl, HB.out⟩
theorem ofS_filter_take (l : List Nat) (f : Nat → Bool) {k : Nat} (h : k < l.length) : ofS ((l.take (k + 1)).filter f) = if f l[k] then ofS ((l.take k).filter f) ||| 2 ^ l[k] else ofS ((l.take k).filter f) := by
  rw [List.take_succ_eq_append_getElem h, List.filter_append]
  cases hf : f l[k]
  · simp [hf]
  · simp [hf, or_ofS]
theorem shl_u16 {p : Nat} (hp : p < 10) : IntKind.u16.wrap ((2 : Int) ^ p) = (2 : Int) ^ p := by
  have hp2 : (2 : Nat) ^ p < 2 ^ 10 := Nat.pow_lt_pow_right (by decide) hp
  have e : (2 : Int) ^ p = ((2 ^ p : Nat) : Int) := by simp
  rw [IntKind.wrap_u16, e]
  generalize 2 ^ p = q at hp2 ⊢
  omega
theorem or_u16 {s p : Nat} (hs : s < 2 ^ 10) (hp : p < 10) : bits .or .u16 (s : Int) ((2 : Int) ^ p) = ((s ||| 2 ^ p : Nat) : Int) := by
  have hp2 : (2 : Nat) ^ p < 2 ^ 10 := Nat.pow_lt_pow_right (by decide) hp
  rw [show (2 : Int) ^ p = ((2 ^ p : Nat) : Int) by simp, u16_or_nat _ _ (by omega) (by omega)]
theorem or_lt {s p : Nat} (hs : s < 2 ^ 10) (hp : p < 10) : s ||| 2 ^ p < 2 ^ 10 := Nat.or_lt_two_pow hs (Nat.pow_lt_pow_right (by decide) hp)
theorem touch_of (r : Rk) (pins row : Nat) (b : Int) : ofS ((listS pins).filter fun p => decide (rowP p = row) && reachB r p b) = touchS r pins row b := by
  refine set_ext (n := 10) (ofS_lt fun p hp => (mem_listS.1 (List.mem_filter.1 hp).1).1) (touchS_lt ..) fun p hp => ?_
  rw [mem_ofS, touchS, mem_bitsP, List.mem_filter, mem_listS]
  simp [hp, and_assoc]
theorem field155 (x y : Int) (w : World) : (Instr.field 282 (.agg #[.int .i64 x, .int .i64 y]) 0).run Try.prog w = .ok (.int .i64 x) w := by kernel_rfl
attribute [local go_sem] field155
set_option maxRecDepth 100000 in
set_option maxHeartbeats 4000000 in
theorem touched_c (r : Rk) (A : Option Addr) (c pins row : Nat) (b : Int) (w : World) (hr : Ok r) (hp : pins < 2 ^ 10) (hb1' : -1000 ≤ b) (hb2' : b ≤ 1000) :
    Calls Try.prog 119 #[.agg #[.int .i64 r.rows, .int .i64 r.mid, .int .i64 r.gap, .int .i64 r.reach, .slice A r.links.length c, .int .u16 (pins : Int)], .int .i64 (row : Int), .int .i64 b] w (Ans w (.int .u16 (touchS r pins row b : Int))) := by
  have HB := Lib.hid (Below.refl w.heap.size w)
  have hb : Below w.heap.size w (w.alloc (.cells #[.int .i64 r.rows, .int .i64 r.mid, .int .i64 r.gap, .int .i64 r.reach, .slice A r.links.length c, .int .u16 (pins : Int)] 158)) := (Below.refl _ _).alloc (Nat.le_refl _) _
  replace HB := Lib.hid (HB.out.trans (hb.mono HB.out.size))
  clear hb
  have k0 : (w.alloc (.cells #[.int .i64 r.rows, .int .i64 r.mid, .int .i64 r.gap, .int .i64 r.reach, .slice A r.links.length c, .int .u16 (pins : Int)] 158)).cell? ⟨w.heap.size, 0, none⟩ = some (.int .i64 r.rows) := by simp
  have k1 : (w.alloc (.cells #[.int .i64 r.rows, .int .i64 r.mid, .int .i64 r.gap, .int .i64 r.reach, .slice A r.links.length c, .int .u16 (pins : Int)] 158)).cell? ⟨w.heap.size, 1, none⟩ = some (.int .i64 r.mid) := by simp
  have k2 : (w.alloc (.cells #[.int .i64 r.rows, .int .i64 r.mid, .int .i64 r.gap, .int .i64 r.reach, .slice A r.links.length c, .int .u16 (pins : Int)] 158)).cell? ⟨w.heap.size, 2, none⟩ = some (.int .i64 r.gap) := by simp
  have k3 : (w.alloc (.cells #[.int .i64 r.rows, .int .i64 r.mid, .int .i64 r.gap, .int .i64 r.reach, .slice A r.links.length c, .int .u16 (pins : Int)] 158)).cell? ⟨w.heap.size, 3, none⟩ = some (.int .i64 r.reach) := by simp
  have k4 : (w.alloc (.cells #[.int .i64 r.rows, .int .i64 r.mid, .int .i64 r.gap, .int .i64 r.reach, .slice A r.links.length c, .int .u16 (pins : Int)] 158)).cell? ⟨w.heap.size, 4, none⟩ = some (.slice A r.links.length c) := by simp
  have k5 : (w.alloc (.cells #[.int .i64 r.rows, .int .i64 r.mid, .int .i64 r.gap, .int .i64 r.reach, .slice A r.links.length c, .int .u16 (pins : Int)] 158)).cell? ⟨w.heap.size, 5, none⟩ = some (.int .u16 (pins : Int)) := by simp
  go_enter Try.func119, Try.ntmps119
  go_wp2_with fail
  generalize (w.alloc (.cells #[.int .i64 r.rows, .int .i64 r.mid, .int .i64 r.gap, .int .i64 r.reach, .slice A r.links.length c, .int .u16 (pins : Int)] 158)) = x1 at *
  refine (list_s pins _ (by omega)).mono ?_
  rintro e x2 ⟨Al, cl, rfl, hO, hb⟩
  replace k0 := cell_of_ans hb k0
  replace k1 := cell_of_ans hb k1
  replace k2 := cell_of_ans hb k2
  replace k3 := cell_of_ans hb k3
  replace k4 := cell_of_ans hb k4
  replace k5 := cell_of_ans hb k5
  replace HB := Lib.hid (HB.out.trans (hb.mono HB.out.size))
  clear hb
  obtain ⟨hcl, hcl2, hI⟩ := isInts_parts (ownsRow_isInts hO)
  have HI := Lib.hid hI
  clear hO hI
  have HM : Hid (∀ p ∈ listS pins, p < 10) := fun p h => (mem_listS.1 h).1
  have hll : (listS pins).length ≤ 10 := many_le pins
  have HT := Lib.hid (touch_of r pins row b)
  rw [natsI_len] at hcl ⊢
  clear k0 k1 k2 k3 k4 k5
  generalize listS pins = l at *
  go_wp2_with fail
  go_loopw [6, 16] (fun t i wr => ∃ k : Nat, k ≤ l.length ∧ i = .int .i64 k ∧ t = .int .u16 (ofS ((l.take k).filter fun p => decide (rowP p = row) && reachB r p b) : Int) ∧ Below x2.heap.size x2 wr) (fun _ i _ => l.length - (intOf i).toNat)
  case atStart => exact ⟨0, by omega, rfl, rfl, Below.refl _ _⟩
  case round =>
    obtain ⟨k, hk, rfl, rfl, hb⟩ := hrel
    by_cases h1 : k < l.length
    · obtain ⟨b1, off, hA, hb1, hc⟩ := (HI.out.step hb).at_ (k := k) (by rw [natsI_len]; exact h1)
      have hp : l[k] < 10 := HM.out _ (List.getElem_mem h1)
      rw [show ix (natsI l) k = (l[k] : Int) by rw [ix_lt (by rw [natsI_len]; exact h1)]; simp [natsI]] at hc
      have HS := Lib.hid (ofS_filter_take l (fun p => decide (rowP p = row) && reachB r p b) h1)
      have hlt : ofS ((l.take k).filter fun p => decide (rowP p = row) && reachB r p b) < 2 ^ 10 := ofS_lt fun p hp => HM.out p (List.mem_of_mem_take (List.mem_filter.1 hp).1)
      generalize ofS ((l.take k).filter fun p => decide (rowP p = row) && reachB r p b) = s at *
      generalize l[k] = p at *
      have h1i : (k : Int) < (l.length : Int) := by omega
      have HBW := Lib.hid hb
      have hpl := place_le hp
      subst hA
      clear hb
      by_cases hrow : rowP p = row
      · have hrb : ((rowP p : Int) == (row : Int)) = true := by simp [hrow]
        cases hre : reachB r p b
        · have HE : Hid (ofS ((l.take (k + 1)).filter fun p => decide (rowP p = row) && reachB r p b) = s) := by show _ = _; rw [HS.out, hre]; simp
          have HRC : Hid (∀ W, Calls Try.prog 156 #[.agg #[.int .i64 r.rows, .int .i64 r.mid, .int .i64 r.gap, .int .i64 r.reach, .slice A r.links.length c, .int .u16 (pins : Int)], .int .i64 (p : Int), .int .i64 b] W (Ans W (.bool false))) := fun W => hre ▸ reaches_c r A c pins p b W hr hp hb1' hb2'
          clear hrow hre
          go_wp2_with (go_at_call 157; refine (where_c p _ hp).mono ?_; rintro e w1 ⟨rfl, hb⟩; replace HBW := Lib.hid (HBW.out.trans (hb.mono HBW.out.size)); clear hb)
          refine (HRC.out _).mono ?_
          rintro e w2 ⟨rfl, hb⟩
          replace HBW := Lib.hid (HBW.out.trans (hb.mono HBW.out.size))
          clear hb
          go_wp2_with fail
          go_roundw
          case rel => exact ⟨k + 1, by omega, by go_num, by rw [HE.out], HBW.out⟩
          case measure => simp [intOf]; omega
        · have HE : Hid (ofS ((l.take (k + 1)).filter fun p => decide (rowP p = row) && reachB r p b) = s ||| 2 ^ p) := by show _ = _; rw [HS.out, hre]; simp [hrow]
          have HRC : Hid (∀ W, Calls Try.prog 156 #[.agg #[.int .i64 r.rows, .int .i64 r.mid, .int .i64 r.gap, .int .i64 r.reach, .slice A r.links.length c, .int .u16 (pins : Int)], .int .i64 (p : Int), .int .i64 b] W (Ans W (.bool true))) := fun W => hre ▸ reaches_c r A c pins p b W hr hp hb1' hb2'
          have hw := shl_u16 hp
          have HO := Lib.hid (or_u16 hlt hp)
          clear hrow hre
          go_wp2_with (go_at_call 157; refine (where_c p _ hp).mono ?_; rintro e w1 ⟨rfl, hb⟩; replace HBW := Lib.hid (HBW.out.trans (hb.mono HBW.out.size)); clear hb)
          refine (HRC.out _).mono ?_
          rintro e w2 ⟨rfl, hb⟩
          replace HBW := Lib.hid (HBW.out.trans (hb.mono HBW.out.size))
          clear hb
          go_wp2_with fail
          go_roundw
          case rel => exact ⟨k + 1, by omega, by go_num, by rw [HE.out]; exact congrArg _ HO.out, HBW.out⟩
          case measure => simp [intOf]; omega
      · have hrb : ((rowP p : Int) == (row : Int)) = false := by simp; omega
        have HE : Hid (ofS ((l.take (k + 1)).filter fun p => decide (rowP p = row) && reachB r p b) = s) := by show _ = _; rw [HS.out]; simp [hrow]
        clear hrow
        go_wp2_with (go_at_call 157; refine (where_c p _ hp).mono ?_; rintro e w1 ⟨rfl, hb⟩; replace HBW := Lib.hid (HBW.out.trans (hb.mono HBW.out.size)); clear hb)
        go_roundw
        case rel => exact ⟨k + 1, by omega, by go_num, by rw [HE.out], HBW.out⟩
        case measure => simp [intOf]; omega
    · obtain rfl : k = l.length := by omega
      rw [List.take_of_length_le (Nat.le_refl _), HT.out]
      go_wp2_with fail
      go_ret
      exact ⟨rfl, HB.out.trans (hb.mono HB.out.size)⟩
theorem filter_lt {f g : Nat → Bool} : ∀ {l : List Nat}, (∀ x ∈ l, f x = true → g x = true) → (∃ x ∈ l, g x = true ∧ f x = false) → (l.filter f).length < (l.filter g).length
  | [], _, h => by obtain ⟨x, hx, _⟩ := h; cases hx
  | y :: l, h1, h2 => by
    have hle : ∀ l : List Nat, (∀ x ∈ l, f x = true → g x = true) → (l.filter f).length ≤ (l.filter g).length := by
      intro l
      induction l with
      | nil => intro _; exact Nat.le_refl _
      | cons z l ih =>
        intro h
        have := ih fun x hx => h x (List.mem_cons_of_mem _ hx)
        have hz := h z (List.mem_cons_self ..)
        cases hf : f z <;> cases hg : g z <;> simp_all <;> omega
    have hl := hle l fun x hx => h1 x (List.mem_cons_of_mem _ hx)
    have hy := h1 y (List.mem_cons_self ..)
    by_cases h3 : g y = true ∧ f y = false
    · simp [List.filter_cons, h3.1, h3.2]; omega
    · have h4 : (l.filter f).length < (l.filter g).length := by
        refine filter_lt (fun x hx => h1 x (List.mem_cons_of_mem _ hx)) ?_
        obtain ⟨x, hx, h⟩ := h2
        rcases List.mem_cons.1 hx with rfl | hx
        · exact absurd h h3
        · exact ⟨x, hx, h⟩
      cases hf : f y <;> cases hg : g y <;> simp_all
theorem many_lt {a b : Nat} (ha : a < 2 ^ 10) (hb : b < 2 ^ 10) (h : Sub a b) (hne : a ≠ b) : many a < many b := by
  refine filter_lt (fun x _ hx => h x hx) ?_
  refine Classical.byContradiction fun hn => hne (Sub.antisymm ha hb h fun p hp => Classical.byContradiction fun hq => hn ⟨p, List.mem_range.2 (bit_lt hb hp), hp, by simpa using hq⟩)
theorem mem_or_pow {s p q : Nat} : (s ||| 2 ^ p).testBit q = true ↔ s.testBit q = true ∨ p = q := by rw [Nat.testBit_or, Bool.or_eq_true, Nat.testBit_two_pow]; simp
theorem fall_is {ls : List Lk} {cf : Nat → Bool} {pins s u : Nat} (hu : u < 2 ^ 10) (hs : s < 2 ^ 10) (hp : pins < 2 ^ 10) (h0 : Sub s u) (h1 : ∀ p, u.testBit p = true → Fall ls cf pins s p)
    (hcl : ∀ i, i < ls.length → cf i = true → u.testBit (lx ls i).f.toNat = true → pins.testBit (lx ls i).t.toNat = true → u.testBit (lx ls i).t.toNat = true) : u = fallS ls cf pins s :=
  set_ext hu (fallS_lt hs hp) fun p _ => by
    rw [mem_fallS (by omega) (by omega)]
    exact ⟨h1 p, fall_closed h0 hcl⟩
theorem link_pins {r : Rk} (hr : Ok r) {k : Nat} (hk : k < r.links.length) : ∃ f t : Nat, f < 10 ∧ t < 10 ∧ (lx r.links k).f = (f : Int) ∧ (lx r.links k).t = (t : Int) ∧ f < pn r.rows ∧ t < pn r.rows := by
  have h := hr.link k hk
  have hp := pn_le hr.rows1 hr.rows4
  simp only [linkB, Bool.and_eq_true, inB_eq] at h
  obtain ⟨⟨a, b⟩, ⟨c, d⟩, _⟩ := h
  exact ⟨(lx r.links k).f.toNat, (lx r.links k).t.toNat, by omega, by omega, by omega, by omega, by omega, by omega⟩
set_option maxRecDepth 100000 in
set_option maxHeartbeats 8000000 in
theorem falls_c (r : Rk) (A : Option Addr) (c pins s g : Nat) (bits : Int) (cf : Nat → Bool) (w : World) (hr : Ok r) (hp : pins < 2 ^ 10) (hs : s < 2 ^ 10) (hl : Lks w.heap.size w A r.links) (hc : r.links.length ≤ c ∧ c ≤ 9223372036854775807) (he : Enters g)
    (hg : ∀ i, i < r.links.length → ∀ W, Calls Try.prog g #[lV (lx r.links i), .int .i64 (i : Int), .int .i64 bits] W (Ans W (.bool (cf i)))) :
    Calls Try.prog 115 #[.agg #[.int .i64 r.rows, .int .i64 r.mid, .int .i64 r.gap, .int .i64 r.reach, .slice A r.links.length c, .int .u16 (pins : Int)], .int .u16 (s : Int), .agg #[.func (.func g) #[] #[]], .int .i64 bits] w (Ans w (.int .u16 (fallS r.links cf pins s : Int))) := by
  have HB := Lib.hid (Below.refl w.heap.size w)
  have HL := Lib.hid hl
  have HG := Lib.hid hg
  have hE := he
  unfold Enters at hE
  clear hl hg he
  have hb : Below w.heap.size w (w.alloc (.cells #[.int .i64 r.rows, .int .i64 r.mid, .int .i64 r.gap, .int .i64 r.reach, .slice A r.links.length c, .int .u16 (pins : Int)] 158)) := (Below.refl _ _).alloc (Nat.le_refl _) _
  replace HL := Lib.hid (HL.out.step hb)
  replace HB := Lib.hid (HB.out.trans (hb.mono HB.out.size))
  clear hb
  have k0 : (w.alloc (.cells #[.int .i64 r.rows, .int .i64 r.mid, .int .i64 r.gap, .int .i64 r.reach, .slice A r.links.length c, .int .u16 (pins : Int)] 158)).cell? ⟨w.heap.size, 0, none⟩ = some (.int .i64 r.rows) := by simp
  have k1 : (w.alloc (.cells #[.int .i64 r.rows, .int .i64 r.mid, .int .i64 r.gap, .int .i64 r.reach, .slice A r.links.length c, .int .u16 (pins : Int)] 158)).cell? ⟨w.heap.size, 1, none⟩ = some (.int .i64 r.mid) := by simp
  have k2 : (w.alloc (.cells #[.int .i64 r.rows, .int .i64 r.mid, .int .i64 r.gap, .int .i64 r.reach, .slice A r.links.length c, .int .u16 (pins : Int)] 158)).cell? ⟨w.heap.size, 2, none⟩ = some (.int .i64 r.gap) := by simp
  have k3 : (w.alloc (.cells #[.int .i64 r.rows, .int .i64 r.mid, .int .i64 r.gap, .int .i64 r.reach, .slice A r.links.length c, .int .u16 (pins : Int)] 158)).cell? ⟨w.heap.size, 3, none⟩ = some (.int .i64 r.reach) := by simp
  have k4 : (w.alloc (.cells #[.int .i64 r.rows, .int .i64 r.mid, .int .i64 r.gap, .int .i64 r.reach, .slice A r.links.length c, .int .u16 (pins : Int)] 158)).cell? ⟨w.heap.size, 4, none⟩ = some (.slice A r.links.length c) := by simp
  have k5 : (w.alloc (.cells #[.int .i64 r.rows, .int .i64 r.mid, .int .i64 r.gap, .int .i64 r.reach, .slice A r.links.length c, .int .u16 (pins : Int)] 158)).cell? ⟨w.heap.size, 5, none⟩ = some (.int .u16 (pins : Int)) := by simp
  have hb : Below (w.alloc (.cells #[.int .i64 r.rows, .int .i64 r.mid, .int .i64 r.gap, .int .i64 r.reach, .slice A r.links.length c, .int .u16 (pins : Int)] 158)).heap.size (w.alloc (.cells #[.int .i64 r.rows, .int .i64 r.mid, .int .i64 r.gap, .int .i64 r.reach, .slice A r.links.length c, .int .u16 (pins : Int)] 158)) ((w.alloc (.cells #[.int .i64 r.rows, .int .i64 r.mid, .int .i64 r.gap, .int .i64 r.reach, .slice A r.links.length c, .int .u16 (pins : Int)] 158)).alloc (.cells #[.func (.func g) #[] #[]] 172)) := (Below.refl _ _).alloc (Nat.le_refl _) _
  replace HL := Lib.hid (HL.out.step hb)
  replace k0 := cell_of_ans hb k0
  replace k1 := cell_of_ans hb k1
  replace k2 := cell_of_ans hb k2
  replace k3 := cell_of_ans hb k3
  replace k4 := cell_of_ans hb k4
  replace k5 := cell_of_ans hb k5
  replace HB := Lib.hid (HB.out.trans (hb.mono HB.out.size))
  clear hb
  have c0 : ((w.alloc (.cells #[.int .i64 r.rows, .int .i64 r.mid, .int .i64 r.gap, .int .i64 r.reach, .slice A r.links.length c, .int .u16 (pins : Int)] 158)).alloc (.cells #[.func (.func g) #[] #[]] 172)).cell? ⟨w.heap.size + 1, 0, none⟩ = some (.func (.func g) #[] #[]) := by simp
  go_enter Try.func115, Try.ntmps115
  go_wp2_with fail
  generalize ((w.alloc (.cells #[.int .i64 r.rows, .int .i64 r.mid, .int .i64 r.gap, .int .i64 r.reach, .slice A r.links.length c, .int .u16 (pins : Int)] 158)).alloc (.cells #[.func (.func g) #[] #[]] 172)) = x2 at *
  have ltk0 := World.block_lt_of_cell? _ _ k0
  dsimp only at ltk0
  have ltc0 := World.block_lt_of_cell? _ _ c0
  dsimp only at ltc0
  go_loopw [1] (fun t wr => ∃ u : Nat, u < 2 ^ 10 ∧ t = .int .u16 (u : Int) ∧ Sub s u ∧ (∀ p, u.testBit p = true → Fall r.links cf pins s p) ∧ Below x2.heap.size x2 wr) (fun t _ => 10 - many (intOf t).toNat)
  case atStart => exact ⟨s, hs, rfl, Sub.rfl, fun p h => .base h, Below.refl _ _⟩
  case round =>
    obtain ⟨u, hu, rfl, hsu, hfu, hb⟩ := hrel
    have HSU := Lib.hid hsu
    have HFU := Lib.hid hfu
    clear hsu hfu
    replace k0 := cell_of_ans hb k0
    replace k1 := cell_of_ans hb k1
    replace k2 := cell_of_ans hb k2
    replace k3 := cell_of_ans hb k3
    replace k4 := cell_of_ans hb k4
    replace k5 := cell_of_ans hb k5
    replace c0 := cell_of_ans hb c0
    replace HL := Lib.hid (HL.out.step hb)
    have HB1 := Lib.hid hb
    clear hb
    go_wp2_with fail
    go_loopw [1, 17] (fun t i wt => ∃ k v : Nat, k ≤ r.links.length ∧ v < 2 ^ 10 ∧ i = .int .i64 k ∧ t = .int .u16 (v : Int) ∧ Sub u v ∧ (∀ p, v.testBit p = true → Fall r.links cf pins s p) ∧ (∀ j, j < k → cf j = true → u.testBit (lx r.links j).f.toNat = true → pins.testBit (lx r.links j).t.toNat = true → v.testBit (lx r.links j).t.toNat = true) ∧ Below wr.heap.size wr wt) (fun _ i _ => r.links.length - (intOf i).toNat)
    case atStart => exact ⟨0, u, by omega, hu, rfl, rfl, Sub.rfl, HFU.out, fun j hj => by omega, Below.refl _ _⟩
    case round =>
      obtain ⟨k, v, hk, hv, rfl, rfl, huv, hfv, hdn, hb⟩ := hrel
      rename World => wt
      have HUV := Lib.hid huv
      have HFV := Lib.hid hfv
      have HDN := Lib.hid hdn
      have HBT := Lib.hid hb
      clear huv hfv hdn
      by_cases h1 : k < r.links.length
      · obtain ⟨b1, off, hA, hb1, c1, c2, c3⟩ := (HL.out.step hb).at_ h1
        obtain ⟨f, t, hf, ht, ef, et, -, -⟩ := link_pins hr h1
        have HGk := Lib.hid (HG.out k h1)
        replace c0 := cell_of_ans hb c0
        replace k5 := cell_of_ans hb k5
        clear hb
        have HX : Hid (∀ v', Sub v v' → (cf k = true → u.testBit f = true → pins.testBit t = true → v'.testBit t = true) → ∀ j, j < k + 1 → cf j = true → u.testBit (lx r.links j).f.toNat = true → pins.testBit (lx r.links j).t.toNat = true → v'.testBit (lx r.links j).t.toNat = true) := fun v' hvv hk' j hj hc h2 h3 => by
          by_cases e : j = k
          · subst e
            rw [ef] at h2
            rw [et] at h3 ⊢
            exact hk' hc h2 h3
          · exact hvv _ (HDN.out j (by omega) hc h2 h3)
        have HST : Hid (v.testBit f = true → pins.testBit t = true → cf k = true → Fall r.links cf pins s t) := fun h2 h3 h4 => by
          have := Fall.step (s := s) h1 h4 (by rw [ef]; exact HFV.out _ h2) (by rw [et]; exact h3)
          rw [et] at this
          exact this
        generalize hx : lx r.links k = x at *
        obtain ⟨xf, xt, xs⟩ := x
        dsimp only at c1 c2 c3 ef et
        subst ef et
        unfold lV at HGk
        dsimp only at HGk
        have h1i : (k : Int) < (r.links.length : Int) := by omega
        have hb2 : Below wr.heap.size wr (wt.alloc (.cells #[.int .i64 (f : Int), .int .i64 (t : Int), .bool xs] 165)) := HBT.out.alloc HBT.out.size _
        have HB2 := Lib.hid hb2
        have lt5 := World.block_lt_of_cell? _ _ k5
        have lt6 := World.block_lt_of_cell? _ _ c0
        dsimp only at lt5 lt6
        subst hA
        clear hb2 hx
        cases e1 : v.testBit f
        · go_wp2_with (go_at_call 120; refine (has_c _ _ _ (by omega) (by omega)).mono ?_; rintro e w1 ⟨rfl, rfl⟩)
          go_roundw
          case rel => exact ⟨k + 1, v, by omega, hv, by go_num, rfl, HUV.out, HFV.out, HX.out v Sub.rfl (fun _ h2 _ => by have := HUV.out _ h2; rw [e1] at this; cases this), HB2.out⟩
          case measure => simp [intOf]; omega
        · cases e2 : pins.testBit t
          · go_wp2_with (go_at_call 120; refine (has_c _ _ _ (by omega) (by omega)).mono ?_; rintro e w1 ⟨rfl, rfl⟩)
            go_roundw
            case rel => exact ⟨k + 1, v, by omega, hv, by go_num, rfl, HUV.out, HFV.out, HX.out v Sub.rfl (fun _ _ h3 => by rw [e2] at h3; cases h3), HB2.out⟩
            case measure => simp [intOf]; omega
          · cases e3 : cf k
            · rw [e3] at HGk
              go_wp2_with (go_at_call 120; refine (has_c _ _ _ (by omega) (by omega)).mono ?_; rintro e w1 ⟨rfl, rfl⟩)
              refine (HGk.out _).mono ?_
              rintro e w3 ⟨rfl, hb⟩
              have HB3 := Lib.hid (HB2.out.trans (hb.mono HB2.out.size))
              clear hb
              go_wp2_with fail
              go_roundw
              case rel => exact ⟨k + 1, v, by omega, hv, by go_num, rfl, HUV.out, HFV.out, HX.out v Sub.rfl (fun h2 _ _ => by rw [e3] at h2; cases h2), HB3.out⟩
              case measure => simp [intOf]; omega
            · rw [e3] at HGk
              have hw := shl_u16 ht
              have HO := Lib.hid (or_u16 hv ht)
              have y1 : (wt.alloc (.cells #[.int .i64 (f : Int), .int .i64 (t : Int), .bool xs] 165)).cell? ⟨wt.heap.size, 1, none⟩ = some (.int .i64 (t : Int)) := by simp
              go_wp2_with (go_at_call 120; refine (has_c _ _ _ (by omega) (by omega)).mono ?_; rintro e w1 ⟨rfl, rfl⟩)
              refine (HGk.out _).mono ?_
              rintro e w3 ⟨rfl, hb⟩
              have HB3 := Lib.hid (HB2.out.trans (hb.mono HB2.out.size))
              replace y1 := cell_of_ans hb y1
              clear hb
              go_wp2_with fail
              go_roundw
              case rel => exact ⟨k + 1, v ||| 2 ^ t, by omega, or_lt hv ht, by go_num, congrArg _ HO.out, fun p h => mem_or_pow.2 (.inl (HUV.out p h)), fun p h => (by
                rcases mem_or_pow.1 h with h | rfl
                · exact HFV.out p h
                · exact HST.out e1 e2 e3), HX.out _ (fun p h => mem_or_pow.2 (.inl h)) (fun _ _ _ => mem_or_pow.2 (.inr rfl)), HB3.out⟩
              case measure => simp [intOf]; omega
      · obtain rfl : k = r.links.length := by omega
        have h1i : ¬ ((r.links.length : Int) < (r.links.length : Int)) := by omega
        have HBB : Hid (Below w.heap.size w wt) := HB.out.trans ((HB1.out.trans (hb.mono HB1.out.size)).mono HB.out.size)
        have HBC : Hid (Below x2.heap.size x2 wt) := HB1.out.trans (hb.mono HB1.out.size)
        by_cases e : v = u
        · subst e
          have hv2 : ((v : Int) == (v : Int)) = true := by simp
          go_wp2_with fail
          go_ret
          exact ⟨ret_int (by rw [fall_is hv hs hp HSU.out HFV.out HDN.out]), HBB.out⟩
        · have hv2 : ((v : Int) == (u : Int)) = false := by simp; omega
          have hlt := many_lt hu hv HUV.out (fun e' => e e'.symm)
          have hml := many_le v
          go_wp2_with fail
          go_roundw
          case rel => exact ⟨v, hv, rfl, HSU.out.trans HUV.out, HFV.out, HBC.out⟩
          case measure => simp [intOf]; omega
end

end Go.Proofs.Ytenpiinkbfancaa.Rk
