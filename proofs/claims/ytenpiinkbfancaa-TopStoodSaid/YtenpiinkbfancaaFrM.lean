/-
  A game of frames by its law, in plain Lean: how it stands behind each ball of a sheet, what the balls are worth, which frames have which balls; games whose last frame is still to come.
-/
import Derived.Test.YtenpiinkbfancaaBase
namespace Go.Proofs.Ytenpiinkbfancaa
set_option linter.unusedSimpArgs false
set_option linter.unusedVariables false

/-- How a game stands: its frame, the balls thrown in it, the pins that stand, whether they were all set; how many balls the frame has; how the next two balls count besides. (The law has 10 pins, 2 balls, a tap of 10.) -/
structure Pl where
  fr : Int
  th : Int
  st : Int
  fresh : Bool
  need : Int
  a0 : Int
  a1 : Int
def begP : Pl := ⟨0, 0, 10, true, 2, 0, 0⟩
/-- Behind a ball, in a game of N frames. -/
def nextP (N : Int) (p : Pl) (b : Int) : Pl :=
  if p.fr = N - 1 then
    (if p.st - b = 0 ∧ p.th + 1 < 3 then ⟨p.fr, p.th + 1, 10, true, 3, p.a1, 0⟩
     else if p.th + 1 = p.need then ⟨p.fr + 1, 0, 10, true, 2, p.a1, 0⟩
     else ⟨p.fr, p.th + 1, p.st - b, false, p.need, p.a1, 0⟩)
  else if p.st - b = 0 then ⟨p.fr + 1, 0, 10, true, 2, p.a1 + 1, if p.th = 0 then 1 else 0⟩
  else if p.th + 1 = p.need then ⟨p.fr + 1, 0, 10, true, 2, p.a1, 0⟩
  else ⟨p.fr, p.th + 1, p.st - b, false, p.need, p.a1, 0⟩
/-- What a ball is worth. -/
def wth (p : Pl) (b : Int) : Int := b * (1 + p.a0)
structure PlOk (N : Int) (p : Pl) : Prop where
  f0 : 0 ≤ p.fr
  f1 : p.fr ≤ N
  t0 : 0 ≤ p.th
  t1 : p.th < p.need
  nd : p.need = 2 ∨ p.need = 3
  n2 : p.fr ≠ N - 1 → p.need = 2
  s0 : 0 ≤ p.st
  s1 : p.st ≤ 10
  fs : p.fresh = true → p.st = 10
  a0 : 0 ≤ p.a0
  a2 : p.a0 ≤ 2
  b0 : 0 ≤ p.a1
  b1 : p.a1 ≤ 1
theorem begP_ok {N : Int} (hN : 1 ≤ N) : PlOk N begP := by
  constructor <;> simp [begP] <;> omega
theorem nextP_ok {N : Int} {p : Pl} {b : Int} (h : PlOk N p) (hf : p.fr < N) (h0 : 0 ≤ b) (h1 : b ≤ p.st) : PlOk N (nextP N p b) := by
  obtain ⟨f0, f1, t0, t1, nd, n2, s0, s1, fs, a0, a2, b0, b1⟩ := h
  unfold nextP
  by_cases c1 : p.fr = N - 1
  · rw [if_pos c1]
    by_cases c2 : p.st - b = 0 ∧ p.th + 1 < 3
    · rw [if_pos c2]; constructor <;> simp <;> omega
    · rw [if_neg c2]
      by_cases c3 : p.th + 1 = p.need
      · rw [if_pos c3]; constructor <;> simp <;> omega
      · rw [if_neg c3]; constructor <;> simp <;> omega
  · rw [if_neg c1]
    have n2' := n2 c1
    by_cases c2 : p.st - b = 0
    · rw [if_pos c2]
      constructor <;> simp <;> (try split) <;> omega
    · rw [if_neg c2]
      by_cases c3 : p.th + 1 = p.need
      · rw [if_pos c3]; constructor <;> simp <;> omega
      · rw [if_neg c3]; constructor <;> simp <;> omega
theorem nextP_fr {N : Int} {p : Pl} {b : Int} : (nextP N p b).fr = p.fr ∨ (nextP N p b).fr = p.fr + 1 := by
  unfold nextP
  repeat' split
  all_goals simp
/-- Behind some balls. -/
def runP (N : Int) (p : Pl) (xs : List Int) : Pl := xs.foldl (nextP N) p
def plS (N : Int) (xs : List Int) (k : Nat) : Pl := runP N begP (xs.take k)
theorem plS_zero (N : Int) (xs : List Int) : plS N xs 0 = begP := rfl
theorem plS_succ {N : Int} {xs : List Int} {k : Nat} (h : k < xs.length) : plS N xs (k + 1) = nextP N (plS N xs k) (ix xs k) := by
  unfold plS runP
  rw [ix_lt h, List.take_succ_eq_append_getElem h, List.foldl_append]
  rfl
theorem plS_all (N : Int) (xs : List Int) : plS N xs xs.length = runP N begP xs := by unfold plS; rw [List.take_length]
/-- A sheet of which each ball may follow. -/
structure SheetOk (N : Int) (xs : List Int) : Prop where
  n0 : 1 ≤ N
  n1 : N ≤ 10
  len : xs.length ≤ 40
  may : ∀ k, k < xs.length → (plS N xs k).fr < N ∧ 0 ≤ ix xs k ∧ ix xs k ≤ (plS N xs k).st
theorem plS_ok {N : Int} {xs : List Int} (h : SheetOk N xs) : ∀ k, k ≤ xs.length → PlOk N (plS N xs k)
  | 0, _ => begP_ok h.n0
  | k + 1, hk => by
    have h1 := h.may k (by omega)
    rw [plS_succ (by omega)]
    exact nextP_ok (plS_ok h k (by omega)) h1.1 h1.2.1 h1.2.2
theorem ball_bd {N : Int} {xs : List Int} (h : SheetOk N xs) {k : Nat} (hk : k < xs.length) : 0 ≤ ix xs k ∧ ix xs k ≤ 10 := by
  have h1 := h.may k hk
  have h2 := (plS_ok h k (by omega)).s1
  omega

/-- What the first k balls are worth. -/
def totS (N : Int) (xs : List Int) : Nat → Int
  | 0 => 0
  | k + 1 => totS N xs k + wth (plS N xs k) (ix xs k)
theorem wth_bd {N : Int} {p : Pl} {b : Int} (h : PlOk N p) (h0 : 0 ≤ b) (h1 : b ≤ 10) : b ≤ wth p b ∧ wth p b ≤ 30 := by
  have := h.a0; have := h.a2
  unfold wth
  constructor
  · have : b * 1 ≤ b * (1 + p.a0) := Int.mul_le_mul_of_nonneg_left (by omega) h0
    omega
  · have h2 : b * (1 + p.a0) ≤ b * 3 := Int.mul_le_mul_of_nonneg_left (by omega) h0
    omega
theorem totS_bd {N : Int} {xs : List Int} (h : SheetOk N xs) : ∀ k, k ≤ xs.length → 0 ≤ totS N xs k ∧ totS N xs k ≤ 30 * (k : Int)
  | 0, _ => by simp [totS]
  | k + 1, hk => by
    have h1 := totS_bd h k (by omega)
    have h2 := wth_bd (plS_ok h k (by omega)) (ball_bd h (k := k) (by omega)).1 (ball_bd h (k := k) (by omega)).2
    have h3 := ball_bd h (k := k) (by omega)
    simp only [totS]
    omega

/-! ### Games of frames whose last one is still to come -/
/-- A frame of a game: a strike, or two balls. -/
def FrR (r : List Int) : Prop := r = [10] ∨ ∃ a b : Int, r = [a, b] ∧ 0 ≤ a ∧ a ≤ 9 ∧ 0 ≤ b ∧ b ≤ 10 - a
/-- How a game stands at the begin of a frame. -/
def atP (k a0 a1 : Int) : Pl := ⟨k, 0, 10, true, 2, a0, a1⟩
theorem runP_append (N : Int) (p : Pl) (xs ys : List Int) : runP N p (xs ++ ys) = runP N (runP N p xs) ys := by simp [runP]
/-- Behind a frame. -/
theorem run_frame {N k a0 a1 : Int} {r : List Int} (h : FrR r) (hk : k < N - 1) : runP N (atP k a0 a1) r =
    (if r = [10] then atP (k + 1) (a1 + 1) 1 else if r.sum = 10 then atP (k + 1) 1 0 else atP (k + 1) 0 0) := by
  rcases h with rfl | ⟨a, b, rfl, h1, h2, h3, h4⟩
  · simp [runP, nextP, atP, show ¬ k = N - 1 by omega]
  · have e1 : ¬ (10 - a = 0) := by omega
    simp only [runP, List.foldl_cons, List.foldl_nil, atP, nextP, if_neg (show ¬ k = N - 1 by omega), if_neg e1]
    simp only [Int.zero_add, if_neg (show ¬ (1 : Int) = 2 by omega), if_neg (show ¬ k = N - 1 by omega)]
    by_cases e2 : 10 - a - b = 0
    · have e3 : a + b = 10 := by omega
      simp [e2, e3]
    · have e3 : ¬ a + b = 10 := by omega
      simp [e2, e3]
theorem run_frame_at {N k a0 a1 : Int} {r : List Int} (h : FrR r) (hk : k < N - 1) : ∃ b0 b1, runP N (atP k a0 a1) r = atP (k + 1) b0 b1 := by
  rw [run_frame h hk]
  repeat' split
  all_goals exact ⟨_, _, rfl⟩
theorem run_game {N : Int} : ∀ (gm : List (List Int)) (k a0 a1 : Int), (∀ r ∈ gm, FrR r) → k + gm.length ≤ N - 1 → ∃ b0 b1, runP N (atP k a0 a1) gm.flatten = atP (k + gm.length) b0 b1
  | [], k, a0, a1, _, _ => ⟨a0, a1, by simp [runP]⟩
  | r :: gm, k, a0, a1, h, hk => by
    simp only [List.length_cons] at hk ⊢
    obtain ⟨b0, b1, e⟩ := run_frame_at (a0 := a0) (a1 := a1) (h r (List.mem_cons_self ..)) (show k < N - 1 by omega)
    obtain ⟨c0, c1, e2⟩ := run_game (N := N) gm (k + 1) b0 b1 (fun x hx => h x (List.mem_cons_of_mem _ hx)) (by omega)
    refine ⟨c0, c1, ?_⟩
    rw [List.flatten_cons, runP_append, e, e2]
    unfold atP
    simp only [Pl.mk.injEq, and_true]
    omega

/-- Each ball may follow. -/
def MayL (N : Int) : Pl → List Int → Prop
  | _, [] => True
  | p, b :: bs => (p.fr < N ∧ 0 ≤ b ∧ b ≤ p.st) ∧ MayL N (nextP N p b) bs
theorem MayL.append {N : Int} : ∀ {p : Pl} {xs ys : List Int}, MayL N p xs → MayL N (runP N p xs) ys → MayL N p (xs ++ ys)
  | p, [], ys, _, h => h
  | p, x :: xs, ys, h1, h2 => ⟨h1.1, MayL.append h1.2 h2⟩
theorem may_frame {N k a0 a1 : Int} {r : List Int} (h : FrR r) (hk : k < N - 1) : MayL N (atP k a0 a1) r := by
  rcases h with rfl | ⟨a, b, rfl, h1, h2, h3, h4⟩
  · refine ⟨⟨?_, ?_, ?_⟩, trivial⟩
    · show k < N; omega
    · omega
    · show (10 : Int) ≤ 10; omega
  · have e1 : ¬ (10 - a = 0) := by omega
    refine ⟨⟨?_, h1, ?_⟩, ⟨?_, h3, ?_⟩, trivial⟩
    · show k < N; omega
    · show a ≤ 10; omega
    · simp only [atP, nextP, if_neg (show ¬ k = N - 1 by omega), if_neg e1]
      simp only [Int.zero_add, if_neg (show ¬ (1 : Int) = 2 by omega)]
      omega
    · simp only [atP, nextP, if_neg (show ¬ k = N - 1 by omega), if_neg e1]
      simp only [Int.zero_add, if_neg (show ¬ (1 : Int) = 2 by omega)]
      omega
theorem may_game {N : Int} : ∀ (gm : List (List Int)) (k a0 a1 : Int), (∀ r ∈ gm, FrR r) → k + gm.length ≤ N - 1 → MayL N (atP k a0 a1) gm.flatten
  | [], k, a0, a1, _, _ => trivial
  | r :: gm, k, a0, a1, h, hk => by
    simp only [List.length_cons] at hk
    obtain ⟨b0, b1, e⟩ := run_frame_at (a0 := a0) (a1 := a1) (h r (List.mem_cons_self ..)) (show k < N - 1 by omega)
    rw [List.flatten_cons]
    refine MayL.append (may_frame (h r (List.mem_cons_self ..)) (by omega)) ?_
    rw [e]
    exact may_game gm (k + 1) b0 b1 (fun x hx => h x (List.mem_cons_of_mem _ hx)) (by omega)
theorem MayL.at_ {N : Int} : ∀ {p : Pl} {xs : List Int} (k : Nat), MayL N p xs → k < xs.length → (runP N p (xs.take k)).fr < N ∧ 0 ≤ ix xs k ∧ ix xs k ≤ (runP N p (xs.take k)).st
  | p, x :: xs, 0, h, _ => h.1
  | p, x :: xs, k + 1, h, hk => by
    have := MayL.at_ (p := nextP N p x) (xs := xs) k h.2 (by simpa using hk)
    simpa [runP, ix] using this
theorem flat_len {gm : List (List Int)} (h : ∀ r ∈ gm, FrR r) : gm.flatten.length ≤ 2 * gm.length := by
  induction gm with
  | nil => simp
  | cons r gm ih =>
    have h1 := ih (fun x hx => h x (List.mem_cons_of_mem _ hx))
    have h2 : r.length ≤ 2 := by rcases h r (List.mem_cons_self ..) with e | ⟨a, b, e, -⟩ <;> rw [e] <;> simp
    simp only [List.flatten_cons, List.length_append, List.length_cons]
    omega
/-- The sheet of a game: each of its balls may follow. -/
theorem sheet_game {gm : List (List Int)} (h : ∀ r ∈ gm, FrR r) (hl : gm.length ≤ 9) : SheetOk ((gm.length : Int) + 1) gm.flatten := by
  have hm := may_game (N := (gm.length : Int) + 1) gm 0 0 0 h (by omega)
  refine ⟨by omega, by omega, ?_, fun k hk => MayL.at_ k hm hk⟩
  have := flat_len h
  omega
theorem game_end {gm : List (List Int)} (h : ∀ r ∈ gm, FrR r) : ∃ b0 b1, plS ((gm.length : Int) + 1) gm.flatten gm.flatten.length = atP gm.length b0 b1 := by
  obtain ⟨b0, b1, e⟩ := run_game (N := (gm.length : Int) + 1) gm 0 0 0 h (by omega)
  refine ⟨b0, b1, ?_⟩
  rw [plS_all]
  have : begP = atP 0 0 0 := rfl
  rw [this, e, Int.zero_add]

/-! ### What the balls are worth -/
def totP (N : Int) : Pl → List Int → Int
  | _, [] => 0
  | p, b :: bs => wth p b + totP N (nextP N p b) bs
theorem totP_append (N : Int) : ∀ (p : Pl) (xs ys : List Int), totP N p (xs ++ ys) = totP N p xs + totP N (runP N p xs) ys
  | p, [], ys => by simp [totP, runP]
  | p, x :: xs, ys => by
    have := totP_append N (nextP N p x) xs ys
    simp only [List.cons_append, totP, this, runP, List.foldl_cons]
    omega
theorem totS_totP {N : Int} {xs : List Int} : ∀ k, k ≤ xs.length → totS N xs k = totP N begP (xs.take k)
  | 0, _ => by simp [totS, totP]
  | k + 1, hk => by
    rw [totS, totS_totP k (by omega), List.take_succ_eq_append_getElem (by omega), totP_append, ← ix_lt (by omega : k < xs.length)]
    simp only [totP, Int.add_zero]
    rfl
theorem tot_frame {N k a0 a1 : Int} {r : List Int} (h : FrR r) (hk : k < N - 1) (h0 : 0 ≤ a0) (h1 : 0 ≤ a1) : ∃ b0 b1, runP N (atP k a0 a1) r = atP (k + 1) b0 b1 ∧ 0 ≤ b0 ∧ 0 ≤ b1 ∧ r.sum ≤ totP N (atP k a0 a1) r ∧ totP N (atP k a0 a1) r + 10 * (b0 + b1) ≤ 30 + 10 * (a0 + a1) := by
  rw [run_frame h hk]
  rcases h with rfl | ⟨a, b, rfl, c1, c2, c3, c4⟩
  · refine ⟨a1 + 1, 1, if_pos rfl, by omega, by omega, ?_, ?_⟩
    · simp only [totP, wth, atP, List.sum_cons, List.sum_nil]; omega
    · simp only [totP, wth, atP]; omega
  · have e0 : ¬ ([a, b] : List Int) = [10] := by simp
    have e1 : ¬ (10 - a = 0) := by omega
    have ex : nextP N (atP k a0 a1) a = ⟨k, 1, 10 - a, false, 2, a1, 0⟩ := by
      simp only [atP, nextP, if_neg (show ¬ k = N - 1 by omega), if_neg e1, Int.zero_add, if_neg (show ¬ (1 : Int) = 2 by omega)]
    have et : totP N (atP k a0 a1) [a, b] = a * (1 + a0) + b * (1 + a1) := by
      simp only [totP, ex, wth, Int.add_zero]
      rfl
    have m1 : a ≤ a * (1 + a0) := by
      have : a * 1 ≤ a * (1 + a0) := Int.mul_le_mul_of_nonneg_left (by omega) c1
      omega
    have m2 : b ≤ b * (1 + a1) := by
      have : b * 1 ≤ b * (1 + a1) := Int.mul_le_mul_of_nonneg_left (by omega) c3
      omega
    have m3 : a * a0 ≤ 10 * a0 := Int.mul_le_mul_of_nonneg_right (by omega) h0
    have m4 : b * a1 ≤ 10 * a1 := Int.mul_le_mul_of_nonneg_right (by omega) h1
    have m5 : a * (1 + a0) = a + a * a0 := by rw [Int.mul_add, Int.mul_one]
    have m6 : b * (1 + a1) = b + b * a1 := by rw [Int.mul_add, Int.mul_one]
    rw [if_neg e0, et]
    have es : ([a, b] : List Int).sum = a + b := by simp
    rw [es]
    by_cases e2 : a + b = 10
    · exact ⟨1, 0, if_pos e2, by omega, by omega, by omega, by omega⟩
    · exact ⟨0, 0, if_neg e2, by omega, by omega, by omega, by omega⟩
theorem tot_game {N : Int} : ∀ (gm : List (List Int)) (k a0 a1 : Int), (∀ r ∈ gm, FrR r) → k + gm.length ≤ N - 1 → 0 ≤ a0 → 0 ≤ a1 →
    ∃ b0 b1, runP N (atP k a0 a1) gm.flatten = atP (k + gm.length) b0 b1 ∧ 0 ≤ b0 ∧ 0 ≤ b1 ∧ gm.flatten.sum ≤ totP N (atP k a0 a1) gm.flatten ∧ totP N (atP k a0 a1) gm.flatten + 10 * (b0 + b1) ≤ 30 * gm.length + 10 * (a0 + a1)
  | [], k, a0, a1, _, _, h0, h1 => ⟨a0, a1, by simp [runP], h0, h1, by simp [totP], by simp [totP]⟩
  | r :: gm, k, a0, a1, h, hk, h0, h1 => by
    simp only [List.length_cons] at hk ⊢
    obtain ⟨b0, b1, e, p0, p1, s1, s2⟩ := tot_frame (h r (List.mem_cons_self ..)) (show k < N - 1 by omega) h0 h1
    obtain ⟨c0, c1, e2, q0, q1, t1, t2⟩ := tot_game (N := N) gm (k + 1) b0 b1 (fun x hx => h x (List.mem_cons_of_mem _ hx)) (by omega) p0 p1
    refine ⟨c0, c1, ?_, q0, q1, ?_, ?_⟩
    · rw [List.flatten_cons, runP_append, e, e2]
      unfold atP
      simp only [Pl.mk.injEq, and_true]
      omega
    · rw [List.flatten_cons, totP_append, e, List.sum_append]; omega
    · rw [List.flatten_cons, totP_append, e]; omega
/-- A game whose last frame is still to come: how it stands, and what its span is. -/
theorem game_span {gm : List (List Int)} (h : ∀ r ∈ gm, FrR r) : ∃ b0 b1, plS ((gm.length : Int) + 1) gm.flatten gm.flatten.length = atP gm.length b0 b1 ∧ 0 ≤ b0 ∧ 0 ≤ b1 ∧
    gm.flatten.sum ≤ totS ((gm.length : Int) + 1) gm.flatten gm.flatten.length ∧ totS ((gm.length : Int) + 1) gm.flatten gm.flatten.length + 30 + 10 * (b0 + b1) ≤ 30 * ((gm.length : Int) + 1) := by
  obtain ⟨b0, b1, e, p0, p1, s1, s2⟩ := tot_game (N := (gm.length : Int) + 1) gm 0 0 0 h (by omega) (by omega) (by omega)
  have eb : begP = atP 0 0 0 := rfl
  refine ⟨b0, b1, ?_, p0, p1, ?_, ?_⟩
  · rw [plS_all, eb, e, Int.zero_add]
  · rw [totS_totP _ (Nat.le_refl _), List.take_length, eb]; exact s1
  · rw [totS_totP _ (Nat.le_refl _), List.take_length, eb]; omega

/-! ### Which frame has which balls -/
def addR (f : Int) (R : List (List Int)) (b : Int) : List (List Int) := if f = (R.length : Int) then R ++ [[b]] else R.set f.toNat (rx R f.toNat ++ [b])
def rowsP (N : Int) : Pl → List (List Int) → List Int → List (List Int)
  | _, R, [] => R
  | p, R, b :: bs => rowsP N (nextP N p b) (addR p.fr R b) bs
theorem rowsP_append (N : Int) : ∀ (p : Pl) (R : List (List Int)) (xs ys : List Int), rowsP N p R (xs ++ ys) = rowsP N (runP N p xs) (rowsP N p R xs) ys
  | p, R, [], ys => by simp [rowsP, runP]
  | p, R, x :: xs, ys => by
    have := rowsP_append N (nextP N p x) (addR p.fr R x) xs ys
    simp only [List.cons_append, rowsP, this, runP, List.foldl_cons]
def rowsS (N : Int) (xs : List Int) (k : Nat) : List (List Int) := rowsP N begP [] (xs.take k)
theorem rowsS_zero (N : Int) (xs : List Int) : rowsS N xs 0 = [] := rfl
theorem rowsS_succ {N : Int} {xs : List Int} {k : Nat} (h : k < xs.length) : rowsS N xs (k + 1) = addR (plS N xs k).fr (rowsS N xs k) (ix xs k) := by
  unfold rowsS
  rw [ix_lt h, List.take_succ_eq_append_getElem h, rowsP_append]
  rfl
theorem addR_len {f : Int} {R : List (List Int)} {b : Int} : (addR f R b).length = if f = (R.length : Int) then R.length + 1 else R.length := by
  unfold addR
  split <;> simp
theorem rows_len {N : Int} {xs : List Int} (h : SheetOk N xs) : ∀ k, k ≤ xs.length → ((rowsS N xs k).length : Int) = (plS N xs k).fr ∨ ((rowsS N xs k).length : Int) = (plS N xs k).fr + 1
  | 0, _ => .inl (by simp [rowsS_zero, plS_zero, begP])
  | k + 1, hk => by
    have h1 := rows_len h k (by omega)
    rw [rowsS_succ (by omega), plS_succ (by omega), addR_len]
    rcases nextP_fr (N := N) (p := plS N xs k) (b := ix xs k) with e | e
    · rw [e]; split <;> omega
    · rw [e]; split <;> omega
theorem rows_game {N : Int} : ∀ (gm : List (List Int)) (k : Nat) (R : List (List Int)) (a0 a1 : Int), (∀ r ∈ gm, FrR r) → (k : Int) + gm.length ≤ N - 1 → R.length = k → rowsP N (atP k a0 a1) R gm.flatten = R ++ gm
  | [], k, R, a0, a1, _, _, _ => by simp [rowsP]
  | r :: gm, k, R, a0, a1, h, hk, hR => by
    simp only [List.length_cons] at hk
    obtain ⟨b0, b1, e⟩ := run_frame_at (a0 := a0) (a1 := a1) (h r (List.mem_cons_self ..)) (show (k : Int) < N - 1 by omega)
    have er : rowsP N (atP k a0 a1) R r = R ++ [r] := by
      rcases h r (List.mem_cons_self ..) with rfl | ⟨a, b, rfl, c1, c2, c3, c4⟩
      · simp only [rowsP, addR, atP, hR, if_true]
      · have e1 : ¬ (10 - a = 0) := by omega
        have ex : nextP N (atP k a0 a1) a = ⟨k, 1, 10 - a, false, 2, a1, 0⟩ := by
          simp only [atP, nextP, if_neg (show ¬ (k : Int) = N - 1 by omega), if_neg e1, Int.zero_add, if_neg (show ¬ (1 : Int) = 2 by omega)]
        simp only [rowsP, ex]
        simp only [addR, atP, hR, if_true, List.length_append, List.length_cons, List.length_nil, Int.toNat_natCast]
        rw [if_neg (by omega)]
        have e5 : rx (R ++ [[a]]) k = [a] := by rw [rx_lt (by simp; omega)]; simp [← hR]
        rw [e5, ← hR]
        simp
    rw [List.flatten_cons, rowsP_append, e, er]
    have := rows_game (N := N) gm (k + 1) (R ++ [r]) b0 b1 (fun x hx => h x (List.mem_cons_of_mem _ hx)) (by omega) (by simp [hR])
    rw [show ((k + 1 : Nat) : Int) = (k : Int) + 1 by omega] at this
    rw [this]
    simp
theorem rows_all {gm : List (List Int)} (h : ∀ r ∈ gm, FrR r) : rowsS ((gm.length : Int) + 1) gm.flatten gm.flatten.length = gm := by
  have := rows_game (N := (gm.length : Int) + 1) gm 0 [] 0 0 h (by omega) rfl
  unfold rowsS
  rw [List.take_length]
  exact this
theorem rx_no {R : List (List Int)} {f : Nat} (h : R.length ≤ f) : rx R f = [] := by simp [rx, h]
/-- A frame has no more balls than there are. -/
theorem row_le {N : Int} {xs : List Int} (h : SheetOk N xs) : ∀ k, k ≤ xs.length → ∀ f, (rx (rowsS N xs k) f).length ≤ k
  | 0, _, f => by simp [rowsS_zero, rx]
  | k + 1, hk, f => by
    have h1 := row_le h k (by omega)
    rw [rowsS_succ (by omega)]
    unfold addR
    split
    · by_cases hf : f < (rowsS N xs k).length
      · rw [rx_lt (by simp; omega), List.getElem_append_left hf, ← rx_lt hf]
        have := h1 f
        omega
      · by_cases hf2 : f = (rowsS N xs k).length
        · subst hf2
          rw [rx_lt (by simp)]
          simp
        · rw [rx_no (by simp; omega)]
          simp
    · by_cases hf : f < (rowsS N xs k).length
      · rw [rx_lt (by simpa using hf), List.getElem_set]
        split
        · have := h1 (plS N xs k).fr.toNat
          simp
          omega
        · rw [← rx_lt hf]
          have := h1 f
          omega
      · rw [rx_no (by simp; omega)]
        simp
end Go.Proofs.Ytenpiinkbfancaa
