/-
  What surely falls is what falls in each truth; what may fall falls in some: plain facts; no program.
-/
import Derived.Test.YtpekajnjjhibjaaSets
namespace Go.Proofs.Ytpekajnjjhibjaa

/-- A range of boards. -/
structure Rg where
  lo : Int
  hi : Int
def gx (l : List Rg) (k : Nat) : Rg := l.getD k ⟨0, 0⟩
theorem gx_lt {l : List Rg} {k : Nat} (h : k < l.length) : gx l k = l[k] := by simp [gx, h]
/-- Boards within ranges; links that can carry so. -/
def Within (ball : List Rg) (b : Nat → Int) : Prop := ∀ k, k < ball.length → (gx ball k).lo ≤ b k ∧ b k ≤ (gx ball k).hi
def Carry (ls : List Lk) (c : Nat → Bool) : Prop := ∀ i, i < ls.length → (lx ls i).s = true → c i = true
def surely (ls : List Lk) (i : Nat) : Bool := (lx ls i).s
/-- What a truth leaves. -/
noncomputable def leftS (r : Rk) (pins : Nat) (b : Nat → Int) (c : Nat → Bool) : Nat := bitsP (fun p => pins.testBit p = true ∧ (felledS r pins b c).testBit p = false) 10
def LeaveP (r : Rk) (pins : Nat) (ball : List Rg) (u : Nat) : Prop := ∃ b c, Within ball b ∧ Carry r.links c ∧ u = leftS r pins b c
noncomputable def sureS (r : Rk) (pins : Nat) (ball : List Rg) : Nat :=
  bitsP (fun p => ∃ row, row < ball.length ∧ ∀ n, (gx ball row).lo ≤ n → n ≤ (gx ball row).hi → Fall r.links (surely r.links) pins (touchS r pins row n) p) 10
noncomputable def mayS (r : Rk) (pins : Nat) (ball : List Rg) : Nat :=
  bitsP (fun p => ∃ row n, row < ball.length ∧ (gx ball row).lo ≤ n ∧ n ≤ (gx ball row).hi ∧ Fall r.links (fun _ => true) pins (touchS r pins row n) p) 10
def Ranges (ball : List Rg) : Prop := ∀ k, k < ball.length → (gx ball k).lo ≤ (gx ball k).hi

section
variable {r : Rk} {pins : Nat} {ball : List Rg}
theorem fall_touched {ls : List Lk} {b : Nat → Int} {c : Nat → Bool} {n p : Nat} : Fall ls c pins (touchedS r pins b n) p ↔ ∃ row, row < n ∧ Fall ls c pins (touchS r pins row (b row)) p := by
  constructor
  · induction n with
    | zero => intro h; exact absurd h Fall.zero
    | succ n ih =>
      intro h
      rw [touchedS] at h
      rcases h.or with h | h
      · obtain ⟨row, h1, h2⟩ := ih h
        exact ⟨row, by omega, h2⟩
      · exact ⟨n, by omega, h⟩
  · rintro ⟨row, h1, h2⟩
    exact h2.mono (fun _ _ h => h) (fun p hp => mem_touchedS.2 ⟨row, h1, hp⟩) Sub.rfl
theorem lt16 {a : Nat} (h : a < 2 ^ 10) : a < 2 ^ 16 := by omega
theorem mem_felledS {b : Nat → Int} {c : Nat → Bool} {p : Nat} (hp : pins < 2 ^ 10) : (felledS r pins b c).testBit p = true ↔ ∃ row, row < r.rows.toNat ∧ Fall r.links c pins (touchS r pins row (b row)) p := by
  rw [felledS, mem_fallS (lt16 (touchedS_lt ..)) (lt16 hp), fall_touched]
theorem felledS_lt {b : Nat → Int} {c : Nat → Bool} (hp : pins < 2 ^ 10) : felledS r pins b c < 2 ^ 10 := fallS_lt (touchedS_lt ..) hp
theorem felledS_sub {b : Nat → Int} {c : Nat → Bool} (hp : pins < 2 ^ 10) : Sub (felledS r pins b c) pins := fun p h => by
  rw [felledS, mem_fallS (lt16 (touchedS_lt ..)) (lt16 hp)] at h
  exact h.in (touchedS_sub _ _ _ _)
theorem leftS_lt {b : Nat → Int} {c : Nat → Bool} : leftS r pins b c < 2 ^ 10 := bitsP_lt _ _
theorem mem_leftS {b : Nat → Int} {c : Nat → Bool} {p : Nat} (hp : pins < 2 ^ 10) : (leftS r pins b c).testBit p = true ↔ pins.testBit p = true ∧ ¬ (felledS r pins b c).testBit p = true := by
  rw [leftS, mem_bitsP]
  constructor
  · rintro ⟨_, h, h'⟩; exact ⟨h, by simp [h']⟩
  · rintro ⟨h, h'⟩; exact ⟨bit_lt hp h, h, by simpa using h'⟩
theorem surely_carry (ls : List Lk) : Carry ls (surely ls) := fun _ _ h => h
theorem sure_iff (hp : pins < 2 ^ 10) (hl : ball.length = r.rows.toNat) (hr : Ranges ball) {p : Nat} : (sureS r pins ball).testBit p = true ↔ ∀ b c, Within ball b → Carry r.links c → (felledS r pins b c).testBit p = true := by
  rw [sureS, mem_bitsP]
  constructor
  · rintro ⟨_, row, h1, h2⟩ b c hb hc
    exact (mem_felledS hp).2 ⟨row, hl ▸ h1, (h2 _ (hb row h1).1 (hb row h1).2).mono (fun i hi hs => hc i hi hs) Sub.rfl Sub.rfl⟩
  · intro h
    have h0 := h (fun k => (gx ball k).lo) (surely r.links) (fun k hk => ⟨Int.le_refl _, hr k hk⟩) (surely_carry _)
    refine ⟨bit_lt (felledS_lt hp) h0, ?_⟩
    refine Classical.byContradiction fun hn => ?_
    have hne : ∀ row, ∃ n, row < ball.length → ((gx ball row).lo ≤ n ∧ n ≤ (gx ball row).hi ∧ ¬ Fall r.links (surely r.links) pins (touchS r pins row n) p) := fun row => by
      by_cases hrow : row < ball.length
      · refine Classical.byContradiction fun hx => hn ⟨row, hrow, fun n h1 h2 => Classical.byContradiction fun h3 => hx ⟨n, fun _ => ⟨h1, h2, h3⟩⟩⟩
      · exact ⟨0, fun h => absurd h hrow⟩
    obtain ⟨b, hb⟩ := Classical.axiomOfChoice hne
    obtain ⟨row, h1, h2⟩ := (mem_felledS hp).1 (h b (surely r.links) (fun k hk => ⟨(hb k hk).1, (hb k hk).2.1⟩) (surely_carry _))
    exact (hb row (by omega)).2.2 h2
theorem may_iff (hp : pins < 2 ^ 10) (hl : ball.length = r.rows.toNat) (hr : Ranges ball) {p : Nat} : (mayS r pins ball).testBit p = true ↔ ∃ b c, Within ball b ∧ Carry r.links c ∧ (felledS r pins b c).testBit p = true := by
  rw [mayS, mem_bitsP]
  constructor
  · rintro ⟨_, row, n, h1, h2, h3, h4⟩
    refine ⟨fun k => if k = row then n else (gx ball k).lo, fun _ => true, fun k hk => ?_, fun _ _ _ => rfl, (mem_felledS hp).2 ⟨row, hl ▸ h1, by simpa using h4⟩⟩
    by_cases e : k = row
    · subst e; simp [h2, h3]
    · simp [e, hr k hk]
  · rintro ⟨b, c, hb, hc, h⟩
    refine ⟨bit_lt (felledS_lt hp) h, ?_⟩
    obtain ⟨row, h1, h2⟩ := (mem_felledS hp).1 h
    exact ⟨row, b row, by omega, (hb row (by omega)).1, (hb row (by omega)).2, h2.mono (fun _ _ _ => rfl) Sub.rfl Sub.rfl⟩
theorem sureS_lt : sureS r pins ball < 2 ^ 10 := bitsP_lt _ _
theorem mayS_lt : mayS r pins ball < 2 ^ 10 := bitsP_lt _ _
end
/-- What surely falls, by leaves. -/
theorem sure_leaves {r : Rk} {pins : Nat} {ball : List Rg} (hp : pins < 2 ^ 10) (hl : ball.length = r.rows.toNat) (hr : Ranges ball) {p : Nat} : (sureS r pins ball).testBit p = true ↔ pins.testBit p = true ∧ ∀ u, LeaveP r pins ball u → ¬ u.testBit p = true := by
  rw [sure_iff hp hl hr]
  constructor
  · intro h
    refine ⟨felledS_sub hp p (h (fun k => (gx ball k).lo) (surely r.links) (fun k hk => ⟨Int.le_refl _, hr k hk⟩) (surely_carry _)), ?_⟩
    rintro u ⟨b, c, hb, hc, rfl⟩ hu
    exact ((mem_leftS hp).1 hu).2 (h b c hb hc)
  · rintro ⟨h, h'⟩ b c hb hc
    refine Classical.byContradiction fun hn => h' _ ⟨b, c, hb, hc, rfl⟩ ((mem_leftS hp).2 ⟨h, hn⟩)
theorem may_leaves {r : Rk} {pins : Nat} {ball : List Rg} (hp : pins < 2 ^ 10) (hl : ball.length = r.rows.toNat) (hr : Ranges ball) {p : Nat} : (mayS r pins ball).testBit p = true ↔ pins.testBit p = true ∧ ∃ u, LeaveP r pins ball u ∧ ¬ u.testBit p = true := by
  rw [may_iff hp hl hr]
  constructor
  · rintro ⟨b, c, hb, hc, h⟩
    exact ⟨felledS_sub hp p h, _, ⟨b, c, hb, hc, rfl⟩, fun hu => ((mem_leftS hp).1 hu).2 h⟩
  · rintro ⟨h, _, ⟨b, c, hb, hc, rfl⟩, hu⟩
    exact ⟨b, c, hb, hc, Classical.byContradiction fun hn => hu ((mem_leftS hp).2 ⟨h, hn⟩)⟩
end Go.Proofs.Ytpekajnjjhibjaa
