/-
  What join does to the piece: plain facts; no program.
-/
import Derived.Test.YtpekajnjjhibjaaIt
namespace Go.Proofs.Ytpekajnjjhibjaa

/-- What join(p) makes of the piece u. -/
def JRes (s u p u' : Nat) : Prop :=
  u' < 2 ^ 10 ∧ Sub u u' ∧ Sub u' s ∧ u'.testBit p = true ∧ (∀ y, u'.testBit y = true → u.testBit y = true ∨ Conn s p y) ∧
    ∀ y z, u'.testBit y = true → ¬ u.testBit y = true → s.testBit z = true → nbB y z = true → u'.testBit z = true
/-- Within it, behind some neighbours. -/
def JInv (s u p : Nat) (pre : List (NbX p)) (v : Nat) : Prop :=
  v < 2 ^ 10 ∧ Sub u v ∧ Sub v s ∧ v.testBit p = true ∧ (∀ y, v.testBit y = true → u.testBit y = true ∨ Conn s p y) ∧
    (∀ y z, v.testBit y = true → ¬ u.testBit y = true → y ≠ p → s.testBit z = true → nbB y z = true → v.testBit z = true) ∧
    ∀ x ∈ pre, s.testBit x.1 = true → v.testBit x.1 = true
theorem JInv.start {s u p : Nat} (hu : u < 2 ^ 10) (hs : Sub u s) (hp : s.testBit p = true) (hp10 : p < 10) : JInv s u p [] (u ||| 2 ^ p) := by
  refine ⟨Nat.or_lt_two_pow hu (Nat.pow_lt_pow_right (by decide) hp10), fun y h => mem_or_pow.2 (.inl h), fun y h => ?_, mem_or_pow.2 (.inr rfl), fun y h => ?_, fun y z h h1 h2 => ?_, fun x h => by cases h⟩
  · rcases mem_or_pow.1 h with h | rfl
    · exact hs y h
    · exact hp
  · rcases mem_or_pow.1 h with h | rfl
    · exact .inl h
    · exact .inr .base
  · rcases mem_or_pow.1 h with h | rfl
    · exact absurd h h1
    · exact absurd rfl h2
theorem JInv.skip {s u p v : Nat} {pre : List (NbX p)} (h : JInv s u p pre v) (x : NbX p) (hx : s.testBit x.1 = true → v.testBit x.1 = true) : JInv s u p (pre ++ [x]) v := by
  obtain ⟨h1, h2, h3, h4, h5, h6, h7⟩ := h
  refine ⟨h1, h2, h3, h4, h5, h6, fun y hy hs => ?_⟩
  rcases List.mem_append.1 hy with hy | hy
  · exact h7 y hy hs
  · rw [List.mem_singleton.1 hy] at hs ⊢; exact hx hs
theorem JInv.take {s u p v v' : Nat} {pre : List (NbX p)} (h : JInv s u p pre v) (x : NbX p) (hx : s.testBit x.1 = true) (hr : JRes s v x.1 v') : JInv s u p (pre ++ [x]) v' := by
  obtain ⟨h1, h2, h3, h4, h5, h6, h7⟩ := h
  obtain ⟨r1, r2, r3, r4, r5, r6⟩ := hr
  refine ⟨r1, h2.trans r2, r3, r2 p h4, fun y hy => ?_, fun y z hy hu hne hz hn => ?_, fun y hy hs => ?_⟩
  · rcases r5 y hy with h | h
    · exact h5 y h
    · exact .inr ((Conn.step .base hx x.2.2).trans h)
  · by_cases hv : v.testBit y = true
    · exact r2 z (h6 y z hv hu hne hz hn)
    · exact r6 y z hy hv hz hn
  · rcases List.mem_append.1 hy with hy | hy
    · exact r2 _ (h7 y hy hs)
    · rw [List.mem_singleton.1 hy]; exact r4
theorem JInv.done {s u p v m : Nat} (h : JInv s u p (nbL p m) v) (hm : m ≤ 10) (hs : ∀ z, s.testBit z = true → z < m) : JRes s u p v := by
  obtain ⟨h1, h2, h3, h4, h5, h6, h7⟩ := h
  refine ⟨h1, h2, h3, h4, h5, fun y z hy hu hz hn => ?_⟩
  by_cases e : y = p
  · subst e
    have hzm := hs z hz
    obtain ⟨x, hx, hv⟩ := mem_nbL (p := y) (n := z) ⟨by omega, hn⟩ (m := m) hzm
    have := h7 x hx (by rw [hv]; exact hz)
    rwa [hv] at this
  · exact h6 y z hy hu e hz hn
theorem JInv.grows {s u p v : Nat} {pre : List (NbX p)} (h : JInv s u p pre v) (hu : u < 2 ^ 10) (hne : ¬ u.testBit p = true) : many u < many v :=
  many_lt hu h.1 h.2.1 fun e => hne (by rw [e]; exact h.2.2.2.1)
/-- The piece of the first pin is what hangs together with it; it is the whole leave just if all does. -/
theorem JRes.conn {s p v : Nat} (h : JRes s 0 p v) {y : Nat} : v.testBit y = true ↔ Conn s p y := by
  obtain ⟨h1, h2, h3, h4, h5, h6⟩ := h
  constructor
  · intro hy
    rcases h5 y hy with h | h
    · simp at h
    · exact h
  · exact conn_closed h4 fun x z hx hz hn => h6 x z hx (by simp) hz hn
theorem JRes.whole {s p v : Nat} (h : JRes s 0 p v) (hs : s < 2 ^ 10) : v = s ↔ ∀ y, s.testBit y = true → Conn s p y := by
  constructor
  · rintro rfl y hy; exact h.conn.1 hy
  · intro hc
    exact Sub.antisymm h.1 hs h.2.2.1 fun y hy => h.conn.2 (hc y hy)
end Go.Proofs.Ytpekajnjjhibjaa
