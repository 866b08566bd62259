/-
  The pins to which ways lead, one behind the other, as the reference finds them: plain facts; no program.
-/
import Derived.Test.YtpekajnjjhibjaaKindM
import Derived.Test.YtpekajnjjhibjaaComp
namespace Go.Proofs.Ytpekajnjjhibjaa
open Go.RowKit
set_option linter.unusedVariables false
set_option linter.unusedSimpArgs false

/-- The difference of the boards of two pins, in gaps. -/
def dP (a b : Nat) : Int := (2 * (atP a : Int) - (rowP a : Int)) - (2 * (atP b : Int) - (rowP b : Int))
def nbZ (a b : Nat) : Bool := if rowP a = rowP b then decide ((atP a : Int) - (atP b : Int) = 1) || decide ((atP b : Int) - (atP a : Int) = 1)
  else (decide ((rowP a : Int) - (rowP b : Int) = 1) || decide ((rowP b : Int) - (rowP a : Int) = 1)) && (decide (dP a b = 1) || decide (dP a b = -1))
theorem nbZ_is : ∀ a, a < 10 → ∀ b, b < 10 → nbZ a b = nbB a b := by decide
theorem far_is (r : Rk) (a b : Nat) : boardP r a - boardP r b = r.gap * dP a b := by
  unfold boardP dP
  rw [Int.mul_sub r.gap (2 * (atP a : Int) - (rowP a : Int))]
  omega
theorem far_gap {g d : Int} (hg : 1 ≤ g) : (g * d = g ↔ d = 1) ∧ (g * d = -g ↔ d = -1) := by
  constructor
  · constructor
    · intro h
      have : g * (d - 1) = 0 := by rw [Int.mul_sub]; omega
      rcases Int.mul_eq_zero.1 this with h | h <;> omega
    · rintro rfl; omega
  · constructor
    · intro h
      have : g * (d + 1) = 0 := by rw [Int.mul_add]; omega
      rcases Int.mul_eq_zero.1 this with h | h <;> omega
    · rintro rfl; omega
/-- Within the search: what has been found, all of the leave, all with a way from a, none twice. -/
structure RInv (s a : Nat) (ps : List Nat) : Prop where
  nodup : ps.Nodup
  mem : a ∈ ps
  inS : ∀ p ∈ ps, s.testBit p = true
  conn : ∀ p ∈ ps, Conn s a p
theorem RInv.start {s a : Nat} (h : s.testBit a = true) : RInv s a [a] :=
  ⟨by simp, by simp, fun p hp => by rw [List.mem_singleton.1 hp]; exact h, fun p hp => by rw [List.mem_singleton.1 hp]; exact .base⟩
theorem RInv.push {s a x y : Nat} {ps : List Nat} (h : RInv s a ps) (hx : x ∈ ps) (hy : s.testBit y = true) (hn : nbB x y = true) (hne : y ∉ ps) : RInv s a (ps ++ [y]) := by
  refine ⟨List.nodup_append.2 ⟨h.nodup, by simp, fun u hu v hv => ?_⟩, List.mem_append.2 (.inl h.mem), fun p hp => ?_, fun p hp => ?_⟩
  · rw [List.mem_singleton.1 hv]
    rintro rfl
    exact hne hu
  · rcases List.mem_append.1 hp with hp | hp
    · exact h.inS p hp
    · rw [List.mem_singleton.1 hp]; exact hy
  · rcases List.mem_append.1 hp with hp | hp
    · exact h.conn p hp
    · rw [List.mem_singleton.1 hp]; exact .step (h.conn x hx) hy hn
theorem RInv.set {s a : Nat} {ps : List Nat} (h : RInv s a ps) (hs : s < 2 ^ 10) : ps.length = many (ofS ps) ∧ ofS ps < 2 ^ 10 ∧ Sub (ofS ps) s := by
  have h10 : ∀ p ∈ ps, p < 10 := fun p hp => bit_lt hs (h.inS p hp)
  refine ⟨?_, ofS_lt h10, fun p hp => h.inS p (mem_ofS.1 hp)⟩
  unfold many
  have hnd : (listS (ofS ps)).Nodup := (rising_listS (ofS ps)).imp fun h => Nat.ne_of_lt h
  refine List.Perm.length_eq ((List.perm_ext_iff_of_nodup h.nodup hnd).2 fun p => ?_)
  rw [mem_listS, mem_ofS]
  exact ⟨fun hp => ⟨h10 p hp, hp⟩, fun hp => hp.2⟩
theorem RInv.len {s a : Nat} {ps : List Nat} (h : RInv s a ps) (hs : s < 2 ^ 10) : ps.length ≤ many s := by
  obtain ⟨h1, h2, h3⟩ := h.set hs
  rw [h1]
  exact many_mono h2 hs h3
/-- Nothing more can be found from the first i pins of the leave. -/
def Shut (s : Nat) (ps : List Nat) (i : Nat) : Prop := ∀ j (h : j < (listS s).length), j < i → ∀ x ∈ ps, nbB (listS s)[j] x = true → (listS s)[j] ∈ ps
theorem reach_all {s a : Nat} {ps : List Nat} (hs : s < 2 ^ 10) (h : RInv s a ps) (hc : Shut s ps (listS s).length) : ps.length = many s ↔ ∀ p, s.testBit p = true → Conn s a p := by
  have hall : ∀ p, s.testBit p = true → Conn s a p → p ∈ ps := by
    intro p hp hcn
    have hcl : (ofS ps).testBit p = true := by
      refine conn_closed (s := s) (mem_ofS.2 h.mem) (fun x y hx hy hn => ?_) hcn
      rw [mem_ofS] at hx ⊢
      have hy10 := bit_lt hs hy
      obtain ⟨j, hj, e⟩ := List.getElem_of_mem (mem_listS.2 ⟨hy10, hy⟩)
      have h1 := hc j hj hj x hx
      rw [e] at h1
      exact h1 (by rw [nbB_symm y hy10 x (bit_lt hs (h.inS x hx))]; exact hn)
    exact mem_ofS.1 hcl
  obtain ⟨h1, h2, h3⟩ := h.set hs
  constructor
  · intro e p hp
    by_cases hne : ofS ps = s
    · exact h.conn p (mem_ofS.1 (by rw [hne]; exact hp))
    · have := many_lt h2 hs h3 hne
      omega
  · intro hall2
    have : ofS ps = s := Sub.antisymm h2 hs h3 fun p hp => mem_ofS.2 (hall p hp (hall2 p hp))
    rw [h1, this]
end Go.Proofs.Ytpekajnjjhibjaa
