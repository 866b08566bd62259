/-
  TopLaid: contracts of path in the forms that its walk uses.
-/
import Derived.Test.YtenpiinkbfancaaTw2
import Derived.Test.YtenpiinkbfancaaPb5
import Derived.Test.YtenpiinkbfancaaRh
import Derived.Test.YtenpiinkbfancaaLx
namespace Go.Proofs.Ytenpiinkbfancaa.Pa
open Go.RowKit
set_option linter.unusedSimpArgs false
set_option linter.unusedVariables false

theorem c32 (l : Ln) (H P : Option Addr) (ch cp : Nat) (w : World) (hok : Ok l) (hH : Recs 2 w.heap.size w H l.hk) (hP : Recs 5 w.heap.size w P l.pt) (h2 : ∀ r ∈ l.hk, r.length = 2) (h5 : ∀ r ∈ l.pt, r.length = 5) :
    Calls Try.prog 32 #[.agg #[.int .i64 l.nb, .int .i64 l.nr, .slice H l.hk.length ch, .slice P l.pt.length cp]] w (LaneP l w) :=
  lane32_c l H P ch cp w hH hP (by have := hok.h4; omega) (by have := hok.p8; omega) h2 h5
def PickQ (l : Ln) (s : Int × Int) (ws : List Int) (w : World) (e : Ending) (w' : World) : Prop :=
  ∃ (kk : Nat) (At : Option Addr) (ct : Nat), e = .returned (.slice At kk ct) ∧ rolls l s ws kk ∧ (kk ≤ ct ∧ ct ≤ 9223372036854775807) ∧ Ints w'.heap.size w' At (turnsL l s ws kk) ∧ Below w.heap.size w w'
theorem c34 (l : Ln) (H P : Option Addr) (ch cp : Nat) (s : Int × Int) (A : Option Addr) (ws : List Int) (n c : Nat) (w : World) (hok : Ok l) (hH : Recs 2 w.heap.size w H l.hk) (hP : Recs 5 w.heap.size w P l.pt) (hs : startB l s = true) (hw : W16 w.heap.size w A ws) (hc : ws.length ≤ c ∧ c ≤ 9223372036854775807) (hn : ws.length = n) :
    Calls Try.prog 34 #[.agg #[.int .i64 l.nb, .int .i64 l.nr, .slice H l.hk.length ch, .slice P l.pt.length cp], .agg #[.int .i64 s.1, .int .i64 s.2], .slice A n c] w (PickQ l s ws w) := by
  subst hn
  have hd : -5 ≤ s.2 ∧ s.2 ≤ 5 := by
    unfold startB at hs
    simp only [Bool.and_eq_true] at hs
    exact (inB_eq _ _ _).1 hs.2
  refine (picked34_c l H P ch cp s A ws c w hok hH hP hd hw hc).mono ?_
  rintro e w' ⟨k, hr, At, ct, rfl, ho, hb⟩
  obtain ⟨A', c', e1, h1, h2, h3⟩ := Ol.ownsRow_isInts ho
  injection e1 with e1 e2 e3
  subst e1 e3
  rw [turnsL_len] at h1
  exact ⟨k, At, ct, rfl, hr, ⟨h1, h2⟩, h3, hb⟩
theorem c31 (l : Ln) (H P : Option Addr) (ch cp : Nat) (s : Int × Int) (ws : List Int) (k : Nat) (A : Option Addr) (c : Nat) (w : World) (hok : Ok l) (hH : Recs 2 w.heap.size w H l.hk) (hP : Recs 5 w.heap.size w P l.pt) (hs : startB l s = true) (hw : ∀ j, 0 ≤ ix ws j ∧ ix ws j ≤ 65535) (hr : rolls l s ws k) (hT : Ints w.heap.size w A (turnsL l s ws k)) (hc : k ≤ c ∧ c ≤ 9223372036854775807) :
    Calls Try.prog 31 #[LV l H P ch cp, .agg #[.int .i64 s.1, .int .i64 s.2], .slice A k c] w (PlayP l s ws k w) := play31_c l H P ch cp s ws k A c w hok hH hP hs (fun j => (hw j).1) hr hT hc
theorem rx_snoc_lt {bss : List (List Int)} {b : List Int} {j : Nat} (h : j < bss.length) : rx (bss ++ [b]) j = rx bss j := by
  rw [rx_lt (by rw [List.length_append]; omega), rx_lt h, List.getElem_append_left h]
theorem rx_snoc_eq (bss : List (List Int)) (b : List Int) : rx (bss ++ [b]) bss.length = b := by
  rw [rx_lt (by rw [List.length_append]; simp), List.getElem_append_right (Nat.le_refl _)]
  simp
theorem Recs.step2 {k : Nat} {w w' : World} {A : Option Addr} {rs : List (List Int)} (h : Recs k w.heap.size w A rs) (hb : Below w.heap.size w w') : Recs k w'.heap.size w' A rs := h.step hb
theorem over_none {us : List St} {r : Nat} {l : Ln} {s : Int × Int} {b : Nat} (hc : ∀ v, Can l s r v → ∃ x ∈ us, x.1 = v) (hno : ∀ x ∈ us, x.1.1 - 1 ≠ (b : Int)) : ∀ v, Can l s r v → v.1 - 1 ≠ (b : Int) := fun v hv => by
  obtain ⟨x, hx, rfl⟩ := hc v hv
  exact hno x hx
/-- Is one of the first j states over a board? -/
def overB' (us : List St) (b : Nat) (j : Nat) : Bool := (us.take j).any fun x => x.1.1 - 1 == (b : Int)
theorem overB_zero (us : List St) (b : Nat) : overB' us b 0 = false := by simp [overB']
theorem overB_succ (us : List St) (b : Nat) {j : Nat} (h : j < us.length) : overB' us b (j + 1) = (overB' us b j || us[j].1.1 - 1 == (b : Int)) := by
  unfold overB'
  rw [List.take_succ_eq_append_getElem h, List.any_append]
  simp
theorem overB_all {us : List St} {b : Nat} (h : overB' us b us.length = false) : ∀ x ∈ us, x.1.1 - 1 ≠ (b : Int) := fun x hx e => by
  unfold overB' at h
  rw [List.take_length] at h
  rw [List.any_eq_false] at h
  exact h x hx (by simp [e])
end Go.Proofs.Ytenpiinkbfancaa.Pa
