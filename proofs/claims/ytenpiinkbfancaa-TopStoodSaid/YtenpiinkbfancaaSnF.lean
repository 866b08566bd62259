/-
  seen: games that words are told of; ranges; proofs of games (carried over from the proofs of the chapter 03): further ones.
-/
import Derived.Test.YtenpiinkbfancaaSnE
import Derived.WalkKit
import Derived.WalkSpells
import Derived.Deep.Draws
import Derived.Lib.Hide
import Derived.WalkLawsBesides
import Derived.Deep.QuietTactic
import Derived.BigQuiet
import Derived.RangeFuncNested
import Derived.RangeFuncBound
import Derived.RangeFuncCalls
import Derived.RangeFuncLeaves
import Derived.Laws.EntriesVeiled
import Derived.Shelf.Abstract
import Derived.OwnWalkIn
import Derived.TacticsInMore
import Derived.LoopNIn
import Derived.LoopIn
import Derived.StillTailTactics
import Derived.Deep.RegionWith
import Derived.Maps.AppendAt
import Derived.Deep.OwnRows
import Derived.Deep.DeepCutAuto
import Derived.Deep.RegionHeld3
import Derived.Laws.CopyOwn
namespace Go.Proofs.Ytenpiinkbfancaa.Sn
open Go.RowKit
set_option linter.unusedSimpArgs false
set_option linter.unusedVariables false

section
open Go.RowKit
theorem Rws.grd {base : Nat} {w : World} {v : Value} {vs : List Value} {yss : List (List Int)} (h : Rws base w v yss.length vs (rx yss)) : IsGrd w.heap.size w v yss := by
  obtain ⟨h1, h2, _⟩ := h
  rcases h1.2 with ⟨rfl, h0⟩ | ⟨g, cap, cur, rfl, hb, hg, hn, hm, hs, ht⟩
  · have : yss = [] := List.eq_nil_of_length_eq_zero h0
    subst this
    exact ⟨none, 0, rfl, by simp, by simp, fun hp => by simp at hp⟩
  · refine ⟨_, cap, rfl, hn, by unfold maxLen at hm; omega, fun hp => ⟨g, 0, rfl, (Array.getElem?_eq_some_iff.1 hg).1, fun k hk => ?_⟩⟩
    obtain ⟨u, a, b, c⟩ := h2 k hk
    refine ⟨u, ?_, ownsRow_isInts b⟩
    have := h1.cells (g := g) rfl k u a
    rwa [add_eq] at this
theorem isInts_parts {B : Nat} {w : World} {A : Option Addr} {n c : Nat} {xs : List Int} (h : IsInts B w (.slice A n c) xs) : xs.length ≤ c ∧ c ≤ 9223372036854775807 ∧ Ints B w A xs := by
  obtain ⟨A', c', e, h1, h2, h3⟩ := h
  injection e with e1 e2 e3
  subst e1 e3
  exact ⟨h1, h2, h3⟩
end

section
open Go.RowKit
theorem flatW_at : ∀ (ws : List Wd) (k : Nat), k < ws.length → (flatW ws)[k * 5]? = some (.int .i64 (wx ws k).fr) ∧ (flatW ws)[k * 5 + 1]? = some (.int .i64 (wx ws k).ba) ∧ (flatW ws)[k * 5 + 2]? = some (.int .i64 (wx ws k).te) ∧ (flatW ws)[k * 5 + 3]? = some (.int .i64 (wx ws k).lo) ∧ (flatW ws)[k * 5 + 4]? = some (.int .i64 (wx ws k).hi)
  | x :: xs, 0, _ => by simp [flatW, cellsW, wx]
  | x :: xs, k + 1, h => by
    have := flatW_at xs k (by simpa using h)
    simp only [flatW, cellsW, List.flatMap_cons, wx, List.getD_cons_succ] at *
    rw [show (k + 1) * 5 = k * 5 + 5 by omega]
    simpa using this
theorem OwnW.wds {e : TypeId} {base : Nat} {w : World} {A : Option Addr} {n c : Nat} {ws : List Wd} (h : OwnW e base w (.slice A n c) ws) : ws.length ≤ c ∧ c ≤ 9223372036854775807 ∧ Wds w.heap.size w A ws := by
  rcases h.2 with ⟨e, h0⟩ | ⟨g, cap, cur, e, hb, hg, hn, hm, hs, ht⟩
  · injection e with e1 e2 e3
    subst e1 e3
    exact ⟨by omega, by omega, fun hp => by omega⟩
  · injection e with e1 e2 e3
    subst e1 e3
    refine ⟨hn, by unfold maxLen at hm; omega, fun hp => ⟨g, 0, rfl, (Array.getElem?_eq_some_iff.1 hg).1, fun k hk => ?_⟩⟩
    obtain ⟨a1, a2, a3, a4, a5⟩ := flatW_at ws k hk
    have b1 := h.cells (g := g) rfl _ _ a1
    have b2 := h.cells (g := g) rfl _ _ a2
    have b3 := h.cells (g := g) rfl _ _ a3
    have b4 := h.cells (g := g) rfl _ _ a4
    have b5 := h.cells (g := g) rfl _ _ a5
    rw [add_eq] at b1 b2 b3 b4 b5
    exact ⟨b1, by rw [Nat.add_assoc]; exact b2, by rw [Nat.add_assoc]; exact b3, by rw [Nat.add_assoc]; exact b4, by rw [Nat.add_assoc]; exact b5⟩
end

section
open Go.RowKit
theorem grd_of {B : Nat} {w : World} {A : Option Addr} {n c : Nat} {rs : List (List Int)} (h : IsGrd B w (.slice A n c) rs) : rs.length ≤ c ∧ c ≤ 9223372036854775807 ∧ Grd B w A rs := by
  obtain ⟨A', c', e, h1, h2, h3⟩ := h
  injection e with e1 e2 e3
  subst e1 e3
  exact ⟨h1, h2, h3⟩
end

section
open Go.RowKit
theorem ask_zero {m : Nat} {ws : List Wd} {ts : List Int} (h : laneErr (m : Int) ws = 0) (hr : riseB ts = true) : askErr (m : Int) ws ts = 0 := by simp [askErr, h, hr]
theorem ex_zero {m : Nat} {ws : List Wd} {ts : List Int} (h : laneErr (m : Int) ws = 0) (hr : riseB ts = true) (hx : explB (m : Int) ws (offT ts) = true) : exErr (m : Int) ws ts = 0 := by simp [exErr, ask_zero h hr, hx]
end

section
open Go.RowKit
theorem true_vals {ns : List Int} {m : Nat} : ∀ f, f < (trueG ns m).length → ∀ j, j < (rx (trueG ns m) f).length → 0 ≤ ix (rx (trueG ns m) f) j ∧ ix (rx (trueG ns m) f) j ≤ 10 := fun f hf j hj => by
  rw [trueG_len] at hf
  rw [rx_trueG hf] at hj ⊢
  rcases trueR_row ns f with e | ⟨a, b, e, h1, h2, h3, h4⟩
  · rw [e] at hj ⊢
    obtain rfl : j = 0 := by simpa using hj
    simp [ix]
  · rw [e] at hj ⊢
    rcases (by simp at hj; omega : j = 0 ∨ j = 1) with rfl | rfl
    · simp [ix]; omega
    · simp [ix]; omega
end

end Go.Proofs.Ytenpiinkbfancaa.Sn
