/-
  What a value reads as: lists of integers, lists of such lists; kept while the blocks below a bound are kept. Plain facts on worlds; no program.
-/
import Derived.WalkKit
import Derived.WalkSpells
import Derived.Deep.Draws
import Derived.Lib.Hide
namespace Go.Proofs.Ytenpiinkbfancaa
open Go.RowKit

/-- Element k of a list of integers (0 beyond its end); of a list of lists ([] beyond its end). Plain definitions: the walk does not look into them. -/
def ix (xs : List Int) (k : Nat) : Int := xs.getD k 0
def rx (xss : List (List Int)) (k : Nat) : List Int := xss.getD k []

theorem ix_lt {xs : List Int} {k : Nat} (h : k < xs.length) : ix xs k = xs[k] := by simp [ix, h]
theorem rx_lt {xss : List (List Int)} {k : Nat} (h : k < xss.length) : rx xss k = xss[k] := by simp [rx, h]

/-- The slice address A has, from block number below B, the integers xs in world w. -/
def Ints (B : Nat) (w : World) (A : Option Addr) (xs : List Int) : Prop :=
  0 < xs.length → ∃ b off, A = some ⟨b, off, none⟩ ∧ b < B ∧ ∀ k, k < xs.length → w.cell? ⟨b, off + k, none⟩ = some (.int .i64 (ix xs k))

/-- A value that is a slice that reads as xs. -/
def IsInts (B : Nat) (w : World) (v : Value) (xs : List Int) : Prop :=
  ∃ A c, v = .slice A xs.length c ∧ xs.length ≤ c ∧ c ≤ 9223372036854775807 ∧ Ints B w A xs

def Grd (B : Nat) (w : World) (A : Option Addr) (xss : List (List Int)) : Prop :=
  0 < xss.length → ∃ b off, A = some ⟨b, off, none⟩ ∧ b < B ∧ ∀ k, k < xss.length → ∃ v, w.cell? ⟨b, off + k, none⟩ = some v ∧ IsInts B w v (rx xss k)

def IsGrd (B : Nat) (w : World) (v : Value) (xss : List (List Int)) : Prop :=
  ∃ A c, v = .slice A xss.length c ∧ xss.length ≤ c ∧ c ≤ 9223372036854775807 ∧ Grd B w A xss

section
variable {B B' : Nat} {w w' : World} {A : Option Addr} {v : Value} {xs : List Int} {xss : List (List Int)}

theorem Ints.at_ (h : Ints B w A xs) {k : Nat} (hk : k < xs.length) : ∃ b off, A = some ⟨b, off, none⟩ ∧ b < B ∧ w.cell? ⟨b, off + k, none⟩ = some (.int .i64 (ix xs k)) := by
  obtain ⟨b, off, hA, hb, hc⟩ := h (by omega)
  exact ⟨b, off, hA, hb, hc k hk⟩

theorem Grd.at_ (h : Grd B w A xss) {k : Nat} (hk : k < xss.length) : ∃ b off A' c', A = some ⟨b, off, none⟩ ∧ b < B ∧ w.cell? ⟨b, off + k, none⟩ = some (.slice A' (rx xss k).length c') ∧ (rx xss k).length ≤ c' ∧ c' ≤ 9223372036854775807 ∧ Ints B w A' (rx xss k) := by
  obtain ⟨b, off, hA, hb, hc⟩ := h (by omega)
  obtain ⟨v, hv, A', c', rfl, h1, h2, h3⟩ := hc k hk
  exact ⟨b, off, A', c', hA, hb, hv, h1, h2, h3⟩

theorem Ints.below (h : Ints B w A xs) (hb : Below B w w') : Ints B w' A xs := fun hp => by
  obtain ⟨b, off, hA, hlt, hc⟩ := h hp
  exact ⟨b, off, hA, hlt, fun k hk => (hb.cell (p := ⟨b, off + k, none⟩) hlt).trans (hc k hk)⟩
theorem IsInts.below (h : IsInts B w v xs) (hb : Below B w w') : IsInts B w' v xs := by
  obtain ⟨A, c, hv, h1, h2, h3⟩ := h
  exact ⟨A, c, hv, h1, h2, h3.below hb⟩
theorem Grd.below (h : Grd B w A xss) (hb : Below B w w') : Grd B w' A xss := fun hp => by
  obtain ⟨b, off, hA, hlt, hc⟩ := h hp
  refine ⟨b, off, hA, hlt, fun k hk => ?_⟩
  obtain ⟨v, hv, hi⟩ := hc k hk
  exact ⟨v, (hb.cell (p := ⟨b, off + k, none⟩) hlt).trans hv, hi.below hb⟩
theorem IsGrd.below (h : IsGrd B w v xss) (hb : Below B w w') : IsGrd B w' v xss := by
  obtain ⟨A, c, hv, h1, h2, h3⟩ := h
  exact ⟨A, c, hv, h1, h2, h3.below hb⟩

theorem Ints.more (h : Ints B w A xs) (hB : B ≤ B') : Ints B' w A xs := fun hp => by
  obtain ⟨b, off, hA, hlt, hc⟩ := h hp
  exact ⟨b, off, hA, by omega, hc⟩
theorem IsInts.more (h : IsInts B w v xs) (hB : B ≤ B') : IsInts B' w v xs := by
  obtain ⟨A, c, hv, h1, h2, h3⟩ := h
  exact ⟨A, c, hv, h1, h2, h3.more hB⟩
theorem Grd.more (h : Grd B w A xss) (hB : B ≤ B') : Grd B' w A xss := fun hp => by
  obtain ⟨b, off, hA, hlt, hc⟩ := h hp
  refine ⟨b, off, hA, by omega, fun k hk => ?_⟩
  obtain ⟨v, hv, hi⟩ := hc k hk
  exact ⟨v, hv, hi.more hB⟩
theorem IsGrd.more (h : IsGrd B w v xss) (hB : B ≤ B') : IsGrd B' w v xss := by
  obtain ⟨A, c, hv, h1, h2, h3⟩ := h
  exact ⟨A, c, hv, h1, h2, h3.more hB⟩

theorem Ints.alloc (h : Ints B w A xs) (hB : B ≤ w.heap.size) (o : Obj) : Ints B (w.alloc o) A xs := h.below ((Below.refl _ _).alloc hB o)
theorem IsInts.alloc (h : IsInts B w v xs) (hB : B ≤ w.heap.size) (o : Obj) : IsInts B (w.alloc o) v xs := h.below ((Below.refl _ _).alloc hB o)
theorem Grd.alloc (h : Grd B w A xss) (hB : B ≤ w.heap.size) (o : Obj) : Grd B (w.alloc o) A xss := h.below ((Below.refl _ _).alloc hB o)
theorem IsGrd.alloc (h : IsGrd B w v xss) (hB : B ≤ w.heap.size) (o : Obj) : IsGrd B (w.alloc o) v xss := h.below ((Below.refl _ _).alloc hB o)
end

theorem below_drewN {B : Nat} {a w : World} (h : Below B a w) (n : Nat) : Below B a (w.drewN n) := ⟨h.os, h.tape, h.output, h.size, h.block⟩

/-- All old cells and marks read as before: rules for the walk. -/
theorem bcell {W w1 : World} (hb : Below W.heap.size W w1) : (∀ b o, b < W.heap.size → w1.cell? ⟨b, o, none⟩ = W.cell? ⟨b, o, none⟩) ∧ (∀ b o, b < W.heap.size → w1.frozen? ⟨b, o, none⟩ = W.frozen? ⟨b, o, none⟩) :=
  ⟨fun b o h => hb.cell (p := ⟨b, o, none⟩) h, fun b o h => hb.frozen (p := ⟨b, o, none⟩) h⟩

/-- The post of a function that answers v and leaves all that was there. -/
def Ans (w : World) (v : Value) (e : Ending) (w' : World) : Prop := e = .returned v ∧ Below w.heap.size w w'
theorem Ans.same {w : World} {v : Value} : Ans w v (.returned v) w := ⟨rfl, Below.refl _ _⟩

end Go.Proofs.Ytenpiinkbfancaa
