/-
  The state in which points are passed on.
-/
import Derived.Test.YtjokbffdepcpkaaPE
import Derived.WalkMore
namespace Go.Proofs.Ytjokbffdepcpkaa
open Go.RowKit
set_option linter.unusedSimpArgs false
set_option linter.unusedVariables false

attribute [local go_sem] Oper.semAt_some
namespace Rc
variable {R : Rc} {rec : Nat → Fl → Bool × Fl} {i t n : Nat} {s s' : Fl}
theorem loop_skip (hi : i < n) (h : R.skp s i t) : R.loopF rec (n - i) i t s = R.loopF rec (n - (i + 1)) (i + 1) t s := by
  rw [show n - i = (n - (i + 1)) + 1 by omega, loopF, if_pos h]
theorem loop_go (hi : i < n) (h : ¬ R.skp s i t) (hv : s.hv (R.oth i t) < R.rc) : R.loopF rec (n - i) i t s = (true, R.move s i t) := by
  rw [show n - i = (n - (i + 1)) + 1 by omega, loopF, if_neg h, if_pos hv]
theorem loop_true (hi : i < n) (h : ¬ R.skp s i t) (hv : ¬ s.hv (R.oth i t) < R.rc) (hr : rec (R.oth i t) s = (true, s')) : R.loopF rec (n - i) i t s = (true, R.move s' i t) := by
  rw [show n - i = (n - (i + 1)) + 1 by omega, loopF, if_neg h, if_neg hv, hr]
theorem loop_false (hi : i < n) (h : ¬ R.skp s i t) (hv : ¬ s.hv (R.oth i t) < R.rc) (hr : rec (R.oth i t) s = (false, s')) : R.loopF rec (n - i) i t s = R.loopF rec (n - (i + 1)) (i + 1) t s' := by
  rw [show n - i = (n - (i + 1)) + 1 by omega, loopF, if_neg h, if_neg hv, hr]
end Rc
/-- A race that is being settled; W: the world in which what is given was made; B: a base of all that turns. -/
structure KR where
  B : Nat
  W : World
  q : Nat
  tm : Nat
  rc : Int
  f : Nat → Int
  OA : Option Addr
  oc : Nat
  gs : List Gm
  gq : Nat
  gc : Nat
  hq : Nat
def KR.R (k : KR) : Rc := ⟨6, k.gs.length, fun i => (gmx k.gs i).a.toNat, fun i => (gmx k.gs i).b.toNat, k.tm, k.rc⟩
structure KR.Ok (k : KR) : Prop where
  race : RaceAt k.W k.q (k.tm : Int) k.rc k.f (.slice k.OA k.gs.length k.oc) (.slice (some ⟨k.gq, 0, none⟩) k.gs.length k.gc)
  gms : Gms k.B k.W k.OA k.gs
  qB : k.q < k.B
  gB : k.B ≤ k.gq
  hB : k.B ≤ k.hq
  gh : k.gq ≠ k.hq
  g6 : ∀ i, i < k.gs.length → 0 ≤ (gmx k.gs i).a ∧ (gmx k.gs i).a < 6 ∧ 0 ≤ (gmx k.gs i).b ∧ (gmx k.gs i).b < 6 ∧ (gmx k.gs i).a ≠ (gmx k.gs i).b
  tm6 : k.tm < 6
  rcr : 0 ≤ k.rc ∧ k.rc ≤ 60040
  n20 : k.gs.length ≤ 20
  oc : k.gs.length ≤ k.oc ∧ k.oc ≤ 9223372036854775807
  gc : k.gs.length ≤ k.gc ∧ k.gc ≤ 9223372036854775807
theorem KR.ok (k : KR) (h : k.Ok) : k.R.Ok := fun i hi => by
  obtain ⟨h1, h2, h3, h4, h5⟩ := h.g6 i hi
  show (gmx k.gs i).a.toNat < 6 ∧ (gmx k.gs i).b.toNat < 6 ∧ (gmx k.gs i).a.toNat ≠ (gmx k.gs i).b.toNat
  omega
/-- What is given, and what all have. -/
structure GH (k : KR) (w : World) (s : Fl) : Prop where
  low : Below k.B k.W w
  gv : DnI w k.gq s.gv k.gs.length
  hv : At6 w k.hq 102 s.hv
/-- And who was seen; b0: the first box of shift. -/
structure PSt (k : KR) (b0 : Nat) (w : World) (s : Fl) : Prop where
  gh : GH k w s
  sn : BAt 137 w (b0 + 2) s.sn 6
  c0 : w.cell? ⟨b0, 0, none⟩ = some (.pointer (some ⟨k.q, 0, none⟩))
  c1 : w.cell? ⟨b0 + 1, 0, none⟩ = some (.pointer (some ⟨k.hq, 0, none⟩))
  c3 : w.cell? ⟨b0 + 3, 0, none⟩ = some (.func (.func 112) #[] #[.pointer (some ⟨b0 + 2, 0, none⟩), .pointer (some ⟨b0, 0, none⟩), .pointer (some ⟨b0 + 1, 0, none⟩), .pointer (some ⟨b0 + 3, 0, none⟩)])
  gb : k.gq < b0
  hb : k.hq < b0
section
variable {k : KR} {b0 : Nat} {w w' : World} {s : Fl}
theorem GH.lts (h : GH k w s) : k.gq < w.heap.size ∧ k.hq < w.heap.size := ⟨h.gv.lt, h.hv.lt⟩
theorem GH.step (h : GH k w s) (hk : k.Ok) (hb : Below w.heap.size w w') : GH k w' s :=
  ⟨h.low.trans (hb.mono (by have := h.gv.lt; have := hk.gB; omega)), h.gv.step hb, h.hv.step hb⟩
theorem GH.race (h : GH k w s) (hk : k.Ok) : RaceAt w k.q (k.tm : Int) k.rc k.f (.slice k.OA k.gs.length k.oc) (.slice (some ⟨k.gq, 0, none⟩) k.gs.length k.gc) := hk.race.low h.low hk.qB
theorem GH.gms (h : GH k w s) (hk : k.Ok) : Gms k.B w k.OA k.gs := hk.gms.below h.low
theorem DnI.far {w : World} {g m : Nat} {D : Nat → Int} (h : DnI w g D m) {p : Addr} (hp : p.block ≠ g) (v : Value) : DnI (w.setCell p v) g D m := (Below.heap_setCell w p v g (fun e => hp e.symm)).trans h
theorem GH.setG (h : GH k w s) (hk : k.Ok) (i : Nat) (v : Int) : GH k (w.setCell ⟨k.gq, i, none⟩ (.int .i64 v)) { s with gv := updI s.gv i v } :=
  ⟨h.low.setCell hk.gB _, h.gv.set i v, h.hv.far (Ne.symm hk.gh) _⟩
theorem GH.setH (h : GH k w s) (hk : k.Ok) {t : Nat} (ht : t < 6) (v : Int) : GH k (w.setCell ⟨k.hq, t, none⟩ (.int .i64 v)) { s with hv := updI s.hv t v } :=
  ⟨h.low.setCell hk.hB _, h.gv.far (Ne.symm hk.gh) _, h.hv.set ht v⟩
theorem PSt.step (h : PSt k b0 w s) (hk : k.Ok) (hb : Below w.heap.size w w') : PSt k b0 w' s :=
  ⟨h.gh.step hk hb, h.sn.step hb, cell_of_ans hb h.c0, cell_of_ans hb h.c1, cell_of_ans hb h.c3, h.gb, h.hb⟩
theorem PSt.lt (h : PSt k b0 w s) : b0 + 3 < w.heap.size := World.block_lt_of_cell? _ _ h.c3
theorem PSt.setS (h : PSt k b0 w s) (hk : k.Ok) (t : Nat) : PSt k b0 (w.setCell ⟨b0 + 2, t, none⟩ (.bool true)) (Rc.mark s t) := by
  have h1 := h.gb
  have h2 := h.hb
  refine ⟨⟨h.gh.low.setCell (by have := hk.gB; dsimp only; omega) _, h.gh.gv.far (by dsimp only; omega) _, h.gh.hv.far (by omega) _⟩, h.sn.set t true, cell_set_keep h.c0 (by dsimp only; omega), cell_set_keep h.c1 (by dsimp only; omega), cell_set_keep h.c3 (by dsimp only; omega), h1, h2⟩
theorem PSt.setG (h : PSt k b0 w s) (hk : k.Ok) (i : Nat) (v : Int) : PSt k b0 (w.setCell ⟨k.gq, i, none⟩ (.int .i64 v)) { s with gv := updI s.gv i v } := by
  have h1 := h.gb
  have h2 := h.hb
  exact ⟨h.gh.setG hk i v, h.sn.setFar (by dsimp only; omega) _, cell_set_keep h.c0 (by dsimp only; omega), cell_set_keep h.c1 (by dsimp only; omega), cell_set_keep h.c3 (by dsimp only; omega), h1, h2⟩
theorem PSt.setH (h : PSt k b0 w s) (hk : k.Ok) {t : Nat} (ht : t < 6) (v : Int) : PSt k b0 (w.setCell ⟨k.hq, t, none⟩ (.int .i64 v)) { s with hv := updI s.hv t v } := by
  have h1 := h.gb
  have h2 := h.hb
  exact ⟨h.gh.setH hk ht v, h.sn.setFar (by dsimp only; omega) _, cell_set_keep h.c0 (by dsimp only; omega), cell_set_keep h.c1 (by dsimp only; omega), cell_set_keep h.c3 (by dsimp only; omega), h1, h2⟩
end
def PassC (k : KR) (b0 f : Nat) : Prop := ∀ (w : World) (t : Nat) (s : Fl), PSt k b0 w s → t < 6 → t ≠ k.tm → s.sn t = false → Rc.free s.sn 6 ≤ f → k.rc ≤ s.hv t → (∀ j, j < k.gs.length → 0 ≤ s.gv j ∧ s.gv j ≤ 2) → (∀ u, -100 ≤ s.hv u ∧ s.hv u ≤ 200000) →
  Calls Try.prog 112 #[.int .i64 (t : Int), .pointer (some ⟨b0 + 2, 0, none⟩), .pointer (some ⟨b0, 0, none⟩), .pointer (some ⟨b0 + 1, 0, none⟩), .pointer (some ⟨b0 + 3, 0, none⟩)] w (fun e w' => e = .returned (.bool (k.R.passF f t s).1) ∧ PSt k b0 w' (k.R.passF f t s).2)
end Go.Proofs.Ytjokbffdepcpkaa
