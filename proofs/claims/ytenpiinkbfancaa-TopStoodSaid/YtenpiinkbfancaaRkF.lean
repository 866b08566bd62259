/-
  rack: how many pins a ball can leave; what it leaves in a truth (carried over from the proofs of the chapter 02).
-/
import Derived.Test.YtenpiinkbfancaaRkE
import Derived.ProofKit
import Derived.OpenShut
import Derived.WideKeyArgs
import Derived.Deep.Matrix
import Derived.Deep.Slices
import Derived.Deep.Grids
import Derived.SizedLaws
namespace Go.Proofs.Ytenpiinkbfancaa.Rk
open Go.RowKit
set_option linter.unusedSimpArgs false
set_option linter.unusedVariables false

section
open Go.RowKit
attribute [local go_sem] Oper.semAt_some
def At5 (W : World) (q t : Nat) (v0 v1 v2 v3 v4 : Value) : Prop := W.heap[q]? = some (.cells #[v0, v1, v2, v3, v4] t)
section
variable {W W' : World} {q t : Nat} {v0 v1 v2 v3 v4 : Value}
theorem At5.lt (h : At5 W q t v0 v1 v2 v3 v4) : q < W.heap.size := (Array.getElem?_eq_some_iff.1 h).1
theorem At5.step (h : At5 W q t v0 v1 v2 v3 v4) (hb : Below W.heap.size W W') : At5 W' q t v0 v1 v2 v3 v4 := (hb.block q h.lt).trans h
theorem At5.low {B : Nat} (h : At5 W q t v0 v1 v2 v3 v4) (hb : Below B W W') (hq : q < B) : At5 W' q t v0 v1 v2 v3 v4 := (hb.block q hq).trans h
theorem At5.cells (h : At5 W q t v0 v1 v2 v3 v4) : (W.cell? ⟨q, 0, none⟩ = some v0 ∧ W.cell? ⟨q, 1, none⟩ = some v1 ∧ W.cell? ⟨q, 2, none⟩ = some v2 ∧ W.cell? ⟨q, 3, none⟩ = some v3 ∧ W.cell? ⟨q, 4, none⟩ = some v4) ∧ ∀ i, W.frozen? ⟨q, i, none⟩ = false := by
  unfold At5 at h
  simp [World.cell?, World.frozen?, h]
theorem At5.far {q' i : Nat} (h : At5 W q t v0 v1 v2 v3 v4) (hne : q ≠ q') (v : Value) : At5 (W.setCell ⟨q', i, none⟩ v) q t v0 v1 v2 v3 v4 := (Below.heap_setCell W _ v q hne).trans h
theorem At5.set4 (h : At5 W q t v0 v1 v2 v3 v4) (v : Value) : At5 (W.setCell ⟨q, 4, none⟩ v) q t v0 v1 v2 v3 v := by
  unfold At5 at h ⊢
  simp [World.setCell, Array.getElem?_modify, h]
theorem At5.set (h : At5 W q t v0 v1 v2 v3 v4) (u0 u1 u2 u3 u4 : Value) : At5 (((((W.setCell ⟨q, 0, none⟩ u0).setCell ⟨q, 1, none⟩ u1).setCell ⟨q, 2, none⟩ u2).setCell ⟨q, 3, none⟩ u3).setCell ⟨q, 4, none⟩ u4) q t u0 u1 u2 u3 u4 := by
  unfold At5 at h ⊢
  simp [World.setCell, Array.getElem?_modify, h]
end
theorem below_five {B : Nat} {w W : World} (hb : Below B w W) {q : Nat} (hq : B ≤ q) (u0 u1 u2 u3 u4 : Value) : Below B w (((((W.setCell ⟨q, 0, none⟩ u0).setCell ⟨q, 1, none⟩ u1).setCell ⟨q, 2, none⟩ u2).setCell ⟨q, 3, none⟩ u3).setCell ⟨q, 4, none⟩ u4) :=
  ((((hb.setCell hq u0).setCell hq u1).setCell hq u2).setCell hq u3).setCell hq u4
theorem grown_five (W : World) (q : Nat) (u0 u1 u2 u3 u4 : Value) : W.grownBy (((((W.setCell ⟨q, 0, none⟩ u0).setCell ⟨q, 1, none⟩ u1).setCell ⟨q, 2, none⟩ u2).setCell ⟨q, 3, none⟩ u3).setCell ⟨q, 4, none⟩ u4) (some q) :=
  only_setCell (p := ⟨q, 4, none⟩) (only_setCell (p := ⟨q, 3, none⟩) (only_setCell (p := ⟨q, 2, none⟩) (only_setCell (p := ⟨q, 1, none⟩) (only_setCell (p := ⟨q, 0, none⟩) (World.grownBy.refl _ _) (.inl rfl) u0) (.inl rfl) u1) (.inl rfl) u2) (.inl rfl) u3) (.inl rfl) u4
/-- A rack for the program: the same numbers, the links in new memory. -/
def RackP (w : World) (r : Rk) (e : Ending) (w' : World) : Prop := ∃ A c, e = .returned (.agg #[.int .i64 r.rows, .int .i64 r.mid, .int .i64 r.gap, .int .i64 r.reach, .slice A r.links.length c]) ∧ (Lks w'.heap.size w' A r.links ∧ r.links.length ≤ c ∧ c ≤ 9223372036854775807) ∧ Below w.heap.size w w'
set_option maxRecDepth 100000 in
set_option maxHeartbeats 8000000 in
theorem rack18_c (r : Rk) (A : Option Addr) (c : Nat) (w : World) (hl : Lks w.heap.size w A r.links) (hc : r.links.length ≤ c ∧ c ≤ 9223372036854775807) (hlen : r.links.length ≤ 1000000) :
    Calls Try.prog 22 #[.agg #[.int .i64 r.rows, .int .i64 r.mid, .int .i64 r.gap, .int .i64 r.reach, .slice A r.links.length c]] w (RackP w r) := by
  have HX := Lib.hid hl
  clear hl
  have hbx : Below w.heap.size w (((w.alloc (.cells #[.int .i64 r.rows, .int .i64 r.mid, .int .i64 r.gap, .int .i64 r.reach, .slice A r.links.length c] 58)).alloc (.cells #[.int .i64 0, .int .i64 0, .int .i64 0, .int .i64 0, .slice none 0 0] 69)).alloc (.cells #[.int .i64 r.rows, .int .i64 r.mid, .int .i64 r.gap, .int .i64 r.reach, .slice none 0 0] 69)) := ((((Below.refl _ _).alloc (Nat.le_refl _) _).alloc (by simp) _).alloc (by simp; omega) _)
  have HK : Hid (At5 (((w.alloc (.cells #[.int .i64 r.rows, .int .i64 r.mid, .int .i64 r.gap, .int .i64 r.reach, .slice A r.links.length c] 58)).alloc (.cells #[.int .i64 0, .int .i64 0, .int .i64 0, .int .i64 0, .slice none 0 0] 69)).alloc (.cells #[.int .i64 r.rows, .int .i64 r.mid, .int .i64 r.gap, .int .i64 r.reach, .slice none 0 0] 69)) w.heap.size 58 (.int .i64 r.rows) (.int .i64 r.mid) (.int .i64 r.gap) (.int .i64 r.reach) (.slice A r.links.length c)) := (show At5 _ _ _ _ _ _ _ _ from World.alloc_heap_new w _).step (((Below.refl _ _).alloc (Nat.le_refl _) _).alloc (by simp) _)
  have HR : Hid (At5 (((w.alloc (.cells #[.int .i64 r.rows, .int .i64 r.mid, .int .i64 r.gap, .int .i64 r.reach, .slice A r.links.length c] 58)).alloc (.cells #[.int .i64 0, .int .i64 0, .int .i64 0, .int .i64 0, .slice none 0 0] 69)).alloc (.cells #[.int .i64 r.rows, .int .i64 r.mid, .int .i64 r.gap, .int .i64 r.reach, .slice none 0 0] 69)) (w.heap.size + 1) 69 (.int .i64 0) (.int .i64 0) (.int .i64 0) (.int .i64 0) (.slice none 0 0)) := by
    have h := World.alloc_heap_new (w.alloc (.cells #[.int .i64 r.rows, .int .i64 r.mid, .int .i64 r.gap, .int .i64 r.reach, .slice A r.links.length c] 58)) (.cells #[.int .i64 0, .int .i64 0, .int .i64 0, .int .i64 0, .slice none 0 0] 69)
    rw [World.size_alloc] at h
    exact (show At5 _ _ _ _ _ _ _ _ from h).step ((Below.refl _ _).alloc (Nat.le_refl _) _)
  have HM : Hid (At5 (((w.alloc (.cells #[.int .i64 r.rows, .int .i64 r.mid, .int .i64 r.gap, .int .i64 r.reach, .slice A r.links.length c] 58)).alloc (.cells #[.int .i64 0, .int .i64 0, .int .i64 0, .int .i64 0, .slice none 0 0] 69)).alloc (.cells #[.int .i64 r.rows, .int .i64 r.mid, .int .i64 r.gap, .int .i64 r.reach, .slice none 0 0] 69)) (w.heap.size + 2) 69 (.int .i64 r.rows) (.int .i64 r.mid) (.int .i64 r.gap) (.int .i64 r.reach) (.slice none 0 0)) := by
    have h := World.alloc_heap_new ((w.alloc (.cells #[.int .i64 r.rows, .int .i64 r.mid, .int .i64 r.gap, .int .i64 r.reach, .slice A r.links.length c] 58)).alloc (.cells #[.int .i64 0, .int .i64 0, .int .i64 0, .int .i64 0, .slice none 0 0] 69)) (.cells #[.int .i64 r.rows, .int .i64 r.mid, .int .i64 r.gap, .int .i64 r.reach, .slice none 0 0] 69)
    rw [World.size_alloc, World.size_alloc] at h
    exact h
  have hz : (((w.alloc (.cells #[.int .i64 r.rows, .int .i64 r.mid, .int .i64 r.gap, .int .i64 r.reach, .slice A r.links.length c] 58)).alloc (.cells #[.int .i64 0, .int .i64 0, .int .i64 0, .int .i64 0, .slice none 0 0] 69)).alloc (.cells #[.int .i64 r.rows, .int .i64 r.mid, .int .i64 r.gap, .int .i64 r.reach, .slice none 0 0] 69)).heap.size = w.heap.size + 3 := by simp
  have HB := Lib.hid hbx
  clear hbx
  go_enter Try.func22, Try.ntmps22
  go_wp2_with fail
  generalize (((w.alloc (.cells #[.int .i64 r.rows, .int .i64 r.mid, .int .i64 r.gap, .int .i64 r.reach, .slice A r.links.length c] 58)).alloc (.cells #[.int .i64 0, .int .i64 0, .int .i64 0, .int .i64 0, .slice none 0 0] 69)).alloc (.cells #[.int .i64 r.rows, .int .i64 r.mid, .int .i64 r.gap, .int .i64 r.reach, .slice none 0 0] 69)) = x3 at *
  go_loopw [4] (fun i wr => ∃ (k : Nat) (A' : Option Addr) (c' : Nat), k ≤ r.links.length ∧ i = .int .i64 k ∧ At5 wr (w.heap.size + 2) 69 (.int .i64 r.rows) (.int .i64 r.mid) (.int .i64 r.gap) (.int .i64 r.reach) (.slice A' k c') ∧ OwnK 165 (w.heap.size + 3) wr (.slice A' k c') (r.links.take k) ∧ At5 wr w.heap.size 58 (.int .i64 r.rows) (.int .i64 r.mid) (.int .i64 r.gap) (.int .i64 r.reach) (.slice A r.links.length c) ∧ At5 wr (w.heap.size + 1) 69 (.int .i64 0) (.int .i64 0) (.int .i64 0) (.int .i64 0) (.slice none 0 0) ∧ Below w.heap.size w wr) (fun i _ => r.links.length - (intOf i).toNat)
  case atStart => exact ⟨0, none, 0, by omega, rfl, HM.out, by simp; exact OwnK.nil _ _ _, HK.out, HR.out, HB.out⟩
  case round =>
    obtain ⟨k, A', c', hk, rfl, hM, hO, hK, hR, hb⟩ := hrel
    rename World => wr
    obtain ⟨⟨-, -, -, -, k4⟩, -⟩ := hK.cells
    obtain ⟨⟨m0, m1, m2, m3, m4⟩, -⟩ := hM.cells
    have HM := Lib.hid hM
    have HO := Lib.hid hO
    have HK := Lib.hid hK
    have HR := Lib.hid hR
    have HB := Lib.hid hb
    have hwr : w.heap.size + 3 ≤ wr.heap.size := by have := hM.lt; omega
    clear hM hO hK hR
    by_cases h1 : k < r.links.length
    · obtain ⟨b, off, rfl, hb0, c1, c2, c3⟩ := (HX.out.below hb).at_ h1
      have HT : Hid (r.links.take (k + 1) = r.links.take k ++ [lx r.links k]) := by show _ = _; rw [List.take_succ_eq_append_getElem h1, lx_lt h1]
      have hlt : (r.links.take k).length = k := by simp; omega
      have h1i : (k : Int) < (r.links.length : Int) := by omega
      clear hb
      replace HO : Hid (OwnK 165 (w.heap.size + 3) wr.drew (.slice A' k c') (r.links.take k)) := HO.out.kept (Below.refl _ _).drew
      generalize lx r.links k = x at *
      obtain ⟨xf, xt, xs⟩ := x
      dsimp only at c1 c2 c3
      have HLT := Lib.hid hlt
      clear hlt
      go_wp2_with fail
      refine wp_region_noPanic ?_
      have hS : (fun W' : World => Below (w.heap.size + 3) wr W') wr.drew := (Below.refl _ _).drew
      refine wp_region_any (by kernel_rfl) (wpAny_of_T (S := fun W' : World => Below (w.heap.size + 3) wr W') (m := 24) _ _ _ _ ?_)
      refine' T_take (i := 0) (v := _) rfl (by kernel_rfl) (by kernel_rfl) (by kernel_rfl) (by kernel_rfl) (fun _ _ _ h => h) (by kernel_rfl) hS ?_ ?_
      rotate_left 1
      · intro Wv hW
        replace c1 := (hW.cell (p := ⟨b, off + k * 3, none⟩) (by dsimp only; omega)).trans c1
        replace c2 := (hW.cell (p := ⟨b, off + k * 3 + 1, none⟩) (by dsimp only; omega)).trans c2
        replace c3 := (hW.cell (p := ⟨b, off + k * 3 + 2, none⟩) (by dsimp only; omega)).trans c3
        replace k4 := (hW.cell (p := ⟨w.heap.size, 4, none⟩) (by dsimp only; omega)).trans k4
        replace m4 := (hW.cell (p := ⟨w.heap.size + 2, 4, none⟩) (by dsimp only; omega)).trans m4
        go_simp
        first | done | with_reducible rfl
      try simp only [Act.put, List.setIfInBounds_toArray, List.set_cons_zero, List.set_cons_succ]
      refine' T_take (i := 1) (v := _) rfl (by kernel_rfl) (by kernel_rfl) (by kernel_rfl) (by kernel_rfl) (fun _ _ _ h => h) (by kernel_rfl) hS ?_ ?_
      rotate_left 1
      · intro Wv hW
        replace c1 := (hW.cell (p := ⟨b, off + k * 3, none⟩) (by dsimp only; omega)).trans c1
        replace c2 := (hW.cell (p := ⟨b, off + k * 3 + 1, none⟩) (by dsimp only; omega)).trans c2
        replace c3 := (hW.cell (p := ⟨b, off + k * 3 + 2, none⟩) (by dsimp only; omega)).trans c3
        replace k4 := (hW.cell (p := ⟨w.heap.size, 4, none⟩) (by dsimp only; omega)).trans k4
        replace m4 := (hW.cell (p := ⟨w.heap.size + 2, 4, none⟩) (by dsimp only; omega)).trans m4
        go_simp
        first | done | with_reducible rfl
      try simp only [Act.put, List.setIfInBounds_toArray, List.set_cons_zero, List.set_cons_succ]
      refine' T_take (i := 2) (v := _) rfl (by kernel_rfl) (by kernel_rfl) (by kernel_rfl) (by kernel_rfl) (fun _ _ _ h => h) (by kernel_rfl) hS ?_ ?_
      rotate_left 1
      · intro Wv hW
        replace c1 := (hW.cell (p := ⟨b, off + k * 3, none⟩) (by dsimp only; omega)).trans c1
        replace c2 := (hW.cell (p := ⟨b, off + k * 3 + 1, none⟩) (by dsimp only; omega)).trans c2
        replace c3 := (hW.cell (p := ⟨b, off + k * 3 + 2, none⟩) (by dsimp only; omega)).trans c3
        replace k4 := (hW.cell (p := ⟨w.heap.size, 4, none⟩) (by dsimp only; omega)).trans k4
        replace m4 := (hW.cell (p := ⟨w.heap.size + 2, 4, none⟩) (by dsimp only; omega)).trans m4
        go_simp
        first | done | with_reducible rfl
      try simp only [Act.put, List.setIfInBounds_toArray, List.set_cons_zero, List.set_cons_succ]
      refine' T_take (i := 3) (v := _) rfl (by kernel_rfl) (by kernel_rfl) (by kernel_rfl) (by kernel_rfl) (fun _ _ _ h => h) (by kernel_rfl) hS ?_ ?_
      rotate_left 1
      · intro Wv hW
        replace c1 := (hW.cell (p := ⟨b, off + k * 3, none⟩) (by dsimp only; omega)).trans c1
        replace c2 := (hW.cell (p := ⟨b, off + k * 3 + 1, none⟩) (by dsimp only; omega)).trans c2
        replace c3 := (hW.cell (p := ⟨b, off + k * 3 + 2, none⟩) (by dsimp only; omega)).trans c3
        replace k4 := (hW.cell (p := ⟨w.heap.size, 4, none⟩) (by dsimp only; omega)).trans k4
        replace m4 := (hW.cell (p := ⟨w.heap.size + 2, 4, none⟩) (by dsimp only; omega)).trans m4
        go_simp
        first | done | with_reducible rfl
      try simp only [Act.put, List.setIfInBounds_toArray, List.set_cons_zero, List.set_cons_succ]
      refine' T_take (i := 4) (v := _) rfl (by kernel_rfl) (by kernel_rfl) (by kernel_rfl) (by kernel_rfl) (fun _ _ _ h => h) (by kernel_rfl) hS ?_ ?_
      rotate_left 1
      · intro Wv hW
        replace c1 := (hW.cell (p := ⟨b, off + k * 3, none⟩) (by dsimp only; omega)).trans c1
        replace c2 := (hW.cell (p := ⟨b, off + k * 3 + 1, none⟩) (by dsimp only; omega)).trans c2
        replace c3 := (hW.cell (p := ⟨b, off + k * 3 + 2, none⟩) (by dsimp only; omega)).trans c3
        replace k4 := (hW.cell (p := ⟨w.heap.size, 4, none⟩) (by dsimp only; omega)).trans k4
        replace m4 := (hW.cell (p := ⟨w.heap.size + 2, 4, none⟩) (by dsimp only; omega)).trans m4
        go_simp
        first | done | with_reducible rfl
      try simp only [Act.put, List.setIfInBounds_toArray, List.set_cons_zero, List.set_cons_succ]
      refine' T_take (i := 5) (v := _) rfl (by kernel_rfl) (by kernel_rfl) (by kernel_rfl) (by kernel_rfl) (fun _ _ _ h => h) (by kernel_rfl) hS ?_ ?_
      rotate_left 1
      · intro Wv hW
        replace c1 := (hW.cell (p := ⟨b, off + k * 3, none⟩) (by dsimp only; omega)).trans c1
        replace c2 := (hW.cell (p := ⟨b, off + k * 3 + 1, none⟩) (by dsimp only; omega)).trans c2
        replace c3 := (hW.cell (p := ⟨b, off + k * 3 + 2, none⟩) (by dsimp only; omega)).trans c3
        replace k4 := (hW.cell (p := ⟨w.heap.size, 4, none⟩) (by dsimp only; omega)).trans k4
        replace m4 := (hW.cell (p := ⟨w.heap.size + 2, 4, none⟩) (by dsimp only; omega)).trans m4
        go_simp
        first | done | with_reducible rfl
      try simp only [Act.put, List.setIfInBounds_toArray, List.set_cons_zero, List.set_cons_succ]
      refine' T_take (i := 6) (v := _) rfl (by kernel_rfl) (by kernel_rfl) (by kernel_rfl) (by kernel_rfl) (fun _ _ _ h => h) (by kernel_rfl) hS ?_ ?_
      rotate_left 1
      · intro Wv hW
        replace c1 := (hW.cell (p := ⟨b, off + k * 3, none⟩) (by dsimp only; omega)).trans c1
        replace c2 := (hW.cell (p := ⟨b, off + k * 3 + 1, none⟩) (by dsimp only; omega)).trans c2
        replace c3 := (hW.cell (p := ⟨b, off + k * 3 + 2, none⟩) (by dsimp only; omega)).trans c3
        replace k4 := (hW.cell (p := ⟨w.heap.size, 4, none⟩) (by dsimp only; omega)).trans k4
        replace m4 := (hW.cell (p := ⟨w.heap.size + 2, 4, none⟩) (by dsimp only; omega)).trans m4
        go_simp
        first | done | with_reducible rfl
      try simp only [Act.put, List.setIfInBounds_toArray, List.set_cons_zero, List.set_cons_succ]
      refine' T_take (i := 7) (v := _) rfl (by kernel_rfl) (by kernel_rfl) (by kernel_rfl) (by kernel_rfl) (fun _ _ _ h => h) (by kernel_rfl) hS ?_ ?_
      rotate_left 1
      · intro Wv hW
        replace c1 := (hW.cell (p := ⟨b, off + k * 3, none⟩) (by dsimp only; omega)).trans c1
        replace c2 := (hW.cell (p := ⟨b, off + k * 3 + 1, none⟩) (by dsimp only; omega)).trans c2
        replace c3 := (hW.cell (p := ⟨b, off + k * 3 + 2, none⟩) (by dsimp only; omega)).trans c3
        replace k4 := (hW.cell (p := ⟨w.heap.size, 4, none⟩) (by dsimp only; omega)).trans k4
        replace m4 := (hW.cell (p := ⟨w.heap.size + 2, 4, none⟩) (by dsimp only; omega)).trans m4
        go_simp
        first | done | with_reducible rfl
      try simp only [Act.put, List.setIfInBounds_toArray, List.set_cons_zero, List.set_cons_succ]
      refine' T_take (i := 8) (v := _) rfl (by kernel_rfl) (by kernel_rfl) (by kernel_rfl) (by kernel_rfl) (fun _ _ _ h => h) (by kernel_rfl) hS ?_ ?_
      rotate_left 1
      · intro Wv hW
        replace c1 := (hW.cell (p := ⟨b, off + k * 3, none⟩) (by dsimp only; omega)).trans c1
        replace c2 := (hW.cell (p := ⟨b, off + k * 3 + 1, none⟩) (by dsimp only; omega)).trans c2
        replace c3 := (hW.cell (p := ⟨b, off + k * 3 + 2, none⟩) (by dsimp only; omega)).trans c3
        replace k4 := (hW.cell (p := ⟨w.heap.size, 4, none⟩) (by dsimp only; omega)).trans k4
        replace m4 := (hW.cell (p := ⟨w.heap.size + 2, 4, none⟩) (by dsimp only; omega)).trans m4
        go_simp
        first | done | with_reducible rfl
      try simp only [Act.put, List.setIfInBounds_toArray, List.set_cons_zero, List.set_cons_succ]
      refine' T_take (i := 9) (v := _) rfl (by kernel_rfl) (by kernel_rfl) (by kernel_rfl) (by kernel_rfl) (fun _ _ _ h => h) (by kernel_rfl) hS ?_ ?_
      rotate_left 1
      · intro Wv hW
        replace c1 := (hW.cell (p := ⟨b, off + k * 3, none⟩) (by dsimp only; omega)).trans c1
        replace c2 := (hW.cell (p := ⟨b, off + k * 3 + 1, none⟩) (by dsimp only; omega)).trans c2
        replace c3 := (hW.cell (p := ⟨b, off + k * 3 + 2, none⟩) (by dsimp only; omega)).trans c3
        replace k4 := (hW.cell (p := ⟨w.heap.size, 4, none⟩) (by dsimp only; omega)).trans k4
        replace m4 := (hW.cell (p := ⟨w.heap.size + 2, 4, none⟩) (by dsimp only; omega)).trans m4
        go_simp
        first | done | with_reducible rfl
      try simp only [Act.put, List.setIfInBounds_toArray, List.set_cons_zero, List.set_cons_succ]
      refine' T_take (i := 10) (v := _) rfl (by kernel_rfl) (by kernel_rfl) (by kernel_rfl) (by kernel_rfl) (fun _ _ _ h => h) (by kernel_rfl) hS ?_ ?_
      rotate_left 1
      · intro Wv hW
        replace c1 := (hW.cell (p := ⟨b, off + k * 3, none⟩) (by dsimp only; omega)).trans c1
        replace c2 := (hW.cell (p := ⟨b, off + k * 3 + 1, none⟩) (by dsimp only; omega)).trans c2
        replace c3 := (hW.cell (p := ⟨b, off + k * 3 + 2, none⟩) (by dsimp only; omega)).trans c3
        replace k4 := (hW.cell (p := ⟨w.heap.size, 4, none⟩) (by dsimp only; omega)).trans k4
        replace m4 := (hW.cell (p := ⟨w.heap.size + 2, 4, none⟩) (by dsimp only; omega)).trans m4
        go_simp
        first | done | with_reducible rfl
      try simp only [Act.put, List.setIfInBounds_toArray, List.set_cons_zero, List.set_cons_succ]
      refine' T_take (i := 11) (v := _) rfl (by kernel_rfl) (by kernel_rfl) (by kernel_rfl) (by kernel_rfl) (fun _ _ _ h => h) (by kernel_rfl) hS ?_ ?_
      rotate_left 1
      · intro Wv hW
        replace c1 := (hW.cell (p := ⟨b, off + k * 3, none⟩) (by dsimp only; omega)).trans c1
        replace c2 := (hW.cell (p := ⟨b, off + k * 3 + 1, none⟩) (by dsimp only; omega)).trans c2
        replace c3 := (hW.cell (p := ⟨b, off + k * 3 + 2, none⟩) (by dsimp only; omega)).trans c3
        replace k4 := (hW.cell (p := ⟨w.heap.size, 4, none⟩) (by dsimp only; omega)).trans k4
        replace m4 := (hW.cell (p := ⟨w.heap.size + 2, 4, none⟩) (by dsimp only; omega)).trans m4
        go_simp
        first | done | with_reducible rfl
      try simp only [Act.put, List.setIfInBounds_toArray, List.set_cons_zero, List.set_cons_succ]
      refine' T_take (i := 12) (v := _) rfl (by kernel_rfl) (by kernel_rfl) (by kernel_rfl) (by kernel_rfl) (fun _ _ _ h => h) (by kernel_rfl) hS ?_ ?_
      rotate_left 1
      · intro Wv hW
        replace c1 := (hW.cell (p := ⟨b, off + k * 3, none⟩) (by dsimp only; omega)).trans c1
        replace c2 := (hW.cell (p := ⟨b, off + k * 3 + 1, none⟩) (by dsimp only; omega)).trans c2
        replace c3 := (hW.cell (p := ⟨b, off + k * 3 + 2, none⟩) (by dsimp only; omega)).trans c3
        replace k4 := (hW.cell (p := ⟨w.heap.size, 4, none⟩) (by dsimp only; omega)).trans k4
        replace m4 := (hW.cell (p := ⟨w.heap.size + 2, 4, none⟩) (by dsimp only; omega)).trans m4
        go_simp
        first | done | with_reducible rfl
      try simp only [Act.put, List.setIfInBounds_toArray, List.set_cons_zero, List.set_cons_succ]
      refine' T_take (i := 13) (v := _) rfl (by kernel_rfl) (by kernel_rfl) (by kernel_rfl) (by kernel_rfl) (fun _ _ _ h => h) (by kernel_rfl) hS ?_ ?_
      rotate_left 1
      · intro Wv hW
        replace c1 := (hW.cell (p := ⟨b, off + k * 3, none⟩) (by dsimp only; omega)).trans c1
        replace c2 := (hW.cell (p := ⟨b, off + k * 3 + 1, none⟩) (by dsimp only; omega)).trans c2
        replace c3 := (hW.cell (p := ⟨b, off + k * 3 + 2, none⟩) (by dsimp only; omega)).trans c3
        replace k4 := (hW.cell (p := ⟨w.heap.size, 4, none⟩) (by dsimp only; omega)).trans k4
        replace m4 := (hW.cell (p := ⟨w.heap.size + 2, 4, none⟩) (by dsimp only; omega)).trans m4
        go_simp
        first | done | with_reducible rfl
      try simp only [Act.put, List.setIfInBounds_toArray, List.set_cons_zero, List.set_cons_succ]
      refine' T_take (i := 14) (v := _) rfl (by kernel_rfl) (by kernel_rfl) (by kernel_rfl) (by kernel_rfl) (fun _ _ _ h => h) (by kernel_rfl) hS ?_ ?_
      rotate_left 1
      · intro Wv hW
        replace c1 := (hW.cell (p := ⟨b, off + k * 3, none⟩) (by dsimp only; omega)).trans c1
        replace c2 := (hW.cell (p := ⟨b, off + k * 3 + 1, none⟩) (by dsimp only; omega)).trans c2
        replace c3 := (hW.cell (p := ⟨b, off + k * 3 + 2, none⟩) (by dsimp only; omega)).trans c3
        replace k4 := (hW.cell (p := ⟨w.heap.size, 4, none⟩) (by dsimp only; omega)).trans k4
        replace m4 := (hW.cell (p := ⟨w.heap.size + 2, 4, none⟩) (by dsimp only; omega)).trans m4
        go_simp
        first | done | with_reducible rfl
      try simp only [Act.put, List.setIfInBounds_toArray, List.set_cons_zero, List.set_cons_succ]
      refine' T_take (i := 15) (v := _) rfl (by kernel_rfl) (by kernel_rfl) (by kernel_rfl) (by kernel_rfl) (fun _ _ _ h => h) (by kernel_rfl) hS ?_ ?_
      rotate_left 1
      · intro Wv hW
        replace c1 := (hW.cell (p := ⟨b, off + k * 3, none⟩) (by dsimp only; omega)).trans c1
        replace c2 := (hW.cell (p := ⟨b, off + k * 3 + 1, none⟩) (by dsimp only; omega)).trans c2
        replace c3 := (hW.cell (p := ⟨b, off + k * 3 + 2, none⟩) (by dsimp only; omega)).trans c3
        replace k4 := (hW.cell (p := ⟨w.heap.size, 4, none⟩) (by dsimp only; omega)).trans k4
        replace m4 := (hW.cell (p := ⟨w.heap.size + 2, 4, none⟩) (by dsimp only; omega)).trans m4
        go_simp
        first | done | with_reducible rfl
      try simp only [Act.put, List.setIfInBounds_toArray, List.set_cons_zero, List.set_cons_succ]
      refine' T_take (i := 16) (v := _) rfl (by kernel_rfl) (by kernel_rfl) (by kernel_rfl) (by kernel_rfl) (fun _ _ _ h => h) (by kernel_rfl) hS ?_ ?_
      rotate_left 1
      · intro Wv hW
        replace c1 := (hW.cell (p := ⟨b, off + k * 3, none⟩) (by dsimp only; omega)).trans c1
        replace c2 := (hW.cell (p := ⟨b, off + k * 3 + 1, none⟩) (by dsimp only; omega)).trans c2
        replace c3 := (hW.cell (p := ⟨b, off + k * 3 + 2, none⟩) (by dsimp only; omega)).trans c3
        replace k4 := (hW.cell (p := ⟨w.heap.size, 4, none⟩) (by dsimp only; omega)).trans k4
        replace m4 := (hW.cell (p := ⟨w.heap.size + 2, 4, none⟩) (by dsimp only; omega)).trans m4
        go_simp
        first | done | with_reducible rfl
      try simp only [Act.put, List.setIfInBounds_toArray, List.set_cons_zero, List.set_cons_succ]
      refine' T_take (i := 17) (v := _) rfl (by kernel_rfl) (by kernel_rfl) (by kernel_rfl) (by kernel_rfl) (fun _ _ _ h => h) (by kernel_rfl) hS ?_ ?_
      rotate_left 1
      · intro Wv hW
        replace c1 := (hW.cell (p := ⟨b, off + k * 3, none⟩) (by dsimp only; omega)).trans c1
        replace c2 := (hW.cell (p := ⟨b, off + k * 3 + 1, none⟩) (by dsimp only; omega)).trans c2
        replace c3 := (hW.cell (p := ⟨b, off + k * 3 + 2, none⟩) (by dsimp only; omega)).trans c3
        replace k4 := (hW.cell (p := ⟨w.heap.size, 4, none⟩) (by dsimp only; omega)).trans k4
        replace m4 := (hW.cell (p := ⟨w.heap.size + 2, 4, none⟩) (by dsimp only; omega)).trans m4
        go_simp
        first | done | with_reducible rfl
      try simp only [Act.put, List.setIfInBounds_toArray, List.set_cons_zero, List.set_cons_succ]
      refine' T_take (i := 18) (v := _) rfl (by kernel_rfl) (by kernel_rfl) (by kernel_rfl) (by kernel_rfl) (fun _ _ _ h => h) (by kernel_rfl) hS ?_ ?_
      rotate_left 1
      · intro Wv hW
        replace c1 := (hW.cell (p := ⟨b, off + k * 3, none⟩) (by dsimp only; omega)).trans c1
        replace c2 := (hW.cell (p := ⟨b, off + k * 3 + 1, none⟩) (by dsimp only; omega)).trans c2
        replace c3 := (hW.cell (p := ⟨b, off + k * 3 + 2, none⟩) (by dsimp only; omega)).trans c3
        replace k4 := (hW.cell (p := ⟨w.heap.size, 4, none⟩) (by dsimp only; omega)).trans k4
        replace m4 := (hW.cell (p := ⟨w.heap.size + 2, 4, none⟩) (by dsimp only; omega)).trans m4
        go_simp
        first | done | with_reducible rfl
      try simp only [Act.put, List.setIfInBounds_toArray, List.set_cons_zero, List.set_cons_succ]
      refine' T_take (i := 19) (v := _) rfl (by kernel_rfl) (by kernel_rfl) (by kernel_rfl) (by kernel_rfl) (fun _ _ _ h => h) (by kernel_rfl) hS ?_ ?_
      rotate_left 1
      · intro Wv hW
        replace c1 := (hW.cell (p := ⟨b, off + k * 3, none⟩) (by dsimp only; omega)).trans c1
        replace c2 := (hW.cell (p := ⟨b, off + k * 3 + 1, none⟩) (by dsimp only; omega)).trans c2
        replace c3 := (hW.cell (p := ⟨b, off + k * 3 + 2, none⟩) (by dsimp only; omega)).trans c3
        replace k4 := (hW.cell (p := ⟨w.heap.size, 4, none⟩) (by dsimp only; omega)).trans k4
        replace m4 := (hW.cell (p := ⟨w.heap.size + 2, 4, none⟩) (by dsimp only; omega)).trans m4
        go_simp
        first | done | with_reducible rfl
      try simp only [Act.put, List.setIfInBounds_toArray, List.set_cons_zero, List.set_cons_succ]
      refine' T_take (i := 20) (v := _) rfl (by kernel_rfl) (by kernel_rfl) (by kernel_rfl) (by kernel_rfl) (fun _ _ _ h => h) (by kernel_rfl) hS ?_ ?_
      rotate_left 1
      · intro Wv hW
        replace c1 := (hW.cell (p := ⟨b, off + k * 3, none⟩) (by dsimp only; omega)).trans c1
        replace c2 := (hW.cell (p := ⟨b, off + k * 3 + 1, none⟩) (by dsimp only; omega)).trans c2
        replace c3 := (hW.cell (p := ⟨b, off + k * 3 + 2, none⟩) (by dsimp only; omega)).trans c3
        replace k4 := (hW.cell (p := ⟨w.heap.size, 4, none⟩) (by dsimp only; omega)).trans k4
        replace m4 := (hW.cell (p := ⟨w.heap.size + 2, 4, none⟩) (by dsimp only; omega)).trans m4
        go_simp
        first | done | with_reducible rfl
      try simp only [Act.put, List.setIfInBounds_toArray, List.set_cons_zero, List.set_cons_succ]
      refine T_ready (rs := [21]) (by kernel_rfl) (by simp) ?_
      refine TReady.cons rfl (fun K hK => ?_) TReady.nil
      try go_simp
      refine hK.out _ _ (fun _ => hS.alloc (Nat.le_trans hwr hS.size) _) (fun hS2 => ?_)
      replace hS := hS2 (by decide)
      clear hS2 hK K
      try simp only [Act.put, List.setIfInBounds_toArray, List.set_cons_zero, List.set_cons_succ]
      refine T_ready (rs := [22]) (by kernel_rfl) (by simp) ?_
      refine TReady.cons rfl (fun K hK => ?_) TReady.nil
      refine step_appK (t := 67) (e := 165) (.inl ⟨rfl, rfl⟩) (.tmp 22) (.tmp 42) rfl rfl (w.heap.size + 3) wr.drew _ (r.links.take k) ⟨xf, xt, xs⟩ rfl rfl HO (by simp; omega) hwr ?_
      intro A9 c9 w2 HO2 HB2
      refine hK.out _ _ (fun _ => below_drew_l HB2.out) (fun hS2 => ?_)
      replace hS := hS2 (by decide)
      clear hK K hS2
      try simp only [Act.put, List.setIfInBounds_toArray, List.set_cons_zero, List.set_cons_succ]
      refine' T_take (i := 23) (v := _) rfl (by kernel_rfl) (by kernel_rfl) (by kernel_rfl) (by kernel_rfl) (fun _ _ _ h => h) (by kernel_rfl) hS ?_ ?_
      rotate_left 1
      · intro Wv hW
        replace c1 := (hW.cell (p := ⟨b, off + k * 3, none⟩) (by dsimp only; omega)).trans c1
        replace c2 := (hW.cell (p := ⟨b, off + k * 3 + 1, none⟩) (by dsimp only; omega)).trans c2
        replace c3 := (hW.cell (p := ⟨b, off + k * 3 + 2, none⟩) (by dsimp only; omega)).trans c3
        replace k4 := (hW.cell (p := ⟨w.heap.size, 4, none⟩) (by dsimp only; omega)).trans k4
        replace m4 := (hW.cell (p := ⟨w.heap.size + 2, 4, none⟩) (by dsimp only; omega)).trans m4
        go_simp
        first | done | with_reducible rfl
      try simp only [Act.put, List.setIfInBounds_toArray, List.set_cons_zero, List.set_cons_succ]
      refine T_ready (rs := [24]) (by kernel_rfl) (by simp) ?_
      refine TReady.cons rfl (fun K hK => ?_) TReady.nil
      have HM2 := HM.out.low hS (by omega)
      obtain ⟨⟨m0, m1, m2, m3, m4⟩, mf⟩ := HM2.cells
      have mf4 := mf 4
      clear mf
      try go_simp
      refine hK.out _ _ (fun h => absurd h (by decide)) (fun _ => ?_)
      clear hK K
      try simp only [Act.put, List.setIfInBounds_toArray, List.set_cons_zero, List.set_cons_succ]
      refine T_done (by kernel_rfl) ?_ _
      refine NoPanic.normal ?_
      try go_simp
      have ho2 := HO2.out
      rw [HLT.out] at ho2
      have HO3 := Lib.hid ho2
      clear ho2
      have HZ : Hid (w2.setCell ⟨w.heap.size + 2, 4, none⟩ (.slice A9 (k + 1) c9) = w2.setCell ⟨w.heap.size + 2, 4, none⟩ (.slice A9 (k + 1) c9)) := rfl
      have hg : w2.grownBy (w2.setCell ⟨w.heap.size + 2, 4, none⟩ (.slice A9 (k + 1) c9)) (some (w.heap.size + 2)) := only_setCell (World.grownBy.refl _ _) (.inl rfl) _
      have HM3 := Lib.hid (HM2.set4 (.slice A9 (k + 1) c9))
      have HO4 := Lib.hid (HO3.out.keptBy hg (by omega))
      have HK4 := Lib.hid ((HK.out.low hS (by omega)).far (q' := w.heap.size + 2) (i := 4) (by omega) (.slice A9 (k + 1) c9))
      have HR4 := Lib.hid ((HR.out.low hS (by omega)).far (q' := w.heap.size + 2) (i := 4) (by omega) (.slice A9 (k + 1) c9))
      have HB4 : Hid (Below w.heap.size w (w2.setCell ⟨w.heap.size + 2, 4, none⟩ (.slice A9 (k + 1) c9))) := (HB.out.trans (hS.mono (by omega))).setCell (by simp) _
      clear hg HM2 m0 m1 m2 m3 m4 k4 mf4
      go_wp2_with fail
      go_roundw
      case rel => exact ⟨k + 1, A9, c9, by omega, by go_num, HM3.out, by rw [HT.out]; exact HO4.out, HK4.out, HR4.out, HB4.out⟩
      case measure => simp [intOf]; omega
    · obtain rfl : k = r.links.length := by omega
      rw [List.take_length] at HO
      obtain ⟨h2, h3, h4⟩ := HO.out.parts
      have HL4 := Lib.hid h4
      obtain ⟨⟨r0, r1, r2, r3, r4⟩, rf⟩ := HR.out.cells
      have rf0 := rf 0
      have rf1 := rf 1
      have rf2 := rf 2
      have rf3 := rf 3
      have rf4 := rf 4
      have HF := Lib.hid (HR.out.set (.int .i64 r.rows) (.int .i64 r.mid) (.int .i64 r.gap) (.int .i64 r.reach) (.slice A' r.links.length c'))
      have HBF := Lib.hid (below_five HB.out (q := w.heap.size + 1) (by omega) (.int .i64 r.rows) (.int .i64 r.mid) (.int .i64 r.gap) (.int .i64 r.reach) (.slice A' r.links.length c'))
      have HOF : Hid (OwnK 165 (w.heap.size + 3) (((((wr.setCell ⟨w.heap.size + 1, 0, none⟩ (.int .i64 r.rows)).setCell ⟨w.heap.size + 1, 1, none⟩ (.int .i64 r.mid)).setCell ⟨w.heap.size + 1, 2, none⟩ (.int .i64 r.gap)).setCell ⟨w.heap.size + 1, 3, none⟩ (.int .i64 r.reach)).setCell ⟨w.heap.size + 1, 4, none⟩ (.slice A' r.links.length c')) (.slice A' r.links.length c') r.links) := World.ownsRow.kept HO.out (row := some (w.heap.size + 1)) (grown_five _ _ _ _ _ _ _) (.inr fun e => by
        have := (World.ownsRow.lt HO.out _ e).1
        omega)
      clear rf h4 hb
      go_wp2_with fail
      generalize (((((wr.setCell ⟨w.heap.size + 1, 0, none⟩ (.int .i64 r.rows)).setCell ⟨w.heap.size + 1, 1, none⟩ (.int .i64 r.mid)).setCell ⟨w.heap.size + 1, 2, none⟩ (.int .i64 r.gap)).setCell ⟨w.heap.size + 1, 3, none⟩ (.int .i64 r.reach)).setCell ⟨w.heap.size + 1, 4, none⟩ (.slice A' r.links.length c')) = W9 at *
      obtain ⟨⟨y0, y1, y2, y3, y4⟩, -⟩ := HF.out.cells
      refine bodyPost_ret (v := .agg #[.int .i64 r.rows, .int .i64 r.mid, .int .i64 r.gap, .int .i64 r.reach, (.slice A' r.links.length c')]) (by simp [results, Try.results22, go_sem, y0, y1, y2, y3, y4]) rfl ?_
      obtain ⟨h5, h6, h7⟩ := HOF.out.parts
      exact ⟨_, _, rfl, ⟨h7, h5, h6⟩, HBF.out⟩
end

section
open Go.RowKit
attribute [local go_sem] Oper.semAt_some
/-- Are there few links, few pins, few rows of the ball? -/
def thinB (n m k : Nat) : Bool := decide (n ≤ 16) && (decide (m ≤ 15) && decide (k ≤ 8))
set_option maxHeartbeats 2000000 in
theorem thin23_c (r : Rk) (A xA Ab : Option Addr) (c n cx k cb : Nat) (w : World) :
    Calls Try.prog 17 #[.agg #[.int .i64 r.rows, .int .i64 r.mid, .int .i64 r.gap, .int .i64 r.reach, .slice A r.links.length c], .slice xA n cx, .slice Ab k cb] w (Ans w (.bool (thinB r.links.length n k))) := by
  have HB := Lib.hid (Below.refl w.heap.size w)
  have hb : Below w.heap.size w (w.alloc (.cells #[.int .i64 r.rows, .int .i64 r.mid, .int .i64 r.gap, .int .i64 r.reach, .slice A r.links.length c] 58)) := (Below.refl _ _).alloc (Nat.le_refl _) _
  replace HB := Lib.hid (HB.out.trans (hb.mono HB.out.size))
  clear hb
  have k4 : (w.alloc (.cells #[.int .i64 r.rows, .int .i64 r.mid, .int .i64 r.gap, .int .i64 r.reach, .slice A r.links.length c] 58)).cell? ⟨w.heap.size, 4, none⟩ = some (.slice A r.links.length c) := by simp
  have HT : Hid (thinB r.links.length n k = (decide (r.links.length ≤ 16) && (decide (n ≤ 15) && decide (k ≤ 8)))) := rfl
  by_cases h1 : r.links.length ≤ 16
  · have a1 : decide ((r.links.length : Int) ≤ 16) = true := by simp; omega
    have b1 : decide (r.links.length ≤ 16) = true := by simp; omega
    rw [decide_eq_true h1] at HT
    clear h1
    by_cases h2 : n ≤ 15
    · have a2 : decide ((n : Int) ≤ 15) = true := by simp; omega
      have b2 : decide (n ≤ 15) = true := by simp; omega
      rw [decide_eq_true h2] at HT
      clear h2
      by_cases h3 : k ≤ 8
      · have a3 : decide ((k : Int) ≤ 8) = true := by simp; omega
        have b3 : decide (k ≤ 8) = true := by simp; omega
        rw [decide_eq_true h3] at HT
        clear h3
        go_enter Try.func17, Try.ntmps17
        go_wp2_with fail
        go_ret
        exact ⟨ret_bool (by rw [HT.out]; rfl), HB.out⟩
      · have a3 : decide ((k : Int) ≤ 8) = false := by simp; omega
        have b3 : decide (k ≤ 8) = false := by simp; omega
        rw [decide_eq_false h3] at HT
        clear h3
        go_enter Try.func17, Try.ntmps17
        go_wp2_with fail
        go_ret
        exact ⟨ret_bool (by rw [HT.out]; rfl), HB.out⟩
    · have a2 : decide ((n : Int) ≤ 15) = false := by simp; omega
      have b2 : decide (n ≤ 15) = false := by simp; omega
      rw [decide_eq_false h2] at HT
      clear h2
      go_enter Try.func17, Try.ntmps17
      go_wp2_with fail
      go_ret
      exact ⟨ret_bool (by rw [HT.out]; rfl), HB.out⟩
  · have a1 : decide ((r.links.length : Int) ≤ 16) = false := by simp; omega
    have b1 : decide (r.links.length ≤ 16) = false := by simp; omega
    rw [decide_eq_false h1] at HT
    clear h1
    go_enter Try.func17, Try.ntmps17
    go_wp2_with fail
    go_ret
    exact ⟨ret_bool (by rw [HT.out]; rfl), HB.out⟩
end

section
open Go.RowKit
attribute [local go_sem] Oper.semAt_some
def Wds (B : Nat) (w : World) (A : Option Addr) (ws : List Int) : Prop :=
  0 < ws.length → ∃ b off, A = some ⟨b, off, none⟩ ∧ b < B ∧ ∀ k, k < ws.length → w.cell? ⟨b, off + k, none⟩ = some (.int .u16 (ix ws k)) ∧ 0 ≤ ix ws k ∧ ix ws k ≤ 65535
theorem Wds.step {w w' : World} {A : Option Addr} {xs : List Int} (h : Wds w.heap.size w A xs) (hb : Below w.heap.size w w') : Wds w'.heap.size w' A xs := fun hp => by
  obtain ⟨b, off, hA, hlt, hc⟩ := h hp
  exact ⟨b, off, hA, Nat.lt_of_lt_of_le hlt hb.size, fun k hk => ⟨(hb.cell (p := ⟨b, off + k, none⟩) hlt).trans (hc k hk).1, (hc k hk).2⟩⟩
/-- One of some words. -/
def wordF (ws : List Int) (k : Nat) : Int := if ws.length = 0 then 0 else ix ws (k % ws.length)
theorem wordF_bd {B : Nat} {w : World} {A : Option Addr} {ws : List Int} (h : Wds B w A ws) (k : Nat) : 0 ≤ wordF ws k ∧ wordF ws k ≤ 65535 := by
  unfold wordF
  split
  · omega
  · obtain ⟨b, off, _, _, hc⟩ := h (by omega)
    exact (hc _ (Nat.mod_lt _ (by omega))).2
set_option maxHeartbeats 400000 in
theorem word81_c {B : Nat} (A : Option Addr) (ws : List Int) (c k : Nat) (w : World) (h : Wds B w A ws) (hk : k ≤ 1000000) (_hc : ws.length ≤ c ∧ c ≤ 9223372036854775807) :
    Calls Try.prog 59 #[.slice A ws.length c, .int .i64 (k : Int)] w (Same w (.int .i64 (wordF ws k))) := by
  by_cases h0 : ws.length = 0
  · have h0' : ((ws.length : Int) == 0) = true := by simp [h0]
    have HR : Hid (wordF ws k = 0) := by show _ = _; simp [wordF, h0]
    clear h0
    go_enter Try.func59, Try.ntmps59
    go_wp2_with fail
    go_ret
    exact ⟨ret_int HR.out.symm, rfl⟩
  · have h0' : ((ws.length : Int) == 0) = false := by rw [beq_eq_false_iff_ne]; omega
    obtain ⟨b, off, rfl, _, hcl⟩ := h (by omega)
    have hlt := Nat.mod_lt k (show 0 < ws.length by omega)
    obtain ⟨h1, h2, h3⟩ := hcl _ hlt
    have HR : Hid (wordF ws k = ix ws (k % ws.length)) := by show _ = _; simp [wordF, h0]
    clear hcl
    have e : ((k : Int) % (ws.length : Int)) = ((k % ws.length : Nat) : Int) := by simp
    have hp : 0 < ws.length := by omega
    clear h0
    generalize hj : k % ws.length = j at *
    have HJ := Lib.hid hj
    clear hj
    go_enter Try.func59, Try.ntmps59
    go_wp2_with fail
    go_ret
    exact ⟨ret_int HR.out.symm, rfl⟩
/-- The boards, and what carries, by words. -/
def pickB (ball : List Rg) (ws : List Int) : List Int := (List.range ball.length).map fun k => (gx ball k).lo + wordF ws k % ((gx ball k).hi - (gx ball k).lo + 1)
def pickC (ls : List Lk) (ws : List Int) : List Bool := (List.range ls.length).map fun k => (lx ls k).s || (wordF ws (k + 3) % 2 == 1)
theorem pickB_len (ball : List Rg) (ws : List Int) : (pickB ball ws).length = ball.length := by simp [pickB]
theorem pickC_len (ls : List Lk) (ws : List Int) : (pickC ls ws).length = ls.length := by simp [pickC]
theorem take_map_range {α : Type} (n k : Nat) (f : Nat → α) (h : k < n) : ((List.range n).map f).take (k + 1) = ((List.range n).map f).take k ++ [f k] := by
  rw [List.take_succ_eq_append_getElem (by simpa using h)]
  simp
theorem len_take_map_range {α : Type} (n k : Nat) (f : Nat → α) (h : k ≤ n) : (((List.range n).map f).take k).length = k := by simp; omega
/-- What Picked answers. -/
def PickP (w : World) (xs : List Int) (bs : List Bool) (e : Ending) (w' : World) : Prop := ∃ A c B d, e = .returned (.tuple #[.slice A xs.length c, .slice B bs.length d]) ∧ (Ints w'.heap.size w' A xs ∧ xs.length ≤ c ∧ c ≤ 9223372036854775807) ∧ (Bls w'.heap.size w' B bs ∧ bs.length ≤ d ∧ d ≤ 9223372036854775807) ∧ Below w.heap.size w w'
set_option maxRecDepth 100000 in
set_option maxHeartbeats 8000000 in
theorem picked49_c (r : Rk) (A Ab Aw : Option Addr) (c cb cw : Nat) (ball : List Rg) (ws : List Int) (w : World) (hl : Lks w.heap.size w A r.links) (hc : r.links.length ≤ c ∧ c ≤ 9223372036854775807) (hball : Rgs w.heap.size w Ab ball) (hcb : ball.length ≤ cb ∧ cb ≤ 9223372036854775807) (hws : Wds w.heap.size w Aw ws) (hcw : ws.length ≤ cw ∧ cw ≤ 9223372036854775807)
    (hbl : ∀ k, k < ball.length → 0 ≤ (gx ball k).lo ∧ (gx ball k).lo ≤ (gx ball k).hi ∧ (gx ball k).hi ≤ 60) (hl16 : r.links.length ≤ 16) (hb8 : ball.length ≤ 8) :
    Calls Try.prog 24 #[.agg #[.int .i64 r.rows, .int .i64 r.mid, .int .i64 r.gap, .int .i64 r.reach, .slice A r.links.length c], .slice Ab ball.length cb, .slice Aw ws.length cw] w (PickP w (pickB ball ws) (pickC r.links ws)) := by
  have HB := Lib.hid (Below.refl w.heap.size w)
  have HL := Lib.hid hl
  have HBa := Lib.hid hball
  have HWs := Lib.hid hws
  clear hl hball hws
  have hb : Below w.heap.size w (w.alloc (.cells #[.int .i64 r.rows, .int .i64 r.mid, .int .i64 r.gap, .int .i64 r.reach, .slice A r.links.length c] 58)) := (Below.refl _ _).alloc (Nat.le_refl _) _
  replace HL := Lib.hid (HL.out.step hb)
  replace HBa := Lib.hid (HBa.out.step hb)
  replace HWs := Lib.hid (HWs.out.step hb)
  replace HB := Lib.hid (HB.out.trans (hb.mono HB.out.size))
  clear hb
  have k4 : (w.alloc (.cells #[.int .i64 r.rows, .int .i64 r.mid, .int .i64 r.gap, .int .i64 r.reach, .slice A r.links.length c] 58)).cell? ⟨w.heap.size, 4, none⟩ = some (.slice A r.links.length c) := by simp
  go_enter Try.func24, Try.ntmps24
  go_wp2_with fail
  generalize (w.alloc (.cells #[.int .i64 r.rows, .int .i64 r.mid, .int .i64 r.gap, .int .i64 r.reach, .slice A r.links.length c] 58)) = x1 at *
  go_loopw [8, 10] (fun o i wr => ∃ k : Nat, k ≤ ball.length ∧ i = .int .i64 k ∧ OwnI x1.heap.size wr o ((pickB ball ws).take k) ∧ Below x1.heap.size x1 wr) (fun _ i _ => ball.length - (intOf i).toNat)
  case atStart => exact ⟨0, by omega, rfl, OwnI.nil _ _, Below.refl _ _⟩
  case round =>
    obtain ⟨k, hk, rfl, ho, hb⟩ := hrel
    have HO := Lib.hid ho
    have HBW := Lib.hid hb
    obtain ⟨Ao, co, rfl⟩ := ho.form
    clear ho
    have hlt : ((pickB ball ws).take k).length = k := len_take_map_range _ _ _ hk
    have hwr : x1.heap.size ≤ wr.heap.size := hb.size
    by_cases h1 : k < ball.length
    · obtain ⟨b, off, rfl, hb0, c1, c2⟩ := (HBa.out.below hb).at_ h1
      have HT : Hid ((pickB ball ws).take (k + 1) = (pickB ball ws).take k ++ [(gx ball k).lo + wordF ws k % ((gx ball k).hi - (gx ball k).lo + 1)]) := take_map_range _ _ _ h1
      have hrg := hbl k h1
      have h1i : (k : Int) < (ball.length : Int) := by omega
      replace HO : Hid (OwnI x1.heap.size wr.drew (.slice Ao ((pickB ball ws).take k).length co) ((pickB ball ws).take k)) := HO.out.kept (Below.refl _ _).drew
      obtain ⟨hw0, hw1⟩ := wordF_bd HWs.out k
      have HWD := Lib.hid (word81_c Aw ws cw k wr.drew ((HWs.out.step hb).step (Below.refl _ _).drew) (by omega) hcw)
      rw [hlt] at HO ⊢
      have HLT := Lib.hid hlt
      generalize wordF ws k = wf at *
      generalize gx ball k = x at *
      obtain ⟨lo, hi⟩ := x
      dsimp only at c1 c2 hrg HT
      have m0 := Int.emod_nonneg wf (b := hi - lo + 1) (by omega)
      have m1 := Int.emod_lt_of_pos wf (b := hi - lo + 1) (by omega)
      have z3 : IntKind.i64.wrap (hi - lo) = hi - lo := IntWalk.i64_in _ (by omega)
      have z4 : IntKind.i64.wrap (hi - lo + 1) = hi - lo + 1 := IntWalk.i64_in _ (by omega)
      have z5 : wf.tmod (hi - lo + 1) = wf % (hi - lo + 1) := Int.tmod_eq_emod_of_nonneg hw0
      have z6 : IntKind.i64.wrap (wf % (hi - lo + 1)) = wf % (hi - lo + 1) := IntWalk.i64_in _ (by omega)
      have z7 : IntKind.i64.wrap (lo + wf % (hi - lo + 1)) = lo + wf % (hi - lo + 1) := IntWalk.i64_in _ (by omega)
      have z8 : ¬ (hi - lo + 1 = 0) := by omega
      have z9 : (hi - lo + 1 == 0) = false := by rw [beq_eq_false_iff_ne]; omega
      obtain ⟨pb, hpb⟩ : ∃ pb, pb = lo + wf % (hi - lo + 1) := ⟨_, rfl⟩
      rw [← hpb] at HT z7
      have HPB : Hid (lo + wf % (hi - lo + 1) = pb) := hpb.symm
      have z10 : lo + wf % (hi - lo + 1) = pb := hpb.symm
      clear hb hlt m0 m1 hpb
      go_wp2_with fail
      refine wp_region_noPanic ?_
      have hS : (fun W' : World => Below x1.heap.size wr W') wr.drew := (Below.refl _ _).drew
      refine wp_region_any (by kernel_rfl) (wpAny_of_T (S := fun W' : World => Below x1.heap.size wr W') (m := 26) _ _ _ _ ?_)
      refine' T_take (i := 0) (v := _) rfl (by kernel_rfl) (by kernel_rfl) (by kernel_rfl) (by kernel_rfl) (fun _ _ _ h => h) (by kernel_rfl) hS ?_ ?_
      rotate_left 1
      · intro Wv hW
        replace c1 := (hW.cell (p := ⟨b, off + k * 2, none⟩) hb0).trans c1
        replace c2 := (hW.cell (p := ⟨b, off + k * 2 + 1, none⟩) hb0).trans c2
        go_simp
        first | done | with_reducible rfl
      try simp only [Act.put, List.setIfInBounds_toArray, List.set_cons_zero, List.set_cons_succ]
      refine' T_take (i := 1) (v := _) rfl (by kernel_rfl) (by kernel_rfl) (by kernel_rfl) (by kernel_rfl) (fun _ _ _ h => h) (by kernel_rfl) hS ?_ ?_
      rotate_left 1
      · intro Wv hW
        replace c1 := (hW.cell (p := ⟨b, off + k * 2, none⟩) hb0).trans c1
        replace c2 := (hW.cell (p := ⟨b, off + k * 2 + 1, none⟩) hb0).trans c2
        go_simp
        first | done | with_reducible rfl
      try simp only [Act.put, List.setIfInBounds_toArray, List.set_cons_zero, List.set_cons_succ]
      refine' T_take (i := 2) (v := _) rfl (by kernel_rfl) (by kernel_rfl) (by kernel_rfl) (by kernel_rfl) (fun _ _ _ h => h) (by kernel_rfl) hS ?_ ?_
      rotate_left 1
      · intro Wv hW
        replace c1 := (hW.cell (p := ⟨b, off + k * 2, none⟩) hb0).trans c1
        replace c2 := (hW.cell (p := ⟨b, off + k * 2 + 1, none⟩) hb0).trans c2
        go_simp
        first | done | with_reducible rfl
      try simp only [Act.put, List.setIfInBounds_toArray, List.set_cons_zero, List.set_cons_succ]
      refine' T_take (i := 3) (v := _) rfl (by kernel_rfl) (by kernel_rfl) (by kernel_rfl) (by kernel_rfl) (fun _ _ _ h => h) (by kernel_rfl) hS ?_ ?_
      rotate_left 1
      · intro Wv hW
        replace c1 := (hW.cell (p := ⟨b, off + k * 2, none⟩) hb0).trans c1
        replace c2 := (hW.cell (p := ⟨b, off + k * 2 + 1, none⟩) hb0).trans c2
        go_simp
        first | done | with_reducible rfl
      try simp only [Act.put, List.setIfInBounds_toArray, List.set_cons_zero, List.set_cons_succ]
      refine' T_take (i := 4) (v := _) rfl (by kernel_rfl) (by kernel_rfl) (by kernel_rfl) (by kernel_rfl) (fun _ _ _ h => h) (by kernel_rfl) hS ?_ ?_
      rotate_left 1
      · intro Wv hW
        replace c1 := (hW.cell (p := ⟨b, off + k * 2, none⟩) hb0).trans c1
        replace c2 := (hW.cell (p := ⟨b, off + k * 2 + 1, none⟩) hb0).trans c2
        go_simp
        first | done | with_reducible rfl
      try simp only [Act.put, List.setIfInBounds_toArray, List.set_cons_zero, List.set_cons_succ]
      refine' T_take (i := 5) (v := _) rfl (by kernel_rfl) (by kernel_rfl) (by kernel_rfl) (by kernel_rfl) (fun _ _ _ h => h) (by kernel_rfl) hS ?_ ?_
      rotate_left 1
      · intro Wv hW
        replace c1 := (hW.cell (p := ⟨b, off + k * 2, none⟩) hb0).trans c1
        replace c2 := (hW.cell (p := ⟨b, off + k * 2 + 1, none⟩) hb0).trans c2
        go_simp
        first | done | with_reducible rfl
      try simp only [Act.put, List.setIfInBounds_toArray, List.set_cons_zero, List.set_cons_succ]
      refine' T_take (i := 6) (v := _) rfl (by kernel_rfl) (by kernel_rfl) (by kernel_rfl) (by kernel_rfl) (fun _ _ _ h => h) (by kernel_rfl) hS ?_ ?_
      rotate_left 1
      · intro Wv hW
        replace c1 := (hW.cell (p := ⟨b, off + k * 2, none⟩) hb0).trans c1
        replace c2 := (hW.cell (p := ⟨b, off + k * 2 + 1, none⟩) hb0).trans c2
        go_simp
        first | done | with_reducible rfl
      try simp only [Act.put, List.setIfInBounds_toArray, List.set_cons_zero, List.set_cons_succ]
      refine' T_take (i := 7) (v := _) rfl (by kernel_rfl) (by kernel_rfl) (by kernel_rfl) (by kernel_rfl) (fun _ _ _ h => h) (by kernel_rfl) hS ?_ ?_
      rotate_left 1
      · intro Wv hW
        replace c1 := (hW.cell (p := ⟨b, off + k * 2, none⟩) hb0).trans c1
        replace c2 := (hW.cell (p := ⟨b, off + k * 2 + 1, none⟩) hb0).trans c2
        go_simp
        first | done | with_reducible rfl
      try simp only [Act.put, List.setIfInBounds_toArray, List.set_cons_zero, List.set_cons_succ]
      refine' T_take (i := 9) (v := _) rfl (by kernel_rfl) (by kernel_rfl) (by kernel_rfl) (by kernel_rfl) (fun _ _ _ h => h) (by kernel_rfl) hS ?_ ?_
      rotate_left 1
      · intro Wv hW
        replace c1 := (hW.cell (p := ⟨b, off + k * 2, none⟩) hb0).trans c1
        replace c2 := (hW.cell (p := ⟨b, off + k * 2 + 1, none⟩) hb0).trans c2
        go_simp
        first | done | with_reducible rfl
      try simp only [Act.put, List.setIfInBounds_toArray, List.set_cons_zero, List.set_cons_succ]
      refine' T_take (i := 10) (v := _) rfl (by kernel_rfl) (by kernel_rfl) (by kernel_rfl) (by kernel_rfl) (fun _ _ _ h => h) (by kernel_rfl) hS ?_ ?_
      rotate_left 1
      · intro Wv hW
        replace c1 := (hW.cell (p := ⟨b, off + k * 2, none⟩) hb0).trans c1
        replace c2 := (hW.cell (p := ⟨b, off + k * 2 + 1, none⟩) hb0).trans c2
        go_simp
        first | done | with_reducible rfl
      try simp only [Act.put, List.setIfInBounds_toArray, List.set_cons_zero, List.set_cons_succ]
      refine' T_take (i := 11) (v := _) rfl (by kernel_rfl) (by kernel_rfl) (by kernel_rfl) (by kernel_rfl) (fun _ _ _ h => h) (by kernel_rfl) hS ?_ ?_
      rotate_left 1
      · intro Wv hW
        replace c1 := (hW.cell (p := ⟨b, off + k * 2, none⟩) hb0).trans c1
        replace c2 := (hW.cell (p := ⟨b, off + k * 2 + 1, none⟩) hb0).trans c2
        go_simp
        first | done | with_reducible rfl
      try simp only [Act.put, List.setIfInBounds_toArray, List.set_cons_zero, List.set_cons_succ]
      refine' T_take (i := 12) (v := _) rfl (by kernel_rfl) (by kernel_rfl) (by kernel_rfl) (by kernel_rfl) (fun _ _ _ h => h) (by kernel_rfl) hS ?_ ?_
      rotate_left 1
      · intro Wv hW
        replace c1 := (hW.cell (p := ⟨b, off + k * 2, none⟩) hb0).trans c1
        replace c2 := (hW.cell (p := ⟨b, off + k * 2 + 1, none⟩) hb0).trans c2
        go_simp
        first | done | with_reducible rfl
      try simp only [Act.put, List.setIfInBounds_toArray, List.set_cons_zero, List.set_cons_succ]
      refine' T_take (i := 13) (v := _) rfl (by kernel_rfl) (by kernel_rfl) (by kernel_rfl) (by kernel_rfl) (fun _ _ _ h => h) (by kernel_rfl) hS ?_ ?_
      rotate_left 1
      · intro Wv hW
        replace c1 := (hW.cell (p := ⟨b, off + k * 2, none⟩) hb0).trans c1
        replace c2 := (hW.cell (p := ⟨b, off + k * 2 + 1, none⟩) hb0).trans c2
        go_simp
        first | done | with_reducible rfl
      try simp only [Act.put, List.setIfInBounds_toArray, List.set_cons_zero, List.set_cons_succ]
      refine' T_take (i := 14) (v := _) rfl (by kernel_rfl) (by kernel_rfl) (by kernel_rfl) (by kernel_rfl) (fun _ _ _ h => h) (by kernel_rfl) hS ?_ ?_
      rotate_left 1
      · intro Wv hW
        replace c1 := (hW.cell (p := ⟨b, off + k * 2, none⟩) hb0).trans c1
        replace c2 := (hW.cell (p := ⟨b, off + k * 2 + 1, none⟩) hb0).trans c2
        go_simp
        first | done | with_reducible rfl
      try simp only [Act.put, List.setIfInBounds_toArray, List.set_cons_zero, List.set_cons_succ]
      refine' T_take (i := 15) (v := _) rfl (by kernel_rfl) (by kernel_rfl) (by kernel_rfl) (by kernel_rfl) (fun _ _ _ h => h) (by kernel_rfl) hS ?_ ?_
      rotate_left 1
      · intro Wv hW
        replace c1 := (hW.cell (p := ⟨b, off + k * 2, none⟩) hb0).trans c1
        replace c2 := (hW.cell (p := ⟨b, off + k * 2 + 1, none⟩) hb0).trans c2
        go_simp
        first | done | with_reducible rfl
      try simp only [Act.put, List.setIfInBounds_toArray, List.set_cons_zero, List.set_cons_succ]
      refine' T_take (i := 16) (v := _) rfl (by kernel_rfl) (by kernel_rfl) (by kernel_rfl) (by kernel_rfl) (fun _ _ _ h => h) (by kernel_rfl) hS ?_ ?_
      rotate_left 1
      · intro Wv hW
        replace c1 := (hW.cell (p := ⟨b, off + k * 2, none⟩) hb0).trans c1
        replace c2 := (hW.cell (p := ⟨b, off + k * 2 + 1, none⟩) hb0).trans c2
        go_simp
        first | done | with_reducible rfl
      try simp only [Act.put, List.setIfInBounds_toArray, List.set_cons_zero, List.set_cons_succ]
      refine' T_take (i := 17) (v := _) rfl (by kernel_rfl) (by kernel_rfl) (by kernel_rfl) (by kernel_rfl) (fun _ _ _ h => h) (by kernel_rfl) hS ?_ ?_
      rotate_left 1
      · intro Wv hW
        replace c1 := (hW.cell (p := ⟨b, off + k * 2, none⟩) hb0).trans c1
        replace c2 := (hW.cell (p := ⟨b, off + k * 2 + 1, none⟩) hb0).trans c2
        go_simp
        first | done | with_reducible rfl
      try simp only [Act.put, List.setIfInBounds_toArray, List.set_cons_zero, List.set_cons_succ]
      refine' T_take (i := 18) (v := _) rfl (by kernel_rfl) (by kernel_rfl) (by kernel_rfl) (by kernel_rfl) (fun _ _ _ h => h) (by kernel_rfl) hS ?_ ?_
      rotate_left 1
      · intro Wv hW
        replace c1 := (hW.cell (p := ⟨b, off + k * 2, none⟩) hb0).trans c1
        replace c2 := (hW.cell (p := ⟨b, off + k * 2 + 1, none⟩) hb0).trans c2
        go_simp
        first | done | with_reducible rfl
      try simp only [Act.put, List.setIfInBounds_toArray, List.set_cons_zero, List.set_cons_succ]
      refine' T_take (i := 19) (v := _) rfl (by kernel_rfl) (by kernel_rfl) (by kernel_rfl) (by kernel_rfl) (fun _ _ _ h => h) (by kernel_rfl) hS ?_ ?_
      rotate_left 1
      · intro Wv hW
        replace c1 := (hW.cell (p := ⟨b, off + k * 2, none⟩) hb0).trans c1
        replace c2 := (hW.cell (p := ⟨b, off + k * 2 + 1, none⟩) hb0).trans c2
        go_simp
        first | done | with_reducible rfl
      try simp only [Act.put, List.setIfInBounds_toArray, List.set_cons_zero, List.set_cons_succ]
      refine' T_take (i := 20) (v := _) rfl (by kernel_rfl) (by kernel_rfl) (by kernel_rfl) (by kernel_rfl) (fun _ _ _ h => h) (by kernel_rfl) hS ?_ ?_
      rotate_left 1
      · intro Wv hW
        replace c1 := (hW.cell (p := ⟨b, off + k * 2, none⟩) hb0).trans c1
        replace c2 := (hW.cell (p := ⟨b, off + k * 2 + 1, none⟩) hb0).trans c2
        go_simp
        first | done | with_reducible rfl
      try simp only [Act.put, List.setIfInBounds_toArray, List.set_cons_zero, List.set_cons_succ]
      refine T_ready (rs := [8]) (by kernel_rfl) (by simp) ?_
      refine TReady.cons rfl (fun K hK => ?_) TReady.nil
      try go_simp
      refine (HWD.out).mono ?_
      rintro e w6 ⟨rfl, rfl⟩
      try go_simp
      refine hK.out _ _ (fun _ => hS) (fun _ => ?_)
      clear hK K
      try simp only [Act.put, List.setIfInBounds_toArray, List.set_cons_zero, List.set_cons_succ]
      refine' T_take (i := 21) (v := _) rfl (by kernel_rfl) (by kernel_rfl) (by kernel_rfl) (by kernel_rfl) (fun _ _ _ h => h) (by kernel_rfl) hS ?_ ?_
      rotate_left 1
      · intro Wv hW
        replace c1 := (hW.cell (p := ⟨b, off + k * 2, none⟩) hb0).trans c1
        replace c2 := (hW.cell (p := ⟨b, off + k * 2 + 1, none⟩) hb0).trans c2
        go_simp
        first | done | with_reducible rfl
      try simp only [Act.put, List.setIfInBounds_toArray, List.set_cons_zero, List.set_cons_succ]
      refine' T_take (i := 22) (v := _) rfl (by kernel_rfl) (by kernel_rfl) (by kernel_rfl) (by kernel_rfl) (fun _ _ _ h => h) (by kernel_rfl) hS ?_ ?_
      rotate_left 1
      · intro Wv hW
        replace c1 := (hW.cell (p := ⟨b, off + k * 2, none⟩) hb0).trans c1
        replace c2 := (hW.cell (p := ⟨b, off + k * 2 + 1, none⟩) hb0).trans c2
        go_simp
        first | done | with_reducible rfl
      try simp only [Act.put, List.setIfInBounds_toArray, List.set_cons_zero, List.set_cons_succ]
      refine T_ready (rs := [23]) (by kernel_rfl) (by simp) ?_
      refine TReady.cons rfl (fun K hK => ?_) TReady.nil
      try go_simp
      refine hK.out _ _ (fun _ => hS.alloc (Nat.le_trans hwr hS.size) _) (fun hS2 => ?_)
      replace hS := hS2 (by decide)
      clear hS2 hK K
      try simp only [Act.put, List.setIfInBounds_toArray, List.set_cons_zero, List.set_cons_succ]
      refine T_ready (rs := [24]) (by kernel_rfl) (by simp) ?_
      refine TReady.cons rfl (fun K hK => ?_) TReady.nil
      refine step_app_int (.tmp 18) (.tmp 41) rfl rfl x1.heap.size wr.drew _ ((pickB ball ws).take k) pb rfl rfl HO (by simp; omega) hwr ?_
      intro A9 c9 w2 HO2 HB2
      refine hK.out _ _ (fun _ => below_drew_l HB2.out) (fun hS2 => ?_)
      replace hS := hS2 (by decide)
      clear hK K hS2
      try simp only [Act.put, List.setIfInBounds_toArray, List.set_cons_zero, List.set_cons_succ]
      refine' T_take (i := 25) (v := _) rfl (by kernel_rfl) (by kernel_rfl) (by kernel_rfl) (by kernel_rfl) (fun _ _ _ h => h) (by kernel_rfl) hS ?_ ?_
      rotate_left 1
      · intro Wv hW
        replace c1 := (hW.cell (p := ⟨b, off + k * 2, none⟩) hb0).trans c1
        replace c2 := (hW.cell (p := ⟨b, off + k * 2 + 1, none⟩) hb0).trans c2
        go_simp
        first | done | with_reducible rfl
      try simp only [Act.put, List.setIfInBounds_toArray, List.set_cons_zero, List.set_cons_succ]
      refine T_done (by kernel_rfl) ?_ _
      refine NoPanic.normal ?_
      try go_simp
      clear z3 z4 z5 z6 z7 z8 z9 z10
      have ho2 := HO2.out
      rw [HLT.out] at ho2
      have HO3 := Lib.hid ho2
      clear ho2
      go_wp2_with fail
      go_roundw
      case rel => exact ⟨k + 1, by omega, by go_num, by have e := HLT.out; rw [List.length_take] at e; rw [HT.out, e]; exact HO3.out, HBW.out.trans (below_drew_l HB2.out)⟩
      case measure => simp [intOf]; omega
    · obtain rfl : k = ball.length := by omega
      have e1 : (pickB ball ws).take ball.length = pickB ball ws := List.take_of_length_le (by rw [pickB_len]; exact Nat.le_refl _)
      rw [e1] at HO ⊢
      have hlt1 : (pickB ball ws).length = ball.length := pickB_len _ _
      have HP := Lib.hid HO.out
      rw [hlt1] at HP ⊢
      replace k4 := cell_of_ans hb k4
      have HLr := Lib.hid (HL.out.step hb)
      have HWr := Lib.hid (HWs.out.step hb)
      have hz := hb.size
      clear hb e1 hlt HO
      obtain ⟨wz, hwz⟩ : ∃ wz, wz = wr := ⟨_, rfl⟩
      go_wp2_with fail
      go_loopw [9, 11] (fun o i wt => ∃ k : Nat, k ≤ r.links.length ∧ i = .int .i64 k ∧ OwnB 4 wr.heap.size wt o ((pickC r.links ws).take k) ∧ Below wr.heap.size wr wt) (fun _ i _ => r.links.length - (intOf i).toNat)
      case atStart => exact ⟨0, by omega, rfl, OwnB.nil _ _ _, Below.refl _ _⟩
      case round =>
        obtain ⟨k, hk, rfl, ho, hb⟩ := hrel
        rename World => wt
        have HO := Lib.hid ho
        have HBT := Lib.hid hb
        obtain ⟨Ao2, co2, rfl⟩ := ho.form
        clear ho
        have hlt : ((pickC r.links ws).take k).length = k := len_take_map_range _ _ _ hk
        have hwt : wr.heap.size ≤ wt.heap.size := hb.size
        have q4 := cell_of_ans hb k4
        by_cases h2 : k < r.links.length
        · obtain ⟨b, off, rfl, hb0, c1, c2, c3⟩ := (HLr.out.step hb).at_ h2
          have HT : Hid ((pickC r.links ws).take (k + 1) = (pickC r.links ws).take k ++ [(lx r.links k).s || (wordF ws (k + 3) % 2 == 1)]) := take_map_range _ _ _ h2
          have h2i : (k : Int) < (r.links.length : Int) := by omega
          obtain ⟨hw0, hw1⟩ := wordF_bd HWr.out (k + 3)
          have HWD := Lib.hid (word81_c Aw ws cw (k + 3) wt (HWr.out.step hb) (by omega) hcw)
          have hk3 : IntKind.i64.wrap ((k : Int) + 3) = ((k + 3 : Nat) : Int) := by rw [IntWalk.i64_in _ (by omega)]; omega
          rw [hlt] at HO ⊢
          have HLT := Lib.hid hlt
          generalize wordF ws (k + 3) = wf at *
          have z5 : wf.tmod 2 = wf % 2 := Int.tmod_eq_emod_of_nonneg hw0
          have z6 : IntKind.i64.wrap (wf % 2) = wf % 2 := IntWalk.i64_in _ (by omega)
          generalize lx r.links k = x at *
          obtain ⟨xf, xt, xs⟩ := x
          dsimp only at c1 c2 c3 HT
          clear hb hlt
          have HO2 : Hid (OwnB 4 wr.heap.size wt (.slice Ao2 k co2) ((pickC r.links ws).take k)) := HO.out
          cases xs
          · go_wp2_with (first | (go_at_call 59; refine HWD.out.mono ?_; rintro e w6 ⟨rfl, rfl⟩) | (at_builtin; refine wpList_appB (t := 74) (e := 4) ⟨rfl, rfl⟩ (.tmp 50) (.tmp 65) rfl rfl wr.heap.size _ _ ((pickC r.links ws).take k) (wf % 2 == 1) rfl rfl HO (by rw [HLT.out]; omega) hwt ?_; intro A9 c9 w2 HO2 HB2))
            have ho2 := HO2.out
            rw [HLT.out] at ho2
            have HO3 := Lib.hid ho2
            clear ho2
            try rw [HLT.out]
            go_roundw
            case rel => exact ⟨k + 1, by omega, by go_num, by have e := HLT.out; rw [List.length_take] at e; rw [HT.out, e]; exact HO3.out, HBT.out.trans HB2.out⟩
            case measure => simp [intOf]; omega
          · go_wp2_with (at_builtin; refine wpList_appB (t := 74) (e := 4) ⟨rfl, rfl⟩ (.tmp 50) (.tmp 65) rfl rfl wr.heap.size _ _ ((pickC r.links ws).take k) true rfl rfl HO (by rw [HLT.out]; omega) hwt ?_; intro A9 c9 w2 HO2 HB2)
            have ho2 := HO2.out
            rw [HLT.out] at ho2
            have HO3 := Lib.hid ho2
            clear ho2
            try rw [HLT.out]
            go_roundw
            case rel => exact ⟨k + 1, by omega, by go_num, by have e := HLT.out; rw [List.length_take] at e; rw [HT.out, e]; exact HO3.out, HBT.out.trans HB2.out⟩
            case measure => simp [intOf]; omega
        · obtain rfl : k = r.links.length := by omega
          have e1 : (pickC r.links ws).take r.links.length = pickC r.links ws := List.take_of_length_le (by rw [pickC_len]; exact Nat.le_refl _)
          rw [e1] at HO ⊢
          have hlt2 : (pickC r.links ws).length = r.links.length := pickC_len _ _
          have HQ := Lib.hid HO.out
          rw [hlt2] at HQ ⊢
          have HPP : Hid (PickP w (pickB ball ws) (pickC r.links ws) (.returned (.tuple #[.slice Ao ball.length co, .slice Ao2 r.links.length co2])) wt) := by
            have hI := (HP.out.kept hb).isInts
            obtain ⟨a1, a2, a3⟩ := isInts_parts hI
            obtain ⟨b1, b2, b3⟩ := HQ.out.parts
            refine ⟨Ao, co, Ao2, co2, by rw [pickB_len, pickC_len], ⟨a3, a1, a2⟩, ⟨b3, b1, b2⟩, (HB.out.trans (HBW.out.mono HB.out.size)).trans (hb.mono ?_)⟩
            have := HB.out.size
            have := HBW.out.size
            omega
          clear hb e1 hlt HO hlt1 hlt2
          go_wp2_with fail
          refine bodyPost_ret (results_tmp2 rfl _ _ _) rfl ?_
          exact HPP.out
end

section
theorem ix_nats {l : List Nat} {k : Nat} (h : k < l.length) : ix (natsI l) k = (l[k] : Int) := by
  rw [ix_lt (by rw [natsI_len]; exact h)]
  simp [natsI]
theorem rises_nats {l : List Nat} (h : l.Pairwise (· < ·)) : risesB (natsI l) = true := by
  rw [risesB, allB_iff]
  intro k hk
  rw [natsI_len] at hk
  rw [decide_eq_true_eq, lastOf]
  split
  · rw [ix_nats hk]; omega
  · rw [ix_nats hk, ix_nats (show k - 1 < l.length by omega)]
    have := List.pairwise_iff_getElem.1 h (k - 1) k (by omega) hk (by omega)
    omega
theorem pin_of {r : Rk} {u : Nat} (he : rackErr r = 0) (hu : ∀ p, u.testBit p = true → p < pn r.rows) : pinErr r (natsI (listS u)) = 0 ∧ pinS r (natsI (listS u)) = u := by
  have hpn := pn_le (rackOk he).rows1 (rackOk he).rows4
  have hu10 : u < 2 ^ 10 := Nat.lt_pow_two_of_testBit _ fun i hi => by
    rw [Bool.eq_false_iff]
    intro h
    have := hu i h
    omega
  have h1 : pinErr r (natsI (listS u)) = 0 := by
    rw [pinErr, if_pos he, rises_nats (rising_listS u), Bool.and_true, if_pos]
    rw [pinsB, allB_iff]
    intro k hk
    rw [natsI_len] at hk
    rw [inB_eq, ix_nats hk]
    have := hu _ (mem_listS.1 (List.getElem_mem hk)).2
    omega
  refine ⟨h1, ?_⟩
  rw [pinS, if_pos h1]
  have : (natsI (listS u)).map Int.toNat = listS u := by simp [natsI, Function.comp_def]
  rw [this, ofS_listS hu10]
theorem pins_list {r : Rk} {xs : List Int} (h : pinErr r xs = 0) : xs = natsI (listS (pinS r xs)) := by
  obtain ⟨h1, h2, h3⟩ := pins_nats h
  have hpn := pn_le (rackOk (pinErr_rack h)).rows1 (rackOk (pinErr_rack h)).rows4
  rw [pinS, if_pos h, listS_ofS h2 fun p hp => by have := h3 p hp; omega]
  exact h1
theorem ix_map_range {n k : Nat} {f : Nat → Int} (h : k < n) : ix ((List.range n).map f) k = f k := by
  rw [ix_lt (by simpa using h)]
  simp
theorem bx_map_range {n k : Nat} {f : Nat → Bool} (h : k < n) : bx ((List.range n).map f) k = f k := by
  rw [bx_lt (by simpa using h)]
  simp
section
variable {r : Rk} {xs : List Int} {ball : List Rg} {ws : List Int}
theorem pick_within (hr : Ranges ball) : Within ball (ix (pickB ball ws)) := fun k hk => by
  rw [pickB, ix_map_range hk]
  have h := hr k hk
  have a := Int.emod_nonneg (wordF ws k) (b := (gx ball k).hi - (gx ball k).lo + 1) (by omega)
  have b := Int.emod_lt_of_pos (wordF ws k) (b := (gx ball k).hi - (gx ball k).lo + 1) (by omega)
  omega
theorem pick_carry : Carry r.links (bx (pickC r.links ws)) := fun i hi hs => by
  rw [pickC, bx_map_range hi, hs, Bool.true_or]
theorem pick_truth (hr : Ranges ball) : truthB r ball (pickB ball ws) (pickC r.links ws) = true := by
  rw [truthB, Bool.and_eq_true, Bool.and_eq_true, Bool.and_eq_true, decide_eq_true_eq, decide_eq_true_eq, overB, carryB, allB_iff, allB_iff]
  refine ⟨⟨pickB_len _ _, pickC_len _ _⟩, fun k hk => ?_, fun k hk => ?_⟩
  · rw [pickB_len] at hk
    rw [inB_eq]
    exact pick_within hr k hk
  · rw [pickC_len] at hk
    show (!(lx r.links k).s || bx (pickC r.links ws) k) = true
    cases hs : (lx r.links k).s
    · rfl
    · rw [pick_carry k hk hs]; rfl
theorem thr_parts (h : thrErr r xs ball = 0) : pinErr r xs = 0 ∧ Ok r ∧ ball.length = r.rows.toNat ∧ Ranges ball ∧ (∀ k, k < ball.length → 0 ≤ (gx ball k).lo ∧ (gx ball k).lo ≤ (gx ball k).hi ∧ (gx ball k).hi ≤ 60 ∧ (gx ball k).hi - (gx ball k).lo ≤ 8) := by
  obtain ⟨h1, h2⟩ := thrErr_pin h
  obtain ⟨a, b, c⟩ := ballB_ok h2
  exact ⟨h1, rackOk (pinErr_rack h1), by omega, b, c⟩
theorem hit_ok (h : thrErr r xs ball = 0) : hitErr r xs ball (pickB ball ws) (pickC r.links ws) = 0 := by
  rw [hitErr, if_pos h, pick_truth (thr_parts h).2.2.2.1, if_pos rfl]
noncomputable def pickS (r : Rk) (xs : List Int) (ball : List Rg) (ws : List Int) : Nat := leftS r (pinS r xs) (ix (pickB ball ws)) (bx (pickC r.links ws))
theorem hit_list (h : thrErr r xs ball = 0) : hitL r xs ball (pickB ball ws) (pickC r.links ws) = natsI (listS (pickS r xs ball ws)) := by
  rw [hitL, if_pos (hit_ok h)]; rfl
theorem pick_leave (h : thrErr r xs ball = 0) : LeaveP r (pinS r xs) ball (pickS r xs ball ws) := ⟨_, _, pick_within (thr_parts h).2.2.2.1, pick_carry, rfl⟩
theorem leave_pins {u : Nat} (h : pinErr r xs = 0) (hu : LeaveP r (pinS r xs) ball u) : pinErr r (natsI (listS u)) = 0 ∧ pinS r (natsI (listS u)) = u :=
  pin_of (pinErr_rack h) fun p hp => pinS_pn h p (leave_sub pinS_lt hu p hp)
theorem leave_left {u : Nat} (h : thrErr r xs ball = 0) (hu : LeaveP r (pinS r xs) ball u) : (leftV r xs ball).1 ≤ many u ∧ many u ≤ (leftV r xs ball).2 := by
  rw [leftV, if_pos h]
  exact (leftN_is (thr_parts h).2.2.2.1).1 u hu
theorem truth_len (h : thrErr r xs ball = 0) : (leftV r xs ball).1 ≤ (hitL r xs ball (pickB ball ws) (pickC r.links ws)).length ∧ (hitL r xs ball (pickB ball ws) (pickC r.links ws)).length ≤ (leftV r xs ball).2 := by
  rw [hit_list h, natsI_len]
  exact leave_left h (pick_leave h)
end
end

section
open Go.RowKit
/-- Nothing more can be found from the first i pins of the leave. -/
def Shut (s : Nat) (ps : List Nat) (i : Nat) : Prop := ∀ j (h : j < (listS s).length), j < i → ∀ x ∈ ps, nbB (listS s)[j] x = true → (listS s)[j] ∈ ps
end

section
open Go.RowKit
theorem bit_test (b k : Nat) : (((b : Int) / 2 ^ k).tmod 2 == 1) = b.testBit k := by
  have h1 : ((b : Int) / 2 ^ k) = ((b / 2 ^ k : Nat) : Int) := by simp
  have h2 : (((b / 2 ^ k : Nat) : Int).tmod 2) = ((b / 2 ^ k % 2 : Nat) : Int) := rfl
  rw [h1, h2, Nat.testBit_eq_decide_div_mod_eq]
  exact Bool.eq_iff_iff.2 (by simp; omega)
end

section
open Go.RowKit
attribute [local go_sem] Oper.semAt_some
/-- The pins of bits, among the first k. -/
def ofT (b : Nat) : Nat → List Int
  | 0 => []
  | k + 1 => if b.testBit k then ofT b k ++ [(k : Int)] else ofT b k
theorem ofT_len (b : Nat) : ∀ k, (ofT b k).length ≤ k
  | 0 => Nat.le_refl _
  | k + 1 => by
    have := ofT_len b k
    rw [ofT]; split
    · rw [List.length_append]; exact Nat.succ_le_succ this
    · omega
set_option maxRecDepth 100000 in
set_option maxHeartbeats 8000000 in
theorem of42_c (r : Rk) (A : Option Addr) (c bi : Nat) (w : World) (hr : Ok r) (hbi : bi ≤ 1024) :
    Calls Try.prog 20 #[.agg #[.int .i64 r.rows, .int .i64 r.mid, .int .i64 r.gap, .int .i64 r.reach, .slice A r.links.length c], .int .i64 (bi : Int)] w (NewO w (ofT bi (pn r.rows))) := by
  have HB := Lib.hid (Below.refl w.heap.size w)
  have hb : Below w.heap.size w (w.alloc (.cells #[.int .i64 r.rows, .int .i64 r.mid, .int .i64 r.gap, .int .i64 r.reach, .slice A r.links.length c] 58)) := (Below.refl _ _).alloc (Nat.le_refl _) _
  replace HB := Lib.hid (HB.out.trans (hb.mono HB.out.size))
  clear hb
  have k0 : (w.alloc (.cells #[.int .i64 r.rows, .int .i64 r.mid, .int .i64 r.gap, .int .i64 r.reach, .slice A r.links.length c] 58)).cell? ⟨w.heap.size, 0, none⟩ = some (.int .i64 r.rows) := by simp
  have k1 : (w.alloc (.cells #[.int .i64 r.rows, .int .i64 r.mid, .int .i64 r.gap, .int .i64 r.reach, .slice A r.links.length c] 58)).cell? ⟨w.heap.size, 1, none⟩ = some (.int .i64 r.mid) := by simp
  have k2 : (w.alloc (.cells #[.int .i64 r.rows, .int .i64 r.mid, .int .i64 r.gap, .int .i64 r.reach, .slice A r.links.length c] 58)).cell? ⟨w.heap.size, 2, none⟩ = some (.int .i64 r.gap) := by simp
  have k3 : (w.alloc (.cells #[.int .i64 r.rows, .int .i64 r.mid, .int .i64 r.gap, .int .i64 r.reach, .slice A r.links.length c] 58)).cell? ⟨w.heap.size, 3, none⟩ = some (.int .i64 r.reach) := by simp
  have k4 : (w.alloc (.cells #[.int .i64 r.rows, .int .i64 r.mid, .int .i64 r.gap, .int .i64 r.reach, .slice A r.links.length c] 58)).cell? ⟨w.heap.size, 4, none⟩ = some (.slice A r.links.length c) := by simp
  have hpn := pn_le hr.rows1 hr.rows4
  have HPI := Lib.hid (fun W => pins40_c r.rows r.mid r.gap r.reach A r.links.length c W hr.rows1 hr.rows4)
  clear hr
  obtain ⟨n, hn⟩ : ∃ n, n = pn r.rows := ⟨_, rfl⟩
  rw [← hn] at hpn HPI
  have HN := Lib.hid hn
  clear hn
  go_enter Try.func20, Try.ntmps20
  go_wp2_with fail
  generalize (w.alloc (.cells #[.int .i64 r.rows, .int .i64 r.mid, .int .i64 r.gap, .int .i64 r.reach, .slice A r.links.length c] 58)) = x1 at *
  go_loopw [5, 6] (fun o i wr => ∃ k : Nat, k ≤ n ∧ i = .int .i64 k ∧ OwnI x1.heap.size wr o (ofT bi k) ∧ Below x1.heap.size x1 wr) (fun _ i _ => n - (intOf i).toNat)
  case atStart => exact ⟨0, by omega, rfl, OwnI.nil _ _, Below.refl _ _⟩
  case round =>
    obtain ⟨k, hk, rfl, ho, hb⟩ := hrel
    have HO := Lib.hid ho
    have HBr := Lib.hid hb
    obtain ⟨Ao, co, rfl⟩ := ho.form
    have hwr : x1.heap.size ≤ wr.heap.size := hb.size
    clear ho
    replace k0 := cell_of_ans hb k0
    replace k1 := cell_of_ans hb k1
    replace k2 := cell_of_ans hb k2
    replace k3 := cell_of_ans hb k3
    replace k4 := cell_of_ans hb k4
    clear hb
    go_wp2_with fail
    refine (HPI.out _).mono ?_
    rintro e w2 ⟨rfl, hb⟩
    replace HO := Lib.hid (HO.out.kept hb)
    replace HBr := Lib.hid (HBr.out.trans (hb.mono hwr))
    replace hwr : x1.heap.size ≤ w2.heap.size := Nat.le_trans hwr hb.size
    clear hb
    by_cases h1 : k < n
    · have hki : (k : Int) < (n : Int) := by omega
      have hbt := bit_test bi k
      have hfk := ofT_len bi k
      have hb16 : (bi : Int) / 2 ^ k ≤ 1024 := by
        have : (bi : Int) / 2 ^ k = ((bi / 2 ^ k : Nat) : Int) := by simp
        rw [this]
        have := Nat.div_le_self bi (2 ^ k)
        omega
      have HT : Hid (ofT bi (k + 1) = if bi.testBit k then ofT bi k ++ [(k : Int)] else ofT bi k) := rfl
      clear k0 k1 k2 k3 k4
      generalize ofT bi k = os at *
      cases e1 : bi.testBit k
      · rw [e1] at HT hbt
        go_wp2_with fail
        go_roundw
        case rel => exact ⟨k + 1, by omega, by go_num, by rw [HT.out]; exact HO.out, HBr.out⟩
        case measure => simp [intOf]; omega
      · rw [e1] at HT hbt
        go_wp2_with (at_builtin; refine wpList_app_int (.tmp 19) (.tmp 21) rfl rfl x1.heap.size _ _ os (k : Int) rfl rfl HO (by omega) hwr ?_; intro A2 c2 wn HO2 HB2)
        go_roundw
        case rel => exact ⟨k + 1, by omega, by go_num, by rw [HT.out]; exact HO2.out, HBr.out.trans HB2.out⟩
        case measure => simp [intOf]; omega
    · obtain rfl : k = n := by omega
      have hki : ¬ (k : Int) < (k : Int) := by omega
      go_wp2_with fail
      go_ret
      rw [← HN.out]
      exact ⟨Ao, co, rfl, ownsRow_base HO.out HB.out.size, HB.out.trans (HBr.out.mono HB.out.size)⟩
end

section
open Go.ChangeShapes Go.WideShapes Go.ChangeAt Go.RowKit Go.Deep
theorem spot_none {w : World} {a : Addr} {v : Value} (h : w.cell? a = some v) : a = ⟨a.block, a.off, none⟩ := by
  obtain ⟨b, o, s⟩ := a
  cases s with
  | none => rfl
  | some s =>
    simp only [World.cell?] at h
    split at h <;> simp at h
theorem addr_add (b o n : Nat) : (⟨b, o, none⟩ : Addr).add n = ⟨b, o + n, none⟩ := by
  unfold Addr.add
  split <;> simp [*]
section
variable {H : Type} {enc : TypeId × Value → H} {P : Program}
theorem below_sameAt {W W' : World} (hb : Below W.heap.size W W') {p : MemPlace} (hp : p.block < W.heap.size) : W.sameAt W' p := by
  cases p with
  | cell b off => exact hb.cell (p := ⟨b, off, none⟩) hp
  | map b => exact hb.block b hp
theorem below_kept {W W' : World} (hb : Below W.heap.size W W') (may : MemPlace → Prop) : W.keptBut W' may := by
  refine ⟨hb.os, hb.output, fun i hi => ?_⟩
  rw [hb.block i hi]
  cases h : W.heap[i]? with
  | none => trivial
  | some o => cases o <;> simp
theorem trodAll_stays (hl : laidOutB P = true) {W W' : World} {sp : Nat → Bool} : ∀ {ts : List TypeId} {vs : List Value} {ds : List (DataW H)} {ps : List MemPlace}, (∀ t ∈ ts, P.readableRec t = true ∧ t < P.types.size) →
    DataW.TrodAll enc P W 0 (fun _ => true) true ts vs ds ps → (∀ p ∈ ps, W.sameAt W' p) → (∀ p ∈ ps, sp p.block = true) → DataW.TrodAll enc P W' 0 sp true ts vs ds ps
  | [], _, _, _, _, h, _, _ => by
    obtain ⟨rfl, rfl, rfl⟩ := trodAll_nil h
    exact trodAll_mk0
  | t :: ts, _, _, _, hr, h, hs, hb => by
    obtain ⟨v, vs, d, ds, p, q, rfl, rfl, rfl, h1, h2⟩ := trodAll_cons h
    exact trodAll_cons_mk (WideElems.Trod_stays hl (hr t (by simp)).1 (hr t (by simp)).2 h1 (fun x hx => hs x (by simp [hx])) (fun x hx => hb x (by simp [hx])))
      (trodAll_stays hl (fun t ht => hr t (by simp [ht])) h2 (fun x hx => hs x (by simp [hx])) (fun x hx => hb x (by simp [hx])))
theorem law_post (hl : laidOutB P = true) {f : Func} {s : ChangeSpec} {W W' : World} {args : Array Value} {ds gs : List (DataW H)} {before : List MemPlace} {tb : TypeId}
    (hW : DataW.Whole enc P f.params.toList s.vars false W args.toList ds gs before) (hv : s.vars = []) (hr : ∀ t ∈ f.params.toList, P.readableRec t = true ∧ t < P.types.size)
    (hres : f.resultTypes = #[tb]) (htb : P.underlying tb = some .bool) (hfn : s.fn H (ds ++ gs) = { results := [.lit (.bool true)], args := ds }) (hb : Below W.heap.size W W') :
    s.post enc P f false true false false W args (.bool true) W' := by
  have hlt : ∀ p ∈ before, p.block < W.heap.size := hW.lt
  have hW' := hW
  obtain ⟨p, q, hA, hV, rfl, hz, hn⟩ := hW
  have hq : q = [] ∧ gs = [] := by
    rw [hv] at hV
    obtain ⟨rfl, rfl⟩ := trodVars_none hV
    exact ⟨rfl, rfl⟩
  obtain ⟨rfl, rfl⟩ := hq
  refine ⟨ds, [], p ++ [], [], p, [], hW', ?_, ?_, ?_, below_kept hb _, fun h => by cases h⟩
  · rw [hfn, hres]
    exact trodAll_cons_mk (p := []) (shut_bool htb true) trodAll_mk0
  · rw [hfn]
    exact trodAll_stays hl hr hA (fun x hx => below_sameAt hb (hlt x (by simp [hx]))) (fun x hx => by simpa using hlt x (by simp [hx]))
  · rw [hfn, hv]
    rfl
end
section
variable {H : Type} {enc : TypeId × Value → H} {W : World} {b0 : Nat}
theorem cells3 : Try.prog.cellsOf 3 = 1 := by kernel_rfl
theorem cells4 : Try.prog.cellsOf 4 = 1 := by kernel_rfl
theorem cells22 : Try.prog.cellsOf 56 = 1 := by kernel_rfl
theorem cells24 : Try.prog.cellsOf 58 = 5 := by kernel_rfl
theorem cells28 : Try.prog.cellsOf 154 = 3 := by kernel_rfl
theorem cells61 : Try.prog.cellsOf 73 = 1 := by kernel_rfl
theorem und3 : Try.prog.underlying 3 = some (.int .i64) := by kernel_rfl
theorem und22 : Try.prog.underlying 56 = some (.slice 154) := by kernel_rfl
theorem und61 : Try.prog.underlying 73 = some (.int .u16) := by kernel_rfl
theorem und89 : Try.prog.underlying 25 = some (.slice 73) := by kernel_rfl
theorem und24 : Try.prog.underlying 58 = some (.struct (Try.prog.fieldsOf 58)) := by kernel_rfl
theorem und28 : Try.prog.underlying 154 = some (.struct (Try.prog.fieldsOf 154)) := by kernel_rfl
theorem list3 {cs : List Value} (h : cs.length = 3) : ∃ a b c, cs = [a, b, c] := by
  match cs, h with
  | [a, b, c], _ => exact ⟨a, b, c, rfl⟩
theorem list5 {cs : List Value} (h : cs.length = 5) : ∃ a b c d e, cs = [a, b, c, d, e] := by
  match cs, h with
  | [a, b, c, d, e], _ => exact ⟨a, b, c, d, e, rfl⟩
set_option maxRecDepth 100000 in
theorem open_linkC {fuel : Nat} {cs : List Value} {x : DataW H × List MemPlace} (hl : cs.length = 3) (h : DataW.trod enc Try.prog W 0 (fun _ => true) true fuel 154 cs = some x) :
    ∃ (a b : Int) (s : Bool), cs = [.int .i64 a, .int .i64 b, .bool s] := by
  obtain ⟨c0, c1, c2, rfl⟩ := list3 hl
  obtain ⟨xs, n, _, _, hl, hlen, hfs⟩ := DataW.trod_struct und28 h
  have f0 : DataW.trod enc Try.prog W 0 (fun _ => true) true n 3 (List.take (Try.prog.cellsOf 3) [c0, c1, c2]) = xs[0]? := hfs 0 _ rfl
  have f1 : DataW.trod enc Try.prog W 0 (fun _ => true) true n 3 (List.take (Try.prog.cellsOf 3) [c1, c2]) = xs[1]? := hfs 1 _ rfl
  have f2 : DataW.trod enc Try.prog W 0 (fun _ => true) true n 4 (List.take (Try.prog.cellsOf 4) [c2]) = xs[2]? := hfs 2 _ rfl
  rw [cells3] at f0 f1
  rw [cells4] at f2
  match xs, hlen with
  | [y0, y1, y2], _ =>
    obtain ⟨n0, e0, _, _⟩ := DataW.trod_int und3 f0
    obtain ⟨n1, e1, _, _⟩ := DataW.trod_int und3 f1
    obtain ⟨n2, e2, _⟩ := DataW.trod_bool under4 f2
    simp at e0 e1 e2
    subst e0 e1 e2
    exact ⟨n0, n1, n2, rfl⟩
instance : Inhabited Lk := ⟨⟨0, 0, false⟩⟩
instance : Inhabited Rg := ⟨⟨0, 0⟩⟩
theorem open_lksC {fuel : Nat} {cs : List Value} {x : DataW H × List MemPlace} (h : DataW.trod enc Try.prog W 0 (fun _ => true) true fuel 56 cs = some x) :
    ∃ A ws c, cs = [.slice A ws.length c] ∧ (ws.length ≤ c ∧ c ≤ 9223372036854775807) ∧ Lks W.heap.size W A ws := by
  rcases open_slice und22 h with ⟨rfl, _⟩ | ⟨a, len, cap, m, n, D, Pl, rfl, _, hl, hm, hmm, _, hx⟩
  · exact ⟨none, [], 0, rfl, by decide, fun hp => by simp at hp⟩
  · have hlm : len ≤ m := by rw [hmm]; split <;> omega
    unfold maxLen at hm
    have each : ∀ i, i < len → ∃ q : Lk, W.cell? (a.add (i * 3)) = some (.int .i64 q.f) ∧ W.cell? ((a.add (i * 3)).add 1) = some (.int .i64 q.t) ∧ W.cell? ((a.add (i * 3)).add 2) = some (.bool q.s) := by
      intro i hi
      obtain ⟨cs', h1, h2⟩ := hx i (by omega)
      rw [cells28] at h1
      obtain ⟨_, hlen, hcell⟩ := World.cells?_some h1
      obtain ⟨v0, v1, v2, rfl⟩ := open_linkC hlen h2
      have e0 := hcell 0 (by omega)
      have e1 := hcell 1 (by omega)
      have e2 := hcell 2 (by omega)
      rw [show (a.add (i * 3)).add 0 = a.add (i * 3) from by simp [Addr.add]] at e0
      exact ⟨⟨v0, v1, v2⟩, by simpa using e0, by simpa using e1, by simpa using e2⟩
    obtain ⟨q, hq⟩ := choose_lt each
    have e : ((List.range len).map q).length = len := by simp
    refine ⟨some a, (List.range len).map q, cap, by rw [e], by omega, fun hp => ?_⟩
    rw [e] at hp
    have h0 := spot_none (hq 0 hp).1
    rw [show a.add (0 * 3) = a from by simp [Addr.add]] at h0
    refine ⟨a.block, a.off, by rw [← h0], ?_, fun k hk => ?_⟩
    · have := World.block_lt_of_cell? W _ (hq 0 hp).1
      rwa [show a.add (0 * 3) = a from by simp [Addr.add]] at this
    · rw [e] at hk
      obtain ⟨c0, c1, c2⟩ := hq k hk
      have ew : lx ((List.range len).map q) k = q k := by rw [lx_lt (by simpa using hk)]; simp
      rw [ew]
      rw [h0, addr_add] at c0 c1 c2
      rw [addr_add] at c1 c2
      exact ⟨c0, c1, c2⟩
theorem array5 {cs : Array Value} (h : cs.size = 5) : ∃ a b c d e, cs = #[a, b, c, d, e] := by
  obtain ⟨l⟩ := cs
  obtain ⟨a, b, c, d, e, rfl⟩ := list5 (by simpa using h)
  exact ⟨a, b, c, d, e, rfl⟩
set_option maxRecDepth 100000 in
theorem open_rack {v : Value} {d : DataW H} {p : List MemPlace} (hv : Value.okWide Try.prog W .any b0 58 v) (h : DataW.Trod enc Try.prog W 0 (fun _ => true) true 58 v d p) :
    ∃ (A : Option Addr) (r : Rk) (c : Nat), v = .agg #[.int .i64 r.rows, .int .i64 r.mid, .int .i64 r.gap, .int .i64 r.reach, .slice A r.links.length c] ∧ (r.links.length ≤ c ∧ c ≤ 9223372036854775807) ∧ Lks W.heap.size W A r.links := by
  obtain ⟨cs, rfl, hsz⟩ := okWide_struct und24 hv
  obtain ⟨c0, c1, c2, c3, c4, rfl⟩ := array5 (hsz.trans cells24)
  obtain ⟨fuel, hf⟩ := h
  obtain ⟨xs, n, _, _, hl, hlen, hfs⟩ := DataW.trod_struct und24 hf
  have f0 : DataW.trod enc Try.prog W 0 (fun _ => true) true n 3 (List.take (Try.prog.cellsOf 3) [c0, c1, c2, c3, c4]) = xs[0]? := hfs 0 _ rfl
  have f1 : DataW.trod enc Try.prog W 0 (fun _ => true) true n 3 (List.take (Try.prog.cellsOf 3) [c1, c2, c3, c4]) = xs[1]? := hfs 1 _ rfl
  have f2 : DataW.trod enc Try.prog W 0 (fun _ => true) true n 3 (List.take (Try.prog.cellsOf 3) [c2, c3, c4]) = xs[2]? := hfs 2 _ rfl
  have f3 : DataW.trod enc Try.prog W 0 (fun _ => true) true n 3 (List.take (Try.prog.cellsOf 3) [c3, c4]) = xs[3]? := hfs 3 _ rfl
  have f4 : DataW.trod enc Try.prog W 0 (fun _ => true) true n 56 (List.take (Try.prog.cellsOf 56) [c4]) = xs[4]? := hfs 4 _ rfl
  rw [cells3] at f0 f1 f2 f3
  rw [cells22] at f4
  match xs, hlen with
  | [y0, y1, y2, y3, y4], _ =>
    obtain ⟨n0, e0, _, _⟩ := DataW.trod_int und3 f0
    obtain ⟨n1, e1, _, _⟩ := DataW.trod_int und3 f1
    obtain ⟨n2, e2, _, _⟩ := DataW.trod_int und3 f2
    obtain ⟨n3, e3, _, _⟩ := DataW.trod_int und3 f3
    obtain ⟨A, ws, c, e, h1, h2⟩ := open_lksC f4
    simp at e0 e1 e2 e3 e
    subst e0 e1 e2 e3 e
    exact ⟨A, ⟨n0, n1, n2, n3, ws⟩, c, rfl, h1, h2⟩
set_option maxRecDepth 100000 in
theorem open_u16s {v : Value} {d : DataW H} {p : List MemPlace} (hv : Value.okWide Try.prog W .any b0 25 v) (h : DataW.Trod enc Try.prog W 0 (fun _ => true) true 25 v d p) :
    ∃ A ws c, v = .slice A ws.length c ∧ (ws.length ≤ c ∧ c ≤ 9223372036854775807) ∧ Wds W.heap.size W A ws := by
  obtain ⟨a0, len0, cap0, rfl⟩ := okWide_slice und89 hv
  obtain ⟨fuel, hf⟩ := h
  rcases open_ints und89 und61 cells61 hf with ⟨e, _⟩ | ⟨a, len, cap, zs, e, _, hl, hm, hz, _, hc, hw⟩
  · simp only [Value.cells] at e
    exact ⟨none, [], 0, by simpa using e, by decide, fun hp => by simp at hp⟩
  · simp only [if_true] at hz
    unfold maxLen at hm
    have e0 : (zs.take len).length = len := by rw [List.length_take]; omega
    simp only [Value.cells] at e
    refine ⟨some a, zs.take len, cap, by rw [e0]; simpa using e, by omega, fun hp => ?_⟩
    have h0 := spot_none (hc 0 (by omega))
    rw [show a.add 0 = a from by simp [Addr.add]] at h0
    refine ⟨a.block, a.off, by rw [← h0], World.block_lt_of_cell? W _ (hc 0 (by omega)), fun k hk => ?_⟩
    have := hc k (by omega)
    rw [h0, addr_add] at this
    have ei : ix (zs.take len) k = zs.getD k 0 := by
      simp only [ix, List.getD_eq_getElem?_getD, List.getElem?_take]
      rw [if_pos (by omega)]
    have hwk := hw (zs.getD k 0) (by
      rw [List.getD_eq_getElem?_getD, List.getElem?_eq_getElem (show k < zs.length by omega)]
      exact List.getElem_mem _)
    have hb : 0 ≤ zs.getD k 0 ∧ zs.getD k 0 ≤ 65535 := by simpa [Lit.wf, IntKind.min, IntKind.max, IntKind.signed, IntKind.bits] using hwk
    rw [ei]
    exact ⟨this, hb⟩
end
end

end Go.Proofs.Ytenpiinkbfancaa.Rk
