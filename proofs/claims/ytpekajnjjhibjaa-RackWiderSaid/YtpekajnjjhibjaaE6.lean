/-
  The statements' Rack: a copy for the program.
-/
import Derived.Test.YtpekajnjjhibjaaE5
namespace Go.Proofs.Ytpekajnjjhibjaa
open Go.RowKit
set_option linter.unusedSimpArgs false
set_option linter.unusedVariables false

attribute [local go_sem] Oper.semAt_some
def At5 (W : World) (q t : Nat) (v0 v1 v2 v3 v4 : Value) : Prop := W.heap[q]? = some (.cells #[v0, v1, v2, v3, v4] t)
section
variable {W W' : World} {q t : Nat} {v0 v1 v2 v3 v4 : Value}
theorem At5.lt (h : At5 W q t v0 v1 v2 v3 v4) : q < W.heap.size := (Array.getElem?_eq_some_iff.1 h).1
theorem At5.step (h : At5 W q t v0 v1 v2 v3 v4) (hb : Below W.heap.size W W') : At5 W' q t v0 v1 v2 v3 v4 := (hb.block q h.lt).trans h
theorem At5.low {B : Nat} (h : At5 W q t v0 v1 v2 v3 v4) (hb : Below B W W') (hq : q < B) : At5 W' q t v0 v1 v2 v3 v4 := (hb.block q hq).trans h
theorem At5.cells (h : At5 W q t v0 v1 v2 v3 v4) : (W.cell? ⟨q, 0, none⟩ = some v0 ∧ W.cell? ⟨q, 1, none⟩ = some v1 ∧ W.cell? ⟨q, 2, none⟩ = some v2 ∧ W.cell? ⟨q, 3, none⟩ = some v3 ∧ W.cell? ⟨q, 4, none⟩ = some v4) ∧ ∀ i, W.frozen? ⟨q, i, none⟩ = false := by
  unfold At5 at h
  simp [World.cell?, World.frozen?, h]
theorem At5.far {q' i : Nat} (h : At5 W q t v0 v1 v2 v3 v4) (hne : q ≠ q') (v : Value) : At5 (W.setCell ⟨q', i, none⟩ v) q t v0 v1 v2 v3 v4 := (Below.heap_setCell W _ v q hne).trans h
theorem At5.set4 (h : At5 W q t v0 v1 v2 v3 v4) (v : Value) : At5 (W.setCell ⟨q, 4, none⟩ v) q t v0 v1 v2 v3 v := by
  unfold At5 at h ⊢
  simp [World.setCell, Array.getElem?_modify, h]
theorem At5.set (h : At5 W q t v0 v1 v2 v3 v4) (u0 u1 u2 u3 u4 : Value) : At5 (((((W.setCell ⟨q, 0, none⟩ u0).setCell ⟨q, 1, none⟩ u1).setCell ⟨q, 2, none⟩ u2).setCell ⟨q, 3, none⟩ u3).setCell ⟨q, 4, none⟩ u4) q t u0 u1 u2 u3 u4 := by
  unfold At5 at h ⊢
  simp [World.setCell, Array.getElem?_modify, h]
end
theorem below_five {B : Nat} {w W : World} (hb : Below B w W) {q : Nat} (hq : B ≤ q) (u0 u1 u2 u3 u4 : Value) : Below B w (((((W.setCell ⟨q, 0, none⟩ u0).setCell ⟨q, 1, none⟩ u1).setCell ⟨q, 2, none⟩ u2).setCell ⟨q, 3, none⟩ u3).setCell ⟨q, 4, none⟩ u4) :=
  ((((hb.setCell hq u0).setCell hq u1).setCell hq u2).setCell hq u3).setCell hq u4
theorem grown_five (W : World) (q : Nat) (u0 u1 u2 u3 u4 : Value) : W.grownBy (((((W.setCell ⟨q, 0, none⟩ u0).setCell ⟨q, 1, none⟩ u1).setCell ⟨q, 2, none⟩ u2).setCell ⟨q, 3, none⟩ u3).setCell ⟨q, 4, none⟩ u4) (some q) :=
  only_setCell (p := ⟨q, 4, none⟩) (only_setCell (p := ⟨q, 3, none⟩) (only_setCell (p := ⟨q, 2, none⟩) (only_setCell (p := ⟨q, 1, none⟩) (only_setCell (p := ⟨q, 0, none⟩) (World.grownBy.refl _ _) (.inl rfl) u0) (.inl rfl) u1) (.inl rfl) u2) (.inl rfl) u3) (.inl rfl) u4
/-- A rack for the program: the same numbers, the links in new memory. -/
def RackP (w : World) (r : Rk) (e : Ending) (w' : World) : Prop := ∃ A c, e = .returned (.agg #[.int .i64 r.rows, .int .i64 r.mid, .int .i64 r.gap, .int .i64 r.reach, .slice A r.links.length c]) ∧ (Lks w'.heap.size w' A r.links ∧ r.links.length ≤ c ∧ c ≤ 9223372036854775807) ∧ Below w.heap.size w w'

set_option maxRecDepth 100000 in
set_option maxHeartbeats 8000000 in
theorem rack18_c (r : Rk) (A : Option Addr) (c : Nat) (w : World) (hl : Lks w.heap.size w A r.links) (hc : r.links.length ≤ c ∧ c ≤ 9223372036854775807) (hlen : r.links.length ≤ 1000000) :
    Calls Try.prog 18 #[.agg #[.int .i64 r.rows, .int .i64 r.mid, .int .i64 r.gap, .int .i64 r.reach, .slice A r.links.length c]] w (RackP w r) := by
  have HX := Lib.hid hl
  clear hl
  have hbx : Below w.heap.size w (((w.alloc (.cells #[.int .i64 r.rows, .int .i64 r.mid, .int .i64 r.gap, .int .i64 r.reach, .slice A r.links.length c] 24)).alloc (.cells #[.int .i64 0, .int .i64 0, .int .i64 0, .int .i64 0, .slice none 0 0] 39)).alloc (.cells #[.int .i64 r.rows, .int .i64 r.mid, .int .i64 r.gap, .int .i64 r.reach, .slice none 0 0] 39)) := ((((Below.refl _ _).alloc (Nat.le_refl _) _).alloc (by simp) _).alloc (by simp; omega) _)
  have HK : Hid (At5 (((w.alloc (.cells #[.int .i64 r.rows, .int .i64 r.mid, .int .i64 r.gap, .int .i64 r.reach, .slice A r.links.length c] 24)).alloc (.cells #[.int .i64 0, .int .i64 0, .int .i64 0, .int .i64 0, .slice none 0 0] 39)).alloc (.cells #[.int .i64 r.rows, .int .i64 r.mid, .int .i64 r.gap, .int .i64 r.reach, .slice none 0 0] 39)) w.heap.size 24 (.int .i64 r.rows) (.int .i64 r.mid) (.int .i64 r.gap) (.int .i64 r.reach) (.slice A r.links.length c)) := (show At5 _ _ _ _ _ _ _ _ from World.alloc_heap_new w _).step (((Below.refl _ _).alloc (Nat.le_refl _) _).alloc (by simp) _)
  have HR : Hid (At5 (((w.alloc (.cells #[.int .i64 r.rows, .int .i64 r.mid, .int .i64 r.gap, .int .i64 r.reach, .slice A r.links.length c] 24)).alloc (.cells #[.int .i64 0, .int .i64 0, .int .i64 0, .int .i64 0, .slice none 0 0] 39)).alloc (.cells #[.int .i64 r.rows, .int .i64 r.mid, .int .i64 r.gap, .int .i64 r.reach, .slice none 0 0] 39)) (w.heap.size + 1) 39 (.int .i64 0) (.int .i64 0) (.int .i64 0) (.int .i64 0) (.slice none 0 0)) := by
    have h := World.alloc_heap_new (w.alloc (.cells #[.int .i64 r.rows, .int .i64 r.mid, .int .i64 r.gap, .int .i64 r.reach, .slice A r.links.length c] 24)) (.cells #[.int .i64 0, .int .i64 0, .int .i64 0, .int .i64 0, .slice none 0 0] 39)
    rw [World.size_alloc] at h
    exact (show At5 _ _ _ _ _ _ _ _ from h).step ((Below.refl _ _).alloc (Nat.le_refl _) _)
  have HM : Hid (At5 (((w.alloc (.cells #[.int .i64 r.rows, .int .i64 r.mid, .int .i64 r.gap, .int .i64 r.reach, .slice A r.links.length c] 24)).alloc (.cells #[.int .i64 0, .int .i64 0, .int .i64 0, .int .i64 0, .slice none 0 0] 39)).alloc (.cells #[.int .i64 r.rows, .int .i64 r.mid, .int .i64 r.gap, .int .i64 r.reach, .slice none 0 0] 39)) (w.heap.size + 2) 39 (.int .i64 r.rows) (.int .i64 r.mid) (.int .i64 r.gap) (.int .i64 r.reach) (.slice none 0 0)) := by
    have h := World.alloc_heap_new ((w.alloc (.cells #[.int .i64 r.rows, .int .i64 r.mid, .int .i64 r.gap, .int .i64 r.reach, .slice A r.links.length c] 24)).alloc (.cells #[.int .i64 0, .int .i64 0, .int .i64 0, .int .i64 0, .slice none 0 0] 39)) (.cells #[.int .i64 r.rows, .int .i64 r.mid, .int .i64 r.gap, .int .i64 r.reach, .slice none 0 0] 39)
    rw [World.size_alloc, World.size_alloc] at h
    exact h
  have hz : (((w.alloc (.cells #[.int .i64 r.rows, .int .i64 r.mid, .int .i64 r.gap, .int .i64 r.reach, .slice A r.links.length c] 24)).alloc (.cells #[.int .i64 0, .int .i64 0, .int .i64 0, .int .i64 0, .slice none 0 0] 39)).alloc (.cells #[.int .i64 r.rows, .int .i64 r.mid, .int .i64 r.gap, .int .i64 r.reach, .slice none 0 0] 39)).heap.size = w.heap.size + 3 := by simp
  have HB := Lib.hid hbx
  clear hbx
  go_enter Try.func18, Try.ntmps18
  go_wp2_with fail
  generalize (((w.alloc (.cells #[.int .i64 r.rows, .int .i64 r.mid, .int .i64 r.gap, .int .i64 r.reach, .slice A r.links.length c] 24)).alloc (.cells #[.int .i64 0, .int .i64 0, .int .i64 0, .int .i64 0, .slice none 0 0] 39)).alloc (.cells #[.int .i64 r.rows, .int .i64 r.mid, .int .i64 r.gap, .int .i64 r.reach, .slice none 0 0] 39)) = x3 at *
  go_loopw [4] (fun i wr => ∃ (k : Nat) (A' : Option Addr) (c' : Nat), k ≤ r.links.length ∧ i = .int .i64 k ∧ At5 wr (w.heap.size + 2) 39 (.int .i64 r.rows) (.int .i64 r.mid) (.int .i64 r.gap) (.int .i64 r.reach) (.slice A' k c') ∧ OwnK 99 (w.heap.size + 3) wr (.slice A' k c') (r.links.take k) ∧ At5 wr w.heap.size 24 (.int .i64 r.rows) (.int .i64 r.mid) (.int .i64 r.gap) (.int .i64 r.reach) (.slice A r.links.length c) ∧ At5 wr (w.heap.size + 1) 39 (.int .i64 0) (.int .i64 0) (.int .i64 0) (.int .i64 0) (.slice none 0 0) ∧ Below w.heap.size w wr) (fun i _ => r.links.length - (intOf i).toNat)
  case atStart => exact ⟨0, none, 0, by omega, rfl, HM.out, by simp; exact OwnK.nil _ _ _, HK.out, HR.out, HB.out⟩
  case round =>
    obtain ⟨k, A', c', hk, rfl, hM, hO, hK, hR, hb⟩ := hrel
    rename World => wr
    obtain ⟨⟨-, -, -, -, k4⟩, -⟩ := hK.cells
    obtain ⟨⟨m0, m1, m2, m3, m4⟩, -⟩ := hM.cells
    have HM := Lib.hid hM
    have HO := Lib.hid hO
    have HK := Lib.hid hK
    have HR := Lib.hid hR
    have HB := Lib.hid hb
    have hwr : w.heap.size + 3 ≤ wr.heap.size := by have := hM.lt; omega
    clear hM hO hK hR
    by_cases h1 : k < r.links.length
    · obtain ⟨b, off, rfl, hb0, c1, c2, c3⟩ := (HX.out.below hb).at_ h1
      have HT : Hid (r.links.take (k + 1) = r.links.take k ++ [lx r.links k]) := by show _ = _; rw [List.take_succ_eq_append_getElem h1, lx_lt h1]
      have hlt : (r.links.take k).length = k := by simp; omega
      have h1i : (k : Int) < (r.links.length : Int) := by omega
      clear hb
      replace HO : Hid (OwnK 99 (w.heap.size + 3) wr.drew (.slice A' k c') (r.links.take k)) := HO.out.kept (Below.refl _ _).drew
      generalize lx r.links k = x at *
      obtain ⟨xf, xt, xs⟩ := x
      dsimp only at c1 c2 c3
      have HLT := Lib.hid hlt
      clear hlt
      go_wp2_with fail
      refine wp_region_noPanic ?_
      have hS : (fun W' : World => Below (w.heap.size + 3) wr W') wr.drew := (Below.refl _ _).drew
      refine wp_region_any (by kernel_rfl) (wpAny_of_T (S := fun W' : World => Below (w.heap.size + 3) wr W') (m := 24) _ _ _ _ ?_)
      refine' T_take (i := 0) (v := _) rfl (by kernel_rfl) (by kernel_rfl) (by kernel_rfl) (by kernel_rfl) (fun _ _ _ h => h) (by kernel_rfl) hS ?_ ?_
      rotate_left 1
      · intro Wv hW
        replace c1 := (hW.cell (p := ⟨b, off + k * 3, none⟩) (by dsimp only; omega)).trans c1
        replace c2 := (hW.cell (p := ⟨b, off + k * 3 + 1, none⟩) (by dsimp only; omega)).trans c2
        replace c3 := (hW.cell (p := ⟨b, off + k * 3 + 2, none⟩) (by dsimp only; omega)).trans c3
        replace k4 := (hW.cell (p := ⟨w.heap.size, 4, none⟩) (by dsimp only; omega)).trans k4
        replace m4 := (hW.cell (p := ⟨w.heap.size + 2, 4, none⟩) (by dsimp only; omega)).trans m4
        go_simp
        first | done | with_reducible rfl
      try simp only [Act.put, List.setIfInBounds_toArray, List.set_cons_zero, List.set_cons_succ]
      refine' T_take (i := 1) (v := _) rfl (by kernel_rfl) (by kernel_rfl) (by kernel_rfl) (by kernel_rfl) (fun _ _ _ h => h) (by kernel_rfl) hS ?_ ?_
      rotate_left 1
      · intro Wv hW
        replace c1 := (hW.cell (p := ⟨b, off + k * 3, none⟩) (by dsimp only; omega)).trans c1
        replace c2 := (hW.cell (p := ⟨b, off + k * 3 + 1, none⟩) (by dsimp only; omega)).trans c2
        replace c3 := (hW.cell (p := ⟨b, off + k * 3 + 2, none⟩) (by dsimp only; omega)).trans c3
        replace k4 := (hW.cell (p := ⟨w.heap.size, 4, none⟩) (by dsimp only; omega)).trans k4
        replace m4 := (hW.cell (p := ⟨w.heap.size + 2, 4, none⟩) (by dsimp only; omega)).trans m4
        go_simp
        first | done | with_reducible rfl
      try simp only [Act.put, List.setIfInBounds_toArray, List.set_cons_zero, List.set_cons_succ]
      refine' T_take (i := 2) (v := _) rfl (by kernel_rfl) (by kernel_rfl) (by kernel_rfl) (by kernel_rfl) (fun _ _ _ h => h) (by kernel_rfl) hS ?_ ?_
      rotate_left 1
      · intro Wv hW
        replace c1 := (hW.cell (p := ⟨b, off + k * 3, none⟩) (by dsimp only; omega)).trans c1
        replace c2 := (hW.cell (p := ⟨b, off + k * 3 + 1, none⟩) (by dsimp only; omega)).trans c2
        replace c3 := (hW.cell (p := ⟨b, off + k * 3 + 2, none⟩) (by dsimp only; omega)).trans c3
        replace k4 := (hW.cell (p := ⟨w.heap.size, 4, none⟩) (by dsimp only; omega)).trans k4
        replace m4 := (hW.cell (p := ⟨w.heap.size + 2, 4, none⟩) (by dsimp only; omega)).trans m4
        go_simp
        first | done | with_reducible rfl
      try simp only [Act.put, List.setIfInBounds_toArray, List.set_cons_zero, List.set_cons_succ]
      refine' T_take (i := 3) (v := _) rfl (by kernel_rfl) (by kernel_rfl) (by kernel_rfl) (by kernel_rfl) (fun _ _ _ h => h) (by kernel_rfl) hS ?_ ?_
      rotate_left 1
      · intro Wv hW
        replace c1 := (hW.cell (p := ⟨b, off + k * 3, none⟩) (by dsimp only; omega)).trans c1
        replace c2 := (hW.cell (p := ⟨b, off + k * 3 + 1, none⟩) (by dsimp only; omega)).trans c2
        replace c3 := (hW.cell (p := ⟨b, off + k * 3 + 2, none⟩) (by dsimp only; omega)).trans c3
        replace k4 := (hW.cell (p := ⟨w.heap.size, 4, none⟩) (by dsimp only; omega)).trans k4
        replace m4 := (hW.cell (p := ⟨w.heap.size + 2, 4, none⟩) (by dsimp only; omega)).trans m4
        go_simp
        first | done | with_reducible rfl
      try simp only [Act.put, List.setIfInBounds_toArray, List.set_cons_zero, List.set_cons_succ]
      refine' T_take (i := 4) (v := _) rfl (by kernel_rfl) (by kernel_rfl) (by kernel_rfl) (by kernel_rfl) (fun _ _ _ h => h) (by kernel_rfl) hS ?_ ?_
      rotate_left 1
      · intro Wv hW
        replace c1 := (hW.cell (p := ⟨b, off + k * 3, none⟩) (by dsimp only; omega)).trans c1
        replace c2 := (hW.cell (p := ⟨b, off + k * 3 + 1, none⟩) (by dsimp only; omega)).trans c2
        replace c3 := (hW.cell (p := ⟨b, off + k * 3 + 2, none⟩) (by dsimp only; omega)).trans c3
        replace k4 := (hW.cell (p := ⟨w.heap.size, 4, none⟩) (by dsimp only; omega)).trans k4
        replace m4 := (hW.cell (p := ⟨w.heap.size + 2, 4, none⟩) (by dsimp only; omega)).trans m4
        go_simp
        first | done | with_reducible rfl
      try simp only [Act.put, List.setIfInBounds_toArray, List.set_cons_zero, List.set_cons_succ]
      refine' T_take (i := 5) (v := _) rfl (by kernel_rfl) (by kernel_rfl) (by kernel_rfl) (by kernel_rfl) (fun _ _ _ h => h) (by kernel_rfl) hS ?_ ?_
      rotate_left 1
      · intro Wv hW
        replace c1 := (hW.cell (p := ⟨b, off + k * 3, none⟩) (by dsimp only; omega)).trans c1
        replace c2 := (hW.cell (p := ⟨b, off + k * 3 + 1, none⟩) (by dsimp only; omega)).trans c2
        replace c3 := (hW.cell (p := ⟨b, off + k * 3 + 2, none⟩) (by dsimp only; omega)).trans c3
        replace k4 := (hW.cell (p := ⟨w.heap.size, 4, none⟩) (by dsimp only; omega)).trans k4
        replace m4 := (hW.cell (p := ⟨w.heap.size + 2, 4, none⟩) (by dsimp only; omega)).trans m4
        go_simp
        first | done | with_reducible rfl
      try simp only [Act.put, List.setIfInBounds_toArray, List.set_cons_zero, List.set_cons_succ]
      refine' T_take (i := 6) (v := _) rfl (by kernel_rfl) (by kernel_rfl) (by kernel_rfl) (by kernel_rfl) (fun _ _ _ h => h) (by kernel_rfl) hS ?_ ?_
      rotate_left 1
      · intro Wv hW
        replace c1 := (hW.cell (p := ⟨b, off + k * 3, none⟩) (by dsimp only; omega)).trans c1
        replace c2 := (hW.cell (p := ⟨b, off + k * 3 + 1, none⟩) (by dsimp only; omega)).trans c2
        replace c3 := (hW.cell (p := ⟨b, off + k * 3 + 2, none⟩) (by dsimp only; omega)).trans c3
        replace k4 := (hW.cell (p := ⟨w.heap.size, 4, none⟩) (by dsimp only; omega)).trans k4
        replace m4 := (hW.cell (p := ⟨w.heap.size + 2, 4, none⟩) (by dsimp only; omega)).trans m4
        go_simp
        first | done | with_reducible rfl
      try simp only [Act.put, List.setIfInBounds_toArray, List.set_cons_zero, List.set_cons_succ]
      refine' T_take (i := 7) (v := _) rfl (by kernel_rfl) (by kernel_rfl) (by kernel_rfl) (by kernel_rfl) (fun _ _ _ h => h) (by kernel_rfl) hS ?_ ?_
      rotate_left 1
      · intro Wv hW
        replace c1 := (hW.cell (p := ⟨b, off + k * 3, none⟩) (by dsimp only; omega)).trans c1
        replace c2 := (hW.cell (p := ⟨b, off + k * 3 + 1, none⟩) (by dsimp only; omega)).trans c2
        replace c3 := (hW.cell (p := ⟨b, off + k * 3 + 2, none⟩) (by dsimp only; omega)).trans c3
        replace k4 := (hW.cell (p := ⟨w.heap.size, 4, none⟩) (by dsimp only; omega)).trans k4
        replace m4 := (hW.cell (p := ⟨w.heap.size + 2, 4, none⟩) (by dsimp only; omega)).trans m4
        go_simp
        first | done | with_reducible rfl
      try simp only [Act.put, List.setIfInBounds_toArray, List.set_cons_zero, List.set_cons_succ]
      refine' T_take (i := 8) (v := _) rfl (by kernel_rfl) (by kernel_rfl) (by kernel_rfl) (by kernel_rfl) (fun _ _ _ h => h) (by kernel_rfl) hS ?_ ?_
      rotate_left 1
      · intro Wv hW
        replace c1 := (hW.cell (p := ⟨b, off + k * 3, none⟩) (by dsimp only; omega)).trans c1
        replace c2 := (hW.cell (p := ⟨b, off + k * 3 + 1, none⟩) (by dsimp only; omega)).trans c2
        replace c3 := (hW.cell (p := ⟨b, off + k * 3 + 2, none⟩) (by dsimp only; omega)).trans c3
        replace k4 := (hW.cell (p := ⟨w.heap.size, 4, none⟩) (by dsimp only; omega)).trans k4
        replace m4 := (hW.cell (p := ⟨w.heap.size + 2, 4, none⟩) (by dsimp only; omega)).trans m4
        go_simp
        first | done | with_reducible rfl
      try simp only [Act.put, List.setIfInBounds_toArray, List.set_cons_zero, List.set_cons_succ]
      refine' T_take (i := 9) (v := _) rfl (by kernel_rfl) (by kernel_rfl) (by kernel_rfl) (by kernel_rfl) (fun _ _ _ h => h) (by kernel_rfl) hS ?_ ?_
      rotate_left 1
      · intro Wv hW
        replace c1 := (hW.cell (p := ⟨b, off + k * 3, none⟩) (by dsimp only; omega)).trans c1
        replace c2 := (hW.cell (p := ⟨b, off + k * 3 + 1, none⟩) (by dsimp only; omega)).trans c2
        replace c3 := (hW.cell (p := ⟨b, off + k * 3 + 2, none⟩) (by dsimp only; omega)).trans c3
        replace k4 := (hW.cell (p := ⟨w.heap.size, 4, none⟩) (by dsimp only; omega)).trans k4
        replace m4 := (hW.cell (p := ⟨w.heap.size + 2, 4, none⟩) (by dsimp only; omega)).trans m4
        go_simp
        first | done | with_reducible rfl
      try simp only [Act.put, List.setIfInBounds_toArray, List.set_cons_zero, List.set_cons_succ]
      refine' T_take (i := 10) (v := _) rfl (by kernel_rfl) (by kernel_rfl) (by kernel_rfl) (by kernel_rfl) (fun _ _ _ h => h) (by kernel_rfl) hS ?_ ?_
      rotate_left 1
      · intro Wv hW
        replace c1 := (hW.cell (p := ⟨b, off + k * 3, none⟩) (by dsimp only; omega)).trans c1
        replace c2 := (hW.cell (p := ⟨b, off + k * 3 + 1, none⟩) (by dsimp only; omega)).trans c2
        replace c3 := (hW.cell (p := ⟨b, off + k * 3 + 2, none⟩) (by dsimp only; omega)).trans c3
        replace k4 := (hW.cell (p := ⟨w.heap.size, 4, none⟩) (by dsimp only; omega)).trans k4
        replace m4 := (hW.cell (p := ⟨w.heap.size + 2, 4, none⟩) (by dsimp only; omega)).trans m4
        go_simp
        first | done | with_reducible rfl
      try simp only [Act.put, List.setIfInBounds_toArray, List.set_cons_zero, List.set_cons_succ]
      refine' T_take (i := 11) (v := _) rfl (by kernel_rfl) (by kernel_rfl) (by kernel_rfl) (by kernel_rfl) (fun _ _ _ h => h) (by kernel_rfl) hS ?_ ?_
      rotate_left 1
      · intro Wv hW
        replace c1 := (hW.cell (p := ⟨b, off + k * 3, none⟩) (by dsimp only; omega)).trans c1
        replace c2 := (hW.cell (p := ⟨b, off + k * 3 + 1, none⟩) (by dsimp only; omega)).trans c2
        replace c3 := (hW.cell (p := ⟨b, off + k * 3 + 2, none⟩) (by dsimp only; omega)).trans c3
        replace k4 := (hW.cell (p := ⟨w.heap.size, 4, none⟩) (by dsimp only; omega)).trans k4
        replace m4 := (hW.cell (p := ⟨w.heap.size + 2, 4, none⟩) (by dsimp only; omega)).trans m4
        go_simp
        first | done | with_reducible rfl
      try simp only [Act.put, List.setIfInBounds_toArray, List.set_cons_zero, List.set_cons_succ]
      refine' T_take (i := 12) (v := _) rfl (by kernel_rfl) (by kernel_rfl) (by kernel_rfl) (by kernel_rfl) (fun _ _ _ h => h) (by kernel_rfl) hS ?_ ?_
      rotate_left 1
      · intro Wv hW
        replace c1 := (hW.cell (p := ⟨b, off + k * 3, none⟩) (by dsimp only; omega)).trans c1
        replace c2 := (hW.cell (p := ⟨b, off + k * 3 + 1, none⟩) (by dsimp only; omega)).trans c2
        replace c3 := (hW.cell (p := ⟨b, off + k * 3 + 2, none⟩) (by dsimp only; omega)).trans c3
        replace k4 := (hW.cell (p := ⟨w.heap.size, 4, none⟩) (by dsimp only; omega)).trans k4
        replace m4 := (hW.cell (p := ⟨w.heap.size + 2, 4, none⟩) (by dsimp only; omega)).trans m4
        go_simp
        first | done | with_reducible rfl
      try simp only [Act.put, List.setIfInBounds_toArray, List.set_cons_zero, List.set_cons_succ]
      refine' T_take (i := 13) (v := _) rfl (by kernel_rfl) (by kernel_rfl) (by kernel_rfl) (by kernel_rfl) (fun _ _ _ h => h) (by kernel_rfl) hS ?_ ?_
      rotate_left 1
      · intro Wv hW
        replace c1 := (hW.cell (p := ⟨b, off + k * 3, none⟩) (by dsimp only; omega)).trans c1
        replace c2 := (hW.cell (p := ⟨b, off + k * 3 + 1, none⟩) (by dsimp only; omega)).trans c2
        replace c3 := (hW.cell (p := ⟨b, off + k * 3 + 2, none⟩) (by dsimp only; omega)).trans c3
        replace k4 := (hW.cell (p := ⟨w.heap.size, 4, none⟩) (by dsimp only; omega)).trans k4
        replace m4 := (hW.cell (p := ⟨w.heap.size + 2, 4, none⟩) (by dsimp only; omega)).trans m4
        go_simp
        first | done | with_reducible rfl
      try simp only [Act.put, List.setIfInBounds_toArray, List.set_cons_zero, List.set_cons_succ]
      refine' T_take (i := 14) (v := _) rfl (by kernel_rfl) (by kernel_rfl) (by kernel_rfl) (by kernel_rfl) (fun _ _ _ h => h) (by kernel_rfl) hS ?_ ?_
      rotate_left 1
      · intro Wv hW
        replace c1 := (hW.cell (p := ⟨b, off + k * 3, none⟩) (by dsimp only; omega)).trans c1
        replace c2 := (hW.cell (p := ⟨b, off + k * 3 + 1, none⟩) (by dsimp only; omega)).trans c2
        replace c3 := (hW.cell (p := ⟨b, off + k * 3 + 2, none⟩) (by dsimp only; omega)).trans c3
        replace k4 := (hW.cell (p := ⟨w.heap.size, 4, none⟩) (by dsimp only; omega)).trans k4
        replace m4 := (hW.cell (p := ⟨w.heap.size + 2, 4, none⟩) (by dsimp only; omega)).trans m4
        go_simp
        first | done | with_reducible rfl
      try simp only [Act.put, List.setIfInBounds_toArray, List.set_cons_zero, List.set_cons_succ]
      refine' T_take (i := 15) (v := _) rfl (by kernel_rfl) (by kernel_rfl) (by kernel_rfl) (by kernel_rfl) (fun _ _ _ h => h) (by kernel_rfl) hS ?_ ?_
      rotate_left 1
      · intro Wv hW
        replace c1 := (hW.cell (p := ⟨b, off + k * 3, none⟩) (by dsimp only; omega)).trans c1
        replace c2 := (hW.cell (p := ⟨b, off + k * 3 + 1, none⟩) (by dsimp only; omega)).trans c2
        replace c3 := (hW.cell (p := ⟨b, off + k * 3 + 2, none⟩) (by dsimp only; omega)).trans c3
        replace k4 := (hW.cell (p := ⟨w.heap.size, 4, none⟩) (by dsimp only; omega)).trans k4
        replace m4 := (hW.cell (p := ⟨w.heap.size + 2, 4, none⟩) (by dsimp only; omega)).trans m4
        go_simp
        first | done | with_reducible rfl
      try simp only [Act.put, List.setIfInBounds_toArray, List.set_cons_zero, List.set_cons_succ]
      refine' T_take (i := 16) (v := _) rfl (by kernel_rfl) (by kernel_rfl) (by kernel_rfl) (by kernel_rfl) (fun _ _ _ h => h) (by kernel_rfl) hS ?_ ?_
      rotate_left 1
      · intro Wv hW
        replace c1 := (hW.cell (p := ⟨b, off + k * 3, none⟩) (by dsimp only; omega)).trans c1
        replace c2 := (hW.cell (p := ⟨b, off + k * 3 + 1, none⟩) (by dsimp only; omega)).trans c2
        replace c3 := (hW.cell (p := ⟨b, off + k * 3 + 2, none⟩) (by dsimp only; omega)).trans c3
        replace k4 := (hW.cell (p := ⟨w.heap.size, 4, none⟩) (by dsimp only; omega)).trans k4
        replace m4 := (hW.cell (p := ⟨w.heap.size + 2, 4, none⟩) (by dsimp only; omega)).trans m4
        go_simp
        first | done | with_reducible rfl
      try simp only [Act.put, List.setIfInBounds_toArray, List.set_cons_zero, List.set_cons_succ]
      refine' T_take (i := 17) (v := _) rfl (by kernel_rfl) (by kernel_rfl) (by kernel_rfl) (by kernel_rfl) (fun _ _ _ h => h) (by kernel_rfl) hS ?_ ?_
      rotate_left 1
      · intro Wv hW
        replace c1 := (hW.cell (p := ⟨b, off + k * 3, none⟩) (by dsimp only; omega)).trans c1
        replace c2 := (hW.cell (p := ⟨b, off + k * 3 + 1, none⟩) (by dsimp only; omega)).trans c2
        replace c3 := (hW.cell (p := ⟨b, off + k * 3 + 2, none⟩) (by dsimp only; omega)).trans c3
        replace k4 := (hW.cell (p := ⟨w.heap.size, 4, none⟩) (by dsimp only; omega)).trans k4
        replace m4 := (hW.cell (p := ⟨w.heap.size + 2, 4, none⟩) (by dsimp only; omega)).trans m4
        go_simp
        first | done | with_reducible rfl
      try simp only [Act.put, List.setIfInBounds_toArray, List.set_cons_zero, List.set_cons_succ]
      refine' T_take (i := 18) (v := _) rfl (by kernel_rfl) (by kernel_rfl) (by kernel_rfl) (by kernel_rfl) (fun _ _ _ h => h) (by kernel_rfl) hS ?_ ?_
      rotate_left 1
      · intro Wv hW
        replace c1 := (hW.cell (p := ⟨b, off + k * 3, none⟩) (by dsimp only; omega)).trans c1
        replace c2 := (hW.cell (p := ⟨b, off + k * 3 + 1, none⟩) (by dsimp only; omega)).trans c2
        replace c3 := (hW.cell (p := ⟨b, off + k * 3 + 2, none⟩) (by dsimp only; omega)).trans c3
        replace k4 := (hW.cell (p := ⟨w.heap.size, 4, none⟩) (by dsimp only; omega)).trans k4
        replace m4 := (hW.cell (p := ⟨w.heap.size + 2, 4, none⟩) (by dsimp only; omega)).trans m4
        go_simp
        first | done | with_reducible rfl
      try simp only [Act.put, List.setIfInBounds_toArray, List.set_cons_zero, List.set_cons_succ]
      refine' T_take (i := 19) (v := _) rfl (by kernel_rfl) (by kernel_rfl) (by kernel_rfl) (by kernel_rfl) (fun _ _ _ h => h) (by kernel_rfl) hS ?_ ?_
      rotate_left 1
      · intro Wv hW
        replace c1 := (hW.cell (p := ⟨b, off + k * 3, none⟩) (by dsimp only; omega)).trans c1
        replace c2 := (hW.cell (p := ⟨b, off + k * 3 + 1, none⟩) (by dsimp only; omega)).trans c2
        replace c3 := (hW.cell (p := ⟨b, off + k * 3 + 2, none⟩) (by dsimp only; omega)).trans c3
        replace k4 := (hW.cell (p := ⟨w.heap.size, 4, none⟩) (by dsimp only; omega)).trans k4
        replace m4 := (hW.cell (p := ⟨w.heap.size + 2, 4, none⟩) (by dsimp only; omega)).trans m4
        go_simp
        first | done | with_reducible rfl
      try simp only [Act.put, List.setIfInBounds_toArray, List.set_cons_zero, List.set_cons_succ]
      refine' T_take (i := 20) (v := _) rfl (by kernel_rfl) (by kernel_rfl) (by kernel_rfl) (by kernel_rfl) (fun _ _ _ h => h) (by kernel_rfl) hS ?_ ?_
      rotate_left 1
      · intro Wv hW
        replace c1 := (hW.cell (p := ⟨b, off + k * 3, none⟩) (by dsimp only; omega)).trans c1
        replace c2 := (hW.cell (p := ⟨b, off + k * 3 + 1, none⟩) (by dsimp only; omega)).trans c2
        replace c3 := (hW.cell (p := ⟨b, off + k * 3 + 2, none⟩) (by dsimp only; omega)).trans c3
        replace k4 := (hW.cell (p := ⟨w.heap.size, 4, none⟩) (by dsimp only; omega)).trans k4
        replace m4 := (hW.cell (p := ⟨w.heap.size + 2, 4, none⟩) (by dsimp only; omega)).trans m4
        go_simp
        first | done | with_reducible rfl
      try simp only [Act.put, List.setIfInBounds_toArray, List.set_cons_zero, List.set_cons_succ]
      refine T_ready (rs := [21]) (by kernel_rfl) (by simp) ?_
      refine TReady.cons rfl (fun K hK => ?_) TReady.nil
      try go_simp
      refine hK.out _ _ (fun _ => hS.alloc (Nat.le_trans hwr hS.size) _) (fun hS2 => ?_)
      replace hS := hS2 (by decide)
      clear hS2 hK K
      try simp only [Act.put, List.setIfInBounds_toArray, List.set_cons_zero, List.set_cons_succ]
      refine T_ready (rs := [22]) (by kernel_rfl) (by simp) ?_
      refine TReady.cons rfl (fun K hK => ?_) TReady.nil
      refine step_appK (t := 37) (e := 99) (.inl ⟨rfl, rfl⟩) (.tmp 22) (.tmp 42) rfl rfl (w.heap.size + 3) wr.drew _ (r.links.take k) ⟨xf, xt, xs⟩ rfl rfl HO (by simp; omega) hwr ?_
      intro A9 c9 w2 HO2 HB2
      refine hK.out _ _ (fun _ => below_drew_l HB2.out) (fun hS2 => ?_)
      replace hS := hS2 (by decide)
      clear hK K hS2
      try simp only [Act.put, List.setIfInBounds_toArray, List.set_cons_zero, List.set_cons_succ]
      refine' T_take (i := 23) (v := _) rfl (by kernel_rfl) (by kernel_rfl) (by kernel_rfl) (by kernel_rfl) (fun _ _ _ h => h) (by kernel_rfl) hS ?_ ?_
      rotate_left 1
      · intro Wv hW
        replace c1 := (hW.cell (p := ⟨b, off + k * 3, none⟩) (by dsimp only; omega)).trans c1
        replace c2 := (hW.cell (p := ⟨b, off + k * 3 + 1, none⟩) (by dsimp only; omega)).trans c2
        replace c3 := (hW.cell (p := ⟨b, off + k * 3 + 2, none⟩) (by dsimp only; omega)).trans c3
        replace k4 := (hW.cell (p := ⟨w.heap.size, 4, none⟩) (by dsimp only; omega)).trans k4
        replace m4 := (hW.cell (p := ⟨w.heap.size + 2, 4, none⟩) (by dsimp only; omega)).trans m4
        go_simp
        first | done | with_reducible rfl
      try simp only [Act.put, List.setIfInBounds_toArray, List.set_cons_zero, List.set_cons_succ]
      refine T_ready (rs := [24]) (by kernel_rfl) (by simp) ?_
      refine TReady.cons rfl (fun K hK => ?_) TReady.nil
      have HM2 := HM.out.low hS (by omega)
      obtain ⟨⟨m0, m1, m2, m3, m4⟩, mf⟩ := HM2.cells
      have mf4 := mf 4
      clear mf
      try go_simp
      refine hK.out _ _ (fun h => absurd h (by decide)) (fun _ => ?_)
      clear hK K
      try simp only [Act.put, List.setIfInBounds_toArray, List.set_cons_zero, List.set_cons_succ]
      refine T_done (by kernel_rfl) ?_ _
      refine NoPanic.normal ?_
      try go_simp
      have ho2 := HO2.out
      rw [HLT.out] at ho2
      have HO3 := Lib.hid ho2
      clear ho2
      have HZ : Hid (w2.setCell ⟨w.heap.size + 2, 4, none⟩ (.slice A9 (k + 1) c9) = w2.setCell ⟨w.heap.size + 2, 4, none⟩ (.slice A9 (k + 1) c9)) := rfl
      have hg : w2.grownBy (w2.setCell ⟨w.heap.size + 2, 4, none⟩ (.slice A9 (k + 1) c9)) (some (w.heap.size + 2)) := only_setCell (World.grownBy.refl _ _) (.inl rfl) _
      have HM3 := Lib.hid (HM2.set4 (.slice A9 (k + 1) c9))
      have HO4 := Lib.hid (HO3.out.keptBy hg (by omega))
      have HK4 := Lib.hid ((HK.out.low hS (by omega)).far (q' := w.heap.size + 2) (i := 4) (by omega) (.slice A9 (k + 1) c9))
      have HR4 := Lib.hid ((HR.out.low hS (by omega)).far (q' := w.heap.size + 2) (i := 4) (by omega) (.slice A9 (k + 1) c9))
      have HB4 : Hid (Below w.heap.size w (w2.setCell ⟨w.heap.size + 2, 4, none⟩ (.slice A9 (k + 1) c9))) := (HB.out.trans (hS.mono (by omega))).setCell (by simp) _
      clear hg HM2 m0 m1 m2 m3 m4 k4 mf4
      go_wp2_with fail
      go_roundw
      case rel => exact ⟨k + 1, A9, c9, by omega, by go_num, HM3.out, by rw [HT.out]; exact HO4.out, HK4.out, HR4.out, HB4.out⟩
      case measure => simp [intOf]; omega
    · obtain rfl : k = r.links.length := by omega
      rw [List.take_length] at HO
      obtain ⟨h2, h3, h4⟩ := HO.out.parts
      have HL4 := Lib.hid h4
      obtain ⟨⟨r0, r1, r2, r3, r4⟩, rf⟩ := HR.out.cells
      have rf0 := rf 0
      have rf1 := rf 1
      have rf2 := rf 2
      have rf3 := rf 3
      have rf4 := rf 4
      have HF := Lib.hid (HR.out.set (.int .i64 r.rows) (.int .i64 r.mid) (.int .i64 r.gap) (.int .i64 r.reach) (.slice A' r.links.length c'))
      have HBF := Lib.hid (below_five HB.out (q := w.heap.size + 1) (by omega) (.int .i64 r.rows) (.int .i64 r.mid) (.int .i64 r.gap) (.int .i64 r.reach) (.slice A' r.links.length c'))
      have HOF : Hid (OwnK 99 (w.heap.size + 3) (((((wr.setCell ⟨w.heap.size + 1, 0, none⟩ (.int .i64 r.rows)).setCell ⟨w.heap.size + 1, 1, none⟩ (.int .i64 r.mid)).setCell ⟨w.heap.size + 1, 2, none⟩ (.int .i64 r.gap)).setCell ⟨w.heap.size + 1, 3, none⟩ (.int .i64 r.reach)).setCell ⟨w.heap.size + 1, 4, none⟩ (.slice A' r.links.length c')) (.slice A' r.links.length c') r.links) := World.ownsRow.kept HO.out (row := some (w.heap.size + 1)) (grown_five _ _ _ _ _ _ _) (.inr fun e => by
        have := (World.ownsRow.lt HO.out _ e).1
        omega)
      clear rf h4 hb
      go_wp2_with fail
      generalize (((((wr.setCell ⟨w.heap.size + 1, 0, none⟩ (.int .i64 r.rows)).setCell ⟨w.heap.size + 1, 1, none⟩ (.int .i64 r.mid)).setCell ⟨w.heap.size + 1, 2, none⟩ (.int .i64 r.gap)).setCell ⟨w.heap.size + 1, 3, none⟩ (.int .i64 r.reach)).setCell ⟨w.heap.size + 1, 4, none⟩ (.slice A' r.links.length c')) = W9 at *
      obtain ⟨⟨y0, y1, y2, y3, y4⟩, -⟩ := HF.out.cells
      refine bodyPost_ret (v := .agg #[.int .i64 r.rows, .int .i64 r.mid, .int .i64 r.gap, .int .i64 r.reach, (.slice A' r.links.length c')]) (by simp [results, Try.results18, go_sem, y0, y1, y2, y3, y4]) rfl ?_
      obtain ⟨h5, h6, h7⟩ := HOF.out.parts
      exact ⟨_, _, rfl, ⟨h7, h5, h6⟩, HBF.out⟩
end Go.Proofs.Ytpekajnjjhibjaa
