/-
  The walk of RackNames.
-/
import Derived.Test.YtpekajnjjhibjaaNamesM
import Derived.Test.YtpekajnjjhibjaaAwk
import Derived.Test.YtpekajnjjhibjaaEq75
namespace Go.Proofs.Ytpekajnjjhibjaa
open Go.RowKit
set_option linter.unusedSimpArgs false
set_option linter.unusedVariables false

attribute [local go_sem] Oper.semAt_some
/-- The block of some links. -/
def LkB (W : World) (g : Nat) (cs : Array Value) : Prop := W.heap[g]? = some (.cells cs 99)
theorem LkB.lt {W : World} {g : Nat} {cs : Array Value} (h : LkB W g cs) : g < W.heap.size := (Array.getElem?_eq_some_iff.1 h).1
theorem LkB.step {W W' : World} {g : Nat} {cs : Array Value} (h : LkB W g cs) (hb : Below W.heap.size W W') : LkB W' g cs := (hb.block g h.lt).trans h
theorem LkB.far {W : World} {g g' i : Nat} {cs : Array Value} (h : LkB W g cs) (hne : g ≠ g') (v : Value) : LkB (W.setCell ⟨g', i, none⟩ v) g cs := (Below.heap_setCell W _ v g hne).trans h
theorem LkB.set {W : World} {g : Nat} {cs : Array Value} (h : LkB W g cs) (i : Nat) (v : Value) : LkB (W.setCell ⟨g, i, none⟩ v) g (cs.setIfInBounds i v) := by
  unfold LkB at h ⊢
  simp [World.setCell, Array.getElem?_modify, h]
theorem LkB.cell {W : World} {g : Nat} {cs : Array Value} (h : LkB W g cs) {i : Nat} {v : Value} (hv : cs[i]? = some v) : W.cell? ⟨g, i, none⟩ = some v := by
  unfold LkB at h
  simp [World.cell?, h, hv]
theorem LkB.soft {W : World} {g : Nat} {cs : Array Value} (h : LkB W g cs) (i : Nat) : W.frozen? ⟨g, i, none⟩ = false := by
  unfold LkB at h
  simp [World.frozen?, h]
def lkCells : List Lk → List Value
  | [] => []
  | x :: l => .int .i64 x.f :: .int .i64 x.t :: .bool x.s :: lkCells l
theorem lkCells_at : ∀ (l : List Lk) (k : Nat), k < l.length → (lkCells l)[k * 3]? = some (.int .i64 (lx l k).f) ∧ (lkCells l)[k * 3 + 1]? = some (.int .i64 (lx l k).t) ∧ (lkCells l)[k * 3 + 2]? = some (.bool (lx l k).s)
  | [], k, h => by simp at h
  | x :: l, 0, _ => by simp [lkCells, lx]
  | x :: l, k + 1, h => by
    have ih := lkCells_at l k (by simpa using h)
    have e : lx (x :: l) (k + 1) = lx l k := by simp [lx]
    rw [e, show (k + 1) * 3 = k * 3 + 3 by omega]
    exact ih
theorem LkB.lks {W : World} {g : Nat} {cs : Array Value} {ls : List Lk} (h : LkB W g cs) (e : cs = (lkCells ls).toArray) : Lks W.heap.size W (some ⟨g, 0, none⟩) ls := fun _ => ⟨g, 0, rfl, h.lt, fun k hk => by
  obtain ⟨a, b, c⟩ := lkCells_at ls k hk
  subst e
  rw [Nat.zero_add]
  exact ⟨h.cell (by simpa using a), h.cell (by simpa using b), h.cell (by simpa using c)⟩⟩
theorem bls_lit (w : World) (n : Nat) (hn : n = w.heap.size) (bs : List Bool) (cs : Array Value) (h : cs = (bs.map Value.bool).toArray) : Bls (w.alloc (.cells cs 4)).heap.size (w.alloc (.cells cs 4)) (some ⟨n, 0, none⟩) bs := fun hp => ⟨_, 0, rfl, by rw [hn]; simp, fun k hk => by
  subst h hn
  rw [Nat.zero_add, bx_lt hk]
  have e := World.alloc_heap_new w (.cells (bs.map Value.bool).toArray 4)
  simp only [World.cell?, e]
  simp [hk]⟩
theorem thr3_of {B : Nat} {W : World} {A : Option Addr} (h : Rgs B W A thrL) : Rgs B W A thr3 := fun _ => by
  obtain ⟨b, off, hA, hb, hc⟩ := h (by decide)
  refine ⟨b, off, hA, hb, fun k hk => ?_⟩
  have hk3 : k < 3 := hk
  have := hc k (by show k < 4; omega)
  have e : gx thr3 k = gx thrL k := by
    rcases (by omega : k = 0 ∨ k = 1 ∨ k = 2) with rfl | rfl | rfl <;> rfl
  rw [e]
  exact this
set_option maxHeartbeats 2000000 in
theorem ten50_s (w : World) : Calls Try.prog 50 #[] w (fun e w' => ∃ g, e = .returned (.agg #[.int .i64 4, .int .i64 20, .int .i64 3, .int .i64 2, .slice (some ⟨g, 0, none⟩) 3 3]) ∧ w.heap.size ≤ g ∧ LkB w' g #[.int .i64 0, .int .i64 1, .bool true, .int .i64 1, .int .i64 3, .bool false, .int .i64 3, .int .i64 6, .bool true] ∧ Below w.heap.size w w') := by
  have hb2 : Below (w.alloc (.cells #[.int .i64 4, .int .i64 20, .int .i64 3, .int .i64 2, .slice (some ⟨w.heap.size + 1, 0, none⟩) 3 3] 39)).heap.size (w.alloc (.cells #[.int .i64 4, .int .i64 20, .int .i64 3, .int .i64 2, .slice (some ⟨w.heap.size + 1, 0, none⟩) 3 3] 39)) ((w.alloc (.cells #[.int .i64 4, .int .i64 20, .int .i64 3, .int .i64 2, .slice (some ⟨w.heap.size + 1, 0, none⟩) 3 3] 39)).alloc (.cells #[.int .i64 0, .int .i64 1, .bool true, .int .i64 1, .int .i64 3, .bool false, .int .i64 3, .int .i64 6, .bool true] 99)) := (Below.refl _ _).alloc (Nat.le_refl _) _
  have HF : Hid (At5 ((w.alloc (.cells #[.int .i64 4, .int .i64 20, .int .i64 3, .int .i64 2, .slice (some ⟨w.heap.size + 1, 0, none⟩) 3 3] 39)).alloc (.cells #[.int .i64 0, .int .i64 1, .bool true, .int .i64 1, .int .i64 3, .bool false, .int .i64 3, .int .i64 6, .bool true] 99)) w.heap.size 39 (.int .i64 4) (.int .i64 20) (.int .i64 3) (.int .i64 2) (.slice (some ⟨w.heap.size + 1, 0, none⟩) 3 3)) := (show At5 (w.alloc (.cells #[.int .i64 4, .int .i64 20, .int .i64 3, .int .i64 2, .slice (some ⟨w.heap.size + 1, 0, none⟩) 3 3] 39)) w.heap.size 39 (.int .i64 4) (.int .i64 20) (.int .i64 3) (.int .i64 2) (.slice (some ⟨w.heap.size + 1, 0, none⟩) 3 3) from World.alloc_heap_new w _).step hb2
  have hz : (w.alloc (.cells #[.int .i64 4, .int .i64 20, .int .i64 3, .int .i64 2, .slice (some ⟨w.heap.size + 1, 0, none⟩) 3 3] 39)).heap.size = w.heap.size + 1 := by simp
  have HI : Hid (LkB ((w.alloc (.cells #[.int .i64 4, .int .i64 20, .int .i64 3, .int .i64 2, .slice (some ⟨w.heap.size + 1, 0, none⟩) 3 3] 39)).alloc (.cells #[.int .i64 0, .int .i64 1, .bool true, .int .i64 1, .int .i64 3, .bool false, .int .i64 3, .int .i64 6, .bool true] 99)) (w.heap.size + 1) #[.int .i64 0, .int .i64 1, .bool true, .int .i64 1, .int .i64 3, .bool false, .int .i64 3, .int .i64 6, .bool true]) := by have h : LkB ((w.alloc (.cells #[.int .i64 4, .int .i64 20, .int .i64 3, .int .i64 2, .slice (some ⟨w.heap.size + 1, 0, none⟩) 3 3] 39)).alloc (.cells #[.int .i64 0, .int .i64 1, .bool true, .int .i64 1, .int .i64 3, .bool false, .int .i64 3, .int .i64 6, .bool true] 99)) (w.alloc (.cells #[.int .i64 4, .int .i64 20, .int .i64 3, .int .i64 2, .slice (some ⟨w.heap.size + 1, 0, none⟩) 3 3] 39)).heap.size #[.int .i64 0, .int .i64 1, .bool true, .int .i64 1, .int .i64 3, .bool false, .int .i64 3, .int .i64 6, .bool true] := World.alloc_heap_new _ _; rwa [hz] at h
  have HB0 : Hid (Below w.heap.size w ((w.alloc (.cells #[.int .i64 4, .int .i64 20, .int .i64 3, .int .i64 2, .slice (some ⟨w.heap.size + 1, 0, none⟩) 3 3] 39)).alloc (.cells #[.int .i64 0, .int .i64 1, .bool true, .int .i64 1, .int .i64 3, .bool false, .int .i64 3, .int .i64 6, .bool true] 99))) := ((Below.refl _ _).alloc (Nat.le_refl _) _).trans (hb2.mono (by simp))
  clear hb2 hz
  go_enter Try.func50, Try.ntmps50
  go_wp2_with fail
  generalize ((w.alloc (.cells #[.int .i64 4, .int .i64 20, .int .i64 3, .int .i64 2, .slice (some ⟨w.heap.size + 1, 0, none⟩) 3 3] 39)).alloc (.cells #[.int .i64 0, .int .i64 1, .bool true, .int .i64 1, .int .i64 3, .bool false, .int .i64 3, .int .i64 6, .bool true] 99)) = W9 at *
  obtain ⟨⟨y0, y1, y2, y3, y4⟩, -⟩ := HF.out.cells
  refine bodyPost_ret (v := .agg #[.int .i64 4, .int .i64 20, .int .i64 3, .int .i64 2, .slice (some ⟨w.heap.size + 1, 0, none⟩) 3 3]) (by simp [results, Try.results50, go_sem, y0, y1, y2, y3, y4]) rfl ?_
  exact ⟨w.heap.size + 1, rfl, by omega, HI.out, HB0.out⟩
set_option maxRecDepth 100000 in
set_option maxHeartbeats 32000000 in
theorem names14_c (w : World) : Calls Try.prog 14 #[] w (Ans w (.bool true)) := by
  have HB := Lib.hid (Below.refl w.heap.size w)
  have HB0 := HB
  go_enter Try.func14, Try.ntmps14
  go_wp2_with fail
  refine (ten50_c _).mono ?_
  rintro e w1 ⟨A1, c1, rfl, ⟨hl1, hc1, hd1⟩, hb⟩
  replace HB := Lib.hid (HB.out.trans (hb.mono HB.out.size))
  clear hb
  have Hhl1 := Lib.hid hl1
  clear hl1
  go_wp2_with fail
  have hb : Below w1.heap.size w1 (w1.alloc (.cells #[.int .i64 3, .int .i64 6] 3)) := (Below.refl _ _).alloc (Nat.le_refl _) _
  replace Hhl1 := Lib.hid (Hhl1.out.step hb)
  replace HB := Lib.hid (HB.out.trans (hb.mono HB.out.size))
  clear hb
  have HI2 := Lib.hid (ints_lit w1 [3, 6] #[.int .i64 3, .int .i64 6] rfl)
  generalize hgx : (w1.alloc (.cells #[.int .i64 3, .int .i64 6] 3)) = w2 at *
  clear hgx
  refine (Kind_c tenR A1 _ c1 2 [3, 6] _ Hhl1.out ⟨hc1, hd1⟩ HI2.out ⟨by decide, by decide⟩).mono ?_
  rw [nm_36.1, nm_36.2]
  rintro e w3 ⟨rfl, hb⟩
  replace Hhl1 := Lib.hid (Hhl1.out.step hb)
  replace HI2 := Lib.hid (HI2.out.step hb)
  replace HB := Lib.hid (HB.out.trans (hb.mono HB.out.size))
  clear hb
  clear Hhl1 HI2
  go_wp2_with fail
  refine (ten50_c _).mono ?_
  rintro e w4 ⟨A3, c3, rfl, ⟨hl3, hc3, hd3⟩, hb⟩
  replace HB := Lib.hid (HB.out.trans (hb.mono HB.out.size))
  clear hb
  have Hhl3 := Lib.hid hl3
  clear hl3
  go_wp2_with fail
  have hb : Below w4.heap.size w4 (w4.alloc (.cells #[.int .i64 0, .int .i64 6] 3)) := (Below.refl _ _).alloc (Nat.le_refl _) _
  replace Hhl3 := Lib.hid (Hhl3.out.step hb)
  replace HB := Lib.hid (HB.out.trans (hb.mono HB.out.size))
  clear hb
  have HI4 := Lib.hid (ints_lit w4 [0, 6] #[.int .i64 0, .int .i64 6] rfl)
  generalize hgx : (w4.alloc (.cells #[.int .i64 0, .int .i64 6] 3)) = w5 at *
  clear hgx
  refine (Kind_c tenR A3 _ c3 2 [0, 6] _ Hhl3.out ⟨hc3, hd3⟩ HI4.out ⟨by decide, by decide⟩).mono ?_
  rw [nm_06.1, nm_06.2]
  rintro e w6 ⟨rfl, hb⟩
  replace Hhl3 := Lib.hid (Hhl3.out.step hb)
  replace HI4 := Lib.hid (HI4.out.step hb)
  replace HB := Lib.hid (HB.out.trans (hb.mono HB.out.size))
  clear hb
  clear Hhl3 HI4
  go_wp2_with fail
  refine (ten50_c _).mono ?_
  rintro e w7 ⟨A5, c5, rfl, ⟨hl5, hc5, hd5⟩, hb⟩
  replace HB := Lib.hid (HB.out.trans (hb.mono HB.out.size))
  clear hb
  have Hhl5 := Lib.hid hl5
  clear hl5
  go_wp2_with fail
  refine (all51_c _).mono ?_
  rintro e w8 ⟨rfl, ha6, hb⟩
  replace Hhl5 := Lib.hid (Hhl5.out.step hb)
  replace HB := Lib.hid (HB.out.trans (hb.mono HB.out.size))
  clear hb
  have Hha6 := Lib.hid ha6
  clear ha6
  go_wp2_with fail
  refine (thrown52_c _).mono ?_
  rintro e w9 ⟨rfl, hg7, hb⟩
  replace Hhl5 := Lib.hid (Hhl5.out.step hb)
  replace Hha6 := Lib.hid (Hha6.out.step hb)
  replace HB := Lib.hid (HB.out.trans (hb.mono HB.out.size))
  clear hb
  have Hhg7 := Lib.hid hg7
  clear hg7
  go_wp2_with fail
  have hb : Below w9.heap.size w9 ((w9.alloc (.cells #[.int .i64 21, .int .i64 22, .int .i64 23, .int .i64 24] 3)).alloc (.cells #[.bool true, .bool true, .bool true] 4)) := ((Below.refl _ _).alloc (Nat.le_refl _) _).alloc (by simp) _
  replace Hhl5 := Lib.hid (Hhl5.out.step hb)
  replace Hha6 := Lib.hid (Hha6.out.step hb)
  replace Hhg7 := Lib.hid (Hhg7.out.step hb)
  replace HB := Lib.hid (HB.out.trans (hb.mono HB.out.size))
  clear hb
  have HI8 := Lib.hid ((ints_lit w9 [21, 22, 23, 24] #[.int .i64 21, .int .i64 22, .int .i64 23, .int .i64 24] rfl).step ((Below.refl _ _).alloc (Nat.le_refl _) (.cells #[.bool true, .bool true, .bool true] 4)))
  have HI9 := Lib.hid (bls_lit (w9.alloc (.cells #[.int .i64 21, .int .i64 22, .int .i64 23, .int .i64 24] 3)) (w9.heap.size + 1) (by simp) [true, true, true] #[.bool true, .bool true, .bool true] rfl)
  generalize hgx : ((w9.alloc (.cells #[.int .i64 21, .int .i64 22, .int .i64 23, .int .i64 24] 3)).alloc (.cells #[.bool true, .bool true, .bool true] 4)) = w10 at *
  clear hgx
  refine (hit_c tenR A5 _ _ _ _ c5 10 4 4 3 allP [21, 22, 23, 24] thrL [true, true, true] _ Hhl5.out ⟨hc5, hd5⟩ Hha6.out ⟨by decide, by decide⟩ Hhg7.out ⟨by decide, by decide⟩ HI8.out ⟨by decide, by decide⟩ HI9.out ⟨by decide, by decide⟩).mono ?_
  rw [nm_hit.1, nm_hit.2]
  rintro e w11 ⟨lA, cl, rfl, ho, hb⟩
  replace Hhl5 := Lib.hid (Hhl5.out.step hb)
  replace Hha6 := Lib.hid (Hha6.out.step hb)
  replace Hhg7 := Lib.hid (Hhg7.out.step hb)
  replace HI8 := Lib.hid (HI8.out.step hb)
  replace HI9 := Lib.hid (HI9.out.step hb)
  replace HB := Lib.hid (HB.out.trans (hb.mono HB.out.size))
  clear hb
  clear Hhl5 Hha6 Hhg7 HI8 HI9
  obtain ⟨hcl1, hcl2, hle⟩ := isInts_parts (ownsRow_isInts ho)
  have HLe := Lib.hid hle
  clear ho hle
  go_wp2_with fail
  refine (ten50_c _).mono ?_
  rintro e w12 ⟨A10, c10, rfl, ⟨hl10, hc10, hd10⟩, hb⟩
  replace HLe := Lib.hid (HLe.out.step hb)
  replace HB := Lib.hid (HB.out.trans (hb.mono HB.out.size))
  clear hb
  have Hhl10 := Lib.hid hl10
  clear hl10
  go_wp2_with fail
  have hb : Below w12.heap.size w12 (w12.alloc (.cells #[.int .i64 1, .int .i64 3, .int .i64 6] 3)) := (Below.refl _ _).alloc (Nat.le_refl _) _
  replace HLe := Lib.hid (HLe.out.step hb)
  replace Hhl10 := Lib.hid (Hhl10.out.step hb)
  replace HB := Lib.hid (HB.out.trans (hb.mono HB.out.size))
  clear hb
  have HI11 := Lib.hid (ints_lit w12 [1, 3, 6] #[.int .i64 1, .int .i64 3, .int .i64 6] rfl)
  generalize hgx : (w12.alloc (.cells #[.int .i64 1, .int .i64 3, .int .i64 6] 3)) = w13 at *
  clear hgx
  refine (convert_c tenR A10 _ c10 3 [1, 3, 6] true _ Hhl10.out ⟨hc10, hd10⟩ HI11.out ⟨by decide, by decide⟩).mono ?_
  rw [nm_conv.1, nm_conv.2]
  rintro e w14 ⟨rfl, hb⟩
  replace HLe := Lib.hid (HLe.out.step hb)
  replace Hhl10 := Lib.hid (Hhl10.out.step hb)
  replace HI11 := Lib.hid (HI11.out.step hb)
  replace HB := Lib.hid (HB.out.trans (hb.mono HB.out.size))
  clear hb
  clear Hhl10 HI11
  go_upto_region 5 with fail
  have hb : Below w14.heap.size w14 (w14.alloc (.cells #[.int .i64 12, .int .i64 3] 51)) := (Below.refl _ _).alloc (Nat.le_refl _) _
  replace HLe := Lib.hid (HLe.out.step hb)
  replace HB := Lib.hid (HB.out.trans (hb.mono HB.out.size))
  clear hb
  have d0 : (w14.alloc (.cells #[.int .i64 12, .int .i64 3] 51)).cell? ⟨w14.heap.size, 0, none⟩ = some (.int .i64 12) := by simp
  have d1 : (w14.alloc (.cells #[.int .i64 12, .int .i64 3] 51)).cell? ⟨w14.heap.size, 1, none⟩ = some (.int .i64 3) := by simp
  generalize (w14.alloc (.cells #[.int .i64 12, .int .i64 3] 51)) = b1 at *
  go_wp2_with fail
  have hb : Below b1.heap.size b1 (b1.alloc (.cells #[.int .i64 4, .int .i64 5, .int .i64 7, .int .i64 9] 3)) := (Below.refl _ _).alloc (Nat.le_refl _) _
  replace HLe := Lib.hid (HLe.out.step hb)
  replace d0 := cell_of_ans hb d0
  replace d1 := cell_of_ans hb d1
  replace HB := Lib.hid (HB.out.trans (hb.mono HB.out.size))
  clear hb
  have HI12 := Lib.hid (ints_lit b1 [4, 5, 7, 9] #[.int .i64 4, .int .i64 5, .int .i64 7, .int .i64 9] rfl)
  generalize hgx : (b1.alloc (.cells #[.int .i64 4, .int .i64 5, .int .i64 7, .int .i64 9] 3)) = w15 at *
  clear hgx
  refine ((ints_c _ _ [4, 5, 7, 9] [4, 5, 7, 9] cl 4 _ HLe.out HI12.out ⟨hcl1, hcl2⟩ ⟨by decide, by decide⟩).mono (fun e w9 h => h.ans)).mono ?_
  rw [show eqB [4, 5, 7, 9] [4, 5, 7, 9] = true from decide_eq_true rfl]
  rintro e w16 ⟨rfl, hb⟩
  replace HLe := Lib.hid (HLe.out.step hb)
  replace d0 := cell_of_ans hb d0
  replace d1 := cell_of_ans hb d1
  replace HI12 := Lib.hid (HI12.out.step hb)
  replace HB := Lib.hid (HB.out.trans (hb.mono HB.out.size))
  clear hb
  clear HLe
  clear HI12
  go_wp2_with fail
  refine (ten50_c _).mono ?_
  rintro e w17 ⟨A13, c13, rfl, ⟨hl13, hc13, hd13⟩, hb⟩
  replace d0 := cell_of_ans hb d0
  replace d1 := cell_of_ans hb d1
  replace HB := Lib.hid (HB.out.trans (hb.mono HB.out.size))
  clear hb
  have Hhl13 := Lib.hid hl13
  clear hl13
  go_wp2_with fail
  refine (all51_c _).mono ?_
  rintro e w18 ⟨rfl, ha14, hb⟩
  replace d0 := cell_of_ans hb d0
  replace d1 := cell_of_ans hb d1
  replace Hhl13 := Lib.hid (Hhl13.out.step hb)
  replace HB := Lib.hid (HB.out.trans (hb.mono HB.out.size))
  clear hb
  have Hha14 := Lib.hid ha14
  clear ha14
  go_wp2_with fail
  refine (thrown52_c _).mono ?_
  rintro e w19 ⟨rfl, hg15, hb⟩
  replace d0 := cell_of_ans hb d0
  replace d1 := cell_of_ans hb d1
  replace Hhl13 := Lib.hid (Hhl13.out.step hb)
  replace Hha14 := Lib.hid (Hha14.out.step hb)
  replace HB := Lib.hid (HB.out.trans (hb.mono HB.out.size))
  clear hb
  have Hhg15 := Lib.hid hg15
  clear hg15
  go_wp2_with fail
  have hb : Below w19.heap.size w19 (w19.alloc (.cells #[.int .i64 4, .int .i64 7, .int .i64 9] 3)) := (Below.refl _ _).alloc (Nat.le_refl _) _
  replace d0 := cell_of_ans hb d0
  replace d1 := cell_of_ans hb d1
  replace Hhl13 := Lib.hid (Hhl13.out.step hb)
  replace Hha14 := Lib.hid (Hha14.out.step hb)
  replace Hhg15 := Lib.hid (Hhg15.out.step hb)
  replace HB := Lib.hid (HB.out.trans (hb.mono HB.out.size))
  clear hb
  have HI16 := Lib.hid (ints_lit w19 [4, 7, 9] #[.int .i64 4, .int .i64 7, .int .i64 9] rfl)
  generalize hgx : (w19.alloc (.cells #[.int .i64 4, .int .i64 7, .int .i64 9] 3)) = w20 at *
  clear hgx
  refine (canLeave_c tenR A13 _ _ _ c13 10 4 3 allP [4, 7, 9] thrL _ Hhl13.out ⟨hc13, hd13⟩ Hha14.out ⟨by decide, by decide⟩ Hhg15.out ⟨by decide, by decide⟩ HI16.out ⟨by decide, by decide⟩).mono ?_
  rw [nm_can]
  rintro e w21 ⟨rfl, hb⟩
  replace d0 := cell_of_ans hb d0
  replace d1 := cell_of_ans hb d1
  replace Hhl13 := Lib.hid (Hhl13.out.step hb)
  replace Hha14 := Lib.hid (Hha14.out.step hb)
  replace Hhg15 := Lib.hid (Hhg15.out.step hb)
  replace HI16 := Lib.hid (HI16.out.step hb)
  replace HB := Lib.hid (HB.out.trans (hb.mono HB.out.size))
  clear hb
  clear Hhl13 Hha14 Hhg15 HI16
  go_wp2_with fail
  refine (ten50_c _).mono ?_
  rintro e w22 ⟨A17, c17, rfl, ⟨hl17, hc17, hd17⟩, hb⟩
  replace d0 := cell_of_ans hb d0
  replace d1 := cell_of_ans hb d1
  replace HB := Lib.hid (HB.out.trans (hb.mono HB.out.size))
  clear hb
  have Hhl17 := Lib.hid hl17
  clear hl17
  go_wp2_with fail
  refine (all51_c _).mono ?_
  rintro e w23 ⟨rfl, ha18, hb⟩
  replace d0 := cell_of_ans hb d0
  replace d1 := cell_of_ans hb d1
  replace Hhl17 := Lib.hid (Hhl17.out.step hb)
  replace HB := Lib.hid (HB.out.trans (hb.mono HB.out.size))
  clear hb
  have Hha18 := Lib.hid ha18
  clear ha18
  go_wp2_with fail
  refine (thrown52_c _).mono ?_
  rintro e w24 ⟨rfl, hg19, hb⟩
  replace d0 := cell_of_ans hb d0
  replace d1 := cell_of_ans hb d1
  replace Hhl17 := Lib.hid (Hhl17.out.step hb)
  replace Hha18 := Lib.hid (Hha18.out.step hb)
  replace HB := Lib.hid (HB.out.trans (hb.mono HB.out.size))
  clear hb
  have Hhg19 := Lib.hid hg19
  clear hg19
  go_wp2_with fail
  have hb : Below w24.heap.size w24 (w24.alloc (.cells #[.int .i64 7, .int .i64 9] 3)) := (Below.refl _ _).alloc (Nat.le_refl _) _
  replace d0 := cell_of_ans hb d0
  replace d1 := cell_of_ans hb d1
  replace Hhl17 := Lib.hid (Hhl17.out.step hb)
  replace Hha18 := Lib.hid (Hha18.out.step hb)
  replace Hhg19 := Lib.hid (Hhg19.out.step hb)
  replace HB := Lib.hid (HB.out.trans (hb.mono HB.out.size))
  clear hb
  have HI20 := Lib.hid (ints_lit w24 [7, 9] #[.int .i64 7, .int .i64 9] rfl)
  generalize hgx : (w24.alloc (.cells #[.int .i64 7, .int .i64 9] 3)) = w25 at *
  clear hgx
  refine (canLeave_c tenR A17 _ _ _ c17 10 4 2 allP [7, 9] thrL _ Hhl17.out ⟨hc17, hd17⟩ Hha18.out ⟨by decide, by decide⟩ Hhg19.out ⟨by decide, by decide⟩ HI20.out ⟨by decide, by decide⟩).mono ?_
  rw [nm_cannot]
  rintro e w26 ⟨rfl, hb⟩
  replace d0 := cell_of_ans hb d0
  replace d1 := cell_of_ans hb d1
  replace Hhl17 := Lib.hid (Hhl17.out.step hb)
  replace Hha18 := Lib.hid (Hha18.out.step hb)
  replace Hhg19 := Lib.hid (Hhg19.out.step hb)
  replace HI20 := Lib.hid (HI20.out.step hb)
  replace HB := Lib.hid (HB.out.trans (hb.mono HB.out.size))
  clear hb
  clear Hhl17 Hha18 Hhg19 HI20
  go_wp2_with fail
  refine (ten50_c _).mono ?_
  rintro e w27 ⟨A21, c21, rfl, ⟨hl21, hc21, hd21⟩, hb⟩
  replace d0 := cell_of_ans hb d0
  replace d1 := cell_of_ans hb d1
  replace HB := Lib.hid (HB.out.trans (hb.mono HB.out.size))
  clear hb
  have Hhl21 := Lib.hid hl21
  clear hl21
  go_wp2_with fail
  have hb : Below w27.heap.size w27 (w27.alloc (.cells #[.int .i64 1, .int .i64 3, .int .i64 6] 3)) := (Below.refl _ _).alloc (Nat.le_refl _) _
  replace d0 := cell_of_ans hb d0
  replace d1 := cell_of_ans hb d1
  replace Hhl21 := Lib.hid (Hhl21.out.step hb)
  replace HB := Lib.hid (HB.out.trans (hb.mono HB.out.size))
  clear hb
  have HI22 := Lib.hid (ints_lit w27 [1, 3, 6] #[.int .i64 1, .int .i64 3, .int .i64 6] rfl)
  generalize hgx : (w27.alloc (.cells #[.int .i64 1, .int .i64 3, .int .i64 6] 3)) = w28 at *
  clear hgx
  refine (prove_c tenR A21 _ c21 3 [1, 3, 6] 14 1 _ Hhl21.out ⟨hc21, hd21⟩ HI22.out ⟨by decide, by decide⟩).mono ?_
  rw [nm_prove]
  rintro e w29 ⟨rfl, hb⟩
  replace d0 := cell_of_ans hb d0
  replace d1 := cell_of_ans hb d1
  replace Hhl21 := Lib.hid (Hhl21.out.step hb)
  replace HI22 := Lib.hid (HI22.out.step hb)
  replace HB := Lib.hid (HB.out.trans (hb.mono HB.out.size))
  clear hb
  clear Hhl21 HI22
  go_wp2_with fail
  refine (ten50_c _).mono ?_
  rintro e w30 ⟨A23, c23, rfl, ⟨hl23, hc23, hd23⟩, hb⟩
  replace d0 := cell_of_ans hb d0
  replace d1 := cell_of_ans hb d1
  replace HB := Lib.hid (HB.out.trans (hb.mono HB.out.size))
  clear hb
  have Hhl23 := Lib.hid hl23
  clear hl23
  go_wp2_with fail
  have hb : Below w30.heap.size w30 (w30.alloc (.cells #[.int .i64 1, .int .i64 3, .int .i64 6] 3)) := (Below.refl _ _).alloc (Nat.le_refl _) _
  replace d0 := cell_of_ans hb d0
  replace d1 := cell_of_ans hb d1
  replace Hhl23 := Lib.hid (Hhl23.out.step hb)
  replace HB := Lib.hid (HB.out.trans (hb.mono HB.out.size))
  clear hb
  have HI24 := Lib.hid (ints_lit w30 [1, 3, 6] #[.int .i64 1, .int .i64 3, .int .i64 6] rfl)
  generalize hgx : (w30.alloc (.cells #[.int .i64 1, .int .i64 3, .int .i64 6] 3)) = w31 at *
  clear hgx
  refine (prove_c tenR A23 _ c23 3 [1, 3, 6] 12 3 _ Hhl23.out ⟨hc23, hd23⟩ HI24.out ⟨by decide, by decide⟩).mono ?_
  rw [nm_prove2]
  rintro e w32 ⟨rfl, hb⟩
  replace d0 := cell_of_ans hb d0
  replace d1 := cell_of_ans hb d1
  replace Hhl23 := Lib.hid (Hhl23.out.step hb)
  replace HI24 := Lib.hid (HI24.out.step hb)
  replace HB := Lib.hid (HB.out.trans (hb.mono HB.out.size))
  clear hb
  clear Hhl23 HI24
  clear d0 d1
  go_wp2_with fail
  refine (ten50_c _).mono ?_
  rintro e w33 ⟨A25, c25, rfl, ⟨hl25, hc25, hd25⟩, hb⟩
  replace HB := Lib.hid (HB.out.trans (hb.mono HB.out.size))
  clear hb
  have Hhl25 := Lib.hid hl25
  clear hl25
  go_wp2_with fail
  have hb : Below w33.heap.size w33 (w33.alloc (.cells #[.int .i64 6, .int .i64 9] 3)) := (Below.refl _ _).alloc (Nat.le_refl _) _
  replace Hhl25 := Lib.hid (Hhl25.out.step hb)
  replace HB := Lib.hid (HB.out.trans (hb.mono HB.out.size))
  clear hb
  have HI26 := Lib.hid (ints_lit w33 [6, 9] #[.int .i64 6, .int .i64 9] rfl)
  generalize hgx : (w33.alloc (.cells #[.int .i64 6, .int .i64 9] 3)) = w34 at *
  clear hgx
  refine (convert_c tenR A25 _ c25 2 [6, 9] true _ Hhl25.out ⟨hc25, hd25⟩ HI26.out ⟨by decide, by decide⟩).mono ?_
  rw [nm_none.1, nm_none.2]
  rintro e w35 ⟨rfl, hb⟩
  replace Hhl25 := Lib.hid (Hhl25.out.step hb)
  replace HI26 := Lib.hid (HI26.out.step hb)
  replace HB := Lib.hid (HB.out.trans (hb.mono HB.out.size))
  clear hb
  clear Hhl25 HI26
  go_wp2_with fail
  refine (ten50_c _).mono ?_
  rintro e w36 ⟨A27, c27, rfl, ⟨hl27, hc27, hd27⟩, hb⟩
  replace HB := Lib.hid (HB.out.trans (hb.mono HB.out.size))
  clear hb
  have Hhl27 := Lib.hid hl27
  clear hl27
  go_wp2_with fail
  have hb : Below w36.heap.size w36 (w36.alloc (.cells #[.int .i64 6, .int .i64 6] 3)) := (Below.refl _ _).alloc (Nat.le_refl _) _
  replace Hhl27 := Lib.hid (Hhl27.out.step hb)
  replace HB := Lib.hid (HB.out.trans (hb.mono HB.out.size))
  clear hb
  have HI28 := Lib.hid (ints_lit w36 [6, 6] #[.int .i64 6, .int .i64 6] rfl)
  generalize hgx : (w36.alloc (.cells #[.int .i64 6, .int .i64 6] 3)) = w37 at *
  clear hgx
  refine (Kind_c tenR A27 _ c27 2 [6, 6] _ Hhl27.out ⟨hc27, hd27⟩ HI28.out ⟨by decide, by decide⟩).mono ?_
  rw [nm_66.1, nm_66.2]
  rintro e w38 ⟨rfl, hb⟩
  replace Hhl27 := Lib.hid (Hhl27.out.step hb)
  replace HI28 := Lib.hid (HI28.out.step hb)
  replace HB := Lib.hid (HB.out.trans (hb.mono HB.out.size))
  clear hb
  clear Hhl27 HI28
  go_wp2_with fail
  refine (ten50_c _).mono ?_
  rintro e w39 ⟨A29, c29, rfl, ⟨hl29, hc29, hd29⟩, hb⟩
  replace HB := Lib.hid (HB.out.trans (hb.mono HB.out.size))
  clear hb
  have Hhl29 := Lib.hid hl29
  clear hl29
  go_wp2_with fail
  have hb : Below w39.heap.size w39 (w39.alloc (.cells #[.int .i64 10] 3)) := (Below.refl _ _).alloc (Nat.le_refl _) _
  replace Hhl29 := Lib.hid (Hhl29.out.step hb)
  replace HB := Lib.hid (HB.out.trans (hb.mono HB.out.size))
  clear hb
  have HI30 := Lib.hid (ints_lit w39 [10] #[.int .i64 10] rfl)
  generalize hgx : (w39.alloc (.cells #[.int .i64 10] 3)) = w40 at *
  clear hgx
  refine (thrown52_c _).mono ?_
  rintro e w41 ⟨rfl, hg31, hb⟩
  replace Hhl29 := Lib.hid (Hhl29.out.step hb)
  replace HI30 := Lib.hid (HI30.out.step hb)
  replace HB := Lib.hid (HB.out.trans (hb.mono HB.out.size))
  clear hb
  have Hhg31 := Lib.hid hg31
  clear hg31
  go_wp2_with fail
  refine (falls17_c tenR A29 _ _ c29 1 4 [10] thrL _ Hhl29.out ⟨hc29, hd29⟩ HI30.out ⟨by decide, by decide⟩ Hhg31.out ⟨by decide, by decide⟩).mono ?_
  rw [nm_out.1, nm_out.2.1, nm_out.2.2]
  rintro e w42 ⟨sA2, cs2, mA, cm, rfl, -, -, hb⟩
  replace Hhl29 := Lib.hid (Hhl29.out.step hb)
  replace HI30 := Lib.hid (HI30.out.step hb)
  replace Hhg31 := Lib.hid (Hhg31.out.step hb)
  replace HB := Lib.hid (HB.out.trans (hb.mono HB.out.size))
  clear hb
  clear Hhl29 HI30 Hhg31
  go_wp2_with fail
  refine (ten50_c _).mono ?_
  rintro e w43 ⟨A32, c32, rfl, ⟨hl32, hc32, hd32⟩, hb⟩
  replace HB := Lib.hid (HB.out.trans (hb.mono HB.out.size))
  clear hb
  have Hhl32 := Lib.hid hl32
  clear hl32
  go_wp2_with fail
  refine (all51_c _).mono ?_
  rintro e w44 ⟨rfl, ha33, hb⟩
  replace Hhl32 := Lib.hid (Hhl32.out.step hb)
  replace HB := Lib.hid (HB.out.trans (hb.mono HB.out.size))
  clear hb
  have Hha33 := Lib.hid ha33
  clear ha33
  go_wp2_with fail
  refine (thrown52_c _).mono ?_
  rintro e w45 ⟨rfl, hg34, hb⟩
  replace Hhl32 := Lib.hid (Hhl32.out.step hb)
  replace Hha33 := Lib.hid (Hha33.out.step hb)
  replace HB := Lib.hid (HB.out.trans (hb.mono HB.out.size))
  clear hb
  have Hhg34 := Lib.hid hg34
  clear hg34
  go_wp2_with fail
  refine (left21_c tenR A32 _ _ c32 10 4 allP thr3 _ Hhl32.out ⟨hc32, hd32⟩ Hha33.out ⟨by decide, by decide⟩ (thr3_of Hhg34.out) ⟨by decide, by decide⟩).mono ?_
  rw [nm_few.1, nm_few.2]
  rintro e w46 ⟨rfl, hb⟩
  replace Hhl32 := Lib.hid (Hhl32.out.step hb)
  replace Hha33 := Lib.hid (Hha33.out.step hb)
  replace Hhg34 := Lib.hid (Hhg34.out.step hb)
  replace HB := Lib.hid (HB.out.trans (hb.mono HB.out.size))
  clear hb
  clear Hhl32 Hha33 Hhg34
  go_wp2_with fail
  refine (ten50_c _).mono ?_
  rintro e w47 ⟨A35, c35, rfl, ⟨hl35, hc35, hd35⟩, hb⟩
  replace HB := Lib.hid (HB.out.trans (hb.mono HB.out.size))
  clear hb
  have Hhl35 := Lib.hid hl35
  clear hl35
  go_wp2_with fail
  refine (all51_c _).mono ?_
  rintro e w48 ⟨rfl, ha36, hb⟩
  replace Hhl35 := Lib.hid (Hhl35.out.step hb)
  replace HB := Lib.hid (HB.out.trans (hb.mono HB.out.size))
  clear hb
  have Hha36 := Lib.hid ha36
  clear ha36
  go_wp2_with fail
  refine (thrown52_c _).mono ?_
  rintro e w49 ⟨rfl, hg37, hb⟩
  replace Hhl35 := Lib.hid (Hhl35.out.step hb)
  replace Hha36 := Lib.hid (Hha36.out.step hb)
  replace HB := Lib.hid (HB.out.trans (hb.mono HB.out.size))
  clear hb
  have Hhg37 := Lib.hid hg37
  clear hg37
  go_wp2_with fail
  have hb : Below w49.heap.size w49 ((w49.alloc (.cells #[.int .i64 21, .int .i64 22, .int .i64 23, .int .i64 24] 3)).alloc (.cells #[.bool false, .bool true, .bool true] 4)) := ((Below.refl _ _).alloc (Nat.le_refl _) _).alloc (by simp) _
  replace Hhl35 := Lib.hid (Hhl35.out.step hb)
  replace Hha36 := Lib.hid (Hha36.out.step hb)
  replace Hhg37 := Lib.hid (Hhg37.out.step hb)
  replace HB := Lib.hid (HB.out.trans (hb.mono HB.out.size))
  clear hb
  have HI38 := Lib.hid ((ints_lit w49 [21, 22, 23, 24] #[.int .i64 21, .int .i64 22, .int .i64 23, .int .i64 24] rfl).step ((Below.refl _ _).alloc (Nat.le_refl _) (.cells #[.bool false, .bool true, .bool true] 4)))
  have HI39 := Lib.hid (bls_lit (w49.alloc (.cells #[.int .i64 21, .int .i64 22, .int .i64 23, .int .i64 24] 3)) (w49.heap.size + 1) (by simp) [false, true, true] #[.bool false, .bool true, .bool true] rfl)
  generalize hgx : ((w49.alloc (.cells #[.int .i64 21, .int .i64 22, .int .i64 23, .int .i64 24] 3)).alloc (.cells #[.bool false, .bool true, .bool true] 4)) = w50 at *
  clear hgx
  refine (hit_c tenR A35 _ _ _ _ c35 10 4 4 3 allP [21, 22, 23, 24] thrL [false, true, true] _ Hhl35.out ⟨hc35, hd35⟩ Hha36.out ⟨by decide, by decide⟩ Hhg37.out ⟨by decide, by decide⟩ HI38.out ⟨by decide, by decide⟩ HI39.out ⟨by decide, by decide⟩).mono ?_
  rw [nm_hit2.1, nm_hit2.2]
  rintro e w51 ⟨lA, cl, rfl, ho, hb⟩
  replace Hhl35 := Lib.hid (Hhl35.out.step hb)
  replace Hha36 := Lib.hid (Hha36.out.step hb)
  replace Hhg37 := Lib.hid (Hhg37.out.step hb)
  replace HI38 := Lib.hid (HI38.out.step hb)
  replace HI39 := Lib.hid (HI39.out.step hb)
  replace HB := Lib.hid (HB.out.trans (hb.mono HB.out.size))
  clear hb
  clear Hhl35 Hha36 Hhg37 HI38 HI39
  clear ho
  go_wp2_with fail
  refine (ten50_c _).mono ?_
  rintro e w52 ⟨A40, c40, rfl, ⟨hl40, hc40, hd40⟩, hb⟩
  replace HB := Lib.hid (HB.out.trans (hb.mono HB.out.size))
  clear hb
  have Hhl40 := Lib.hid hl40
  clear hl40
  go_wp2_with fail
  refine (all51_c _).mono ?_
  rintro e w53 ⟨rfl, ha41, hb⟩
  replace Hhl40 := Lib.hid (Hhl40.out.step hb)
  replace HB := Lib.hid (HB.out.trans (hb.mono HB.out.size))
  clear hb
  have Hha41 := Lib.hid ha41
  clear ha41
  go_wp2_with fail
  refine (thrown52_c _).mono ?_
  rintro e w54 ⟨rfl, hg42, hb⟩
  replace Hhl40 := Lib.hid (Hhl40.out.step hb)
  replace Hha41 := Lib.hid (Hha41.out.step hb)
  replace HB := Lib.hid (HB.out.trans (hb.mono HB.out.size))
  clear hb
  have Hhg42 := Lib.hid hg42
  clear hg42
  go_wp2_with fail
  have hb : Below w54.heap.size w54 ((w54.alloc (.cells #[.int .i64 21, .int .i64 22, .int .i64 25, .int .i64 24] 3)).alloc (.cells #[.bool true, .bool true, .bool true] 4)) := ((Below.refl _ _).alloc (Nat.le_refl _) _).alloc (by simp) _
  replace Hhl40 := Lib.hid (Hhl40.out.step hb)
  replace Hha41 := Lib.hid (Hha41.out.step hb)
  replace Hhg42 := Lib.hid (Hhg42.out.step hb)
  replace HB := Lib.hid (HB.out.trans (hb.mono HB.out.size))
  clear hb
  have HI43 := Lib.hid ((ints_lit w54 [21, 22, 25, 24] #[.int .i64 21, .int .i64 22, .int .i64 25, .int .i64 24] rfl).step ((Below.refl _ _).alloc (Nat.le_refl _) (.cells #[.bool true, .bool true, .bool true] 4)))
  have HI44 := Lib.hid (bls_lit (w54.alloc (.cells #[.int .i64 21, .int .i64 22, .int .i64 25, .int .i64 24] 3)) (w54.heap.size + 1) (by simp) [true, true, true] #[.bool true, .bool true, .bool true] rfl)
  generalize hgx : ((w54.alloc (.cells #[.int .i64 21, .int .i64 22, .int .i64 25, .int .i64 24] 3)).alloc (.cells #[.bool true, .bool true, .bool true] 4)) = w55 at *
  clear hgx
  refine (hit_c tenR A40 _ _ _ _ c40 10 4 4 3 allP [21, 22, 25, 24] thrL [true, true, true] _ Hhl40.out ⟨hc40, hd40⟩ Hha41.out ⟨by decide, by decide⟩ Hhg42.out ⟨by decide, by decide⟩ HI43.out ⟨by decide, by decide⟩ HI44.out ⟨by decide, by decide⟩).mono ?_
  rw [nm_hit3.1, nm_hit3.2]
  rintro e w56 ⟨lA, cl, rfl, ho, hb⟩
  replace Hhl40 := Lib.hid (Hhl40.out.step hb)
  replace Hha41 := Lib.hid (Hha41.out.step hb)
  replace Hhg42 := Lib.hid (Hhg42.out.step hb)
  replace HI43 := Lib.hid (HI43.out.step hb)
  replace HI44 := Lib.hid (HI44.out.step hb)
  replace HB := Lib.hid (HB.out.trans (hb.mono HB.out.size))
  clear hb
  clear Hhl40 Hha41 Hhg42 HI43 HI44
  clear ho
  go_wp2_with fail
  refine (ten50_s _).mono ?_
  rintro e w57 ⟨g45, rfl, hn45, hl45, hb⟩
  replace HB := Lib.hid (HB.out.trans (hb.mono HB.out.size))
  clear hb
  have Hhl45 := Lib.hid hl45
  clear hl45
  have hbs1 := HB.out.size
  have hla := Hhl45.out.lt
  go_wp2_with fail
  refine (ten50_s _).mono ?_
  rintro e w58 ⟨g46, rfl, hn46, hl46, hb⟩
  replace Hhl45 := Lib.hid (Hhl45.out.step hb)
  replace HB := Lib.hid (HB.out.trans (hb.mono HB.out.size))
  clear hb
  have Hhl46 := Lib.hid hl46
  clear hl46
  have hbs2 := HB.out.size
  have hlb := Hhl46.out.lt
  go_wp2_with fail
  refine (ten50_s _).mono ?_
  rintro e w59 ⟨g47, rfl, hn47, hl47, hb⟩
  replace Hhl45 := Lib.hid (Hhl45.out.step hb)
  replace Hhl46 := Lib.hid (Hhl46.out.step hb)
  replace HB := Lib.hid (HB.out.trans (hb.mono HB.out.size))
  clear hb
  have Hhl47 := Lib.hid hl47
  clear hl47
  have hbs3 := HB.out.size
  have hlc := Hhl47.out.lt
  have hla2 := Hhl45.out.lt
  have hlb2 := Hhl46.out.lt
  go_upto_region 14 with fail
  have hb : Below w59.heap.size w59 (((w59.alloc (.cells #[.int .i64 4, .int .i64 20, .int .i64 3, .int .i64 2, .slice (some ⟨g45, 0, none⟩) 3 3] 39)).alloc (.cells #[.int .i64 4, .int .i64 20, .int .i64 3, .int .i64 2, .slice (some ⟨g46, 0, none⟩) 3 3] 39)).alloc (.cells #[.int .i64 4, .int .i64 20, .int .i64 3, .int .i64 2, .slice (some ⟨g47, 0, none⟩) 3 3] 39)) := (((Below.refl _ _).alloc (Nat.le_refl _) _).alloc (by simp) _).alloc (by simp; omega) _
  replace Hhl45 := Lib.hid (Hhl45.out.step hb)
  replace Hhl46 := Lib.hid (Hhl46.out.step hb)
  replace Hhl47 := Lib.hid (Hhl47.out.step hb)
  replace HB := Lib.hid (HB.out.trans (hb.mono HB.out.size))
  clear hb
  have HQa : Hid (At5 (((w59.alloc (.cells #[.int .i64 4, .int .i64 20, .int .i64 3, .int .i64 2, .slice (some ⟨g45, 0, none⟩) 3 3] 39)).alloc (.cells #[.int .i64 4, .int .i64 20, .int .i64 3, .int .i64 2, .slice (some ⟨g46, 0, none⟩) 3 3] 39)).alloc (.cells #[.int .i64 4, .int .i64 20, .int .i64 3, .int .i64 2, .slice (some ⟨g47, 0, none⟩) 3 3] 39)) (w59.heap.size) 39 (.int .i64 4) (.int .i64 20) (.int .i64 3) (.int .i64 2) (.slice (some ⟨g45, 0, none⟩) 3 3)) := ((show At5 (w59.alloc (.cells #[.int .i64 4, .int .i64 20, .int .i64 3, .int .i64 2, .slice (some ⟨g45, 0, none⟩) 3 3] 39)) w59.heap.size 39 _ _ _ _ _ from World.alloc_heap_new _ _).step ((Below.refl _ _).alloc (Nat.le_refl _) _)).step ((Below.refl _ _).alloc (Nat.le_refl _) _)
  have HQb : Hid (At5 (((w59.alloc (.cells #[.int .i64 4, .int .i64 20, .int .i64 3, .int .i64 2, .slice (some ⟨g45, 0, none⟩) 3 3] 39)).alloc (.cells #[.int .i64 4, .int .i64 20, .int .i64 3, .int .i64 2, .slice (some ⟨g46, 0, none⟩) 3 3] 39)).alloc (.cells #[.int .i64 4, .int .i64 20, .int .i64 3, .int .i64 2, .slice (some ⟨g47, 0, none⟩) 3 3] 39)) (w59.heap.size + 1) 39 (.int .i64 4) (.int .i64 20) (.int .i64 3) (.int .i64 2) (.slice (some ⟨g46, 0, none⟩) 3 3)) := by have h : At5 ((w59.alloc (.cells #[.int .i64 4, .int .i64 20, .int .i64 3, .int .i64 2, .slice (some ⟨g45, 0, none⟩) 3 3] 39)).alloc (.cells #[.int .i64 4, .int .i64 20, .int .i64 3, .int .i64 2, .slice (some ⟨g46, 0, none⟩) 3 3] 39)) (w59.alloc (.cells #[.int .i64 4, .int .i64 20, .int .i64 3, .int .i64 2, .slice (some ⟨g45, 0, none⟩) 3 3] 39)).heap.size 39 _ _ _ _ _ := World.alloc_heap_new _ _; rw [show (w59.alloc (.cells #[.int .i64 4, .int .i64 20, .int .i64 3, .int .i64 2, .slice (some ⟨g45, 0, none⟩) 3 3] 39)).heap.size = w59.heap.size + 1 by simp] at h; exact h.step ((Below.refl _ _).alloc (Nat.le_refl _) _)
  have HQc : Hid (At5 (((w59.alloc (.cells #[.int .i64 4, .int .i64 20, .int .i64 3, .int .i64 2, .slice (some ⟨g45, 0, none⟩) 3 3] 39)).alloc (.cells #[.int .i64 4, .int .i64 20, .int .i64 3, .int .i64 2, .slice (some ⟨g46, 0, none⟩) 3 3] 39)).alloc (.cells #[.int .i64 4, .int .i64 20, .int .i64 3, .int .i64 2, .slice (some ⟨g47, 0, none⟩) 3 3] 39)) (w59.heap.size + 1 + 1) 39 (.int .i64 4) (.int .i64 20) (.int .i64 3) (.int .i64 2) (.slice (some ⟨g47, 0, none⟩) 3 3)) := by have h : At5 (((w59.alloc (.cells #[.int .i64 4, .int .i64 20, .int .i64 3, .int .i64 2, .slice (some ⟨g45, 0, none⟩) 3 3] 39)).alloc (.cells #[.int .i64 4, .int .i64 20, .int .i64 3, .int .i64 2, .slice (some ⟨g46, 0, none⟩) 3 3] 39)).alloc (.cells #[.int .i64 4, .int .i64 20, .int .i64 3, .int .i64 2, .slice (some ⟨g47, 0, none⟩) 3 3] 39)) ((w59.alloc (.cells #[.int .i64 4, .int .i64 20, .int .i64 3, .int .i64 2, .slice (some ⟨g45, 0, none⟩) 3 3] 39)).alloc (.cells #[.int .i64 4, .int .i64 20, .int .i64 3, .int .i64 2, .slice (some ⟨g46, 0, none⟩) 3 3] 39)).heap.size 39 _ _ _ _ _ := World.alloc_heap_new _ _; rw [show ((w59.alloc (.cells #[.int .i64 4, .int .i64 20, .int .i64 3, .int .i64 2, .slice (some ⟨g45, 0, none⟩) 3 3] 39)).alloc (.cells #[.int .i64 4, .int .i64 20, .int .i64 3, .int .i64 2, .slice (some ⟨g46, 0, none⟩) 3 3] 39)).heap.size = w59.heap.size + 1 + 1 by simp] at h; exact h
  have hsz : (((w59.alloc (.cells #[.int .i64 4, .int .i64 20, .int .i64 3, .int .i64 2, .slice (some ⟨g45, 0, none⟩) 3 3] 39)).alloc (.cells #[.int .i64 4, .int .i64 20, .int .i64 3, .int .i64 2, .slice (some ⟨g46, 0, none⟩) 3 3] 39)).alloc (.cells #[.int .i64 4, .int .i64 20, .int .i64 3, .int .i64 2, .slice (some ⟨g47, 0, none⟩) 3 3] 39)).heap.size = w59.heap.size + 3 := by simp
  generalize hgx : (((w59.alloc (.cells #[.int .i64 4, .int .i64 20, .int .i64 3, .int .i64 2, .slice (some ⟨g45, 0, none⟩) 3 3] 39)).alloc (.cells #[.int .i64 4, .int .i64 20, .int .i64 3, .int .i64 2, .slice (some ⟨g46, 0, none⟩) 3 3] 39)).alloc (.cells #[.int .i64 4, .int .i64 20, .int .i64 3, .int .i64 2, .slice (some ⟨g47, 0, none⟩) 3 3] 39)) = w60 at *
  clear hgx
  obtain ⟨qa, hqa⟩ : ∃ q, q = w59.heap.size := ⟨_, rfl⟩
  rw [← hqa] at HQa HQb HQc hsz hlc hla2 hlb2 hbs3
  simp only [← hqa]
  clear hqa
  have hmk : ∀ W, (Instr.makeSlice 37 (.int .i64 7) (.int .i64 7)).run Try.prog W = .ok (.slice (some ⟨W.heap.size, 0, none⟩) 7 7) (W.alloc (.cells (madeCells #[.int .i64 0, .int .i64 0, .bool false] 21) 99)) := fun W => by
    obtain ⟨i0, hi, hz0, hz1, hz2⟩ := info_parts infoK99
    have h := run_make W 37 99 i0 _ Try.underlying37 hi hz0 .i64 .i64 7 7 (by decide) (by decide) (by rw [hz2]; decide) (by decide)
    rw [hz1] at h
    exact h
  obtain ⟨⟨ya0, ya1, ya2, ya3, ya4⟩, yaf⟩ := HQa.out.cells
  have yaf4 := yaf 4
  clear yaf
  have hb : Below w60.heap.size w60 (w60.alloc (.cells (madeCells #[.int .i64 0, .int .i64 0, .bool false] 21) 99)) := (Below.refl _ _).alloc (Nat.le_refl _) _
  have HM : Hid (LkB (w60.alloc (.cells (madeCells #[.int .i64 0, .int .i64 0, .bool false] 21) 99)) w60.heap.size (madeCells #[.int .i64 0, .int .i64 0, .bool false] 21)) := World.alloc_heap_new _ _
  go_upto_region 15 with fail
  clear hmk ya0 ya1 ya2 ya3 ya4 yaf4
  replace Hhl45 := Lib.hid (Hhl45.out.step hb)
  replace Hhl46 := Lib.hid (Hhl46.out.step hb)
  replace Hhl47 := Lib.hid (Hhl47.out.step hb)
  replace HQa := Lib.hid (HQa.out.step hb)
  replace HQb := Lib.hid (HQb.out.step hb)
  replace HQc := Lib.hid (HQc.out.step hb)
  replace HB := Lib.hid (HB.out.trans (hb.mono HB.out.size))
  clear hb
  rw [show w60.heap.size = qa + 3 from hsz] at HM
  replace HQa := Lib.hid (HQa.out.set4 (.slice (some ⟨qa + 3, 0, none⟩) 7 7))
  replace HQb := Lib.hid (HQb.out.far (q' := qa) (i := 4) (by omega) (.slice (some ⟨qa + 3, 0, none⟩) 7 7))
  replace HQc := Lib.hid (HQc.out.far (q' := qa) (i := 4) (by omega) (.slice (some ⟨qa + 3, 0, none⟩) 7 7))
  replace Hhl45 := Lib.hid (Hhl45.out.far (g' := qa) (i := 4) (by omega) (.slice (some ⟨qa + 3, 0, none⟩) 7 7))
  replace Hhl46 := Lib.hid (Hhl46.out.far (g' := qa) (i := 4) (by omega) (.slice (some ⟨qa + 3, 0, none⟩) 7 7))
  replace Hhl47 := Lib.hid (Hhl47.out.far (g' := qa) (i := 4) (by omega) (.slice (some ⟨qa + 3, 0, none⟩) 7 7))
  replace HM := Lib.hid (HM.out.far (g' := qa) (i := 4) (by omega) (.slice (some ⟨qa + 3, 0, none⟩) 7 7))
  replace HB : Hid (Below w.heap.size w ((w60.alloc (.cells (madeCells #[.int .i64 0, .int .i64 0, .bool false] 21) 99)).setCell ⟨qa, 4, none⟩ (.slice (some ⟨qa + 3, 0, none⟩) 7 7))) := HB.out.setCell (by dsimp only; omega) _
  rw [World.setCell_alloc_past _ _ _ _ (show qa < w60.heap.size by omega)] at HB HQa HQb HQc HM Hhl45 Hhl46 Hhl47
  generalize hgx : ((w60.setCell ⟨qa, 4, none⟩ (.slice (some ⟨qa + 3, 0, none⟩) 7 7)).alloc (.cells (madeCells #[.int .i64 0, .int .i64 0, .bool false] 21) 99)) = y14 at *
  clear hgx hsz
  obtain ⟨⟨-, -, -, -, yb4⟩, -⟩ := HQb.out.cells
  have cb := Hhl46.out.cell (i := 4) rfl
  have fb := Hhl46.out.soft 4
  go_upto_region 16 with fail
  clear yb4 cb fb
  replace HQa := Lib.hid (HQa.out.far (q' := g46) (i := 4) (by omega) (.int .i64 1))
  replace HQb := Lib.hid (HQb.out.far (q' := g46) (i := 4) (by omega) (.int .i64 1))
  replace HQc := Lib.hid (HQc.out.far (q' := g46) (i := 4) (by omega) (.int .i64 1))
  replace Hhl46 := Lib.hid (Hhl46.out.set 4 (.int .i64 1))
  replace Hhl47 := Lib.hid (Hhl47.out.far (g' := g46) (i := 4) (by omega) (.int .i64 1))
  replace HM := Lib.hid (HM.out.far (g' := g46) (i := 4) (by omega) (.int .i64 1))
  replace HB : Hid (Below w.heap.size w (y14.setCell ⟨g46, 4, none⟩ (.int .i64 1))) := HB.out.setCell (by dsimp only; omega) _
  generalize hgx : (y14.setCell ⟨g46, 4, none⟩ (.int .i64 1)) = y15 at *
  clear hgx
  obtain ⟨⟨-, -, -, -, yb4⟩, -⟩ := HQc.out.cells
  have cb := Hhl47.out.cell (i := 7) rfl
  have fb := Hhl47.out.soft 7
  go_upto_region 17 with fail
  clear yb4 cb fb
  replace HQa := Lib.hid (HQa.out.far (q' := g47) (i := 7) (by omega) (.int .i64 10))
  replace HQb := Lib.hid (HQb.out.far (q' := g47) (i := 7) (by omega) (.int .i64 10))
  replace HQc := Lib.hid (HQc.out.far (q' := g47) (i := 7) (by omega) (.int .i64 10))
  replace Hhl46 := Lib.hid (Hhl46.out.far (g' := g47) (i := 7) (by omega) (.int .i64 10))
  replace Hhl47 := Lib.hid (Hhl47.out.set 7 (.int .i64 10))
  replace HM := Lib.hid (HM.out.far (g' := g47) (i := 7) (by omega) (.int .i64 10))
  replace HB : Hid (Below w.heap.size w (y15.setCell ⟨g47, 7, none⟩ (.int .i64 10))) := HB.out.setCell (by dsimp only; omega) _
  generalize hgx : (y15.setCell ⟨g47, 7, none⟩ (.int .i64 10)) = y16 at *
  clear hgx
  have HLm : Hid (Lks y16.heap.size y16 (some ⟨qa + 3, 0, none⟩) manyR.links) := HM.out.lks (by kernel_rfl)
  have HLb : Hid (Lks y16.heap.size y16 (some ⟨g46, 0, none⟩) loopR.links) := Hhl46.out.lks (by kernel_rfl)
  have HLc : Hid (Lks y16.heap.size y16 (some ⟨g47, 0, none⟩) freeR.links) := Hhl47.out.lks (by kernel_rfl)
  clear HM Hhl45 Hhl46 Hhl47
  go_wp2_with fail
  refine (ten50_c _).mono ?_
  rintro e w61 ⟨A48, c48, rfl, ⟨hl48, hc48, hd48⟩, hb⟩
  replace HQa := Lib.hid (HQa.out.step hb)
  replace HQb := Lib.hid (HQb.out.step hb)
  replace HQc := Lib.hid (HQc.out.step hb)
  replace HLm := Lib.hid (HLm.out.step hb)
  replace HLb := Lib.hid (HLb.out.step hb)
  replace HLc := Lib.hid (HLc.out.step hb)
  replace HB := Lib.hid (HB.out.trans (hb.mono HB.out.size))
  clear hb
  have Hhl48 := Lib.hid hl48
  clear hl48
  go_wp2_with fail
  refine (convert_c tenR A48 none c48 0 [] false _ Hhl48.out ⟨hc48, hd48⟩ (fun h => absurd h (by decide)) ⟨by decide, by decide⟩).mono ?_
  rw [nm_nil.1, nm_nil.2]
  rintro e w62 ⟨rfl, hb⟩
  replace HQa := Lib.hid (HQa.out.step hb)
  replace HQb := Lib.hid (HQb.out.step hb)
  replace HQc := Lib.hid (HQc.out.step hb)
  replace HLm := Lib.hid (HLm.out.step hb)
  replace HLb := Lib.hid (HLb.out.step hb)
  replace HLc := Lib.hid (HLc.out.step hb)
  replace Hhl48 := Lib.hid (Hhl48.out.step hb)
  replace HB := Lib.hid (HB.out.trans (hb.mono HB.out.size))
  clear hb
  clear Hhl48
  go_upto_region 18 with fail
  have hb : Below w62.heap.size w62 (w62.alloc (.cells #[.int .i64 0, .int .i64 (-3)] 51)) := (Below.refl _ _).alloc (Nat.le_refl _) _
  replace HQa := Lib.hid (HQa.out.step hb)
  replace HQb := Lib.hid (HQb.out.step hb)
  replace HQc := Lib.hid (HQc.out.step hb)
  replace HLm := Lib.hid (HLm.out.step hb)
  replace HLb := Lib.hid (HLb.out.step hb)
  replace HLc := Lib.hid (HLc.out.step hb)
  replace HB := Lib.hid (HB.out.trans (hb.mono HB.out.size))
  clear hb
  have d0 : (w62.alloc (.cells #[.int .i64 0, .int .i64 (-3)] 51)).cell? ⟨w62.heap.size, 0, none⟩ = some (.int .i64 0) := by simp
  have d1 : (w62.alloc (.cells #[.int .i64 0, .int .i64 (-3)] 51)).cell? ⟨w62.heap.size, 1, none⟩ = some (.int .i64 (-3)) := by simp
  generalize (w62.alloc (.cells #[.int .i64 0, .int .i64 (-3)] 51)) = b2 at *
  go_wp2_with fail
  refine (census_c twoR none 0 _ (fun h => absurd h (by decide)) ⟨by decide, by decide⟩).mono ?_
  rw [nm_racks.2.2.2.2, nm_cens.1, nm_cens.2.1, nm_cens.2.2.1, nm_cens.2.2.2.1, nm_cens.2.2.2.2]
  rintro e w63 ⟨rfl, hb⟩
  replace HQa := Lib.hid (HQa.out.step hb)
  replace HQb := Lib.hid (HQb.out.step hb)
  replace HQc := Lib.hid (HQc.out.step hb)
  replace HLm := Lib.hid (HLm.out.step hb)
  replace HLb := Lib.hid (HLb.out.step hb)
  replace HLc := Lib.hid (HLc.out.step hb)
  replace d0 := cell_of_ans hb d0
  replace d1 := cell_of_ans hb d1
  replace HB := Lib.hid (HB.out.trans (hb.mono HB.out.size))
  clear hb
  go_upto_region 19 with fail
  have hb : Below w63.heap.size w63 (w63.alloc (.cells #[.int .i64 1, .int .i64 3, .int .i64 4, .int .i64 0, .int .i64 0] 75)) := (Below.refl _ _).alloc (Nat.le_refl _) _
  replace HQa := Lib.hid (HQa.out.step hb)
  replace HQb := Lib.hid (HQb.out.step hb)
  replace HQc := Lib.hid (HQc.out.step hb)
  replace HLm := Lib.hid (HLm.out.step hb)
  replace HLb := Lib.hid (HLb.out.step hb)
  replace HLc := Lib.hid (HLc.out.step hb)
  replace d0 := cell_of_ans hb d0
  replace d1 := cell_of_ans hb d1
  replace HB := Lib.hid (HB.out.trans (hb.mono HB.out.size))
  clear hb
  have n0 : (w63.alloc (.cells #[.int .i64 1, .int .i64 3, .int .i64 4, .int .i64 0, .int .i64 0] 75)).cell? ⟨w63.heap.size, 0, none⟩ = some (.int .i64 1) := by simp
  have n1 : (w63.alloc (.cells #[.int .i64 1, .int .i64 3, .int .i64 4, .int .i64 0, .int .i64 0] 75)).cell? ⟨w63.heap.size, 1, none⟩ = some (.int .i64 3) := by simp
  have n2 : (w63.alloc (.cells #[.int .i64 1, .int .i64 3, .int .i64 4, .int .i64 0, .int .i64 0] 75)).cell? ⟨w63.heap.size, 2, none⟩ = some (.int .i64 4) := by simp
  have n3 : (w63.alloc (.cells #[.int .i64 1, .int .i64 3, .int .i64 4, .int .i64 0, .int .i64 0] 75)).cell? ⟨w63.heap.size, 3, none⟩ = some (.int .i64 0) := by simp
  have n4 : (w63.alloc (.cells #[.int .i64 1, .int .i64 3, .int .i64 4, .int .i64 0, .int .i64 0] 75)).cell? ⟨w63.heap.size, 4, none⟩ = some (.int .i64 0) := by simp
  generalize (w63.alloc (.cells #[.int .i64 1, .int .i64 3, .int .i64 4, .int .i64 0, .int .i64 0] 75)) = b3 at *
  obtain ⟨⟨z0, z1, z2, z3, z4⟩, -⟩ := HQa.out.cells
  go_wp2_with fail
  refine (checkRack_c manyR (some ⟨qa + 3, 0, none⟩) 7 _ HLm.out ⟨by decide, by decide⟩).mono ?_
  rw [nm_racks.1]
  rintro e w64 ⟨rfl, hb⟩
  replace HQa := Lib.hid (HQa.out.step hb)
  replace HQb := Lib.hid (HQb.out.step hb)
  replace HQc := Lib.hid (HQc.out.step hb)
  replace HLm := Lib.hid (HLm.out.step hb)
  replace HLb := Lib.hid (HLb.out.step hb)
  replace HLc := Lib.hid (HLc.out.step hb)
  replace d0 := cell_of_ans hb d0
  replace d1 := cell_of_ans hb d1
  replace n0 := cell_of_ans hb n0
  replace n1 := cell_of_ans hb n1
  replace n2 := cell_of_ans hb n2
  replace n3 := cell_of_ans hb n3
  replace n4 := cell_of_ans hb n4
  replace HB := Lib.hid (HB.out.trans (hb.mono HB.out.size))
  clear hb
  clear z0 z1 z2 z3 z4
  obtain ⟨⟨z0, z1, z2, z3, z4⟩, -⟩ := HQb.out.cells
  go_wp2_with fail
  refine (checkRack_c loopR (some ⟨g46, 0, none⟩) 3 _ HLb.out ⟨by decide, by decide⟩).mono ?_
  rw [nm_racks.2.1]
  rintro e w65 ⟨rfl, hb⟩
  replace HQa := Lib.hid (HQa.out.step hb)
  replace HQb := Lib.hid (HQb.out.step hb)
  replace HQc := Lib.hid (HQc.out.step hb)
  replace HLm := Lib.hid (HLm.out.step hb)
  replace HLb := Lib.hid (HLb.out.step hb)
  replace HLc := Lib.hid (HLc.out.step hb)
  replace d0 := cell_of_ans hb d0
  replace d1 := cell_of_ans hb d1
  replace n0 := cell_of_ans hb n0
  replace n1 := cell_of_ans hb n1
  replace n2 := cell_of_ans hb n2
  replace n3 := cell_of_ans hb n3
  replace n4 := cell_of_ans hb n4
  replace HB := Lib.hid (HB.out.trans (hb.mono HB.out.size))
  clear hb
  clear z0 z1 z2 z3 z4
  obtain ⟨⟨z0, z1, z2, z3, z4⟩, -⟩ := HQc.out.cells
  go_wp2_with fail
  refine (checkRack_c freeR (some ⟨g47, 0, none⟩) 3 _ HLc.out ⟨by decide, by decide⟩).mono ?_
  rw [nm_racks.2.2.1]
  rintro e w66 ⟨rfl, hb⟩
  replace HQa := Lib.hid (HQa.out.step hb)
  replace HQb := Lib.hid (HQb.out.step hb)
  replace HQc := Lib.hid (HQc.out.step hb)
  replace HLm := Lib.hid (HLm.out.step hb)
  replace HLb := Lib.hid (HLb.out.step hb)
  replace HLc := Lib.hid (HLc.out.step hb)
  replace d0 := cell_of_ans hb d0
  replace d1 := cell_of_ans hb d1
  replace n0 := cell_of_ans hb n0
  replace n1 := cell_of_ans hb n1
  replace n2 := cell_of_ans hb n2
  replace n3 := cell_of_ans hb n3
  replace n4 := cell_of_ans hb n4
  replace HB := Lib.hid (HB.out.trans (hb.mono HB.out.size))
  clear hb
  clear z0 z1 z2 z3 z4
  go_wp2_with fail
  refine (checkRack_c zeroR none 0 _ (fun h => absurd h (by decide)) ⟨by decide, by decide⟩).mono ?_
  rw [nm_racks.2.2.2.1]
  rintro e w67 ⟨rfl, hb⟩
  replace HQa := Lib.hid (HQa.out.step hb)
  replace HQb := Lib.hid (HQb.out.step hb)
  replace HQc := Lib.hid (HQc.out.step hb)
  replace HLm := Lib.hid (HLm.out.step hb)
  replace HLb := Lib.hid (HLb.out.step hb)
  replace HLc := Lib.hid (HLc.out.step hb)
  replace d0 := cell_of_ans hb d0
  replace d1 := cell_of_ans hb d1
  replace n0 := cell_of_ans hb n0
  replace n1 := cell_of_ans hb n1
  replace n2 := cell_of_ans hb n2
  replace n3 := cell_of_ans hb n3
  replace n4 := cell_of_ans hb n4
  replace HB := Lib.hid (HB.out.trans (hb.mono HB.out.size))
  clear hb
  have e75 := eq75 1 3 4 0 0
  go_wp2_with fail
  refine (awake16_c _).mono ?_
  rintro e w68 ⟨rfl, hb⟩
  replace HQa := Lib.hid (HQa.out.step hb)
  replace HQb := Lib.hid (HQb.out.step hb)
  replace HQc := Lib.hid (HQc.out.step hb)
  replace HLm := Lib.hid (HLm.out.step hb)
  replace HLb := Lib.hid (HLb.out.step hb)
  replace HLc := Lib.hid (HLc.out.step hb)
  replace d0 := cell_of_ans hb d0
  replace d1 := cell_of_ans hb d1
  replace n0 := cell_of_ans hb n0
  replace n1 := cell_of_ans hb n1
  replace n2 := cell_of_ans hb n2
  replace n3 := cell_of_ans hb n3
  replace n4 := cell_of_ans hb n4
  replace HB := Lib.hid (HB.out.trans (hb.mono HB.out.size))
  clear hb
  go_wp2_with fail
  go_ret
  exact ⟨rfl, HB.out⟩
end Go.Proofs.Ytpekajnjjhibjaa
