/-
  frame: the index of the bad ball (there is none), the game behind a sheet, the error of a sheet (there is none).
-/
import Derived.Test.YtenpiinkbfancaaFc
namespace Go.Proofs.Ytenpiinkbfancaa
open Go.RowKit
set_option linter.unusedSimpArgs false
set_option linter.unusedVariables false

attribute [local go_sem] Oper.semAt_some
/-- A box that holds a number. -/
def NumAt (W : World) (b : Nat) (v : Int) : Prop := W.heap[b]? = some (.cells #[.int .i64 v] 3)
theorem NumAt.cell {W : World} {b : Nat} {v : Int} (h : NumAt W b v) : W.cell? ⟨b, 0, none⟩ = some (.int .i64 v) ∧ W.frozen? ⟨b, 0, none⟩ = false := by
  unfold NumAt at h
  simp [World.cell?, World.frozen?, h]
theorem NumAt.lt {W : World} {b : Nat} {v : Int} (h : NumAt W b v) : b < W.heap.size := (Array.getElem?_eq_some_iff.1 h).1
theorem NumAt.step {W W' : World} {b : Nat} {v : Int} (h : NumAt W b v) (hb : Below W.heap.size W W') : NumAt W' b v := (hb.block b h.lt).trans h
theorem NumAt.set {W : World} {b : Nat} {v : Int} (h : NumAt W b v) (x : Int) : NumAt (W.setCell ⟨b, 0, none⟩ (.int .i64 x)) b x := by
  unfold NumAt at h ⊢
  simp [World.setCell, Array.getElem?_modify, h]
theorem NumAt.new (w : World) (v : Int) : NumAt (w.alloc (.cells #[.int .i64 v] 3)) w.heap.size v := World.alloc_heap_new _ _
/-- A function's own blocks do not count for its caller. -/
theorem below_ks {S : Nat → Prop} {w w2 W : World} (hb : Below w.heap.size w w2) (hk : KS S w2.heap.size w2 W) (hS : ∀ k, k < w.heap.size → ¬ S k) : Below w.heap.size w W :=
  hb.trans (hk.below hb.size hb.size hS)
set_option maxRecDepth 100000 in
set_option maxHeartbeats 4000000 in
theorem bad_c (N : Int) (A : Option Addr) (c : Nat) (xs : List Int) (w : World) (hs : SheetOk N xs) (hx : Ints w.heap.size w A xs) :
    Calls Try.prog 102 #[lawV N, .slice A xs.length c] w (Ans w (.int .i64 xs.length)) := by
  obtain ⟨w1, hw1⟩ : ∃ w1, w1 = (w.alloc (.cells #[.int .i64 N, .int .i64 10, .int .i64 2, .int .i64 10] 50)).alloc (.cells #[.int .i64 0] 3) := ⟨_, rfl⟩
  have hb0 : Below w.heap.size w w1 := by rw [hw1]; exact below_two _ _
  have HB0 := Lib.hid hb0
  have hz1 : w1.heap.size = w.heap.size + 2 := by rw [hw1]; simp
  have l0 : w1.cell? ⟨w.heap.size, 0, none⟩ = some (.int .i64 N) := by rw [hw1]; go_simp
  have l1 : w1.cell? ⟨w.heap.size, 1, none⟩ = some (.int .i64 10) := by rw [hw1]; go_simp
  have l2 : w1.cell? ⟨w.heap.size, 2, none⟩ = some (.int .i64 2) := by rw [hw1]; go_simp
  have l3 : w1.cell? ⟨w.heap.size, 3, none⟩ = some (.int .i64 10) := by rw [hw1]; go_simp
  have HN : Hid (NumAt w1 (w.heap.size + 1) 0) := by
    rw [hw1]
    have := NumAt.new (w.alloc (.cells #[.int .i64 N, .int .i64 10, .int .i64 2, .int .i64 10] 50)) 0
    rwa [World.size_alloc] at this
  have hlen := hs.len
  have HBL := Lib.hid (balls_c N A c w.heap.size xs w1 (hx.below HB0.out) (by omega))
  unfold lawV at *
  clear hb0 hx
  refine calls_marks Try.func102 rfl ?_
  simp only [Try.ntmps102, List.size_toArray, List.length_cons, List.length_nil, Nat.reduceAdd, Nat.reduceSub, Array.replicate_succ, Array.replicate_zero, List.push_toArray, List.append_toArray, List.nil_append, List.cons_append]
  go_wp2_with fail
  rw [← hw1]
  clear hw1
  refine HBL.out.mono ?_
  rintro e w2 ⟨rfl, hb, hz, hS⟩
  have HB2 : Hid (Below w.heap.size w w2) := HB0.out.trans (hb.mono HB0.out.size)
  have HN2 := Lib.hid (HN.out.step hb)
  have HS := Lib.hid hS
  rw [hz1] at hz hS HS
  rw [hz1]
  clear hb hS l0 l1 l2 l3 HBL
  go_wp2_with fail
  refine wpIn_wide.1 (wpIn_rangeFunc_n (F := Fence.wide) (n := 5) (S := fun k => k = w.heap.size + 1) rfl (by omega) (gf := 104) (lb := #[.pointer (some ⟨w.heap.size + 2, 0, none⟩), .pointer (some ⟨w.heap.size + 2 + 1, 0, none⟩)]) rfl trivial (enters_of Try.func104 (by kernel_rfl) rfl)
    (balls1_in 4 (w.heap.size + 2) w.heap.size N A c xs hs (fun k => k = w.heap.size + 1) w2 HS.out ⟨by omega, by omega, fun k hk => by omega⟩) (Below.refl _ _) (fun _ => rfl)
    (fun z k W => NumAt W (w.heap.size + 1) (k : Int) ∧ KS (fun k => k = w.heap.size + 1) w2.heap.size w2 W)
    (fun W hb => ⟨HN2.out.step hb, KS.of_below hb⟩)
    (fun k a' W1 W2 => a' = { tmps := #[.agg #[.int .i64 N, .int .i64 10, .int .i64 2, .int .i64 10], .slice A xs.length c, .pointer (some ⟨w.heap.size, 0, none⟩), undef, .int .i64 0, .pointer (some ⟨w.heap.size + 1, 0, none⟩), .int .i64 (k : Int), .agg #[.int .i64 N, .int .i64 10, .int .i64 2, .int .i64 10], .slice A xs.length c, .func (.func 104) #[] #[.pointer (some ⟨w.heap.size + 2, 0, none⟩), .pointer (some ⟨w.heap.size + 2 + 1, 0, none⟩)], .int .i64 (k : Int), thV N xs k, undef, undef, undef], defers := [] })
    (fun _ _ _ _ _ _ _ _ h => h) ?assign ?body ?done)
  case assign =>
    rintro l z k W0 W1 K hz' hzW hR hch hk hK
    simp only [bEnc] at hK ⊢
    gi_wp2
    exact hK _ _ (Below.refl _ _) rfl
  case body =>
    rintro l z k a' W0 W1 W2 hz' hzW ⟨hn, hks⟩ hch hch2 hk rfl
    have hn2 : NumAt W2 (w.heap.size + 1) (k : Int) := (hch.trans hch2).block hn (.inl (by omega))
    have hks2 := hks.trans (KS.of_chz (hch.trans hch2))
    obtain ⟨p0, p1⟩ := hn2.cell
    have hw : IntKind.i64.wrap ((k : Int) + 1) = (k : Int) + 1 := IntWalk.i64_in _ (by omega)
    have HN3 := Lib.hid hn2
    have HK3 := Lib.hid hks2
    clear hn hks hch hch2 hn2 hks2
    unfold thV
    gi_wp2
    refine ⟨KZ.of_set (S := fun k => k = w.heap.size + 1) (ad := ⟨w.heap.size + 1, 0, none⟩) ⟨by dsimp only; omega, rfl⟩ (by dsimp only; omega) _, HN3.out.set _, HK3.out.trans (KS.of_set (S := fun k => k = w.heap.size + 1) (ad := ⟨w.heap.size + 1, 0, none⟩) (.inr rfl) _)⟩
  case done =>
    rintro D z W0 W hD hz' hzW hDz ⟨hn, hks⟩ hch hK
    have hn2 : NumAt W (w.heap.size + 1) (xs.length : Int) := hch.block hn (.inl (by omega))
    have hks2 := hks.trans (KS.of_chz hch)
    obtain ⟨p0, p1⟩ := hn2.cell
    have HKD := Lib.hid hK
    have HK3 := Lib.hid hks2
    clear hn hks hch hks2 hK
    go_wp2_with fail
    try rw [Exit.noGoto_ret]
    refine ⟨by simp, .inl ⟨_, _, rfl, run_takeDeferred (w := W) HKD.out, ?_⟩⟩
    refine ⟨.int .i64 xs.length, by simp [results, Try.results102, go_sem], rfl, ?_⟩
    have hb1 : Below w.heap.size w W := below_ks (S := fun k => k = w.heap.size + 1) HB2.out HK3.out (fun k hk => by omega)
    exact hb1.trans ⟨rfl, rfl, rfl, by simp, fun k hk => World.putObj_heap_other (by omega)⟩
/-- A box that holds what was yielded. -/
def ThAt (W : World) (g : Nat) (N : Int) (b f c : Int) (p : Pl) : Prop := W.heap[g]? = some (.cells #[.int .i64 b, .int .i64 f, .int .i64 c, .int .i64 N, .int .i64 10, .int .i64 2, .int .i64 10, .int .i64 p.fr, .int .i64 p.th, .int .i64 p.st, .bool p.fresh, .int .i64 p.need, .int .i64 p.a0, .int .i64 p.a1] 150)
section
variable {W W' : World} {g : Nat} {N b f c : Int} {p : Pl}
theorem ThAt.lt (h : ThAt W g N b f c p) : g < W.heap.size := (Array.getElem?_eq_some_iff.1 h).1
theorem ThAt.cells (h : ThAt W g N b f c p) : (W.cell? ⟨g, 0, none⟩ = some (.int .i64 b) ∧ W.cell? ⟨g, 1, none⟩ = some (.int .i64 f) ∧ W.cell? ⟨g, 2, none⟩ = some (.int .i64 c)) ∧ (W.cell? ⟨g, 3, none⟩ = some (.int .i64 N) ∧ W.cell? ⟨g, 4, none⟩ = some (.int .i64 10) ∧ W.cell? ⟨g, 5, none⟩ = some (.int .i64 2) ∧ W.cell? ⟨g, 6, none⟩ = some (.int .i64 10)) ∧
    (W.cell? ⟨g, 7, none⟩ = some (.int .i64 p.fr) ∧ W.cell? ⟨g, 8, none⟩ = some (.int .i64 p.th) ∧ W.cell? ⟨g, 9, none⟩ = some (.int .i64 p.st) ∧ W.cell? ⟨g, 10, none⟩ = some (.bool p.fresh) ∧ W.cell? ⟨g, 11, none⟩ = some (.int .i64 p.need) ∧ W.cell? ⟨g, 12, none⟩ = some (.int .i64 p.a0) ∧ W.cell? ⟨g, 13, none⟩ = some (.int .i64 p.a1)) := by
  unfold ThAt at h
  simp [World.cell?, h]
theorem ThAt.step (h : ThAt W g N b f c p) (hb : Below W.heap.size W W') : ThAt W' g N b f c p := (hb.block g h.lt).trans h
theorem ThAt.new (w : World) (N b f c : Int) (p : Pl) : ThAt (w.alloc (.cells #[.int .i64 b, .int .i64 f, .int .i64 c, .int .i64 N, .int .i64 10, .int .i64 2, .int .i64 10, .int .i64 p.fr, .int .i64 p.th, .int .i64 p.st, .bool p.fresh, .int .i64 p.need, .int .i64 p.a0, .int .i64 p.a1] 150)) w.heap.size N b f c p := World.alloc_heap_new _ _
end
theorem setP_ks {S : Nat → Prop} {W : World} {g : Nat} {N : Int} {p : Pl} {s : Nat} (h : s ≤ g ∨ S g) : KS S s W (setP W g N p) := by
  unfold setP
  exact ((((((((((KS.of_set (ad := ⟨g, 0, none⟩) h _).trans (KS.of_set (ad := ⟨g, 1, none⟩) h _)).trans (KS.of_set (ad := ⟨g, 2, none⟩) h _)).trans (KS.of_set (ad := ⟨g, 3, none⟩) h _)).trans (KS.of_set (ad := ⟨g, 4, none⟩) h _)).trans (KS.of_set (ad := ⟨g, 5, none⟩) h _)).trans (KS.of_set (ad := ⟨g, 6, none⟩) h _)).trans (KS.of_set (ad := ⟨g, 7, none⟩) h _)).trans (KS.of_set (ad := ⟨g, 8, none⟩) h _)).trans (KS.of_set (ad := ⟨g, 9, none⟩) h _)).trans (KS.of_set (ad := ⟨g, 10, none⟩) h _)
theorem setP_kz {S : Nat → Prop} {W : World} {g : Nat} {N : Int} {p : Pl} {s z n0 : Nat} (h : g < s ∧ S g) (hn : g < n0) : KZ S s z n0 W (setP W g N p) := by
  unfold setP
  exact ((((((((((KZ.of_set (ad := ⟨g, 0, none⟩) h hn _).trans (KZ.of_set (ad := ⟨g, 1, none⟩) h hn _)).trans (KZ.of_set (ad := ⟨g, 2, none⟩) h hn _)).trans (KZ.of_set (ad := ⟨g, 3, none⟩) h hn _)).trans (KZ.of_set (ad := ⟨g, 4, none⟩) h hn _)).trans (KZ.of_set (ad := ⟨g, 5, none⟩) h hn _)).trans (KZ.of_set (ad := ⟨g, 6, none⟩) h hn _)).trans (KZ.of_set (ad := ⟨g, 7, none⟩) h hn _)).trans (KZ.of_set (ad := ⟨g, 8, none⟩) h hn _)).trans (KZ.of_set (ad := ⟨g, 9, none⟩) h hn _)).trans (KZ.of_set (ad := ⟨g, 10, none⟩) h hn _)
theorem setP_below {W : World} {g : Nat} {N : Int} {p : Pl} {n : Nat} (h : n ≤ g) : Below n W (setP W g N p) := by
  unfold setP
  exact (((((((((((Below.refl n W).setCell h _).setCell h _).setCell h _).setCell h _).setCell h _).setCell h _).setCell h _).setCell h _).setCell h _).setCell h _).setCell h _
set_option maxRecDepth 100000 in
set_option maxHeartbeats 8000000 in
theorem behind_c (N : Int) (A : Option Addr) (c : Nat) (xs : List Int) (w : World) (hs : SheetOk N xs) (hx : Ints w.heap.size w A xs) :
    Calls Try.prog 49 #[lawV N, .slice A xs.length c] w (Ans w (plV N (plS N xs xs.length))) := by
  obtain ⟨w1, hw1⟩ : ∃ w1, w1 = (w.alloc (.cells #[.int .i64 N, .int .i64 10, .int .i64 2, .int .i64 10] 50)).alloc (.cells #[.int .i64 0, .int .i64 0, .int .i64 0, .int .i64 0, .int .i64 0, .int .i64 0, .int .i64 0, .bool false, .int .i64 0, .int .i64 0, .int .i64 0] 148) := ⟨_, rfl⟩
  have hb0 : Below w.heap.size w w1 := by rw [hw1]; exact below_two _ _
  have HB0 := Lib.hid hb0
  have hz1 : w1.heap.size = w.heap.size + 2 := by rw [hw1]; simp
  have l0 : w1.cell? ⟨w.heap.size, 0, none⟩ = some (.int .i64 N) := by rw [hw1]; go_simp
  have l1 : w1.cell? ⟨w.heap.size, 1, none⟩ = some (.int .i64 10) := by rw [hw1]; go_simp
  have l2 : w1.cell? ⟨w.heap.size, 2, none⟩ = some (.int .i64 2) := by rw [hw1]; go_simp
  have l3 : w1.cell? ⟨w.heap.size, 3, none⟩ = some (.int .i64 10) := by rw [hw1]; go_simp
  have HZ : Hid (w1.heap[w.heap.size + 1]? = some (.cells #[.int .i64 0, .int .i64 0, .int .i64 0, .int .i64 0, .int .i64 0, .int .i64 0, .int .i64 0, .bool false, .int .i64 0, .int .i64 0, .int .i64 0] 148)) := by
    rw [hw1]
    have := World.alloc_heap_new (w.alloc (.cells #[.int .i64 N, .int .i64 10, .int .i64 2, .int .i64 10] 50)) (.cells #[.int .i64 0, .int .i64 0, .int .i64 0, .int .i64 0, .int .i64 0, .int .i64 0, .int .i64 0, .bool false, .int .i64 0, .int .i64 0, .int .i64 0] 148)
    rwa [World.size_alloc] at this
  have hlen := hs.len
  have HBG := Lib.hid (begin_c N w1)
  have HX := Lib.hid hx
  unfold lawV at *
  clear hb0 hx
  refine calls_marks Try.func49 rfl ?_
  simp only [Try.ntmps49, List.size_toArray, List.length_cons, List.length_nil, Nat.reduceAdd, Nat.reduceSub, Array.replicate_succ, Array.replicate_zero, List.push_toArray, List.append_toArray, List.nil_append, List.cons_append]
  go_wp2_with fail
  rw [← hw1]
  clear hw1
  refine HBG.out.mono ?_
  rintro e w2 ⟨rfl, hb2⟩
  have HZ2 : Hid (w2.heap[w.heap.size + 1]? = some (.cells #[.int .i64 0, .int .i64 0, .int .i64 0, .int .i64 0, .int .i64 0, .int .i64 0, .int .i64 0, .bool false, .int .i64 0, .int .i64 0, .int .i64 0] 148)) := (hb2.block _ (by omega)).trans HZ.out
  have HB2 : Hid (Below w.heap.size w w2) := HB0.out.trans (hb2.mono HB0.out.size)
  replace l0 := cell_of_ans hb2 l0
  replace l1 := cell_of_ans hb2 l1
  replace l2 := cell_of_ans hb2 l2
  replace l3 := cell_of_ans hb2 l3
  have hz2 := hb2.size
  rw [hz1] at hz2
  have HPN : Hid (PlAt (w2.alloc (.cells #[.int .i64 N, .int .i64 10, .int .i64 2, .int .i64 10, .int .i64 0, .int .i64 0, .int .i64 10, .bool true, .int .i64 2, .int .i64 0, .int .i64 0] 148)) w2.heap.size N begP) := PlAt.new w2 N begP
  have hb3 : Below w2.heap.size w2 (w2.alloc (.cells #[.int .i64 N, .int .i64 10, .int .i64 2, .int .i64 10, .int .i64 0, .int .i64 0, .int .i64 10, .bool true, .int .i64 2, .int .i64 0, .int .i64 0] 148)) := (Below.refl _ _).alloc (Nat.le_refl _) _
  have m0 := cell_of_ans hb3 l0
  have m1 := cell_of_ans hb3 l1
  have m2 := cell_of_ans hb3 l2
  have m3 := cell_of_ans hb3 l3
  have hz3 : (w2.alloc (.cells #[.int .i64 N, .int .i64 10, .int .i64 2, .int .i64 10, .int .i64 0, .int .i64 0, .int .i64 10, .bool true, .int .i64 2, .int .i64 0, .int .i64 0] 148)).heap.size = w2.heap.size + 1 := by simp
  have HZ3 : Hid ((w2.alloc (.cells #[.int .i64 N, .int .i64 10, .int .i64 2, .int .i64 10, .int .i64 0, .int .i64 0, .int .i64 10, .bool true, .int .i64 2, .int .i64 0, .int .i64 0] 148)).heap[w.heap.size + 1]? = some (.cells #[.int .i64 0, .int .i64 0, .int .i64 0, .int .i64 0, .int .i64 0, .int .i64 0, .int .i64 0, .bool false, .int .i64 0, .int .i64 0, .int .i64 0] 148)) := (hb3.block _ (by omega)).trans HZ2.out
  have HB3 : Hid (Below w.heap.size w (w2.alloc (.cells #[.int .i64 N, .int .i64 10, .int .i64 2, .int .i64 10, .int .i64 0, .int .i64 0, .int .i64 10, .bool true, .int .i64 2, .int .i64 0, .int .i64 0] 148))) := HB2.out.trans (hb3.mono HB2.out.size)
  clear hb2 hb3 l0 l1 l2 l3 HBG HZ HZ2
  unfold plV begP
  dsimp only
  go_wp2_with fail
  generalize w2.alloc (.cells #[.int .i64 N, .int .i64 10, .int .i64 2, .int .i64 10, .int .i64 0, .int .i64 0, .int .i64 10, .bool true, .int .i64 2, .int .i64 0, .int .i64 0] 148) = w3 at *
  generalize w2.heap.size = pb at *
  have HBL := Lib.hid (balls_c N A c w.heap.size xs w3 (HX.out.below HB3.out) (by omega))
  unfold lawV at HBL
  refine HBL.out.mono ?_
  rintro e w4 ⟨rfl, hb, hz, hS⟩
  have HB4 : Hid (Below w.heap.size w w4) := HB3.out.trans (hb.mono HB3.out.size)
  have HPN4 := Lib.hid (HPN.out.step hb)
  have HZ4 : Hid (w4.heap[w.heap.size + 1]? = some (.cells #[.int .i64 0, .int .i64 0, .int .i64 0, .int .i64 0, .int .i64 0, .int .i64 0, .int .i64 0, .bool false, .int .i64 0, .int .i64 0, .int .i64 0] 148)) := (hb.block _ (by omega)).trans HZ3.out
  have HS := Lib.hid hS
  rw [hz3] at hz hS HS
  rw [hz3]
  clear hb hS m0 m1 m2 m3 HBL
  go_wp2_with fail
  refine wpIn_wide.1 (wpIn_rangeFunc_n (F := Fence.wide) (n := 5) (S := fun k => k = pb) rfl (by omega) (gf := 104) (lb := #[.pointer (some ⟨pb + 1, 0, none⟩), .pointer (some ⟨pb + 1 + 1, 0, none⟩)]) rfl trivial (enters_of Try.func104 (by kernel_rfl) rfl)
    (balls1_in 4 (pb + 1) w.heap.size N A c xs hs (fun k => k = pb) w4 HS.out ⟨by omega, by omega, fun k hk => by omega⟩) (Below.refl _ _) (fun _ => rfl)
    (fun z k W => PlAt W pb N (plS N xs k) ∧ KS (fun k => k = pb) w4.heap.size w4 W)
    (fun W hb => ⟨HPN4.out.step hb, KS.of_below hb⟩)
    (fun k a' W1 W2 => ThAt W2 W1.heap.size N (ix xs k) (plS N xs k).fr (ix xs k) (plS N xs (k + 1)) ∧ a' = { tmps := #[.agg #[.int .i64 N, .int .i64 10, .int .i64 2, .int .i64 10], .slice A xs.length c, .pointer (some ⟨w.heap.size, 0, none⟩), undef, .pointer (some ⟨w.heap.size + 1, 0, none⟩), .pointer (some ⟨pb, 0, none⟩), undef, .pointer (some ⟨W1.heap.size, 0, none⟩), .agg #[.int .i64 N, .int .i64 10, .int .i64 2, .int .i64 10], plV N begP, .agg #[.int .i64 N, .int .i64 10, .int .i64 2, .int .i64 10], .slice A xs.length c, .func (.func 104) #[] #[.pointer (some ⟨pb + 1, 0, none⟩), .pointer (some ⟨pb + 1 + 1, 0, none⟩)], .int .i64 (k : Int), thV N xs k, undef, undef, undef], defers := [] })
    (fun k a' W1 A l o h1 h2 h => ⟨(World.putObj_heap_other (by omega)).trans h.1, h.2⟩) ?assign ?body ?done)
  case assign =>
    rintro l z k W0 W1 K hz' hzW hR hch hk hK
    simp only [bEnc] at hK ⊢
    unfold plV begP thV at hK
    unfold thV
    gi_wp2
    exact hK _ _ ((Below.refl _ _).alloc (Nat.le_refl _) _) ⟨ThAt.new _ _ _ _ _ _, rfl⟩
  case body =>
    rintro l z k a' W0 W1 W2 hz' hzW ⟨hn, hks⟩ hch hch2 hk ⟨hth, rfl⟩
    have hn2 : PlAt W2 pb N (plS N xs k) := (hch.trans hch2).block hn (.inl (by omega))
    have hks2 := hks.trans (KS.of_chz (hch.trans hch2))
    obtain ⟨⟨r0, r1, r2, r3⟩, ⟨r4, r5, r6, r7, r8, r9, r10⟩, pf⟩ := hn2.cells
    obtain ⟨-, ⟨t0, t1, t2, t3⟩, ⟨t4, t5, t6, t7, t8, t9, t10⟩⟩ := hth.cells
    have HN3 := Lib.hid hn2
    have HK3 := Lib.hid hks2
    clear hn hks hch hch2 hn2 hks2 hth
    unfold thV plV begP
    dsimp only
    generalize W1.heap.size = tb at *
    gi_wp2
    exact ⟨setP_kz (S := fun k => k = pb) (p := plS N xs (k + 1)) ⟨by omega, rfl⟩ (by omega), setP_at HN3.out _, HK3.out.trans (setP_ks (S := fun k => k = pb) (p := plS N xs (k + 1)) (.inr rfl))⟩
  case done =>
    rintro D z W0 W hD hz' hzW hDz ⟨hn, hks⟩ hch hK
    have hn2 : PlAt W pb N (plS N xs xs.length) := hch.block hn (.inl (by omega))
    have hks2 := hks.trans (KS.of_chz hch)
    have hzz : W.heap[w.heap.size + 1]? = some (.cells #[.int .i64 0, .int .i64 0, .int .i64 0, .int .i64 0, .int .i64 0, .int .i64 0, .int .i64 0, .bool false, .int .i64 0, .int .i64 0, .int .i64 0] 148) := hks2.2.2.2.2 _ _ HZ4.out (by omega) (by omega)
    obtain ⟨⟨r0, r1, r2, r3⟩, ⟨r4, r5, r6, r7, r8, r9, r10⟩, -⟩ := hn2.cells
    have pf : ∀ o, W.frozen? ⟨w.heap.size + 1, o, none⟩ = false := by simp [World.frozen?, hzz]
    obtain ⟨z0, z1, z2, z3, z4, z5, z6, z7, z8, z9, z10⟩ : W.cell? ⟨w.heap.size + 1, 0, none⟩ = some (.int .i64 0) ∧ W.cell? ⟨w.heap.size + 1, 1, none⟩ = some (.int .i64 0) ∧ W.cell? ⟨w.heap.size + 1, 2, none⟩ = some (.int .i64 0) ∧ W.cell? ⟨w.heap.size + 1, 3, none⟩ = some (.int .i64 0) ∧ W.cell? ⟨w.heap.size + 1, 4, none⟩ = some (.int .i64 0) ∧ W.cell? ⟨w.heap.size + 1, 5, none⟩ = some (.int .i64 0) ∧ W.cell? ⟨w.heap.size + 1, 6, none⟩ = some (.int .i64 0) ∧ W.cell? ⟨w.heap.size + 1, 7, none⟩ = some (.bool false) ∧ W.cell? ⟨w.heap.size + 1, 8, none⟩ = some (.int .i64 0) ∧ W.cell? ⟨w.heap.size + 1, 9, none⟩ = some (.int .i64 0) ∧ W.cell? ⟨w.heap.size + 1, 10, none⟩ = some (.int .i64 0) := by simp [World.cell?, hzz]
    have HKD := Lib.hid hK
    have HK3 := Lib.hid hks2
    have hpe : PlAt (setP W (w.heap.size + 1) N (plS N xs xs.length)) (w.heap.size + 1) N (plS N xs xs.length) := by
      unfold PlAt setP
      simp [World.setCell, Array.getElem?_modify, hzz]
    have HPE := Lib.hid hpe
    clear hn hks hch hks2 hK hn2 hzz hpe
    go_wp2_with fail
    try rw [Exit.noGoto_ret]
    have HWE : Hid (Below (w.heap.size + 1) W (setP W (w.heap.size + 1) N (plS N xs xs.length))) := setP_below (by omega)
    have HWC : Hid (Chz (w.heap.size + 1) (w.heap.size + 2) W (setP W (w.heap.size + 1) N (plS N xs xs.length))) := setP_chz ⟨by omega, by omega⟩
    unfold setP at HWE HPE HWC
    generalize ((((((((((W.setCell ⟨w.heap.size + 1, 0, none⟩ (.int .i64 N)).setCell ⟨w.heap.size + 1, 1, none⟩ (.int .i64 10)).setCell ⟨w.heap.size + 1, 2, none⟩ (.int .i64 2)).setCell ⟨w.heap.size + 1, 3, none⟩ (.int .i64 10)).setCell ⟨w.heap.size + 1, 4, none⟩ (.int .i64 (plS N xs xs.length).fr)).setCell ⟨w.heap.size + 1, 5, none⟩ (.int .i64 (plS N xs xs.length).th)).setCell ⟨w.heap.size + 1, 6, none⟩ (.int .i64 (plS N xs xs.length).st)).setCell ⟨w.heap.size + 1, 7, none⟩ (.bool (plS N xs xs.length).fresh)).setCell ⟨w.heap.size + 1, 8, none⟩ (.int .i64 (plS N xs xs.length).need)).setCell ⟨w.heap.size + 1, 9, none⟩ (.int .i64 (plS N xs xs.length).a0)).setCell ⟨w.heap.size + 1, 10, none⟩ (.int .i64 (plS N xs xs.length).a1) = WE at *
    refine ⟨by simp, .inl ⟨_, _, rfl, run_takeDeferred (w := WE) (HWC.out.block HKD.out (.inr (by omega))), ?_⟩⟩
    refine ⟨plV N (plS N xs xs.length), ?_, rfl, ?_⟩
    · have hq : PlAt (WE.putObj D (.deferred none)) (w.heap.size + 1) N (plS N xs xs.length) := (World.putObj_heap_other (by omega)).trans HPE.out
      obtain ⟨⟨c0, c1, c2, c3⟩, ⟨c4, c5, c6, c7, c8, c9, c10⟩, -⟩ := hq.cells
      unfold plV
      simp [results, Try.results49, go_sem, c0, c1, c2, c3, c4, c5, c6, c7, c8, c9, c10]
    · have hb1 : Below w.heap.size w W := below_ks (S := fun k => k = pb) HB4.out HK3.out (fun k hk => by omega)
      exact (hb1.trans (HWE.out.mono (by omega))).trans ⟨rfl, rfl, rfl, by simp, fun k hk => World.putObj_heap_other (by omega)⟩
end Go.Proofs.Ytenpiinkbfancaa
