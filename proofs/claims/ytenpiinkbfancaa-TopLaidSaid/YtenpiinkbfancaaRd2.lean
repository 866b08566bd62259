/-
  path: the states that a ball can have, row by row.
-/
import Derived.Test.YtenpiinkbfancaaRd1
namespace Go.Proofs.Ytenpiinkbfancaa.Pa
open Go.RowKit
set_option linter.unusedSimpArgs false
set_option linter.unusedVariables false

attribute [local go_sem] Oper.semAt_some
theorem below_three3 (w : World) (o1 o2 o3 : Obj) : Below w.heap.size w (((w.alloc o1).alloc o2).alloc o3) := (below_two2 w o1 o2).alloc (by simp; omega) _
theorem one_cell {W : World} {b : Nat} {x : Value} {t : TypeId} (h : W.heap[b]? = some (.cells #[x] t)) : W.cell? ⟨b, 0, none⟩ = some x := by simp [World.cell?, h]
theorem one_frozen {W : World} {b : Nat} {x : Value} {t : TypeId} (h : W.heap[b]? = some (.cells #[x] t)) : ∀ o, W.frozen? ⟨b, o, none⟩ = false := by simp [World.frozen?, h]
theorem one_heap {W : World} {b : Nat} {x y : Value} {t : TypeId} (h : W.heap[b]? = some (.cells #[x] t)) : (W.setCell ⟨b, 0, none⟩ y).heap[b]? = some (.cells #[y] t) := by
  simp [World.setCell, Array.getElem?_modify, h]
theorem two_cells {W : World} {b : Nat} {x y : Value} {t : TypeId} (h : W.heap[b]? = some (.cells #[x, y] t)) : W.cell? ⟨b, 0, none⟩ = some x ∧ W.cell? ⟨b, 1, none⟩ = some y := by simp [World.cell?, h]
theorem three_new (w : World) (o1 o2 o3 : Obj) : (((w.alloc o1).alloc o2).alloc o3).heap[w.heap.size]? = some o1 ∧ (((w.alloc o1).alloc o2).alloc o3).heap[w.heap.size + 1]? = some o2 ∧ (((w.alloc o1).alloc o2).alloc o3).heap[w.heap.size + 1 + 1]? = some o3 ∧ (((w.alloc o1).alloc o2).alloc o3).heap.size = w.heap.size + 3 := by
  refine ⟨(Below.heap_alloc _ _ _ (by simp; omega)).trans ((Below.heap_alloc _ _ _ (by simp)).trans (World.alloc_heap_new _ _)), ?_, ?_, by simp⟩
  · have := World.alloc_heap_new (w.alloc o1) o2
    rw [World.size_alloc] at this
    exact (Below.heap_alloc _ _ _ (by simp)).trans this
  · have := World.alloc_heap_new ((w.alloc o1).alloc o2) o3
    rw [World.size_alloc, World.size_alloc] at this
    exact this
def ReachedP (l : Ln) (s : Int × Int) (m : Nat) (w : World) (e : Ending) (w' : World) : Prop :=
  ∃ (A : Option Addr) (c : Nat) (bs : List Nat) (gv : Int), e = .returned (.tuple #[.slice A m c, .int .i64 gv]) ∧ Below w.heap.size w w' ∧ bs.length = m ∧ OwnM w.heap.size w' (.slice A m c) bs ∧ RowM w' l s w.heap.size (.slice A m c) bs
/-- What stands ahead of row k. -/
structure RdO (l : Ln) (H P : Option Addr) (ch cp g m : Nat) (s : Int × Int) (q : Nat) (w : World) (k : Nat) (u : Value) (bs : List Nat) (ds : List Deferred) (wr : World) : Prop where
  bl : Below q w wr
  bx : BxB wr q l H P ch cp g m
  sx : wr.heap[q + 1]? = some (.cells #[.int .i64 s.1, .int .i64 s.2] 105)
  gc : ∃ gv, wr.heap[q + 2]? = some (.cells #[.int .i64 gv] 3)
  ln : bs.length = k + 1
  ow : OwnM (q + 3) wr u bs
  rw : RowM wr l s (q + 3) u bs
  mks : Marks (q + 3) wr ds
theorem OwnM.ks {S : Nat → Prop} {s base : Nat} {w w' : World} {u : Value} {bs : List Nat} (h : OwnM base w u bs) (hk : KS S s w w') (h1 : w.heap.size ≤ s) (h2 : ∀ j, u.ownBlock = some j → ¬ S j) : OwnM base w' u bs := by
  obtain ⟨h0, h3⟩ := h
  refine ⟨h0, ?_⟩
  rcases h3 with h3 | ⟨g, cap, cur, e1, hb, hg, hr⟩
  · exact .inl h3
  · refine .inr ⟨g, cap, cur, e1, hb, hk.block hg (Nat.lt_of_lt_of_le (Array.getElem?_eq_some_iff.1 hg).1 h1) (h2 g (by rw [e1]; rfl)), hr⟩
theorem RowM.app {w w' : World} {l : Ln} {s : Int × Int} {base : Nat} {u u' : Value} {bs : List Nat} {k mb n : Nat} {D : DataW Unit} (h : RowM w l s base u bs) (hn : bs.length = k) (hg : w.grownBy w' u.ownBlock) (hd : u'.ownBlock = u.ownBlock ∨ ∃ j, u'.ownBlock = some j ∧ w.heap.size ≤ j) (hb : base ≤ mb) (hne : u.ownBlock ≠ some mb) (hm : MapD w mb n D) (hn2 : n ≤ 7 ^ k) (hc : ∀ v, Can l s k v → hasU D v) : RowM w' l s base u' (bs ++ [mb]) := fun j b hj => by
  have key : ∀ b n D, u.ownBlock ≠ some b → MapD w b n D → u'.ownBlock ≠ some b ∧ MapD w' b n D := fun b n D h1 h2 => by
    refine ⟨?_, h2.kept hg (fun e => h1 e.symm)⟩
    rcases hd with hd | ⟨j, hd, hj⟩
    · rw [hd]; exact h1
    · rw [hd]
      intro e
      injection e with e
      have := h2.lt
      omega
  rw [List.getElem?_append] at hj
  split at hj
  · obtain ⟨e1, e2, D', hD, hc'⟩ := h j b hj
    obtain ⟨a1, a2⟩ := key b _ _ e2 hD
    exact ⟨e1, a1, D', a2, hc'⟩
  · rename_i hlt
    have hjk : j = k := by
      have h3 := (List.getElem?_eq_some_iff.1 hj).1
      simp at h3
      omega
    subst hjk
    rw [hn, Nat.sub_self] at hj
    simp at hj
    subst hj
    obtain ⟨a1, a2⟩ := key _ _ _ hne hm
    exact ⟨hb, a1, D, a2.mono hn2, hc⟩
theorem OwnM.low {base base' : Nat} {w : World} {u : Value} {bs : List Nat} (h : OwnM base w u bs) (hb : base' ≤ base) : OwnM base' w u bs := ownsRow_base h hb
theorem RowM.took {B : Nat} {w w' : World} {l : Ln} {s : Int × Int} {base base' : Nat} {u : Value} {bs : List Nat} (h : RowM w l s base u bs) (ht : Took2 B w w') (hb : base' ≤ base) : RowM w' l s base' u bs := fun j b hj => by
  obtain ⟨e1, e2, D, hD, hc⟩ := h j b hj
  exact ⟨by omega, e2, D, ht.map hD, hc⟩
theorem RowM.step {w w' : World} {l : Ln} {s : Int × Int} {base : Nat} {u : Value} {bs : List Nat} (h : RowM w l s base u bs) (hb : Below w.heap.size w w') : RowM w' l s base u bs := fun j b hj => by
  obtain ⟨e1, e2, D, hD, hc⟩ := h j b hj
  exact ⟨e1, e2, D, hD.step hb, hc⟩
theorem OwnM.obj {w : World} {base : Nat} {u : Value} {bs : List Nat} (h : OwnM base w u bs) {j : Nat} (hj : u.ownBlock = some j) : ∃ cs t, w.heap[j]? = some (.cells cs t) := by
  rcases h.2 with ⟨rfl, h2⟩ | ⟨g, cap, cur, rfl, hb, hg, hr⟩
  · cases hj
  · cases hj
    exact ⟨_, _, hg⟩
/-- While row k's states come. -/
structure RdI (l : Ln) (k gc mb it bk : Nat) (Dk : DataW Unit) (q3 : Nat) (Wz : World) (ds : List Deferred) (wi : World) (left : Lit → Bool) (cnt n2 : Nat) (D2 : DataW Unit) : Prop where
  rg : wi.ranges Try.prog 105 (plainElem Try.prog 4) bk it (7 ^ k) Dk left cnt
  lf : ∀ kl, left kl = true → Maps.has Dk kl = true
  mp : MapD wi mb n2 D2
  nn : n2 + 7 * cnt ≤ 7 ^ (k + 1)
  fo : Foll l k Dk left D2
  gg : ∃ gv, wi.heap[gc]? = some (.cells #[.int .i64 gv] 3)
  ks : KS (fun j => j = gc ∨ j = mb ∨ j = it) (it + 1) Wz wi
  sz : it + 1 ≤ wi.heap.size
  mks : Marks q3 wi ds
/-- While the states behind one come. -/
structure RdR (l : Ln) (u : Int × Int) (lo : Int) (gc mb : Nat) (ws : World) (n0 : Nat) (D0 : DataW Unit) (i : Nat) (W : World) : Prop where
  mp : ∃ n D, MapD W mb n D ∧ n ≤ n0 + i ∧ (∀ v, hasU D0 v → hasU D v) ∧ ∀ j : Nat, j < i → onB l (nxt u (lo + (j : Int))) = true → hasU D (nxt u (lo + (j : Int)))
  gg : ∃ gv, W.heap[gc]? = some (.cells #[.int .i64 gv] 3)
  ks : KS (fun j => j = gc ∨ j = mb) ws.heap.size ws W
theorem RdR.chz {l : Ln} {u : Int × Int} {lo : Int} {gc mb n0 i z : Nat} {ws W W' : World} {D0 : DataW Unit} (h : RdR l u lo gc mb ws n0 D0 i W) (hc : Chz ws.heap.size z W W') (h1 : gc < ws.heap.size ∧ mb < ws.heap.size) : RdR l u lo gc mb ws n0 D0 i W' := by
  obtain ⟨⟨n, D, a1, a2⟩, ⟨gv, a3⟩, a4⟩ := h
  exact ⟨⟨n, D, a1.ks (KS.of_chz (S := fun _ => False) hc) h1.2 (fun h => h), a2⟩, ⟨gv, hc.block a3 (.inl h1.1)⟩, a4.trans (KS.of_chz hc)⟩
set_option maxRecDepth 100000 in
set_option maxHeartbeats 8000000 in
theorem reached95_c (l : Ln) (H P : Option Addr) (ch cp g m : Nat) (s : Int × Int) (w : World) (hok : Ok l) (hH : Recs 2 w.heap.size w H l.hk) (hT : TabG w g m (fun r b => level l r b)) (hm : (m : Int) = l.nr) (hs : startB l s = true) :
    Calls Try.prog 95 #[BV l H P ch cp g m, .agg #[.int .i64 s.1, .int .i64 s.2]] w (ReachedP l s m w) := by
  have hb3 := below_three3 w (.cells #[.int .i64 l.nb, .int .i64 l.nr, .slice H l.hk.length ch, .slice P l.pt.length cp, .slice (some ⟨g, 0, none⟩) m m] 189) (.cells #[.int .i64 s.1, .int .i64 s.2] 105) (.cells #[.int .i64 0] 3)
  have HB := Lib.hid hb3
  have HZ : Hid ((((w.alloc (.cells #[.int .i64 l.nb, .int .i64 l.nr, .slice H l.hk.length ch, .slice P l.pt.length cp, .slice (some ⟨g, 0, none⟩) m m] 189)).alloc (.cells #[.int .i64 s.1, .int .i64 s.2] 105)).alloc (.cells #[.int .i64 0] 3)).heap.size = w.heap.size + 3) := by show _ = _; simp
  have HBX : Hid (BxB (((w.alloc (.cells #[.int .i64 l.nb, .int .i64 l.nr, .slice H l.hk.length ch, .slice P l.pt.length cp, .slice (some ⟨g, 0, none⟩) m m] 189)).alloc (.cells #[.int .i64 s.1, .int .i64 s.2] 105)).alloc (.cells #[.int .i64 0] 3)) w.heap.size l H P ch cp g m) := (Below.heap_alloc _ _ _ (by simp; omega)).trans ((Below.heap_alloc _ _ _ (by simp)).trans (World.alloc_heap_new _ _))
  have HSX : Hid ((((w.alloc (.cells #[.int .i64 l.nb, .int .i64 l.nr, .slice H l.hk.length ch, .slice P l.pt.length cp, .slice (some ⟨g, 0, none⟩) m m] 189)).alloc (.cells #[.int .i64 s.1, .int .i64 s.2] 105)).alloc (.cells #[.int .i64 0] 3)).heap[w.heap.size + 1]? = some (.cells #[.int .i64 s.1, .int .i64 s.2] 105)) := by
    have := World.alloc_heap_new (w.alloc (.cells #[.int .i64 l.nb, .int .i64 l.nr, .slice H l.hk.length ch, .slice P l.pt.length cp, .slice (some ⟨g, 0, none⟩) m m] 189)) (.cells #[.int .i64 s.1, .int .i64 s.2] 105)
    rw [World.size_alloc] at this
    exact (Below.heap_alloc _ _ _ (by simp)).trans this
  have HGC : Hid ((((w.alloc (.cells #[.int .i64 l.nb, .int .i64 l.nr, .slice H l.hk.length ch, .slice P l.pt.length cp, .slice (some ⟨g, 0, none⟩) m m] 189)).alloc (.cells #[.int .i64 s.1, .int .i64 s.2] 105)).alloc (.cells #[.int .i64 0] 3)).heap[w.heap.size + 2]? = some (.cells #[.int .i64 0] 3)) := by
    have := World.alloc_heap_new ((w.alloc (.cells #[.int .i64 l.nb, .int .i64 l.nr, .slice H l.hk.length ch, .slice P l.pt.length cp, .slice (some ⟨g, 0, none⟩) m m] 189)).alloc (.cells #[.int .i64 s.1, .int .i64 s.2] 105)) (.cells #[.int .i64 0] 3)
    rw [World.size_alloc, World.size_alloc] at this
    exact this
  have hst : onB l s = true ∧ -5 ≤ s.2 ∧ s.2 ≤ 5 := by
    unfold startB at hs
    simp only [Bool.and_eq_true] at hs
    exact ⟨hs.1, (inB_eq _ _ _).1 hs.2⟩
  have hin := insd_of hok hst.1 hst.2
  have hm1 : 1 ≤ m := by have := hok.r0; omega
  have hm12 : m ≤ 12 := by have := hok.r1; omega
  have HOK := Lib.hid hok
  have HM := Lib.hid hm
  have HH := Lib.hid hH
  have HT := Lib.hid hT
  have HIN := Lib.hid hin
  clear hok hH hT hs hst hin hb3 hm
  unfold BV
  refine calls_marks Try.func95 rfl ?_
  simp only [Try.ntmps95, List.size_toArray, List.length_cons, List.length_nil, Nat.reduceAdd, Nat.reduceSub, Array.replicate_succ, Array.replicate_zero, List.push_toArray, List.append_toArray, List.nil_append, List.cons_append]
  -- the start's map
  obtain ⟨q, hq⟩ : ∃ q, q = w.heap.size := ⟨_, rfl⟩
  obtain ⟨W0, hW0⟩ : ∃ W0, W0 = (((w.alloc (.cells #[.int .i64 l.nb, .int .i64 l.nr, .slice H l.hk.length ch, .slice P l.pt.length cp, .slice (some ⟨g, 0, none⟩) m m] 189)).alloc (.cells #[.int .i64 s.1, .int .i64 s.2] 105)).alloc (.cells #[.int .i64 0] 3)) := ⟨_, rfl⟩
  rw [← hW0] at HB HZ HBX HSX HGC
  have hmade := MapD.made W0
  obtain ⟨W1, D1, hr, hM1, hg1, hu1, -⟩ := hmade.put (by omega) HIN.out
  have h13 : (((w.alloc (.cells #[.int .i64 l.nb, .int .i64 l.nr, .slice H l.hk.length ch, .slice P l.pt.length cp, .slice (some ⟨g, 0, none⟩) m m] 189)).alloc (.cells #[.int .i64 s.1, .int .i64 s.2] 105)).alloc (.cells #[.int .i64 0] 3)).heap.size = W0.heap.size := by rw [hW0]
  have c0 : (((w.alloc (.cells #[.int .i64 l.nb, .int .i64 l.nr, .slice H l.hk.length ch, .slice P l.pt.length cp, .slice (some ⟨g, 0, none⟩) m m] 189)).alloc (.cells #[.int .i64 s.1, .int .i64 s.2] 105)).alloc (.cells #[.int .i64 0] 3)).cell? ⟨w.heap.size + 1, 0, none⟩ = some (.int .i64 s.1) := by rw [← hW0]; simp [World.cell?, HSX.out]
  have c1 : (((w.alloc (.cells #[.int .i64 l.nb, .int .i64 l.nr, .slice H l.hk.length ch, .slice P l.pt.length cp, .slice (some ⟨g, 0, none⟩) m m] 189)).alloc (.cells #[.int .i64 s.1, .int .i64 s.2] 105)).alloc (.cells #[.int .i64 0] 3)).cell? ⟨w.heap.size + 1, 1, none⟩ = some (.int .i64 s.2) := by rw [← hW0]; simp [World.cell?, HSX.out]
  have e0 := cell_alloc_keep (.map #[] 0) c0
  have e1 := cell_alloc_keep (.map #[] 0) c1
  rw [hW0] at hr
  simp only [World.size_alloc] at hr
  have hmm := @run_makeMap Try.prog
  have hz1 : w.heap.size + 4 ≤ W1.heap.size := by
    have := hg1.size
    have h2 := HZ.out
    simp only [World.size_alloc] at this
    omega
  have HKB : Hid (∀ k, k < w.heap.size + 3 → W1.heap[k]? = W0.heap[k]?) := fun k hk => by
    have h2 := HZ.out
    exact (hg1.block k (by rw [World.size_alloc]; omega) (fun e => by injection e with e; omega)).trans (Below.heap_alloc _ _ _ (by omega))
  have HB1 : Hid (Below w.heap.size w W1) := HB.out.trans ⟨hg1.os, hg1.tape, hg1.output, by have := HZ.out; omega, fun k hk => HKB.out k (by omega)⟩
  have HBX1 : Hid (BxB W1 w.heap.size l H P ch cp g m) := (HKB.out _ (by omega)).trans HBX.out
  have HSX1 : Hid (W1.heap[w.heap.size + 1]? = some (.cells #[.int .i64 s.1, .int .i64 s.2] 105)) := (HKB.out _ (by omega)).trans HSX.out
  have HGC1 : Hid (W1.heap[w.heap.size + 2]? = some (.cells #[.int .i64 0] 3)) := (HKB.out _ (by omega)).trans HGC.out
  have HM1 := Lib.hid hM1
  have HU1 := Lib.hid hu1
  have HZW := Lib.hid h13
  have HNIL := Lib.hid (OwnM.nil (w.heap.size + 3) W1)
  have HLN0 : Hid (([] : List Nat).length = 0) := rfl
  clear hM1 hg1 hu1 h13 hmade HB HBX HSX HGC c0 c1
  go_wp2_with (at_builtin; refine wpList_appM (.tmp 11) (.tmp 15) rfl rfl (w.heap.size + 3) W1 (.slice none 0 0) [] (w.heap.size + 1 + 1 + 1) 0 rfl rfl rfl HNIL HLN0 (by omega) (by omega) ?_; intro A6 c6 w6 HO6 HG6 HD6; obtain ⟨n0, n1, n2, n3, n4⟩ := BxB.cells (HBX1.out.grown HG6.out (by simp [Value.ownBlock])); replace n1 := n1.trans (congrArg (fun x => some (Value.int .i64 x)) HM.out.symm); have hgc6 : w6.heap[w.heap.size + 1 + 1]? = some (.cells #[.int .i64 0] 3) := (HG6.out.block _ (by omega) (by simp [Value.ownBlock])).trans HGC1.out; have g0 : w6.cell? ⟨w.heap.size + 1 + 1, 0, none⟩ = some (.int .i64 0) := one_cell hgc6; have gf : ∀ o, w6.frozen? ⟨w.heap.size + 1 + 1, o, none⟩ = false := one_frozen hgc6; have hwm : IntKind.i64.wrap ((m : Int) - 1) = (m : Int) - 1 := IntWalk.i64_in _ (by omega))
  have HST : Hid (RdO l H P ch cp g m s w.heap.size w 0 (.slice A6 (0 + 1) c6) ([] ++ [w.heap.size + 1 + 1 + 1]) [] (w6.setCell ⟨w.heap.size + 1 + 1, 0, none⟩ (.int .i64 (m : Int)))) := by
    have hb6 : Below (w.heap.size + 3) W1 w6 := ⟨HG6.out.os, HG6.out.tape, HG6.out.output, HG6.out.size, fun j hj => HG6.out.block j (by omega) (by simp [Value.ownBlock])⟩
    have hgc : w6.heap[w.heap.size + 1 + 1]? = some (.cells #[.int .i64 0] 3) := (hb6.block _ (by omega)).trans HGC1.out
    have hM1' : MapD W1 (w.heap.size + 1 + 1 + 1) (0 + 1) D1 := by
      have := HM1.out
      rw [HZ.out] at this
      exact this
    have hrow : RowM W1 l s (w.heap.size + 3) (.slice none 0 0) [] := fun j b hj => by simp at hj
    have hrow2 := hrow.app (k := 0) (mb := w.heap.size + 1 + 1 + 1) (u' := .slice A6 (0 + 1) c6) rfl HG6.out HD6.out (by omega) (by simp [Value.ownBlock]) hM1' (by simp) (fun v hv => by rw [can_zero hv]; exact HU1.out)
    have hks : KS (fun j => j = w.heap.size + 1 + 1) w6.heap.size w6 (w6.setCell ⟨w.heap.size + 1 + 1, 0, none⟩ (.int .i64 (m : Int))) := KS.of_set (S := fun j => j = w.heap.size + 1 + 1) (.inr (show _ = _ from rfl)) _
    refine ⟨(HB1.out.trans (hb6.mono (by omega))).setCell (by dsimp only; omega) _, hks.block ((hb6.block _ (by omega)).trans HBX1.out) ?_ (by omega), hks.block ((hb6.block _ (by omega)).trans HSX1.out) ?_ (by omega), ⟨_, one_heap hgc⟩, rfl, HO6.out.set (by dsimp only; omega) _, hrow2.ks hks (Nat.le_refl _) (fun b hb => ?_), trivial⟩
    · have := hb6.size; omega
    · have := hb6.size; omega
    · have := (hrow2.lt b hb).1
      omega
  clear n0 n1 n2 n3 n4 g0 gf hgc6 hr e0 e1 HKB HGC1 HM1 HU1 HNIL HZW
  refine wp_loop (fun a wr => ∃ s0 s1 s3 s6 s7 s8 s9 s10 s11 s12 s13 s14 s15 s16 s17 s18 s19 s20 s21 s22 s25 s26 s27 s28 s29 s30 s31 s32 s33 s34 s35 s36 s37 s38 s39 s40 s41 s42 s43 s44 s45 s46 s47 s48 s49 s50 s51 s52 s53 s54 s55 s56 s57 s58 s59 s60 : Value, ∃ (k : Nat) (uv : Value) (bs : List Nat) (ds : List Deferred), a = { tmps := #[s0, s1, .pointer (some ⟨w.heap.size, 0, none⟩), s3, uv, .pointer (some ⟨w.heap.size + 1 + 1, 0, none⟩), s6, s7, s8, s9, s10, s11, s12, s13, s14, s15, s16, s17, s18, s19, s20, s21, s22, .int .i64 ((m : Int) - 1), .int .i64 (k : Int), s25, s26, s27, s28, s29, s30, s31, s32, s33, s34, s35, s36, s37, s38, s39, s40, s41, s42, s43, s44, s45, s46, s47, s48, s49, s50, s51, s52, s53, s54, s55, s56, s57, s58, s59, s60], defers := ds } ∧ k + 1 ≤ m ∧ RdO l H P ch cp g m s w.heap.size w k uv bs ds wr) (fun a _ => m - (intOf (a.tmps.getD 24 undef)).toNat)
    ⟨_, _, _, _, _, _, _, _, _, _, _, _, _, _, _, _, _, _, _, _, _, _, _, _, _, _, _, _, _, _, _, _, _, _, _, _, _, _, _, _, _, _, _, _, _, _, _, _, _, _, _, _, _, _, _, _, 0, _, _, [], rfl, by omega, HST.out⟩ ?_
  rintro a wr ⟨s0, s1, s3, s6, s7, s8, s9, s10, s11, s12, s13, s14, s15, s16, s17, s18, s19, s20, s21, s22, s25, s26, s27, s28, s29, s30, s31, s32, s33, s34, s35, s36, s37, s38, s39, s40, s41, s42, s43, s44, s45, s46, s47, s48, s49, s50, s51, s52, s53, s54, s55, s56, s57, s58, s59, s60, k, uv, bs, ds, rfl, hk, hrel⟩
  have HRO := Lib.hid hrel
  clear hrel HST HO6 HG6 HD6 HB1 HBX1 HSX1 HLN0 hz1
  by_cases h1 : k + 1 < m
  · have hlt : ((k : Nat) : Int) < (m : Int) - 1 := by omega
    obtain ⟨A, c, rfl⟩ := HRO.out.ow.form
    have hln := HRO.out.ln
    obtain ⟨bk, hbk⟩ : ∃ bk, bs[k]? = some bk := ⟨_, List.getElem?_eq_getElem (by omega)⟩
    obtain ⟨bB, oB, rfl, cB⟩ := HRO.out.ow.at_ (j := k) (by omega)
    rw [(List.getElem?_eq_some_iff.1 hbk).2] at cB
    obtain ⟨hbk1, hbk2, Dk, hDk, hcan⟩ := HRO.out.rw k bk hbk
    have cB3 := cell_alloc_keep (.cells #[.map (some (wr.heap.size + 1))] 223) (cell_alloc_keep (.map #[] 0) (cell_alloc_keep (.cells #[.int .i64 (k : Int)] 3) cB))
    have hown := ((hDk.own.alloc (.cells #[.int .i64 (k : Int)] 3)).alloc (.map #[] 0)).alloc (.cells #[.map (some (wr.heap.size + 1))] 223)
    have hkl : ((k : Nat) : Int) < ((bs.length : Nat) : Int) := by omega
    have hk0 : (0 : Int) ≤ (k : Int) := by omega
    have hbkl := hDk.lt
    have HDK := Lib.hid hDk
    have HCAN := Lib.hid hcan
    have HBK := Lib.hid hbk
    clear hDk hcan hbk cB
    go_wp2_with (at_range; refine wpList_range_own _ rfl _ 223 rfl 105 4 st_law under223 (plainElem Try.prog 4) bk (7 ^ k) Dk rfl hown ?_; intro w0 hrg0 hg0 hs0)
    go_frame
    obtain ⟨t1, t2, t3, t4⟩ := three_new wr (.cells #[.int .i64 (k : Int)] 3) (.map #[] 0) (.cells #[.map (some (wr.heap.size + 1))] 223)
    have hkeep : ∀ j o, (((wr.alloc (.cells #[.int .i64 (k : Int)] 3)).alloc (.map #[] 0)).alloc (.cells #[.map (some (wr.heap.size + 1))] 223)).heap[j]? = some o → w0.heap[j]? = some o := fun j o h => (hg0.block j (Array.getElem?_eq_some_iff.1 h).1 (by simp)).trans h
    have HZ6 := Lib.hid (hkeep _ _ t1)
    have HZ7 := Lib.hid (hkeep _ _ t3)
    have HSZ : Hid (w0.heap.size = wr.heap.size + 4) := by show _ = _; rw [hs0, t4]
    have HBW : Hid (Below wr.heap.size wr w0) := (below_three3 wr (.cells #[.int .i64 (k : Int)] 3) (.map #[] 0) (.cells #[.map (some (wr.heap.size + 1))] 223)).trans ⟨hg0.os, hg0.tape, hg0.output, hg0.size, fun j hj => hg0.block j (by omega) (by simp)⟩
    have HMP : Hid (MapD w0 (wr.heap.size + 1) 0 (.map [])) := by
      have h1 := MapD.made (wr.alloc (.cells #[.int .i64 (k : Int)] 3))
      rw [World.size_alloc] at h1
      exact (h1.kept (World.grownBy_alloc _ (.cells #[.map (some (wr.heap.size + 1))] 223) none) (by simp)).kept hg0 (by simp)
    have HRG : Hid (w0.ranges Try.prog 105 (plainElem Try.prog 4) bk (wr.heap.size + 1 + 1 + 1) (7 ^ k) Dk (Maps.has Dk) (Maps.size Dk)) := by
      show World.ranges _ _ _ _ _ _ _ _ _ _
      rw [t4] at hrg0
      exact hrg0
    have hbkz : bk < wr.heap.size := HDK.out.lt
    clear t1 t2 t3 t4 hkeep hg0 hs0 hrg0 hown cB3
    simp only [World.size_alloc]
    generalize hit : wr.heap.size + 1 + 1 + 1 = it at *
    generalize hmc : wr.heap.size + 1 + 1 = mc at *
    generalize hmb : wr.heap.size + 1 = mb at *
    have HRI : Hid (RdI l k (w.heap.size + 1 + 1) mb it bk Dk (w.heap.size + 3) w0 ds w0 (Maps.has Dk) (Maps.size Dk) 0 (.map [])) := by
      have h1 := HDK.out.own.size_le
      have h2 := HSZ.out
      obtain ⟨gv, hgv⟩ := HRO.out.gc
      refine ⟨HRG.out, fun _ h => h, HMP.out, ?_, Foll.start _ _ _ _, ⟨gv, (HBW.out.block _ (Array.getElem?_eq_some_iff.1 hgv).1).trans hgv⟩, KS.refl _ _ _, by omega, marks_keep (fun j _ hj => (HBW.out.block j (Array.getElem?_eq_some_iff.1 hj).1).trans hj) HRO.out.mks⟩
      rw [Nat.pow_succ]
      omega
    clear HRG HMP
    refine wp_loop (fun a wi => ∃ s0 s1 s3 s8 s9 s10 s11 s12 s13 s14 s15 s16 s17 s18 s19 s20 s21 s22 s25 s26 s27 s28 s29 s30 s31 s33 s34 s35 s36 s37 s38 s39 s40 s41 s42 s43 s44 s45 s46 s47 s48 s49 s50 s51 s52 s53 s54 s55 s56 s57 s58 s59 s60 : Value, ∃ (left : Lit → Bool) (cnt n2 : Nat) (D2 : DataW Unit) (ds2 : List Deferred), a = { tmps := #[s0, s1, .pointer (some ⟨w.heap.size, 0, none⟩), s3, .slice (some ⟨bB, oB, none⟩) (k + 1) c, .pointer (some ⟨w.heap.size + 1 + 1, 0, none⟩), .pointer (some ⟨wr.heap.size, 0, none⟩), .pointer (some ⟨mc, 0, none⟩), s8, s9, s10, s11, s12, s13, s14, s15, s16, s17, s18, s19, s20, s21, s22, .int .i64 ((m : Int) - 1), .int .i64 (k : Int), s25, s26, s27, s28, s29, s30, s31, .pointer (some ⟨it, 0, none⟩), s33, s34, s35, s36, s37, s38, s39, s40, s41, s42, s43, s44, s45, s46, s47, s48, s49, s50, s51, s52, s53, s54, s55, s56, s57, s58, s59, s60], defers := ds2 } ∧ RdI l k (w.heap.size + 1 + 1) mb it bk Dk (w.heap.size + 3) w0 ds2 wi left cnt n2 D2) (fun _ wi => wi.rangeLeft bk it)
      ⟨_, _, _, _, _, _, _, _, _, _, _, _, _, _, _, _, _, _, _, _, _, _, _, _, _, _, _, _, _, _, _, _, _, _, _, _, _, _, _, _, _, _, _, _, _, _, _, _, _, _, _, _, _, _, _, _, _, _, rfl, HRI.out⟩ ?_
    clear HRI
    rintro a wi ⟨s0, s1, s3, s8, s9, s10, s11, s12, s13, s14, s15, s16, s17, s18, s19, s20, s21, s22, s25, s26, s27, s28, s29, s30, s31, s33, s34, s35, s36, s37, s38, s39, s40, s41, s42, s43, s44, s45, s46, s47, s48, s49, s50, s51, s52, s53, s54, s55, s56, s57, s58, s59, s60, left, cnt, n2, D2, ds2, rfl, hri⟩
    have HRI := Lib.hid hri
    have hrg := hri.rg
    clear hri
    have hz6 := HRI.out.sz
    have hz0 := HSZ.out
    have hqz := HRO.out.bl.size
    have how0 := HRO.out.ow
    rw [hln] at how0
    have hbB : w.heap.size + 3 ≤ bB ∧ bB < wr.heap.size := how0.lt bB rfl
    have HBi : Hid (Below w.heap.size w wi) := (HRO.out.bl.trans (HBW.out.mono hqz)).trans (HRI.out.ks.below (by omega) (by omega) (fun j hj => by rintro (h | h | h) <;> omega))
    have HBXi : Hid (BxB wi w.heap.size l H P ch cp g m) := HRI.out.ks.block ((HBW.out.block _ (Array.getElem?_eq_some_iff.1 HRO.out.bx).1).trans HRO.out.bx) (by omega) (by rintro (h | h | h) <;> omega)
    have HSXi : Hid (wi.heap[w.heap.size + 1]? = some (.cells #[.int .i64 s.1, .int .i64 s.2] 105)) := HRI.out.ks.block ((HBW.out.block _ (Array.getElem?_eq_some_iff.1 HRO.out.sx).1).trans HRO.out.sx) (by omega) (by rintro (h | h | h) <;> omega)
    have HZ6i : Hid (wi.heap[wr.heap.size]? = some (.cells #[.int .i64 (k : Int)] 3)) := HRI.out.ks.block HZ6.out (by omega) (by rintro (h | h | h) <;> omega)
    have HZ7i : Hid (wi.heap[mc]? = some (.cells #[.map (some mb)] 223)) := HRI.out.ks.block HZ7.out (by omega) (by rintro (h | h | h) <;> omega)
    have hw1 : IntKind.i64.wrap ((k : Int) + 1) = (k : Int) + 1 := IntWalk.i64_in _ (by omega)
    go_wp2_with (at_next; refine wpList_next_ranges _ rfl _ rfl 105 st_law (plainElem Try.prog 4) id id (fun key kl _ => ⟨key, rfl⟩) (fun v y _ => ⟨v, rfl⟩) bk it (7 ^ k) _ _ _ rfl hrg ?_ ?_)
    · intro _ hl0
      have HOWi : Hid (OwnM (w.heap.size + 3) wi (.slice (some ⟨bB, oB, none⟩) (k + 1) c) bs) := (how0.kept HBW.out).ks HRI.out.ks (by omega) (fun j hj => by have e : some bB = some j := hj; injection e with e; rintro (h | h | h) <;> omega)
      have hrow0 := HRO.out.rw
      rw [hln] at hrow0
      have hlt0 := hrow0.lt
      have HROWi : Hid (RowM wi l s (w.heap.size + 3) (.slice (some ⟨bB, oB, none⟩) (k + 1) c) bs) := (hrow0.step HBW.out).ks HRI.out.ks (by omega) (fun b hb => by have := hlt0 b hb; rintro (h | h | h) <;> omega)
      have HLN : Hid (bs.length = k + 1) := hln
      have hc7 := one_cell HZ7i.out
      have hl0' := Lib.hid hl0
      clear hl0 hrow0 hlt0 how0 hrg
      go_wp2_with (at_builtin; refine wpList_appM (.tmp 54) (.tmp 56) rfl rfl (w.heap.size + 3) wi (.slice (some ⟨bB, oB, none⟩) (k + 1) c) bs mb (k + 1) rfl rfl rfl HOWi HLN (by omega) (by omega) ?_; intro A7 c7 w7 HO7 HG7 HD7)
      rw [show ((k : Int) + 1) = ((k + 1 : Nat) : Int) by omega]
      have hob : (Value.slice (some ⟨bB, oB, none⟩) (k + 1) c).ownBlock = some bB := rfl
      have hG := HG7.out
      rw [hob] at hG
      refine ⟨⟨_, _, _, _, _, _, _, _, _, _, _, _, _, _, _, _, _, _, _, _, _, _, _, _, _, _, _, _, _, _, _, _, _, _, _, _, _, _, _, _, _, _, _, _, _, _, _, _, _, _, _, _, _, _, _, _, k + 1, _, bs ++ [mb], ds2, rfl, by omega, ?_⟩, by simp [intOf]; omega⟩
      obtain ⟨gv, hgv⟩ := HRI.out.gg
      refine ⟨HBi.out.trans ⟨hG.os, hG.tape, hG.output, hG.size, fun j hj => hG.block j (by omega) (fun e => by injection e with e; omega)⟩, HBXi.out.grown hG (fun e => by injection e with e; omega), (hG.block _ (by omega) (fun e => by injection e with e; omega)).trans HSXi.out, ⟨gv, (hG.block _ (by omega) (fun e => by injection e with e; omega)).trans hgv⟩, by simp [hln], HO7.out, ?_, ?_⟩
      · exact HROWi.out.app hln HG7.out HD7.out (by omega) (fun e => by rw [hob] at e; injection e with e; omega) HRI.out.mp (by have := HRI.out.nn; omega) (HRI.out.fo.end_ hl0'.out HCAN.out)
      · refine marks_keep (fun j _ hj => (hG.block j (Array.getElem?_eq_some_iff.1 hj).1 (fun e => ?_)).trans hj) HRI.out.mks
        injection e with e
        subst e
        obtain ⟨cs, t, h⟩ := HOWi.out.obj hob
        rw [h] at hj
        cases hj
    · intro x cc kl y1 y2 w1 cnt1 hkx hlx hRc hat hrg1 hlt1 hg1 hs1 hen
      clear hRc hat hrg
      try simp only [id] at hkx
      try simp only [id] at hen
      try simp only [id]
      obtain ⟨u, hu, hku⟩ := HDK.out.ins kl (HRI.out.lf kl hlx)
      obtain rfl := st_law.inj hkx hku
      obtain ⟨ub, d⟩ := u
      obtain ⟨⟨hu1, hu2⟩, hu3, hu4⟩ := hu
      dsimp only at hu1 hu2 hu3 hu4
      obtain ⟨b, rfl⟩ : ∃ b : Nat, ub = (b : Int) := ⟨ub.toNat, by omega⟩
      unfold sk at hen
      unfold sk
      dsimp only at hen ⊢
      have HKU := Lib.hid hku
      have HRG1 := Lib.hid hrg1
      have HG1 := Lib.hid hg1
      have HLX := Lib.hid hlx
      have HKS1 : Hid (KS (fun j => j = w.heap.size + 1 + 1 ∨ j = mb ∨ j = it) (it + 1) w0 w1) := HRI.out.ks.trans (KS.of_grown hg1 (fun q h _ => by cases h; exact .inr (.inr rfl)))
      have HB1 : Hid (Below w.heap.size w w1) := HBi.out.trans ⟨hg1.os, hg1.tape, hg1.output, hg1.size, fun j hj => hg1.block j (by omega) (fun e => by injection e with e; omega)⟩
      have HBX1 : Hid (BxB (w1.alloc (.cells #[.int .i64 (b : Int), .int .i64 d] 105)) w.heap.size l H P ch cp g m) := (Below.heap_alloc _ _ _ (by omega)).trans (HBXi.out.grown hg1 (fun e => by injection e with e; omega))
      have HZ61 : Hid ((w1.alloc (.cells #[.int .i64 (b : Int), .int .i64 d] 105)).heap[wr.heap.size]? = some (.cells #[.int .i64 (k : Int)] 3)) := (Below.heap_alloc _ _ _ (by omega)).trans ((hg1.block _ (by omega) (fun e => by injection e with e; omega)).trans HZ6i.out)
      have HZ71 : Hid ((w1.alloc (.cells #[.int .i64 (b : Int), .int .i64 d] 105)).heap[mc]? = some (.cells #[.map (some mb)] 223)) := (Below.heap_alloc _ _ _ (by omega)).trans ((hg1.block _ (by omega) (fun e => by injection e with e; omega)).trans HZ7i.out)
      have HB2 : Hid (Below w.heap.size w (w1.alloc (.cells #[.int .i64 (b : Int), .int .i64 d] 105))) := HB1.out.alloc (by omega) _
      have HF := Lib.hid (follow141_c l H P ch cp g m k b d (w1.alloc (.cells #[.int .i64 (b : Int), .int .i64 d] 105)) HOK.out (HH.out.step HB2.out) (HT.out.step HB2.out) (by omega) hm12 (by omega))
      unfold BV at HF
      obtain ⟨n0, n1, n2', n3, n4⟩ := HBX1.out.cells
      have c6 := one_cell HZ61.out
      have HSZ1 : Hid (w1.heap.size = wi.heap.size) := hs1
      have hzz : it + 1 ≤ w1.heap.size := by omega
      have HU : Hid ((1 ≤ (b : Int) ∧ (b : Int) ≤ 40) ∧ -5 ≤ d ∧ d ≤ 5) := ⟨⟨hu1, hu2⟩, hu3, hu4⟩
      clear hkx hku hrg1 hg1 hlx hs1 how0
      go_wp2_with fail
      refine HF.out.mono ?_
      rintro e w2 ⟨p, qq, rfl, hb2, hp, hqq, hfb⟩
      have HFB := Lib.hid hfb
      have HB22 := Lib.hid hb2
      clear hfb hb2 HF n0 n1 n2' n3 n4 c6
      go_wp2_with fail
      have hz2 := HB22.out.size
      simp only [World.size_alloc] at hp hqq hz2
      have HA1 : Hid (Below w1.heap.size w1 (w1.alloc (.cells #[.int .i64 (b : Int), .int .i64 d] 105))) := (Below.refl _ w1).alloc (Nat.le_refl _) _
      have HA2 : Hid (Below w1.heap.size w1 w2) := HA1.out.trans (HB22.out.mono (by simp))
      have HBX2 : Hid (BxB w2 w.heap.size l H P ch cp g m) := (HB22.out.block _ (by simp; omega)).trans HBX1.out
      have HZ62 : Hid (w2.heap[wr.heap.size]? = some (.cells #[.int .i64 (k : Int)] 3)) := (HB22.out.block _ (by simp; omega)).trans HZ61.out
      have HZ72 : Hid (w2.heap[mc]? = some (.cells #[.map (some mb)] 223)) := (HB22.out.block _ (by simp; omega)).trans HZ71.out
      have HMP2 : Hid (MapD w2 mb n2 D2) := (HRI.out.mp.kept HG1.out (fun e => by injection e with e; omega)).step HA2.out
      have HGG2 : Hid (∃ gv, w2.heap[w.heap.size + 1 + 1]? = some (.cells #[.int .i64 gv] 3)) := by
        obtain ⟨gv, hgv⟩ := HRI.out.gg
        exact ⟨gv, (HA2.out.block _ (by omega)).trans ((HG1.out.block _ (by omega) (fun e => by injection e with e; omega)).trans hgv)⟩
      have HRG2 : Hid (w2.ranges Try.prog 105 (plainElem Try.prog 4) bk it (7 ^ k) Dk (fun z => left z && !z.sameKey kl) cnt1) := HRG1.out.kept (only_below HA2.out none) (by simp) (by simp)
      have HKS2 : Hid (KS (fun j => j = w.heap.size + 1 + 1 ∨ j = mb ∨ j = it) (it + 1) w0 w2) := HKS1.out.trans (KS.of_below HA2.out)
      have hkb := hk_bd HOK.out k (b : Int)
      obtain ⟨lo, hlo⟩ : ∃ lo, lo = hkLo l (k : Int) (b : Int) := ⟨_, rfl⟩
      obtain ⟨hi, hhi⟩ : ∃ hi, hi = hkHi l (k : Int) (b : Int) := ⟨_, rfl⟩
      rw [← hlo, ← hhi] at HFB hkb
      obtain ⟨tn, htn⟩ : ∃ tn : Nat, hi = lo + (tn : Int) - 1 := ⟨(hi - lo + 1).toNat, by omega⟩
      have HLO := Lib.hid hlo
      have HHI := Lib.hid hhi
      clear hlo hhi HBX1 HZ61 HZ71 HB2 HA1 hen
      refine wpIn_wide.1 (wpIn_rangeFunc_n (F := Fence.wide) (n := 5) (S := (fun j => j = w.heap.size + 1 + 1 ∨ j = mb)) rfl (by omega) (gf := 168) (lb := #[.pointer (some ⟨p, 0, none⟩), .pointer (some ⟨qq, 0, none⟩)]) rfl trivial (enters_of Try.func168 (by kernel_rfl) rfl)
        (follow1_in 4 p qq lo hi (b : Int) d tn (by omega) (by omega) htn HU.out.2 HU.out.1 (fun j => j = w.heap.size + 1 + 1 ∨ j = mb) w2 HFB.out ⟨by rintro (h | h) <;> omega, by rintro (h | h) <;> omega⟩) (Below.refl _ _) (fun _ => rfl)
        (fun z i W => RdR l ((b : Int), d) lo (w.heap.size + 1 + 1) mb w2 n2 D2 i W)
        (fun W hb => ⟨⟨n2, D2, HMP2.out.step hb, by omega, fun v h => h, fun j hj => absurd hj (by omega)⟩, by
          obtain ⟨gv, hgv⟩ := HGG2.out
          exact ⟨gv, (hb.block _ (Array.getElem?_eq_some_iff.1 hgv).1).trans hgv⟩, KS.of_below hb⟩)
        (fun i a' W1 W2 => W2.heap[W1.heap.size]? = some (.cells #[.int .i64 (nxt ((b : Int), d) (lo + (i : Int))).1, .int .i64 (nxt ((b : Int), d) (lo + (i : Int))).2] 105) ∧ a' = { tmps := #[s0, s1, .pointer (some ⟨w.heap.size, 0, none⟩), s3, .slice (some ⟨bB, oB, none⟩) (k + 1) c, .pointer (some ⟨w.heap.size + 1 + 1, 0, none⟩), .pointer (some ⟨wr.heap.size, 0, none⟩), .pointer (some ⟨mc, 0, none⟩), .pointer (some ⟨w1.heap.size, 0, none⟩), s9, .pointer (some ⟨W1.heap.size, 0, none⟩), s11, s12, s13, s14, s15, s16, s17, s18, s19, s20, s21, s22, .int .i64 ((m : Int) - 1), .int .i64 (k : Int), s25, s26, s27, s28, s29, s30, s31, .pointer (some ⟨it, 0, none⟩), .tuple #[.bool true, .agg #[.int .i64 (b : Int), .int .i64 d], cc], .bool true, .tuple #[.agg #[.int .i64 (b : Int), .int .i64 d], cc], .agg #[.int .i64 (b : Int), .int .i64 d], .agg #[.int .i64 l.nb, .int .i64 l.nr, .slice H l.hk.length ch, .slice P l.pt.length cp, .slice (some ⟨g, 0, none⟩) m m], .int .i64 (k : Int), .agg #[.int .i64 (b : Int), .int .i64 d], .func (.func 168) #[] #[.pointer (some ⟨p, 0, none⟩), .pointer (some ⟨qq, 0, none⟩)], .int .i64 (lo + (i : Int)), .agg #[.int .i64 (nxt ((b : Int), d) (lo + (i : Int))).1, .int .i64 (nxt ((b : Int), d) (lo + (i : Int))).2], s43, s44, s45, s46, s47, s48, s49, s50, s51, s52, s53, s54, s55, s56, s57, s58, s59, s60], defers := [] })
        (fun i a' W1 A l' o h1 h2 h => ⟨(World.putObj_heap_other (by omega)).trans h.1, h.2⟩) ?assign ?body ?done)
      case assign =>
        rintro l' z i W0' W1' K hz' hzW hR hch hi' hK
        simp only [fEnc] at hK ⊢
        gi_wp2
        exact hK _ _ ((Below.refl _ _).alloc (Nat.le_refl _) _) ⟨World.alloc_heap_new _ _, rfl⟩
      case body =>
        rintro l' z i a' W0' W1' W2' hz' hzW hR hch1 hch2 hi' ⟨hax, rfl⟩
        have hgm : w.heap.size + 1 + 1 < w2.heap.size ∧ mb < w2.heap.size := by omega
        obtain ⟨⟨n3, D3, hm3, hn3, hmono, hdone⟩, ⟨gv, hgv⟩, hks3⟩ := (hR.chz hch1 hgm).chz hch2 hgm
        have hsz0 := hR.ks.1
        obtain ⟨k0, k1, k2, k3, k4⟩ := BxB.cells (hks3.block HBX2.out (by omega) (by rintro (h | h) <;> omega))
        have k6 := one_cell (hks3.block HZ62.out (by omega) (by rintro (h | h) <;> omega))
        have k7 := one_cell (hks3.block HZ72.out (by omega) (by rintro (h | h) <;> omega))
        obtain ⟨v, hv⟩ : ∃ v, v = nxt ((b : Int), d) (lo + (i : Int)) := ⟨_, rfl⟩
        rw [← hv] at hax
        obtain ⟨q0, q1⟩ := two_cells hax
        have hvd : -5 ≤ v.2 ∧ v.2 ≤ 5 := by rw [hv]; exact nxDir_bd _ _
        have H75 := Lib.hid (on75_c l H P ch cp v.1 v.2 W2')
        unfold LV at H75
        have HM3 := Lib.hid hm3
        have HDN := Lib.hid hdone
        have HMN := Lib.hid hmono
        have HKS3 := Lib.hid hks3
        have HGV := Lib.hid hgv
        have HV := Lib.hid hv
        have HVD := Lib.hid hvd
        have hw2 : W2'.heap.size ≥ W0'.heap.size := by have := hch1.1; have := hch2.1; omega
        clear hm3 hdone hmono hks3 hgv hv hvd hax hR hch1 hch2
        cases hou : onB l (v.1, v.2)
        · rw [hou] at H75
          have HOU := Lib.hid hou
          clear hou
          gi_wp2_with (refine ⟨trivial, ?_⟩; gi_at_call 75; refine (CallsIn.inRound l' (callsIn_wide.2 H75.out)).mono ?_; rintro e W3 ⟨rfl, hb3⟩; have HB3 := Lib.hid hb3; replace k6 := cell_of_ans hb3 k6; have h5 := (hb3.block _ (Array.getElem?_eq_some_iff.1 HGV.out).1).trans HGV.out; have k5 := one_cell h5; have h5a : (W3.alloc (.cells #[.int .i64 gv, .int .i64 ((k : Int) + 1)] 3)).heap[w.heap.size + 1 + 1]? = some (.cells #[.int .i64 gv] 3) := (Below.heap_alloc _ _ _ (Array.getElem?_eq_some_iff.1 h5).1).trans h5; have k5a := one_cell h5a; have k5f := one_frozen h5a; have H5A := Lib.hid h5a; clear hb3 k0 k1 k2 k3 k4 k7 q0 q1 h5 h5a)
          refine ⟨trivial, ?_⟩
          refine (CallsIn.inRound l' (callsIn_wide.2 (least129_c W3.heap.size gv ((k : Int) + 1) (W3.alloc (.cells #[.int .i64 gv, .int .i64 ((k : Int) + 1)] 3)) (by go_simp) (by go_simp)))).mono ?_
          rintro e W4 ⟨rfl, rfl⟩
          gi_wp2
          have hbx : Below W2'.heap.size W2' (W3.alloc (.cells #[.int .i64 gv, .int .i64 ((k : Int) + 1)] 3)) := HB3.out.alloc HB3.out.size _
          refine ⟨(KZ.of_below hbx).trans (KZ.of_set ⟨by dsimp only; omega, .inl rfl⟩ (by dsimp only; omega) _), ⟨n3, D3, ((HM3.out.step hbx).set (by dsimp only; omega) _), by omega, HMN.out, fun j hj ho => ?_⟩, ⟨_, one_heap H5A.out⟩, (HKS3.out.trans (KS.of_below hbx)).trans (KS.of_set (S := (fun j => j = w.heap.size + 1 + 1 ∨ j = mb)) (.inr (.inl rfl)) _)⟩
          rcases Nat.lt_or_ge j i with h | h
          · exact HDN.out j h ho
          · obtain rfl : j = i := by omega
            rw [← HV.out] at ho
            have := HOU.out
            rw [show ((v.1, v.2) : Int × Int) = v from rfl] at this
            rw [this] at ho
            cases ho
        · rw [hou] at H75
          have HOU := Lib.hid hou
          clear hou
          have hn3b : n3 ≤ 1000000000000000 := by
            have h1 := HRI.out.nn
            have h2 : 7 ^ (k + 1) ≤ 7 ^ 12 := Nat.pow_le_pow_right (by omega) (by omega)
            have h3 : 7 ^ 12 = 13841287201 := by decide
            omega
          gi_wp2_with (refine ⟨trivial, ?_⟩; gi_at_call 75; refine (CallsIn.inRound l' (callsIn_wide.2 H75.out)).mono ?_; rintro e W3 ⟨rfl, hb3⟩; have HB3 := Lib.hid hb3; replace k7 := cell_of_ans hb3 k7; replace q0 := cell_of_ans hb3 q0; replace q1 := cell_of_ans hb3 q1; obtain ⟨W4, D4, hrun, hm4, hg4, hu4, hmo4⟩ := (HM3.out.step hb3).put hn3b (insd_of HOK.out HOU.out HVD.out); have HM4 := Lib.hid hm4; have HG4 := Lib.hid hg4; have HU4 := Lib.hid hu4; have HMO4 := Lib.hid hmo4; clear hb3 hm4 hg4 hu4 hmo4 k0 k1 k2 k3 k4 k6)
          have hzz3 := HB3.out.size
          refine ⟨(KZ.of_below HB3.out).trans (KZ.of_grown HG4.out (fun q hq => by cases hq; exact ⟨fun _ => .inr rfl, by omega, by omega⟩)), ⟨n3 + 1, D4, HM4.out, by omega, fun v' hv' => HMO4.out _ (HMN.out v' hv'), fun j hj ho => ?_⟩, ⟨gv, (HG4.out.block _ (by omega) (fun e => by injection e with e; omega)).trans ((HB3.out.block _ (by omega)).trans HGV.out)⟩, (HKS3.out.trans (KS.of_below HB3.out)).trans (KS.of_grown HG4.out (fun q hq _ => by cases hq; exact .inr rfl))⟩
          rcases Nat.lt_or_ge j i with h | h
          · exact HMO4.out _ (HDN.out j h ho)
          · obtain rfl : j = i := by omega
            rw [← HV.out]
            exact HU4.out
      case done =>
        rintro D z W0' W hD hz2' hz0' hDz hR hch hK
        have hgm : w.heap.size + 1 + 1 < w2.heap.size ∧ mb < w2.heap.size := by omega
        obtain ⟨⟨n3, D3, hm3, hn3, hmono, hdone⟩, hgg, hks3⟩ := hR.chz hch hgm
        have hznn := HRI.out.nn
        have hDlt := (Array.getElem?_eq_some_iff.1 hK).1
        have hrgW : W.ranges Try.prog 105 (plainElem Try.prog 4) bk it (7 ^ k) Dk (fun z => left z && !z.sameKey kl) cnt1 := ranges_ks HRG2.out hks3 ⟨by omega, by omega⟩ ⟨by rintro (h | h) <;> omega, by rintro (h | h) <;> omega⟩
        have HRI2 : Hid (RdI l k (w.heap.size + 1 + 1) mb it bk Dk (w.heap.size + 3) w0 ({ target := .collected D, args := #[] } :: ds2) W (fun z => left z && !z.sameKey kl) cnt1 n3 D3) := by
          refine ⟨hrgW, fun kl' h => HRI.out.lf kl' (by simp only [Bool.and_eq_true] at h; exact h.1), hm3, by omega, HRI.out.fo.step HKU.out hmono (fun turn t1 t2 t3 => ?_), hgg, HKS2.out.trans ((hks3.weaken (fun j _ h => by rcases h with h | h; exact .inl h; exact .inr (.inl h))).less (by omega)), by have := hks3.1; omega, ?_⟩
          · rw [← HLO.out] at t1
            rw [← HHI.out] at t2
            have e : lo + ((turn - lo).toNat : Int) = turn := by omega
            have := hdone (turn - lo).toNat (by omega)
            rw [e] at this
            exact this t3
          · refine ⟨⟨D, by omega, rfl, hK, fun d' hd' e => ?_⟩, marks_keep (fun j _ hj => ?_) HRI.out.mks⟩
            · obtain ⟨D', h2, h3⟩ := HRI.out.mks.lt d' hd'
              rw [h2] at e
              injection e with e
              have := HSZ1.out
              omega
            · have hjl := (Array.getElem?_eq_some_iff.1 hj).1
              have hj1 : j ≠ it := by
                rintro rfl
                obtain ⟨es, clock, since, seen, c0, e1, e2, e3, e4, e5, e6⟩ := HRI.out.rg
                rw [e5] at hj
                cases hj
              have hj2 : j ≠ mb := by
                rintro rfl
                obtain ⟨es, clock, e1, e2⟩ := HRI.out.mp.own
                rw [e1] at hj
                cases hj
              have hj3 : j ≠ w.heap.size + 1 + 1 := by
                rintro rfl
                obtain ⟨gv, hgv⟩ := HRI.out.gg
                rw [hgv] at hj
                cases hj
              have hs1 := HSZ1.out
              exact hks3.block ((HA2.out.block _ (by omega)).trans ((HG1.out.block _ hjl (fun e => by injection e with e; omega)).trans hj)) (by omega) (by rintro (h | h) <;> omega)
        go_wp2_with fail
        refine ⟨⟨_, _, _, _, _, _, _, _, _, _, _, _, _, _, _, _, _, _, _, _, _, _, _, _, _, _, _, _, _, _, _, _, _, _, _, _, _, _, _, _, _, _, _, _, _, _, _, _, _, _, _, _, _, _, cnt1, n3, D3, _, rfl, HRI2.out⟩, ?_⟩
        rw [hrgW.left_eq, HRI.out.rg.left_eq]
        exact hlt1
  · have hkm : k + 1 = m := by omega
    have hlt : ¬ (((k : Nat) : Int) < (m : Int) - 1) := by omega
    obtain ⟨A, c, rfl⟩ := HRO.out.ow.form
    have hln := HRO.out.ln
    obtain ⟨gv, hgv⟩ := HRO.out.gc
    have g0 := one_cell hgv
    have gf := one_frozen hgv
    have HGV := Lib.hid hgv
    clear hgv
    have x1 : (wr.setCell ⟨w.heap.size + 1 + 1, 0, none⟩ (.int .i64 gv)).cell? ⟨w.heap.size + 1 + 1, 0, none⟩ = some (.int .i64 gv) := one_cell (one_heap (y := .int .i64 gv) HGV.out)
    go_wp2_with fail
    go_region_held3 (fun w' => w'.cell? ⟨w.heap.size + 1 + 1, 0, none⟩ = some (.int .i64 gv)) (go_keep) (first | fail)
    have hk9 : KS (fun j => j = w.heap.size + 1 + 1) wr.heap.size wr (wr.setCell ⟨w.heap.size + 1 + 1, 0, none⟩ (.int .i64 gv)).drew := (KS.of_set (S := fun j => j = w.heap.size + 1 + 1) (.inr rfl) _).trans ⟨Nat.le_refl _, rfl, rfl, rfl, fun _ _ h _ _ => h⟩
    have hc9 : (wr.setCell ⟨w.heap.size + 1 + 1, 0, none⟩ (.int .i64 gv)).drew.cell? ⟨w.heap.size + 1 + 1, 0, none⟩ = some (.int .i64 gv) := x1
    have HK9 := Lib.hid hk9
    have HC9 := Lib.hid hc9
    clear hk9 hc9 x1 g0 gf
    generalize (wr.setCell ⟨w.heap.size + 1 + 1, 0, none⟩ (.int .i64 gv)).drew = W9 at *
    go_wp2_with fail
    have how := HRO.out.ow
    have hrow := HRO.out.rw
    rw [hln, hkm] at how hrow
    have hqz := HRO.out.bl.size
    have hlt0 := hrow.lt
    have hgl := (Array.getElem?_eq_some_iff.1 HGV.out).1
    refine leaves_marks2 (B := w.heap.size + 3) ds _ (marks_keep (fun j hj hd => HK9.out.block hd (Array.getElem?_eq_some_iff.1 hd).1 (by omega)) HRO.out.mks) fun w8 h8 => ?_
    have hc8 := h8.cell HC9.out
    refine ⟨.tuple #[.slice A m c, .int .i64 gv], by simp [results, Try.results95, go_sem, hc8], A, c, bs, gv, rfl, ?_, by omega, ?_, ?_⟩
    · have h9 : Below w.heap.size wr W9 := HK9.out.below (by omega) (by omega) (fun j hj => by omega)
      refine (HRO.out.bl.trans h9).trans ⟨h8.1, h8.2.1, h8.2.2.1, by rw [h8.2.2.2.1]; exact Nat.le_refl _, fun j hj => h8.2.2.2.2.1 j (by omega)⟩
    · exact (h8.ownM (how.ks HK9.out (Nat.le_refl _) (fun j hj => by have := (how.lt j hj).1; omega))).low (by omega)
    · exact (hrow.ks HK9.out (Nat.le_refl _) (fun b hb => by have := (hlt0 b hb).1; omega)).took h8 (by omega)
end Go.Proofs.Ytenpiinkbfancaa.Pa
