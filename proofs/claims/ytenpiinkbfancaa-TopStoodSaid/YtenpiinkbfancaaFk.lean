/-
  frame: the counts of a sheet.
-/
import Derived.Test.YtenpiinkbfancaaFj
namespace Go.Proofs.Ytenpiinkbfancaa
open Go.RowKit
set_option linter.unusedSimpArgs false
set_option linter.unusedVariables false

attribute [local go_sem] Oper.semAt_some
/-- Two slices do not share a block. -/
def Dis (u v : Value) : Prop := u.ownBlock = none ∨ u.ownBlock ≠ v.ownBlock
theorem Dis.symm {u v : Value} (h : Dis u v) : Dis v u := by
  rcases h with h | h
  · by_cases hv : v.ownBlock = none
    · exact .inl hv
    · exact .inr (by rw [h]; exact hv)
  · exact .inr (Ne.symm h)
theorem dis_nil (v : Value) : Dis (.slice none 0 0) v := .inl rfl
/-- What a list has grown into shares no block with what was there before. -/
theorem Dis.app {base n : Nat} {w : World} {u u' v : Value} {ys : List Int} (h : Dis u v) (hv : OwnN base w v ys) (hn : w.heap.size ≤ n) (he : u'.ownBlock = u.ownBlock ∨ ∃ k, u'.ownBlock = some k ∧ n ≤ k) : Dis u' v := by
  rcases he with e | ⟨k, e, hk⟩
  · unfold Dis at *
    rw [e]
    exact h
  · unfold Dis
    rw [e]
    refine .inr fun h2 => ?_
    have := (hv.lt k h2.symm).2
    omega
/-- What the rounds of counts keep: the lists, in their boxes; the row of how many balls each frame has. -/
structure CtG (q z n : Nat) (W : World) (uc ue um : Value) (cs es ms : List Int) (D : Nat → Int) : Prop where
  bc : SlAt W (q + 1) uc
  be : SlAt W (q + 2) ue
  bm : SlAt W (q + 3) um
  oc : OwnN z W uc cs
  oe : OwnN z W ue es
  om : OwnN z W um ms
  dce : Dis uc ue
  dcm : Dis uc um
  dem : Dis ue um
  fr : DnAt W (q + 4) D n
section
variable {q z n s : Nat} {W W' : World} {uc ue um u' : Value} {cs es ms : List Int} {D : Nat → Int} {y : Int}
theorem CtG.chz (h : CtG q z n W uc ue um cs es ms D) (hc : Chz s z W W') (hq : q + 5 ≤ s) : CtG q z n W' uc ue um cs es ms D :=
  ⟨hc.block h.bc (.inl (by omega)), hc.block h.be (.inl (by omega)), hc.block h.bm (.inl (by omega)), h.oc.chz hc, h.oe.chz hc, h.om.chz hc, h.dce, h.dcm, h.dem, hc.block h.fr (.inl (by omega))⟩
theorem CtG.step (h : CtG q z n W uc ue um cs es ms D) (hb : Below W.heap.size W W') : CtG q z n W' uc ue um cs es ms D :=
  ⟨h.bc.step hb, h.be.step hb, h.bm.step hb, h.oc.kept hb, h.oe.kept hb, h.om.kept hb, h.dce, h.dcm, h.dem, h.fr.step hb⟩
theorem own_far {base w : Nat} {W : World} {u : Value} {ys : List Int} (h : OwnN base W u ys) {j : Nat} (hj : j < base) : u.ownBlock ≠ some j := fun e => by have := (h.lt j e).1; omega
theorem dis_row {u v : Value} (h : Dis u v) : v.ownBlock = none ∨ v.ownBlock ≠ u.ownBlock := by
  rcases h with h | h
  · by_cases hv : v.ownBlock = none
    · exact .inl hv
    · exact .inr (by rw [h]; exact hv)
  · exact .inr (Ne.symm h)
theorem CtG.app_c (h : CtG q z n W uc ue um cs es ms D) (hq : q + 5 ≤ z) (ho : OwnN z W' u' (cs ++ [y])) (hg : W.grownBy W' uc.ownBlock) (hd : u'.ownBlock = uc.ownBlock ∨ ∃ k, u'.ownBlock = some k ∧ W.heap.size ≤ k) :
    CtG q z n (W'.setCell ⟨q + 1, 0, none⟩ u') u' ue um (cs ++ [y]) es ms D :=
  ⟨(h.bc.grown hg (own_far (w := 0) h.oc (by omega))).set u', (h.be.grown hg (own_far (w := 0) h.oc (by omega))).far (by simp) u', (h.bm.grown hg (own_far (w := 0) h.oc (by omega))).far (by simp) u',
    ho.set (own_far (w := 0) ho (by dsimp only; omega)) u', (h.oe.grown hg (dis_row h.dce)).set (own_far (w := 0) h.oe (by dsimp only; omega)) u', (h.om.grown hg (dis_row h.dcm)).set (own_far (w := 0) h.om (by dsimp only; omega)) u',
    h.dce.app h.oe (Nat.le_refl _) hd, h.dcm.app h.om (Nat.le_refl _) hd, h.dem, (h.fr.grown hg (own_far (w := 0) h.oc (by omega))).far (by simp) u'⟩
theorem CtG.app_e (h : CtG q z n W uc ue um cs es ms D) (hq : q + 5 ≤ z) (ho : OwnN z W' u' (es ++ [y])) (hg : W.grownBy W' ue.ownBlock) (hd : u'.ownBlock = ue.ownBlock ∨ ∃ k, u'.ownBlock = some k ∧ W.heap.size ≤ k) :
    CtG q z n (W'.setCell ⟨q + 2, 0, none⟩ u') uc u' um cs (es ++ [y]) ms D :=
  ⟨(h.bc.grown hg (own_far (w := 0) h.oe (by omega))).far (by simp) u', (h.be.grown hg (own_far (w := 0) h.oe (by omega))).set u', (h.bm.grown hg (own_far (w := 0) h.oe (by omega))).far (by simp) u',
    (h.oc.grown hg (dis_row h.dce.symm)).set (own_far (w := 0) h.oc (by dsimp only; omega)) u', ho.set (own_far (w := 0) ho (by dsimp only; omega)) u', (h.om.grown hg (dis_row h.dem)).set (own_far (w := 0) h.om (by dsimp only; omega)) u',
    (h.dce.symm.app h.oc (Nat.le_refl _) hd).symm, h.dcm, h.dem.app h.om (Nat.le_refl _) hd, (h.fr.grown hg (own_far (w := 0) h.oe (by omega))).far (by simp) u'⟩
theorem CtG.app_m (h : CtG q z n W uc ue um cs es ms D) (hq : q + 5 ≤ z) (ho : OwnN z W' u' (ms ++ [y])) (hg : W.grownBy W' um.ownBlock) (hd : u'.ownBlock = um.ownBlock ∨ ∃ k, u'.ownBlock = some k ∧ W.heap.size ≤ k) :
    CtG q z n (W'.setCell ⟨q + 3, 0, none⟩ u') uc ue u' cs es (ms ++ [y]) D :=
  ⟨(h.bc.grown hg (own_far (w := 0) h.om (by omega))).far (by simp) u', (h.be.grown hg (own_far (w := 0) h.om (by omega))).far (by simp) u', (h.bm.grown hg (own_far (w := 0) h.om (by omega))).set u',
    (h.oc.grown hg (dis_row h.dcm.symm)).set (own_far (w := 0) h.oc (by dsimp only; omega)) u', (h.oe.grown hg (dis_row h.dem.symm)).set (own_far (w := 0) h.oe (by dsimp only; omega)) u', ho.set (own_far (w := 0) ho (by dsimp only; omega)) u',
    h.dce, (h.dcm.symm.app h.oc (Nat.le_refl _) hd).symm, (h.dem.symm.app h.oe (Nat.le_refl _) hd).symm, (h.fr.grown hg (own_far (w := 0) h.om (by omega))).far (by simp) u'⟩
theorem CtG.setD (h : CtG q z n W uc ue um cs es ms D) (hq : q + 5 ≤ z) (p : Nat) (v : Int) : CtG q z n (W.setCell ⟨q + 4, p, none⟩ (.int .i64 v)) uc ue um cs es ms (updD D p v) :=
  ⟨h.bc.far (by simp) _, h.be.far (by simp) _, h.bm.far (by simp) _, h.oc.set (own_far (w := 0) h.oc (by dsimp only; omega)) _, h.oe.set (own_far (w := 0) h.oe (by dsimp only; omega)) _, h.om.set (own_far (w := 0) h.om (by dsimp only; omega)) _, h.dce, h.dcm, h.dem, h.fr.set p v⟩
end
/-- Behind k balls. -/
def CtAt (N : Int) (xs : List Int) (q z k : Nat) (W : World) (uc ue um : Value) : Prop := CtG q z N.toNat W uc ue um (xs.take k) (endsS N xs k) (moreS N xs k) (fun f => (nfS N xs k f : Int))
theorem CtAt.later {N : Int} {xs : List Int} {q : Nat} {W W' : World} {z : Nat} (h : CtAt N xs q z 0 W (.slice none 0 0) (.slice none 0 0) (.slice none 0 0)) (hb : Below W.heap.size W W') : CtAt N xs q W'.heap.size 0 W' (.slice none 0 0) (.slice none 0 0) (.slice none 0 0) :=
  ⟨h.bc.step hb, h.be.step hb, h.bm.step hb, by simpa using OwnN.nil _ _, OwnN.nil _ _, OwnN.nil _ _, dis_nil _, dis_nil _, dis_nil _, h.fr.step hb⟩
theorem ThAt.grown {W W' : World} {g : Nat} {N b f c : Int} {p : Pl} {row : Option Nat} (h : ThAt W g N b f c p) (hg : W.grownBy W' row) (hne : row ≠ some g) : ThAt W' g N b f c p := (hg.block g h.lt (fun e => hne e.symm)).trans h
theorem ThAt.far {W : World} {g : Nat} {N b f c : Int} {p : Pl} (h : ThAt W g N b f c p) {ad : Addr} (hp : g ≠ ad.block) (x : Value) : ThAt (W.setCell ad x) g N b f c p := (Below.heap_setCell W ad x g hp).trans h
theorem Ints.drop {B : Nat} {w : World} {b off : Nat} {ys : List Int} (h : Ints B w (some ⟨b, off, none⟩) ys) (j : Nat) : Ints B w (some ⟨b, off + j, none⟩) (ys.drop j) := fun hp => by
  have hl : j < ys.length := by simp at hp; omega
  obtain ⟨b2, o2, e, hb, hc⟩ := h (by omega)
  injection e with e
  injection e with e1 e2
  subst e1 e2
  refine ⟨_, _, rfl, hb, fun k hk => ?_⟩
  have hk2 : j + k < ys.length := by simp at hk; omega
  have := hc (j + k) hk2
  rw [show off + j + k = off + (j + k) by omega, this, ix_lt hk2, ix_lt hk]
  simp
theorem Ints.part {B : Nat} {w : World} {A : Option Addr} {ys : List Int} (h : Ints B w A ys) (u : Nat) : Ints B w A (ys.take u) := fun hp => by
  have hl : 0 < ys.length := by simp at hp; omega
  obtain ⟨b2, o2, e, hb, hc⟩ := h hl
  refine ⟨b2, o2, e, hb, fun k hk => ?_⟩
  have hk2 : k < ys.length ∧ k < u := by simp at hk; omega
  rw [hc k hk2.1, ix_lt hk2.1, ix_lt hk]
  simp
theorem part_bd {N : Int} {xs : List Int} (h : SheetOk N xs) (a b c : Nat) : -1000000000 ≤ (((xs.take a).drop b).take c).sum ∧ (((xs.take a).drop b).take c).sum ≤ 1000000000 := by
  have h1 := sum_bd (((xs.take a).drop b).take c) (fun x hx => mem_bd h x (List.mem_of_mem_take (List.mem_of_mem_drop (List.mem_of_mem_take hx))))
  have h2 : (((xs.take a).drop b).take c).length ≤ 40 := by
    have := h.len
    simp
    omega
  omega
theorem OwnN.blk {base : Nat} {w : World} {A : Option Addr} {n c : Nat} {ys : List Int} (h : OwnN base w (.slice A (n + 1) c) ys) : ∃ g, A = some ⟨g, 0, none⟩ := by
  rcases h.2 with ⟨e, -⟩ | ⟨g, cap, cur, e, -⟩
  · cases e
  · injection e with e1
    exact ⟨g, e1⟩
theorem OwnN.cellAt3 {base : Nat} {w : World} {g n c : Nat} {ys : List Int} (h : OwnN base w (.slice (some ⟨g, 0, none⟩) n c) ys) (hn : ys.length = n) {j : Nat} (hj : j < n) : w.cell? ⟨g, j, none⟩ = some (.int .i64 (ix ys j)) ∧ w.frozen? ⟨g, j, none⟩ = false := by
  subst hn
  refine ⟨?_, World.ownsRow.frozenAt h j⟩
  rw [World.ownsRow.cellAt h j (by omega), List.getElem?_map, List.getElem?_eq_getElem hj, ix_lt hj]
  rfl
theorem OwnN.stored {base : Nat} {w : World} {g n c : Nat} {ys : List Int} (h : OwnN base w (.slice (some ⟨g, 0, none⟩) n c) ys) (hn : ys.length = n) {j : Nat} (v : Int) : OwnN base (w.setCell ⟨g, j, none⟩ (.int .i64 v)) (.slice (some ⟨g, 0, none⟩) n c) (ys.set j v) := by
  subst hn
  have := World.ownsRow.stored h j (.int .i64 v)
  unfold OwnN
  rw [List.length_set, List.map_set]
  exact this.1
theorem CtG.setM {q z n : Nat} {W : World} {uc ue : Value} {g m c : Nat} {cs es ms : List Int} {D : Nat → Int} (h : CtG q z n W uc ue (.slice (some ⟨g, 0, none⟩) m c) cs es ms D) (hm : ms.length = m) (hq : q + 5 ≤ z) (j : Nat) (v : Int) : CtG q z n (W.setCell ⟨g, j, none⟩ (.int .i64 v)) uc ue (.slice (some ⟨g, 0, none⟩) m c) cs es (ms.set j v) D := by
  have hg := (h.om.lt g rfl).1
  have e1 : uc.ownBlock ≠ some g := by
    rcases h.dcm with e | e
    · rw [e]; simp
    · exact e
  have e2 : ue.ownBlock ≠ some g := by
    rcases h.dem with e | e
    · rw [e]; simp
    · exact e
  exact ⟨h.bc.far (by dsimp only; omega) _, h.be.far (by dsimp only; omega) _, h.bm.far (by dsimp only; omega) _, h.oc.set e1 _, h.oe.set e2 _, h.om.stored hm v, h.dce, h.dcm, h.dem, h.fr.far (by dsimp only; omega) _⟩
theorem kz_store {S : Nat → Prop} {s z n0 g j : Nat} {A B : World} (h : KZ S s z n0 A B) (hg : (z ≤ g ∧ g < n0) ∨ A.heap.size ≤ g) (hsz : s ≤ z) (v : Value) : KZ S s z n0 A (B.setCell ⟨g, j, none⟩ v) :=
  ⟨by have := h.size; simpa [World.setCell] using this, h.os, h.tape, h.output, fun i o h0 h1 => (Below.heap_setCell B ⟨g, j, none⟩ v i (by
    rintro rfl
    have := (Array.getElem?_eq_some_iff.1 h0).1
    try dsimp only at *
    omega)).trans (h.same i o h0 h1)⟩
theorem set_last {ms : List Int} {f : Nat} (h : ms.length = f) (y v : Int) : (ms ++ [y]).set f v = ms ++ [v] := by
  subst h
  simp
/-- What holds behind k rounds. -/
def CtR (N : Int) (xs : List Int) (q z k : Nat) (S : Nat → Prop) (w3 W : World) : Prop := ∃ uc ue um, CtAt N xs q z k W uc ue um ∧ KS S w3.heap.size w3 W
theorem ends_lt {N : Int} {xs : List Int} : ∀ k, ∀ j, j + 1 < (endsS N xs k).length → ix (endsS N xs k) j < ix (endsS N xs k) (j + 1)
  | 0, j, hj => by simp [endsS] at hj
  | k + 1, j, hj => by
    simp only [endsS] at hj ⊢
    by_cases c : (plS N xs k).fr < (plS N xs (k + 1)).fr
    · rw [if_pos c] at hj ⊢
      by_cases h1 : j + 1 < (endsS N xs k).length
      · rw [ix_snoc h1, ix_snoc (by omega)]
        exact ends_lt k j h1
      · have : j + 1 = (endsS N xs k).length := by simp at hj; omega
        rw [this, ix_last, ix_snoc (by omega)]
        have := ends_bd (N := N) (xs := xs) k j (by omega)
        omega
    · rw [if_neg c] at hj ⊢
      exact ends_lt k j hj
/-- Where a count begins is ahead of where its frame ends. -/
theorem from_lt {N : Int} {xs : List Int} {j : Nat} (hj : j < (endsS N xs xs.length).length) : (fromS N xs j : Int) < ix (endsS N xs xs.length) j := by
  cases j with
  | zero => have := ends_bd (N := N) (xs := xs) xs.length 0 hj; simp only [fromS]; omega
  | succ j =>
    have h1 := ends_lt xs.length j hj
    have h2 := ends_bd (N := N) (xs := xs) xs.length j (by omega)
    simp only [fromS]
    omega
theorem OwnN.low {base base' : Nat} {w : World} {u : Value} {xs : List Int} (h : OwnN base w u xs) (hb : base' ≤ base) : OwnN base' w u xs := ownsRow_base h hb
theorem CtG.cast {q z n : Nat} {W : World} {uc ue um : Value} {cs es ms cs' es' ms' : List Int} {D D' : Nat → Int} (h : CtG q z n W uc ue um cs es ms D) (hc : cs' = cs) (he : es' = es) (hm : ms' = ms) (hD : ∀ f, D' f = D f) : CtG q z n W uc ue um cs' es' ms' D' := by
  obtain rfl : D' = D := funext hD
  subst hc he hm
  exact h
theorem kz_own {S : Nat → Prop} {s z n0 : Nat} {W W' : World} {u : Value} (hg : W.grownBy W' u.ownBlock) (hl : ∀ k, u.ownBlock = some k → z ≤ k ∧ k < n0) (hsz : s ≤ z) : KZ S s z n0 W W' :=
  KZ.of_grown hg fun q e => by have := hl q e; exact ⟨fun h => by omega, by omega, by omega⟩
theorem three_sl (w : World) (o : Obj) (s : Value) : SlAt ((((w.alloc o).alloc (.cells #[s] 42)).alloc (.cells #[s] 42)).alloc (.cells #[s] 42)) (w.heap.size + 1) s ∧ SlAt ((((w.alloc o).alloc (.cells #[s] 42)).alloc (.cells #[s] 42)).alloc (.cells #[s] 42)) (w.heap.size + 2) s ∧ SlAt ((((w.alloc o).alloc (.cells #[s] 42)).alloc (.cells #[s] 42)).alloc (.cells #[s] 42)) (w.heap.size + 3) s := by
  have h1 := SlAt.new (w.alloc o) s
  have h2 := SlAt.new ((w.alloc o).alloc (.cells #[s] 42)) s
  have h3 := SlAt.new (((w.alloc o).alloc (.cells #[s] 42)).alloc (.cells #[s] 42)) s
  simp only [World.size_alloc] at h1 h2 h3
  exact ⟨(h1.step ((Below.refl _ _).alloc (Nat.le_refl _) _)).step ((Below.refl _ _).alloc (Nat.le_refl _) _), h2.step ((Below.refl _ _).alloc (Nat.le_refl _) _), h3⟩
set_option maxRecDepth 100000 in
set_option maxHeartbeats 16000000 in
theorem counts_c (N : Int) (A : Option Addr) (c : Nat) (xs : List Int) (w : World) (hs : SheetOk N xs) (hx : Ints w.heap.size w A xs) :
    Calls Try.prog 47 #[lawV N, .slice A xs.length c] w fun e w' => ∃ zs Az cz, e = .returned (.slice Az zs.length cz) ∧ CntP N xs zs ∧ (zs.length ≤ cz ∧ cz ≤ 9223372036854775807) ∧ OwnN w.heap.size w' (.slice Az zs.length cz) zs ∧ Below w.heap.size w w' := by
  have hN0 := hs.n0
  have hN1 := hs.n1
  have hlen := hs.len
  have hNn : ((N.toNat : Nat) : Int) = N := by omega
  have HX := Lib.hid hx
  clear hx
  unfold lawV
  refine calls_marks Try.func47 rfl ?_
  simp only [Try.ntmps47, List.size_toArray, List.length_cons, List.length_nil, Nat.reduceAdd, Nat.reduceSub, Array.replicate_succ, Array.replicate_zero, List.push_toArray, List.append_toArray, List.nil_append, List.cons_append]
  go_upto_region 3 with fail
  obtain ⟨w1, hw1⟩ : ∃ w1, w1 = ((((w.alloc (.cells #[.int .i64 N, .int .i64 10, .int .i64 2, .int .i64 10] 50)).alloc (.cells #[.slice none 0 0] 42)).alloc (.cells #[.slice none 0 0] 42)).alloc (.cells #[.slice none 0 0] 42)) := ⟨_, rfl⟩
  rw [← hw1]
  have hb1 : Below w.heap.size w w1 := by rw [hw1]; exact ((below_two _ _).alloc (by simp; omega) _).alloc (by simp; omega) _
  have HB := Lib.hid hb1
  have hz1 : w1.heap.size = w.heap.size + 4 := by rw [hw1]; simp
  have l0 : w1.cell? ⟨w.heap.size, 0, none⟩ = some (.int .i64 N) := by rw [hw1]; go_simp
  have l1 : w1.cell? ⟨w.heap.size, 1, none⟩ = some (.int .i64 10) := by rw [hw1]; go_simp
  have l2 : w1.cell? ⟨w.heap.size, 2, none⟩ = some (.int .i64 2) := by rw [hw1]; go_simp
  have l3 : w1.cell? ⟨w.heap.size, 3, none⟩ = some (.int .i64 10) := by rw [hw1]; go_simp
  obtain ⟨g1, g2, g3⟩ : SlAt w1 (w.heap.size + 1) (.slice none 0 0) ∧ SlAt w1 (w.heap.size + 2) (.slice none 0 0) ∧ SlAt w1 (w.heap.size + 3) (.slice none 0 0) := by rw [hw1]; exact three_sl w _ _
  clear hb1 hw1
  have hmk : ∀ W, (Instr.makeSlice 42 (.int .i64 N) (.int .i64 N)).run Try.prog W = .ok (.slice (some ⟨W.heap.size, 0, none⟩) N.toNat N.toNat) (W.alloc (.cells (madeCells #[.int .i64 0] N.toNat) 3)) := by
    intro W
    have := run_make_row' 42 3 (.int .i64 0) 8 (by kernel_rfl) infoN rfl .i64 .i64 N.toNat (by omega) (by omega) W
    rw [hNn] at this
    exact this
  have hb2 : Below w1.heap.size w1 ((w1.alloc (.cells (madeCells #[.int .i64 0] N.toNat) 3)).alloc (.cells #[.slice (some ⟨w.heap.size + 4, 0, none⟩) N.toNat N.toNat] 42)) := below_two _ _
  have d4 : DnAt ((w1.alloc (.cells (madeCells #[.int .i64 0] N.toNat) 3)).alloc (.cells #[.slice (some ⟨w.heap.size + 4, 0, none⟩) N.toNat N.toNat] 42)) (w.heap.size + 4) (fun f => (nfS N xs 0 f : Int)) N.toNat := by
    have h1 := (dnAt_new w1 N.toNat).step (w' := (w1.alloc (.cells (madeCells #[.int .i64 0] N.toNat) 3)).alloc (.cells #[.slice (some ⟨w.heap.size + 4, 0, none⟩) N.toNat N.toNat] 42)) ((Below.refl _ _).alloc (Nat.le_refl _) _)
    rw [hz1] at h1
    refine h1.congr fun k _ => ?_
    simp [nfS, rowsS_zero, rx]
  have g5 : SlAt ((w1.alloc (.cells (madeCells #[.int .i64 0] N.toNat) 3)).alloc (.cells #[.slice (some ⟨w.heap.size + 4, 0, none⟩) N.toNat N.toNat] 42)) (w.heap.size + 5) (.slice (some ⟨w.heap.size + 4, 0, none⟩) N.toNat N.toNat) := by
    have h1 := SlAt.new (w1.alloc (.cells (madeCells #[.int .i64 0] N.toNat) 3)) (.slice (some ⟨w.heap.size + 4, 0, none⟩) N.toNat N.toNat)
    rw [World.size_alloc, hz1] at h1
    exact h1
  go_wp2_with fail
  simp only [Nat.add_assoc, Nat.reduceAdd]
  have q1 := g1.step hb2
  have q2 := g2.step hb2
  have q3 := g3.step hb2
  have m0 := cell_of_ans hb2 l0
  have m1 := cell_of_ans hb2 l1
  have m2 := cell_of_ans hb2 l2
  have m3 := cell_of_ans hb2 l3
  have HB2 : Hid (Below w.heap.size w ((w1.alloc (.cells (madeCells #[.int .i64 0] N.toNat) 3)).alloc (.cells #[.slice (some ⟨w.heap.size + 4, 0, none⟩) N.toNat N.toNat] 42))) := HB.out.trans (hb2.mono HB.out.size)
  have hz2 : ((w1.alloc (.cells (madeCells #[.int .i64 0] N.toNat) 3)).alloc (.cells #[.slice (some ⟨w.heap.size + 4, 0, none⟩) N.toNat N.toNat] 42)).heap.size = w.heap.size + 6 := by simp; omega
  clear g1 g2 g3 l0 l1 l2 l3 hb2 hmk
  generalize (w1.alloc (.cells (madeCells #[.int .i64 0] N.toNat) 3)).alloc (.cells #[.slice (some ⟨w.heap.size + 4, 0, none⟩) N.toNat N.toNat] 42) = w2 at *
  have HBL := Lib.hid (balls_c N A c w.heap.size xs w2 (HX.out.below HB2.out) (by omega))
  unfold lawV at HBL
  refine HBL.out.mono ?_
  rintro e w3 ⟨rfl, hb, hz, hS⟩
  rw [hz2] at hz hS
  rw [hz2]
  have HS := Lib.hid hS
  have HC0 : Hid (CtAt N xs w.heap.size w3.heap.size 0 w3 (.slice none 0 0) (.slice none 0 0) (.slice none 0 0)) :=
    ⟨q1.step hb, q2.step hb, q3.step hb, by simpa using OwnN.nil _ _, OwnN.nil _ _, OwnN.nil _ _, dis_nil _, dis_nil _, dis_nil _, d4.step hb⟩
  have HG5 := Lib.hid (g5.step hb)
  have HB3 : Hid (Below w.heap.size w w3) := HB2.out.trans (hb.mono HB2.out.size)
  have HL : Hid (w3.cell? ⟨w.heap.size, 0, none⟩ = some (.int .i64 N) ∧ w3.cell? ⟨w.heap.size, 1, none⟩ = some (.int .i64 10)) := ⟨cell_of_ans hb m0, cell_of_ans hb m1⟩
  clear hb hS q1 q2 q3 d4 g5 m0 m1 m2 m3 HBL HB2 HB
  go_wp2_with fail
  refine wpIn_wide.1 (wpIn_rangeFunc_n (F := Fence.wide) (n := 5) (S := (fun k => k = w.heap.size + 1 ∨ k = w.heap.size + 2 ∨ k = w.heap.size + 3 ∨ k = w.heap.size + 4)) rfl (by omega) (gf := 104) (lb := #[.pointer (some ⟨w.heap.size + 6, 0, none⟩), .pointer (some ⟨w.heap.size + 6 + 1, 0, none⟩)]) rfl trivial (enters_of Try.func104 (by kernel_rfl) rfl)
    (balls1_in 4 (w.heap.size + 6) w.heap.size N A c xs hs (fun k => k = w.heap.size + 1 ∨ k = w.heap.size + 2 ∨ k = w.heap.size + 3 ∨ k = w.heap.size + 4) w3 HS.out ⟨by omega, by omega, fun k hk => by omega⟩) (Below.refl _ _) (fun _ => rfl)
    (fun z k W => CtR N xs w.heap.size z k (fun k => k = w.heap.size + 1 ∨ k = w.heap.size + 2 ∨ k = w.heap.size + 3 ∨ k = w.heap.size + 4) w3 W)
    (fun W hb => ⟨_, _, _, HC0.out.later hb, KS.of_below hb⟩)
    (fun k a' W1 W2 => ThAt W2 W1.heap.size N (ix xs k) (plS N xs k).fr (ix xs k) (plS N xs (k + 1)) ∧ a' = { tmps := #[.agg #[.int .i64 N, .int .i64 10, .int .i64 2, .int .i64 10], .slice A xs.length c, .pointer (some ⟨w.heap.size, 0, none⟩), undef, .slice none 0 0, .pointer (some ⟨w.heap.size + 1, 0, none⟩), .pointer (some ⟨w.heap.size + 2, 0, none⟩), .pointer (some ⟨w.heap.size + 3, 0, none⟩), .pointer (some ⟨w.heap.size + 5, 0, none⟩), .int .i64 (k : Int), .pointer (some ⟨W1.heap.size, 0, none⟩), undef, undef, undef, undef, undef, .pointer (some ⟨w.heap.size, 0, none⟩), .int .i64 N, .slice (some ⟨w.heap.size + 4, 0, none⟩) N.toNat N.toNat, .agg #[.int .i64 N, .int .i64 10, .int .i64 2, .int .i64 10], .slice A xs.length c, .func (.func 104) #[] #[.pointer (some ⟨w.heap.size + 6, 0, none⟩), .pointer (some ⟨w.heap.size + 6 + 1, 0, none⟩)], .int .i64 (k : Int), thV N xs k, undef, undef, undef, undef, undef, undef, undef, undef, undef, undef, undef, undef, undef, undef, undef, undef, undef, undef, undef, undef, undef, undef, undef, undef, undef, undef, undef, undef, undef, undef, undef, undef, undef, undef, undef, undef, undef, undef, undef, undef, undef, undef, undef, undef, undef, undef, undef, undef, undef, undef, undef, undef, undef, undef, undef, undef, undef, undef, undef, undef, undef, undef, undef, undef, undef, undef, undef, undef, undef, undef, undef, undef, undef, undef, undef, undef, undef, undef, undef, undef, undef, undef, undef, undef, undef, undef, undef, undef, undef, undef, undef, undef, undef, undef, undef, undef, undef, undef, undef, undef, undef, undef, undef, undef, undef, undef, undef, undef, undef, undef, undef, undef], defers := [] })
    (fun k a' W1 A l o h1 h2 h => ⟨(World.putObj_heap_other (by omega)).trans h.1, h.2⟩) ?assign ?body ?done)
  case assign =>
    rintro l z k W0 W1 K hz' hzW hR hch hk hK
    simp only [bEnc] at hK ⊢
    unfold thV at hK
    unfold thV
    gi_wp2
    exact hK _ _ ((Below.refl _ _).alloc (Nat.le_refl _) _) ⟨ThAt.new _ _ _ _ _ _, rfl⟩
  case body =>
    rintro l z k a' W0 W1 W2 hz' hzW ⟨uc, ue, um, hct, hks⟩ hch hch2 hk ⟨hth, rfl⟩
    have hct2 := hct.chz (hch.trans hch2) (by omega)
    have hks2 := hks.trans (KS.of_chz (hch.trans hch2))
    have hWs : W0.heap.size ≤ W2.heap.size := (hch.trans hch2).1
    have hlc := hct.oc.lt
    have hle := hct.oe.lt
    have hlm := hct.om.lt
    have g5W : SlAt W2 (w.heap.size + 5) (.slice (some ⟨w.heap.size + 4, 0, none⟩) N.toNat N.toNat) := hks2.2.2.2.2 _ _ HG5.out (by omega) (by omega)
    have l0 : W2.cell? ⟨w.heap.size, 0, none⟩ = some (.int .i64 N) := hks2.cell HL.out.1 (by dsimp only; omega) (by dsimp only; omega)
    have l1 : W2.cell? ⟨w.heap.size, 1, none⟩ = some (.int .i64 10) := hks2.cell HL.out.2 (by dsimp only; omega) (by dsimp only; omega)
    have hok := plS_ok hs k (by omega)
    obtain ⟨mm1, mm2, mm3⟩ := hs.may k hk
    obtain ⟨f, hf⟩ : ∃ f : Nat, (plS N xs k).fr = (f : Int) := ⟨(plS N xs k).fr.toNat, by have := hok.f0; omega⟩
    have hfN : f < N.toNat := by omega
    have hft : (plS N xs k).fr.toNat = f := by omega
    have hnf := nf_succ hs hk
    rw [hft] at hnf
    have hnp := nf_pos hs hk
    rw [hft] at hnp
    have hnl := nf_le hs (k := k + 1) (by omega) f
    have hfs : firstS N xs k = ((xs.take (k + 1)).drop (k + 1 - nfS N xs (k + 1) f)).sum := by unfold firstS; rw [hft]
    have hnw : newM N xs k = if (f : Int) < N - 1 ∧ firstS N xs k = 10 ∧ nfS N xs (k + 1) f < 3 then 3 - (nfS N xs (k + 1) f : Int) else 0 := by unfold newM; rw [hft, hf]
    have hfr := nextP_fr (N := N) (p := plS N xs k) (b := ix xs k)
    rw [← plS_succ hk, hf] at hfr
    have hes : endsS N xs (k + 1) = if (f : Int) < (plS N xs (k + 1)).fr then endsS N xs k ++ [(k : Int) + 1] else endsS N xs k := by rw [endsS, hf]
    have hms : moreS N xs (k + 1) = if (f : Int) < (plS N xs (k + 1)).fr then moreS N xs k ++ [newM N xs k] else moreS N xs k := by rw [moreS, hf]
    have hts : xs.take (k + 1) = xs.take k ++ [ix xs k] := by rw [ix_lt hk, List.take_succ_eq_append_getElem hk]
    have hel := ends_len (N := N) (xs := xs) k (by omega)
    rw [hf] at hel
    have hml := more_len (N := N) (xs := xs) k
    rw [hf] at hth
    have hnff : (nfS N xs k f : Int) + 1 = (nfS N xs (k + 1) f : Int) := by rw [hnf f]; unfold updD; rw [if_pos rfl]
    have hw1 : IntKind.i64.wrap ((nfS N xs k f : Int) + 1) = (nfS N xs k f : Int) + 1 := IntWalk.i64_in _ (by omega)
    have HCT := Lib.hid hct2
    have HKS := Lib.hid hks2
    have HTH := Lib.hid hth
    have hqz : w.heap.size + 5 ≤ z := by omega
    have hzW2 : z ≤ W2.heap.size := Nat.le_trans hzW hWs
    have HKL : Hid ((xs.take k).length = k) := by show _ = _; simp; omega
    have HEL : Hid ((endsS N xs k).length = f) := by show _ = _; omega
    have HML : Hid ((moreS N xs k).length = f) := by show _ = _; omega
    have HOC := Lib.hid hct2.oc
    have b1 := hct2.bc.cell
    have t0 := hth.cells.1.1
    have t1 := hth.cells.1.2.1
    have t2 := hth.cells.1.2.2
    have hnu : ∀ j, j < z → uc.ownBlock ≠ some j := fun j hj e => by have := (hlc j e).1; omega
    have hntb : uc.ownBlock ≠ some W1.heap.size ∧ ue.ownBlock ≠ some W1.heap.size ∧ um.ownBlock ≠ some W1.heap.size := by
      have := hch.1
      exact ⟨fun e => by have := (hlc _ e).2; omega, fun e => by have := (hle _ e).2; omega, fun e => by have := (hlm _ e).2; omega⟩
    have htbz : z ≤ W1.heap.size := Nat.le_trans hzW hch.1
    have HNT := Lib.hid hntb
    have HLC := Lib.hid hlc
    have HLE := Lib.hid hle
    have HLM := Lib.hid hlm
    have hwi : IntKind.i64.wrap ((k : Int) + 1) = (k : Int) + 1 := IntWalk.i64_in _ (by omega)
    have HNFF := Lib.hid hnff
    have HNF := Lib.hid hnf
    have HTS := Lib.hid hts
    have HES := Lib.hid hes
    have HMS := Lib.hid hms
    have HNW := Lib.hid hnw
    have HFS := Lib.hid hfs
    have HNP := Lib.hid hnp
    have HNL := Lib.hid hnl
    have hnfb : nfS N xs k f ≤ 100 := by omega
    have hkf : k ≤ 1000000 ∧ f ≤ 1000000 := by omega
    clear hct hks hch hch2 hct2 hks2 hth hlc hle hlm hok mm1 mm2 mm3 hnf hnp hnl hfs hnw hes hms hts hel hml hnff hft hntb
    dsimp only
    generalize W1.heap.size = tb at *
    rcases hfr with hfr | hfr
    · have x1 : decide ((f : Int) < (f : Int)) = false := decide_eq_false (by omega)
      gi_wp2_with (gi_at_builtin; refine wpListIn_appN (.tmp 24) (.tmp 27) rfl rfl z _ uc (xs.take k) k (ix xs k) rfl rfl (by rfl) HOC HKL hkf.1 hzW2 ?_; intro A1 c1 w5 HO1 HG1 HD1; have HM1 := Lib.hid (CtG.setD (HCT.out.app_c hqz HO1.out HG1.out HD1.out) hqz f ((nfS N xs k f : Int) + 1)); have HKZ1 := Lib.hid (((kz_own (S := (fun k => k = w.heap.size + 1 ∨ k = w.heap.size + 2 ∨ k = w.heap.size + 3 ∨ k = w.heap.size + 4)) (s := w3.heap.size) HG1.out HLC.out (by omega)).trans (KZ.of_set (ad := ⟨w.heap.size + 1, 0, none⟩) ⟨by dsimp only; omega, .inl rfl⟩ (by dsimp only; omega) (.slice A1 (k + 1) c1))).trans (KZ.of_set (ad := ⟨w.heap.size + 4, f, none⟩) ⟨by dsimp only; omega, .inr (.inr (.inr rfl))⟩ (by dsimp only; omega) (.int .i64 ((nfS N xs k f : Int) + 1)))); have HT5 := Lib.hid (((HTH.out.grown HG1.out HNT.out.1).far (ad := ⟨w.heap.size + 1, 0, none⟩) (by dsimp only; omega) (.slice A1 (k + 1) c1)).far (ad := ⟨w.heap.size + 4, f, none⟩) (by dsimp only; omega) (.int .i64 ((nfS N xs k f : Int) + 1))); have e1 := (HCT.out.bc.grown HG1.out (hnu _ (by omega))).cell; have e1f := (HCT.out.bc.grown HG1.out (hnu _ (by omega))).frozen; have e5 := (g5W.grown HG1.out (hnu _ (by omega))).cell; have d4 := ((HCT.out.fr.grown HG1.out (hnu _ (by omega))).cell hfN).1; have d4f := ((HCT.out.fr.grown HG1.out (hnu _ (by omega))).cell hfN).2; have t1 := (HTH.out.grown HG1.out HNT.out.1).cells.1.2.1; have t7 := (HTH.out.grown HG1.out HNT.out.1).cells.2.2.1; rw [hfr] at t7; have e2 := (HCT.out.be.grown HG1.out (hnu _ (by omega))).cell)
      refine ⟨HKZ1.out, _, _, _, HM1.out.cast HTS.out ?_ ?_ (fun f' => HNF.out f'), HKS.out.trans HKZ1.out.ks⟩
      · rw [HES.out, hfr, if_neg (by omega)]
      · rw [HMS.out, hfr, if_neg (by omega)]
    · have x1 : decide ((f : Int) < (f : Int) + 1) = true := decide_eq_true (by omega)
      gi_wp2_with (first | (gi_at_builtin; refine wpListIn_appN (.tmp 24) (.tmp 27) rfl rfl z _ uc (xs.take k) k (ix xs k) rfl rfl (by rfl) HOC HKL hkf.1 hzW2 ?_; intro A1 c1 w5 HO1 HG1 HD1; have HM1 := Lib.hid (CtG.setD (HCT.out.app_c hqz HO1.out HG1.out HD1.out) hqz f ((nfS N xs k f : Int) + 1)); have HKZ1 := Lib.hid (((kz_own (S := (fun k => k = w.heap.size + 1 ∨ k = w.heap.size + 2 ∨ k = w.heap.size + 3 ∨ k = w.heap.size + 4)) (s := w3.heap.size) HG1.out HLC.out (by omega)).trans (KZ.of_set (ad := ⟨w.heap.size + 1, 0, none⟩) ⟨by dsimp only; omega, .inl rfl⟩ (by dsimp only; omega) (.slice A1 (k + 1) c1))).trans (KZ.of_set (ad := ⟨w.heap.size + 4, f, none⟩) ⟨by dsimp only; omega, .inr (.inr (.inr rfl))⟩ (by dsimp only; omega) (.int .i64 ((nfS N xs k f : Int) + 1)))); have HT5 := Lib.hid (((HTH.out.grown HG1.out HNT.out.1).far (ad := ⟨w.heap.size + 1, 0, none⟩) (by dsimp only; omega) (.slice A1 (k + 1) c1)).far (ad := ⟨w.heap.size + 4, f, none⟩) (by dsimp only; omega) (.int .i64 ((nfS N xs k f : Int) + 1))); have e1 := (HCT.out.bc.grown HG1.out (hnu _ (by omega))).cell; have e1f := (HCT.out.bc.grown HG1.out (hnu _ (by omega))).frozen; have e5 := (g5W.grown HG1.out (hnu _ (by omega))).cell; have d4 := ((HCT.out.fr.grown HG1.out (hnu _ (by omega))).cell hfN).1; have d4f := ((HCT.out.fr.grown HG1.out (hnu _ (by omega))).cell hfN).2; have t1 := (HTH.out.grown HG1.out HNT.out.1).cells.1.2.1; have t7 := (HTH.out.grown HG1.out HNT.out.1).cells.2.2.1; rw [hfr] at t7; have e2 := (HCT.out.be.grown HG1.out (hnu _ (by omega))).cell) | (gi_at_builtin; refine wpListIn_appN (.tmp 43) (.tmp 46) rfl rfl z _ ue (endsS N xs k) f ((k : Int) + 1) rfl rfl (by simp [World.setCell]) (Lib.hid HM1.out.oe) HEL hkf.2 (Nat.le_trans hzW2 HKZ1.out.size) ?_; intro A2 c2 w7 HO2 HG2 HD2; have HM2 := Lib.hid (HM1.out.app_e hqz HO2.out HG2.out HD2.out); have HKZ2 := Lib.hid ((HKZ1.out.trans (kz_own (S := (fun k => k = w.heap.size + 1 ∨ k = w.heap.size + 2 ∨ k = w.heap.size + 3 ∨ k = w.heap.size + 4)) (s := w3.heap.size) HG2.out HLE.out (by omega))).trans (KZ.of_set (ad := ⟨w.heap.size + 2, 0, none⟩) ⟨by dsimp only; omega, .inr (.inl rfl)⟩ (by dsimp only; omega) (.slice A2 (f + 1) c2))); have HT7 := Lib.hid ((HT5.out.grown HG2.out HNT.out.2.1).far (ad := ⟨w.heap.size + 2, 0, none⟩) (by dsimp only; omega) (.slice A2 (f + 1) c2)); clear e1 e1f e5 d4 d4f t1 t7 e2; have e2 := (HM1.out.be.grown HG2.out (own_far (w := 0) HM1.out.oe (by omega))).cell; have e2f := (HM1.out.be.grown HG2.out (own_far (w := 0) HM1.out.oe (by omega))).frozen; have e3 := (HM1.out.bm.grown HG2.out (own_far (w := 0) HM1.out.oe (by omega))).cell) | (gi_at_builtin; refine wpListIn_appN (.tmp 48) (.tmp 49) rfl rfl z _ um (moreS N xs k) f 0 rfl rfl (by simp [World.setCell]) (Lib.hid HM2.out.om) HML hkf.2 (Nat.le_trans hzW2 HKZ2.out.size) ?_; intro A3 c3 w9 HO3 HG3 HD3; have HM3 := Lib.hid (HM2.out.app_m hqz HO3.out HG3.out HD3.out); have HKZ3 := Lib.hid ((HKZ2.out.trans (kz_own (S := (fun k => k = w.heap.size + 1 ∨ k = w.heap.size + 2 ∨ k = w.heap.size + 3 ∨ k = w.heap.size + 4)) (s := w3.heap.size) HG3.out HLM.out (by omega))).trans (KZ.of_set (ad := ⟨w.heap.size + 3, 0, none⟩) ⟨by dsimp only; omega, .inr (.inr (.inl rfl))⟩ (by dsimp only; omega) (.slice A3 (f + 1) c3))); have HT9 := Lib.hid ((HT7.out.grown HG3.out HNT.out.2.2).far (ad := ⟨w.heap.size + 3, 0, none⟩) (by dsimp only; omega) (.slice A3 (f + 1) c3)); clear e2 e2f e3; have e3 := (HM2.out.bm.grown HG3.out (own_far (w := 0) HM2.out.om (by omega))).cell; have e3f := (HM2.out.bm.grown HG3.out (own_far (w := 0) HM2.out.om (by omega))).frozen))
      have g5z : SlAt (w9.setCell ⟨w.heap.size + 3, 0, none⟩ (.slice A3 (f + 1) c3)) (w.heap.size + 5) (.slice (some ⟨w.heap.size + 4, 0, none⟩) N.toNat N.toNat) := HKZ3.out.same _ _ g5W (.inl ⟨by omega, by omega⟩)
      replace l0 := HKZ3.out.cell l0 (.inl ⟨by dsimp only; omega, by dsimp only; omega⟩)
      replace l1 := HKZ3.out.cell l1 (.inl ⟨by dsimp only; omega, by dsimp only; omega⟩)
      generalize hwz : w9.setCell ⟨w.heap.size + 3, 0, none⟩ (.slice A3 (f + 1) c3) = wz at *
      have HGB : Hid (∀ g, (Value.slice A3 (f + 1) c3).ownBlock = some g → (z ≤ g ∧ g < W0.heap.size) ∨ W2.heap.size ≤ g) := fun g hg => by
        rcases HD3.out with e | ⟨j, e, hj⟩
        · exact .inl (HLM.out g (by rw [← e]; exact hg))
        · rw [e] at hg
          cases hg
          exact .inr (Nat.le_trans HKZ2.out.size hj)
      have hff : (f : Int) < (f : Int) + 1 := by omega
      clear e3 e3f hwz HO3 HG3 HM2 HKZ2 HT7 HM1 HKZ1 HT5 HO1 HG1 HD1 HO2 HG2 HD2
      obtain ⟨-, hcl, hcm, hci⟩ := ints_parts HM3.out.oc.isInts
      have hcsl : (xs.take k ++ [ix xs k]).length = k + 1 := by rw [List.length_append, HKL.out]; rfl
      obtain ⟨b, off, rfl, hbb, -⟩ := hci.at_ (k := 0) (by omega)
      obtain ⟨m', hm'⟩ : ∃ m', m' = nfS N xs (k + 1) f := ⟨_, rfl⟩
      have hmp : 1 ≤ m' ∧ m' ≤ k + 1 := by rw [hm']; exact ⟨HNP.out, HNL.out⟩
      obtain ⟨j0, hj0⟩ : ∃ j0, j0 = k + 1 - m' := ⟨_, rfl⟩
      have dz := (HM3.out.fr.cell hfN).1
      have dzv : updD (fun f => (nfS N xs k f : Int)) f ((nfS N xs k f : Int) + 1) f = (m' : Int) := by unfold updD; rw [if_pos rfl, hm']; exact HNFF.out
      rw [dzv] at dz
      have dzf := (HM3.out.fr.cell hfN).2
      have cz1 := HM3.out.bc.cell
      have cz3 := HM3.out.bm.cell
      have cz5 := g5z.cell
      have tz1 := HT9.out.cells.1.2.1
      have hwj : IntKind.i64.wrap ((k : Int) + 1 - (m' : Int)) = (j0 : Int) := by rw [IntWalk.i64_in _ (by omega)]; omega
      have hdl : ((xs.take k ++ [ix xs k]).drop j0).length = k + 1 - j0 := by rw [List.length_drop, hcsl]
      have hid : Ints wz.heap.size wz (some ⟨b, off + j0, none⟩) ((xs.take k ++ [ix xs k]).drop j0) := hci.drop j0
      have hbs := fun j => slice_bd hs (k + 1) j
      have hft : firstS N xs k = ((xs.take k ++ [ix xs k]).drop j0).sum := by rw [HFS.out, HTS.out, hj0, hm']
      have hsb : ∀ j, j ≤ ((xs.take k ++ [ix xs k]).drop j0).length → -1000000000 ≤ (((xs.take k ++ [ix xs k]).drop j0).take j).sum ∧ (((xs.take k ++ [ix xs k]).drop j0).take j).sum ≤ 1000000000 := by
        rw [← HTS.out]
        exact fun j _ => part_bd hs _ _ _
      have HSUM : Hid (∀ W, Below wz.heap.size wz W → Calls Try.prog 103 #[.slice (some ⟨b, off + j0, none⟩) (k + 1 - j0) (c1 - j0)] W (Same W (.int .i64 (firstS N xs k)))) := fun W hW => by
        have := sum_c (B := wz.heap.size) (some ⟨b, off + j0, none⟩) (c1 - j0) _ W (hid.below hW) (by rw [hdl]; omega) hsb
        rw [hdl, ← hft] at this
        exact this
      have hjk : j0 ≤ k + 1 := by omega
      have hfNi : (f : Int) < N := by omega
      have hjki : (j0 : Int) ≤ (k : Int) + 1 := by omega
      have hjk2 : ¬ c1 = j0 := by rw [hcsl] at hcl; omega
      have hjk3 : k + 1 ≤ c1 := by rw [hcsl] at hcl; omega
      have hwf : IntKind.i64.wrap (N - 1) = N - 1 := IntWalk.i64_in _ (by omega)
      have hw3m : IntKind.i64.wrap (3 - (m' : Int)) = 3 - (m' : Int) := IntWalk.i64_in _ (by omega)
      have HMP := Lib.hid hm'
      have hmp2 := hmp.2
      have hmp1 := hmp.1
      clear hcl hcm hci hbs hsb hid hdl dzv hft hm' hj0 hcsl hmp
      generalize firstS N xs k = fs at *
      refine round_T (fun W => Below wz.heap.size wz W) 12 (by kernel_rfl) (by kernel_rfl) (by rintro ⟨_, _, h⟩; exact h) (Below.refl _ _).drew (fun hS => ?_)
      refine' T_take (i := 0) (v := _) rfl (by kernel_rfl) (by kernel_rfl) (by kernel_rfl) (by kernel_rfl) (fun _ _ _ h => h) (by kernel_rfl) hS ?_ ?_
      rotate_left 1
      · intro Wv hW
        have cz1 := cell_of_ans hW cz1
        have cz3 := cell_of_ans hW cz3
        have cz5 := cell_of_ans hW cz5
        have dz := cell_of_ans hW dz
        have tz1 := cell_of_ans hW tz1
        go_simp
        first | done | with_reducible rfl | omega
      try simp only [Act.put, List.setIfInBounds_toArray, List.set_cons_zero, List.set_cons_succ]
      refine' T_take (i := 1) (v := _) rfl (by kernel_rfl) (by kernel_rfl) (by kernel_rfl) (by kernel_rfl) (fun _ _ _ h => h) (by kernel_rfl) hS ?_ ?_
      rotate_left 1
      · intro Wv hW
        have cz1 := cell_of_ans hW cz1
        have cz3 := cell_of_ans hW cz3
        have cz5 := cell_of_ans hW cz5
        have dz := cell_of_ans hW dz
        have tz1 := cell_of_ans hW tz1
        go_simp
        first | done | with_reducible rfl | omega
      try simp only [Act.put, List.setIfInBounds_toArray, List.set_cons_zero, List.set_cons_succ]
      refine' T_take (i := 2) (v := _) rfl (by kernel_rfl) (by kernel_rfl) (by kernel_rfl) (by kernel_rfl) (fun _ _ _ h => h) (by kernel_rfl) hS ?_ ?_
      rotate_left 1
      · intro Wv hW
        have cz1 := cell_of_ans hW cz1
        have cz3 := cell_of_ans hW cz3
        have cz5 := cell_of_ans hW cz5
        have dz := cell_of_ans hW dz
        have tz1 := cell_of_ans hW tz1
        go_simp
        first | done | with_reducible rfl | omega
      try simp only [Act.put, List.setIfInBounds_toArray, List.set_cons_zero, List.set_cons_succ]
      refine' T_take (i := 3) (v := _) rfl (by kernel_rfl) (by kernel_rfl) (by kernel_rfl) (by kernel_rfl) (fun _ _ _ h => h) (by kernel_rfl) hS ?_ ?_
      rotate_left 1
      · intro Wv hW
        have cz1 := cell_of_ans hW cz1
        have cz3 := cell_of_ans hW cz3
        have cz5 := cell_of_ans hW cz5
        have dz := cell_of_ans hW dz
        have tz1 := cell_of_ans hW tz1
        go_simp
        first | done | with_reducible rfl | omega
      try simp only [Act.put, List.setIfInBounds_toArray, List.set_cons_zero, List.set_cons_succ]
      refine' T_take (i := 4) (v := _) rfl (by kernel_rfl) (by kernel_rfl) (by kernel_rfl) (by kernel_rfl) (fun _ _ _ h => h) (by kernel_rfl) hS ?_ ?_
      rotate_left 1
      · intro Wv hW
        have cz1 := cell_of_ans hW cz1
        have cz3 := cell_of_ans hW cz3
        have cz5 := cell_of_ans hW cz5
        have dz := cell_of_ans hW dz
        have tz1 := cell_of_ans hW tz1
        go_simp
        first | done | with_reducible rfl | omega
      try simp only [Act.put, List.setIfInBounds_toArray, List.set_cons_zero, List.set_cons_succ]
      refine' T_take (i := 5) (v := _) rfl (by kernel_rfl) (by kernel_rfl) (by kernel_rfl) (by kernel_rfl) (fun _ _ _ h => h) (by kernel_rfl) hS ?_ ?_
      rotate_left 1
      · intro Wv hW
        have cz1 := cell_of_ans hW cz1
        have cz3 := cell_of_ans hW cz3
        have cz5 := cell_of_ans hW cz5
        have dz := cell_of_ans hW dz
        have tz1 := cell_of_ans hW tz1
        go_simp
        first | done | with_reducible rfl | omega
      try simp only [Act.put, List.setIfInBounds_toArray, List.set_cons_zero, List.set_cons_succ]
      refine' T_take (i := 6) (v := _) rfl (by kernel_rfl) (by kernel_rfl) (by kernel_rfl) (by kernel_rfl) (fun _ _ _ h => h) (by kernel_rfl) hS ?_ ?_
      rotate_left 1
      · intro Wv hW
        have cz1 := cell_of_ans hW cz1
        have cz3 := cell_of_ans hW cz3
        have cz5 := cell_of_ans hW cz5
        have dz := cell_of_ans hW dz
        have tz1 := cell_of_ans hW tz1
        go_simp
        first | done | with_reducible rfl | omega
      try simp only [Act.put, List.setIfInBounds_toArray, List.set_cons_zero, List.set_cons_succ]
      refine' T_take (i := 7) (v := _) rfl (by kernel_rfl) (by kernel_rfl) (by kernel_rfl) (by kernel_rfl) (fun _ _ _ h => h) (by kernel_rfl) hS ?_ ?_
      rotate_left 1
      · intro Wv hW
        have cz1 := cell_of_ans hW cz1
        have cz3 := cell_of_ans hW cz3
        have cz5 := cell_of_ans hW cz5
        have dz := cell_of_ans hW dz
        have tz1 := cell_of_ans hW tz1
        go_simp
        first | done | with_reducible rfl | omega
      try simp only [Act.put, List.setIfInBounds_toArray, List.set_cons_zero, List.set_cons_succ]
      refine' T_take (i := 8) (v := _) rfl (by kernel_rfl) (by kernel_rfl) (by kernel_rfl) (by kernel_rfl) (fun _ _ _ h => h) (by kernel_rfl) hS ?_ ?_
      rotate_left 1
      · intro Wv hW
        have cz1 := cell_of_ans hW cz1
        have cz3 := cell_of_ans hW cz3
        have cz5 := cell_of_ans hW cz5
        have dz := cell_of_ans hW dz
        have tz1 := cell_of_ans hW tz1
        go_simp
        first | done | with_reducible rfl | omega
      try simp only [Act.put, List.setIfInBounds_toArray, List.set_cons_zero, List.set_cons_succ]
      refine' T_take (i := 9) (v := _) rfl (by kernel_rfl) (by kernel_rfl) (by kernel_rfl) (by kernel_rfl) (fun _ _ _ h => h) (by kernel_rfl) hS ?_ ?_
      rotate_left 1
      · intro Wv hW
        have cz1 := cell_of_ans hW cz1
        have cz3 := cell_of_ans hW cz3
        have cz5 := cell_of_ans hW cz5
        have dz := cell_of_ans hW dz
        have tz1 := cell_of_ans hW tz1
        go_simp
        first | done | with_reducible rfl | omega
      try simp only [Act.put, List.setIfInBounds_toArray, List.set_cons_zero, List.set_cons_succ]
      refine T_ready (rs := [10]) (by kernel_rfl) (by simp) ?_
      refine TReady.cons rfl (fun K hK => ?_) TReady.nil
      try go_simp
      refine (HSUM.out _ hS).mono ?_
      rintro e v9 ⟨rfl, rfl⟩
      try go_simp
      refine hK.out _ _ (fun _ => hS) (fun _ => ?_)
      clear hK K
      try simp only [Act.put, List.setIfInBounds_toArray, List.set_cons_zero, List.set_cons_succ]
      refine' T_take (i := 11) (v := _) rfl (by kernel_rfl) (by kernel_rfl) (by kernel_rfl) (by kernel_rfl) (fun _ _ _ h => h) (by kernel_rfl) hS ?_ ?_
      rotate_left 1
      · intro Wv hW
        have cz1 := cell_of_ans hW cz1
        have cz3 := cell_of_ans hW cz3
        have cz5 := cell_of_ans hW cz5
        have dz := cell_of_ans hW dz
        have tz1 := cell_of_ans hW tz1
        go_simp
        first | done | with_reducible rfl | omega
      try simp only [Act.put, List.setIfInBounds_toArray, List.set_cons_zero, List.set_cons_succ]
      refine T_done (by kernel_rfl) ?_ _

      simp only [Act.put, List.getElem_toArray, List.getElem_cons_succ, List.getElem_cons_zero, List.setIfInBounds_toArray, List.set_cons_zero, List.set_cons_succ]
      have HM4 := Lib.hid (HM3.out.step hS)
      have HKZ4 := Lib.hid (HKZ3.out.trans (KZ.of_below hS))
      have HE4 : Hid (endsS N xs (k + 1) = endsS N xs k ++ [(k : Int) + 1]) := by show _ = _; rw [HES.out, hfr, if_pos (by omega)]
      have HN4 : Hid (∀ y : Int, newM N xs k = y → moreS N xs (k + 1) = moreS N xs k ++ [y]) := fun y hy => by rw [HMS.out, hfr, if_pos (by omega), hy]
      clear HSUM HM3 HKZ3 HES HMS cz1 HLC HLE HLM HNT HT9 g5z g5W
      have HHZ := Lib.hid hz
      clear hz
      by_cases c1' : (f : Int) < N - 1
      · have x2 : decide ((f : Int) < N - 1) = true := decide_eq_true c1'
        by_cases c2' : fs = 10
        · have x3 : (fs == 10) = true := by simp [c2']
          by_cases c3' : m' < 3
          · have x4 : decide ((m' : Int) < 3) = true := decide_eq_true (by omega)
            gi_wp2
            obtain ⟨b3, rfl⟩ := HM4.out.om.blk
            have hm3 : (moreS N xs k ++ [(0 : Int)]).length = f + 1 := by rw [List.length_append, HML.out]; rfl
            replace cz3 := HM4.out.bm.cell
            replace cz5 := cell_of_ans hS cz5
            replace dz := cell_of_ans hS dz
            replace tz1 := cell_of_ans hS tz1
            clear hS
            generalize wz.drew = wv at *
            refine round_T (fun W => Below wv.heap.size wv W) 10 (by kernel_rfl) (by kernel_rfl) (by rintro ⟨_, _, h⟩; exact h) (Below.refl _ _).drew (fun hS => ?_)
            refine' T_take (i := 0) (v := _) rfl (by kernel_rfl) (by kernel_rfl) (by kernel_rfl) (by kernel_rfl) (fun _ _ _ h => h) (by kernel_rfl) hS ?_ ?_
            rotate_left 1
            · intro Wv hW
              have cz3 := cell_of_ans hW cz3
              have cz5 := cell_of_ans hW cz5
              have dz := cell_of_ans hW dz
              have tz1 := cell_of_ans hW tz1
              go_simp
              first | done | with_reducible rfl | omega
            try simp only [Act.put, List.setIfInBounds_toArray, List.set_cons_zero, List.set_cons_succ]
            refine' T_take (i := 1) (v := _) rfl (by kernel_rfl) (by kernel_rfl) (by kernel_rfl) (by kernel_rfl) (fun _ _ _ h => h) (by kernel_rfl) hS ?_ ?_
            rotate_left 1
            · intro Wv hW
              have cz3 := cell_of_ans hW cz3
              have cz5 := cell_of_ans hW cz5
              have dz := cell_of_ans hW dz
              have tz1 := cell_of_ans hW tz1
              go_simp
              first | done | with_reducible rfl | omega
            try simp only [Act.put, List.setIfInBounds_toArray, List.set_cons_zero, List.set_cons_succ]
            refine' T_take (i := 2) (v := _) rfl (by kernel_rfl) (by kernel_rfl) (by kernel_rfl) (by kernel_rfl) (fun _ _ _ h => h) (by kernel_rfl) hS ?_ ?_
            rotate_left 1
            · intro Wv hW
              have cz3 := cell_of_ans hW cz3
              have cz5 := cell_of_ans hW cz5
              have dz := cell_of_ans hW dz
              have tz1 := cell_of_ans hW tz1
              go_simp
              first | done | with_reducible rfl | omega
            try simp only [Act.put, List.setIfInBounds_toArray, List.set_cons_zero, List.set_cons_succ]
            refine' T_take (i := 3) (v := _) rfl (by kernel_rfl) (by kernel_rfl) (by kernel_rfl) (by kernel_rfl) (fun _ _ _ h => h) (by kernel_rfl) hS ?_ ?_
            rotate_left 1
            · intro Wv hW
              have cz3 := cell_of_ans hW cz3
              have cz5 := cell_of_ans hW cz5
              have dz := cell_of_ans hW dz
              have tz1 := cell_of_ans hW tz1
              go_simp
              first | done | with_reducible rfl | omega
            try simp only [Act.put, List.setIfInBounds_toArray, List.set_cons_zero, List.set_cons_succ]
            refine' T_take (i := 4) (v := _) rfl (by kernel_rfl) (by kernel_rfl) (by kernel_rfl) (by kernel_rfl) (fun _ _ _ h => h) (by kernel_rfl) hS ?_ ?_
            rotate_left 1
            · intro Wv hW
              have cz3 := cell_of_ans hW cz3
              have cz5 := cell_of_ans hW cz5
              have dz := cell_of_ans hW dz
              have tz1 := cell_of_ans hW tz1
              go_simp
              first | done | with_reducible rfl | omega
            try simp only [Act.put, List.setIfInBounds_toArray, List.set_cons_zero, List.set_cons_succ]
            refine' T_take (i := 5) (v := _) rfl (by kernel_rfl) (by kernel_rfl) (by kernel_rfl) (by kernel_rfl) (fun _ _ _ h => h) (by kernel_rfl) hS ?_ ?_
            rotate_left 1
            · intro Wv hW
              have cz3 := cell_of_ans hW cz3
              have cz5 := cell_of_ans hW cz5
              have dz := cell_of_ans hW dz
              have tz1 := cell_of_ans hW tz1
              go_simp
              first | done | with_reducible rfl | omega
            try simp only [Act.put, List.setIfInBounds_toArray, List.set_cons_zero, List.set_cons_succ]
            refine' T_take (i := 6) (v := _) rfl (by kernel_rfl) (by kernel_rfl) (by kernel_rfl) (by kernel_rfl) (fun _ _ _ h => h) (by kernel_rfl) hS ?_ ?_
            rotate_left 1
            · intro Wv hW
              have cz3 := cell_of_ans hW cz3
              have cz5 := cell_of_ans hW cz5
              have dz := cell_of_ans hW dz
              have tz1 := cell_of_ans hW tz1
              go_simp
              first | done | with_reducible rfl | omega
            try simp only [Act.put, List.setIfInBounds_toArray, List.set_cons_zero, List.set_cons_succ]
            refine' T_take (i := 7) (v := _) rfl (by kernel_rfl) (by kernel_rfl) (by kernel_rfl) (by kernel_rfl) (fun _ _ _ h => h) (by kernel_rfl) hS ?_ ?_
            rotate_left 1
            · intro Wv hW
              have cz3 := cell_of_ans hW cz3
              have cz5 := cell_of_ans hW cz5
              have dz := cell_of_ans hW dz
              have tz1 := cell_of_ans hW tz1
              go_simp
              first | done | with_reducible rfl | omega
            try simp only [Act.put, List.setIfInBounds_toArray, List.set_cons_zero, List.set_cons_succ]
            refine' T_take (i := 8) (v := _) rfl (by kernel_rfl) (by kernel_rfl) (by kernel_rfl) (by kernel_rfl) (fun _ _ _ h => h) (by kernel_rfl) hS ?_ ?_
            rotate_left 1
            · intro Wv hW
              have cz3 := cell_of_ans hW cz3
              have cz5 := cell_of_ans hW cz5
              have dz := cell_of_ans hW dz
              have tz1 := cell_of_ans hW tz1
              go_simp
              first | done | with_reducible rfl | omega
            try simp only [Act.put, List.setIfInBounds_toArray, List.set_cons_zero, List.set_cons_succ]
            refine' T_take (i := 9) (v := _) rfl (by kernel_rfl) (by kernel_rfl) (by kernel_rfl) (by kernel_rfl) (fun _ _ _ h => h) (by kernel_rfl) hS ?_ ?_
            rotate_left 1
            · intro Wv hW
              have cz3 := cell_of_ans hW cz3
              have cz5 := cell_of_ans hW cz5
              have dz := cell_of_ans hW dz
              have tz1 := cell_of_ans hW tz1
              go_simp
              first | done | with_reducible rfl | omega
            try simp only [Act.put, List.setIfInBounds_toArray, List.set_cons_zero, List.set_cons_succ]
            refine T_ready (rs := [10]) (by kernel_rfl) (by simp) ?_
            refine TReady.cons rfl (fun K hK => ?_) TReady.nil
            have gz0 := (HM4.out.step hS).om.cellAt3 hm3 (j := f) (by omega)
            have cg1 := gz0.1
            have cg2 := gz0.2
            try go_simp
            refine hK.out _ _ (fun h => absurd h (by decide)) (fun _ => ?_)
            clear hK K
            try simp only [Act.put, List.setIfInBounds_toArray, List.set_cons_zero, List.set_cons_succ]
            refine T_done (by kernel_rfl) ?_ _
            try simp only [Act.put, List.getElem_toArray, List.getElem_cons_succ, List.getElem_cons_zero, List.setIfInBounds_toArray, List.set_cons_zero, List.set_cons_succ]
            try gi_wp2

            have HKZ5 := (kz_store (j := f) HKZ4.out (HGB.out b3 rfl) (by omega) (.int .i64 (3 - (m' : Int)))).trans (KZ.of_below (Below.refl _ _).drew)
            refine ⟨HKZ5, _, _, _, ((HM4.out.setM hm3 hqz f (3 - (m' : Int))).step (Below.refl _ _).drew).cast HTS.out HE4.out ?_ (fun f' => HNF.out f'), HKS.out.trans HKZ5.ks⟩
            rw [set_last HML.out]
            refine HN4.out _ ?_
            rw [HNW.out, if_pos ⟨c1', c2', by rw [← HMP.out]; exact c3'⟩, HMP.out]
          · have x4 : decide ((m' : Int) < 3) = false := decide_eq_false (by omega)
            gi_wp2
            refine ⟨HKZ4.out, _, _, _, HM4.out.cast HTS.out HE4.out (HN4.out 0 ?_) (fun f' => HNF.out f'), HKS.out.trans HKZ4.out.ks⟩
            rw [HNW.out, if_neg]
            rintro ⟨-, -, h3⟩
            have := HMP.out
            omega
        · have x3 : (fs == 10) = false := by simp [c2']
          gi_wp2
          refine ⟨HKZ4.out, _, _, _, HM4.out.cast HTS.out HE4.out (HN4.out 0 ?_) (fun f' => HNF.out f'), HKS.out.trans HKZ4.out.ks⟩
          rw [HNW.out, if_neg]
          rintro ⟨-, h2, -⟩
          exact c2' h2
      · have x2 : decide ((f : Int) < N - 1) = false := decide_eq_false c1'
        gi_wp2
        refine ⟨HKZ4.out, _, _, _, HM4.out.cast HTS.out HE4.out (HN4.out 0 ?_) (fun f' => HNF.out f'), HKS.out.trans HKZ4.out.ks⟩
        rw [HNW.out, if_neg]
        rintro ⟨h1, -⟩
        omega
  case done =>
    rintro D z W0 W hD hz' hzW hDz ⟨uc, ue, um, hct, hks⟩ hch hK
    have hct2 : CtG w.heap.size z N.toNat W uc ue um (xs.take xs.length) (endsS N xs xs.length) (moreS N xs xs.length) _ := hct.chz hch (by omega)
    have hks2 := hks.trans (KS.of_chz hch)
    rw [List.take_length] at hct2
    have hfin := (plS_ok hs xs.length (Nat.le_refl _)).f1
    have hel := ends_len (N := N) (xs := xs) xs.length (Nat.le_refl _)
    have hml := more_len (N := N) (xs := xs) xs.length
    have HKD := Lib.hid hK
    have HKS := Lib.hid hks2
    have b1 := hct2.bc.cell
    have b2 := hct2.be.cell
    have b3 := hct2.bm.cell
    obtain ⟨Ac, cc, rfl⟩ := hct2.oc.form
    obtain ⟨Ae, ce, rfl⟩ := hct2.oe.form
    obtain ⟨Am, cm, rfl⟩ := hct2.om.form
    obtain ⟨-, hc1, hc2, hic⟩ := ints_parts hct2.oc.isInts
    obtain ⟨-, he1, he2, hie⟩ := ints_parts hct2.oe.isInts
    obtain ⟨-, hm1, hm2, him⟩ := ints_parts hct2.om.isInts
    have HIC := Lib.hid hic
    have HIE := Lib.hid hie
    have HIM := Lib.hid him
    have hel2 : (endsS N xs xs.length).length ≤ 10 := by omega
    have hqW : w.heap.size + 4 ≤ W.heap.size := by have := hks2.1; omega
    clear hct hks hch hct2 hks2 hK hic hie him hfin hel
    dsimp only
    have hlE := more_len (N := N) (xs := xs) xs.length
    have hWw : W.heap.size ≤ W.heap.size := Nat.le_refl _
    go_wp2_with fail
    generalize hEn : (endsS N xs xs.length).length = E at *
    have HEN := Lib.hid hEn
    clear hEn
    go_loopw [4, 12, 94] (fun ov fv iv wr => ∃ j : Nat, j ≤ E ∧ iv = .int .i64 (j : Int) ∧ fv = .int .i64 (fromS N xs j : Int) ∧ OwnN W.heap.size wr ov (outL N xs j) ∧ Below W.heap.size W wr) (fun _ _ iv _ => E - (intOf iv).toNat)
    case atStart => exact ⟨0, by omega, rfl, rfl, OwnN.nil _ _, Below.refl _ _⟩
    case round =>
      obtain ⟨j, hj, rfl, rfl, hO, hbw⟩ := hrel
      have hof := hO.form
      rw [outL_len] at hof
      obtain ⟨Ao, co, rfl⟩ := hof
      have HO := Lib.hid hO
      have HBW := Lib.hid hbw
      have HOL := Lib.hid (outL_len N xs j)
      clear hO hbw
      by_cases h1 : j < E
      · have h1i : (j : Int) < (E : Int) := by omega
        have hjE : j < (endsS N xs xs.length).length := by rw [HEN.out]; exact h1
        have heb := ends_bd (N := N) (xs := xs) xs.length j hjE
        have hjM : j < (moreS N xs xs.length).length := by rw [more_len, HEN.out]; exact h1
        have hmb := more_bd (N := N) (xs := xs) xs.length j hjM
        have hfl := from_lt hjE
        have hup : Hid (upTo_ N xs j = (ix (endsS N xs xs.length) j + ix (moreS N xs xs.length) j).toNat) := rfl
        have hfs : Hid (fromS N xs (j + 1) = (ix (endsS N xs xs.length) j).toNat) := rfl
        obtain ⟨be, oe, rfl, hbe, ce1⟩ := HIE.out.at_ hjE
        obtain ⟨bm, om, rfl, hbm, cm1⟩ := HIM.out.at_ hjM
        obtain ⟨v, hv⟩ : ∃ v : Nat, ix (endsS N xs xs.length) j = (v : Int) := ⟨_, (Int.toNat_of_nonneg (by omega)).symm⟩
        obtain ⟨m, hm⟩ : ∃ m : Nat, ix (moreS N xs xs.length) j = (m : Int) := ⟨_, (Int.toNat_of_nonneg (by omega)).symm⟩
        rw [hv] at ce1 heb hfl
        rw [hm] at cm1 hmb
        have HUP : Hid (upTo_ N xs j = v + m) := by show _ = _; rw [hup.out, hv, hm]; omega
        have HFS : Hid (fromS N xs (j + 1) = v) := by show _ = _; rw [hfs.out, hv]; rfl
        clear hup hfs hv hm
        have e1 := cell_of_ans HBW.out ce1
        have m1 := cell_of_ans HBW.out cm1
        have p1 := cell_of_ans HBW.out b1
        have p3 := cell_of_ans HBW.out b3
        have hwa : IntKind.i64.wrap ((v : Int) + (m : Int)) = (v : Int) + (m : Int) := IntWalk.i64_in _ (by omega)
        by_cases h2 : xs.length < v + m
        · have x1 : decide ((v : Int) + (m : Int) > (xs.length : Int)) = true := decide_eq_true (by omega)
          have x1' : decide ((xs.length : Int) < (v : Int) + (m : Int)) = true := decide_eq_true (by omega)
          go_wp2
          go_quiet (fail)
          go_wp2
          try rw [Exit.noGoto_ret]
          have HQ : Hid (Below W.heap.size W (wr.drewN nq)) := Lib.hid (below_drewN HBW.out nq)
          have HOQ : Hid (OwnN W.heap.size (wr.drewN nq) (.slice Ao j co) (outL N xs j)) := Lib.hid (HO.out.kept (below_drewN (Below.refl _ _) nq))
          clear HO HBW e1 m1 p1 p3
          generalize wr.drewN nq = wq at *
          have hDW := (Array.getElem?_eq_some_iff.1 HKD.out).1
          refine ⟨by simp, .inl ⟨_, _, rfl, run_takeDeferred (w := wq) ((HQ.out.block D hDW).trans HKD.out), ?_⟩⟩
          have HOZ := HOQ.out.chz (Chz.of_put (s := w.heap.size) (z := W.heap.size) (l := D) ⟨by omega, hDW⟩ (.deferred none))
          obtain ⟨-, ho1, ho2, ho3⟩ := ints_parts HOZ.isInts
          refine ⟨.slice Ao j co, by simp [results, Try.results47, go_sem], outL N xs j, Ao, co, by rw [HOL.out], ?_, ⟨ho1, ho2⟩, (by rw [HOL.out]; exact HOZ.low (by omega)), ?_⟩
          rotate_left 1
          · have hb1 : Below w.heap.size w W := below_ks HB3.out HKS.out (fun k hk => by omega)
            exact (hb1.trans (HQ.out.mono hb1.size)).trans ⟨rfl, rfl, rfl, by simp, fun k hk => World.putObj_heap_other (by omega)⟩
          · exact ⟨j, by rw [HEN.out]; exact hj, rfl, .inr (by rw [HUP.out]; exact h2)⟩
        · have x1 : decide ((v : Int) + (m : Int) > (xs.length : Int)) = false := decide_eq_false (by omega)
          have x1' : decide ((xs.length : Int) < (v : Int) + (m : Int)) = false := decide_eq_false (by omega)
          go_wp2
          go_quiet (fail)
          go_wp2
          have HQ : Hid (Below W.heap.size W (wr.drewN nq)) := Lib.hid (below_drewN HBW.out nq)
          have HOQ : Hid (OwnN W.heap.size (wr.drewN nq) (.slice Ao j co) (outL N xs j)) := Lib.hid (HO.out.kept (below_drewN (Below.refl _ _) nq))
          clear HO HBW e1 m1 p1 p3
          generalize wr.drewN nq = wq at *
          obtain ⟨b, off, rfl, hbb, -⟩ := HIC.out.at_ (k := 0) (by omega)
          obtain ⟨f, hf⟩ : ∃ f, f = fromS N xs j := ⟨_, rfl⟩
          rw [← hf] at hfl ⊢
          have HF := Lib.hid hf
          clear hf
          have m1 := cell_of_ans HQ.out cm1
          have p1 := cell_of_ans HQ.out b1
          have p3 := cell_of_ans HQ.out b3
          have hyl : ((xs.take (v + m)).drop f).length = v + m - f := by simp; omega
          have hyi : Ints W.heap.size W (some ⟨b, off + f, none⟩) ((xs.take (v + m)).drop f) := (HIC.out.part (v + m)).drop f
          have hyb : ∀ i, i ≤ ((xs.take (v + m)).drop f).length → -1000000000 ≤ (((xs.take (v + m)).drop f).take i).sum ∧ (((xs.take (v + m)).drop f).take i).sum ≤ 1000000000 := fun i _ => part_bd hs _ _ _
          obtain ⟨y, hy⟩ : ∃ y, y = partS N xs j := ⟨_, rfl⟩
          have hyy : y = ((xs.take (v + m)).drop f).sum := by rw [hy]; unfold partS; rw [HUP.out, HF.out]
          have HSUM : Hid (∀ W', Below W.heap.size W W' → Calls Try.prog 103 #[.slice (some ⟨b, off + f, none⟩) (v + m - f) (cc - f)] W' (Same W' (.int .i64 y))) := fun W' hW => by
            have := sum_c (B := W.heap.size) (some ⟨b, off + f, none⟩) (cc - f) _ W' (hyi.below hW) (by rw [hyl]; omega) hyb
            rw [hyl, ← hyy] at this
            exact this
          have hyd := slice_bd hs (v + m) f
          rw [← hyy] at hyd
          have HYD := Lib.hid hyd
          have HY := Lib.hid hy
          clear hyl hyi hyb hyy hy hyd
          have hfu : f ≤ v + m := by omega
          have hfui : (f : Int) ≤ (v : Int) + (m : Int) := by omega
          have hucc : v + m ≤ cc := by omega
          have hucci : (v : Int) + (m : Int) ≤ (cc : Int) := by omega
          have hncc : ¬ cc = f := by omega
          have hvm : (((v + m : Nat)) : Int) = (v : Int) + (m : Int) := by omega
          have hS0 := HQ.out
          refine wp_region_noPanic ?_
          have hS : (fun W' : World => Below wq.heap.size wq W') wq.drew := (Below.refl _ _).drew
          refine wp_region_any (by kernel_rfl) (wpAny_of_T (S := fun W' : World => Below wq.heap.size wq W') (m := 11) _ _ _ _ ?_)
          refine' T_take (i := 0) (v := _) rfl (by kernel_rfl) (by kernel_rfl) (by kernel_rfl) (by kernel_rfl) (fun _ _ _ h => h) (by kernel_rfl) hS ?_ ?_
          rotate_left 1
          · intro Wv hW
            have m1 := cell_of_ans hW m1
            have p1 := cell_of_ans hW p1
            have p3 := cell_of_ans hW p3
            go_simp
            first | done | with_reducible rfl | omega
          try simp only [Act.put, List.setIfInBounds_toArray, List.set_cons_zero, List.set_cons_succ]
          refine' T_take (i := 1) (v := _) rfl (by kernel_rfl) (by kernel_rfl) (by kernel_rfl) (by kernel_rfl) (fun _ _ _ h => h) (by kernel_rfl) hS ?_ ?_
          rotate_left 1
          · intro Wv hW
            have m1 := cell_of_ans hW m1
            have p1 := cell_of_ans hW p1
            have p3 := cell_of_ans hW p3
            go_simp
            first | done | with_reducible rfl | omega
          try simp only [Act.put, List.setIfInBounds_toArray, List.set_cons_zero, List.set_cons_succ]
          refine' T_take (i := 2) (v := _) rfl (by kernel_rfl) (by kernel_rfl) (by kernel_rfl) (by kernel_rfl) (fun _ _ _ h => h) (by kernel_rfl) hS ?_ ?_
          rotate_left 1
          · intro Wv hW
            have m1 := cell_of_ans hW m1
            have p1 := cell_of_ans hW p1
            have p3 := cell_of_ans hW p3
            go_simp
            first | done | with_reducible rfl | omega
          try simp only [Act.put, List.setIfInBounds_toArray, List.set_cons_zero, List.set_cons_succ]
          refine' T_take (i := 3) (v := _) rfl (by kernel_rfl) (by kernel_rfl) (by kernel_rfl) (by kernel_rfl) (fun _ _ _ h => h) (by kernel_rfl) hS ?_ ?_
          rotate_left 1
          · intro Wv hW
            have m1 := cell_of_ans hW m1
            have p1 := cell_of_ans hW p1
            have p3 := cell_of_ans hW p3
            go_simp
            first | done | with_reducible rfl | omega
          try simp only [Act.put, List.setIfInBounds_toArray, List.set_cons_zero, List.set_cons_succ]
          refine' T_take (i := 4) (v := _) rfl (by kernel_rfl) (by kernel_rfl) (by kernel_rfl) (by kernel_rfl) (fun _ _ _ h => h) (by kernel_rfl) hS ?_ ?_
          rotate_left 1
          · intro Wv hW
            have m1 := cell_of_ans hW m1
            have p1 := cell_of_ans hW p1
            have p3 := cell_of_ans hW p3
            go_simp
            first | done | with_reducible rfl | omega
          try simp only [Act.put, List.setIfInBounds_toArray, List.set_cons_zero, List.set_cons_succ]
          refine' T_take (i := 5) (v := _) rfl (by kernel_rfl) (by kernel_rfl) (by kernel_rfl) (by kernel_rfl) (fun _ _ _ h => h) (by kernel_rfl) hS ?_ ?_
          rotate_left 1
          · intro Wv hW
            have m1 := cell_of_ans hW m1
            have p1 := cell_of_ans hW p1
            have p3 := cell_of_ans hW p3
            go_simp
            first | done | with_reducible rfl | omega
          try simp only [Act.put, List.setIfInBounds_toArray, List.set_cons_zero, List.set_cons_succ]
          refine' T_take (i := 6) (v := _) rfl (by kernel_rfl) (by kernel_rfl) (by kernel_rfl) (by kernel_rfl) (fun _ _ _ h => h) (by kernel_rfl) hS ?_ ?_
          rotate_left 1
          · intro Wv hW
            have m1 := cell_of_ans hW m1
            have p1 := cell_of_ans hW p1
            have p3 := cell_of_ans hW p3
            go_simp
            first | done | with_reducible rfl | omega
          try simp only [Act.put, List.setIfInBounds_toArray, List.set_cons_zero, List.set_cons_succ]
          refine' T_take (i := 7) (v := _) rfl (by kernel_rfl) (by kernel_rfl) (by kernel_rfl) (by kernel_rfl) (fun _ _ _ h => h) (by kernel_rfl) hS ?_ ?_
          rotate_left 1
          · intro Wv hW
            have m1 := cell_of_ans hW m1
            have p1 := cell_of_ans hW p1
            have p3 := cell_of_ans hW p3
            go_simp
            first | done | with_reducible rfl | omega
          try simp only [Act.put, List.setIfInBounds_toArray, List.set_cons_zero, List.set_cons_succ]
          refine' T_take (i := 8) (v := _) rfl (by kernel_rfl) (by kernel_rfl) (by kernel_rfl) (by kernel_rfl) (fun _ _ _ h => h) (by kernel_rfl) hS ?_ ?_
          rotate_left 1
          · intro Wv hW
            have m1 := cell_of_ans hW m1
            have p1 := cell_of_ans hW p1
            have p3 := cell_of_ans hW p3
            go_simp
            first | done | with_reducible rfl | omega
          try simp only [Act.put, List.setIfInBounds_toArray, List.set_cons_zero, List.set_cons_succ]
          refine T_ready (rs := [9]) (by kernel_rfl) (by simp) ?_
          refine TReady.cons rfl (fun K hK => ?_) TReady.nil
          try go_simp
          refine (HSUM.out _ (HQ.out.trans (hS.mono HQ.out.size))).mono ?_
          rintro e v9 ⟨rfl, rfl⟩
          try go_simp
          refine hK.out _ _ (fun _ => hS) (fun _ => ?_)
          clear hK K
          try simp only [Act.put, List.setIfInBounds_toArray, List.set_cons_zero, List.set_cons_succ]
          refine' T_take (i := 10) (v := _) rfl (by kernel_rfl) (by kernel_rfl) (by kernel_rfl) (by kernel_rfl) (fun _ _ _ h => h) (by kernel_rfl) hS ?_ ?_
          rotate_left 1
          · intro Wv hW
            have m1 := cell_of_ans hW m1
            have p1 := cell_of_ans hW p1
            have p3 := cell_of_ans hW p3
            go_simp
            first | done | with_reducible rfl | omega
          try simp only [Act.put, List.setIfInBounds_toArray, List.set_cons_zero, List.set_cons_succ]
          refine T_done (by kernel_rfl) ?_ _
          refine NoPanic.normal ?_
          try go_simp
          have HQD : Hid (Below W.heap.size W wq.drew) := HQ.out.trans (Below.mono hS HQ.out.size)
          have HOD : Hid (OwnN W.heap.size wq.drew (.slice Ao j co) (outL N xs j)) := HOQ.out.kept hS
          clear hS hS0 HQ HOQ HSUM m1 p1 p3
          generalize wq.drew = wd at *
          have HON : Hid (outL N xs (j + 1) = outL N xs j ++ [partS N xs j + (if j = 0 then 0 else ix (outL N xs j) (j - 1))]) := rfl
          by_cases hj0 : j = 0
          · have x2 : decide ((j : Int) > 0) = false := decide_eq_false (by omega)
            have x2' : decide (0 < (j : Int)) = false := decide_eq_false (by omega)
            have x2n : ¬ 0 < j := by omega
            have x2i : ¬ (0 : Int) < (j : Int) := by omega
            have HLN : Hid (outL N xs (j + 1) = outL N xs j ++ [y]) := by show _ = _; rw [HON.out, if_pos hj0, HY.out, Int.add_zero]
            clear hj0
            go_wp2_with (at_builtin; refine wpList_appN (.tmp 129) (.tmp 131) rfl rfl W.heap.size _ (.slice Ao j co) (outL N xs j) j (y) rfl rfl rfl HOD HOL (by omega) HQD.out.size ?_; intro A9 c9 wz HO9 HB9)
            go_roundw
            case rel => exact ⟨j + 1, by omega, by go_num, by rw [HFS.out], by rw [HLN.out]; exact HO9.out, HQD.out.trans (HB9.out)⟩
            case measure => simp [intOf]; omega
          · have x2 : decide ((j : Int) > 0) = true := decide_eq_true (by omega)
            have x2' : decide (0 < (j : Int)) = true := decide_eq_true (by omega)
            have x2n : 0 < j := by omega
            have x2i : (0 : Int) < (j : Int) := by omega
            obtain ⟨i, hi⟩ : ∃ i, i = j - 1 := ⟨_, rfl⟩
            obtain ⟨p, hp⟩ : ∃ p, p = ix (outL N xs j) i := ⟨_, rfl⟩
            have hpb := outL_bd hs j i (by omega)
            rw [← hp] at hpb
            have HPB : Hid (0 ≤ p ∧ p ≤ 100000) := ⟨hpb.1, by have := hpb.2; omega⟩
            have HYB : Hid (0 ≤ y ∧ y ≤ 100000) := ⟨HYD.out.1, by have := HYD.out.2; omega⟩
            have HLN : Hid (outL N xs (j + 1) = outL N xs j ++ [y + p]) := by show _ = _; rw [HON.out, if_neg hj0, HY.out, hp, hi]
            obtain ⟨-, -, -, hoi⟩ := ints_parts HOD.out.isInts
            obtain ⟨ga, oa, rfl, hga, ca⟩ := hoi.at_ (k := i) (by rw [HOL.out]; omega)
            rw [← hp] at ca
            have hwi : IntKind.i64.wrap ((j : Int) - 1) = (i : Int) := by rw [IntWalk.i64_in _ (by omega)]; omega
            have hij : (i : Int) < (j : Int) := by omega
            have hij2 : i < j := by omega
            have HI := Lib.hid hi
            clear hi hp hpb hoi
            have HOD3 := Lib.hid (HOD.out.kept ((Below.refl _ _).alloc (Nat.le_refl _) (.cells #[.int .i64 y, .int .i64 p] 3)))
            have HQD3 := Lib.hid (HQD.out.trans ((Below.refl _ _).alloc HQD.out.size (.cells #[.int .i64 y, .int .i64 p] 3)))
            go_wp2_with (first | (go_at_call 103; refine (sum2_c _ _ _ _ _ (by simp) (by simp) HYB.out HPB.out).mono ?_; rintro e w9 ⟨rfl, rfl⟩) | (at_builtin; refine wpList_appN (.tmp 129) (.tmp 131) rfl rfl W.heap.size _ _ (outL N xs j) j (y + p) rfl rfl (by simp) HOD3 HOL (by omega) HQD3.out.size ?_; intro A9 c9 wz HO9 HB9))
            go_roundw
            case rel => exact ⟨j + 1, by omega, by go_num, by rw [HFS.out], by rw [HLN.out]; exact HO9.out, HQD3.out.trans (HB9.out)⟩
            case measure => simp [intOf]; omega
      · have h1i : ¬ (j : Int) < (E : Int) := by omega
        have x3 : decide ((j : Int) < (E : Int)) = false := decide_eq_false h1i
        go_wp2
        try rw [Exit.noGoto_ret]
        have hDW := (Array.getElem?_eq_some_iff.1 HKD.out).1
        refine ⟨by simp, .inl ⟨_, _, rfl, run_takeDeferred (w := wr) ((HBW.out.block D hDW).trans HKD.out), ?_⟩⟩
        have HOZ := HO.out.chz (Chz.of_put (s := w.heap.size) (z := W.heap.size) (l := D) ⟨by omega, hDW⟩ (.deferred none))
        obtain ⟨-, ho1, ho2, ho3⟩ := ints_parts HOZ.isInts
        refine ⟨.slice Ao j co, by simp [results, Try.results47, go_sem], outL N xs j, Ao, co, by rw [HOL.out], ?_, ⟨ho1, ho2⟩, (by rw [HOL.out]; exact HOZ.low (by omega)), ?_⟩
        rotate_left 1
        · have hb1 : Below w.heap.size w W := below_ks HB3.out HKS.out (fun k hk => by omega)
          exact (hb1.trans (HBW.out.mono hb1.size)).trans ⟨rfl, rfl, rfl, by simp, fun k hk => World.putObj_heap_other (by omega)⟩
        · exact ⟨j, by rw [HEN.out]; exact hj, rfl, .inl (by rw [HEN.out]; omega)⟩
end Go.Proofs.Ytenpiinkbfancaa
