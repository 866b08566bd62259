/-
  frame: Read.
-/
import Derived.Test.YtenpiinkbfancaaFl
namespace Go.Proofs.Ytenpiinkbfancaa
open Go.RowKit
set_option linter.unusedSimpArgs false
set_option linter.unusedVariables false

attribute [local go_sem] Oper.semAt_some
/-- A box that holds a game. -/
def GmAt (W : World) (b : Nat) (u v : Value) (st : Int) (d : Bool) : Prop := W.heap[b]? = some (.cells #[u, v, .int .i64 st, .bool d] 47)
section
variable {W W' : World} {b : Nat} {u v : Value} {st : Int} {d : Bool}
theorem GmAt.lt (h : GmAt W b u v st d) : b < W.heap.size := (Array.getElem?_eq_some_iff.1 h).1
theorem GmAt.cells (h : GmAt W b u v st d) : (W.cell? ⟨b, 0, none⟩ = some u ∧ W.cell? ⟨b, 1, none⟩ = some v ∧ W.cell? ⟨b, 2, none⟩ = some (.int .i64 st) ∧ W.cell? ⟨b, 3, none⟩ = some (.bool d)) ∧ ∀ o, W.frozen? ⟨b, o, none⟩ = false := by
  unfold GmAt at h
  simp [World.cell?, World.frozen?, h]
theorem GmAt.step (h : GmAt W b u v st d) (hb : Below W.heap.size W W') : GmAt W' b u v st d := (hb.block b h.lt).trans h
theorem GmAt.far (h : GmAt W b u v st d) {ad : Addr} (hp : b ≠ ad.block) (x : Value) : GmAt (W.setCell ad x) b u v st d := (Below.heap_setCell W ad x b hp).trans h
theorem GmAt.grown {row : Option Nat} (h : GmAt W b u v st d) (hg : W.grownBy W' row) (hne : row ≠ some b) : GmAt W' b u v st d := (hg.block b h.lt (fun e => hne e.symm)).trans h
theorem GmAt.setF (h : GmAt W b u v st d) (x : Value) : GmAt (W.setCell ⟨b, 0, none⟩ x) b x v st d := by
  unfold GmAt at h ⊢
  simp [World.setCell, Array.getElem?_modify, h]
theorem GmAt.setS (h : GmAt W b u v st d) (x : Int) : GmAt (W.setCell ⟨b, 2, none⟩ (.int .i64 x)) b u v x d := by
  unfold GmAt at h ⊢
  simp [World.setCell, Array.getElem?_modify, h]
theorem GmAt.setD (h : GmAt W b u v st d) (x : Bool) : GmAt (W.setCell ⟨b, 3, none⟩ (.bool x)) b u v st x := by
  unfold GmAt at h ⊢
  simp [World.setCell, Array.getElem?_modify, h]
end
/-- What holds behind k rounds: the rows, in the box g. -/
def RdR (N : Int) (xs : List Int) (g : Nat) (cv : Value) (z k : Nat) (w5 W : World) : Prop := ∃ u vs, RowsN z W u vs (rowsS N xs k) ∧ GmAt W g u cv 0 false ∧ KS (fun j => j = g) w5.heap.size w5 W
theorem GmAt.put {W : World} {b : Nat} {u v : Value} {st : Int} {d : Bool} (h : GmAt W b u v st d) {l : Nat} (hl : l ≠ b) (o : Obj) : GmAt (W.putObj l o) b u v st d := (World.putObj_heap_other (Ne.symm hl)).trans h
theorem GmAt.set4 {W : World} {b : Nat} {u v : Value} {st : Int} {d : Bool} (h : GmAt W b u v st d) (u' v' : Value) (st' : Int) (d' : Bool) : GmAt ((((W.setCell ⟨b, 0, none⟩ u').setCell ⟨b, 1, none⟩ v').setCell ⟨b, 2, none⟩ (.int .i64 st')).setCell ⟨b, 3, none⟩ (.bool d')) b u' v' st' d' := by
  unfold GmAt at h ⊢
  simp [World.setCell, Array.getElem?_modify, h]
theorem KS.wk {S S' : Nat → Prop} {s : Nat} {A B : World} (h : KS S s A B) (hS : ∀ j, S j → S' j) : KS S' s A B := ⟨h.1, h.2.1, h.2.2.1, h.2.2.2.1, fun i o h0 h1 h2 => h.2.2.2.2 i o h0 h1 (fun e => h2 (hS _ e))⟩
theorem KS.of_put {S : Nat → Prop} {s : Nat} {A : World} {l : Nat} (h : s ≤ l ∨ S l) (o : Obj) : KS S s A (A.putObj l o) :=
  ⟨by simp, rfl, rfl, rfl, fun i _ h0 h1 h2 => (World.putObj_heap_other (by
    rintro rfl
    rcases h with h | h
    · omega
    · exact h2 h)).trans h0⟩
theorem OwnN.ks {S : Nat → Prop} {base base' s : Nat} {A B : World} {u : Value} {ys : List Int} (h : OwnN base A u ys) (hb : base' ≤ base) (hk : KS S s A B) (hj : ∀ j, u.ownBlock = some j → j < s ∧ ¬ S j) : OwnN base' B u ys := by
  refine OwnN.low (base := base) ?_ hb
  refine ⟨h.1, ?_⟩
  rcases h.2 with h2 | ⟨g, cap, cur, e, hb, hg, hr⟩
  · exact .inl h2
  · have := hj g (by rw [e]; rfl)
    exact .inr ⟨g, cap, cur, e, hb, hk.2.2.2.2 g _ hg this.1 this.2, hr⟩
theorem cell_grown {W W' : World} {row : Option Nat} {p : Addr} {v : Value} (h : W.cell? p = some v) (hg : W.grownBy W' row) (hne : row ≠ some p.block) : W'.cell? p = some v := by
  unfold World.cell? at h ⊢
  by_cases hp : p.block < W.heap.size
  · rw [hg.block _ hp (fun e => hne e.symm)]
    exact h
  · simp [Array.getElem?_eq_none (by omega : W.heap.size ≤ p.block)] at h
theorem RowsN.held {base : Nat} {w w' : World} {g m c f : Nat} {vs : List Value} {R : List (List Int)} (h : RowsN base w (.slice (some ⟨g, 0, none⟩) m c) vs R) (hf : f < R.length) (hg : w.grownBy w' (vx vs f).ownBlock) :
    w'.cell? ⟨g, f, none⟩ = some (vx vs f) ∧ w'.frozen? ⟨g, f, none⟩ = false := by
  have hl := h.len
  obtain ⟨A, c', e⟩ := ownsRow_form h.own
  injection e with e1 e2 e3
  subst e2
  have h1 : w'.ownsRow base 42 1 (.slice (some ⟨g, 0, none⟩) vs.length c) vs.length vs := World.ownsRow.kept h.own hg (dis_row (h.out f hf))
  refine ⟨?_, World.ownsRow.frozenAt h1 f⟩
  rw [World.ownsRow.cellAt h1 f (by omega)]
  unfold vx
  simp [List.getD, show f < vs.length by omega]
/-- What region 9 of Read reads. -/
def S9 (g0 tb ga f : Nat) (su sv : Value) (y : Int) (W : World) : Prop :=
  W.cell? ⟨g0, 0, none⟩ = some su ∧ W.cell? ⟨tb, 0, none⟩ = some (.int .i64 y) ∧ W.cell? ⟨tb, 1, none⟩ = some (.int .i64 (f : Int)) ∧ W.cell? ⟨ga, f, none⟩ = some sv
theorem S9.step {g0 tb ga f : Nat} {su sv : Value} {y : Int} {W W' : World} (h : S9 g0 tb ga f su sv y W) (hb : Below W.heap.size W W') : S9 g0 tb ga f su sv y W' :=
  ⟨cell_of_ans hb h.1, cell_of_ans hb h.2.1, cell_of_ans hb h.2.2.1, cell_of_ans hb h.2.2.2⟩
theorem S9.grown {g0 tb ga f : Nat} {su sv : Value} {y : Int} {W W' : World} {row : Option Nat} (h : S9 g0 tb ga f su sv y W) (hg : W.grownBy W' row) (h0 : row ≠ some g0) (h1 : row ≠ some tb) (h2 : row ≠ some ga) : S9 g0 tb ga f su sv y W' :=
  ⟨cell_grown h.1 hg h0, cell_grown h.2.1 hg h1, cell_grown h.2.2.1 hg h1, cell_grown h.2.2.2 hg h2⟩
theorem add_old {R : List (List Int)} {f : Nat} {y : Int} (h : R.length = f + 1) : addR (f : Int) R y = R.set f (rx R f ++ [y]) := by
  unfold addR
  rw [if_neg (by omega)]
  simp
theorem add_new {R : List (List Int)} {f : Nat} {y : Int} (h : R.length = f) : addR (f : Int) R y = (R ++ [[]]).set f (rx (R ++ [[]]) f ++ [y]) := by
  subst h
  unfold addR
  rw [if_pos rfl, rx_last']
  simp
/-- What Read returns. -/
def ReadP (N : Int) (xs : List Int) (w : World) (e : Ending) (w' : World) : Prop :=
  ∃ Af cf zs Az cz st, e = .returned (.tuple #[.agg #[.slice Af (rowsS N xs xs.length).length cf, .slice Az zs.length cz, .int .i64 st, .bool ((plS N xs xs.length).fr == N)], .int .i64 0]) ∧
    IsGrd w'.heap.size w' (.slice Af (rowsS N xs xs.length).length cf) (rowsS N xs xs.length) ∧ CntP N xs zs ∧ (zs.length ≤ cz ∧ cz ≤ 9223372036854775807) ∧ OwnN w.heap.size w' (.slice Az zs.length cz) zs ∧
    ((plS N xs xs.length).fr < N → st = (plS N xs xs.length).st) ∧ Below w.heap.size w w'
set_option maxRecDepth 100000 in
set_option maxHeartbeats 16000000 in
theorem read_c (N : Int) (A : Option Addr) (c : Nat) (xs : List Int) (w : World) (hs : SheetOk N xs) (hx : Ints w.heap.size w A xs) :
    Calls Try.prog 14 #[lawV N, .slice A xs.length c] w (ReadP N xs w) := by
  have hN0 := hs.n0
  have hN1 := hs.n1
  have HX := Lib.hid hx
  clear hx
  have HCK := Lib.hid (fun (W : World) (h : Below w.heap.size w W) => check_c N A c xs W hs ((HX.out.below h).more h.size))
  have HCT := Lib.hid (fun (W : World) (h : Below w.heap.size w W) => counts_c N A c xs W hs ((HX.out.below h).more h.size))
  have HBL := Lib.hid (fun (W : World) (h : Below w.heap.size w W) => balls_c N A c w.heap.size xs W (HX.out.below h) h.size)
  have HBH := Lib.hid (fun (W : World) (h : Below w.heap.size w W) => behind_c N A c xs W hs ((HX.out.below h).more h.size))
  unfold lawV at *
  refine calls_marks Try.func14 rfl ?_
  simp only [Try.ntmps14, List.size_toArray, List.length_cons, List.length_nil, Nat.reduceAdd, Nat.reduceSub, Array.replicate_succ, Array.replicate_zero, List.push_toArray, List.append_toArray, List.nil_append, List.cons_append]
  go_wp2_with fail
  obtain ⟨w1, hw1⟩ : ∃ w1, w1 = (w.alloc (.cells #[.int .i64 N, .int .i64 10, .int .i64 2, .int .i64 10] 50)).alloc (.cells #[.slice none 0 0, .slice none 0 0, .int .i64 0, .bool false] 47) := ⟨_, rfl⟩
  rw [← hw1]
  have HB := Lib.hid (show Below w.heap.size w w1 by rw [hw1]; exact below_two _ _)
  have hz1 : w1.heap.size = w.heap.size + 2 := by rw [hw1]; simp
  have l0 : w1.cell? ⟨w.heap.size, 0, none⟩ = some (.int .i64 N) := by rw [hw1]; go_simp
  have l1 : w1.cell? ⟨w.heap.size, 1, none⟩ = some (.int .i64 10) := by rw [hw1]; go_simp
  have l2 : w1.cell? ⟨w.heap.size, 2, none⟩ = some (.int .i64 2) := by rw [hw1]; go_simp
  have l3 : w1.cell? ⟨w.heap.size, 3, none⟩ = some (.int .i64 10) := by rw [hw1]; go_simp
  have HT : Hid (GmAt w1 (w.heap.size + 1) (.slice none 0 0) (.slice none 0 0) 0 false) := by
    have := World.alloc_heap_new (w.alloc (.cells #[.int .i64 N, .int .i64 10, .int .i64 2, .int .i64 10] 50)) (.cells #[.slice none 0 0, .slice none 0 0, .int .i64 0, .bool false] 47)
    rw [World.size_alloc] at this
    rw [hw1]
    exact this
  clear hw1
  refine (HCK.out _ HB.out).mono ?_
  rintro e w2 ⟨rfl, hb⟩
  replace HB := Lib.hid (HB.out.trans (hb.mono HB.out.size))
  replace HT := Lib.hid (HT.out.step hb)
  replace l0 := cell_of_ans hb l0
  replace l1 := cell_of_ans hb l1
  replace l2 := cell_of_ans hb l2
  replace l3 := cell_of_ans hb l3
  have hz2 : w.heap.size + 2 ≤ w2.heap.size := by have := hb.size; omega
  clear hb HCK hz1
  go_wp2_with fail
  refine (HCT.out _ HB.out).mono ?_
  rintro e w3 ⟨zs, Az, cz, rfl, hzs, hzc, hzi, hb⟩
  have HZS := Lib.hid hzs
  have HZC := Lib.hid hzc
  have HZI := Lib.hid hzi
  have HZG : Hid (∀ j, (Value.slice Az zs.length cz).ownBlock = some j → w2.heap.size ≤ j ∧ j ≠ w3.heap.size) := fun j e => by have := hzi.lt j e; omega
  replace HB := Lib.hid (HB.out.trans (hb.mono HB.out.size))
  replace HT := Lib.hid (HT.out.step hb)
  replace l0 := cell_of_ans hb l0
  replace l1 := cell_of_ans hb l1
  replace l2 := cell_of_ans hb l2
  replace l3 := cell_of_ans hb l3
  have hz22 := hz2
  replace hz2 := Nat.le_trans hz2 hb.size
  clear hb HCT hzs hzc hzi
  go_upto_region 5 with fail
  have HB4 : Hid (Below w3.heap.size w3 (w3.alloc (.cells #[.slice none 0 0, .slice Az zs.length cz, .int .i64 0, .bool false] 47))) := (Below.refl _ _).alloc (Nat.le_refl _) _
  have HG : Hid (GmAt (w3.alloc (.cells #[.slice none 0 0, .slice Az zs.length cz, .int .i64 0, .bool false] 47)) w3.heap.size (.slice none 0 0) (.slice Az zs.length cz) 0 false) := World.alloc_heap_new _ _
  have hz4 : (w3.alloc (.cells #[.slice none 0 0, .slice Az zs.length cz, .int .i64 0, .bool false] 47)).heap.size = w3.heap.size + 1 := by simp
  generalize w3.alloc (.cells #[.slice none 0 0, .slice Az zs.length cz, .int .i64 0, .bool false] 47) = w4 at *
  replace HB := Lib.hid (HB.out.trans (HB4.out.mono HB.out.size))
  replace HT := Lib.hid (HT.out.step HB4.out)
  replace l0 := cell_of_ans HB4.out l0
  replace l1 := cell_of_ans HB4.out l1
  replace l2 := cell_of_ans HB4.out l2
  replace l3 := cell_of_ans HB4.out l3
  replace HZI := Lib.hid (HZI.out.kept HB4.out)
  have HZ4 := Lib.hid hz4
  clear hz4 HB4
  go_wp2_with fail
  refine (HBL.out _ HB.out).mono ?_
  rintro e w5 ⟨rfl, hb, hz5, hS⟩
  rw [HZ4.out] at hz5 hS ⊢
  have HS := Lib.hid hS
  replace HB := Lib.hid (HB.out.trans (hb.mono HB.out.size))
  replace HT := Lib.hid (HT.out.step hb)
  replace HG := Lib.hid (HG.out.step hb)
  replace l0 := cell_of_ans hb l0
  replace l1 := cell_of_ans hb l1
  replace l2 := cell_of_ans hb l2
  replace l3 := cell_of_ans hb l3
  replace HZI := Lib.hid (HZI.out.kept hb)
  have hzg : ∀ j, (Value.slice Az zs.length cz).ownBlock = some j → w2.heap.size ≤ j ∧ j ≠ w3.heap.size := HZG.out
  clear hb hS HBL
  go_wp2_with fail
  refine wpIn_wide.1 (wpIn_rangeFunc_n (F := Fence.wide) (n := 5) (S := (fun j => j = w3.heap.size)) rfl (by omega) (gf := 104) (lb := #[.pointer (some ⟨w3.heap.size + 1, 0, none⟩), .pointer (some ⟨w3.heap.size + 1 + 1, 0, none⟩)]) rfl trivial (enters_of Try.func104 (by kernel_rfl) rfl)
    (balls1_in 4 (w3.heap.size + 1) w.heap.size N A c xs hs (fun j => j = w3.heap.size) w5 HS.out ⟨by omega, by omega, fun k hk => by omega⟩) (Below.refl _ _) (fun _ => rfl)
    (fun z k W => RdR N xs w3.heap.size (.slice Az zs.length cz) z k w5 W)
    (fun W hb => ⟨_, _, RowsN.nil _ _, HG.out.step hb, KS.of_below hb⟩)
    (fun k a' W1 W2 => ThAt W2 W1.heap.size N (ix xs k) (plS N xs k).fr (ix xs k) (plS N xs (k + 1)) ∧ a' = { tmps := #[.agg #[.int .i64 N, .int .i64 10, .int .i64 2, .int .i64 10], .slice A xs.length c, .pointer (some ⟨w.heap.size, 0, none⟩), undef, .pointer (some ⟨w.heap.size + 1, 0, none⟩), .int .i64 0, .int .i64 0, .pointer (some ⟨w3.heap.size, 0, none⟩), undef, .pointer (some ⟨W1.heap.size, 0, none⟩), undef, .agg #[.int .i64 N, .int .i64 10, .int .i64 2, .int .i64 10], .slice A xs.length c, .int .i64 0, .int .i64 0, .bool false, undef, undef, .agg #[.int .i64 N, .int .i64 10, .int .i64 2, .int .i64 10], .slice A xs.length c, .slice Az zs.length cz, .agg #[.slice none 0 0, .slice Az zs.length cz, .int .i64 0, .bool false], .agg #[.int .i64 N, .int .i64 10, .int .i64 2, .int .i64 10], .slice A xs.length c, .func (.func 104) #[] #[.pointer (some ⟨w3.heap.size + 1, 0, none⟩), .pointer (some ⟨w3.heap.size + 1 + 1, 0, none⟩)], .int .i64 (k : Int), thV N xs k, undef, undef, undef, undef, undef, undef, undef, undef, undef, undef, undef, undef, undef, undef, undef, undef, undef, undef, undef, undef, undef, undef, undef, undef, undef, undef, undef, undef, undef, undef, undef, undef, undef, undef, undef, undef, undef, undef, undef, undef], defers := [] })
    (fun k a' W1 A l o h1 h2 h => ⟨(World.putObj_heap_other (by omega)).trans h.1, h.2⟩) ?assign ?body ?done)
  case assign =>
    rintro l z k W0 W1 K hz' hzW hR hch hk hK
    simp only [bEnc] at hK ⊢
    unfold thV at hK
    unfold thV
    gi_wp2
    exact hK _ _ ((Below.refl _ _).alloc (Nat.le_refl _) _) ⟨ThAt.new _ _ _ _ _ _, rfl⟩
  case body =>
    rintro l z k a' W0 W1 W2 hz' hzW ⟨u, vs, hrw, hgm, hks⟩ hch hch2 hk ⟨hth, rfl⟩
    have hrw2 := hrw.chz (hch.trans hch2)
    have hgm2 : GmAt W2 w3.heap.size u (.slice Az zs.length cz) 0 false := (hch.trans hch2).block hgm (.inl (by omega))
    have hks2 := hks.trans (KS.of_chz (hch.trans hch2))
    have hWs : W0.heap.size ≤ W2.heap.size := (hch.trans hch2).1
    have htb0 : W0.heap.size ≤ W1.heap.size := hch.1
    have hok := plS_ok hs k (by omega)
    obtain ⟨mm1, mm2, mm3⟩ := hs.may k hk
    obtain ⟨f, hf⟩ : ∃ f : Nat, (plS N xs k).fr = (f : Int) := ⟨(plS N xs k).fr.toNat, by have := hok.f0; omega⟩
    have hrl := rows_len hs k (by omega)
    rw [hf] at hth hrl
    have hsu := rowsS_succ (N := N) hk
    rw [hf] at hsu
    have hrr := row_le hs k (by omega) f
    have hrlt := hrw.rows
    have hult := hrw.lt
    obtain ⟨Au, cu, rfl⟩ := hrw2.form
    have hxl := hs.len
    obtain ⟨y, hy⟩ : ∃ y, y = ix xs k := ⟨_, rfl⟩
    rw [← hy] at hth hsu
    obtain ⟨R, hR⟩ : ∃ R, R = rowsS N xs k := ⟨_, rfl⟩
    rw [← hR] at hrw2 hrl hsu hrr hrlt hgm2 hult
    have hfb : f ≤ 1000000 := by omega
    have HXS := Lib.hid hsu
    have HGM := Lib.hid hgm2
    have HTH := Lib.hid hth
    have HKS := Lib.hid hks2
    have HYX := Lib.hid hy
    have HRX := Lib.hid hR
    have HUL := Lib.hid hult
    have g0c := hgm2.cells.1.1
    have g0f := hgm2.cells.2
    have t1 := hth.cells.1.2.1
    clear hrw hgm hks hch hch2 hgm2 hks2 hth hok mm1 mm2 mm3 hsu hy hR hult
    dsimp only
    generalize W1.heap.size = tb at *
    have hzW2 : z ≤ W2.heap.size := Nat.le_trans hzW hWs
    have htz : z ≤ tb := Nat.le_trans hzW htb0
    have hfi : (f : Int) < (f : Int) + 1 := by omega
    rcases hrl with hrl | hrl
    · have hrl : R.length = f := by omega
      have x1 : ((f : Int) == (R.length : Int)) = true := by simp [hrl]
      rw [hrl] at x1 HGM HUL g0c
      have HRW := Lib.hid hrw2
      rw [hrl] at HRW
      have HML : Hid (R.length = f) := hrl
      clear hrlt hrw2
      gi_wp2_with (gi_at_builtin; refine wpListIn_appR (.tmp 34) (.tmp 35) rfl rfl z _ _ vs R f rfl rfl rfl HRW HML hfb hzW2 ?_; intro A1 c1 w8 HR1 HG1 HD1; have e0 := (HGM.out.grown HG1.out (fun e => by have := (HUL.out _ e).1; omega)).cells.1.1; have e0f := (HGM.out.grown HG1.out (fun e => by have := (HUL.out _ e).1; omega)).cells.2)
      have HGN := Lib.hid ((HGM.out.grown HG1.out (fun e => by have := (HUL.out _ e).1; omega)).setF (.slice A1 (f + 1) c1))
      have HTN := Lib.hid ((HTH.out.grown HG1.out (fun e => by have := (HUL.out _ e).2; omega)).far (ad := ⟨w3.heap.size, 0, none⟩) (by dsimp only; omega) (.slice A1 (f + 1) c1))
      have HR := Lib.hid (HR1.out.far (ad := ⟨w3.heap.size, 0, none⟩) (by dsimp only; omega) (.slice A1 (f + 1) c1))
      have HKZ : Hid (KZ (fun j => j = w3.heap.size) w5.heap.size z W0.heap.size W2 (w8.setCell ⟨w3.heap.size, 0, none⟩ (.slice A1 (f + 1) c1))) := (kz_own HG1.out HUL.out (by omega)).trans (KZ.of_set (S := fun j => j = w3.heap.size) (ad := ⟨w3.heap.size, 0, none⟩) ⟨by show w3.heap.size < w5.heap.size; omega, rfl⟩ (by show w3.heap.size < W0.heap.size; omega) _)
      clear HRW e0 e0f HGM HTH g0c g0f t1 x1
      have hzX : z ≤ (w8.setCell ⟨w3.heap.size, 0, none⟩ (.slice A1 (f + 1) c1)).heap.size := Nat.le_trans hzW2 HKZ.out.size
      generalize w8.setCell ⟨w3.heap.size, 0, none⟩ (.slice A1 (f + 1) c1) = WX at *
      obtain ⟨ga, rfl⟩ := HR.out.blk
      have HLG : Hid ((z ≤ ga ∧ ga < W0.heap.size) ∨ W2.heap.size ≤ ga) := by
        rcases HD1.out with e | ⟨j, e, hj⟩
        · exact .inl (HUL.out ga e.symm)
        · injection e with e
          subst e
          exact .inr hj
      have hlx : vx (vs ++ [.slice none 0 0]) f = .slice none 0 0 := by
        have : f = vs.length := by rw [← hrl]; have := HR.out.len; simp at this; omega
        rw [this]
        exact vx_last
      have HXS2 : Hid (rowsS N xs (k + 1) = (R ++ [[]]).set f (rx (R ++ [[]]) f ++ [y])) := by show _ = _; rw [HXS.out, add_new hrl]
      have hfR : f < (R ++ [([] : List Int)]).length := by simp [hrl]
      have hrx : rx (R ++ [([] : List Int)]) f = [] := by subst hrl; exact rx_last'
      have HM9 : Hid ((rx (R ++ [([] : List Int)]) f).length = 0) := by show _ = _; rw [hrx]; rfl
      have hm9 : (0 : Nat) ≤ 1000000 := by omega
      obtain ⟨m9, hm90⟩ : ∃ m9 : Nat, m9 = 0 := ⟨_, rfl⟩
      rw [← hm90] at HM9 hm9
      have HN9 : Hid ((vx (vs ++ [.slice none 0 0]) f).ownBlock ≠ some w3.heap.size ∧ (vx (vs ++ [.slice none 0 0]) f).ownBlock ≠ some tb ∧ (vx (vs ++ [.slice none 0 0]) f).ownBlock ≠ some ga) := by rw [hlx]; exact ⟨fun e => (by cases e), fun e => (by cases e), fun e => (by cases e)⟩
      have HLR : Hid (∀ j, (vx (vs ++ [.slice none 0 0]) f).ownBlock = some j → z ≤ j ∧ j < W0.heap.size) := by rw [hlx]; intro j e; cases e
      have HNG : Hid (w3.heap.size ≠ ga) := by show _ ≠ _; rcases HLG.out with e | e <;> omega
      clear hlx hrx hm90 HXS HML
      generalize vs ++ [.slice none 0 0] = vs2 at *
      generalize R ++ [([] : List Int)] = R2 at *
      have HS9 : Hid (S9 w3.heap.size tb ga f (.slice (some ⟨ga, 0, none⟩) (f + 1) c1) (vx vs2 f) y WX) := ⟨HGN.out.cells.1.1, HTN.out.cells.1.1, HTN.out.cells.1.2.1, (HR.out.cell hfR).1⟩
      have HXS := HXS2
      clear HXS2
      refine round_T (S9 w3.heap.size tb ga f (.slice (some ⟨ga, 0, none⟩) (f + 1) c1) (vx vs2 f) y) 14 (by kernel_rfl) (by kernel_rfl) (by rintro ⟨_, _, h⟩; exact h) (HS9.out.step (Below.refl _ _).drew) (fun hS => ?_)
      have HRD := Lib.hid (HR.out.kept ((Below.refl _ _).drew))
      have HGD := Lib.hid (HGN.out.step ((Below.refl _ _).drew))
      have HKD := Lib.hid (HKZ.out.trans (KZ.of_below ((Below.refl _ _).drew)))
      have hzd : z ≤ WX.drew.heap.size := hzX
      clear HR HGN HKZ HS9 hzX
      generalize WX.drew = wd at *
      have HS9D := Lib.hid hS
      refine' T_take (i := 0) (v := _) rfl (by kernel_rfl) (by kernel_rfl) (by kernel_rfl) (by kernel_rfl) (fun _ _ _ h => h) (by kernel_rfl) hS ?_ ?_
      rotate_left 1
      · intro Wv hW
        obtain ⟨s1, s2, s3, s4⟩ := hW
        go_simp
        first | done | with_reducible rfl | omega
      try simp only [Act.put, List.setIfInBounds_toArray, List.set_cons_zero, List.set_cons_succ]
      refine' T_take (i := 1) (v := _) rfl (by kernel_rfl) (by kernel_rfl) (by kernel_rfl) (by kernel_rfl) (fun _ _ _ h => h) (by kernel_rfl) hS ?_ ?_
      rotate_left 1
      · intro Wv hW
        obtain ⟨s1, s2, s3, s4⟩ := hW
        go_simp
        first | done | with_reducible rfl | omega
      try simp only [Act.put, List.setIfInBounds_toArray, List.set_cons_zero, List.set_cons_succ]
      refine' T_take (i := 2) (v := _) rfl (by kernel_rfl) (by kernel_rfl) (by kernel_rfl) (by kernel_rfl) (fun _ _ _ h => h) (by kernel_rfl) hS ?_ ?_
      rotate_left 1
      · intro Wv hW
        obtain ⟨s1, s2, s3, s4⟩ := hW
        go_simp
        first | done | with_reducible rfl | omega
      try simp only [Act.put, List.setIfInBounds_toArray, List.set_cons_zero, List.set_cons_succ]
      refine' T_take (i := 3) (v := _) rfl (by kernel_rfl) (by kernel_rfl) (by kernel_rfl) (by kernel_rfl) (fun _ _ _ h => h) (by kernel_rfl) hS ?_ ?_
      rotate_left 1
      · intro Wv hW
        obtain ⟨s1, s2, s3, s4⟩ := hW
        go_simp
        first | done | with_reducible rfl | omega
      try simp only [Act.put, List.setIfInBounds_toArray, List.set_cons_zero, List.set_cons_succ]
      refine' T_take (i := 4) (v := _) rfl (by kernel_rfl) (by kernel_rfl) (by kernel_rfl) (by kernel_rfl) (fun _ _ _ h => h) (by kernel_rfl) hS ?_ ?_
      rotate_left 1
      · intro Wv hW
        obtain ⟨s1, s2, s3, s4⟩ := hW
        go_simp
        first | done | with_reducible rfl | omega
      try simp only [Act.put, List.setIfInBounds_toArray, List.set_cons_zero, List.set_cons_succ]
      refine' T_take (i := 5) (v := _) rfl (by kernel_rfl) (by kernel_rfl) (by kernel_rfl) (by kernel_rfl) (fun _ _ _ h => h) (by kernel_rfl) hS ?_ ?_
      rotate_left 1
      · intro Wv hW
        obtain ⟨s1, s2, s3, s4⟩ := hW
        go_simp
        first | done | with_reducible rfl | omega
      try simp only [Act.put, List.setIfInBounds_toArray, List.set_cons_zero, List.set_cons_succ]
      refine' T_take (i := 6) (v := _) rfl (by kernel_rfl) (by kernel_rfl) (by kernel_rfl) (by kernel_rfl) (fun _ _ _ h => h) (by kernel_rfl) hS ?_ ?_
      rotate_left 1
      · intro Wv hW
        obtain ⟨s1, s2, s3, s4⟩ := hW
        go_simp
        first | done | with_reducible rfl | omega
      try simp only [Act.put, List.setIfInBounds_toArray, List.set_cons_zero, List.set_cons_succ]
      refine' T_take (i := 7) (v := _) rfl (by kernel_rfl) (by kernel_rfl) (by kernel_rfl) (by kernel_rfl) (fun _ _ _ h => h) (by kernel_rfl) hS ?_ ?_
      rotate_left 1
      · intro Wv hW
        obtain ⟨s1, s2, s3, s4⟩ := hW
        go_simp
        first | done | with_reducible rfl | omega
      try simp only [Act.put, List.setIfInBounds_toArray, List.set_cons_zero, List.set_cons_succ]
      refine' T_take (i := 8) (v := _) rfl (by kernel_rfl) (by kernel_rfl) (by kernel_rfl) (by kernel_rfl) (fun _ _ _ h => h) (by kernel_rfl) hS ?_ ?_
      rotate_left 1
      · intro Wv hW
        obtain ⟨s1, s2, s3, s4⟩ := hW
        go_simp
        first | done | with_reducible rfl | omega
      try simp only [Act.put, List.setIfInBounds_toArray, List.set_cons_zero, List.set_cons_succ]
      refine' T_take (i := 9) (v := _) rfl (by kernel_rfl) (by kernel_rfl) (by kernel_rfl) (by kernel_rfl) (fun _ _ _ h => h) (by kernel_rfl) hS ?_ ?_
      rotate_left 1
      · intro Wv hW
        obtain ⟨s1, s2, s3, s4⟩ := hW
        go_simp
        first | done | with_reducible rfl | omega
      try simp only [Act.put, List.setIfInBounds_toArray, List.set_cons_zero, List.set_cons_succ]
      refine' T_take (i := 10) (v := _) rfl (by kernel_rfl) (by kernel_rfl) (by kernel_rfl) (by kernel_rfl) (fun _ _ _ h => h) (by kernel_rfl) hS ?_ ?_
      rotate_left 1
      · intro Wv hW
        obtain ⟨s1, s2, s3, s4⟩ := hW
        go_simp
        first | done | with_reducible rfl | omega
      try simp only [Act.put, List.setIfInBounds_toArray, List.set_cons_zero, List.set_cons_succ]
      refine' T_take (i := 11) (v := _) rfl (by kernel_rfl) (by kernel_rfl) (by kernel_rfl) (by kernel_rfl) (fun _ _ _ h => h) (by kernel_rfl) hS ?_ ?_
      rotate_left 1
      · intro Wv hW
        obtain ⟨s1, s2, s3, s4⟩ := hW
        go_simp
        first | done | with_reducible rfl | omega
      try simp only [Act.put, List.setIfInBounds_toArray, List.set_cons_zero, List.set_cons_succ]
      refine T_ready (rs := [12]) (by kernel_rfl) (by simp) ?_
      refine TReady.cons rfl (fun K hK => ?_) TReady.nil
      try go_simp
      refine hK.out _ _ (fun _ => hS.step ((Below.refl _ _).alloc (Nat.le_refl _) _)) (fun hS2 => ?_)
      replace hS := hS2 (by decide)
      clear hS2 hK K
      try simp only [Act.put, List.setIfInBounds_toArray, List.set_cons_zero, List.set_cons_succ]
      refine T_ready (rs := [13]) (by kernel_rfl) (by simp) ?_
      refine TReady.cons rfl (fun K hK => ?_) TReady.nil
      refine step_appN (.tmp 47) (.tmp 50) rfl rfl z wd (vx vs2 f) (rx R2 f) m9 y rfl rfl rfl (Lib.hid (HRD.out.rows f hfR)) HM9 hm9 hzd ?_
      intro A9 c9 w9 HO9 HG9 HD9
      have hS9 := S9.grown (W := wd) HS9D.out HG9.out HN9.out.1 HN9.out.2.1 HN9.out.2.2
      refine hK.out _ _ (fun _ => hS9) (fun hS2 => ?_)
      replace hS := hS9
      clear hS2 hK K hS9
      try simp only [Act.put, List.setIfInBounds_toArray, List.set_cons_zero, List.set_cons_succ]
      refine' T_take (i := 14) (v := _) rfl (by kernel_rfl) (by kernel_rfl) (by kernel_rfl) (by kernel_rfl) (fun _ _ _ h => h) (by kernel_rfl) hS ?_ ?_
      rotate_left 1
      · intro Wv hW
        obtain ⟨s1, s2, s3, s4⟩ := hW
        go_simp
        first | done | with_reducible rfl | omega
      try simp only [Act.put, List.setIfInBounds_toArray, List.set_cons_zero, List.set_cons_succ]
      refine T_ready (rs := [15]) (by kernel_rfl) (by simp) ?_
      refine TReady.cons rfl (fun K hK => ?_) TReady.nil
      have gz := HRD.out.held hfR HG9.out
      have gz1 := gz.1
      have gz2 := gz.2
      try go_simp
      refine hK.out _ _ (fun h => absurd h (by decide)) (fun _ => ?_)
      clear hK K
      try simp only [Act.put, List.setIfInBounds_toArray, List.set_cons_zero, List.set_cons_succ]
      refine T_done (by kernel_rfl) ?_ _
      try simp only [Act.put, List.getElem_toArray, List.getElem_cons_succ, List.getElem_cons_zero, List.setIfInBounds_toArray, List.set_cons_zero, List.set_cons_succ]
      try gi_wp2
      have HRA := HRD.out.app hfR HO9.out HG9.out HD9.out
      have HKE : KZ (fun j => j = w3.heap.size) w5.heap.size z W0.heap.size W2 (w9.setCell ⟨ga, f, none⟩ (.slice A9 (m9 + 1) c9)) := kz_store (HKD.out.trans (kz_own HG9.out HLR.out (by omega))) HLG.out (by omega) _
      exact ⟨HKE, _, _, by rw [HXS.out]; exact HRA, (HGD.out.grown HG9.out HN9.out.1).far (by dsimp only; exact HNG.out) _, HKS.out.trans HKE.ks⟩
    · have hrl : R.length = f + 1 := by omega
      have x1 : ((f : Int) == (R.length : Int)) = false := by rw [hrl]; simp; omega
      rw [hrl] at x1 HGM HUL g0c
      rw [hrl] at hrw2
      gi_wp2_with fail
      obtain ⟨ga, rfl⟩ := hrw2.blk
      have HLG : Hid ((z ≤ ga ∧ ga < W0.heap.size) ∨ W2.heap.size ≤ ga) := .inl (HUL.out ga rfl)
      have hfR : f < R.length := by omega
      have HLR : Hid (∀ j, (vx vs f).ownBlock = some j → z ≤ j ∧ j < W0.heap.size) := (hrlt f hfR).lt
      have HN9 : Hid ((vx vs f).ownBlock ≠ some w3.heap.size ∧ (vx vs f).ownBlock ≠ some tb ∧ (vx vs f).ownBlock ≠ some ga) := ⟨fun e => by have := (HLR.out _ e).1; omega, fun e => by have := (HLR.out _ e).2; omega, by
        rcases hrw2.out f hfR with d | d
        · rw [d]; simp
        · exact d⟩
      have HNG : Hid (w3.heap.size ≠ ga) := by show _ ≠ _; have := (HUL.out ga rfl).1; omega
      obtain ⟨m9, hm90⟩ : ∃ m9 : Nat, (rx R f).length = m9 := ⟨_, rfl⟩
      have hm9 : m9 ≤ 1000000 := by omega
      have HM9 := Lib.hid hm90
      have HXS2 : Hid (rowsS N xs (k + 1) = R.set f (rx R f ++ [y])) := by show _ = _; rw [HXS.out, add_old hrl]
      clear HXS
      have HXS := HXS2
      have HS9 : Hid (S9 w3.heap.size tb ga f (.slice (some ⟨ga, 0, none⟩) (f + 1) cu) (vx vs f) y W2) := ⟨HGM.out.cells.1.1, HTH.out.cells.1.1, HTH.out.cells.1.2.1, (hrw2.cell hfR).1⟩
      have HR := Lib.hid hrw2
      have HGN := HGM
      have HKZ : Hid (KZ (fun j => j = w3.heap.size) w5.heap.size z W0.heap.size W2 W2) := KZ.refl _ _ _ _ _
      have hzX := hzW2
      clear hrw2 HXS2 hm90 HGM HTH g0c g0f t1 x1
      refine round_T (S9 w3.heap.size tb ga f (.slice (some ⟨ga, 0, none⟩) (f + 1) cu) (vx vs f) y) 14 (by kernel_rfl) (by kernel_rfl) (by rintro ⟨_, _, h⟩; exact h) (HS9.out.step (Below.refl _ _).drew) (fun hS => ?_)
      have HRD := Lib.hid (HR.out.kept ((Below.refl _ _).drew))
      have HGD := Lib.hid (HGN.out.step ((Below.refl _ _).drew))
      have HKD := Lib.hid (HKZ.out.trans (KZ.of_below ((Below.refl _ _).drew)))
      have hzd : z ≤ W2.drew.heap.size := hzX
      clear HR HGN HKZ HS9 hzX
      generalize W2.drew = wd at *
      have HS9D := Lib.hid hS
      refine' T_take (i := 0) (v := _) rfl (by kernel_rfl) (by kernel_rfl) (by kernel_rfl) (by kernel_rfl) (fun _ _ _ h => h) (by kernel_rfl) hS ?_ ?_
      rotate_left 1
      · intro Wv hW
        obtain ⟨s1, s2, s3, s4⟩ := hW
        go_simp
        first | done | with_reducible rfl | omega
      try simp only [Act.put, List.setIfInBounds_toArray, List.set_cons_zero, List.set_cons_succ]
      refine' T_take (i := 1) (v := _) rfl (by kernel_rfl) (by kernel_rfl) (by kernel_rfl) (by kernel_rfl) (fun _ _ _ h => h) (by kernel_rfl) hS ?_ ?_
      rotate_left 1
      · intro Wv hW
        obtain ⟨s1, s2, s3, s4⟩ := hW
        go_simp
        first | done | with_reducible rfl | omega
      try simp only [Act.put, List.setIfInBounds_toArray, List.set_cons_zero, List.set_cons_succ]
      refine' T_take (i := 2) (v := _) rfl (by kernel_rfl) (by kernel_rfl) (by kernel_rfl) (by kernel_rfl) (fun _ _ _ h => h) (by kernel_rfl) hS ?_ ?_
      rotate_left 1
      · intro Wv hW
        obtain ⟨s1, s2, s3, s4⟩ := hW
        go_simp
        first | done | with_reducible rfl | omega
      try simp only [Act.put, List.setIfInBounds_toArray, List.set_cons_zero, List.set_cons_succ]
      refine' T_take (i := 3) (v := _) rfl (by kernel_rfl) (by kernel_rfl) (by kernel_rfl) (by kernel_rfl) (fun _ _ _ h => h) (by kernel_rfl) hS ?_ ?_
      rotate_left 1
      · intro Wv hW
        obtain ⟨s1, s2, s3, s4⟩ := hW
        go_simp
        first | done | with_reducible rfl | omega
      try simp only [Act.put, List.setIfInBounds_toArray, List.set_cons_zero, List.set_cons_succ]
      refine' T_take (i := 4) (v := _) rfl (by kernel_rfl) (by kernel_rfl) (by kernel_rfl) (by kernel_rfl) (fun _ _ _ h => h) (by kernel_rfl) hS ?_ ?_
      rotate_left 1
      · intro Wv hW
        obtain ⟨s1, s2, s3, s4⟩ := hW
        go_simp
        first | done | with_reducible rfl | omega
      try simp only [Act.put, List.setIfInBounds_toArray, List.set_cons_zero, List.set_cons_succ]
      refine' T_take (i := 5) (v := _) rfl (by kernel_rfl) (by kernel_rfl) (by kernel_rfl) (by kernel_rfl) (fun _ _ _ h => h) (by kernel_rfl) hS ?_ ?_
      rotate_left 1
      · intro Wv hW
        obtain ⟨s1, s2, s3, s4⟩ := hW
        go_simp
        first | done | with_reducible rfl | omega
      try simp only [Act.put, List.setIfInBounds_toArray, List.set_cons_zero, List.set_cons_succ]
      refine' T_take (i := 6) (v := _) rfl (by kernel_rfl) (by kernel_rfl) (by kernel_rfl) (by kernel_rfl) (fun _ _ _ h => h) (by kernel_rfl) hS ?_ ?_
      rotate_left 1
      · intro Wv hW
        obtain ⟨s1, s2, s3, s4⟩ := hW
        go_simp
        first | done | with_reducible rfl | omega
      try simp only [Act.put, List.setIfInBounds_toArray, List.set_cons_zero, List.set_cons_succ]
      refine' T_take (i := 7) (v := _) rfl (by kernel_rfl) (by kernel_rfl) (by kernel_rfl) (by kernel_rfl) (fun _ _ _ h => h) (by kernel_rfl) hS ?_ ?_
      rotate_left 1
      · intro Wv hW
        obtain ⟨s1, s2, s3, s4⟩ := hW
        go_simp
        first | done | with_reducible rfl | omega
      try simp only [Act.put, List.setIfInBounds_toArray, List.set_cons_zero, List.set_cons_succ]
      refine' T_take (i := 8) (v := _) rfl (by kernel_rfl) (by kernel_rfl) (by kernel_rfl) (by kernel_rfl) (fun _ _ _ h => h) (by kernel_rfl) hS ?_ ?_
      rotate_left 1
      · intro Wv hW
        obtain ⟨s1, s2, s3, s4⟩ := hW
        go_simp
        first | done | with_reducible rfl | omega
      try simp only [Act.put, List.setIfInBounds_toArray, List.set_cons_zero, List.set_cons_succ]
      refine' T_take (i := 9) (v := _) rfl (by kernel_rfl) (by kernel_rfl) (by kernel_rfl) (by kernel_rfl) (fun _ _ _ h => h) (by kernel_rfl) hS ?_ ?_
      rotate_left 1
      · intro Wv hW
        obtain ⟨s1, s2, s3, s4⟩ := hW
        go_simp
        first | done | with_reducible rfl | omega
      try simp only [Act.put, List.setIfInBounds_toArray, List.set_cons_zero, List.set_cons_succ]
      refine' T_take (i := 10) (v := _) rfl (by kernel_rfl) (by kernel_rfl) (by kernel_rfl) (by kernel_rfl) (fun _ _ _ h => h) (by kernel_rfl) hS ?_ ?_
      rotate_left 1
      · intro Wv hW
        obtain ⟨s1, s2, s3, s4⟩ := hW
        go_simp
        first | done | with_reducible rfl | omega
      try simp only [Act.put, List.setIfInBounds_toArray, List.set_cons_zero, List.set_cons_succ]
      refine' T_take (i := 11) (v := _) rfl (by kernel_rfl) (by kernel_rfl) (by kernel_rfl) (by kernel_rfl) (fun _ _ _ h => h) (by kernel_rfl) hS ?_ ?_
      rotate_left 1
      · intro Wv hW
        obtain ⟨s1, s2, s3, s4⟩ := hW
        go_simp
        first | done | with_reducible rfl | omega
      try simp only [Act.put, List.setIfInBounds_toArray, List.set_cons_zero, List.set_cons_succ]
      refine T_ready (rs := [12]) (by kernel_rfl) (by simp) ?_
      refine TReady.cons rfl (fun K hK => ?_) TReady.nil
      try go_simp
      refine hK.out _ _ (fun _ => hS.step ((Below.refl _ _).alloc (Nat.le_refl _) _)) (fun hS2 => ?_)
      replace hS := hS2 (by decide)
      clear hS2 hK K
      try simp only [Act.put, List.setIfInBounds_toArray, List.set_cons_zero, List.set_cons_succ]
      refine T_ready (rs := [13]) (by kernel_rfl) (by simp) ?_
      refine TReady.cons rfl (fun K hK => ?_) TReady.nil
      refine step_appN (.tmp 47) (.tmp 50) rfl rfl z wd (vx vs f) (rx R f) m9 y rfl rfl rfl (Lib.hid (HRD.out.rows f hfR)) HM9 hm9 hzd ?_
      intro A9 c9 w9 HO9 HG9 HD9
      have hS9 := S9.grown (W := wd) HS9D.out HG9.out HN9.out.1 HN9.out.2.1 HN9.out.2.2
      refine hK.out _ _ (fun _ => hS9) (fun hS2 => ?_)
      replace hS := hS9
      clear hS2 hK K hS9
      try simp only [Act.put, List.setIfInBounds_toArray, List.set_cons_zero, List.set_cons_succ]
      refine' T_take (i := 14) (v := _) rfl (by kernel_rfl) (by kernel_rfl) (by kernel_rfl) (by kernel_rfl) (fun _ _ _ h => h) (by kernel_rfl) hS ?_ ?_
      rotate_left 1
      · intro Wv hW
        obtain ⟨s1, s2, s3, s4⟩ := hW
        go_simp
        first | done | with_reducible rfl | omega
      try simp only [Act.put, List.setIfInBounds_toArray, List.set_cons_zero, List.set_cons_succ]
      refine T_ready (rs := [15]) (by kernel_rfl) (by simp) ?_
      refine TReady.cons rfl (fun K hK => ?_) TReady.nil
      have gz := HRD.out.held hfR HG9.out
      have gz1 := gz.1
      have gz2 := gz.2
      try go_simp
      refine hK.out _ _ (fun h => absurd h (by decide)) (fun _ => ?_)
      clear hK K
      try simp only [Act.put, List.setIfInBounds_toArray, List.set_cons_zero, List.set_cons_succ]
      refine T_done (by kernel_rfl) ?_ _
      try simp only [Act.put, List.getElem_toArray, List.getElem_cons_succ, List.getElem_cons_zero, List.setIfInBounds_toArray, List.set_cons_zero, List.set_cons_succ]
      try gi_wp2
      have HRA := HRD.out.app hfR HO9.out HG9.out HD9.out
      have HKE : KZ (fun j => j = w3.heap.size) w5.heap.size z W0.heap.size W2 (w9.setCell ⟨ga, f, none⟩ (.slice A9 (m9 + 1) c9)) := kz_store (HKD.out.trans (kz_own HG9.out HLR.out (by omega))) HLG.out (by omega) _
      exact ⟨HKE, _, _, by rw [HXS.out]; exact HRA, (HGD.out.grown HG9.out HN9.out.1).far (by dsimp only; exact HNG.out) _, HKS.out.trans HKE.ks⟩
  case done =>
    rintro D z W0 W hD hz' hzW hDz ⟨u, vs, hrw, hgm, hks⟩ hch hK
    have hrw2 := hrw.chz hch
    have hgm2 : GmAt W w3.heap.size u (.slice Az zs.length cz) 0 false := hch.block hgm (.inl (by omega))
    have hks2 := hks.trans (KS.of_chz hch)
    obtain ⟨Au, cu, rfl⟩ := hrw2.form
    have hgd : w3.heap.size < W.heap.size := hgm2.lt
    have k0 := hks2.cell l0 (by dsimp only; omega) (by dsimp only; omega)
    have k1 := hks2.cell l1 (by dsimp only; omega) (by dsimp only; omega)
    have k2 := hks2.cell l2 (by dsimp only; omega) (by dsimp only; omega)
    have k3 := hks2.cell l3 (by dsimp only; omega) (by dsimp only; omega)
    have HTW : Hid (GmAt W (w.heap.size + 1) (.slice none 0 0) (.slice none 0 0) 0 false) := Lib.hid (hks2.2.2.2.2 _ _ HT.out (by omega) (by omega))
    have HBW := Lib.hid (below_ks HB.out hks2 (fun k hk => by omega))
    have HRW := Lib.hid hrw2
    have HGM := Lib.hid hgm2
    have HKD := Lib.hid hK
    have HKS := Lib.hid hks2
    clear hrw hgm hks hch hrw2 hgm2 hks2 hK l0 l1 l2 l3
    go_wp2_with fail
    refine (HBH.out _ HBW.out).mono ?_
    rintro e w6 ⟨rfl, hb⟩
    have HB6 := Lib.hid hb
    clear hb
    unfold plV
    go_upto_region 11 with fail
    obtain ⟨w7, hw7⟩ : ∃ w7, w7 = w6.alloc (.cells #[.int .i64 N, .int .i64 10, .int .i64 2, .int .i64 10, .int .i64 (plS N xs xs.length).fr, .int .i64 (plS N xs xs.length).th, .int .i64 (plS N xs xs.length).st, .bool (plS N xs xs.length).fresh, .int .i64 (plS N xs xs.length).need, .int .i64 (plS N xs xs.length).a0, .int .i64 (plS N xs xs.length).a1] 148) := ⟨_, rfl⟩
    rw [← hw7]
    have hp7 : PlAt w7 w6.heap.size N (plS N xs xs.length) := by rw [hw7]; exact World.alloc_heap_new _ _
    have hb7 : Below W.heap.size W w7 := by rw [hw7]; exact HB6.out.trans ((Below.refl _ _).alloc HB6.out.size _)
    have hne : w3.heap.size < w6.heap.size := Nat.lt_of_lt_of_le hgd HB6.out.size
    clear hw7 k0 k1 k2 k3 HBH
    obtain ⟨⟨c0, c1, c2, c3⟩, ⟨c4, c5, c6, c7, c8, c9, c10⟩, -⟩ := hp7.cells
    have HP7 := Lib.hid hp7
    have HB7 := Lib.hid hb7
    have HG7 := Lib.hid (HGM.out.step hb7)
    have HT7 := Lib.hid (HTW.out.step hb7)
    clear hp7 hb7 HB6 HGM HTW
    have HDN := Lib.hid (done_c N (plS N xs xs.length) w7)
    unfold plV at HDN
    go_wp2_with fail
    refine HDN.out.mono ?_
    rintro e w8 ⟨rfl, hb⟩
    have HB8 := Lib.hid (HB7.out.trans (hb.mono HB7.out.size))
    have HG8 := Lib.hid (HG7.out.step hb)
    have HT8 := Lib.hid (HT7.out.step hb)
    have HP8 : Hid (PlAt w8 w6.heap.size N (plS N xs xs.length)) := (hb.block _ (Array.getElem?_eq_some_iff.1 HP7.out).1).trans HP7.out
    clear hb c0 c1 c2 c3 c4 c5 c6 c7 c8 c9 c10 HP7 HG7 HT7 HDN
    have d0 := HG8.out.cells.1
    have df := HG8.out.cells.2
    obtain ⟨-, ⟨-, -, c6, -⟩, -⟩ := HP8.out.cells
    obtain ⟨⟨t0, t1, t2, t3⟩, tf⟩ := HT8.out.cells
    have hDW := (Array.getElem?_eq_some_iff.1 HKD.out).1
    have hD8 : w8.heap[D]? = some (.deferred (some [])) := (HB8.out.block D hDW).trans HKD.out
    by_cases hfN : (plS N xs xs.length).fr = N
    · have x1 : ((plS N xs xs.length).fr == N) = true := by simp [hfN]
      have hfN2 : ¬ (plS N xs xs.length).fr < N := by omega
      go_wp2_with fail
      have hn1 : ¬ w.heap.size + 1 = D := by omega
      have hn2 : ¬ w3.heap.size = D := by omega
      refine ⟨by simp, .inl ⟨_, _, rfl, run_takeDeferred (by simp [World.setCell, Array.getElem?_modify, hD8, hn1, hn2]), ?_⟩⟩
      have HF : GmAt ((((((w8.setCell ⟨w3.heap.size, 3, none⟩ (.bool true)).setCell ⟨w.heap.size + 1, 0, none⟩ (.slice Au (rowsS N xs xs.length).length cu)).setCell ⟨w.heap.size + 1, 1, none⟩ (.slice Az zs.length cz)).setCell ⟨w.heap.size + 1, 2, none⟩ (.int .i64 0)).setCell ⟨w.heap.size + 1, 3, none⟩ (.bool true)).putObj D (.deferred none)) (w.heap.size + 1) (.slice Au (rowsS N xs xs.length).length cu) (.slice Az zs.length cz) 0 true := ((HT8.out.far (ad := ⟨w3.heap.size, 3, none⟩) (by dsimp only; omega) (.bool true)).set4 _ _ _ _).put (by omega) _
      have HKF : KS (fun j => j = w3.heap.size ∨ j = w.heap.size + 1) w5.heap.size w5 ((((((w8.setCell ⟨w3.heap.size, 3, none⟩ (.bool true)).setCell ⟨w.heap.size + 1, 0, none⟩ (.slice Au (rowsS N xs xs.length).length cu)).setCell ⟨w.heap.size + 1, 1, none⟩ (.slice Az zs.length cz)).setCell ⟨w.heap.size + 1, 2, none⟩ (.int .i64 0)).setCell ⟨w.heap.size + 1, 3, none⟩ (.bool true)).putObj D (.deferred none)) := ((((((((HKS.out.wk (fun j e => .inl e)).trans (KS.of_below HB8.out)).trans (KS.of_set (ad := ⟨w3.heap.size, 3, none⟩) (.inr (by simp)) _)).trans (KS.of_set (ad := ⟨w.heap.size + 1, 0, none⟩) (.inr (by simp)) _)).trans (KS.of_set (ad := ⟨w.heap.size + 1, 1, none⟩) (.inr (by simp)) _)).trans (KS.of_set (ad := ⟨w.heap.size + 1, 2, none⟩) (.inr (by simp)) _)).trans (KS.of_set (ad := ⟨w.heap.size + 1, 3, none⟩) (.inr (by simp)) _)).trans (KS.of_put (.inl hD) _))
      have HRF : RowsN z ((((((w8.setCell ⟨w3.heap.size, 3, none⟩ (.bool true)).setCell ⟨w.heap.size + 1, 0, none⟩ (.slice Au (rowsS N xs xs.length).length cu)).setCell ⟨w.heap.size + 1, 1, none⟩ (.slice Az zs.length cz)).setCell ⟨w.heap.size + 1, 2, none⟩ (.int .i64 0)).setCell ⟨w.heap.size + 1, 3, none⟩ (.bool true)).putObj D (.deferred none)) (.slice Au (rowsS N xs xs.length).length cu) vs (rowsS N xs xs.length) := HRW.out.chz (((((((Chz.of_below (s := 0) (z := z) HB8.out).trans (Chz.of_set (s := 0) (z := z) (ad := ⟨w3.heap.size, 3, none⟩) ⟨by dsimp only; omega, by dsimp only; omega⟩ _)).trans (Chz.of_set (s := 0) (z := z) (ad := ⟨w.heap.size + 1, 0, none⟩) ⟨by dsimp only; omega, by dsimp only; omega⟩ _)).trans (Chz.of_set (s := 0) (z := z) (ad := ⟨w.heap.size + 1, 1, none⟩) ⟨by dsimp only; omega, by dsimp only; omega⟩ _)).trans (Chz.of_set (s := 0) (z := z) (ad := ⟨w.heap.size + 1, 2, none⟩) ⟨by dsimp only; omega, by dsimp only; omega⟩ _)).trans (Chz.of_set (s := 0) (z := z) (ad := ⟨w.heap.size + 1, 3, none⟩) ⟨by dsimp only; omega, by dsimp only; omega⟩ _)).trans (Chz.of_put (s := 0) (z := z) ⟨by omega, hDz⟩ _))
      clear d0 df t0 t1 t2 t3 tf c6 hD8
      generalize ((((((w8.setCell ⟨w3.heap.size, 3, none⟩ (.bool true)).setCell ⟨w.heap.size + 1, 0, none⟩ (.slice Au (rowsS N xs xs.length).length cu)).setCell ⟨w.heap.size + 1, 1, none⟩ (.slice Az zs.length cz)).setCell ⟨w.heap.size + 1, 2, none⟩ (.int .i64 0)).setCell ⟨w.heap.size + 1, 3, none⟩ (.bool true)).putObj D (.deferred none)) = WF at *
      obtain ⟨⟨f0, f1, f2, f3⟩, -⟩ := HF.cells
      have x2 : ((plS N xs xs.length).fr == N) = true := x1
      refine ⟨.tuple #[.agg #[.slice Au (rowsS N xs xs.length).length cu, .slice Az zs.length cz, .int .i64 0, .bool true], .int .i64 0], by simp [results, Try.results14, go_sem, f0, f1, f2, f3], Au, cu, zs, Az, cz, 0, ?_, HRF.isGrd, HZS.out, HZC.out, OwnN.ks HZI.out (by omega) HKF (fun j e => ?_), fun h => (by omega), ?_⟩
      · rw [x2]
      · have h1 := HZI.out.lt j e
        have h2 := hzg j e
        exact ⟨h1.2, fun h => by rcases h with h | h <;> omega⟩
      · exact HB.out.trans ((HKF.below (by omega) (by omega) (fun k hk h => by rcases h with h | h <;> omega)).mono (Nat.le_refl _))
    · have x1 : ((plS N xs xs.length).fr == N) = false := by simp [hfN]
      go_wp2_with fail
      have hn1 : ¬ w.heap.size + 1 = D := by omega
      have hn2 : ¬ w3.heap.size = D := by omega
      refine ⟨by simp, .inl ⟨_, _, rfl, run_takeDeferred (by simp [World.setCell, Array.getElem?_modify, hD8, hn1, hn2]), ?_⟩⟩
      have HF : GmAt (((((((w8.setCell ⟨w3.heap.size, 3, none⟩ (.bool false)).setCell ⟨w3.heap.size, 2, none⟩ (.int .i64 (plS N xs xs.length).st)).setCell ⟨w.heap.size + 1, 0, none⟩ (.slice Au (rowsS N xs xs.length).length cu)).setCell ⟨w.heap.size + 1, 1, none⟩ (.slice Az zs.length cz)).setCell ⟨w.heap.size + 1, 2, none⟩ (.int .i64 (plS N xs xs.length).st)).setCell ⟨w.heap.size + 1, 3, none⟩ (.bool false)).putObj D (.deferred none)) (w.heap.size + 1) (.slice Au (rowsS N xs xs.length).length cu) (.slice Az zs.length cz) (plS N xs xs.length).st false := (((HT8.out.far (ad := ⟨w3.heap.size, 3, none⟩) (by dsimp only; omega) (.bool false)).far (ad := ⟨w3.heap.size, 2, none⟩) (by dsimp only; omega) (.int .i64 (plS N xs xs.length).st)).set4 _ _ _ _).put (by omega) _
      have HKF : KS (fun j => j = w3.heap.size ∨ j = w.heap.size + 1) w5.heap.size w5 (((((((w8.setCell ⟨w3.heap.size, 3, none⟩ (.bool false)).setCell ⟨w3.heap.size, 2, none⟩ (.int .i64 (plS N xs xs.length).st)).setCell ⟨w.heap.size + 1, 0, none⟩ (.slice Au (rowsS N xs xs.length).length cu)).setCell ⟨w.heap.size + 1, 1, none⟩ (.slice Az zs.length cz)).setCell ⟨w.heap.size + 1, 2, none⟩ (.int .i64 (plS N xs xs.length).st)).setCell ⟨w.heap.size + 1, 3, none⟩ (.bool false)).putObj D (.deferred none)) := (((((((((HKS.out.wk (fun j e => .inl e)).trans (KS.of_below HB8.out)).trans (KS.of_set (ad := ⟨w3.heap.size, 3, none⟩) (.inr (by simp)) _)).trans (KS.of_set (ad := ⟨w3.heap.size, 2, none⟩) (.inr (by simp)) _)).trans (KS.of_set (ad := ⟨w.heap.size + 1, 0, none⟩) (.inr (by simp)) _)).trans (KS.of_set (ad := ⟨w.heap.size + 1, 1, none⟩) (.inr (by simp)) _)).trans (KS.of_set (ad := ⟨w.heap.size + 1, 2, none⟩) (.inr (by simp)) _)).trans (KS.of_set (ad := ⟨w.heap.size + 1, 3, none⟩) (.inr (by simp)) _)).trans (KS.of_put (.inl hD) _))
      have HRF : RowsN z (((((((w8.setCell ⟨w3.heap.size, 3, none⟩ (.bool false)).setCell ⟨w3.heap.size, 2, none⟩ (.int .i64 (plS N xs xs.length).st)).setCell ⟨w.heap.size + 1, 0, none⟩ (.slice Au (rowsS N xs xs.length).length cu)).setCell ⟨w.heap.size + 1, 1, none⟩ (.slice Az zs.length cz)).setCell ⟨w.heap.size + 1, 2, none⟩ (.int .i64 (plS N xs xs.length).st)).setCell ⟨w.heap.size + 1, 3, none⟩ (.bool false)).putObj D (.deferred none)) (.slice Au (rowsS N xs xs.length).length cu) vs (rowsS N xs xs.length) := HRW.out.chz ((((((((Chz.of_below (s := 0) (z := z) HB8.out).trans (Chz.of_set (s := 0) (z := z) (ad := ⟨w3.heap.size, 3, none⟩) ⟨by dsimp only; omega, by dsimp only; omega⟩ _)).trans (Chz.of_set (s := 0) (z := z) (ad := ⟨w3.heap.size, 2, none⟩) ⟨by dsimp only; omega, by dsimp only; omega⟩ _)).trans (Chz.of_set (s := 0) (z := z) (ad := ⟨w.heap.size + 1, 0, none⟩) ⟨by dsimp only; omega, by dsimp only; omega⟩ _)).trans (Chz.of_set (s := 0) (z := z) (ad := ⟨w.heap.size + 1, 1, none⟩) ⟨by dsimp only; omega, by dsimp only; omega⟩ _)).trans (Chz.of_set (s := 0) (z := z) (ad := ⟨w.heap.size + 1, 2, none⟩) ⟨by dsimp only; omega, by dsimp only; omega⟩ _)).trans (Chz.of_set (s := 0) (z := z) (ad := ⟨w.heap.size + 1, 3, none⟩) ⟨by dsimp only; omega, by dsimp only; omega⟩ _)).trans (Chz.of_put (s := 0) (z := z) ⟨by omega, hDz⟩ _))
      clear d0 df t0 t1 t2 t3 tf c6 hD8
      generalize (((((((w8.setCell ⟨w3.heap.size, 3, none⟩ (.bool false)).setCell ⟨w3.heap.size, 2, none⟩ (.int .i64 (plS N xs xs.length).st)).setCell ⟨w.heap.size + 1, 0, none⟩ (.slice Au (rowsS N xs xs.length).length cu)).setCell ⟨w.heap.size + 1, 1, none⟩ (.slice Az zs.length cz)).setCell ⟨w.heap.size + 1, 2, none⟩ (.int .i64 (plS N xs xs.length).st)).setCell ⟨w.heap.size + 1, 3, none⟩ (.bool false)).putObj D (.deferred none)) = WF at *
      obtain ⟨⟨f0, f1, f2, f3⟩, -⟩ := HF.cells
      have x2 : ((plS N xs xs.length).fr == N) = false := x1
      refine ⟨.tuple #[.agg #[.slice Au (rowsS N xs xs.length).length cu, .slice Az zs.length cz, .int .i64 (plS N xs xs.length).st, .bool false], .int .i64 0], by simp [results, Try.results14, go_sem, f0, f1, f2, f3], Au, cu, zs, Az, cz, (plS N xs xs.length).st, ?_, HRF.isGrd, HZS.out, HZC.out, OwnN.ks HZI.out (by omega) HKF (fun j e => ?_), fun _ => rfl, ?_⟩
      · rw [x2]
      · have h1 := HZI.out.lt j e
        have h2 := hzg j e
        exact ⟨h1.2, fun h => by rcases h with h | h <;> omega⟩
      · exact HB.out.trans ((HKF.below (by omega) (by omega) (fun k hk h => by rcases h with h | h <;> omega)).mono (Nat.le_refl _))
end Go.Proofs.Ytenpiinkbfancaa
