/-
  A ball wears a lane, for an end of its oil.
-/
import Derived.Test.YtgnonfomlgkpcaaH
import Derived.Deep.DeepCutAuto
import Derived.Deep.RegionHeld3
namespace Go.Proofs.Ytgnonfomlgkpcaa
open Go.RowKit

attribute [local go_sem] Oper.semAt_some

theorem calls_marks {P : Program} {f : FuncId} {fn : Func} {c : Code} {args : Array Value} {w : World} {R : Ending → World → Prop} (hf : P.funcs[f]? = some fn) (hb : fn.body = some c)
    (h : c.wp P (bodyPostM Fence.wide 0 P fn R) { tmps := args ++ Array.replicate (fn.ntmps - args.size) undef, defers := [] } w) : Calls P f args w R :=
  (callsIn_wide (n := 0)).1 (callsIn_of_wp_marks hf hb trivial (wpIn_wide.2 h) rfl)

theorem cell_alloc_keep {w : World} {a : Addr} {v : Value} (o : Obj) (h : w.cell? a = some v) : (w.alloc o).cell? a = some v := (World.cell?_alloc_lt _ _ _ (World.block_lt_of_cell? w a h)).trans h
theorem cell_of_ans {W w1 : World} (hb : Below W.heap.size W w1) {p : Addr} {v : Value} (h : W.cell? p = some v) : w1.cell? p = some v := (hb.cell (World.block_lt_of_cell? W p h)).trans h
theorem cell_set_keep {w : World} {p a : Addr} {u v : Value} (h : w.cell? a = some v) (hp : p.block ≠ a.block) : (w.setCell p u).cell? a = some v := (World.cell?_setCell_other w p a u (fun e => hp (by rw [e]))).trans h

theorem map_finRange (n : Nat) : (List.finRange n).map Fin.val = List.range n := by
  refine List.ext_getElem (by simp) fun i h1 h2 => by simp

/-- One cell of a ball. -/
def stepW (ca : Int) (xs : List Int) (bf ow : Nat → Int) (o : Nat → Int) (k : Nat) : Nat → Int :=
  upd o (k * 12 + (ix xs k).toNat) (wornF ca (o (k * 12 + (ix xs k).toNat)) (if 0 < k then bf k else 0) (ow k))
/-- All of them. -/
def rollW (ca : Int) (xs : List Int) (bf ow : Nat → Int) (o : Nat → Int) (ks : List Nat) : Nat → Int := ks.foldl (stepW ca xs bf ow) o

/-- Oil is from 0 to 100. -/
def Lvl (o : Nat → Int) : Prop := ∀ i, 0 ≤ o i ∧ o i ≤ 100
theorem wornF_lvl (ca x b ow : Int) (h : 0 ≤ ow) : 0 ≤ wornF ca x b ow ∧ wornF ca x b ow ≤ 100 := by simp only [wornF]; omega
theorem Lvl.step {ca : Int} {xs : List Int} {bf ow : Nat → Int} {o : Nat → Int} (h : Lvl o) (how : ∀ k, 0 ≤ ow k) (k : Nat) : Lvl (stepW ca xs bf ow o k) := fun i => by
  simp only [stepW, upd]
  split
  · exact wornF_lvl _ _ _ _ (how k)
  · exact h i
theorem Lvl.roll {ca : Int} {xs : List Int} {bf ow : Nat → Int} {o : Nat → Int} (h : Lvl o) (how : ∀ k, 0 ≤ ow k) (ks : List Nat) : Lvl (rollW ca xs bf ow o ks) := by
  induction ks generalizing o with
  | nil => exact h
  | cons k ks ih => exact ih (h.step how k)
theorem rollW_snoc (ca : Int) (xs : List Int) (bf ow : Nat → Int) (o : Nat → Int) (ks : List Nat) (k : Nat) : rollW ca xs bf ow o (ks ++ [k]) = stepW ca xs bf ow (rollW ca xs bf ow o ks) k := by simp [rollW]

/-- What a round keeps: of what lay below n₀ all but block g. -/
def KpG (n₀ g : Nat) (W W' : World) : Prop := W.heap.size ≤ W'.heap.size ∧ W'.os = W.os ∧ W'.tape = W.tape ∧ W'.output = W.output ∧ ∀ k, k < n₀ → k ≠ g → W'.heap[k]? = W.heap[k]?
theorem KpG.refl (n₀ g : Nat) (W : World) : KpG n₀ g W W := ⟨Nat.le_refl _, rfl, rfl, rfl, fun _ _ _ => rfl⟩
theorem KpG.trans {n₀ g : Nat} {A B C : World} (h : KpG n₀ g A B) (k : KpG n₀ g B C) : KpG n₀ g A C :=
  ⟨Nat.le_trans h.1 k.1, k.2.1.trans h.2.1, k.2.2.1.trans h.2.2.1, k.2.2.2.1.trans h.2.2.2.1, fun i hi hg => (k.2.2.2.2 i hi hg).trans (h.2.2.2.2 i hi hg)⟩
theorem KpG.of_grown {n₀ g : Nat} {A B : World} (h : A.grownBy B (some g)) (hn : n₀ ≤ A.heap.size) : KpG n₀ g A B :=
  ⟨h.size, h.os, h.tape, h.output, fun i hi hg => h.block i (by omega) (fun e => hg (by injection e))⟩
theorem KpG.below {n₀ g B : Nat} {A C : World} (h : KpG n₀ g A C) (hB : B ≤ n₀) (hg : B ≤ g) : Below B A C := ⟨h.2.1, h.2.2.1, h.2.2.2.1, h.1, fun k hk => h.2.2.2.2 k (by omega) (by omega)⟩

theorem KpG.cell {n₀ g : Nat} {A C : World} (h : KpG n₀ g A C) {p : Addr} {v : Value} (hc : A.cell? p = some v) (hp : p.block < n₀) (hg : p.block ≠ g) : C.cell? p = some v :=
  (World.cell?_of_block (w := A) (h.2.2.2.2 p.block hp hg)).trans hc

def RollPost (w : World) (g : Nat) (fv : Value) (lo hi ca : Int) (o : Nat → Int) (e : Ending) (w' : World) : Prop :=
  e = .returned (.tuple #[]) ∧ Worn w' g fv lo hi ca o ∧ w.grownBy w' (some g)

theorem enters69 : Enters 69 := fun _ _ => enters_of Try.func69 (by kernel_rfl) rfl _ _
theorem enters70 : Enters 70 := fun _ _ => enters_of Try.func70 (by kernel_rfl) rfl _ _

set_option maxRecDepth 100000 in
set_option maxHeartbeats 4000000 in
theorem roll_c {B : Nat} (g f c : Nat) (A : Option Addr) (xs : List Int) (fv : Value) (lo hi ca bf ow : Int) (o : Nat → Int) (w : World) (hw : Worn w g fv lo hi ca o) (hB : B ≤ w.heap.size) (hBg : B ≤ g) (hx : Ints B w A xs) (hf : Enters f)
    (hfc : ∀ W, Calls Try.prog f #[.agg #[.int .i64 lo, .int .i64 hi]] W (Ans W (.tuple #[.int .i64 bf, .int .i64 ow])))
    (h8 : xs.length ≤ 8) (hb : ∀ k, k < xs.length → 0 ≤ ix xs k ∧ ix xs k < 12) (h1 : 0 ≤ ca) (h2 : ca ≤ 100) (h3 : 0 ≤ bf) (h4 : bf ≤ 9) (h7 : 0 ≤ ow) (h8' : ow ≤ 9) (hlv : Lvl o) :
    Calls Try.prog 68 #[.pointer (some ⟨g, 0, none⟩), .slice A xs.length c, .agg #[.func (.func f) #[] #[]]] w (RollPost w g fv lo hi ca (rollW ca xs (fun _ => bf) (fun _ => ow) o (List.range xs.length))) := by
  have hg := hw.lt
  have hg1 : g < w.heap.size + 1 := by omega
  have hg2 : g < w.heap.size + 1 + 1 := by omega
  have hg3 : g < w.heap.size + 1 + 1 + 1 := by omega
  have hg4 : g < w.heap.size + 1 + 1 + 1 + 1 := by omega
  have hs1 : w.heap.size < w.heap.size + 1 + 1 := by omega
  have hs2 : w.heap.size < w.heap.size + 1 + 1 + 1 := by omega
  have hs3 : w.heap.size < w.heap.size + 1 + 1 + 1 + 1 := by omega
  have c1 := hw.c1
  have c2 := hw.c2
  have HF := Lib.hid hfc
  have HW := Lib.hid hw
  have HX := Lib.hid hx
  have HLV := Lib.hid hlv
  unfold Enters at hf
  clear hfc hw hx hlv
  refine calls_marks Try.func68 rfl ?_
  simp only [Try.ntmps68, List.size_toArray, List.length_cons, List.length_nil, Nat.reduceAdd, Nat.reduceSub, Array.replicate_succ, Array.replicate_zero, List.push_toArray, List.append_toArray, List.nil_append, List.cons_append]
  go_upto_region 1 with fail
  have d0 : ((w.alloc (.cells #[.pointer (some ⟨g, 0, none⟩)] 90)).alloc (.cells #[.func (.func f) #[] #[]] 104)).cell? ⟨w.heap.size, 0, none⟩ = some (.pointer (some ⟨g, 0, none⟩)) := by go_simp
  have d1 : ((w.alloc (.cells #[.pointer (some ⟨g, 0, none⟩)] 90)).alloc (.cells #[.func (.func f) #[] #[]] 104)).cell? ⟨w.heap.size + 1, 0, none⟩ = some (.func (.func f) #[] #[]) := by go_simp
  have d2 : ((w.alloc (.cells #[.pointer (some ⟨g, 0, none⟩)] 90)).alloc (.cells #[.func (.func f) #[] #[]] 104)).cell? ⟨g, 1, none⟩ = some (.int .i64 lo) := by go_simp
  have d3 : ((w.alloc (.cells #[.pointer (some ⟨g, 0, none⟩)] 90)).alloc (.cells #[.func (.func f) #[] #[]] 104)).cell? ⟨g, 2, none⟩ = some (.int .i64 hi) := by go_simp
  have HZ : Hid (((w.alloc (.cells #[.pointer (some ⟨g, 0, none⟩)] 90)).alloc (.cells #[.func (.func f) #[] #[]] 104)).heap.size = w.heap.size + 1 + 1) := by show _ = _; simp
  have HB0 : Hid (Below w.heap.size w ((w.alloc (.cells #[.pointer (some ⟨g, 0, none⟩)] 90)).alloc (.cells #[.func (.func f) #[] #[]] 104))) := ((Below.refl _ _).alloc (Nat.le_refl _) _).alloc (by simp) _
  generalize ((w.alloc (.cells #[.pointer (some ⟨g, 0, none⟩)] 90)).alloc (.cells #[.func (.func f) #[] #[]] 104)) = W0 at d0 d1 d2 d3 HZ HB0 ⊢
  clear c1 c2 hg1 hg2 hg3 hg4 hs1 hs2 hs3
  have n1 : W0.heap.size ≠ w.heap.size := by have := HZ.out; omega
  have n2 : W0.heap.size ≠ w.heap.size + 1 := by have := HZ.out; omega
  have n3 : W0.heap.size ≠ g := by have := HZ.out; omega
  have n4 : W0.heap.size + 1 ≠ w.heap.size := by have := HZ.out; omega
  have n5 : W0.heap.size + 1 ≠ w.heap.size + 1 := by have := HZ.out; omega
  have n6 : W0.heap.size + 1 ≠ g := by have := HZ.out; omega
  go_cut [6, 7] from 8 (fun s6 s7 wx => ∃ p q : Nat, s6 = .pointer (some ⟨p, 0, none⟩) ∧ s7 = .pointer (some ⟨q, 0, none⟩) ∧ W0.heap.size ≤ p ∧ W0.heap.size ≤ q ∧ wx.cell? ⟨p, 0, none⟩ = some (.int .i64 bf) ∧ wx.cell? ⟨q, 0, none⟩ = some (.int .i64 ow) ∧ Below W0.heap.size W0 wx)
  case first =>
    go_region_held3 (fun w' => w'.cell? ⟨w.heap.size, 0, none⟩ = some (.pointer (some ⟨g, 0, none⟩)) ∧ w'.cell? ⟨w.heap.size + 1, 0, none⟩ = some (.func (.func f) #[] #[]) ∧ w'.cell? ⟨g, 1, none⟩ = some (.int .i64 lo) ∧ w'.cell? ⟨g, 2, none⟩ = some (.int .i64 hi)) (go_keep) (first | ((with_reducible refine (HF.out _).mono ?_); rintro e w1 ⟨rfl, hb1⟩; have HB1 := Lib.hid hb1; have r1 := cell_of_ans hb1 (p := ⟨w.heap.size, 0, none⟩) (v := .pointer (some ⟨g, 0, none⟩)) (by simp [*]); have r2 := cell_of_ans hb1 (p := ⟨w.heap.size + 1, 0, none⟩) (v := .func (.func f) #[] #[]) (by simp [*]); have r3 := cell_of_ans hb1 (p := ⟨g, 1, none⟩) (v := .int .i64 lo) (by simp [*]);  have r4 := cell_of_ans hb1 (p := ⟨g, 2, none⟩) (v := .int .i64 hi) (by simp [*]); obtain ⟨q1, q2⟩ := bcell hb1; have y0 := hb1.size; simp only [World.size_alloc, World.size_drew, Nat.add_one_le_iff] at y0; have m1 : w1.heap.size ≠ w.heap.size := World.new_ne w1 _ r1; have m2 : w1.heap.size ≠ w.heap.size + 1 := World.new_ne w1 _ r2; have m3 : w1.heap.size ≠ g := World.new_ne w1 _ r3; have m4 : w1.heap.size + 1 ≠ w.heap.size := Nat.ne_of_gt (Nat.lt_succ_of_lt (World.block_lt_of_cell? w1 _ r1)); have m5 : w1.heap.size + 1 ≠ w.heap.size + 1 := Nat.ne_of_gt (Nat.lt_succ_of_lt (World.block_lt_of_cell? w1 _ r2)); have m6 : w1.heap.size + 1 ≠ g := Nat.ne_of_gt (Nat.lt_succ_of_lt (World.block_lt_of_cell? w1 _ r3)); clear hb1))
    all_goals
      go_wp2_with fail
      have y7 := HB1.out.size
      simp only [World.size_alloc, World.size_drew] at y7
      go_meet
      refine ⟨_, _, rfl, rfl, ?_, ?_, ?_, ?_, ?_⟩
      · omega
      · omega
      · first | (go_simp; done) | (refine World.cell?_setCell_same _ _ _ (u := .int .i64 0) ?_; rw [q1 _ _ (by simp only [World.size_alloc, World.size_drew]; omega)]; go_simp; done) | (rw [World.cell?_setCell_other _ _ _ _ (by simp)]; refine World.cell?_setCell_same _ _ _ (u := .int .i64 0) ?_; rw [q1 _ _ (by simp only [World.size_alloc, World.size_drew]; omega)]; go_simp; done)
      · first | (go_simp; done) | (refine World.cell?_setCell_same _ _ _ (u := .int .i64 0) ?_; rw [World.cell?_setCell_other _ _ _ _ (by simp), q1 _ _ (by simp only [World.size_alloc, World.size_drew]; omega)]; go_simp)
      · repeat (first | exact Below.refl _ _ | refine Below.setCell ?_ (by dsimp only; omega) _ | refine Below.alloc ?_ (by first | omega | (simp only [World.size_alloc, World.size_setCell]; omega)) _ | refine Below.drew ?_ | exact Below.trans (Below.drew (Below.refl _ _)) (HB1.out.mono (Nat.le_refl _)) | refine Below.trans ?_ (HB1.out.mono (by simp only [World.size_alloc, World.size_drew]; omega)))
  case rest =>
    obtain ⟨p, q, rfl, rfl, hp, hq, hcp, hcq, hbx⟩ := hcut
    have HZ' := HZ.out
    have e0 := cell_of_ans hbx d0
    have HBX := Lib.hid hbx
    have Hp := Lib.hid hp
    have Hq := Lib.hid hq
    clear d0 d1 d2 d3 n1 n2 n3 n4 n5 n6 hbx hp hq
    go_wp2_with (go_at_call 62; refine (cells_c _ _ _ _).mono ?_; rintro e w2 ⟨rfl, rfl⟩)
    have hW1 : Worn (wc.alloc (.cells #[.slice A xs.length c] 45)) g fv lo hi ca o := ((HW.out.below HB0.out hg).below HBX.out (by omega)).alloc _
    have hx1 : Ints B (wc.alloc (.cells #[.slice A xs.length c] 45)) A xs := (((HX.out.below (HB0.out.mono hB)).below (HBX.out.mono (by omega))).alloc (by have := HBX.out.size; omega) _)
    have hcb : (wc.alloc (.cells #[.slice A xs.length c] 45)).cell? ⟨wc.heap.size, 0, none⟩ = some (.slice A xs.length c) := by simp
    have hsz : (wc.alloc (.cells #[.slice A xs.length c] 45)).heap.size = wc.heap.size + 1 := by simp
    have k0 : (wc.alloc (.cells #[.slice A xs.length c] 45)).cell? ⟨w.heap.size, 0, none⟩ = some (.pointer (some ⟨g, 0, none⟩)) := cell_alloc_keep _ e0
    have k1 : (wc.alloc (.cells #[.slice A xs.length c] 45)).cell? ⟨p, 0, none⟩ = some (.int .i64 bf) := cell_alloc_keep _ hcp
    have k2 : (wc.alloc (.cells #[.slice A xs.length c] 45)).cell? ⟨q, 0, none⟩ = some (.int .i64 ow) := cell_alloc_keep _ hcq
    have hbw : w.grownBy (wc.alloc (.cells #[.slice A xs.length c] 45)) (some g) := only_alloc (only_below (HB0.out.trans (HBX.out.mono (by omega))) _) _
    generalize wc.alloc (.cells #[.slice A xs.length c] 45) = W1 at hW1 hx1 hcb hsz k0 k1 k2 hbw ⊢
    have hpn := Hp.out
    have hqn := Hq.out
    have hzc := HBX.out.size
    have hpl := World.block_lt_of_cell? wc _ hcp
    have hql := World.block_lt_of_cell? wc _ hcq
    dsimp only at hpl hql
    refine wpIn_wide.1 (wpIn_rangeFunc_ownH (F := Fence.wide) (n := 5) (α := Fin xs.length) rfl (by omega) (gf := 89) (lb := #[.pointer (some ⟨wc.heap.size, 0, none⟩)]) rfl trivial (enters_of Try.func89 (by kernel_rfl) rfl)
      (cells_stops 4 wc.heap.size c A xs (by omega) (KpG W1.heap.size g) (fun h k => h.trans k) (fun _ => KpG.refl _ _ _) (fun W W' hk hi => hi.below (hk.below (by omega) hBg)) W1 (by omega) (Nat.le_trans hB (by omega)) hcb hx1)
      (fun h k => h.trans k) ?keepPut (Below.refl _ _) (fun _ => rfl)
      (fun pre W => Worn W g fv lo hi ca (rollW ca xs (fun _ => bf) (fun _ => ow) o (pre.map Fin.val)) ∧ KpG W1.heap.size g W1 W)
      (fun _ _ _ => False) ?ownI (fun _ _ _ _ _ hs _ _ => hs) ⟨hW1, KpG.refl _ _ _⟩
      (fun x a' W => ∃ bb, W1.heap.size ≤ bb ∧ W.heap[bb]? = some (.cells #[.int .i64 (x.1 : Int), .int .i64 (ix xs x.1)] 96 (0, 0)) ∧ a' = { tmps := #[.pointer (some ⟨g, 0, none⟩), .slice A xs.length c, .agg #[.func (.func f) #[] #[]], .pointer (some ⟨w.heap.size, 0, none⟩), undef, .pointer (some ⟨w.heap.size + 1, 0, none⟩), .pointer (some ⟨p, 0, none⟩), .pointer (some ⟨q, 0, none⟩), .pointer (some ⟨bb, 0, none⟩), u9, u10, u11, u12, u13, u14, u15, u16, u17, u18, u19, .slice A xs.length c, .func (.func 89) #[] #[.pointer (some ⟨wc.heap.size, 0, none⟩)], .agg #[.int .i64 (x.1 : Int), .int .i64 (ix xs x.1)], u23, u24, u25, u26, u27], defers := [] })
      ?ownA ?assign ?body ?done ?stop)
    case keepPut =>
      intro W l x y hl hx _ _
      exact ⟨by simp, rfl, rfl, rfl, fun k hk _ => World.putObj_heap_other (by omega)⟩
    case ownI =>
      rintro pre W W' row ⟨hWo, hKp⟩ hg' hrow
      refine ⟨hWo.grown hg' (fun e => ?_), hKp.trans ⟨hg'.size, hg'.os, hg'.tape, hg'.output, fun k hk _ => hg'.block k (Nat.lt_of_lt_of_le hk hKp.1) (fun e => ?_)⟩⟩
      · have := (hrow _ e.symm).1
        omega
      · have := (hrow _ e.symm).1
        omega
    case ownA =>
      rintro x a' _ W W' row ⟨bb, hbb, hc, rfl⟩ hg' hrow
      refine ⟨bb, hbb, (hg'.block bb (Array.getElem?_eq_some_iff.1 hc).1 (fun e => ?_)).trans hc, rfl⟩
      obtain ⟨_, ob, ho, hno⟩ := hrow _ e.symm
      rw [hc] at ho
      cases ho
      cases hno
    case assign =>
      rintro l pre x W K ⟨hWo, hKp⟩ hK
      simp only [cellEnc]
      gi_wp2
      refine hK _ _ ((KeepsOthers.alloc _ _).from _) ⟨by simp, rfl, rfl, rfl, fun k hk _ => Below.heap_alloc _ _ _ (Nat.lt_of_lt_of_le hk hKp.1)⟩ ⟨hWo.alloc _, hKp.trans ⟨by simp, rfl, rfl, rfl, fun k hk _ => Below.heap_alloc _ _ _ (Nat.lt_of_lt_of_le hk hKp.1)⟩⟩ ⟨W.heap.size, hKp.1, World.alloc_heap_new _ _, rfl⟩
    case body =>
      rintro l pre x a' W hl ⟨r, hr⟩ ⟨hWo, hKp⟩ ⟨bb, hbb, hcell, rfl⟩ hlt
      have j0 : W.cell? ⟨w.heap.size, 0, none⟩ = some (.pointer (some ⟨g, 0, none⟩)) := hKp.cell k0 (by dsimp only; omega) (by dsimp only; omega)
      have j1 : W.cell? ⟨p, 0, none⟩ = some (.int .i64 bf) := hKp.cell k1 (by dsimp only; omega) (by dsimp only; omega)
      have j2 : W.cell? ⟨q, 0, none⟩ = some (.int .i64 ow) := hKp.cell k2 (by dsimp only; omega) (by dsimp only; omega)
      have j3 : W.cell? ⟨bb, 0, none⟩ = some (.int .i64 (x.1 : Int)) := by simp [World.cell?, hcell]
      have j4 : W.cell? ⟨bb, 1, none⟩ = some (.int .i64 (ix xs x.1)) := by simp [World.cell?, hcell]
      obtain ⟨hb0, hb12⟩ := hb x.1 x.2
      have hx8 : x.1 < 8 := Nat.lt_of_lt_of_le x.2 h8
      have hlv' : Lvl (rollW ca xs (fun _ => bf) (fun _ => ow) o (pre.map Fin.val)) := HLV.out.roll (fun _ => h7) _
      have hcall := wear_c g x.1 (ix xs x.1).toNat fv lo hi ca bf ow _ W hWo hx8 (by omega) h1 h2 h3 h4 (hlv' _).1 (hlv' _).2 h7 h8'
      rw [Int.toNat_of_nonneg hb0] at hcall
      have HC := Lib.hid hcall
      have HKp := Lib.hid hKp
      clear hcall hKp hcell hWo hlv'
      gi_wp2_with (refine ⟨trivial, ?_⟩; gi_at_call 63; refine (CallsIn.inRound l (callsIn_wide.2 HC.out)).mono ?_; rintro e W2 ⟨rfl, hWo2, hgr⟩; have HWo2 := Lib.hid hWo2; have HGR := Lib.hid hgr; clear hWo2 hgr)
      have hgr := HGR.out
      have hzW := HKp.out.1
      refine ⟨⟨hgr.size, fun k ob hk hko hno => (hgr.block k (Array.getElem?_eq_some_iff.1 hko).1 (fun e => ?_)).trans hko⟩, KpG.of_grown hgr hzW, ?_, HKp.out.trans (KpG.of_grown hgr hzW)⟩
      · injection e with e
        omega
      · have hWo2 := HWo2.out
        rw [List.map_append, List.map_singleton, rollW_snoc]
        exact hWo2
    case done =>
      rintro D ys W hD rfl ⟨hWo, hKp⟩ hK
      go_wp2_with fail
      refine ⟨by simp, .inl ⟨_, _, rfl, run_takeDeferred hK, ?_⟩⟩
      refine ⟨_, results_none rfl _ _ _, rfl, ?_, ?_⟩
      · have hWo' := hWo
        rw [map_finRange] at hWo'
        exact (World.putObj_heap_other (by omega)).trans hWo'
      · refine ⟨hKp.2.1.trans hbw.os, hKp.2.2.1.trans hbw.tape, hKp.2.2.2.1.trans hbw.output, by simpa using Nat.le_trans hbw.size hKp.1, fun k hk hne => ?_⟩
        rw [World.putObj_heap_other (by omega), hKp.2.2.2.2 k (by omega) (fun e => hne (by rw [e]))]
        exact hbw.block k hk hne
    case stop => exact fun _ _ _ _ _ _ h _ => h.elim
end Go.Proofs.Ytgnonfomlgkpcaa
