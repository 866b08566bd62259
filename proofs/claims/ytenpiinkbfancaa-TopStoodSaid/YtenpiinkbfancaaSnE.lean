/-
  seen: games that words are told of; ranges; proofs of games (carried over from the proofs of the chapter 03).
-/
import Derived.Test.YtenpiinkbfancaaSnD
import Derived.OwnWalkIn
import Derived.RangeFuncBox
import Derived.Laws.StructEq
import Derived.ProofKit
import Derived.OpenShut
import Derived.WideKeyArgs
import Derived.Deep.Matrix
import Derived.Deep.Slices
import Derived.SizedLaws
namespace Go.Proofs.Ytenpiinkbfancaa.Sn
open Go.RowKit
set_option linter.unusedSimpArgs false
set_option linter.unusedVariables false

section
section
open Go.RowKit
attribute [local go_sem] Oper.semAt_some
def flatS (ps : List (Nat × Nat)) : List Value := ps.flatMap fun p => [.int .i64 (p.1 : Int), .int .i64 (p.2 : Int)]
theorem flatS_snoc (ps : List (Nat × Nat)) (p : Nat × Nat) : flatS (ps ++ [p]) = flatS ps ++ [.int .i64 (p.1 : Int), .int .i64 (p.2 : Int)] := by simp [flatS]
def sx (ps : List (Nat × Nat)) (k : Nat) : Nat × Nat := ps.getD k (0, 0)
theorem flatS_at : ∀ (ps : List (Nat × Nat)) (k : Nat), k < ps.length → (flatS ps)[k * 2]? = some (.int .i64 ((sx ps k).1 : Int)) ∧ (flatS ps)[k * 2 + 1]? = some (.int .i64 ((sx ps k).2 : Int))
  | p :: ps, 0, _ => by simp [flatS, sx]
  | p :: ps, k + 1, h => by
    have := flatS_at ps k (by simpa using h)
    simp only [flatS, List.flatMap_cons, sx, List.getD_cons_succ] at *
    rw [show (k + 1) * 2 = k * 2 + 2 by omega]
    simpa using this
/-- The slice address A has the pairs ps. -/
def Sts (B : Nat) (w : World) (A : Option Addr) (ps : List (Nat × Nat)) : Prop :=
  0 < ps.length → ∃ b off, A = some ⟨b, off, none⟩ ∧ b < B ∧ ∀ k, k < ps.length → w.cell? ⟨b, off + k * 2, none⟩ = some (.int .i64 ((sx ps k).1 : Int)) ∧ w.cell? ⟨b, off + k * 2 + 1, none⟩ = some (.int .i64 ((sx ps k).2 : Int))
theorem Sts.step {w w' : World} {A : Option Addr} {ps : List (Nat × Nat)} (h : Sts w.heap.size w A ps) (hb : Below w.heap.size w w') : Sts w'.heap.size w' A ps := fun hp => by
  obtain ⟨b, off, hA, hlt, hc⟩ := h hp
  exact ⟨b, off, hA, Nat.lt_of_lt_of_le hlt hb.size, fun k hk => ⟨(hb.cell (p := ⟨b, off + k * 2, none⟩) hlt).trans (hc k hk).1, (hb.cell (p := ⟨b, off + k * 2 + 1, none⟩) hlt).trans (hc k hk).2⟩⟩
theorem sts_of {base : Nat} {w : World} {v : Value} {ps : List (Nat × Nat)} (h : w.ownsRow base 175 2 v ps.length (flatS ps)) : ∃ A c, v = .slice A ps.length c ∧ (ps.length ≤ c ∧ c ≤ 9223372036854775807) ∧ Sts w.heap.size w A ps := by
  rcases h.2 with ⟨rfl, h0⟩ | ⟨g, cap, cur, rfl, hb, hg, hn, hm, hs, ht⟩
  · exact ⟨none, 0, by rw [h0], by omega, fun hp => by omega⟩
  · refine ⟨_, cap, rfl, ⟨hn, by unfold maxLen at hm; omega⟩, fun hp => ⟨g, 0, rfl, (Array.getElem?_eq_some_iff.1 hg).1, fun k hk => ?_⟩⟩
    obtain ⟨a1, a2⟩ := flatS_at ps k hk
    have b1 := h.cells (g := g) rfl _ _ a1
    have b2 := h.cells (g := g) rfl _ _ a2
    rw [add_eq] at b1 b2
    exact ⟨b1, by rw [Nat.add_assoc]; exact b2⟩
theorem info111 : (Try.prog.info? 175).map (fun i => (i.zero, i.size, i.bytes)) = some (some (.agg #[.int .i64 0, .int .i64 0]), 2, 16) := by kernel_rfl
def StPost (w : World) (ps : List (Nat × Nat)) (e : Ending) (w' : World) : Prop := ∃ A c, e = .returned (.slice A ps.length c) ∧ (ps.length ≤ c ∧ c ≤ 9223372036854775807) ∧ Sts w'.heap.size w' A ps ∧ Below w.heap.size w w'
/-- All below n₀ but the box is kept. -/
theorem GSt.kept3 {B n₀ g : Nat} {W W' : World} {q p : Nat} {fr frn : Int} {o : Nat → Bool} {A : Option Addr} {c : Nat} {ws : List Wd} (h : GSt B W q p fr frn o A c ws) (k : Kp2 n₀ g g W W') (hB : B ≤ n₀) (hg : B ≤ g) (hq : q + 2 < g) (hgn : g < n₀) (hp : p < B) : GSt B W' q p fr frn o A c ws :=
  ⟨k.cell h.x (by dsimp only; omega) (by dsimp only; omega) (by dsimp only; omega), k.cell h.f (by dsimp only; omega) (by dsimp only; omega) (by dsimp only; omega), fun j hj => k.cell (h.o j hj) (by dsimp only; omega) (by dsimp only; omega) (by dsimp only; omega),
    k.cell h.n (by dsimp only; omega) (by dsimp only; omega) (by dsimp only; omega), k.cell h.l (by dsimp only; omega) (by dsimp only; omega) (by dsimp only; omega), fun hp0 => by
      obtain ⟨b, off, hA, hlt, hc⟩ := h.w hp0
      refine ⟨b, off, hA, hlt, fun j hj => ?_⟩
      obtain ⟨c1, c2, c3, c4, c5⟩ := hc j hj
      exact ⟨k.cell c1 (by dsimp only; omega) (by dsimp only; omega) (by dsimp only; omega), k.cell c2 (by dsimp only; omega) (by dsimp only; omega) (by dsimp only; omega), k.cell c3 (by dsimp only; omega) (by dsimp only; omega) (by dsimp only; omega), k.cell c4 (by dsimp only; omega) (by dsimp only; omega) (by dsimp only; omega), k.cell c5 (by dsimp only; omega) (by dsimp only; omega) (by dsimp only; omega)⟩⟩
def IS (n₀ g : Nat) (pre : List (Nat × Nat)) (W : World) : Prop := ∃ v, Boxed W g 177 v ∧ W.ownsRow n₀ 175 2 v pre.length (flatS pre) ∧ True
set_option maxRecDepth 100000 in
set_option maxHeartbeats 8000000 in
theorem appendSeq_c {B : Nat} (q p c : Nat) (fr frn : Int) (o : Nat → Bool) (A : Option Addr) (ws : List Wd) (w : World) (hB : B ≤ w.heap.size) (hpB : p < B) (hq : q + 2 < w.heap.size) (hS : GSt B w q p fr frn o A c ws)
    (hl9 : ws.length ≤ 1000000) (hok : ∀ k, k < ws.length → wordB frn (wx ws k) = true) :
    Calls Try.prog 123 #[.slice none 0 0, .func (.func 124) #[] #[.pointer (some ⟨q, 0, none⟩), .pointer (some ⟨q + 1, 0, none⟩), .pointer (some ⟨q + 2, 0, none⟩)]] w (StPost w (gamesL ws fr o)) := by
  have HOK := Lib.hid hok
  obtain ⟨i0, hi, hz0, hz1, hz2⟩ := info_parts info111
  clear hok
  refine calls_marks Try.func123 rfl ?_
  simp only [Try.ntmps123, List.size_toArray, List.length_cons, List.length_nil, Nat.reduceAdd, Nat.reduceSub, Array.replicate_succ, Array.replicate_zero, List.push_toArray, List.append_toArray, List.nil_append, List.cons_append]
  go_wp2_with fail
  have hb1 : Below w.heap.size w (w.alloc (.cells #[.slice none 0 0] 177)) := (Below.refl _ _).alloc (Nat.le_refl _) _
  have hsz : (w.alloc (.cells #[.slice none 0 0] 177)).heap.size = w.heap.size + 1 := by simp
  have hR0 : Boxed (w.alloc (.cells #[.slice none 0 0] 177)) w.heap.size 177 (.slice none 0 0) := Boxed.new _ _ _
  have hS0 := hS.below hb1 hB
  generalize hW1 : w.alloc (.cells #[.slice none 0 0] 177) = W1 at hb1 hsz hR0 hS0 ⊢
  clear hW1
  obtain ⟨g, hg⟩ : ∃ g, g = w.heap.size := ⟨_, rfl⟩
  rw [← hg] at hR0 hsz hq
  rw [← hg]
  have l0 : g < W1.heap.size := by omega
  have hBg : B ≤ g := by omega
  have hwg : w.heap.size ≤ g := by omega
  have hwW : w.heap.size ≤ W1.heap.size := by omega
  clear hg hsz
  refine wpIn_wide.1 (wpIn_rangeFunc_ownH (F := Fence.wide) (n := 5) (α := Nat × Nat) rfl (by omega) (gf := 124) (lb := #[.pointer (some ⟨q, 0, none⟩), .pointer (some ⟨q + 1, 0, none⟩), .pointer (some ⟨q + 2, 0, none⟩)]) rfl trivial (enters_of Try.func124 (by kernel_rfl) rfl)
    (games_stops 4 q p c fr frn o A ws W1.heap.size (by omega) hl9 HOK.out (Kp2 W1.heap.size g g) (fun h k => h.trans k) (fun _ _ hn hb => Kp2.of_below hb hn) (fun _ _ h => h.1)
      (fun W W' hk hs => hs.kept3 hk (by omega) hBg hq l0 hpB) W1 (Nat.le_refl _) hS0)
    (fun h k => h.trans k) ?keepPut (Below.refl _ _) (fun _ => rfl)
    (fun pre W => IS W1.heap.size g pre W ∧ Kp2 W1.heap.size g g W1 W)
    (fun _ _ _ => False) ?ownI (fun _ _ _ _ _ hs _ _ => hs) ⟨⟨_, hR0, World.ownsRow_nil _ _ _ _, trivial⟩, Kp2.refl _ _ _ _⟩
    (fun x a' W => ∃ bb, W1.heap.size ≤ bb ∧ W.heap[bb]? = some (.cells #[.int .i64 (x.1 : Int), .int .i64 (x.2 : Int)] 175 (0, 0)) ∧ a' = { tmps := #[.slice none 0 0, .func (.func 124) #[] #[.pointer (some ⟨q, 0, none⟩), .pointer (some ⟨q + 1, 0, none⟩), .pointer (some ⟨q + 2, 0, none⟩)], .pointer (some ⟨g, 0, none⟩), undef, .slice none 0 0, .pointer (some ⟨bb, 0, none⟩), .func (.func 124) #[] #[.pointer (some ⟨q, 0, none⟩), .pointer (some ⟨q + 1, 0, none⟩), .pointer (some ⟨q + 2, 0, none⟩)], .agg #[.int .i64 (x.1 : Int), .int .i64 (x.2 : Int)], undef, undef, undef, undef, undef], defers := [] })
    ?ownA ?assign ?body ?done ?stop)
  case keepPut =>
    intro W l x y hl hx _ _
    exact ⟨by simp, rfl, rfl, rfl, fun k hk _ _ => World.putObj_heap_other (by omega)⟩
  case ownI =>
    rintro pre W W' row ⟨⟨v, hv, hr, -⟩, hKp⟩ hg' hrow
    have hz := hKp.1
    refine ⟨⟨v, hv.kept hg' (fun e' => ?_), hr.kept hg' ?_, trivial⟩, hKp.trans ⟨hg'.size, hg'.os, hg'.tape, hg'.output, fun k hk _ _ => hg'.block k (by omega) (fun e => ?_)⟩⟩
    · obtain ⟨_, ob, ho, hno⟩ := hrow _ e'.symm
      rw [show W.heap[g]? = _ from hv] at ho; cases ho; cases hno
    · rcases hr.2 with ⟨rfl, _⟩ | ⟨g', cap, cur, rfl, _, hgb, _⟩
      · exact .inl rfl
      · refine .inr fun e' => ?_
        obtain ⟨_, ob, ho, hno⟩ := hrow g' (by simpa [Value.ownBlock] using e'.symm)
        rw [hgb] at ho; cases ho; cases hno
    · have := (hrow _ e.symm).1
      omega
  case ownA =>
    rintro x a' _ W W' row ⟨bb, hbb, hc, rfl⟩ hg' hrow
    refine ⟨bb, hbb, (hg'.block bb (Array.getElem?_eq_some_iff.1 hc).1 (fun e => ?_)).trans hc, rfl⟩
    obtain ⟨_, ob, ho, hno⟩ := hrow _ e.symm
    rw [hc] at ho
    cases ho
    cases hno
  case assign =>
    rintro l pre x W K ⟨⟨v, hv, hr, -⟩, hKp⟩ hK
    have hz := hKp.1
    simp only [gEnc]
    gi_wp2
    have hbW : Below W.heap.size W (W.alloc (.cells #[.int .i64 (x.1 : Int), .int .i64 (x.2 : Int)] 175)) := (Below.refl _ _).alloc (Nat.le_refl _) _
    refine hK _ _ ((KeepsOthers.alloc _ _).from _) (Kp2.of_below hbW hz) ⟨⟨v, hv.alloc _, hr.alloc _, trivial⟩, hKp.trans (Kp2.of_below hbW hz)⟩ ⟨W.heap.size, hz, World.alloc_heap_new _ _, rfl⟩
  case done =>
    rintro D ys W hD rfl ⟨⟨v, hv, hr, -⟩, hKp⟩ hK
    have hz := hKp.1
    obtain ⟨Av, cv, rfl⟩ := ownsRow_form hr
    have c0 := hv.cell
    have HKD := Lib.hid hK
    have HKp := Lib.hid hKp
    have HR := Lib.hid hr
    have HSz : Hid ((gamesL ws fr o).length = (gamesL ws fr o).length) := rfl
    generalize hys : gamesL ws fr o = ys at *
    clear hys hK hKp hr
    go_wp2_with fail
    refine ⟨by simp, .inl ⟨_, _, rfl, run_takeDeferred (w := W) HKD.out, ?_⟩⟩
    refine ⟨.slice Av ys.length cv, by simp [results, Try.results123, go_sem], ?_⟩
    have hO : (W.putObj D (.deferred none)).ownsRow W1.heap.size 175 2 (.slice Av ys.length cv) ys.length (flatS ys) := ownsRow_putObj HR.out _ HKD.out rfl
    obtain ⟨A2, c2, e2, h1, h2⟩ := sts_of hO
    injection e2 with e3 e4 e5
    subst e3 e5
    have hk := HKp.out
    exact ⟨_, _, rfl, h1, h2, hb1.trans ⟨hk.2.1, hk.2.2.1, hk.2.2.2.1, by simpa using hk.1, fun k hk' => (World.putObj_heap_other (by omega)).trans (hk.2.2.2.2 k (by omega) (by omega) (by omega))⟩⟩
  case body =>
    rintro l pre x a' W hl ⟨r, hr'⟩ ⟨⟨v, hv, hr, -⟩, hKp⟩ ⟨bb, hbb, hcell, rfl⟩ hlt
    obtain ⟨xf, xs⟩ := x
    dsimp only at hcell ⊢
    have hz := hKp.1
    have hbw : bb < W.heap.size := (Array.getElem?_eq_some_iff.1 hcell).1
    have c0 := hv.cell
    have c1 : W.cell? ⟨bb, 0, none⟩ = some (.int .i64 (xf : Int)) := by simp [World.cell?, hcell]
    have c2 : W.cell? ⟨bb, 1, none⟩ = some (.int .i64 (xs : Int)) := by simp [World.cell?, hcell]
    have hgw : g < W.heap.size := hv.lt
    have hne := hv.not_row (by decide) hr
    have HRW : Hid ((W.alloc (.cells #[.int .i64 (xf : Int), .int .i64 (xs : Int)] 175)).ownsRow W1.heap.size 175 2 v pre.length (flatS pre)) := hr.alloc _
    have HV := Lib.hid hv
    have HR := Lib.hid hr
    have HKp := Lib.hid hKp
    have HPL : Hid (pre.length + 1 ≤ 101) := by show _ ≤ _; omega
    have hb0 : Below W.heap.size W (W.alloc (.cells #[.int .i64 (xf : Int), .int .i64 (xs : Int)] 175)) := (Below.refl _ _).alloc (Nat.le_refl _) _
    clear hv hr hKp hcell
    gi_wp2_with (gi_at_builtin; refine wpListIn_append_own _ rfl _ _ 177 rfl W1.heap.size 175 i0 _ 2 16 Try.underlying177 hi hz0 hz1 hz2 rfl (by decide) _ _ _ rfl HRW.out ⟨W.heap.size, 0, none⟩ 1 1 [.int .i64 (xf : Int), .int .i64 (xs : Int)] rfl rfl ?hcc (by simp [Value.oneCell']) (by have := HPL.out; unfold maxLen; omega) (by have := HPL.out; omega) (by simp; omega) ?_)
    case hcc =>
      intro j u hu
      rcases j with _ | _ | j
      · simp at hu; subst hu; rw [add_eq]; simp
      · simp at hu; subst hu; rw [add_eq]; simp
      · simp at hu
    intro v' w1 hown' hgrow _
    obtain ⟨g', cap', rfl⟩ := ownsRow_succ hown'
    have hv1 := (HV.out.alloc (.cells #[.int .i64 (xf : Int), .int .i64 (xs : Int)] 175)).kept hgrow hne
    have d0 := hv1.cell
    have d1 := hv1.frozen
    have HO := Lib.hid hown'
    have HG := Lib.hid hgrow
    have HV1 := Lib.hid hv1
    clear hown' hgrow hv1
    gi_wp2
    have hB1 : Below W1.heap.size W w1 := ((Below.refl _ W).alloc hz _).grown HG.out (by simp; omega) (fun j ej => (World.ownsRow.lt HR.out j ej).1)
    have hk : Kp2 W1.heap.size g g W (w1.setCell ⟨g, 0, none⟩ (.slice (some ⟨g', 0, none⟩) (pre.length + 1) cap')) := (show Kp2 W1.heap.size g g W w1 from ⟨hB1.size, hB1.os, hB1.tape, hB1.output, fun k hk _ _ => hB1.block k hk⟩).trans (Kp2.of_set (n₀ := W1.heap.size) (.inl rfl) _)
    refine ⟨KeepsOthers.from (((KeepsOthers.alloc W _).trans (KeepsOthers.of_grownBy HG.out fun j o ej hj => ?_)).trans (KeepsOthers.setCell _ _ _)) _, hk, ⟨_, HV1.out.set _, ?_, trivial⟩, HKp.out.trans hk⟩
    · rcases HRW.out.2 with ⟨rfl, _⟩ | ⟨g, cap, cur, rfl, _, hgb, _⟩
      · simp [Value.ownBlock] at ej
      · obtain rfl : g = j := by simpa [Value.ownBlock] using ej
        rw [hgb] at hj; cases hj; rfl
    · have h9 := HO.out.kept (grownBy_setCell' w1 g (.slice (some ⟨g', 0, none⟩) (pre.length + 1) cap')) (.inr (HV1.out.not_row (by decide) HO.out).symm)
      rw [List.length_append, flatS_snoc]
      exact h9
  case stop => exact fun _ _ _ _ _ _ h _ => h.elim
set_option maxHeartbeats 1000000 in
theorem collect_c {B : Nat} (q p c : Nat) (fr frn : Int) (o : Nat → Bool) (A : Option Addr) (ws : List Wd) (w : World) (hB : B ≤ w.heap.size) (hpB : p < B) (hq : q + 2 < w.heap.size) (hS : GSt B w q p fr frn o A c ws)
    (hl9 : ws.length ≤ 1000000) (hok : ∀ k, k < ws.length → wordB frn (wx ws k) = true) :
    Calls Try.prog 67 #[.func (.func 124) #[] #[.pointer (some ⟨q, 0, none⟩), .pointer (some ⟨q + 1, 0, none⟩), .pointer (some ⟨q + 2, 0, none⟩)]] w (StPost w (gamesL ws fr o)) := by
  have H := Lib.hid (appendSeq_c q p c fr frn o A ws w hB hpB hq hS hl9 hok)
  clear hok hS
  go_enter Try.func67, Try.ntmps67
  go_wp2_with fail
  refine H.out.mono ?_
  rintro e w1 ⟨Ar, cr, rfl, h1, h2, h3⟩
  have H1 := Lib.hid h1
  have H2 := Lib.hid h2
  have H3 := Lib.hid h3
  clear h1 h2 h3
  generalize hl : (gamesL ws fr o).length = n at *
  have HL := Lib.hid hl
  clear hl
  go_wp2_with fail
  go_ret
  exact ⟨Ar, cr, by rw [HL.out]; rfl, by rw [HL.out]; exact H1.out, H2.out, H3.out⟩
set_option maxRecDepth 100000 in
theorem eq111 (a b c d : Int) (w : World) : (binOp .eql 175 (.agg #[.int .i64 a, .int .i64 b]) (.agg #[.int .i64 c, .int .i64 d])).run Try.prog w = .ok (.bool (a == c && b == d)) w := by
  have u3 := Try.underlying3
  have hS : Try.prog.underlying 175 = some (.struct (Try.prog.fieldsOf 175)) := by kernel_rfl
  have hp : Try.prog.stoodInHeld 175 = false := by kernel_rfl
  rw [run_eql_struct, show (10000 : Nat) = 9999 + 1 from rfl, run_equalIn_agg w 9999 175 _ _ hS hp]
  simp only [Program.fieldsOf, Try.underlying175]
  go_simp
  by_cases h1 : a = c <;> by_cases h2 : b = d <;> simp [h1, h2]
theorem sx_lt {ps : List (Nat × Nat)} {k : Nat} (h : k < ps.length) : sx ps k = ps[k] := by simp [sx, h]
def FoundS (w : World) (ps : List (Nat × Nat)) (p : Nat × Nat) (e : Ending) (w' : World) : Prop :=
  (∃ k : Nat, e = .returned (.int .i64 (k : Int)) ∧ p ∈ ps ∧ Below w.heap.size w w') ∨ (e = .returned (.int .i64 (-1)) ∧ ¬ p ∈ ps ∧ Below w.heap.size w w')
set_option maxRecDepth 100000 in
set_option maxHeartbeats 2000000 in
theorem indexS (A : Option Addr) (c : Nat) (ps : List (Nat × Nat)) (pa pb : Nat) (w : World) (h : Sts w.heap.size w A ps) (hc : ps.length ≤ c ∧ c ≤ 9223372036854775807) :
    Calls Try.prog 122 #[.slice A ps.length c, .agg #[.int .i64 (pa : Int), .int .i64 (pb : Int)]] w (FoundS w ps (pa, pb)) := by
  have hb0 : Below w.heap.size w (w.alloc (.cells #[.int .i64 (pa : Int), .int .i64 (pb : Int)] 175)) := (Below.refl _ _).alloc (Nat.le_refl _) _
  have k0 : (w.alloc (.cells #[.int .i64 (pa : Int), .int .i64 (pb : Int)] 175)).cell? ⟨w.heap.size, 0, none⟩ = some (.int .i64 (pa : Int)) := by simp
  have k1 : (w.alloc (.cells #[.int .i64 (pa : Int), .int .i64 (pb : Int)] 175)).cell? ⟨w.heap.size, 1, none⟩ = some (.int .i64 (pb : Int)) := by simp
  have HB := Lib.hid hb0
  have HS := Lib.hid (h.step hb0)
  clear h hb0
  go_enter Try.func122, Try.ntmps122
  go_wp2_with fail
  generalize w.alloc (.cells #[.int .i64 (pa : Int), .int .i64 (pb : Int)] 175) = W0 at *
  go_loopw [8] (fun i wr => ∃ (k n : Nat), k ≤ ps.length ∧ i = .int .i64 k ∧ (∀ j, j < k → sx ps j ≠ (pa, pb)) ∧ wr = W0.drewN n) (fun i _ => ps.length - (intOf i).toNat)
  case atStart => exact ⟨0, 0, by omega, rfl, (fun j hj => by omega), rfl⟩
  case round =>
    obtain ⟨k, n, hk, rfl, hn, rfl⟩ := hrel
    have HN := Lib.hid hn
    clear hn
    by_cases h1 : k < ps.length
    · have h1i : (k : Int) < (ps.length : Int) := by omega
      obtain ⟨b, off, rfl, hbl, hcc⟩ := HS.out (by omega)
      obtain ⟨c1, c2⟩ := hcc k h1
      have HX : Hid (sx ps k = ((sx ps k).1, (sx ps k).2)) := rfl
      generalize hxa : (sx ps k).1 = xa at *
      generalize hxb : (sx ps k).2 = xb at *
      have E := fun W => eq111 (pa : Int) (pb : Int) (xa : Int) (xb : Int) W
      clear hcc hxa hxb
      by_cases he : xa = pa ∧ xb = pb
      · have heb : ((pa : Int) == (xa : Int) && (pb : Int) == (xb : Int)) = true := by simp [he.1, he.2]
        rw [heb] at E
        have HIN : Hid ((pa, pb) ∈ ps) := by
          show _ ∈ _
          have := HX.out
          rw [he.1, he.2, sx_lt h1] at this
          rw [← this]
          exact List.getElem_mem h1
        clear heb he
        go_wp2_with fail
        go_quiet (fail)
        go_wp2_with fail
        go_ret
        exact .inl ⟨k, rfl, HIN.out, below_drewN (below_drewN HB.out _) _⟩
      · have heb : ((pa : Int) == (xa : Int) && (pb : Int) == (xb : Int)) = false := by
          rw [Bool.and_eq_false_iff]
          by_cases h2 : xa = pa
          · exact .inr (beq_eq_false_iff_ne.2 (fun e => he ⟨h2, by omega⟩))
          · exact .inl (beq_eq_false_iff_ne.2 (fun e => h2 (by omega)))
        rw [heb] at E
        have HNE : Hid (sx ps k ≠ (pa, pb)) := fun e => he (by rw [HX.out] at e; injection e with e1 e2; exact ⟨e1, e2⟩)
        clear heb he
        go_wp2_with fail
        go_quiet (fail)
        go_wp2_with fail
        go_roundw
        case rel =>
          have hst : ∀ j, j < k + 1 → sx ps j ≠ (pa, pb) := fun j hj => by
            by_cases e : j = k
            · subst e; exact HNE.out
            · exact HN.out j (by omega)
          have e1 : ((k : Int) + 1) = ((k + 1 : Nat) : Int) := by omega
          first
            | exact ⟨k + 1, _, by omega, by go_num, hst, rfl⟩
            | (rw [e1]; exact ⟨_, _, _, _, _, _, ⟨k + 1, _, by omega, rfl, hst, rfl⟩, rfl⟩)
            | trace_state
        case measure =>
          first
            | (simp [intOf]; omega)
            | (show ps.length - ((k : Int) + 1).toNat < ps.length - (k : Int).toNat; omega)
    · have h1i : ¬ (k : Int) < (ps.length : Int) := by omega
      have HNO : Hid (¬ (pa, pb) ∈ ps) := fun hin => by
        obtain ⟨j, hj, e⟩ := List.getElem_of_mem hin
        exact HN.out j (by omega) (by rw [sx_lt hj]; exact e)
      go_wp2_with fail
      go_ret
      exact .inr ⟨rfl, HNO.out, below_drewN HB.out _⟩
set_option maxRecDepth 100000 in
set_option maxHeartbeats 1000000 in
theorem containsS (A : Option Addr) (c : Nat) (ps : List (Nat × Nat)) (pa pb : Nat) (w : World) (h : Sts w.heap.size w A ps) (hc : ps.length ≤ c ∧ c ≤ 9223372036854775807) :
    Calls Try.prog 66 #[.slice A ps.length c, .agg #[.int .i64 (pa : Int), .int .i64 (pb : Int)]] w (Ans w (.bool (decide ((pa, pb) ∈ ps)))) := by
  have hb0 : Below w.heap.size w (w.alloc (.cells #[.int .i64 (pa : Int), .int .i64 (pb : Int)] 175)) := (Below.refl _ _).alloc (Nat.le_refl _) _
  have H := Lib.hid (indexS A c ps pa pb _ (h.step hb0) hc)
  clear h
  go_enter Try.func66, Try.ntmps66
  go_wp2_with fail
  refine H.out.mono ?_
  rintro e w1 (⟨k, rfl, hk, hb⟩ | ⟨rfl, hk, hb⟩)
  · go_wp2_with fail
    go_ret
    exact ⟨ret_bool (by rw [decide_eq_true hk]), hb0.trans (hb.mono hb0.size)⟩
  · go_wp2_with fail
    go_ret
    exact ⟨ret_bool (by rw [decide_eq_false hk]), hb0.trans (hb.mono hb0.size)⟩
end
section
open Go.RowKit
/-- Is a frame's list of balls one of its games? -/
noncomputable def prR (ws : List Wd) (o : Nat → Bool) (f : Nat) (xs : List Int) : Bool :=
  inB (xs.length : Int) 1 2 && (inB (ix xs 0) 0 10 && ((decide (ix xs 0 = 10) == decide (xs.length = 1)) && ((decide (xs.length ≠ 2) || inB (ix xs 1) 0 (10 - ix xs 0)) &&
    decide (((10 - ix xs 0).toNat, if xs.length = 2 then (10 - ix xs 0 - ix xs 1).toNat else 0) ∈ gamesL ws (f : Int) o))))
noncomputable def proveB (m : Nat) (ws : List Wd) (o : Nat → Bool) (game : List (List Int)) : Bool := decide (game.length = m) && allB game.length fun f => prR ws o f (rx game f)
theorem prove_no {m : Nat} {ws : List Wd} {o : Nat → Bool} {game : List (List Int)} {k : Nat} (hk : k < game.length) (h : prR ws o k (rx game k) = false) : proveB m ws o game = false := by
  unfold proveB
  rw [allB_false hk h, Bool.and_false]
theorem prove_yes {m : Nat} {ws : List Wd} {o : Nat → Bool} {game : List (List Int)} (hl : game.length = m) (h : AllB game.length fun f => prR ws o f (rx game f)) : proveB m ws o game = true := by
  unfold proveB
  rw [allB_true h, decide_eq_true hl]
  rfl
theorem prove_len {m : Nat} {ws : List Wd} {o : Nat → Bool} {game : List (List Int)} (hl : game.length ≠ m) : proveB m ws o game = false := by
  unfold proveB
  rw [decide_eq_false hl]
  rfl
/-- The closure's captured blocks. -/
def GS (w : World) (q p : Nat) (fr frn : Int) (o : Nat → Bool) (A : Option Addr) (c : Nat) (ws : List Wd) : Prop := GSt w.heap.size w q p fr frn o A c ws ∧ q + 2 < w.heap.size ∧ p < w.heap.size
def GmPost (w : World) (p : Nat) (fr frn : Int) (o : Nat → Bool) (A : Option Addr) (c : Nat) (ws : List Wd) (e : Ending) (w' : World) : Prop :=
  ∃ q, e = .returned (.func (.func 124) #[] #[.pointer (some ⟨q, 0, none⟩), .pointer (some ⟨q + 1, 0, none⟩), .pointer (some ⟨q + 2, 0, none⟩)]) ∧ GS w' q p fr frn o A c ws ∧ Below w.heap.size w w'
theorem games2_c (p c : Nat) (fr frn : Int) (o : Nat → Bool) (A : Option Addr) (ws : List Wd) (w : World) (hp : p < w.heap.size) (hn : w.cell? ⟨p, 0, none⟩ = some (.int .i64 frn)) (hl : w.cell? ⟨p, 1, none⟩ = some (.slice A ws.length c)) (hw : Wds w.heap.size w A ws) :
    Calls Try.prog 68 #[.pointer (some ⟨p, 0, none⟩), .int .i64 fr, .agg #[.bool (o 0), .bool (o 1), .bool (o 2), .bool (o 3)]] w (GmPost w p fr frn o A c ws) := by
  refine (games_c p fr o w).mono ?_
  rintro e w2 ⟨rfl, rfl⟩
  have hb : Below w.heap.size w (((w.alloc (.cells #[.pointer (some ⟨p, 0, none⟩)] 127)).alloc (.cells #[.int .i64 fr] 3)).alloc (.cells #[.bool (o 0), .bool (o 1), .bool (o 2), .bool (o 3)] 129)) := (((Below.refl _ _).alloc (Nat.le_refl _) _).alloc (by simp) _).alloc (by simp; omega) _
  have hz := hb.size
  refine ⟨w.heap.size, rfl, ⟨⟨by go_simp, by go_simp, ?_, cell_of_ans hb hn, cell_of_ans hb hl, (hw.below hb).more hz⟩, by simp, by simp; omega⟩, hb⟩
  intro j hj
  rcases (by omega : j = 0 ∨ j = 1 ∨ j = 2 ∨ j = 3) with rfl | rfl | rfl | rfl <;> go_simp
theorem gs_collect {w : World} {q p c : Nat} {fr frn : Int} {o : Nat → Bool} {A : Option Addr} {ws : List Wd} (h : GS w q p fr frn o A c ws) (hl9 : ws.length ≤ 1000000) (hok : ∀ k, k < ws.length → wordB frn (wx ws k) = true) :
    Calls Try.prog 67 #[.func (.func 124) #[] #[.pointer (some ⟨q, 0, none⟩), .pointer (some ⟨q + 1, 0, none⟩), .pointer (some ⟨q + 2, 0, none⟩)]] w (StPost w (gamesL ws fr o)) :=
  collect_c (B := w.heap.size) q p c fr frn o A ws w (Nat.le_refl _) h.2.2 h.2.1 h.1 hl9 hok
set_option maxRecDepth 100000 in
set_option maxHeartbeats 32000000 in
theorem prove_ok (A At Ag : Option Addr) (ws : List Wd) (ts : List Int) (game : List (List Int)) (c ct cg m : Nat) (w : World) (hw : Wds w.heap.size w A ws) (ht : Ints w.heap.size w At ts) (hg : Grd w.heap.size w Ag game) (hc : ws.length ≤ c ∧ c ≤ 9223372036854775807) (hct : ts.length ≤ ct ∧ ct ≤ 9223372036854775807) (hcg : game.length ≤ cg ∧ cg ≤ 9223372036854775807) (h : askErr (m : Int) ws ts = 0) :
    Calls Try.prog 26 #[.agg #[.int .i64 (m : Int), .slice A ws.length c], .slice At ts.length ct, .slice Ag game.length cg] w (Ans w (.bool (proveB m ws (offT ts) game))) := by
  have hb0 : Below w.heap.size w (w.alloc (.cells #[.int .i64 (m : Int), .slice A ws.length c] 40)) := (Below.refl _ _).alloc (Nat.le_refl _) _
  have k0 : (w.alloc (.cells #[.int .i64 (m : Int), .slice A ws.length c] 40)).cell? ⟨w.heap.size, 0, none⟩ = some (.int .i64 (m : Int)) := by simp
  have k1 : (w.alloc (.cells #[.int .i64 (m : Int), .slice A ws.length c] 40)).cell? ⟨w.heap.size, 1, none⟩ = some (.slice A ws.length c) := by simp
  have HC := Lib.hid (asked_ok A At ws ts c ct (m : Int) _ (hw.step hb0) (ht.step hb0) hc hct h)
  have HB0 := Lib.hid hb0
  obtain ⟨h30, hf1, hf5, hok⟩ := laneOk (askOk h).1
  have HOK := Lib.hid hok
  have hm5 : m ≤ 5 := by omega
  have HG := Lib.hid hg
  have HWL : Hid (ws.length ≤ 1000000) := by show _ ≤ _; omega
  clear h hok hb0 hg
  generalize offT ts = o at HC ⊢
  go_enter Try.func26, Try.ntmps26
  go_wp2_with fail
  generalize (w.alloc (.cells #[.int .i64 (m : Int), .slice A ws.length c] 40)) = W0 at k0 k1 HC HB0 ⊢
  refine HC.out.mono ?_
  rintro e w1 ⟨p, b, rfl, hp1, hp2, hb1, hWat, hbw⟩
  have hb2 : Below w1.heap.size w1 (w1.alloc (.cells #[.bool (o 0), .bool (o 1), .bool (o 2), .bool (o 3)] 129)) := (Below.refl _ _).alloc (Nat.le_refl _) _
  have HO : Hid (B4 (w1.alloc (.cells #[.bool (o 0), .bool (o 1), .bool (o 2), .bool (o 3)] 129)) w1.heap.size o) := B4.new w1 _ _ _ _ _ ⟨rfl, rfl, rfl, rfl⟩
  have HWA := Lib.hid (hWat.step hb2 hbw.size)
  have HB2 : Hid (Below w.heap.size w (w1.alloc (.cells #[.bool (o 0), .bool (o 1), .bool (o 2), .bool (o 3)] 129))) := (HB0.out.trans (hbw.mono HB0.out.size)).alloc (Nat.le_trans HB0.out.size hbw.size) _
  have k2 := HWA.out.cn
  clear hWat hbw hb2
  by_cases hgl : game.length = m
  · have hgb : ((game.length : Int) != (m : Int)) = false := bne_eq_false_iff_eq.2 (by omega)
    have HGL := Lib.hid hgl
    clear hgl
    go_wp2_with fail
    generalize hw2 : w1.alloc (.cells #[.bool (o 0), .bool (o 1), .bool (o 2), .bool (o 3)] 129) = w2 at HO HWA HB2 k2 ⊢
    generalize hg8 : w1.heap.size = g8 at *
    have hp3 : p < w2.heap.size := World.block_lt_of_cell? w2 _ k2
    have hW02 : W0.heap.size ≤ w2.heap.size := by rw [← hw2, World.size_alloc]; omega
    clear hw2 hg8
    go_loopw [34] (fun i wr => ∃ k : Nat, k ≤ game.length ∧ i = .int .i64 k ∧ AllB k (fun f => prR ws o f (rx game f)) ∧ Below w2.heap.size w2 wr) (fun i _ => game.length - (intOf i).toNat)
    case atStart => exact ⟨0, by omega, rfl, fun j hj => by omega, Below.refl _ _⟩
    case round =>
      obtain ⟨k, hk, rfl, hall, hbr⟩ := hrel
      have HALL := Lib.hid hall
      have HBr := Lib.hid hbr
      have HBX : Hid (Below w.heap.size w wr) := HB2.out.trans (hbr.mono HB2.out.size)
      have hzr := hbr.size
      have hWr := HWA.out.step hbr (by omega)
      have HOr := Lib.hid (HO.out.below hbr)
      clear hall hbr
      by_cases h1 : k < game.length
      · have h1i : (k : Int) < (game.length : Int) := by omega
        obtain ⟨d0, d1, d2, d3, -⟩ := HOr.out.cells
        obtain ⟨bg, og, Ax, cx, rfl, _, hc0, hcx, hcx2, hi⟩ := (HG.out.step HBX.out).at_ h1
        have HPR : Hid (prR ws o k (rx game k) = (inB ((rx game k).length : Int) 1 2 && (inB (ix (rx game k) 0) 0 10 && ((decide (ix (rx game k) 0 = 10) == decide ((rx game k).length = 1)) && ((decide ((rx game k).length ≠ 2) || inB (ix (rx game k) 1) 0 (10 - ix (rx game k) 0)) && decide (((10 - ix (rx game k) 0).toNat, if (rx game k).length = 2 then (10 - ix (rx game k) 0 - ix (rx game k) 1).toNat else 0) ∈ gamesL ws (k : Int) o)))))) := rfl
        obtain ⟨xs, hxs⟩ : ∃ xs, xs = rx game k := ⟨_, rfl⟩
        rw [← hxs] at hc0 hcx hi
        have HI := Lib.hid hi
        have HXS : Hid (True) := trivial
        clear hi
        cases t1 : inB (xs.length : Int) 1 2
        · have HNO : Hid (proveB m ws o game = false) := prove_no h1 (by rw [HPR.out, ← hxs, t1]; rfl)
          clear hxs HPR
          go_wp2_with (go_at_call 65; refine (within_c _ _ _ _).mono ?_; rintro e w9 ⟨rfl, rfl⟩)
          go_ret
          exact ⟨ret_bool HNO.out.symm, HBX.out⟩
        · have hlen := (inB_eq _ _ _).1 t1
          obtain ⟨bx, ox, rfl, _, x0c⟩ := HI.out.at_ (k := 0) (by omega)
          have hx0p : 0 < xs.length := by omega
          have hx0pi : (0 : Int) < (xs.length : Int) := by omega
          obtain ⟨x0, hx0⟩ : ∃ x0, x0 = ix xs 0 := ⟨_, rfl⟩
          rw [← hx0, Nat.add_zero] at x0c
          cases t2 : inB x0 0 10
          · have HNO : Hid (proveB m ws o game = false) := prove_no h1 (by rw [HPR.out, ← hxs, ← hx0, t1, t2]; rfl)
            clear hxs HPR hx0
            go_wp2_with (go_at_call 65; refine (within_c _ _ _ _).mono ?_; rintro e w9 ⟨rfl, rfl⟩)
            go_ret
            exact ⟨ret_bool HNO.out.symm, HBX.out⟩
          · obtain ⟨x00, x01⟩ := (inB_eq _ _ _).1 t2
            rcases (by omega : xs.length = 1 ∨ xs.length = 2) with hl1 | hl2
            · have hl1i : ((xs.length : Int) == 1) = true := by rw [hl1]; rfl
              have hl2i : ((xs.length : Int) == 2) = false := by rw [hl1]; rfl
              by_cases h10 : x0 = 10
              · subst h10
                have HPE : Hid (prR ws o k (rx game k) = decide ((0, 0) ∈ gamesL ws (k : Int) o)) := by
                  show _ = _
                  rw [HPR.out, ← hxs, ← hx0, t1, t2, hl1]
                  simp
                have hbz : Below wr.heap.size wr (wr.alloc (.cells #[.int .i64 0, .int .i64 0] 175)) := (Below.refl _ _).alloc (Nat.le_refl _) _
                have s0 : (wr.alloc (.cells #[.int .i64 0, .int .i64 0] 175)).cell? ⟨wr.heap.size, 0, none⟩ = some (.int .i64 0) := by simp
                have s1 : (wr.alloc (.cells #[.int .i64 0, .int .i64 0] 175)).cell? ⟨wr.heap.size, 1, none⟩ = some (.int .i64 0) := by simp
                have HBz := Lib.hid hbz
                have hqz : wr.heap.size < (wr.alloc (.cells #[.int .i64 0, .int .i64 0] 175)).heap.size := by simp
                clear hxs HPR hx0 hl1 hbz
                go_upto_region 16 with (go_at_call 65; refine (within_c _ _ _ _).mono ?_; rintro e w9 ⟨rfl, rfl⟩)
                generalize wr.alloc (.cells #[.int .i64 0, .int .i64 0] 175) = wz at s0 s1 HBz hqz ⊢
                obtain ⟨q12, hq12⟩ : ∃ q, q = wr.heap.size := ⟨_, rfl⟩
                rw [← hq12] at s0 s1 hqz ⊢
                clear hq12
                have HBz2 : Hid (Below w.heap.size w wz) := HBX.out.trans (HBz.out.mono HBX.out.size)
                have e0 := cell_of_ans HBz.out d0
                have e1 := cell_of_ans HBz.out d1
                have e2 := cell_of_ans HBz.out d2
                have e3 := cell_of_ans HBz.out d3
                have HWz := Lib.hid (hWr.step HBz.out (by omega))
                have hpz := HWz.out.cn
                have hpzz := World.block_lt_of_cell? wz _ hpz
                have hzz := HBz.out.size
                have HGM : Hid (∀ W, Below wz.heap.size wz W → Calls Try.prog 68 #[.pointer (some ⟨p, 0, none⟩), .int .i64 (k : Int), .agg #[.bool (o 0), .bool (o 1), .bool (o 2), .bool (o 3)]] W (GmPost W p (k : Int) (m : Int) o A c ws)) := fun W h => games2_c p c (k : Int) (m : Int) o A ws W (by have := h.size; dsimp only at hpzz; omega) (cell_of_ans h HWz.out.cn) (cell_of_ans h HWz.out.cl) ((HWz.out.wd.more (by omega)).step h)
                clear d0 d1 d2 d3 hWr hpz
                have hd : Below wz.heap.size wz wz.drew := (Below.refl _ _).drew
                have HY : Hid (Below wz.heap.size wz wz.drew) := hd
                clear hd
                go_region_held3 (fun w' => w'.cell? ⟨g8, 0, none⟩ = some (.bool (o 0)) ∧ w'.cell? ⟨g8, 1, none⟩ = some (.bool (o 1)) ∧ w'.cell? ⟨g8, 2, none⟩ = some (.bool (o 2)) ∧ w'.cell? ⟨g8, 3, none⟩ = some (.bool (o 3)) ∧ w'.cell? ⟨q12, 0, none⟩ = some (.int .i64 (0)) ∧ w'.cell? ⟨q12, 1, none⟩ = some (.int .i64 (0))) (go_keep) (first | (go_at_call 68; refine (HGM.out _ HY.out).mono ?_; rintro e w5 ⟨qg, rfl, hgs, hb⟩; have HGS := Lib.hid hgs; clear hgs; replace e0 := cell_of_ans (below_drew_l hb) e0; replace e1 := cell_of_ans (below_drew_l hb) e1; replace e2 := cell_of_ans (below_drew_l hb) e2; replace e3 := cell_of_ans (below_drew_l hb) e3; replace s0 := cell_of_ans (below_drew_l hb) s0; replace s1 := cell_of_ans (below_drew_l hb) s1; replace HY := Lib.hid (HY.out.trans (hb.mono HY.out.size)); clear hb) | (go_at_call 67; refine (gs_collect HGS.out HWL.out HOK.out).mono ?_; rintro e w6 ⟨Ar, cr, rfl, hcr, hst, hb⟩; have HST := Lib.hid hst; clear hst; replace e0 := cell_of_ans hb e0; replace e1 := cell_of_ans hb e1; replace e2 := cell_of_ans hb e2; replace e3 := cell_of_ans hb e3; replace s0 := cell_of_ans hb s0; replace s1 := cell_of_ans hb s1; replace HY := Lib.hid (HY.out.trans (hb.mono HY.out.size)); clear hb) | (go_at_call 66; refine (containsS Ar cr (gamesL ws (k : Int) o) 0 0 _ HST.out hcr).mono ?_; rintro e w7 ⟨rfl, hb⟩; replace e0 := cell_of_ans hb e0; replace e1 := cell_of_ans hb e1; replace e2 := cell_of_ans hb e2; replace e3 := cell_of_ans hb e3; replace s0 := cell_of_ans hb s0; replace s1 := cell_of_ans hb s1; replace HY := Lib.hid (HY.out.trans (hb.mono HY.out.size)); clear hb))
                cases hin : decide ((0, 0) ∈ gamesL ws (k : Int) o)
                · have HNO : Hid (proveB m ws o game = false) := prove_no h1 (by rw [HPE.out, hin])
                  clear hin
                  go_wp2_with fail
                  go_ret
                  exact ⟨ret_bool HNO.out.symm, HBz2.out.trans (HY.out.mono HBz2.out.size)⟩
                · have HYES : Hid (prR ws o k (rx game k) = true) := by show _ = _; rw [HPE.out, hin]
                  clear hin
                  go_wp2_with fail
                  go_roundw
                  case rel => exact ⟨k + 1, by omega, by go_num, HALL.out.succ HYES.out, HBr.out.trans ((HBz.out.trans (HY.out.mono HBz.out.size)).mono HBr.out.size)⟩
                  case measure => simp [intOf]; omega
              · have HNO : Hid (proveB m ws o game = false) := prove_no h1 (by rw [HPR.out, ← hxs, ← hx0, t1, t2, hl1, decide_eq_false h10]; rfl)
                have z1 : IntKind.i64.wrap (10 - x0) = 10 - x0 := IntWalk.i64_in _ (by omega)
                have z2 : (10 - x0 == 0) = false := beq_eq_false_iff_ne.2 (by omega)
                clear hxs HPR hx0 h10 hl1
                go_wp2_with (go_at_call 65; refine (within_c _ _ _ _).mono ?_; rintro e w9 ⟨rfl, rfl⟩)
                go_ret
                exact ⟨ret_bool HNO.out.symm, HBX.out.alloc HBX.out.size _⟩
            · have hl1i : ((xs.length : Int) == 1) = false := by rw [hl2]; rfl
              have hl2i : ((xs.length : Int) == 2) = true := by rw [hl2]; rfl
              have hx1pi : (1 : Int) < (xs.length : Int) := by omega
              by_cases h10 : x0 = 10
              · have HNO : Hid (proveB m ws o game = false) := prove_no h1 (by rw [HPR.out, ← hxs, ← hx0, t1, t2, hl2, decide_eq_true h10]; rfl)
                subst h10
                clear hxs HPR hx0 hl2
                go_wp2_with (go_at_call 65; refine (within_c _ _ _ _).mono ?_; rintro e w9 ⟨rfl, rfl⟩)
                go_ret
                exact ⟨ret_bool HNO.out.symm, HBX.out.alloc HBX.out.size _⟩
              · obtain ⟨bx1, ox1, e1, _, x1c⟩ := HI.out.at_ (k := 1) (by omega)
                injection e1 with e1
                injection e1 with e1 e2
                subst e1 e2
                obtain ⟨x1, hx1⟩ : ∃ x1, x1 = ix xs 1 := ⟨_, rfl⟩
                rw [← hx1] at x1c
                obtain ⟨sa, hsa⟩ : ∃ sa : Nat, (sa : Int) = 10 - x0 := ⟨(10 - x0).toNat, by omega⟩
                have z1 : IntKind.i64.wrap (10 - x0) = (sa : Int) := by rw [hsa]; exact IntWalk.i64_in _ (by omega)
                have z2 : ((sa : Int) == 0) = false := beq_eq_false_iff_ne.2 (by omega)
                have hbz : Below wr.heap.size wr (wr.alloc (.cells #[.int .i64 (sa : Int), .int .i64 0] 175)) := (Below.refl _ _).alloc (Nat.le_refl _) _
                have s0 : (wr.alloc (.cells #[.int .i64 (sa : Int), .int .i64 0] 175)).cell? ⟨wr.heap.size, 0, none⟩ = some (.int .i64 (sa : Int)) := by simp
                have HBz := Lib.hid hbz
                have x1c' := cell_of_ans hbz x1c
                have HS2 : Hid ((wr.alloc (.cells #[.int .i64 (sa : Int), .int .i64 0] 175)).heap[wr.heap.size]? = some (.cells #[.int .i64 (sa : Int), .int .i64 0] 175 (0, 0))) := World.alloc_heap_new _ _
                cases t3 : inB x1 0 (sa : Int)
                · have HNO : Hid (proveB m ws o game = false) := prove_no h1 (by rw [HPR.out, ← hxs, ← hx0, ← hx1, t1, t2, hl2, decide_eq_false h10, ← hsa, t3]; rfl)
                  clear hxs HPR hx0 h10 hl2 hx1 hsa hbz
                  go_upto_region 13 with (go_at_call 65; refine (within_c _ _ _ _).mono ?_; rintro e w9 ⟨rfl, rfl⟩)
                  generalize wr.alloc (.cells #[.int .i64 (sa : Int), .int .i64 0] 175) = wz at s0 HBz HS2 x1c' ⊢
                  have HWI : Hid (∀ W, Calls Try.prog 65 #[.int .i64 x1, .int .i64 0, .int .i64 (sa : Int)] W fun e w' => e = .returned (.bool false) ∧ w' = W) := fun W => (within_c _ _ _ W).mono fun e w' h => by rw [t3] at h; exact ⟨h.1, h.2.symm⟩
                  clear t3
                  go_quiet ((first | (go_at_call 65; exact Calls.quiet_of_same (HWI.out _))))
                  go_wp2_with fail
                  go_ret
                  exact ⟨ret_bool HNO.out.symm, below_drewN (HBX.out.trans (HBz.out.mono HBX.out.size)) _⟩
                · obtain ⟨x10, x11⟩ := (inB_eq _ _ _).1 t3
                  obtain ⟨sb, hsb⟩ : ∃ sb : Nat, (sb : Int) = (sa : Int) - x1 := ⟨((sa : Int) - x1).toNat, by omega⟩
                  have z3 : IntKind.i64.wrap ((sa : Int) - x1) = (sb : Int) := by rw [hsb]; exact IntWalk.i64_in _ (by omega)
                  have HPE : Hid (prR ws o k (rx game k) = decide ((sa, sb) ∈ gamesL ws (k : Int) o)) := by
                    show _ = _
                    rw [HPR.out, ← hxs, ← hx0, ← hx1, t1, t2, hl2, decide_eq_false h10, ← hsa, t3, ← hsb, if_pos rfl, Int.toNat_natCast, Int.toNat_natCast]
                    simp
                  clear hxs HPR hx0 h10 hl2 hx1 hsa hbz hsb
                  go_upto_region 13 with (go_at_call 65; refine (within_c _ _ _ _).mono ?_; rintro e w9 ⟨rfl, rfl⟩)
                  generalize wr.alloc (.cells #[.int .i64 (sa : Int), .int .i64 0] 175) = wz0 at s0 HBz HS2 x1c' ⊢
                  have HWI : Hid (∀ W, Calls Try.prog 65 #[.int .i64 x1, .int .i64 0, .int .i64 (sa : Int)] W fun e w' => e = .returned (.bool true) ∧ w' = W) := fun W => (within_c _ _ _ W).mono fun e w' h => by rw [t3] at h; exact ⟨h.1, h.2.symm⟩
                  clear t3
                  go_quiet ((first | (go_at_call 65; exact Calls.quiet_of_same (HWI.out _))))
                  go_upto_region 15 with fail
                  have s0y : (wz0.drewN nq).cell? ⟨wr.heap.size, 0, none⟩ = some (.int .i64 (sa : Int)) := s0
                  have x1y : (wz0.drewN nq).cell? ⟨bx, ox + 1, none⟩ = some (.int .i64 x1) := x1c'
                  have HSY : Hid ((wz0.drewN nq).heap[wr.heap.size]? = some (.cells #[.int .i64 (sa : Int), .int .i64 0] 175 (0, 0))) := HS2.out
                  have HBY : Hid (Below wr.heap.size wr (wz0.drewN nq)) := below_drewN HBz.out _
                  clear s0 x1c' HS2 HBz
                  generalize wz0.drewN nq = wy at s0y x1y HSY HBY ⊢
                  have s1y : wy.cell? ⟨wr.heap.size, 1, none⟩ = some (.int .i64 0) := by have := HSY.out; simp [World.cell?, this]
                  have f1y : wy.frozen? ⟨wr.heap.size, 1, none⟩ = false := by have := HSY.out; simp [World.frozen?, this]
                  have hqz0 : wr.heap.size < wy.heap.size := (Array.getElem?_eq_some_iff.1 HSY.out).1
                  go_still_tail 7, (by kernel_rfl)
                  change wpList _ _ _ _ _ wy.drew
                  go_upto_region 16 with fail
                  have s0' : (wy.setCell ⟨wr.heap.size, 1, none⟩ (.int .i64 (sb : Int))).cell? ⟨wr.heap.size, 0, none⟩ = some (.int .i64 (sa : Int)) := by have := HSY.out; simp [World.cell?, World.setCell, Array.getElem?_modify, this]
                  have s1' : (wy.setCell ⟨wr.heap.size, 1, none⟩ (.int .i64 (sb : Int))).cell? ⟨wr.heap.size, 1, none⟩ = some (.int .i64 (sb : Int)) := by have := HSY.out; simp [World.cell?, World.setCell, Array.getElem?_modify, this]
                  have s0 : (wy.setCell ⟨wr.heap.size, 1, none⟩ (.int .i64 (sb : Int))).drew.cell? ⟨wr.heap.size, 0, none⟩ = some (.int .i64 (sa : Int)) := s0'
                  have s1 : (wy.setCell ⟨wr.heap.size, 1, none⟩ (.int .i64 (sb : Int))).drew.cell? ⟨wr.heap.size, 1, none⟩ = some (.int .i64 (sb : Int)) := s1'
                  have hbz : Below wr.heap.size wr (wy.setCell ⟨wr.heap.size, 1, none⟩ (.int .i64 (sb : Int))).drew := (HBY.out.setCell (Nat.le_refl _) _).drew
                  have hqz : wr.heap.size < (wy.setCell ⟨wr.heap.size, 1, none⟩ (.int .i64 (sb : Int))).drew.heap.size := by
                    show wr.heap.size < (wy.setCell ⟨wr.heap.size, 1, none⟩ (.int .i64 (sb : Int))).heap.size
                    rw [World.size_setCell]; exact hqz0
                  have HBz := Lib.hid hbz
                  clear hbz s0y x1y s1y f1y hqz0 s0' s1'
                  generalize (wy.setCell ⟨wr.heap.size, 1, none⟩ (.int .i64 (sb : Int))).drew = wz at s0 s1 HBz hqz ⊢
                  obtain ⟨q12, hq12⟩ : ∃ q, q = wr.heap.size := ⟨_, rfl⟩
                  rw [← hq12] at s0 s1 hqz ⊢
                  clear hq12
                  have HBz2 : Hid (Below w.heap.size w wz) := HBX.out.trans (HBz.out.mono HBX.out.size)
                  have e0 := cell_of_ans HBz.out d0
                  have e1 := cell_of_ans HBz.out d1
                  have e2 := cell_of_ans HBz.out d2
                  have e3 := cell_of_ans HBz.out d3
                  have HWz := Lib.hid (hWr.step HBz.out (by omega))
                  have hpz := HWz.out.cn
                  have hpzz := World.block_lt_of_cell? wz _ hpz
                  have hzz := HBz.out.size
                  have HGM : Hid (∀ W, Below wz.heap.size wz W → Calls Try.prog 68 #[.pointer (some ⟨p, 0, none⟩), .int .i64 (k : Int), .agg #[.bool (o 0), .bool (o 1), .bool (o 2), .bool (o 3)]] W (GmPost W p (k : Int) (m : Int) o A c ws)) := fun W h => games2_c p c (k : Int) (m : Int) o A ws W (by have := h.size; dsimp only at hpzz; omega) (cell_of_ans h HWz.out.cn) (cell_of_ans h HWz.out.cl) ((HWz.out.wd.more (by omega)).step h)
                  clear d0 d1 d2 d3 hWr hpz
                  have hd : Below wz.heap.size wz wz.drew := (Below.refl _ _).drew
                  have HY : Hid (Below wz.heap.size wz wz.drew) := hd
                  clear hd
                  go_region_held3 (fun w' => w'.cell? ⟨g8, 0, none⟩ = some (.bool (o 0)) ∧ w'.cell? ⟨g8, 1, none⟩ = some (.bool (o 1)) ∧ w'.cell? ⟨g8, 2, none⟩ = some (.bool (o 2)) ∧ w'.cell? ⟨g8, 3, none⟩ = some (.bool (o 3)) ∧ w'.cell? ⟨q12, 0, none⟩ = some (.int .i64 (sa : Int)) ∧ w'.cell? ⟨q12, 1, none⟩ = some (.int .i64 (sb : Int))) (go_keep) (first | (go_at_call 68; refine (HGM.out _ HY.out).mono ?_; rintro e w5 ⟨qg, rfl, hgs, hb⟩; have HGS := Lib.hid hgs; clear hgs; replace e0 := cell_of_ans (below_drew_l hb) e0; replace e1 := cell_of_ans (below_drew_l hb) e1; replace e2 := cell_of_ans (below_drew_l hb) e2; replace e3 := cell_of_ans (below_drew_l hb) e3; replace s0 := cell_of_ans (below_drew_l hb) s0; replace s1 := cell_of_ans (below_drew_l hb) s1; replace HY := Lib.hid (HY.out.trans (hb.mono HY.out.size)); clear hb) | (go_at_call 67; refine (gs_collect HGS.out HWL.out HOK.out).mono ?_; rintro e w6 ⟨Ar, cr, rfl, hcr, hst, hb⟩; have HST := Lib.hid hst; clear hst; replace e0 := cell_of_ans hb e0; replace e1 := cell_of_ans hb e1; replace e2 := cell_of_ans hb e2; replace e3 := cell_of_ans hb e3; replace s0 := cell_of_ans hb s0; replace s1 := cell_of_ans hb s1; replace HY := Lib.hid (HY.out.trans (hb.mono HY.out.size)); clear hb) | (go_at_call 66; refine (containsS Ar cr (gamesL ws (k : Int) o) sa sb _ HST.out hcr).mono ?_; rintro e w7 ⟨rfl, hb⟩; replace e0 := cell_of_ans hb e0; replace e1 := cell_of_ans hb e1; replace e2 := cell_of_ans hb e2; replace e3 := cell_of_ans hb e3; replace s0 := cell_of_ans hb s0; replace s1 := cell_of_ans hb s1; replace HY := Lib.hid (HY.out.trans (hb.mono HY.out.size)); clear hb))
                  cases hin : decide ((sa, sb) ∈ gamesL ws (k : Int) o)
                  · have HNO : Hid (proveB m ws o game = false) := prove_no h1 (by rw [HPE.out, hin])
                    clear hin
                    go_wp2_with fail
                    go_ret
                    exact ⟨ret_bool HNO.out.symm, HBz2.out.trans (HY.out.mono HBz2.out.size)⟩
                  · have HYES : Hid (prR ws o k (rx game k) = true) := by show _ = _; rw [HPE.out, hin]
                    clear hin
                    go_wp2_with fail
                    go_roundw
                    case rel => exact ⟨k + 1, by omega, by go_num, HALL.out.succ HYES.out, HBr.out.trans ((HBz.out.trans (HY.out.mono HBz.out.size)).mono HBr.out.size)⟩
                    case measure => simp [intOf]; omega
      · obtain rfl : k = game.length := by omega
        have h1i : ¬ (game.length : Int) < (game.length : Int) := by omega
        have HYES : Hid (proveB m ws o game = true) := prove_yes HGL.out HALL.out
        clear hWr
        go_wp2_with fail
        go_ret
        exact ⟨ret_bool HYES.out.symm, HBX.out⟩
  · have hgb : ((game.length : Int) != (m : Int)) = true := by simp; omega
    have HNO : Hid (proveB m ws o game = false) := prove_len hgl
    clear hgl
    go_wp2_with fail
    go_ret
    exact ⟨ret_bool HNO.out.symm, HB2.out⟩
end
section
open Go.RowKit
/-- Are the balls of a frame such as a frame can have? -/
def isR (xs : List Int) : Bool :=
  decide (xs.length ≠ 0) && (inB (ix xs 0) 0 10 && (if ix xs 0 = 10 then decide (xs.length = 1) else decide (xs.length = 2) && inB (ix xs 1) 0 (10 - ix xs 0)))
noncomputable def isG (m : Nat) (game : List (List Int)) : Bool := decide (game.length = m) && allB game.length fun f => isR (rx game f)
end
section
open Go.RowKit
def pairR (xs : List Int) : Nat × Nat := ((10 - ix xs 0).toNat, if xs.length = 2 then (10 - ix xs 0 - ix xs 1).toNat else 0)
theorem isR_iff {xs : List Int} : isR xs = true ↔ (xs.length = 1 ∧ ix xs 0 = 10) ∨ (xs.length = 2 ∧ 0 ≤ ix xs 0 ∧ ix xs 0 ≤ 9 ∧ 0 ≤ ix xs 1 ∧ ix xs 1 ≤ 10 - ix xs 0) := by
  unfold isR
  by_cases h : ix xs 0 = 10
  · rw [if_pos h]
    simp only [Bool.and_eq_true, decide_eq_true_eq, inB_eq]
    omega
  · rw [if_neg h]
    simp only [Bool.and_eq_true, decide_eq_true_eq, inB_eq]
    omega
theorem prR_eq (ws : List Wd) (o : Nat → Bool) (f : Nat) (xs : List Int) : prR ws o f xs = (isR xs && decide (pairR xs ∈ gamesL ws (f : Int) o)) := by
  have e : prR ws o f xs = (inB (xs.length : Int) 1 2 && (inB (ix xs 0) 0 10 && ((decide (ix xs 0 = 10) == decide (xs.length = 1)) && ((decide (xs.length ≠ 2) || inB (ix xs 1) 0 (10 - ix xs 0)) && decide (pairR xs ∈ gamesL ws (f : Int) o))))) := rfl
  rw [e]
  by_cases hP : pairR xs ∈ gamesL ws (f : Int) o
  · rw [decide_eq_true hP, Bool.and_true, Bool.and_true]
    refine Bool.eq_iff_iff.2 ?_
    rw [isR_iff]
    simp only [Bool.and_eq_true, inB_eq, decide_eq_true_eq, Bool.or_eq_true, beq_iff_eq, decide_eq_decide]
    omega
  · rw [decide_eq_false hP]
    simp
theorem isG_iff {m : Nat} {game : List (List Int)} : isG m game = true ↔ game.length = m ∧ ∀ f, f < game.length → isR (rx game f) = true := by
  unfold isG
  rw [Bool.and_eq_true, decide_eq_true_eq, allB_iff]
  rfl
theorem proveB_iff {m : Nat} {ws : List Wd} {o : Nat → Bool} {game : List (List Int)} : proveB m ws o game = true ↔ isG m game = true ∧ ∀ f, f < m → pairR (rx game f) ∈ gamesL ws (f : Int) o := by
  unfold proveB
  rw [Bool.and_eq_true, decide_eq_true_eq, allB_iff, isG_iff]
  constructor
  · rintro ⟨rfl, h⟩
    refine ⟨⟨rfl, fun f hf => ?_⟩, fun f hf => ?_⟩
    · have := h f hf
      dsimp only at this
      rw [prR_eq, Bool.and_eq_true] at this
      exact this.1
    · have := h f hf
      dsimp only at this
      rw [prR_eq, Bool.and_eq_true, decide_eq_true_eq] at this
      exact this.2
  · rintro ⟨⟨rfl, h⟩, h2⟩
    refine ⟨rfl, fun f hf => ?_⟩
    dsimp only
    rw [prR_eq, h f hf, decide_eq_true (h2 f hf)]
    rfl
theorem behR_pair {game : List (List Int)} {f b : Nat} (h : isR (rx game f) = true) (hb : b ≤ 1) : behR game f b = if b = 0 then ((pairR (rx game f)).1 : Int) else ((pairR (rx game f)).2 : Int) := by
  unfold behR pairR
  generalize rx game f = xs at *
  rcases isR_iff.1 h with ⟨h1, h2⟩ | ⟨h1, h2, h3, h4, h5⟩
  · rcases (by omega : b = 0 ∨ b = 1) with rfl | rfl
    · rw [h1]; simp [behN]; omega
    · rw [h1]; simp [behN]; omega
  · rcases (by omega : b = 0 ∨ b = 1) with rfl | rfl
    · rw [h1]; simp [behN]; omega
    · rw [h1]; simp [behN]; omega
end
end

section
open Go.RowKit
theorem true_isR (ns : List Int) (f : Nat) : isR (trueR ns f) = true := by
  rw [isR_iff]
  rcases trueR_row ns f with e | ⟨a, b, e, h1, h2, h3, h4⟩
  · rw [e]; simp [ix]
  · rw [e]; simp [ix]; omega
theorem true_isG (ns : List Int) (m : Nat) : isG m (trueG ns m) = true := by
  rw [isG_iff, trueG_len]
  refine ⟨rfl, fun f hf => ?_⟩
  rw [rx_trueG hf]
  exact true_isR ns f
theorem true_prove {m b : Nat} {ws : List Wd} {ns : List Int} (h : laneErr (m : Int) ws = 0) {o : Nat → Bool} (ho : ∀ j, j ≤ 3 → b.testBit j = true → o j = true) : proveB m (toldL (trueG ns m) ns b ws) o (trueG ns m) = true := by
  rw [proveB_iff]
  refine ⟨true_isG ns m, fun f hf => ?_⟩
  have h1 := stood_in (ns := ns) h ho hf
  have hr : isR (rx (trueG ns m) f) = true := by rw [rx_trueG hf]; exact true_isR ns f
  have e0 := behR_pair (b := 0) hr (by omega)
  have e1 := behR_pair (b := 1) hr (by omega)
  have e : stoodP ns m f = pairR (rx (trueG ns m) f) := by
    unfold stoodP
    rw [e0, e1]
    simp
  rw [← e]
  exact h1
end

section
open Go.ChangeShapes Go.WideShapes Go.ChangeAt Go.RowKit Go.Deep
theorem spot_none {w : World} {a : Addr} {v : Value} (h : w.cell? a = some v) : a = ⟨a.block, a.off, none⟩ := by
  obtain ⟨b, o, s⟩ := a
  cases s with
  | none => rfl
  | some s =>
    simp only [World.cell?] at h
    split at h <;> simp at h
theorem addr_add (b o n : Nat) : (⟨b, o, none⟩ : Addr).add n = ⟨b, o + n, none⟩ := by
  unfold Addr.add
  split <;> simp [*]
section
variable {H : Type} {enc : TypeId × Value → H} {P : Program}
theorem below_sameAt {W W' : World} (hb : Below W.heap.size W W') {p : MemPlace} (hp : p.block < W.heap.size) : W.sameAt W' p := by
  cases p with
  | cell b off => exact hb.cell (p := ⟨b, off, none⟩) hp
  | map b => exact hb.block b hp
theorem below_kept {W W' : World} (hb : Below W.heap.size W W') (may : MemPlace → Prop) : W.keptBut W' may := by
  refine ⟨hb.os, hb.output, fun i hi => ?_⟩
  rw [hb.block i hi]
  cases h : W.heap[i]? with
  | none => trivial
  | some o => cases o <;> simp
theorem trodAll_stays (hl : laidOutB P = true) {W W' : World} {sp : Nat → Bool} : ∀ {ts : List TypeId} {vs : List Value} {ds : List (DataW H)} {ps : List MemPlace}, (∀ t ∈ ts, P.readableRec t = true ∧ t < P.types.size) →
    DataW.TrodAll enc P W 0 (fun _ => true) true ts vs ds ps → (∀ p ∈ ps, W.sameAt W' p) → (∀ p ∈ ps, sp p.block = true) → DataW.TrodAll enc P W' 0 sp true ts vs ds ps
  | [], _, _, _, _, h, _, _ => by
    obtain ⟨rfl, rfl, rfl⟩ := trodAll_nil h
    exact trodAll_mk0
  | t :: ts, _, _, _, hr, h, hs, hb => by
    obtain ⟨v, vs, d, ds, p, q, rfl, rfl, rfl, h1, h2⟩ := trodAll_cons h
    exact trodAll_cons_mk (WideElems.Trod_stays hl (hr t (by simp)).1 (hr t (by simp)).2 h1 (fun x hx => hs x (by simp [hx])) (fun x hx => hb x (by simp [hx])))
      (trodAll_stays hl (fun t ht => hr t (by simp [ht])) h2 (fun x hx => hs x (by simp [hx])) (fun x hx => hb x (by simp [hx])))
theorem law_post (hl : laidOutB P = true) {f : Func} {s : ChangeSpec} {W W' : World} {args : Array Value} {ds gs : List (DataW H)} {before : List MemPlace} {tb : TypeId}
    (hW : DataW.Whole enc P f.params.toList s.vars false W args.toList ds gs before) (hv : s.vars = []) (hr : ∀ t ∈ f.params.toList, P.readableRec t = true ∧ t < P.types.size)
    (hres : f.resultTypes = #[tb]) (htb : P.underlying tb = some .bool) (hfn : s.fn H (ds ++ gs) = { results := [.lit (.bool true)], args := ds }) (hb : Below W.heap.size W W') :
    s.post enc P f false true false false W args (.bool true) W' := by
  have hlt : ∀ p ∈ before, p.block < W.heap.size := hW.lt
  have hW' := hW
  obtain ⟨p, q, hA, hV, rfl, hz, hn⟩ := hW
  have hq : q = [] ∧ gs = [] := by
    rw [hv] at hV
    obtain ⟨rfl, rfl⟩ := trodVars_none hV
    exact ⟨rfl, rfl⟩
  obtain ⟨rfl, rfl⟩ := hq
  refine ⟨ds, [], p ++ [], [], p, [], hW', ?_, ?_, ?_, below_kept hb _, fun h => by cases h⟩
  · rw [hfn, hres]
    exact trodAll_cons_mk (p := []) (shut_bool htb true) trodAll_mk0
  · rw [hfn]
    exact trodAll_stays hl hr hA (fun x hx => below_sameAt hb (hlt x (by simp [hx]))) (fun x hx => by simpa using hlt x (by simp [hx]))
  · rw [hfn, hv]
    rfl
end
section
variable {H : Type} {enc : TypeId × Value → H} {W : World} {b0 : Nat}
theorem Try.cells3 : Try.prog.cellsOf 3 = 1 := by kernel_rfl
theorem Try.cells24 : Try.prog.cellsOf 24 = 2 := by kernel_rfl
theorem Try.cells22 : Try.prog.cellsOf 22 = 1 := by kernel_rfl
theorem Try.cells123 : Try.prog.cellsOf 123 = 5 := by kernel_rfl
theorem list5 {cs : List Value} (h : cs.length = 5) : ∃ a b c d e, cs = [a, b, c, d, e] := by
  match cs, h with
  | [a, b, c, d, e], _ => exact ⟨a, b, c, d, e, rfl⟩
set_option maxRecDepth 100000 in
theorem open_wordC {fuel : Nat} {cs : List Value} {x : DataW H × List MemPlace} (hl : cs.length = 5) (h : DataW.trod enc Try.prog W 0 (fun _ => true) true fuel 123 cs = some x) :
    ∃ a b c d e : Int, cs = [.int .i64 a, .int .i64 b, .int .i64 c, .int .i64 d, .int .i64 e] := by
  obtain ⟨c0, c1, c2, c3, c4, rfl⟩ := list5 hl
  obtain ⟨xs, n, _, _, hl, hlen, hfs⟩ := DataW.trod_struct Try.underlying123 h
  have f0 : DataW.trod enc Try.prog W 0 (fun _ => true) true n 3 (List.take (Try.prog.cellsOf 3) [c0, c1, c2, c3, c4]) = xs[0]? := hfs 0 _ rfl
  have f1 : DataW.trod enc Try.prog W 0 (fun _ => true) true n 3 (List.take (Try.prog.cellsOf 3) [c1, c2, c3, c4]) = xs[1]? := hfs 1 _ rfl
  have f2 : DataW.trod enc Try.prog W 0 (fun _ => true) true n 3 (List.take (Try.prog.cellsOf 3) [c2, c3, c4]) = xs[2]? := hfs 2 _ rfl
  have f3 : DataW.trod enc Try.prog W 0 (fun _ => true) true n 3 (List.take (Try.prog.cellsOf 3) [c3, c4]) = xs[3]? := hfs 3 _ rfl
  have f4 : DataW.trod enc Try.prog W 0 (fun _ => true) true n 3 (List.take (Try.prog.cellsOf 3) [c4]) = xs[4]? := hfs 4 _ rfl
  rw [Try.cells3] at f0 f1 f2 f3 f4
  match xs, hlen with
  | [y0, y1, y2, y3, y4], _ =>
    obtain ⟨n0, e0, _, _⟩ := DataW.trod_int Try.underlying3 f0
    obtain ⟨n1, e1, _, _⟩ := DataW.trod_int Try.underlying3 f1
    obtain ⟨n2, e2, _, _⟩ := DataW.trod_int Try.underlying3 f2
    obtain ⟨n3, e3, _, _⟩ := DataW.trod_int Try.underlying3 f3
    obtain ⟨n4, e4, _, _⟩ := DataW.trod_int Try.underlying3 f4
    simp at e0 e1 e2 e3 e4
    subst e0 e1 e2 e3 e4
    exact ⟨n0, n1, n2, n3, n4, rfl⟩
instance : Inhabited Wd := ⟨⟨0, 0, 0, 0, 0⟩⟩
theorem open_wdsC {fuel : Nat} {cs : List Value} {x : DataW H × List MemPlace} (h : DataW.trod enc Try.prog W 0 (fun _ => true) true fuel 22 cs = some x) :
    ∃ A ws c, cs = [.slice A ws.length c] ∧ (ws.length ≤ c ∧ c ≤ 9223372036854775807) ∧ Wds W.heap.size W A ws := by
  rcases open_slice Try.underlying22 h with ⟨rfl, _⟩ | ⟨a, len, cap, m, n, D, Pl, rfl, _, hl, hm, hmm, _, hx⟩
  · exact ⟨none, [], 0, rfl, by decide, fun hp => by simp at hp⟩
  · have hlm : len ≤ m := by rw [hmm]; split <;> omega
    unfold maxLen at hm
    have each : ∀ i, i < len → ∃ q : Wd, W.cell? (a.add (i * 5)) = some (.int .i64 q.fr) ∧ W.cell? ((a.add (i * 5)).add 1) = some (.int .i64 q.ba) ∧ W.cell? ((a.add (i * 5)).add 2) = some (.int .i64 q.te) ∧ W.cell? ((a.add (i * 5)).add 3) = some (.int .i64 q.lo) ∧ W.cell? ((a.add (i * 5)).add 4) = some (.int .i64 q.hi) := by
      intro i hi
      obtain ⟨cs', h1, h2⟩ := hx i (by omega)
      rw [Try.cells123] at h1
      obtain ⟨_, hlen, hcell⟩ := World.cells?_some h1
      obtain ⟨v0, v1, v2, v3, v4, rfl⟩ := open_wordC hlen h2
      have e0 := hcell 0 (by omega)
      have e1 := hcell 1 (by omega)
      have e2 := hcell 2 (by omega)
      have e3 := hcell 3 (by omega)
      have e4 := hcell 4 (by omega)
      rw [show (a.add (i * 5)).add 0 = a.add (i * 5) from by simp [Addr.add]] at e0
      exact ⟨⟨v0, v1, v2, v3, v4⟩, by simpa using e0, by simpa using e1, by simpa using e2, by simpa using e3, by simpa using e4⟩
    obtain ⟨q, hq⟩ := choose_lt each
    have e : ((List.range len).map q).length = len := by simp
    refine ⟨some a, (List.range len).map q, cap, by rw [e], by omega, fun hp => ?_⟩
    rw [e] at hp
    have h0 := spot_none (hq 0 hp).1
    rw [show a.add (0 * 5) = a from by simp [Addr.add]] at h0
    refine ⟨a.block, a.off, by rw [← h0], ?_, fun k hk => ?_⟩
    · have := World.block_lt_of_cell? W _ (hq 0 hp).1
      rwa [show a.add (0 * 5) = a from by simp [Addr.add]] at this
    · rw [e] at hk
      obtain ⟨c0, c1, c2, c3, c4⟩ := hq k hk
      have ew : wx ((List.range len).map q) k = q k := by rw [wx_lt (by simpa using hk)]; simp
      rw [ew]
      rw [h0, addr_add] at c0 c1 c2 c3 c4
      rw [addr_add] at c1 c2 c3 c4
      exact ⟨c0, c1, c2, c3, c4⟩
theorem array2 {cs : Array Value} (h : cs.size = 2) : ∃ a b, cs = #[a, b] := by
  obtain ⟨l⟩ := cs
  match l, h with
  | [a, b], _ => exact ⟨a, b, rfl⟩
set_option maxRecDepth 100000 in
theorem open_lane {v : Value} {d : DataW H} {p : List MemPlace} (hv : Value.okWide Try.prog W .any b0 24 v) (h : DataW.Trod enc Try.prog W 0 (fun _ => true) true 24 v d p) :
    ∃ A ws c frn, v = .agg #[.int .i64 frn, .slice A ws.length c] ∧ (ws.length ≤ c ∧ c ≤ 9223372036854775807) ∧ Wds W.heap.size W A ws := by
  obtain ⟨cs, rfl, hsz⟩ := okWide_struct Try.underlying24 hv
  obtain ⟨c0, c1, rfl⟩ := array2 (hsz.trans Try.cells24)
  obtain ⟨fuel, hf⟩ := h
  obtain ⟨xs, n, _, _, hl, hlen, hfs⟩ := DataW.trod_struct Try.underlying24 hf
  have f0 : DataW.trod enc Try.prog W 0 (fun _ => true) true n 3 (List.take (Try.prog.cellsOf 3) [c0, c1]) = xs[0]? := hfs 0 _ rfl
  have f1 : DataW.trod enc Try.prog W 0 (fun _ => true) true n 22 (List.take (Try.prog.cellsOf 22) [c1]) = xs[1]? := hfs 1 _ rfl
  rw [Try.cells3] at f0
  rw [Try.cells22] at f1
  match xs, hlen with
  | [y0, y1], _ =>
    obtain ⟨n0, e0, _, _⟩ := DataW.trod_int Try.underlying3 f0
    obtain ⟨A, ws, c, e, h1, h2⟩ := open_wdsC f1
    simp at e0 e
    subst e0 e
    exact ⟨A, ws, c, n0, rfl, h1, h2⟩
end
end

section
open Go.ChangeShapes Go.WideShapes Go.ChangeAt Go.RowKit Go.Deep
theorem Try.cells73 : Try.prog.cellsOf 73 = 1 := by kernel_rfl
section
variable {H : Type} {enc : TypeId × Value → H} {W : World} {b0 : Nat}
set_option maxRecDepth 100000 in
theorem open_u8 {v : Value} {d : DataW H} {p : List MemPlace} (hv : Value.okWide Try.prog W .any b0 5 v) (h : DataW.Trod enc Try.prog W 0 (fun _ => true) true 5 v d p) : ∃ b : Nat, v = .int .u8 (b : Int) ∧ b < 256 := by
  obtain ⟨n, rfl, h1, h2, h3⟩ := open_int Try.underlying5 hv h
  have hb : 0 ≤ n ∧ n ≤ 255 := by simpa [Lit.wf, IntKind.min, IntKind.max, IntKind.signed, IntKind.bits] using h3
  exact ⟨n.toNat, by rw [Int.toNat_of_nonneg hb.1], by omega⟩
set_option maxRecDepth 100000 in
theorem open_u16s {v : Value} {d : DataW H} {p : List MemPlace} (hv : Value.okWide Try.prog W .any b0 25 v) (h : DataW.Trod enc Try.prog W 0 (fun _ => true) true 25 v d p) :
    ∃ A ws c, v = .slice A ws.length c ∧ (ws.length ≤ c ∧ c ≤ 9223372036854775807) ∧ U16s W.heap.size W A ws := by
  obtain ⟨a0, len0, cap0, rfl⟩ := okWide_slice Try.underlying25 hv
  obtain ⟨fuel, hf⟩ := h
  rcases open_ints Try.underlying25 Try.underlying73 Try.cells73 hf with ⟨e, _⟩ | ⟨a, len, cap, zs, e, _, hl, hm, hz, _, hc, hw⟩
  · simp only [Value.cells] at e
    exact ⟨none, [], 0, by simpa using e, by decide, fun hp => by simp at hp⟩
  · simp only [if_true] at hz
    unfold maxLen at hm
    have e0 : (zs.take len).length = len := by rw [List.length_take]; omega
    simp only [Value.cells] at e
    refine ⟨some a, zs.take len, cap, by rw [e0]; simpa using e, by omega, fun hp => ?_⟩
    have h0 := spot_none (hc 0 (by omega))
    rw [show a.add 0 = a from by simp [Addr.add]] at h0
    refine ⟨a.block, a.off, by rw [← h0], World.block_lt_of_cell? W _ (hc 0 (by omega)), fun k hk => ?_⟩
    have := hc k (by omega)
    rw [h0, addr_add] at this
    have ei : ix (zs.take len) k = zs.getD k 0 := by
      simp only [ix, List.getD_eq_getElem?_getD, List.getElem?_take]
      rw [if_pos (by omega)]
    have hwk := hw (zs.getD k 0) (by
      rw [List.getD_eq_getElem?_getD, List.getElem?_eq_getElem (show k < zs.length by omega)]
      exact List.getElem_mem _)
    have hb : 0 ≤ zs.getD k 0 ∧ zs.getD k 0 ≤ 65535 := by simpa [Lit.wf, IntKind.min, IntKind.max, IntKind.signed, IntKind.bits] using hwk
    rw [ei]
    exact ⟨this, hb⟩
end
end

end Go.Proofs.Ytenpiinkbfancaa.Sn
