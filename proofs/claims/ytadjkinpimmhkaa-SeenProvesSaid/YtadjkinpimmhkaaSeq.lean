/-
  The games of a frame, collected into a list.
-/
import Derived.Test.YtadjkinpimmhkaaFrame
import Derived.Test.YtadjkinpimmhkaaLst
import Derived.OwnWalkIn
import Derived.RangeFuncBox
import Derived.Laws.StructEq
namespace Go.Proofs.Ytadjkinpimmhkaa
open Go.RowKit
set_option linter.unusedSimpArgs false
set_option linter.unusedVariables false

attribute [local go_sem] Oper.semAt_some

def flatS (ps : List (Nat × Nat)) : List Value := ps.flatMap fun p => [.int .i64 (p.1 : Int), .int .i64 (p.2 : Int)]
theorem flatS_len (ps : List (Nat × Nat)) : (flatS ps).length = ps.length * 2 := by
  induction ps with
  | nil => rfl
  | cons p ps ih => simp only [flatS, List.flatMap_cons, List.length_append, List.length_cons, List.length_nil] at *; omega
theorem flatS_snoc (ps : List (Nat × Nat)) (p : Nat × Nat) : flatS (ps ++ [p]) = flatS ps ++ [.int .i64 (p.1 : Int), .int .i64 (p.2 : Int)] := by simp [flatS]
def sx (ps : List (Nat × Nat)) (k : Nat) : Nat × Nat := ps.getD k (0, 0)
theorem flatS_at : ∀ (ps : List (Nat × Nat)) (k : Nat), k < ps.length → (flatS ps)[k * 2]? = some (.int .i64 ((sx ps k).1 : Int)) ∧ (flatS ps)[k * 2 + 1]? = some (.int .i64 ((sx ps k).2 : Int))
  | p :: ps, 0, _ => by simp [flatS, sx]
  | p :: ps, k + 1, h => by
    have := flatS_at ps k (by simpa using h)
    simp only [flatS, List.flatMap_cons, sx, List.getD_cons_succ] at *
    rw [show (k + 1) * 2 = k * 2 + 2 by omega]
    simpa using this
/-- The slice address A has the pairs ps. -/
def Sts (B : Nat) (w : World) (A : Option Addr) (ps : List (Nat × Nat)) : Prop :=
  0 < ps.length → ∃ b off, A = some ⟨b, off, none⟩ ∧ b < B ∧ ∀ k, k < ps.length → w.cell? ⟨b, off + k * 2, none⟩ = some (.int .i64 ((sx ps k).1 : Int)) ∧ w.cell? ⟨b, off + k * 2 + 1, none⟩ = some (.int .i64 ((sx ps k).2 : Int))
theorem Sts.step {w w' : World} {A : Option Addr} {ps : List (Nat × Nat)} (h : Sts w.heap.size w A ps) (hb : Below w.heap.size w w') : Sts w'.heap.size w' A ps := fun hp => by
  obtain ⟨b, off, hA, hlt, hc⟩ := h hp
  exact ⟨b, off, hA, Nat.lt_of_lt_of_le hlt hb.size, fun k hk => ⟨(hb.cell (p := ⟨b, off + k * 2, none⟩) hlt).trans (hc k hk).1, (hb.cell (p := ⟨b, off + k * 2 + 1, none⟩) hlt).trans (hc k hk).2⟩⟩
theorem sts_of {base : Nat} {w : World} {v : Value} {ps : List (Nat × Nat)} (h : w.ownsRow base 111 2 v ps.length (flatS ps)) : ∃ A c, v = .slice A ps.length c ∧ (ps.length ≤ c ∧ c ≤ 9223372036854775807) ∧ Sts w.heap.size w A ps := by
  rcases h.2 with ⟨rfl, h0⟩ | ⟨g, cap, cur, rfl, hb, hg, hn, hm, hs, ht⟩
  · exact ⟨none, 0, by rw [h0], by omega, fun hp => by omega⟩
  · refine ⟨_, cap, rfl, ⟨hn, by unfold maxLen at hm; omega⟩, fun hp => ⟨g, 0, rfl, (Array.getElem?_eq_some_iff.1 hg).1, fun k hk => ?_⟩⟩
    obtain ⟨a1, a2⟩ := flatS_at ps k hk
    have b1 := h.cells (g := g) rfl _ _ a1
    have b2 := h.cells (g := g) rfl _ _ a2
    rw [add_eq] at b1 b2
    exact ⟨b1, by rw [Nat.add_assoc]; exact b2⟩
theorem info111 : (Try.prog.info? 111).map (fun i => (i.zero, i.size, i.bytes)) = some (some (.agg #[.int .i64 0, .int .i64 0]), 2, 16) := by kernel_rfl
def StPost (w : World) (ps : List (Nat × Nat)) (e : Ending) (w' : World) : Prop := ∃ A c, e = .returned (.slice A ps.length c) ∧ (ps.length ≤ c ∧ c ≤ 9223372036854775807) ∧ Sts w'.heap.size w' A ps ∧ Below w.heap.size w w'
/-- All below n₀ but the box is kept. -/
theorem GSt.kept3 {B n₀ g : Nat} {W W' : World} {q p : Nat} {fr frn : Int} {o : Nat → Bool} {A : Option Addr} {c : Nat} {ws : List Wd} (h : GSt B W q p fr frn o A c ws) (k : Kp2 n₀ g g W W') (hB : B ≤ n₀) (hg : B ≤ g) (hq : q + 2 < g) (hgn : g < n₀) (hp : p < B) : GSt B W' q p fr frn o A c ws :=
  ⟨k.cell h.x (by dsimp only; omega) (by dsimp only; omega) (by dsimp only; omega), k.cell h.f (by dsimp only; omega) (by dsimp only; omega) (by dsimp only; omega), fun j hj => k.cell (h.o j hj) (by dsimp only; omega) (by dsimp only; omega) (by dsimp only; omega),
    k.cell h.n (by dsimp only; omega) (by dsimp only; omega) (by dsimp only; omega), k.cell h.l (by dsimp only; omega) (by dsimp only; omega) (by dsimp only; omega), fun hp0 => by
      obtain ⟨b, off, hA, hlt, hc⟩ := h.w hp0
      refine ⟨b, off, hA, hlt, fun j hj => ?_⟩
      obtain ⟨c1, c2, c3, c4, c5⟩ := hc j hj
      exact ⟨k.cell c1 (by dsimp only; omega) (by dsimp only; omega) (by dsimp only; omega), k.cell c2 (by dsimp only; omega) (by dsimp only; omega) (by dsimp only; omega), k.cell c3 (by dsimp only; omega) (by dsimp only; omega) (by dsimp only; omega), k.cell c4 (by dsimp only; omega) (by dsimp only; omega) (by dsimp only; omega), k.cell c5 (by dsimp only; omega) (by dsimp only; omega) (by dsimp only; omega)⟩⟩
def IS (n₀ g : Nat) (pre : List (Nat × Nat)) (W : World) : Prop := ∃ v, Boxed W g 113 v ∧ W.ownsRow n₀ 111 2 v pre.length (flatS pre) ∧ True

set_option maxRecDepth 100000 in
set_option maxHeartbeats 8000000 in
theorem appendSeq_c {B : Nat} (q p c : Nat) (fr frn : Int) (o : Nat → Bool) (A : Option Addr) (ws : List Wd) (w : World) (hB : B ≤ w.heap.size) (hpB : p < B) (hq : q + 2 < w.heap.size) (hS : GSt B w q p fr frn o A c ws)
    (hl9 : ws.length ≤ 1000000) (hok : ∀ k, k < ws.length → wordB frn (wx ws k) = true) :
    Calls Try.prog 78 #[.slice none 0 0, .func (.func 79) #[] #[.pointer (some ⟨q, 0, none⟩), .pointer (some ⟨q + 1, 0, none⟩), .pointer (some ⟨q + 2, 0, none⟩)]] w (StPost w (gamesL ws fr o)) := by
  have HOK := Lib.hid hok
  obtain ⟨i0, hi, hz0, hz1, hz2⟩ := info_parts info111
  clear hok
  refine calls_marks Try.func78 rfl ?_
  simp only [Try.ntmps78, List.size_toArray, List.length_cons, List.length_nil, Nat.reduceAdd, Nat.reduceSub, Array.replicate_succ, Array.replicate_zero, List.push_toArray, List.append_toArray, List.nil_append, List.cons_append]
  go_wp2_with fail
  have hb1 : Below w.heap.size w (w.alloc (.cells #[.slice none 0 0] 113)) := (Below.refl _ _).alloc (Nat.le_refl _) _
  have hsz : (w.alloc (.cells #[.slice none 0 0] 113)).heap.size = w.heap.size + 1 := by simp
  have hR0 : Boxed (w.alloc (.cells #[.slice none 0 0] 113)) w.heap.size 113 (.slice none 0 0) := Boxed.new _ _ _
  have hS0 := hS.below hb1 hB
  generalize hW1 : w.alloc (.cells #[.slice none 0 0] 113) = W1 at hb1 hsz hR0 hS0 ⊢
  clear hW1
  obtain ⟨g, hg⟩ : ∃ g, g = w.heap.size := ⟨_, rfl⟩
  rw [← hg] at hR0 hsz hq
  rw [← hg]
  have l0 : g < W1.heap.size := by omega
  have hBg : B ≤ g := by omega
  have hwg : w.heap.size ≤ g := by omega
  have hwW : w.heap.size ≤ W1.heap.size := by omega
  clear hg hsz
  refine wpIn_wide.1 (wpIn_rangeFunc_ownH (F := Fence.wide) (n := 5) (α := Nat × Nat) rfl (by omega) (gf := 79) (lb := #[.pointer (some ⟨q, 0, none⟩), .pointer (some ⟨q + 1, 0, none⟩), .pointer (some ⟨q + 2, 0, none⟩)]) rfl trivial (enters_of Try.func79 (by kernel_rfl) rfl)
    (games_stops 4 q p c fr frn o A ws W1.heap.size (by omega) hl9 HOK.out (Kp2 W1.heap.size g g) (fun h k => h.trans k) (fun _ _ hn hb => Kp2.of_below hb hn) (fun _ _ h => h.1)
      (fun W W' hk hs => hs.kept3 hk (by omega) hBg hq l0 hpB) W1 (Nat.le_refl _) hS0)
    (fun h k => h.trans k) ?keepPut (Below.refl _ _) (fun _ => rfl)
    (fun pre W => IS W1.heap.size g pre W ∧ Kp2 W1.heap.size g g W1 W)
    (fun _ _ _ => False) ?ownI (fun _ _ _ _ _ hs _ _ => hs) ⟨⟨_, hR0, World.ownsRow_nil _ _ _ _, trivial⟩, Kp2.refl _ _ _ _⟩
    (fun x a' W => ∃ bb, W1.heap.size ≤ bb ∧ W.heap[bb]? = some (.cells #[.int .i64 (x.1 : Int), .int .i64 (x.2 : Int)] 111 (0, 0)) ∧ a' = { tmps := #[.slice none 0 0, .func (.func 79) #[] #[.pointer (some ⟨q, 0, none⟩), .pointer (some ⟨q + 1, 0, none⟩), .pointer (some ⟨q + 2, 0, none⟩)], .pointer (some ⟨g, 0, none⟩), undef, .slice none 0 0, .pointer (some ⟨bb, 0, none⟩), .func (.func 79) #[] #[.pointer (some ⟨q, 0, none⟩), .pointer (some ⟨q + 1, 0, none⟩), .pointer (some ⟨q + 2, 0, none⟩)], .agg #[.int .i64 (x.1 : Int), .int .i64 (x.2 : Int)], undef, undef, undef, undef, undef], defers := [] })
    ?ownA ?assign ?body ?done ?stop)
  case keepPut =>
    intro W l x y hl hx _ _
    exact ⟨by simp, rfl, rfl, rfl, fun k hk _ _ => World.putObj_heap_other (by omega)⟩
  case ownI =>
    rintro pre W W' row ⟨⟨v, hv, hr, -⟩, hKp⟩ hg' hrow
    have hz := hKp.1
    refine ⟨⟨v, hv.kept hg' (fun e' => ?_), hr.kept hg' ?_, trivial⟩, hKp.trans ⟨hg'.size, hg'.os, hg'.tape, hg'.output, fun k hk _ _ => hg'.block k (by omega) (fun e => ?_)⟩⟩
    · obtain ⟨_, ob, ho, hno⟩ := hrow _ e'.symm
      rw [show W.heap[g]? = _ from hv] at ho; cases ho; cases hno
    · rcases hr.2 with ⟨rfl, _⟩ | ⟨g', cap, cur, rfl, _, hgb, _⟩
      · exact .inl rfl
      · refine .inr fun e' => ?_
        obtain ⟨_, ob, ho, hno⟩ := hrow g' (by simpa [Value.ownBlock] using e'.symm)
        rw [hgb] at ho; cases ho; cases hno
    · have := (hrow _ e.symm).1
      omega
  case ownA =>
    rintro x a' _ W W' row ⟨bb, hbb, hc, rfl⟩ hg' hrow
    refine ⟨bb, hbb, (hg'.block bb (Array.getElem?_eq_some_iff.1 hc).1 (fun e => ?_)).trans hc, rfl⟩
    obtain ⟨_, ob, ho, hno⟩ := hrow _ e.symm
    rw [hc] at ho
    cases ho
    cases hno
  case assign =>
    rintro l pre x W K ⟨⟨v, hv, hr, -⟩, hKp⟩ hK
    have hz := hKp.1
    simp only [gEnc]
    gi_wp2
    have hbW : Below W.heap.size W (W.alloc (.cells #[.int .i64 (x.1 : Int), .int .i64 (x.2 : Int)] 111)) := (Below.refl _ _).alloc (Nat.le_refl _) _
    refine hK _ _ ((KeepsOthers.alloc _ _).from _) (Kp2.of_below hbW hz) ⟨⟨v, hv.alloc _, hr.alloc _, trivial⟩, hKp.trans (Kp2.of_below hbW hz)⟩ ⟨W.heap.size, hz, World.alloc_heap_new _ _, rfl⟩
  case done =>
    rintro D ys W hD rfl ⟨⟨v, hv, hr, -⟩, hKp⟩ hK
    have hz := hKp.1
    obtain ⟨Av, cv, rfl⟩ := ownsRow_form hr
    have c0 := hv.cell
    have HKD := Lib.hid hK
    have HKp := Lib.hid hKp
    have HR := Lib.hid hr
    have HSz : Hid ((gamesL ws fr o).length = (gamesL ws fr o).length) := rfl
    generalize hys : gamesL ws fr o = ys at *
    clear hys hK hKp hr
    go_wp2_with fail
    refine ⟨by simp, .inl ⟨_, _, rfl, run_takeDeferred (w := W) HKD.out, ?_⟩⟩
    refine ⟨.slice Av ys.length cv, by simp [results, Try.results78, go_sem], ?_⟩
    have hO : (W.putObj D (.deferred none)).ownsRow W1.heap.size 111 2 (.slice Av ys.length cv) ys.length (flatS ys) := ownsRow_putObj HR.out _ HKD.out rfl
    obtain ⟨A2, c2, e2, h1, h2⟩ := sts_of hO
    injection e2 with e3 e4 e5
    subst e3 e5
    have hk := HKp.out
    exact ⟨_, _, rfl, h1, h2, hb1.trans ⟨hk.2.1, hk.2.2.1, hk.2.2.2.1, by simpa using hk.1, fun k hk' => (World.putObj_heap_other (by omega)).trans (hk.2.2.2.2 k (by omega) (by omega) (by omega))⟩⟩
  case body =>
    rintro l pre x a' W hl ⟨r, hr'⟩ ⟨⟨v, hv, hr, -⟩, hKp⟩ ⟨bb, hbb, hcell, rfl⟩ hlt
    obtain ⟨xf, xs⟩ := x
    dsimp only at hcell ⊢
    have hz := hKp.1
    have hbw : bb < W.heap.size := (Array.getElem?_eq_some_iff.1 hcell).1
    have c0 := hv.cell
    have c1 : W.cell? ⟨bb, 0, none⟩ = some (.int .i64 (xf : Int)) := by simp [World.cell?, hcell]
    have c2 : W.cell? ⟨bb, 1, none⟩ = some (.int .i64 (xs : Int)) := by simp [World.cell?, hcell]
    have hgw : g < W.heap.size := hv.lt
    have hne := hv.not_row (by decide) hr
    have HRW : Hid ((W.alloc (.cells #[.int .i64 (xf : Int), .int .i64 (xs : Int)] 111)).ownsRow W1.heap.size 111 2 v pre.length (flatS pre)) := hr.alloc _
    have HV := Lib.hid hv
    have HR := Lib.hid hr
    have HKp := Lib.hid hKp
    have HPL : Hid (pre.length + 1 ≤ 101) := by show _ ≤ _; omega
    have hb0 : Below W.heap.size W (W.alloc (.cells #[.int .i64 (xf : Int), .int .i64 (xs : Int)] 111)) := (Below.refl _ _).alloc (Nat.le_refl _) _
    clear hv hr hKp hcell
    gi_wp2_with (gi_at_builtin; refine wpListIn_append_own _ rfl _ _ 113 rfl W1.heap.size 111 i0 _ 2 16 Try.underlying113 hi hz0 hz1 hz2 rfl (by decide) _ _ _ rfl HRW.out ⟨W.heap.size, 0, none⟩ 1 1 [.int .i64 (xf : Int), .int .i64 (xs : Int)] rfl rfl ?hcc (by simp [Value.oneCell']) (by have := HPL.out; unfold maxLen; omega) (by have := HPL.out; omega) (by simp; omega) ?_)
    case hcc =>
      intro j u hu
      rcases j with _ | _ | j
      · simp at hu; subst hu; rw [add_eq]; simp
      · simp at hu; subst hu; rw [add_eq]; simp
      · simp at hu
    intro v' w1 hown' hgrow _
    obtain ⟨g', cap', rfl⟩ := ownsRow_succ hown'
    have hv1 := (HV.out.alloc (.cells #[.int .i64 (xf : Int), .int .i64 (xs : Int)] 111)).kept hgrow hne
    have d0 := hv1.cell
    have d1 := hv1.frozen
    have HO := Lib.hid hown'
    have HG := Lib.hid hgrow
    have HV1 := Lib.hid hv1
    clear hown' hgrow hv1
    gi_wp2
    have hB1 : Below W1.heap.size W w1 := ((Below.refl _ W).alloc hz _).grown HG.out (by simp; omega) (fun j ej => (World.ownsRow.lt HR.out j ej).1)
    have hk : Kp2 W1.heap.size g g W (w1.setCell ⟨g, 0, none⟩ (.slice (some ⟨g', 0, none⟩) (pre.length + 1) cap')) := (show Kp2 W1.heap.size g g W w1 from ⟨hB1.size, hB1.os, hB1.tape, hB1.output, fun k hk _ _ => hB1.block k hk⟩).trans (Kp2.of_set (n₀ := W1.heap.size) (.inl rfl) _)
    refine ⟨KeepsOthers.from (((KeepsOthers.alloc W _).trans (KeepsOthers.of_grownBy HG.out fun j o ej hj => ?_)).trans (KeepsOthers.setCell _ _ _)) _, hk, ⟨_, HV1.out.set _, ?_, trivial⟩, HKp.out.trans hk⟩
    · rcases HRW.out.2 with ⟨rfl, _⟩ | ⟨g, cap, cur, rfl, _, hgb, _⟩
      · simp [Value.ownBlock] at ej
      · obtain rfl : g = j := by simpa [Value.ownBlock] using ej
        rw [hgb] at hj; cases hj; rfl
    · have h9 := HO.out.kept (grownBy_setCell' w1 g (.slice (some ⟨g', 0, none⟩) (pre.length + 1) cap')) (.inr (HV1.out.not_row (by decide) HO.out).symm)
      rw [List.length_append, flatS_snoc]
      exact h9
  case stop => exact fun _ _ _ _ _ _ h _ => h.elim

set_option maxHeartbeats 1000000 in
theorem collect_c {B : Nat} (q p c : Nat) (fr frn : Int) (o : Nat → Bool) (A : Option Addr) (ws : List Wd) (w : World) (hB : B ≤ w.heap.size) (hpB : p < B) (hq : q + 2 < w.heap.size) (hS : GSt B w q p fr frn o A c ws)
    (hl9 : ws.length ≤ 1000000) (hok : ∀ k, k < ws.length → wordB frn (wx ws k) = true) :
    Calls Try.prog 67 #[.func (.func 79) #[] #[.pointer (some ⟨q, 0, none⟩), .pointer (some ⟨q + 1, 0, none⟩), .pointer (some ⟨q + 2, 0, none⟩)]] w (StPost w (gamesL ws fr o)) := by
  have H := Lib.hid (appendSeq_c q p c fr frn o A ws w hB hpB hq hS hl9 hok)
  clear hok hS
  go_enter Try.func67, Try.ntmps67
  go_wp2_with fail
  refine H.out.mono ?_
  rintro e w1 ⟨Ar, cr, rfl, h1, h2, h3⟩
  have H1 := Lib.hid h1
  have H2 := Lib.hid h2
  have H3 := Lib.hid h3
  clear h1 h2 h3
  generalize hl : (gamesL ws fr o).length = n at *
  have HL := Lib.hid hl
  clear hl
  go_wp2_with fail
  go_ret
  exact ⟨Ar, cr, by rw [HL.out]; rfl, by rw [HL.out]; exact H1.out, H2.out, H3.out⟩

set_option maxRecDepth 100000 in
theorem eq111 (a b c d : Int) (w : World) : (binOp .eql 111 (.agg #[.int .i64 a, .int .i64 b]) (.agg #[.int .i64 c, .int .i64 d])).run Try.prog w = .ok (.bool (a == c && b == d)) w := by
  have u3 := Try.underlying3
  have hS : Try.prog.underlying 111 = some (.struct (Try.prog.fieldsOf 111)) := by kernel_rfl
  have hp : Try.prog.stoodInHeld 111 = false := by kernel_rfl
  rw [run_eql_struct, show (10000 : Nat) = 9999 + 1 from rfl, run_equalIn_agg w 9999 111 _ _ hS hp]
  simp only [Program.fieldsOf, Try.underlying111]
  go_simp
  by_cases h1 : a = c <;> by_cases h2 : b = d <;> simp [h1, h2]
theorem sx_lt {ps : List (Nat × Nat)} {k : Nat} (h : k < ps.length) : sx ps k = ps[k] := by simp [sx, h]
def FoundS (w : World) (ps : List (Nat × Nat)) (p : Nat × Nat) (e : Ending) (w' : World) : Prop :=
  (∃ k : Nat, e = .returned (.int .i64 (k : Int)) ∧ p ∈ ps ∧ Below w.heap.size w w') ∨ (e = .returned (.int .i64 (-1)) ∧ ¬ p ∈ ps ∧ Below w.heap.size w w')

set_option maxRecDepth 100000 in
set_option maxHeartbeats 2000000 in
theorem indexS (A : Option Addr) (c : Nat) (ps : List (Nat × Nat)) (pa pb : Nat) (w : World) (h : Sts w.heap.size w A ps) (hc : ps.length ≤ c ∧ c ≤ 9223372036854775807) :
    Calls Try.prog 77 #[.slice A ps.length c, .agg #[.int .i64 (pa : Int), .int .i64 (pb : Int)]] w (FoundS w ps (pa, pb)) := by
  have hb0 : Below w.heap.size w (w.alloc (.cells #[.int .i64 (pa : Int), .int .i64 (pb : Int)] 111)) := (Below.refl _ _).alloc (Nat.le_refl _) _
  have k0 : (w.alloc (.cells #[.int .i64 (pa : Int), .int .i64 (pb : Int)] 111)).cell? ⟨w.heap.size, 0, none⟩ = some (.int .i64 (pa : Int)) := by simp
  have k1 : (w.alloc (.cells #[.int .i64 (pa : Int), .int .i64 (pb : Int)] 111)).cell? ⟨w.heap.size, 1, none⟩ = some (.int .i64 (pb : Int)) := by simp
  have HB := Lib.hid hb0
  have HS := Lib.hid (h.step hb0)
  clear h hb0
  go_enter Try.func77, Try.ntmps77
  go_wp2_with fail
  generalize w.alloc (.cells #[.int .i64 (pa : Int), .int .i64 (pb : Int)] 111) = W0 at *
  go_loopw [8] (fun i wr => ∃ (k n : Nat), k ≤ ps.length ∧ i = .int .i64 k ∧ (∀ j, j < k → sx ps j ≠ (pa, pb)) ∧ wr = W0.drewN n) (fun i _ => ps.length - (intOf i).toNat)
  case atStart => exact ⟨0, 0, by omega, rfl, (fun j hj => by omega), rfl⟩
  case round =>
    obtain ⟨k, n, hk, rfl, hn, rfl⟩ := hrel
    have HN := Lib.hid hn
    clear hn
    by_cases h1 : k < ps.length
    · have h1i : (k : Int) < (ps.length : Int) := by omega
      obtain ⟨b, off, rfl, hbl, hcc⟩ := HS.out (by omega)
      obtain ⟨c1, c2⟩ := hcc k h1
      have HX : Hid (sx ps k = ((sx ps k).1, (sx ps k).2)) := rfl
      generalize hxa : (sx ps k).1 = xa at *
      generalize hxb : (sx ps k).2 = xb at *
      have E := fun W => eq111 (pa : Int) (pb : Int) (xa : Int) (xb : Int) W
      clear hcc hxa hxb
      by_cases he : xa = pa ∧ xb = pb
      · have heb : ((pa : Int) == (xa : Int) && (pb : Int) == (xb : Int)) = true := by simp [he.1, he.2]
        rw [heb] at E
        have HIN : Hid ((pa, pb) ∈ ps) := by
          show _ ∈ _
          have := HX.out
          rw [he.1, he.2, sx_lt h1] at this
          rw [← this]
          exact List.getElem_mem h1
        clear heb he
        go_wp2_with fail
        go_quiet (fail)
        go_wp2_with fail
        go_ret
        exact .inl ⟨k, rfl, HIN.out, below_drewN (below_drewN HB.out _) _⟩
      · have heb : ((pa : Int) == (xa : Int) && (pb : Int) == (xb : Int)) = false := by
          rw [Bool.and_eq_false_iff]
          by_cases h2 : xa = pa
          · exact .inr (beq_eq_false_iff_ne.2 (fun e => he ⟨h2, by omega⟩))
          · exact .inl (beq_eq_false_iff_ne.2 (fun e => h2 (by omega)))
        rw [heb] at E
        have HNE : Hid (sx ps k ≠ (pa, pb)) := fun e => he (by rw [HX.out] at e; injection e with e1 e2; exact ⟨e1, e2⟩)
        clear heb he
        go_wp2_with fail
        go_quiet (fail)
        go_wp2_with fail
        go_roundw
        case rel =>
          have hst : ∀ j, j < k + 1 → sx ps j ≠ (pa, pb) := fun j hj => by
            by_cases e : j = k
            · subst e; exact HNE.out
            · exact HN.out j (by omega)
          have e1 : ((k : Int) + 1) = ((k + 1 : Nat) : Int) := by omega
          first
            | exact ⟨k + 1, _, by omega, by go_num, hst, rfl⟩
            | (rw [e1]; exact ⟨_, _, _, _, _, _, ⟨k + 1, _, by omega, rfl, hst, rfl⟩, rfl⟩)
            | trace_state
        case measure =>
          first
            | (simp [intOf]; omega)
            | (show ps.length - ((k : Int) + 1).toNat < ps.length - (k : Int).toNat; omega)
    · have h1i : ¬ (k : Int) < (ps.length : Int) := by omega
      have HNO : Hid (¬ (pa, pb) ∈ ps) := fun hin => by
        obtain ⟨j, hj, e⟩ := List.getElem_of_mem hin
        exact HN.out j (by omega) (by rw [sx_lt hj]; exact e)
      go_wp2_with fail
      go_ret
      exact .inr ⟨rfl, HNO.out, below_drewN HB.out _⟩

set_option maxRecDepth 100000 in
set_option maxHeartbeats 1000000 in
theorem containsS (A : Option Addr) (c : Nat) (ps : List (Nat × Nat)) (pa pb : Nat) (w : World) (h : Sts w.heap.size w A ps) (hc : ps.length ≤ c ∧ c ≤ 9223372036854775807) :
    Calls Try.prog 66 #[.slice A ps.length c, .agg #[.int .i64 (pa : Int), .int .i64 (pb : Int)]] w (Ans w (.bool (decide ((pa, pb) ∈ ps)))) := by
  have hb0 : Below w.heap.size w (w.alloc (.cells #[.int .i64 (pa : Int), .int .i64 (pb : Int)] 111)) := (Below.refl _ _).alloc (Nat.le_refl _) _
  have H := Lib.hid (indexS A c ps pa pb _ (h.step hb0) hc)
  clear h
  go_enter Try.func66, Try.ntmps66
  go_wp2_with fail
  refine H.out.mono ?_
  rintro e w1 (⟨k, rfl, hk, hb⟩ | ⟨rfl, hk, hb⟩)
  · go_wp2_with fail
    go_ret
    exact ⟨ret_bool (by rw [decide_eq_true hk]), hb0.trans (hb.mono hb0.size)⟩
  · go_wp2_with fail
    go_ret
    exact ⟨ret_bool (by rw [decide_eq_false hk]), hb0.trans (hb.mono hb0.size)⟩
end Go.Proofs.Ytadjkinpimmhkaa
