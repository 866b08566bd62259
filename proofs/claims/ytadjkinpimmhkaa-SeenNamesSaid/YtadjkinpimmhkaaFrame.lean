/-
  What is seen of a frame: the ranges of both balls, and how many games it has.
-/
import Derived.Test.YtadjkinpimmhkaaFrameR
namespace Go.Proofs.Ytadjkinpimmhkaa
open Go.RowKit
set_option linter.unusedSimpArgs false
set_option linter.unusedVariables false

attribute [local go_sem] Oper.semAt_some

set_option maxRecDepth 100000 in
set_option maxHeartbeats 8000000 in
theorem frame_c {B : Nat} (p c : Nat) (fr frn : Int) (o : Nat → Bool) (A : Option Addr) (ws : List Wd) (w : World) (hB : B ≤ w.heap.size) (hpB : p < B) (hn : w.cell? ⟨p, 0, none⟩ = some (.int .i64 frn)) (hl : w.cell? ⟨p, 1, none⟩ = some (.slice A ws.length c)) (hw : Wds B w A ws)
    (hl9 : ws.length ≤ 1000000) (hok : ∀ k, k < ws.length → wordB frn (wx ws k) = true) :
    Calls Try.prog 59 #[.pointer (some ⟨p, 0, none⟩), .int .i64 fr, .agg #[.bool (o 0), .bool (o 1), .bool (o 2), .bool (o 3)]] w
      (Ans w (.tuple #[.agg #[.int .i64 (loS (fsts (gamesL ws fr o))), .int .i64 (hiS (fsts (gamesL ws fr o))), .int .i64 (loS (snds (gamesL ws fr o))), .int .i64 (hiS (snds (gamesL ws fr o)))], .int .i64 ((gamesL ws fr o).length : Int)])) := by
  have HN := Lib.hid hn
  have HL := Lib.hid hl
  have HW := Lib.hid hw
  have HOK := Lib.hid hok
  clear hn hl hw hok
  refine calls_marks Try.func59 rfl ?_
  simp only [Try.ntmps59, List.size_toArray, List.length_cons, List.length_nil, Nat.reduceAdd, Nat.reduceSub, Array.replicate_succ, Array.replicate_zero, List.push_toArray, List.append_toArray, List.nil_append, List.cons_append]
  go_wp2_with (go_at_call 68; refine (games_c _ _ o _).mono ?_; rintro e w2 ⟨rfl, rfl⟩)
  have hb1 : Below w.heap.size w ((((((w.alloc (.cells #[.bool (o 0), .bool (o 1), .bool (o 2), .bool (o 3)] 92)).alloc (.cells #[.int .i64 0, .int .i64 0, .int .i64 0, .int .i64 0] 100)).alloc (.cells #[.int .i64 0] 3)).alloc (.cells #[.pointer (some ⟨p, 0, none⟩)] 90)).alloc (.cells #[.int .i64 fr] 3)).alloc (.cells #[.bool (o 0), .bool (o 1), .bool (o 2), .bool (o 3)] 92)) := (((((((Below.refl _ _).alloc (Nat.le_refl _) _).alloc (by simp) _).alloc (by simp; omega) _).alloc (by simp; omega) _).alloc (by simp; omega) _).alloc (by simp; omega) _)
  have hsz : ((((((w.alloc (.cells #[.bool (o 0), .bool (o 1), .bool (o 2), .bool (o 3)] 92)).alloc (.cells #[.int .i64 0, .int .i64 0, .int .i64 0, .int .i64 0] 100)).alloc (.cells #[.int .i64 0] 3)).alloc (.cells #[.pointer (some ⟨p, 0, none⟩)] 90)).alloc (.cells #[.int .i64 fr] 3)).alloc (.cells #[.bool (o 0), .bool (o 1), .bool (o 2), .bool (o 3)] 92)).heap.size = w.heap.size + 6 := by simp
  have hR0 : Rg ((((((w.alloc (.cells #[.bool (o 0), .bool (o 1), .bool (o 2), .bool (o 3)] 92)).alloc (.cells #[.int .i64 0, .int .i64 0, .int .i64 0, .int .i64 0] 100)).alloc (.cells #[.int .i64 0] 3)).alloc (.cells #[.pointer (some ⟨p, 0, none⟩)] 90)).alloc (.cells #[.int .i64 fr] 3)).alloc (.cells #[.bool (o 0), .bool (o 1), .bool (o 2), .bool (o 3)] 92)) (w.heap.size + 1) 0 0 0 0 := by
    have := World.alloc_heap_new (w.alloc (.cells #[.bool (o 0), .bool (o 1), .bool (o 2), .bool (o 3)] 92)) (.cells #[.int .i64 0, .int .i64 0, .int .i64 0, .int .i64 0] 100)
    rw [World.size_alloc] at this
    exact ((((show Rg _ _ 0 0 0 0 from this).alloc _).alloc _).alloc _).alloc _
  have hO0 : On ((((((w.alloc (.cells #[.bool (o 0), .bool (o 1), .bool (o 2), .bool (o 3)] 92)).alloc (.cells #[.int .i64 0, .int .i64 0, .int .i64 0, .int .i64 0] 100)).alloc (.cells #[.int .i64 0] 3)).alloc (.cells #[.pointer (some ⟨p, 0, none⟩)] 90)).alloc (.cells #[.int .i64 fr] 3)).alloc (.cells #[.bool (o 0), .bool (o 1), .bool (o 2), .bool (o 3)] 92)) (w.heap.size + 1 + 1) 0 := by
    have := World.alloc_heap_new ((w.alloc (.cells #[.bool (o 0), .bool (o 1), .bool (o 2), .bool (o 3)] 92)).alloc (.cells #[.int .i64 0, .int .i64 0, .int .i64 0, .int .i64 0] 100)) (.cells #[.int .i64 0] 3)
    rw [World.size_alloc, World.size_alloc] at this
    exact (((show On _ _ 0 from this).alloc _).alloc _).alloc _
  have hq0 : ((((((w.alloc (.cells #[.bool (o 0), .bool (o 1), .bool (o 2), .bool (o 3)] 92)).alloc (.cells #[.int .i64 0, .int .i64 0, .int .i64 0, .int .i64 0] 100)).alloc (.cells #[.int .i64 0] 3)).alloc (.cells #[.pointer (some ⟨p, 0, none⟩)] 90)).alloc (.cells #[.int .i64 fr] 3)).alloc (.cells #[.bool (o 0), .bool (o 1), .bool (o 2), .bool (o 3)] 92)).cell? ⟨w.heap.size + 1 + 1 + 1, 0, none⟩ = some (.pointer (some ⟨p, 0, none⟩)) := by go_simp
  have hq1 : ((((((w.alloc (.cells #[.bool (o 0), .bool (o 1), .bool (o 2), .bool (o 3)] 92)).alloc (.cells #[.int .i64 0, .int .i64 0, .int .i64 0, .int .i64 0] 100)).alloc (.cells #[.int .i64 0] 3)).alloc (.cells #[.pointer (some ⟨p, 0, none⟩)] 90)).alloc (.cells #[.int .i64 fr] 3)).alloc (.cells #[.bool (o 0), .bool (o 1), .bool (o 2), .bool (o 3)] 92)).cell? ⟨w.heap.size + 1 + 1 + 1 + 1, 0, none⟩ = some (.int .i64 fr) := by go_simp
  have hq2 : ∀ j, j < 4 → ((((((w.alloc (.cells #[.bool (o 0), .bool (o 1), .bool (o 2), .bool (o 3)] 92)).alloc (.cells #[.int .i64 0, .int .i64 0, .int .i64 0, .int .i64 0] 100)).alloc (.cells #[.int .i64 0] 3)).alloc (.cells #[.pointer (some ⟨p, 0, none⟩)] 90)).alloc (.cells #[.int .i64 fr] 3)).alloc (.cells #[.bool (o 0), .bool (o 1), .bool (o 2), .bool (o 3)] 92)).cell? ⟨w.heap.size + 1 + 1 + 1 + 2, j, none⟩ = some (.bool (o j)) := by
    intro j hj
    rcases (by omega : j = 0 ∨ j = 1 ∨ j = 2 ∨ j = 3) with rfl | rfl | rfl | rfl <;> go_simp
  have hS0 : GSt B ((((((w.alloc (.cells #[.bool (o 0), .bool (o 1), .bool (o 2), .bool (o 3)] 92)).alloc (.cells #[.int .i64 0, .int .i64 0, .int .i64 0, .int .i64 0] 100)).alloc (.cells #[.int .i64 0] 3)).alloc (.cells #[.pointer (some ⟨p, 0, none⟩)] 90)).alloc (.cells #[.int .i64 fr] 3)).alloc (.cells #[.bool (o 0), .bool (o 1), .bool (o 2), .bool (o 3)] 92)) (w.heap.size + 1 + 1 + 1) p fr frn o A c ws := ⟨hq0, hq1, hq2, cell_of_ans hb1 HN.out, cell_of_ans hb1 HL.out, HW.out.below (hb1.mono hB)⟩
  clear hq0 hq1 hq2
  generalize ((((((w.alloc (.cells #[.bool (o 0), .bool (o 1), .bool (o 2), .bool (o 3)] 92)).alloc (.cells #[.int .i64 0, .int .i64 0, .int .i64 0, .int .i64 0] 100)).alloc (.cells #[.int .i64 0] 3)).alloc (.cells #[.pointer (some ⟨p, 0, none⟩)] 90)).alloc (.cells #[.int .i64 fr] 3)).alloc (.cells #[.bool (o 0), .bool (o 1), .bool (o 2), .bool (o 3)] 92)) = W1 at hb1 hsz hR0 hO0 hS0 ⊢
  obtain ⟨g1, hg1⟩ : ∃ g1, g1 = w.heap.size + 1 := ⟨_, rfl⟩
  obtain ⟨g2, hg2⟩ : ∃ g2, g2 = w.heap.size + 1 + 1 := ⟨_, rfl⟩
  obtain ⟨q, hq⟩ : ∃ q, q = w.heap.size + 1 + 1 + 1 := ⟨_, rfl⟩
  rw [← hg1] at hR0
  rw [← hg2] at hO0
  rw [← hq] at hS0
  rw [← hq, ← hg2, ← hg1]
  have l0 : w.heap.size < g1 := by omega
  have l1 : g1 < g2 := by omega
  have l2 : g2 < q := by omega
  have l3 : q + 2 < W1.heap.size := by omega
  clear hg1 hg2 hq hsz
  refine wpIn_wide.1 (wpIn_rangeFunc_ownH (F := Fence.wide) (n := 5) (α := Nat × Nat) rfl (by omega) (gf := 79) (lb := #[.pointer (some ⟨q, 0, none⟩), .pointer (some ⟨q + 1, 0, none⟩), .pointer (some ⟨q + 2, 0, none⟩)]) rfl trivial (enters_of Try.func79 (by kernel_rfl) rfl)
    (games_stops 4 q p c fr frn o A ws W1.heap.size (Nat.le_trans hB (by omega)) hl9 HOK.out (Kp2 W1.heap.size g1 g2) (fun h k => h.trans k) (fun _ _ hn hb => Kp2.of_below hb hn) (fun _ _ h => h.1)
      (fun W W' hk hs => hs.kept2 hk (by omega) (by omega) (by omega) (by omega) (by omega) (by omega) hpB) W1 (Nat.le_refl _) hS0)
    (fun h k => h.trans k) ?keepPut (Below.refl _ _) (fun _ => rfl)
    (fun pre W => Rg W g1 (loS (fsts pre)) (hiS (fsts pre)) (loS (snds pre)) (hiS (snds pre)) ∧ On W g2 (pre.length : Int) ∧ Kp2 W1.heap.size g1 g2 W1 W)
    (fun _ _ _ => False) ?ownI (fun _ _ _ _ _ hs _ _ => hs) ⟨hR0, hO0, Kp2.refl _ _ _ _⟩
    (fun x a' W => ∃ bb, W1.heap.size ≤ bb ∧ W.heap[bb]? = some (.cells #[.int .i64 (x.1 : Int), .int .i64 (x.2 : Int)] 111 (0, 0)) ∧ a' = { tmps := #[.pointer (some ⟨p, 0, none⟩), .int .i64 fr, .agg #[.bool (o 0), .bool (o 1), .bool (o 2), .bool (o 3)], undef, undef, .pointer (some ⟨w.heap.size, 0, none⟩), .pointer (some ⟨g1, 0, none⟩), .pointer (some ⟨g2, 0, none⟩), .pointer (some ⟨bb, 0, none⟩), undef, undef, undef, .pointer (some ⟨p, 0, none⟩), .int .i64 fr, .agg #[.bool (o 0), .bool (o 1), .bool (o 2), .bool (o 3)], .func (.func 79) #[] #[.pointer (some ⟨q, 0, none⟩), .pointer (some ⟨q + 1, 0, none⟩), .pointer (some ⟨q + 2, 0, none⟩)], .agg #[.int .i64 (x.1 : Int), .int .i64 (x.2 : Int)], undef, undef, undef, undef, undef, undef, undef, undef, undef, undef, undef, undef, undef, undef, undef, undef, undef, undef, undef, undef, undef, undef, undef, undef, undef, undef, undef, undef, undef, undef, undef, undef, undef, undef, undef, undef, undef, undef], defers := [] })
    ?ownA ?assign ?body ?done ?stop)
  case keepPut =>
    intro W l x y hl hx _ _
    exact ⟨by simp, rfl, rfl, rfl, fun k hk _ _ => World.putObj_heap_other (by omega)⟩
  case ownI =>
    rintro pre W W' row ⟨hRr, hOo, hKp⟩ hg' hrow
    have hz := hKp.1
    refine ⟨(hg'.block g1 (by omega) (fun e => ?_)).trans hRr, (hg'.block g2 (by omega) (fun e => ?_)).trans hOo, hKp.trans ⟨hg'.size, hg'.os, hg'.tape, hg'.output, fun k hk _ _ => hg'.block k (by omega) (fun e => ?_)⟩⟩
    all_goals
      have := (hrow _ e.symm).1
      omega
  case ownA =>
    rintro x a' _ W W' row ⟨bb, hbb, hc, rfl⟩ hg' hrow
    refine ⟨bb, hbb, (hg'.block bb (Array.getElem?_eq_some_iff.1 hc).1 (fun e => ?_)).trans hc, rfl⟩
    obtain ⟨_, ob, ho, hno⟩ := hrow _ e.symm
    rw [hc] at ho
    cases ho
    cases hno
  case assign =>
    rintro l pre x W K ⟨hRr, hOo, hKp⟩ hK
    have hz := hKp.1
    simp only [gEnc]
    gi_wp2
    have hbW : Below W.heap.size W (W.alloc (.cells #[.int .i64 (x.1 : Int), .int .i64 (x.2 : Int)] 111)) := (Below.refl _ _).alloc (Nat.le_refl _) _
    refine hK _ _ ((KeepsOthers.alloc _ _).from _) (Kp2.of_below hbW hz) ⟨hRr.below hbW, hOo.below hbW, hKp.trans (Kp2.of_below hbW hz)⟩ ⟨W.heap.size, hz, World.alloc_heap_new _ _, rfl⟩
  case done =>
    rintro D ys W hD rfl ⟨hRr, hOo, hKp⟩ hK
    have hz := hKp.1
    have hKp' : Kp2 W1.heap.size g1 g2 W1 (W.putObj D (.deferred none)) := hKp.trans ⟨by simp, rfl, rfl, rfl, fun k hk _ _ => World.putObj_heap_other (by omega)⟩
    obtain ⟨r0, r1, r2, r3, r4⟩ := hRr.cells
    obtain ⟨n0, n1⟩ := hOo.cell
    have hgg : g1 ≠ g2 := by omega
    have hgg' : g2 ≠ g1 := by omega
    have f1 := r4 0
    have f2 := r4 1
    have f3 := r4 2
    have f4 := r4 3
    generalize loS (fsts (gamesL ws fr o)) = a1 at *
    generalize hiS (fsts (gamesL ws fr o)) = a2 at *
    generalize loS (snds (gamesL ws fr o)) = a3 at *
    generalize hiS (snds (gamesL ws fr o)) = a4 at *
    generalize ((gamesL ws fr o).length : Int) = a5 at *
    obtain ⟨v1, v2, v3, v4⟩ := hRr.same
    have v5 := hOo.same
    have HR := Lib.hid hRr
    have HO := Lib.hid hOo
    have HKD := Lib.hid hK
    have HKp := Lib.hid hKp
    clear r4 hK hKp' hKp hRr hOo
    go_wp2_with fail
    go_region_held3 (fun w' => w'.cell? ⟨g1, 0, none⟩ = some (.int .i64 a1) ∧ w'.cell? ⟨g1, 1, none⟩ = some (.int .i64 a2) ∧ w'.cell? ⟨g1, 2, none⟩ = some (.int .i64 a3) ∧ w'.cell? ⟨g1, 3, none⟩ = some (.int .i64 a4) ∧ w'.cell? ⟨g2, 0, none⟩ = some (.int .i64 a5)) (go_keep) (first | fail)
    all_goals
      go_wp2_with fail
      refine ⟨by simp, .inl ⟨_, _, rfl, run_takeDeferred (w := W.drew) HKD.out, ?_⟩⟩
      obtain ⟨x0, x1, x2, x3, -⟩ := (Rg.put (w := W.drew) HR.out (show g1 ≠ D by omega) (.deferred none)).cells
      obtain ⟨x4, -⟩ := (On.put (w := W.drew) HO.out (show g2 ≠ D by omega) (.deferred none)).cell
      refine ⟨.tuple #[.agg #[.int .i64 a1, .int .i64 a2, .int .i64 a3, .int .i64 a4], .int .i64 a5], by simp [results, Try.results59, go_sem, x0, x1, x2, x3, x4], rfl, ?_⟩
      have hk := HKp.out
      exact hb1.trans ⟨hk.2.1, hk.2.2.1, hk.2.2.2.1, by simpa using hk.1, fun k hk' => (World.putObj_heap_other (by omega)).trans (hk.2.2.2.2 k (by omega) (by omega) (by omega))⟩
  case body =>
    rintro l pre x a' W hl ⟨r, hr⟩ ⟨hRr, hOo, hKp⟩ ⟨bb, hbb, hcell, rfl⟩ hlt
    obtain ⟨xf, xs⟩ := x
    dsimp only at hcell ⊢
    have hz := hKp.1
    have hbw : bb < W.heap.size := (Array.getElem?_eq_some_iff.1 hcell).1
    have e82 := enters82
    have e83 := enters83
    unfold Enters at e82 e83
    have i0 := index_pl0
    have i1 := index_pl1
    have hA1 : Hid (loS (fsts (pre ++ [(xf, xs)])) = if pre.length = 0 then (xf : Int) else min (loS (fsts pre)) (xf : Int)) := by show _ = _; rw [fsts_snoc, loS_snoc, fsts_len]
    have hA2 : Hid (hiS (fsts (pre ++ [(xf, xs)])) = if pre.length = 0 then (xf : Int) else max (hiS (fsts pre)) (xf : Int)) := by show _ = _; rw [fsts_snoc, hiS_snoc, fsts_len]
    have hA3 : Hid (loS (snds (pre ++ [(xf, xs)])) = if pre.length = 0 then (xs : Int) else min (loS (snds pre)) (xs : Int)) := by show _ = _; rw [snds_snoc, loS_snoc, snds_len]
    have hA4 : Hid (hiS (snds (pre ++ [(xf, xs)])) = if pre.length = 0 then (xs : Int) else max (hiS (snds pre)) (xs : Int)) := by show _ = _; rw [snds_snoc, hiS_snoc, snds_len]
    obtain ⟨b1, hbq1⟩ : ∃ b, loS (fsts (pre ++ [(xf, xs)])) = b := ⟨_, rfl⟩
    rw [hbq1] at hA1
    have HQ1 := Lib.hid hbq1
    clear hbq1
    generalize loS (fsts pre) = a1 at *
    obtain ⟨b2, hbq2⟩ : ∃ b, hiS (fsts (pre ++ [(xf, xs)])) = b := ⟨_, rfl⟩
    rw [hbq2] at hA2
    have HQ2 := Lib.hid hbq2
    clear hbq2
    generalize hiS (fsts pre) = a2 at *
    obtain ⟨b3, hbq3⟩ : ∃ b, loS (snds (pre ++ [(xf, xs)])) = b := ⟨_, rfl⟩
    rw [hbq3] at hA3
    have HQ3 := Lib.hid hbq3
    clear hbq3
    generalize loS (snds pre) = a3 at *
    obtain ⟨b4, hbq4⟩ : ∃ b, hiS (snds (pre ++ [(xf, xs)])) = b := ⟨_, rfl⟩
    rw [hbq4] at hA4
    have HQ4 := Lib.hid hbq4
    clear hbq4
    generalize hiS (snds pre) = a4 at *
    have hln : Hid ((pre ++ [(xf, xs)]).length = pre.length + 1) := by show _ = _; simp
    obtain ⟨n1, hN⟩ : ∃ n, (pre ++ [(xf, xs)]).length = n := ⟨_, rfl⟩
    rw [hN] at hln
    have HNQ := Lib.hid hN
    clear hN
    have hn1 : Hid ((n1 : Int) = (pre.length : Int) + 1) := by show _ = _; rw [hln.out]; rfl
    generalize pre.length = n0 at *
    have HR := Lib.hid hRr
    have HO := Lib.hid hOo
    have HKp := Lib.hid hKp
    have HC := Lib.hid hcell
    clear hRr hOo hKp hcell
    gi_wp2_with (refine ⟨trivial, ?_⟩; gi_at_call 71; refine (CallsIn.inRound l (callsIn_wide.2 (places_c _))).mono ?_; rintro e w1 ⟨rfl, hb⟩; have HB := Lib.hid hb; clear hb)
    gi_loopw [18] (fun i wr => ((i = .int .i64 0 ∧ Rg wr g1 a1 a2 a3 a4) ∨ (i = .int .i64 1 ∧ Rg wr g1 b1 b2 a3 a4) ∨ (i = .int .i64 2 ∧ Rg wr g1 b1 b2 b3 b4)) ∧ On wr g2 (n0 : Int) ∧ Kp2 W.heap.size g1 g2 W wr) (fun i _ => 2 - (intOf i).toNat)
    case atStart => exact ⟨.inl ⟨rfl, HR.out.below HB.out⟩, HO.out.below HB.out, Kp2.of_below HB.out (Nat.le_refl _)⟩
    case round =>
      obtain ⟨hcase, hOr, hKr⟩ := hrel
      rename World => wr
      have hzr := hKr.1
      have hgg : g1 ≠ g2 := by omega
      have hgg2 : g2 ≠ g1 := by omega
      have c0 : wr.cell? ⟨bb, 0, none⟩ = some (.int .i64 (xf : Int)) := hKr.cell (by simp [World.cell?, HC.out]) hbw (by dsimp only; omega) (by dsimp only; omega)
      have c1 : wr.cell? ⟨bb, 1, none⟩ = some (.int .i64 (xs : Int)) := hKr.cell (by simp [World.cell?, HC.out]) hbw (by dsimp only; omega) (by dsimp only; omega)
      have hbr : bb < wr.heap.size := by omega
      have hg1r : g1 < wr.heap.size := by omega
      have hg2r : g2 < wr.heap.size := by omega
      obtain ⟨n2, n3⟩ := hOr.cell
      have HOr := Lib.hid hOr
      have HKr := Lib.hid hKr
      clear hOr hKr
      rcases hcase with ⟨rfl, hRr⟩ | ⟨rfl, hRr⟩ | ⟨rfl, hRr⟩
      · obtain ⟨r0, r1, r2, r3, r4⟩ := hRr.cells
        have f0 := r4 0
        have f1 := r4 1
        have f2 := r4 2
        have f3 := r4 3
        have HRr := Lib.hid hRr
        clear hRr r4
        have hb2 : Below wr.heap.size wr (wr.alloc (.cells #[.func (.func 82) #[] #[]] 121)) := (Below.refl _ _).alloc (Nat.le_refl _) _
        have HB2 := Lib.hid hb2
        have hCO := Lib.hid (one_c (xf : Int) (xs : Int) (wr.alloc (.cells #[.func (.func 82) #[] #[]] 121)))
        clear hb2
        by_cases hn0 : n0 = 0
        · have t0 : ((n0 : Int) == 0) = true := by simp [hn0]
          have HN0 := Lib.hid hn0
          clear hn0
          gi_wp2_with (refine ⟨trivial, ?_⟩; gi_at_call 82; refine (CallsIn.inRound l (callsIn_wide.2 hCO.out)).mono ?_; rintro e w3 ⟨rfl, hb⟩; have HR3 := Lib.hid ((HRr.out.alloc _).below hb); have HO3 := Lib.hid ((HOr.out.alloc _).below hb); clear r0 r1 r2 r3 f0 f1 f2 f3 n2 n3; obtain ⟨r0, r1, r2, r3, r4⟩ := HR3.out.cells; have f0 := r4 0; have f1 := r4 1; have f2 := r4 2; have f3 := r4 3; obtain ⟨n2, n3⟩ := HO3.out.cell; have HB3 := Lib.hid hb; clear hb r4)
          have HK3 : Hid (Kp2 W.heap.size g1 g2 W w3) := HKr.out.trans ((Kp2.of_below HB2.out hzr).trans (Kp2.of_below HB3.out (Nat.le_trans hzr HB2.out.size)))
          have HRz := Lib.hid (HR3.out.set0 (xf : Int) (xf : Int))
          have HOz := Lib.hid ((HO3.out.far (ad := ⟨g1, 0, none⟩) hgg2 (.int .i64 (xf : Int))).far (ad := ⟨g1, 1, none⟩) hgg2 (.int .i64 (xf : Int)))
          have HKz := Lib.hid (HK3.out.trans ((Kp2.of_set (n₀ := W.heap.size) (g := g1) (g' := g2) (A := w3) (ad := ⟨g1, 0, none⟩) (.inl rfl) (.int .i64 (xf : Int))).trans (Kp2.of_set (ad := ⟨g1, 1, none⟩) (.inl rfl) (.int .i64 (xf : Int)))))
          generalize (w3.setCell ⟨g1, 0, none⟩ (.int .i64 (xf : Int))).setCell ⟨g1, 1, none⟩ (.int .i64 (xf : Int)) = wz at HRz HOz HKz ⊢
          clear r0 r1 r2 r3 f0 f1 f2 f3 n2 n3 HR3 HO3 HK3 HB3
          refine reg9_0 (by kernel_rfl) (by rintro ⟨_, _, h⟩; exact h) (fun _ _ _ _ h => h) HRz.out (fun s39 s46 W5 hg5 hk5 => ?_)
          have HG5 := Lib.hid hg5
          have HK5 := Lib.hid hk5
          clear hg5 hk5
          gi_wp2
          go_roundw
          case rel =>
            have hk2 : Kp2 W.heap.size g1 g2 W W5 := HKz.out.trans ⟨HK5.out.1, HK5.out.2.1, HK5.out.2.2.1, HK5.out.2.2.2.1, fun j hj h1 _ => HK5.out.2.2.2.2 j (Nat.lt_of_lt_of_le hj HKz.out.1) h1 h1⟩
            refine ⟨.inr (.inl ⟨by go_num, ?_⟩), (HK5.out.2.2.2.2 g2 HOz.out.lt hgg2 hgg2).trans HOz.out, hk2⟩
            have hg := HG5.out
            rw [hA1.out, hA2.out, if_pos HN0.out, if_pos HN0.out]
            simpa using hg
          case measure => simp [intOf]
        · have t0 : ((n0 : Int) == 0) = false := by simp; omega
          have HN0 := Lib.hid hn0
          clear hn0
          gi_wp2_with (refine ⟨trivial, ?_⟩; gi_at_call 82; refine (CallsIn.inRound l (callsIn_wide.2 hCO.out)).mono ?_; rintro e w3 ⟨rfl, hb⟩; have HR3 := Lib.hid ((HRr.out.alloc _).below hb); have HO3 := Lib.hid ((HOr.out.alloc _).below hb); clear r0 r1 r2 r3 f0 f1 f2 f3 n2 n3; obtain ⟨r0, r1, r2, r3, r4⟩ := HR3.out.cells; have f0 := r4 0; have f1 := r4 1; have f2 := r4 2; have f3 := r4 3; obtain ⟨n2, n3⟩ := HO3.out.cell; have HB3 := Lib.hid hb; clear hb r4)
          have HK3 : Hid (Kp2 W.heap.size g1 g2 W w3) := HKr.out.trans ((Kp2.of_below HB2.out hzr).trans (Kp2.of_below HB3.out (Nat.le_trans hzr HB2.out.size)))
          have HRz := HR3
          have HOz := HO3
          have HKz := HK3
          obtain ⟨wz, hwz⟩ : ∃ wz, wz = w3 := ⟨_, rfl⟩
          rw [← hwz] at HRz HOz HKz ⊢
          clear hwz
          clear r0 r1 r2 r3 f0 f1 f2 f3 n2 n3 HR3 HO3 HK3 HB3
          refine reg9_0 (by kernel_rfl) (by rintro ⟨_, _, h⟩; exact h) (fun _ _ _ _ h => h) HRz.out (fun s39 s46 W5 hg5 hk5 => ?_)
          have HG5 := Lib.hid hg5
          have HK5 := Lib.hid hk5
          clear hg5 hk5
          gi_wp2
          go_roundw
          case rel =>
            have hk2 : Kp2 W.heap.size g1 g2 W W5 := HKz.out.trans ⟨HK5.out.1, HK5.out.2.1, HK5.out.2.2.1, HK5.out.2.2.2.1, fun j hj h1 _ => HK5.out.2.2.2.2 j (Nat.lt_of_lt_of_le hj HKz.out.1) h1 h1⟩
            refine ⟨.inr (.inl ⟨by go_num, ?_⟩), (HK5.out.2.2.2.2 g2 HOz.out.lt hgg2 hgg2).trans HOz.out, hk2⟩
            have hg := HG5.out
            rw [hA1.out, hA2.out, if_neg HN0.out, if_neg HN0.out]
            exact hg
          case measure => simp [intOf]
      · obtain ⟨r0, r1, r2, r3, r4⟩ := hRr.cells
        have f0 := r4 0
        have f1 := r4 1
        have f2 := r4 2
        have f3 := r4 3
        have HRr := Lib.hid hRr
        clear hRr r4
        have hb2 : Below wr.heap.size wr (wr.alloc (.cells #[.func (.func 83) #[] #[]] 121)) := (Below.refl _ _).alloc (Nat.le_refl _) _
        have HB2 := Lib.hid hb2
        have hCO := Lib.hid (two_c (xf : Int) (xs : Int) (wr.alloc (.cells #[.func (.func 83) #[] #[]] 121)))
        clear hb2
        by_cases hn0 : n0 = 0
        · have t0 : ((n0 : Int) == 0) = true := by simp [hn0]
          have HN0 := Lib.hid hn0
          clear hn0
          gi_wp2_with (refine ⟨trivial, ?_⟩; gi_at_call 83; refine (CallsIn.inRound l (callsIn_wide.2 hCO.out)).mono ?_; rintro e w3 ⟨rfl, hb⟩; have HR3 := Lib.hid ((HRr.out.alloc _).below hb); have HO3 := Lib.hid ((HOr.out.alloc _).below hb); clear r0 r1 r2 r3 f0 f1 f2 f3 n2 n3; obtain ⟨r0, r1, r2, r3, r4⟩ := HR3.out.cells; have f0 := r4 0; have f1 := r4 1; have f2 := r4 2; have f3 := r4 3; obtain ⟨n2, n3⟩ := HO3.out.cell; have HB3 := Lib.hid hb; clear hb r4)
          have HK3 : Hid (Kp2 W.heap.size g1 g2 W w3) := HKr.out.trans ((Kp2.of_below HB2.out hzr).trans (Kp2.of_below HB3.out (Nat.le_trans hzr HB2.out.size)))
          have HRz := Lib.hid (HR3.out.set2 (xs : Int) (xs : Int))
          have HOz := Lib.hid ((HO3.out.far (ad := ⟨g1, 2, none⟩) hgg2 (.int .i64 (xs : Int))).far (ad := ⟨g1, 3, none⟩) hgg2 (.int .i64 (xs : Int)))
          have HKz := Lib.hid (HK3.out.trans ((Kp2.of_set (n₀ := W.heap.size) (g := g1) (g' := g2) (A := w3) (ad := ⟨g1, 2, none⟩) (.inl rfl) (.int .i64 (xs : Int))).trans (Kp2.of_set (ad := ⟨g1, 3, none⟩) (.inl rfl) (.int .i64 (xs : Int)))))
          generalize (w3.setCell ⟨g1, 2, none⟩ (.int .i64 (xs : Int))).setCell ⟨g1, 3, none⟩ (.int .i64 (xs : Int)) = wz at HRz HOz HKz ⊢
          clear r0 r1 r2 r3 f0 f1 f2 f3 n2 n3 HR3 HO3 HK3 HB3
          refine reg9_1 (by kernel_rfl) (by rintro ⟨_, _, h⟩; exact h) (fun _ _ _ _ h => h) HRz.out (fun s39 s46 W5 hg5 hk5 => ?_)
          have HG5 := Lib.hid hg5
          have HK5 := Lib.hid hk5
          clear hg5 hk5
          gi_wp2
          go_roundw
          case rel =>
            have hk2 : Kp2 W.heap.size g1 g2 W W5 := HKz.out.trans ⟨HK5.out.1, HK5.out.2.1, HK5.out.2.2.1, HK5.out.2.2.2.1, fun j hj h1 _ => HK5.out.2.2.2.2 j (Nat.lt_of_lt_of_le hj HKz.out.1) h1 h1⟩
            refine ⟨.inr (.inr ⟨by go_num, ?_⟩), (HK5.out.2.2.2.2 g2 HOz.out.lt hgg2 hgg2).trans HOz.out, hk2⟩
            have hg := HG5.out
            rw [hA3.out, hA4.out, if_pos HN0.out, if_pos HN0.out]
            simpa using hg
          case measure => simp [intOf]
        · have t0 : ((n0 : Int) == 0) = false := by simp; omega
          have HN0 := Lib.hid hn0
          clear hn0
          gi_wp2_with (refine ⟨trivial, ?_⟩; gi_at_call 83; refine (CallsIn.inRound l (callsIn_wide.2 hCO.out)).mono ?_; rintro e w3 ⟨rfl, hb⟩; have HR3 := Lib.hid ((HRr.out.alloc _).below hb); have HO3 := Lib.hid ((HOr.out.alloc _).below hb); clear r0 r1 r2 r3 f0 f1 f2 f3 n2 n3; obtain ⟨r0, r1, r2, r3, r4⟩ := HR3.out.cells; have f0 := r4 0; have f1 := r4 1; have f2 := r4 2; have f3 := r4 3; obtain ⟨n2, n3⟩ := HO3.out.cell; have HB3 := Lib.hid hb; clear hb r4)
          have HK3 : Hid (Kp2 W.heap.size g1 g2 W w3) := HKr.out.trans ((Kp2.of_below HB2.out hzr).trans (Kp2.of_below HB3.out (Nat.le_trans hzr HB2.out.size)))
          have HRz := HR3
          have HOz := HO3
          have HKz := HK3
          obtain ⟨wz, hwz⟩ : ∃ wz, wz = w3 := ⟨_, rfl⟩
          rw [← hwz] at HRz HOz HKz ⊢
          clear hwz
          clear r0 r1 r2 r3 f0 f1 f2 f3 n2 n3 HR3 HO3 HK3 HB3
          refine reg9_1 (by kernel_rfl) (by rintro ⟨_, _, h⟩; exact h) (fun _ _ _ _ h => h) HRz.out (fun s39 s46 W5 hg5 hk5 => ?_)
          have HG5 := Lib.hid hg5
          have HK5 := Lib.hid hk5
          clear hg5 hk5
          gi_wp2
          go_roundw
          case rel =>
            have hk2 : Kp2 W.heap.size g1 g2 W W5 := HKz.out.trans ⟨HK5.out.1, HK5.out.2.1, HK5.out.2.2.1, HK5.out.2.2.2.1, fun j hj h1 _ => HK5.out.2.2.2.2 j (Nat.lt_of_lt_of_le hj HKz.out.1) h1 h1⟩
            refine ⟨.inr (.inr ⟨by go_num, ?_⟩), (HK5.out.2.2.2.2 g2 HOz.out.lt hgg2 hgg2).trans HOz.out, hk2⟩
            have hg := HG5.out
            rw [hA3.out, hA4.out, if_neg HN0.out, if_neg HN0.out]
            exact hg
          case measure => simp [intOf]
      · have HRr := Lib.hid hRr
        clear hRr
        gi_wp2
        have hk := HKr.out.trans (Kp2.of_set (n₀ := W.heap.size) (g := g1) (g' := g2) (A := wr) (ad := ⟨g2, 0, none⟩) (.inr rfl) (.int .i64 ((n0 : Int) + 1)))
        refine ⟨⟨hk.1, fun k ob hk1 hko _ => (hk.2.2.2.2 k (Array.getElem?_eq_some_iff.1 hko).1 (by omega) (by omega)).trans hko⟩, hk.less hz, by rw [HQ1.out, HQ2.out, HQ3.out, HQ4.out]; exact HRr.out.far hgg _, ?_, HKp.out.trans (hk.less hz)⟩
        rw [HNQ.out, hn1.out]
        exact HOr.out.set _
  case stop => exact fun _ _ _ _ _ _ h _ => h.elim
end Go.Proofs.Ytadjkinpimmhkaa
