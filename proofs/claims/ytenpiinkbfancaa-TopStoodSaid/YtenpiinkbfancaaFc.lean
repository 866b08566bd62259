/-
  frame: the iterator over the balls of a sheet.
-/
import Derived.Test.YtenpiinkbfancaaFb
namespace Go.Proofs.Ytenpiinkbfancaa
open Go.RowKit
set_option linter.unusedSimpArgs false
set_option linter.unusedVariables false

attribute [local go_sem] Oper.semAt_some
theorem wpIn_scope_wide {n : Nat} {P : Program} {c : Code} {Q : Exit → Act → World → Prop} {a : Act} {w : World} (h : c.wpIn Fence.wide n P (Exit.noGoto Q) a w) : (Code.scope c).wpIn Fence.wide n P Q a w := wpIn_wide.2 (wp_scope_straight (wpIn_wide.1 h))
/-- What the iterator reads: its box of the law (q), that of the sheet (q + 1), the balls. -/
structure BSt (W : World) (q B : Nat) (N : Int) (A : Option Addr) (c : Nat) (xs : List Int) : Prop where
  l0 : W.cell? ⟨q, 0, none⟩ = some (.int .i64 N)
  l1 : W.cell? ⟨q, 1, none⟩ = some (.int .i64 10)
  l2 : W.cell? ⟨q, 2, none⟩ = some (.int .i64 2)
  l3 : W.cell? ⟨q, 3, none⟩ = some (.int .i64 10)
  sl : W.cell? ⟨q + 1, 0, none⟩ = some (.slice A xs.length c)
  el : Ints B W A xs
  bq : B ≤ q
theorem BSt.below {W W' : World} {q B : Nat} {N : Int} {A : Option Addr} {c : Nat} {xs : List Int} (h : BSt W q B N A c xs) (hb : Below W.heap.size W W') : BSt W' q B N A c xs :=
  ⟨cell_of_ans hb h.l0, cell_of_ans hb h.l1, cell_of_ans hb h.l2, cell_of_ans hb h.l3, cell_of_ans hb h.sl, h.el.below (hb.mono (Nat.le_trans h.bq (Nat.le_of_lt (World.block_lt_of_cell? _ _ h.l0)))), h.bq⟩
set_option maxHeartbeats 800000 in
theorem balls_c (N : Int) (A : Option Addr) (c B : Nat) (xs : List Int) (w : World) (he : Ints B w A xs) (hB : B ≤ w.heap.size) :
    Calls Try.prog 48 #[lawV N, .slice A xs.length c] w fun e w' => e = .returned (.func (.func 104) #[] #[.pointer (some ⟨w.heap.size, 0, none⟩), .pointer (some ⟨w.heap.size + 1, 0, none⟩)]) ∧
      Below w.heap.size w w' ∧ w'.heap.size = w.heap.size + 2 ∧ BSt w' w.heap.size B N A c xs := by
  have hb : Below w.heap.size w ((w.alloc (.cells #[.int .i64 N, .int .i64 10, .int .i64 2, .int .i64 10] 50)).alloc (.cells #[.slice A xs.length c] 42)) := below_two _ _
  have HE : Hid (BSt ((w.alloc (.cells #[.int .i64 N, .int .i64 10, .int .i64 2, .int .i64 10] 50)).alloc (.cells #[.slice A xs.length c] 42)) w.heap.size B N A c xs) := ⟨by go_simp, by go_simp, by go_simp, by go_simp, by go_simp, he.below (hb.mono hB), hB⟩
  have HB := Lib.hid hb
  clear hb he
  unfold lawV
  go_enter Try.func48, Try.ntmps48
  go_wp2
  go_ret
  exact ⟨rfl, HB.out, by simp, HE.out⟩
/-- A box that holds a game at play. -/
def PlAt (W : World) (g : Nat) (N : Int) (p : Pl) : Prop := W.heap[g]? = some (.cells #[.int .i64 N, .int .i64 10, .int .i64 2, .int .i64 10, .int .i64 p.fr, .int .i64 p.th, .int .i64 p.st, .bool p.fresh, .int .i64 p.need, .int .i64 p.a0, .int .i64 p.a1] 148)
section
variable {W W' : World} {g : Nat} {N : Int} {p : Pl}
theorem PlAt.lt (h : PlAt W g N p) : g < W.heap.size := (Array.getElem?_eq_some_iff.1 h).1
theorem PlAt.cells (h : PlAt W g N p) : (W.cell? ⟨g, 0, none⟩ = some (.int .i64 N) ∧ W.cell? ⟨g, 1, none⟩ = some (.int .i64 10) ∧ W.cell? ⟨g, 2, none⟩ = some (.int .i64 2) ∧ W.cell? ⟨g, 3, none⟩ = some (.int .i64 10)) ∧
    (W.cell? ⟨g, 4, none⟩ = some (.int .i64 p.fr) ∧ W.cell? ⟨g, 5, none⟩ = some (.int .i64 p.th) ∧ W.cell? ⟨g, 6, none⟩ = some (.int .i64 p.st) ∧ W.cell? ⟨g, 7, none⟩ = some (.bool p.fresh) ∧ W.cell? ⟨g, 8, none⟩ = some (.int .i64 p.need) ∧ W.cell? ⟨g, 9, none⟩ = some (.int .i64 p.a0) ∧ W.cell? ⟨g, 10, none⟩ = some (.int .i64 p.a1)) ∧ ∀ o, W.frozen? ⟨g, o, none⟩ = false := by
  unfold PlAt at h
  simp [World.cell?, World.frozen?, h]
theorem PlAt.step (h : PlAt W g N p) (hb : Below W.heap.size W W') : PlAt W' g N p := (hb.block g h.lt).trans h
theorem PlAt.new (w : World) (N : Int) (p : Pl) : PlAt (w.alloc (.cells #[.int .i64 N, .int .i64 10, .int .i64 2, .int .i64 10, .int .i64 p.fr, .int .i64 p.th, .int .i64 p.st, .bool p.fresh, .int .i64 p.need, .int .i64 p.a0, .int .i64 p.a1] 148)) w.heap.size N p := World.alloc_heap_new _ _
end
/-- A game stored into a box. -/
def setP (W : World) (g : Nat) (N : Int) (p : Pl) : World :=
  ((((((((((W.setCell ⟨g, 0, none⟩ (.int .i64 N)).setCell ⟨g, 1, none⟩ (.int .i64 10)).setCell ⟨g, 2, none⟩ (.int .i64 2)).setCell ⟨g, 3, none⟩ (.int .i64 10)).setCell ⟨g, 4, none⟩ (.int .i64 p.fr)).setCell ⟨g, 5, none⟩ (.int .i64 p.th)).setCell ⟨g, 6, none⟩ (.int .i64 p.st)).setCell ⟨g, 7, none⟩ (.bool p.fresh)).setCell ⟨g, 8, none⟩ (.int .i64 p.need)).setCell ⟨g, 9, none⟩ (.int .i64 p.a0)).setCell ⟨g, 10, none⟩ (.int .i64 p.a1)
theorem setP_at {W : World} {g : Nat} {N : Int} {p : Pl} (h : PlAt W g N p) (p' : Pl) : PlAt (setP W g N p') g N p' := by
  unfold PlAt setP at *
  simp [World.setCell, Array.getElem?_modify, h]
theorem setP_size (W : World) (g : Nat) (N : Int) (p : Pl) : (setP W g N p).heap.size = W.heap.size := by simp [setP, World.setCell]
theorem setP_chz {W : World} {g : Nat} {N : Int} {p : Pl} {s z : Nat} (h : s ≤ g ∧ g < z) : Chz s z W (setP W g N p) := by
  unfold setP
  exact ((((((((((Chz.of_set (ad := ⟨g, 0, none⟩) h _).trans (Chz.of_set (ad := ⟨g, 1, none⟩) h _)).trans (Chz.of_set (ad := ⟨g, 2, none⟩) h _)).trans (Chz.of_set (ad := ⟨g, 3, none⟩) h _)).trans (Chz.of_set (ad := ⟨g, 4, none⟩) h _)).trans (Chz.of_set (ad := ⟨g, 5, none⟩) h _)).trans (Chz.of_set (ad := ⟨g, 6, none⟩) h _)).trans (Chz.of_set (ad := ⟨g, 7, none⟩) h _)).trans (Chz.of_set (ad := ⟨g, 8, none⟩) h _)).trans (Chz.of_set (ad := ⟨g, 9, none⟩) h _)).trans (Chz.of_set (ad := ⟨g, 10, none⟩) h _)
/-- What is yielded: the ball, its frame, what it counts, the game behind it. -/
def thV (N : Int) (xs : List Int) (k : Nat) : Value :=
  .agg #[.int .i64 (ix xs k), .int .i64 (plS N xs k).fr, .int .i64 (ix xs k), .int .i64 N, .int .i64 10, .int .i64 2, .int .i64 10, .int .i64 (plS N xs (k + 1)).fr, .int .i64 (plS N xs (k + 1)).th, .int .i64 (plS N xs (k + 1)).st, .bool (plS N xs (k + 1)).fresh, .int .i64 (plS N xs (k + 1)).need, .int .i64 (plS N xs (k + 1)).a0, .int .i64 (plS N xs (k + 1)).a1]
def bEnc (N : Int) (xs : List Int) (k : Nat) : Array Value := #[.int .i64 (k : Int), thV N xs k]
theorem enters106 : Enters 106 := fun _ _ => enters_of Try.func106 (by kernel_rfl) rfl _ _
set_option maxRecDepth 100000 in
set_option maxHeartbeats 8000000 in
theorem balls1_in (n q B : Nat) (N : Int) (A : Option Addr) (c : Nat) (xs : List Int) (hs : SheetOk N xs) (S : Nat → Prop) (w : World) (hw : BSt w q B N A c xs) (hS : ¬ S q ∧ ¬ S (q + 1) ∧ ∀ k, k < B → ¬ S k) :
    SeqN Fence.wide n Try.prog 104 #[.pointer (some ⟨q, 0, none⟩), .pointer (some ⟨q + 1, 0, none⟩)] (bEnc N xs) xs.length S w := by
  intro lb R W hW hY h0
  have hq : q < w.heap.size := World.block_lt_of_cell? _ _ hw.l0
  have hq1 : q + 1 < w.heap.size := World.block_lt_of_cell? _ _ hw.sl
  have hwz := hW.size
  have hw2 := hw.below hW
  refine callsIn_of_wp Try.func104 rfl trivial ?_ rfl
  simp only [Try.ntmps104, List.size_toArray, List.length_cons, List.length_nil, Nat.reduceAdd, Nat.reduceSub, Array.replicate_succ, Array.replicate_zero, List.push_toArray, List.append_toArray, List.nil_append, List.cons_append]
  have HS := Lib.hid hw2
  have s0 := hw2.l0
  have s1 := hw2.l1
  have s2 := hw2.l2
  have s3 := hw2.l3
  have HBG := Lib.hid (begin_c N W)
  unfold lawV at HBG
  have hN := hs.n0
  have hN1 := hs.n1
  have hlen := hs.len
  clear hw2 hw
  gi_wp2
  refine ⟨trivial, fun h => by simp [Fence.wide] at h, (callsIn_wide.2 HBG.out).mono ?_⟩
  rintro e w2 ⟨rfl, hb2⟩
  have HB2 := Lib.hid hb2
  have s1b := cell_of_ans hb2 HS.out.sl
  clear s0 s1 s2 s3 HBG hb2
  have s1c := cell_alloc_keep (.cells #[.int .i64 N, .int .i64 10, .int .i64 2, .int .i64 10, .int .i64 0, .int .i64 0, .int .i64 10, .bool true, .int .i64 2, .int .i64 0, .int .i64 0] 148) s1b
  unfold plV begP
  dsimp only
  gi_wp2
  obtain ⟨Wg, hWg⟩ : ∃ Wg, Wg = w2.alloc (.cells #[.int .i64 N, .int .i64 10, .int .i64 2, .int .i64 10, .int .i64 0, .int .i64 0, .int .i64 10, .bool true, .int .i64 2, .int .i64 0, .int .i64 0] 148) := ⟨_, rfl⟩
  have hbg : Below W.heap.size W Wg := by rw [hWg]; exact HB2.out.alloc HB2.out.size _
  have hzg : Wg.heap.size = w2.heap.size + 1 := by rw [hWg]; simp
  have HPG : Hid (PlAt Wg w2.heap.size N begP) := by rw [hWg]; exact PlAt.new w2 N begP
  obtain ⟨g, hg⟩ : ∃ g, g = w2.heap.size := ⟨_, rfl⟩
  have hsg : W.heap.size ≤ g := by rw [hg]; exact HB2.out.size
  have HBG := Lib.hid hbg
  have HH0 : Hid (R (g + 1) 0 Wg) := by have := h0 Wg hbg; rw [hzg, ← hg] at this; exact this
  rw [← hg] at HPG hzg
  rw [← hWg]
  rw [← hg]
  clear h0 hbg s1b s1c hWg
  clear hg
  have hgz : g < Wg.heap.size := by omega
  gi_loopw [15] (fun i wr => ∃ (k : Nat) (W0 : World), k ≤ xs.length ∧ i = .int .i64 (k : Int) ∧ R (g + 1) k W0 ∧ g + 1 ≤ W0.heap.size ∧ Chz W.heap.size (g + 1) W0 wr ∧ KS S W.heap.size W wr ∧ PlAt wr g N (plS N xs k))
    (fun i _ => (xs.length - (intOf i).toNat))
  case atStart => exact ⟨0, Wg, by omega, rfl, HH0.out, by omega, Chz.refl _ _ _, KS.of_below HBG.out, HPG.out⟩
  case round =>
    obtain ⟨k, W0, hk, rfl, hR, hz0, hch, hkz, hpl⟩ := hrel
    have HR := Lib.hid hR
    have HCH := Lib.hid hch
    have HKZ := Lib.hid hkz
    have HPL := Lib.hid hpl
    clear hR hch hkz hpl
    by_cases hk1 : k < xs.length
    · have hki : (k : Int) < (xs.length : Int) := by omega
      have hbB : Below B W wr := HKZ.out.below (Nat.le_trans HS.out.bq (by omega)) (Nat.le_trans HS.out.bq (by omega)) hS.2.2
      obtain ⟨b, off, rfl, hb0, c1⟩ := (HS.out.el.below hbB).at_ hk1
      obtain ⟨⟨p0, p1, p2, p3⟩, ⟨p4, p5, p6, p7, p8, p9, p10⟩, pf⟩ := HPL.out.cells
      have hok := plS_ok hs k (by omega)
      obtain ⟨m1, m2, m3⟩ := hs.may k hk1
      have hst1 := hok.s1
      have HMA := Lib.hid (fun W' => may_c N (plS N xs k) (ix xs k) W')
      have HNX := Lib.hid (fun W' => next_c N (plS N xs k) (ix xs k) W' hok ⟨hN, hN1⟩ m1 m2 m3)
      rw [← plS_succ hk1] at HNX
      have emay : mayB N (plS N xs k) (ix xs k) = true := by
        unfold mayB
        rw [show ((plS N xs k).fr == N) = false by simp; omega, inB_true ⟨by omega, m3⟩]
        rfl
      rw [emay] at HMA
      have HTH : Hid (thV N xs k = _) := rfl
      unfold thV at HTH
      have HYY := Lib.hid (fun W1 hc => hY (g + 1) k W0 W1 (by omega) hz0 HR.out hc hk1)
      unfold bEnc thV at HYY
      clear emay hok m1 m3 hst1 HTH
      generalize hpk : plS N xs k = p at *
      have HPK := Lib.hid hpk
      clear hpk
      obtain ⟨fr, th, st, fresh, need, x0, x1⟩ := p
      generalize hpk2 : plS N xs (k + 1) = p2 at *
      have HPK2 := Lib.hid hpk2
      clear hpk2
      obtain ⟨fr', th', st', fresh', need', y0, y1⟩ := p2
      generalize ix xs k = xb at *
      unfold nxV plV at HNX
      unfold plV at HMA
      dsimp only at *
      generalize wth ⟨fr, th, st, fresh, need, x0, x1⟩ xb = wt at *
      gi_wp2
      refine ⟨trivial, fun h => by simp [Fence.wide] at h, (callsIn_wide.2 (HMA.out _)).mono ?_⟩
      rintro e w4 ⟨rfl, hb4⟩
      have HPL4 := Lib.hid (HPL.out.step hb4)
      have HB4 := Lib.hid hb4
      clear p0 p1 p2 p3 p4 p5 p6 p7 p8 p9 p10 pf
      obtain ⟨⟨p0, p1, p2, p3⟩, ⟨p4, p5, p6, p7, p8, p9, p10⟩, pf⟩ := HPL4.out.cells
      dsimp only at p4 p5 p6 p7 p8 p9 p10
      clear hb4 c1 HMA
      gi_wp2
      refine ⟨trivial, fun h => by simp [Fence.wide] at h, (callsIn_wide.2 (HNX.out _)).mono ?_⟩
      rintro e w5 ⟨rfl, hb5⟩
      have HPL5 := Lib.hid (HPL4.out.step hb5)
      have HB5 := Lib.hid (HB4.out.trans (hb5.mono HB4.out.size))
      clear p0 p1 p2 p3 p4 p5 p6 p7 p8 p9 p10 pf
      have p4 : (w5.alloc (.cells #[.int .i64 N, .int .i64 10, .int .i64 2, .int .i64 10, .int .i64 fr', .int .i64 th', .int .i64 st', .bool fresh', .int .i64 need', .int .i64 y0, .int .i64 y1] 148)).cell? ⟨g, 4, none⟩ = some (.int .i64 fr) := cell_alloc_keep _ HPL5.out.cells.2.1.1
      have hb6 : Below w5.heap.size w5 (w5.alloc (.cells #[.int .i64 N, .int .i64 10, .int .i64 2, .int .i64 10, .int .i64 fr', .int .i64 th', .int .i64 st', .bool fresh', .int .i64 need', .int .i64 y0, .int .i64 y1] 148)) := (Below.refl _ _).alloc (Nat.le_refl _) _
      have HB6 := Lib.hid (HB5.out.trans (hb6.mono HB5.out.size))
      have HPN : Hid (PlAt (w5.alloc (.cells #[.int .i64 N, .int .i64 10, .int .i64 2, .int .i64 10, .int .i64 fr', .int .i64 th', .int .i64 st', .bool fresh', .int .i64 need', .int .i64 y0, .int .i64 y1] 148)) w5.heap.size N ⟨fr', th', st', fresh', need', y0, y1⟩) := PlAt.new w5 N ⟨fr', th', st', fresh', need', y0, y1⟩
      have HPG6 := Lib.hid (HPL5.out.step hb6)
      obtain ⟨fn, tmps, assign, body, hy, hRR⟩ := HYY.out (w5.alloc (.cells #[.int .i64 N, .int .i64 10, .int .i64 2, .int .i64 10, .int .i64 fr', .int .i64 th', .int .i64 st', .bool fresh', .int .i64 need', .int .i64 y0, .int .i64 y1] 148)) (HCH.out.trans (Chz.of_below HB6.out))
      have HRR := Lib.hid hRR
      have hz5 : W0.heap.size ≤ w5.heap.size := Nat.le_trans HCH.out.1 HB5.out.size
      clear hb5 HNX HPL4 HB4 hb6 hRR HYY
      gi_wp2
      refine ⟨fun h => by simp [Fence.wide] at h, ?_⟩
      refine HRR.out.mono ?_
      rintro e W7 ⟨rfl, hR7, hk7⟩
      have HR7 := Lib.hid hR7
      have HK7 := Lib.hid hk7
      have HPN7 : Hid (PlAt W7 w5.heap.size N ⟨fr', th', st', fresh', need', y0, y1⟩) := hk7.same _ _ HPN.out (.inr (.inr hz5))
      have HPG7 : Hid (PlAt W7 g N ⟨fr, th, st, fresh, need, x0, x1⟩) := hk7.same _ _ HPG6.out (.inr (.inl ⟨hsg, by omega⟩))
      clear p4 hy HRR hR7 hk7 HPN HPG6 HPL5
      obtain ⟨⟨q0, q1, q2, q3⟩, ⟨q4, q5, q6, q7, q8, q9, q10⟩, -⟩ := HPN7.out.cells
      obtain ⟨⟨r0, r1, r2, r3⟩, ⟨r4, r5, r6, r7, r8, r9, r10⟩, pf⟩ := HPG7.out.cells
      dsimp only at q4 q5 q6 q7 q8 q9 q10 r4 r5 r6 r7 r8 r9 r10
      generalize w5.heap.size = bn at *
      gi_wp2
      refine ⟨⟨k + 1, W7, by omega, by go_num, HR7.out, ?_, ?_, ?_, ?_⟩, by simp [intOf]; omega⟩
      · have := HK7.out.size
        have h5 := HB5.out.size
        have h6 := HCH.out.1
        simp at this
        omega
      · exact setP_chz (p := ⟨fr', th', st', fresh', need', y0, y1⟩) ⟨hsg, by omega⟩
      · exact ((HKZ.out.trans (KS.of_below HB6.out)).trans HK7.out.ks).trans (KS.of_chz (z := g + 1) (setP_chz (p := ⟨fr', th', st', fresh', need', y0, y1⟩) ⟨hsg, by omega⟩))
      · rw [HPK2.out]
        exact setP_at HPG7.out ⟨fr', th', st', fresh', need', y0, y1⟩
    · obtain rfl : k = xs.length := by omega
      gi_wp2
      refine bodyPost_end (v := .tuple #[]) (results_none rfl _ _ _) rfl ?_
      exact ⟨⟨_, rfl⟩, g + 1, W0, by omega, hz0, HR.out, HCH.out⟩
end Go.Proofs.Ytenpiinkbfancaa
