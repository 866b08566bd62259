/-
  The law's Told: words made anew, true of a game.
-/
import Derived.Test.YtadjkinpimmhkaaNum
import Derived.Test.YtadjkinpimmhkaaChosen
import Derived.Test.YtadjkinpimmhkaaOnly
namespace Go.Proofs.Ytadjkinpimmhkaa
open Go.RowKit
set_option linter.unusedSimpArgs false
set_option linter.unusedVariables false

theorem word_ok {m : Int} {x : Wd} (h : wordB m x = true) : 0 ≤ x.fr ∧ x.fr ≤ m - 1 ∧ 0 ≤ x.ba ∧ x.ba ≤ 1 ∧ 0 ≤ x.te ∧ x.te ≤ 3 ∧ 0 ≤ x.lo ∧ x.lo ≤ x.hi ∧ x.hi ≤ 10 := by
  simp only [wordB, Bool.and_eq_true, inB_eq, decide_eq_true_eq] at h
  omega
/-- A word made anew. -/
def toldLo (n wide y : Int) : Int := max 0 (n - y % (wide + 1))
def toldHi (n wide lo : Int) : Int := max n (min 10 (lo + wide))
def toldW (game : List (List Int)) (ns : List Int) (b i : Nat) (x : Wd) : Wd :=
  if b.testBit x.te.toNat then x else ⟨x.fr, x.ba, x.te, toldLo (behR game x.fr.toNat x.ba.toNat) (x.hi - x.lo) (numF ns (3 * i + 2)), toldHi (behR game x.fr.toNat x.ba.toNat) (x.hi - x.lo) (toldLo (behR game x.fr.toNat x.ba.toNat) (x.hi - x.lo) (numF ns (3 * i + 2)))⟩
def toldL (game : List (List Int)) (ns : List Int) (b : Nat) (ws : List Wd) : List Wd := (List.range ws.length).map fun i => toldW game ns b i (wx ws i)
theorem toldL_len (game : List (List Int)) (ns : List Int) (b : Nat) (ws : List Wd) : (toldL game ns b ws).length = ws.length := by simp [toldL]
theorem toldL_snoc (game : List (List Int)) (ns : List Int) (b : Nat) (ws : List Wd) (x : Wd) : toldL game ns b (ws ++ [x]) = toldL game ns b ws ++ [toldW game ns b ws.length x] := by
  unfold toldL
  rw [List.length_append, List.length_singleton, List.range_succ, List.map_append]
  congr 1
  · refine List.map_congr_left fun i hi => ?_
    rw [List.mem_range] at hi
    rw [wx_lt (by rw [List.length_append]; omega), wx_lt hi, List.getElem_append_left hi]
  · simp [wx]
theorem bit_zero (b k : Nat) : (((b : Int) / 2 ^ k).tmod 2 == 0) = !b.testBit k := by
  have h1 : ((b : Int) / 2 ^ k) = ((b / 2 ^ k : Nat) : Int) := by simp
  have h2 : (((b / 2 ^ k : Nat) : Int).tmod 2) = ((b / 2 ^ k % 2 : Nat) : Int) := rfl
  rw [h1, h2, Nat.testBit_eq_decide_div_mod_eq]
  refine Bool.eq_iff_iff.2 ?_
  simp only [beq_iff_eq, Bool.not_eq_true', decide_eq_false_iff_not]
  omega
def W5b (w : World) (q : Nat) (a b c d e : Int) : Prop := w.heap[q]? = some (.cells #[.int .i64 a, .int .i64 b, .int .i64 c, .int .i64 d, .int .i64 e] 56 (0, 0))
theorem W5b.cells {w : World} {q : Nat} {a b c d e : Int} (h : W5b w q a b c d e) : w.cell? ⟨q, 0, none⟩ = some (.int .i64 a) ∧ w.cell? ⟨q, 1, none⟩ = some (.int .i64 b) ∧ w.cell? ⟨q, 2, none⟩ = some (.int .i64 c) ∧ w.cell? ⟨q, 3, none⟩ = some (.int .i64 d) ∧ w.cell? ⟨q, 4, none⟩ = some (.int .i64 e) ∧ w.frozen? ⟨q, 3, none⟩ = false ∧ w.frozen? ⟨q, 4, none⟩ = false := by
  unfold W5b at h
  simp [World.cell?, World.frozen?, h]
theorem W5b.set {w : World} {q : Nat} {a b c d e : Int} (h : W5b w q a b c d e) (n : Nat) (x y : Int) : W5b (((w.drewN n).setCell ⟨q, 3, none⟩ (.int .i64 x)).setCell ⟨q, 4, none⟩ (.int .i64 y)) q a b c x y := by
  unfold W5b at *
  have h' : (w.drewN n).heap[q]? = _ := h
  simp [World.setCell, Array.getElem?_modify]
  exact ⟨_, h, rfl⟩
theorem W5b.new (w : World) (a b c d e : Int) : W5b (w.alloc (.cells #[.int .i64 a, .int .i64 b, .int .i64 c, .int .i64 d, .int .i64 e] 56)) w.heap.size a b c d e := World.alloc_heap_new _ _

set_option maxRecDepth 100000 in
set_option maxHeartbeats 16000000 in
theorem told_c (A Ag An : Option Addr) (ws : List Wd) (game : List (List Int)) (ns : List Int) (c cg cn bt m : Nat) (frn : Int) (w : World) (hw : Wds w.heap.size w A ws) (hgm : Grd w.heap.size w Ag game) (hn : U16s w.heap.size w An ns) (hc : ws.length ≤ c ∧ c ≤ 9223372036854775807) (hcg : game.length ≤ cg ∧ cg ≤ 9223372036854775807) (hcn : ns.length ≤ cn ∧ cn ≤ 9223372036854775807) (hl : ws.length ≤ 100000) (hbt : bt < 256)
    (hgl : game.length = m) (hok : ∀ j, j < ws.length → wordB (m : Int) (wx ws j) = true) (hv : ∀ f, f < game.length → ∀ j, j < (rx game f).length → 0 ≤ ix (rx game f) j ∧ ix (rx game f) j ≤ 10) (hbd : ∀ f, f < m → ∀ b, b ≤ 1 → 0 ≤ behR game f b ∧ behR game f b ≤ 10) :
    Calls Try.prog 39 #[.agg #[.int .i64 frn, .slice A ws.length c], .slice Ag game.length cg, .slice An ns.length cn, .int .u8 (bt : Int)] w (LanePost 56 w frn (toldL game ns bt ws)) := by
  have hb0 : Below w.heap.size w (((w.alloc (.cells #[.int .i64 frn, .slice A ws.length c] 24)).alloc (.cells #[.int .i64 0, .slice none 0 0] 24)).alloc (.cells #[.int .i64 frn, .slice none 0 0] 24)) := (((Below.refl _ _).alloc (Nat.le_refl _) _).alloc (by simp) _).alloc (by simp; omega) _
  have k0 : (((w.alloc (.cells #[.int .i64 frn, .slice A ws.length c] 24)).alloc (.cells #[.int .i64 0, .slice none 0 0] 24)).alloc (.cells #[.int .i64 frn, .slice none 0 0] 24)).cell? ⟨w.heap.size, 1, none⟩ = some (.slice A ws.length c) := by go_simp
  have kf : (((w.alloc (.cells #[.int .i64 frn, .slice A ws.length c] 24)).alloc (.cells #[.int .i64 0, .slice none 0 0] 24)).alloc (.cells #[.int .i64 frn, .slice none 0 0] 24)).cell? ⟨w.heap.size, 0, none⟩ = some (.int .i64 frn) := by go_simp
  have hL : LB (((w.alloc (.cells #[.int .i64 frn, .slice A ws.length c] 24)).alloc (.cells #[.int .i64 0, .slice none 0 0] 24)).alloc (.cells #[.int .i64 frn, .slice none 0 0] 24)) (w.heap.size + 1 + 1) frn (.slice none 0 0) 24 := by
    have := World.alloc_heap_new ((w.alloc (.cells #[.int .i64 frn, .slice A ws.length c] 24)).alloc (.cells #[.int .i64 0, .slice none 0 0] 24)) (.cells #[.int .i64 frn, .slice none 0 0] 24)
    simpa [LB] using this
  have hsz : (((w.alloc (.cells #[.int .i64 frn, .slice A ws.length c] 24)).alloc (.cells #[.int .i64 0, .slice none 0 0] 24)).alloc (.cells #[.int .i64 frn, .slice none 0 0] 24)).heap.size = w.heap.size + 1 + 1 + 1 := by simp
  have hz1 : (((w.alloc (.cells #[.int .i64 frn, .slice A ws.length c] 24)).alloc (.cells #[.int .i64 0, .slice none 0 0] 24)).alloc (.cells #[.int .i64 frn, .slice none 0 0] 24)).heap[w.heap.size + 1]? = some (.cells #[.int .i64 0, .slice none 0 0] 24 (0, 0)) := by
    rw [heap_alloc_old _ _ (by simp)]
    have := World.alloc_heap_new (w.alloc (.cells #[.int .i64 frn, .slice A ws.length c] 24)) (.cells #[.int .i64 0, .slice none 0 0] 24)
    simpa using this
  have HW := Lib.hid hw
  have HGM := Lib.hid hgm
  have HN := Lib.hid hn
  have HGL := Lib.hid hgl
  have HOK := Lib.hid hok
  have HV := Lib.hid hv
  have HBD := Lib.hid hbd
  have HWL := Lib.hid hl
  clear hw hgm hn hok hv hbd hgl hl
  go_enter Try.func39, Try.ntmps39
  go_wp2_with fail
  have HB0 := Lib.hid hb0
  have HL := Lib.hid hL
  have HZ1 := Lib.hid hz1
  clear hb0 hL hz1
  generalize hW0 : (((w.alloc (.cells #[.int .i64 frn, .slice A ws.length c] 24)).alloc (.cells #[.int .i64 0, .slice none 0 0] 24)).alloc (.cells #[.int .i64 frn, .slice none 0 0] 24)) = W0 at k0 kf HL HB0 HZ1 hsz ⊢
  clear hW0
  go_loopw [10] (fun i wr => ∃ (k : Nat) (u : Value), k ≤ ws.length ∧ i = .int .i64 k ∧ LB wr (w.heap.size + 1 + 1) frn u 24 ∧ OwnW 56 W0.heap.size wr u (toldL game ns bt (ws.take k)) ∧ Chg W0 wr (fun i => i = w.heap.size + 1 + 1)) (fun i _ => ws.length - (intOf i).toNat)
  case atStart => exact ⟨0, _, by omega, rfl, HL.out, OwnW.nil _ _ _, Chg.refl _ _⟩
  case round =>
    obtain ⟨k, u, hk, rfl, hL, hO, hC⟩ := hrel
    have HOk := Lib.hid hO
    have HCk := Lib.hid hC
    have HLk := Lib.hid hL
    have HBk : Hid (Below w.heap.size w wr) := HB0.out.trans (hC.below (by omega) fun i _ e => by omega)
    have q0 : wr.cell? ⟨w.heap.size, 1, none⟩ = some (.slice A ws.length c) := hC.cell k0 (by dsimp only; omega)
    obtain ⟨l0, l1, l2⟩ := hL.cells
    have l3 := hL.lt
    have hz := hC.size
    have l4 := l2 1
    by_cases h1 : k < ws.length
    · obtain ⟨b, off, hA, hblt, c1, c2, c3, c4, c5⟩ := (HW.out.below HBk.out).at_ h1
      obtain ⟨Au, cu, hu⟩ := hO.form
      have HLK : Hid ((toldL game ns bt (ws.take k)).length = k) := by show _ = _; rw [toldL_len, List.length_take]; omega
      rw [HLK.out] at hu
      subst hu
      have h1i : (k : Int) < (ws.length : Int) := by omega
      have HT := Lib.hid (take_succ_wx h1)
      have HTL : Hid ((ws.take k).length = k) := by show _ = _; rw [List.length_take]; omega
      have hwb := HOK.out k h1
      have hkb : k ≤ 100000 := by have := HWL.out; omega
      have HLA : Hid ((toldL game ns bt (ws.take k)).length ≤ 1000000) := by show _ ≤ _; rw [HLK.out]; omega
      have hg : w.heap.size + 1 + 1 < W0.heap.size := by omega
      obtain ⟨x, hx⟩ : ∃ x, wx ws k = x := ⟨_, rfl⟩
      rw [hx] at c1 c2 c3 c4 c5 HT hwb
      obtain ⟨xf, xb, xt, xl, xh⟩ := x
      dsimp only at c1 c2 c3 c4 c5
      have hwb2 := word_ok hwb
      dsimp only at hwb2
      obtain ⟨y1, y2, y3, y4, y5, y6, y7, y8, y9⟩ := hwb2
      obtain ⟨fn, rfl⟩ : ∃ n : Nat, xf = (n : Int) := ⟨xf.toNat, by omega⟩
      obtain ⟨bn, rfl⟩ : ∃ n : Nat, xb = (n : Int) := ⟨xb.toNat, by omega⟩
      obtain ⟨tn, rfl⟩ : ∃ n : Nat, xt = (n : Int) := ⟨xt.toNat, by omega⟩
      have HTW : Hid (toldW game ns bt k ⟨(fn : Int), (bn : Int), (tn : Int), xl, xh⟩ = if bt.testBit tn then ⟨(fn : Int), (bn : Int), (tn : Int), xl, xh⟩ else ⟨(fn : Int), (bn : Int), (tn : Int), toldLo (behR game fn bn) (xh - xl) (numF ns (3 * k + 2)), toldHi (behR game fn bn) (xh - xl) (toldLo (behR game fn bn) (xh - xl) (numF ns (3 * k + 2)))⟩) := rfl
      have htn : tn ≤ 3 := by omega
      have hfn : fn < game.length := by have := HGL.out; omega
      have hbn : bn ≤ 1 := by omega
      subst hA
      have hbx : Below wr.heap.size wr (wr.alloc (.cells #[.int .i64 (fn : Int), .int .i64 (bn : Int), .int .i64 (tn : Int), .int .i64 xl, .int .i64 xh] 56)) := (Below.refl _ _).alloc (Nat.le_refl _) _
      have HNEW := Lib.hid (W5b.new wr (fn : Int) (bn : Int) (tn : Int) xl xh)
      obtain ⟨z0, z1, z2, z3, z4, z5, z6⟩ := HNEW.out.cells
      have HBx := Lib.hid hbx
      have hw32 : IntKind.u64.wrap (tn : Int) = (tn : Int) := by simp only [IntKind.wrap, IntKind.bits, IntKind.signed]; simp; omega
      clear hL hO hC hbx hx l2 hwb
      go_upto_region 6 with fail
      generalize wr.alloc (.cells #[.int .i64 (fn : Int), .int .i64 (bn : Int), .int .i64 (tn : Int), .int .i64 xl, .int .i64 xh] 56) = wx2 at z0 z1 z2 z3 z4 z5 z6 HNEW HBx ⊢
      have hbz := bit_zero bt tn
      cases hbit : bt.testBit tn
      · rw [hbit] at hbz
        obtain ⟨n0, n1⟩ := HBD.out fn (by have := HGL.out; omega) bn hbn
        have hd : ∀ n, Below wx2.heap.size wx2 (wx2.drewN n) := fun n => below_drewN (Below.refl _ _) n
        have hBw : Below w.heap.size w wx2 := HBk.out.trans (HBx.out.mono HBk.out.size)
        have hG2 : ∀ n, Grd (wx2.drewN n).heap.size (wx2.drewN n) Ag game := fun n => HGM.out.step (hBw.trans (hd n |>.mono hBw.size))
        have hN2 : ∀ n, U16s (wx2.drewN n).heap.size (wx2.drewN n) An ns := fun n => HN.out.step (hBw.trans (hd n |>.mono hBw.size))
        have HBe : Hid (∀ n, Calls Try.prog 48 #[.slice Ag game.length cg, .int .i64 (fn : Int), .int .i64 (bn : Int)] (wx2.drewN n) fun e w' => e = .returned (.int .i64 (behR game fn bn)) ∧ w' = wx2.drewN n) := fun n => (behind_c Ag game cg fn bn _ (hG2 n) hcg hfn hbn (HV.out fn hfn)).mono fun e w' h => ⟨h.1, h.2.symm⟩
        have HNu : Hid (∀ n, Calls Try.prog 64 #[.slice An ns.length cn, .int .i64 ((3 * k + 2 : Nat) : Int)] (wx2.drewN n) (Same (wx2.drewN n) (.int .i64 (numF ns (3 * k + 2))))) := fun n => number_c An ns cn (3 * k + 2) _ (hN2 n) (by omega) hcn
        obtain ⟨y10, y11⟩ := numF_bd (hN2 0) (3 * k + 2)
        rw [hbit, if_neg (by simp)] at HTW
        generalize hbe : behR game fn bn = be at *
        generalize hy : numF ns (3 * k + 2) = y at *
        obtain ⟨wi, hwi⟩ : ∃ wi, wi = xh - xl := ⟨_, rfl⟩
        rw [← hwi] at HTW
        have e1 : IntKind.i64.wrap (xh - xl) = wi := by rw [hwi]; exact IntWalk.i64_in _ (by omega)
        have e2 : IntKind.i64.wrap (3 * (k : Int)) = 3 * (k : Int) := IntWalk.i64_in _ (by omega)
        have e3 : IntKind.i64.wrap (3 * (k : Int) + 2) = ((3 * k + 2 : Nat) : Int) := by rw [IntWalk.i64_in _ (by omega)]; omega
        have e4 : IntKind.i64.wrap (wi + 1) = wi + 1 := IntWalk.i64_in _ (by omega)
        have e5 : y.tmod (wi + 1) = y % (wi + 1) := Int.tmod_eq_emod_of_nonneg y10
        have e6 := Int.emod_nonneg y (b := wi + 1) (by omega)
        have e7 := Int.emod_lt_of_pos y (b := wi + 1) (by omega)
        have e8 : ¬ (wi + 1 = 0) := by omega
        have e9 : (wi + 1 == 0) = false := by rw [beq_eq_false_iff_ne]; omega
        have HLO : Hid (toldLo be wi y = max 0 (be - y % (wi + 1))) := rfl
        obtain ⟨r, hr⟩ : ∃ r, r = y % (wi + 1) := ⟨_, rfl⟩
        rw [← hr] at e5 e6 e7 HLO
        have e10 : IntKind.i64.wrap r = r := IntWalk.i64_in _ (by omega)
        have e11 : IntKind.i64.wrap (be - r) = be - r := IntWalk.i64_in _ (by omega)
        have e12 : (if r < be then be - r else 0) = toldLo be wi y := by rw [HLO.out]; split <;> omega
        have f1 : 0 ≤ toldLo be wi y := by rw [HLO.out]; omega
        have f2 : toldLo be wi y ≤ 10 := by rw [HLO.out]; omega
        have HHI : Hid (toldHi be wi (toldLo be wi y) = max be (min 10 (toldLo be wi y + wi))) := rfl
        generalize toldLo be wi y = lo at *
        generalize toldHi be wi lo = hi at *
        have e13 : IntKind.i64.wrap (lo + wi) = lo + wi := IntWalk.i64_in _ (by omega)
        have e14 : (if be < (if lo + wi < 10 then lo + wi else 10) then (if lo + wi < 10 then lo + wi else 10) else be) = hi := by
          rw [HHI.out]
          split <;> split <;> omega
        generalize hj : 3 * k + 2 = j at *
        have HJ := Lib.hid hj
        have HJ2 := Lib.hid hbe
        clear hbit hwi hr f1 f2 hG2 hN2 hBw hy hbe hj n0 n1 e6 e7
        go_wp2_with fail
        go_quiet ((first | (go_at_call 48; exact Calls.quiet_of_same (HBe.out _))))
        go_upto_region 10 with (go_at_call 64; refine (HNu.out _).mono ?_; rintro e w9 ⟨rfl, rfl⟩)
        have HNEW3 := Lib.hid (HNEW.out.set nq lo hi)
        have hb3 : Below wr.heap.size wr (((wx2.drewN nq).setCell ⟨wr.heap.size, 3, none⟩ (.int .i64 lo)).setCell ⟨wr.heap.size, 4, none⟩ (.int .i64 hi)) := ((below_drewN HBx.out nq).setCell (Nat.le_refl _) _).setCell (Nat.le_refl _) _
        have HB3 := Lib.hid hb3
        clear z0 z1 z2 z3 z4 z5 z6 hb3 e12 e14
        obtain ⟨z0, z1, z2, z3, z4, z5, z6⟩ := HNEW3.out.cells
        generalize ((wx2.drewN nq).setCell ⟨wr.heap.size, 3, none⟩ (.int .i64 lo)).setCell ⟨wr.heap.size, 4, none⟩ (.int .i64 hi) = w3 at z0 z1 z2 z3 z4 z5 z6 HNEW3 HB3 ⊢
        have HX : Hid (toldL game ns bt (ws.take (k + 1)) = toldL game ns bt (ws.take k) ++ [⟨fn, bn, tn, lo, hi⟩]) := by
          show _ = _
          rw [HT.out, toldL_snoc, HTL.out, HTW.out]
        have l1' := cell_of_ans HB3.out l1
        have l4' : w3.frozen? ⟨w.heap.size + 1 + 1, 1, none⟩ = false := (HB3.out.frozen (p := ⟨w.heap.size + 1 + 1, 1, none⟩) l3).trans l4
        have hb2 : Below wr.heap.size wr (w3.alloc (.cells #[.int .i64 (fn), .int .i64 (bn), .int .i64 (tn), .int .i64 (lo), .int .i64 (hi)] 56)) := HB3.out.alloc HB3.out.size _
        have HO2 : Hid (OwnW 56 W0.heap.size (w3.alloc (.cells #[.int .i64 (fn), .int .i64 (bn), .int .i64 (tn), .int .i64 (lo), .int .i64 (hi)] 56)) (.slice Au k cu) (toldL game ns bt (ws.take k))) := World.ownsRow.kept HOk.out (only_below hb2 none) (own_ne _)
        have HS := Lib.hid (src_word w3 ⟨fn, bn, tn, lo, hi⟩ 56)
        have HBS : Hid (W0.heap.size ≤ (w3.alloc (.cells #[.int .i64 (fn), .int .i64 (bn), .int .i64 (tn), .int .i64 (lo), .int .i64 (hi)] 56)).heap.size) := Nat.le_trans hz hb2.size
        have HB2 := Lib.hid hb2
        have HLA2 : Hid ((toldL game ns bt (ws.take k) ++ [(⟨fn, bn, tn, lo, hi⟩ : Wd)]).length = k + 1) := by show _ = _; rw [List.length_append, HLK.out]; rfl
        clear hb2
        go_wp2_with (at_builtin; refine wpList_words (t := 22) (e := 56) (.inr ⟨rfl, rfl⟩) (.tmp 68) (.tmp 70) rfl rfl W0.heap.size _ (.slice Au k cu) (toldL game ns bt (ws.take k)) [⟨fn, bn, tn, lo, hi⟩] (some ⟨w3.heap.size, 0, none⟩) 1 1 rfl rfl rfl HO2.out HS.out HLA.out (by simp) HBS.out ?_; intro u' w2 HA; obtain ⟨A2, c2', e2⟩ := HA.out.own.form; rw [HLA2.out] at e2; subst e2; obtain ⟨l5, l6, l7⟩ := (lane_app hg HCk.out HB2.out HLk.out HO2.out HA.out).cells; have l8 := l7 1)
        go_roundw
        case rel =>
          obtain ⟨r1, r2, r3⟩ := lane_round hg HCk.out HB2.out HLk.out HO2.out HA.out
          exact ⟨k + 1, _, by omega, by go_num, r1, by rw [HX.out]; exact r2, r3⟩
        case measure => simp [intOf]; omega
      · rw [hbit] at hbz
        rw [hbit, if_pos rfl] at HTW
        clear hbit
        go_upto_region 10 with fail
        have HB3 := HBx
        obtain ⟨w3, rfl⟩ : ∃ w3 : World, w3 = wx2 := ⟨_, rfl⟩
        have HX : Hid (toldL game ns bt (ws.take (k + 1)) = toldL game ns bt (ws.take k) ++ [⟨fn, bn, tn, xl, xh⟩]) := by
          show _ = _
          rw [HT.out, toldL_snoc, HTL.out, HTW.out]
        have l1' := cell_of_ans HB3.out l1
        have l4' : w3.frozen? ⟨w.heap.size + 1 + 1, 1, none⟩ = false := (HB3.out.frozen (p := ⟨w.heap.size + 1 + 1, 1, none⟩) l3).trans l4
        have hb2 : Below wr.heap.size wr (w3.alloc (.cells #[.int .i64 (fn), .int .i64 (bn), .int .i64 (tn), .int .i64 (xl), .int .i64 (xh)] 56)) := HB3.out.alloc HB3.out.size _
        have HO2 : Hid (OwnW 56 W0.heap.size (w3.alloc (.cells #[.int .i64 (fn), .int .i64 (bn), .int .i64 (tn), .int .i64 (xl), .int .i64 (xh)] 56)) (.slice Au k cu) (toldL game ns bt (ws.take k))) := World.ownsRow.kept HOk.out (only_below hb2 none) (own_ne _)
        have HS := Lib.hid (src_word w3 ⟨fn, bn, tn, xl, xh⟩ 56)
        have HBS : Hid (W0.heap.size ≤ (w3.alloc (.cells #[.int .i64 (fn), .int .i64 (bn), .int .i64 (tn), .int .i64 (xl), .int .i64 (xh)] 56)).heap.size) := Nat.le_trans hz hb2.size
        have HB2 := Lib.hid hb2
        have HLA2 : Hid ((toldL game ns bt (ws.take k) ++ [(⟨fn, bn, tn, xl, xh⟩ : Wd)]).length = k + 1) := by show _ = _; rw [List.length_append, HLK.out]; rfl
        clear hb2
        go_wp2_with (at_builtin; refine wpList_words (t := 22) (e := 56) (.inr ⟨rfl, rfl⟩) (.tmp 68) (.tmp 70) rfl rfl W0.heap.size _ (.slice Au k cu) (toldL game ns bt (ws.take k)) [⟨fn, bn, tn, xl, xh⟩] (some ⟨w3.heap.size, 0, none⟩) 1 1 rfl rfl rfl HO2.out HS.out HLA.out (by simp) HBS.out ?_; intro u' w2 HA; obtain ⟨A2, c2', e2⟩ := HA.out.own.form; rw [HLA2.out] at e2; subst e2; obtain ⟨l5, l6, l7⟩ := (lane_app hg HCk.out HB2.out HLk.out HO2.out HA.out).cells; have l8 := l7 1)
        go_roundw
        case rel =>
          obtain ⟨r1, r2, r3⟩ := lane_round hg HCk.out HB2.out HLk.out HO2.out HA.out
          exact ⟨k + 1, _, by omega, by go_num, r1, by rw [HX.out]; exact r2, r3⟩
        case measure => simp [intOf]; omega
    · have hke : k = ws.length := by omega
      have h1i : ¬ (k : Int) < (ws.length : Int) := by omega
      obtain ⟨Au, cu, hu⟩ := hO.form
      rw [List.take_of_length_le (by omega), toldL_len] at hu
      subst hu
      have hz2 : wr.heap[w.heap.size + 1]? = some (.cells #[.int .i64 0, .slice none 0 0] 24 (0, 0)) := (hC.block _ (by omega) (by omega)).trans HZ1.out
      have HZ2 := Lib.hid hz2
      have z1 : wr.frozen? ⟨w.heap.size + 1, 0, none⟩ = false := by simp [World.frozen?, hz2]
      have z2 : wr.frozen? ⟨w.heap.size + 1, 1, none⟩ = false := by simp [World.frozen?, hz2]
      have y1 : wr.cell? ⟨w.heap.size + 1, 0, none⟩ = some (.int .i64 0) := by simp [World.cell?, hz2]
      have y2 : wr.cell? ⟨w.heap.size + 1, 1, none⟩ = some (.slice none 0 0) := by simp [World.cell?, hz2]
      clear hL hO hC l2 hz2
      go_wp2_with fail
      have hd : Below w.heap.size w ((wr.setCell ⟨w.heap.size + 1, 0, none⟩ (.int .i64 frn)).setCell ⟨w.heap.size + 1, 1, none⟩ (.slice Au ws.length cu)) := (HBk.out.setCell (by dsimp only; omega) _).setCell (by dsimp only; omega) _
      have HO3 := HOk.out
      rw [List.take_of_length_le (by omega)] at HO3
      have hS : wr.grownBy ((wr.setCell ⟨w.heap.size + 1, 0, none⟩ (.int .i64 frn)).setCell ⟨w.heap.size + 1, 1, none⟩ (.slice Au ws.length cu)) (some (w.heap.size + 1)) := sets2 _ _ _ _
      have HO4 : OwnW 56 W0.heap.size ((wr.setCell ⟨w.heap.size + 1, 0, none⟩ (.int .i64 frn)).setCell ⟨w.heap.size + 1, 1, none⟩ (.slice Au ws.length cu)) (.slice Au ws.length cu) (toldL game ns bt ws) := World.ownsRow.kept HO3 hS (.inr fun e => by
        have := (World.ownsRow.lt HO3 _ e).1; omega)
      refine bodyPost_ret (v := .agg #[.int .i64 frn, .slice Au ws.length cu]) (by simp [results, Try.results39, go_sem, World.cell?, World.setCell, Array.getElem?_modify, HZ2.out]) rfl ?_
      have HTLL : Hid ((toldL game ns bt ws).length = ws.length) := toldL_len _ _ _ _
      have HO5 := ownsRow_base HO4 (show w.heap.size ≤ W0.heap.size by omega)
      refine ⟨Au, cu, by rw [HTLL.out], ?_, hd⟩
      rw [HTLL.out]
      exact HO5
end Go.Proofs.Ytadjkinpimmhkaa
