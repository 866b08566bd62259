/-
  The law's copy of a lane; the reference's lane of one frame.
-/
import Derived.Test.YtadjkinpimmhkaaOwnW
namespace Go.Proofs.Ytadjkinpimmhkaa
open Go.RowKit
set_option linter.unusedSimpArgs false
set_option linter.unusedVariables false

theorem take_succ_wx {ws : List Wd} {k : Nat} (h : k < ws.length) : ws.take (k + 1) = ws.take k ++ [wx ws k] := by
  rw [List.take_add_one, wx_lt h, List.getElem?_eq_getElem h]; rfl

theorem lane_app {W0 wr wy w2 : World} {g : Nat} {fr : Int} {u u' : Value} {ty e : TypeId} {ws vs : List Wd} (hg : g < W0.heap.size) (hC : Chg W0 wr (fun i => i = g)) (hb : Below wr.heap.size wr wy) (hL : LB wr g fr u ty) (hO : OwnW e W0.heap.size wy u ws) (hA : AppW e W0.heap.size wy u ws vs w2 u') : LB w2 g fr u ty := by
  refine (hA.grw.block g ?_ fun e => ?_).trans (hL.below hb)
  · have := hL.lt; have := hb.size; omega
  · have := (World.ownsRow.lt hO g e.symm).1; omega
theorem lane_round {W0 wr wy w2 : World} {g : Nat} {fr : Int} {u u' : Value} {ty e : TypeId} {ws vs : List Wd} (hg : g < W0.heap.size) (hC : Chg W0 wr (fun i => i = g)) (hb : Below wr.heap.size wr wy) (hL : LB wr g fr u ty) (hO : OwnW e W0.heap.size wy u ws) (hA : AppW e W0.heap.size wy u ws vs w2 u') :
    LB (w2.setCell ⟨g, 1, none⟩ u') g fr u' ty ∧ OwnW e W0.heap.size (w2.setCell ⟨g, 1, none⟩ u') u' (ws ++ vs) ∧ Chg W0 (w2.setCell ⟨g, 1, none⟩ u') (fun i => i = g) := by
  have h2 := lane_app hg hC hb hL hO hA
  have hS : w2.grownBy (w2.setCell ⟨g, 1, none⟩ u') (some g) := only_setCell (World.grownBy.refl w2 (some g)) (.inl rfl) _
  refine ⟨h2.set u', World.ownsRow.kept hA.own hS (.inr fun e => ?_), ?_⟩
  · have := (World.ownsRow.lt hA.own g e).1; omega
  · refine ((hC.trans (Chg.ofBelow hb _) fun i _ h => h).trans (Chg.ofGrown hA.grw (S := fun i => some i = u.ownBlock) fun i e => e) fun i hi e => ?_).trans (Chg.ofGrown hS fun i e => by injection e) fun i _ h => h
    have := (World.ownsRow.lt hO i e.symm).1; omega

set_option maxRecDepth 100000 in
set_option maxHeartbeats 8000000 in
theorem lane_c (A : Option Addr) (ws : List Wd) (c : Nat) (frn : Int) (w : World) (hw : Wds w.heap.size w A ws) (hc : ws.length ≤ c ∧ c ≤ 9223372036854775807) (hl : ws.length ≤ 1000000) :
    Calls Try.prog 20 #[.agg #[.int .i64 frn, .slice A ws.length c]] w (LanePost 85 w frn ws) := by
  have hb0 : Below w.heap.size w (((w.alloc (.cells #[.int .i64 frn, .slice A ws.length c] 24)).alloc (.cells #[.int .i64 0, .slice none 0 0] 32)).alloc (.cells #[.int .i64 frn, .slice none 0 0] 32)) := (((Below.refl _ _).alloc (Nat.le_refl _) _).alloc (by simp) _).alloc (by simp; omega) _
  have k0 : (((w.alloc (.cells #[.int .i64 frn, .slice A ws.length c] 24)).alloc (.cells #[.int .i64 0, .slice none 0 0] 32)).alloc (.cells #[.int .i64 frn, .slice none 0 0] 32)).cell? ⟨w.heap.size, 1, none⟩ = some (.slice A ws.length c) := by go_simp
  have hL : LB (((w.alloc (.cells #[.int .i64 frn, .slice A ws.length c] 24)).alloc (.cells #[.int .i64 0, .slice none 0 0] 32)).alloc (.cells #[.int .i64 frn, .slice none 0 0] 32)) (w.heap.size + 1 + 1) frn (.slice none 0 0) 32 := by
    have := World.alloc_heap_new ((w.alloc (.cells #[.int .i64 frn, .slice A ws.length c] 24)).alloc (.cells #[.int .i64 0, .slice none 0 0] 32)) (.cells #[.int .i64 frn, .slice none 0 0] 32)
    simpa [LB] using this
  have hsz : (((w.alloc (.cells #[.int .i64 frn, .slice A ws.length c] 24)).alloc (.cells #[.int .i64 0, .slice none 0 0] 32)).alloc (.cells #[.int .i64 frn, .slice none 0 0] 32)).heap.size = w.heap.size + 1 + 1 + 1 := by simp
  have hz1 : (((w.alloc (.cells #[.int .i64 frn, .slice A ws.length c] 24)).alloc (.cells #[.int .i64 0, .slice none 0 0] 32)).alloc (.cells #[.int .i64 frn, .slice none 0 0] 32)).heap[w.heap.size + 1]? = some (.cells #[.int .i64 0, .slice none 0 0] 32 (0, 0)) := by
    rw [heap_alloc_old _ _ (by simp)]
    have := World.alloc_heap_new (w.alloc (.cells #[.int .i64 frn, .slice A ws.length c] 24)) (.cells #[.int .i64 0, .slice none 0 0] 32)
    simpa using this
  have HW := Lib.hid hw
  clear hw
  go_enter Try.func20, Try.ntmps20
  go_wp2_with fail
  have HB0 := Lib.hid hb0
  have HL := Lib.hid hL
  have HZ1 := Lib.hid hz1
  clear hb0 hL hz1
  generalize hW0 : (((w.alloc (.cells #[.int .i64 frn, .slice A ws.length c] 24)).alloc (.cells #[.int .i64 0, .slice none 0 0] 32)).alloc (.cells #[.int .i64 frn, .slice none 0 0] 32)) = W0 at k0 HL HB0 HZ1 hsz ⊢
  clear hW0
  go_loopw [4] (fun i wr => ∃ (k : Nat) (u : Value), k ≤ ws.length ∧ i = .int .i64 k ∧ LB wr (w.heap.size + 1 + 1) frn u 32 ∧ OwnW 85 W0.heap.size wr u (ws.take k) ∧ Chg W0 wr (fun i => i = w.heap.size + 1 + 1)) (fun i _ => ws.length - (intOf i).toNat)
  case atStart => exact ⟨0, _, by omega, rfl, HL.out, OwnW.nil _ _ _, Chg.refl _ _⟩
  case round =>
    obtain ⟨k, u, hk, rfl, hL, hO, hC⟩ := hrel
    have HOk := Lib.hid hO
    have HCk := Lib.hid hC
    have HLk := Lib.hid hL
    have HBk : Hid (Below w.heap.size w wr) := HB0.out.trans (hC.below (by omega) fun i _ e => by omega)
    have q0 : wr.cell? ⟨w.heap.size, 1, none⟩ = some (.slice A ws.length c) := hC.cell k0 (by dsimp only; omega)
    obtain ⟨l0, l1, l2⟩ := hL.cells
    have l3 := hL.lt
    have hz := hC.size
    have l4 := l2 1
    by_cases h1 : k < ws.length
    · obtain ⟨b, off, hA, hblt, c1, c2, c3, c4, c5⟩ := (HW.out.below HBk.out).at_ h1
      have HAA := Lib.hid hA
      obtain ⟨Au, cu, hu⟩ := hO.form
      have hlt : (ws.take k).length = k := by rw [List.length_take]; omega
      rw [hlt] at hu
      subst hu
      have HT := Lib.hid (take_succ_wx h1)
      have h1i : (k : Int) < (ws.length : Int) := by omega
      obtain ⟨x, hx⟩ : ∃ x, wx ws k = x := ⟨_, rfl⟩
      rw [hx] at c1 c2 c3 c4 c5 HT
      obtain ⟨xf, xb, xt, xl, xh⟩ := x
      dsimp only at c1 c2 c3 c4 c5
      have hb1 : Below wr.heap.size wr (wr.alloc (.cells #[.int .i64 xf, .int .i64 xb, .int .i64 xt, .int .i64 xl, .int .i64 xh] 56)) := (Below.refl _ _).alloc (Nat.le_refl _) _
      have hb2 : Below wr.heap.size wr ((wr.alloc (.cells #[.int .i64 xf, .int .i64 xb, .int .i64 xt, .int .i64 xl, .int .i64 xh] 56)).alloc (.cells #[.int .i64 xf, .int .i64 xb, .int .i64 xt, .int .i64 xl, .int .i64 xh] 85)) := hb1.alloc (by simp) _
      have HO2 : Hid (OwnW 85 W0.heap.size ((wr.alloc (.cells #[.int .i64 xf, .int .i64 xb, .int .i64 xt, .int .i64 xl, .int .i64 xh] 56)).alloc (.cells #[.int .i64 xf, .int .i64 xb, .int .i64 xt, .int .i64 xl, .int .i64 xh] 85)) (.slice Au k cu) (ws.take k)) := World.ownsRow.kept hO (only_below hb2 none) (own_ne _)
      have HS := Lib.hid (src_word (wr.alloc (.cells #[.int .i64 xf, .int .i64 xb, .int .i64 xt, .int .i64 xl, .int .i64 xh] 56)) ⟨xf, xb, xt, xl, xh⟩ 85)
      rw [World.size_alloc] at HS
      have HLA : Hid ((ws.take k).length ≤ 1000000) := by show _ ≤ _; omega
      have hg : w.heap.size + 1 + 1 < W0.heap.size := by omega
      have HLA2 : Hid ((ws.take k ++ [(⟨xf, xb, xt, xl, xh⟩ : Wd)]).length = k + 1) := by show _ = _; rw [List.length_append, hlt]; rfl
      have HBS : Hid (W0.heap.size ≤ ((wr.alloc (.cells #[.int .i64 xf, .int .i64 xb, .int .i64 xt, .int .i64 xl, .int .i64 xh] 56)).alloc (.cells #[.int .i64 xf, .int .i64 xb, .int .i64 xt, .int .i64 xl, .int .i64 xh] 85)).heap.size) := Nat.le_trans hz hb2.size
      have HB2 := Lib.hid hb2
      have HLT := Lib.hid hlt
      subst hA
      clear hL hO hC hb1 hb2 hx hlt l2
      go_wp2_with (at_builtin; refine wpList_words (t := 30) (e := 85) (.inl ⟨rfl, rfl⟩) (.tmp 22) (.tmp 35) rfl rfl W0.heap.size _ (.slice Au k cu) (ws.take k) [⟨xf, xb, xt, xl, xh⟩] (some ⟨wr.heap.size + 1, 0, none⟩) 1 1 rfl rfl rfl HO2.out HS.out HLA.out (by simp) HBS.out ?_; intro u' w2 HA; obtain ⟨A2, c2', e2⟩ := HA.out.own.form; rw [HLA2.out] at e2; subst e2; obtain ⟨l5, l6, l7⟩ := (lane_app hg HCk.out HB2.out HLk.out HO2.out HA.out).cells; have l8 := l7 1)
      go_roundw
      case rel =>
        obtain ⟨r1, r2, r3⟩ := lane_round hg HCk.out HB2.out HLk.out HO2.out HA.out
        exact ⟨k + 1, _, by omega, by go_num, r1, by rw [HT.out]; exact r2, r3⟩
      case measure => simp [intOf]; omega
    · have hke : k = ws.length := by omega
      have h1i : ¬ (k : Int) < (ws.length : Int) := by omega
      obtain ⟨Au, cu, hu⟩ := hO.form
      rw [List.take_of_length_le (by omega)] at hu
      subst hu
      have hz2 : wr.heap[w.heap.size + 1]? = some (.cells #[.int .i64 0, .slice none 0 0] 32 (0, 0)) := (hC.block _ (by omega) (by omega)).trans HZ1.out
      have HZ2 := Lib.hid hz2
      have z1 : wr.frozen? ⟨w.heap.size + 1, 0, none⟩ = false := by simp [World.frozen?, hz2]
      have z2 : wr.frozen? ⟨w.heap.size + 1, 1, none⟩ = false := by simp [World.frozen?, hz2]
      have y1 : wr.cell? ⟨w.heap.size + 1, 0, none⟩ = some (.int .i64 0) := by simp [World.cell?, hz2]
      have y2 : wr.cell? ⟨w.heap.size + 1, 1, none⟩ = some (.slice none 0 0) := by simp [World.cell?, hz2]
      clear hL hO hC l2 hz2
      go_wp2_with fail
      have hd : Below w.heap.size w ((wr.setCell ⟨w.heap.size + 1, 0, none⟩ (.int .i64 frn)).setCell ⟨w.heap.size + 1, 1, none⟩ (.slice Au ws.length cu)) := (HBk.out.setCell (by dsimp only; omega) _).setCell (by dsimp only; omega) _
      refine bodyPost_ret (v := .agg #[.int .i64 frn, .slice Au ws.length cu]) (by simp [results, Try.results20, go_sem, World.cell?, World.setCell, Array.getElem?_modify, HZ2.out]) rfl ?_
      have HO3 := HOk.out
      rw [List.take_of_length_le (by omega)] at HO3
      have hS : wr.grownBy ((wr.setCell ⟨w.heap.size + 1, 0, none⟩ (.int .i64 frn)).setCell ⟨w.heap.size + 1, 1, none⟩ (.slice Au ws.length cu)) (some (w.heap.size + 1)) := sets2 _ _ _ _
      have HO4 : OwnW 85 W0.heap.size ((wr.setCell ⟨w.heap.size + 1, 0, none⟩ (.int .i64 frn)).setCell ⟨w.heap.size + 1, 1, none⟩ (.slice Au ws.length cu)) (.slice Au ws.length cu) ws := World.ownsRow.kept HO3 hS (.inr fun e => by
        have := (World.ownsRow.lt HO3 _ e).1; omega)
      exact ⟨Au, cu, rfl, ownsRow_base HO4 (by omega), hd⟩
end Go.Proofs.Ytadjkinpimmhkaa
