/-
  The reference's lane of one frame.
-/
import Derived.Test.YtadjkinpimmhkaaLane
namespace Go.Proofs.Ytadjkinpimmhkaa
open Go.RowKit
set_option linter.unusedSimpArgs false
set_option linter.unusedVariables false

def onlyL (ws : List Wd) (f : Int) : List Wd := (ws.filter fun x => decide (x.fr = f)).map fun x => { x with fr := 0 }
theorem onlyL_yes {ws : List Wd} {x : Wd} {f : Int} (h : x.fr = f) : onlyL (ws ++ [x]) f = onlyL ws f ++ [{ x with fr := 0 }] := by simp [onlyL, List.filter_append, h]
theorem onlyL_no {ws : List Wd} {x : Wd} {f : Int} (h : ¬ x.fr = f) : onlyL (ws ++ [x]) f = onlyL ws f := by simp [onlyL, List.filter_append, h]
theorem onlyL_len {ws : List Wd} {f : Int} (k : Nat) : (onlyL (ws.take k) f).length ≤ k := by
  unfold onlyL
  rw [List.length_map]
  exact Nat.le_trans (List.length_filter_le _ _) (by rw [List.length_take]; omega)

set_option maxRecDepth 100000 in
set_option maxHeartbeats 8000000 in
theorem only_c (A : Option Addr) (ws : List Wd) (c : Nat) (frn f : Int) (w : World) (hw : Wds w.heap.size w A ws) (hc : ws.length ≤ c ∧ c ≤ 9223372036854775807) (hl : ws.length ≤ 1000000) :
    Calls Try.prog 32 #[.agg #[.int .i64 frn, .slice A ws.length c], .int .i64 f] w (LanePost 56 w 1 (onlyL ws f)) := by
  have hb0 : Below w.heap.size w (((w.alloc (.cells #[.int .i64 frn, .slice A ws.length c] 24)).alloc (.cells #[.int .i64 0, .slice none 0 0] 24)).alloc (.cells #[.int .i64 1, .slice none 0 0] 24)) := (((Below.refl _ _).alloc (Nat.le_refl _) _).alloc (by simp) _).alloc (by simp; omega) _
  have k0 : (((w.alloc (.cells #[.int .i64 frn, .slice A ws.length c] 24)).alloc (.cells #[.int .i64 0, .slice none 0 0] 24)).alloc (.cells #[.int .i64 1, .slice none 0 0] 24)).cell? ⟨w.heap.size, 1, none⟩ = some (.slice A ws.length c) := by go_simp
  have hL : LB (((w.alloc (.cells #[.int .i64 frn, .slice A ws.length c] 24)).alloc (.cells #[.int .i64 0, .slice none 0 0] 24)).alloc (.cells #[.int .i64 1, .slice none 0 0] 24)) (w.heap.size + 1 + 1) 1 (.slice none 0 0) 24 := by
    have := World.alloc_heap_new ((w.alloc (.cells #[.int .i64 frn, .slice A ws.length c] 24)).alloc (.cells #[.int .i64 0, .slice none 0 0] 24)) (.cells #[.int .i64 1, .slice none 0 0] 24)
    simpa [LB] using this
  have hsz : (((w.alloc (.cells #[.int .i64 frn, .slice A ws.length c] 24)).alloc (.cells #[.int .i64 0, .slice none 0 0] 24)).alloc (.cells #[.int .i64 1, .slice none 0 0] 24)).heap.size = w.heap.size + 1 + 1 + 1 := by simp
  have hz1 : (((w.alloc (.cells #[.int .i64 frn, .slice A ws.length c] 24)).alloc (.cells #[.int .i64 0, .slice none 0 0] 24)).alloc (.cells #[.int .i64 1, .slice none 0 0] 24)).heap[w.heap.size + 1]? = some (.cells #[.int .i64 0, .slice none 0 0] 24 (0, 0)) := by
    rw [heap_alloc_old _ _ (by simp)]
    have := World.alloc_heap_new (w.alloc (.cells #[.int .i64 frn, .slice A ws.length c] 24)) (.cells #[.int .i64 0, .slice none 0 0] 24)
    simpa using this
  have HW := Lib.hid hw
  clear hw
  go_enter Try.func32, Try.ntmps32
  go_wp2_with fail
  have HB0 := Lib.hid hb0
  have HL := Lib.hid hL
  have HZ1 := Lib.hid hz1
  clear hb0 hL hz1
  generalize hW0 : (((w.alloc (.cells #[.int .i64 frn, .slice A ws.length c] 24)).alloc (.cells #[.int .i64 0, .slice none 0 0] 24)).alloc (.cells #[.int .i64 1, .slice none 0 0] 24)) = W0 at k0 HL HB0 HZ1 hsz ⊢
  clear hW0
  go_loopw [6] (fun i wr => ∃ (k : Nat) (u : Value), k ≤ ws.length ∧ i = .int .i64 k ∧ LB wr (w.heap.size + 1 + 1) 1 u 24 ∧ OwnW 56 W0.heap.size wr u (onlyL (ws.take k) f) ∧ Chg W0 wr (fun i => i = w.heap.size + 1 + 1)) (fun i _ => ws.length - (intOf i).toNat)
  case atStart => exact ⟨0, _, by omega, rfl, HL.out, OwnW.nil _ _ _, Chg.refl _ _⟩
  case round =>
    obtain ⟨k, u, hk, rfl, hL, hO, hC⟩ := hrel
    have HOk := Lib.hid hO
    have HCk := Lib.hid hC
    have HLk := Lib.hid hL
    have HBk : Hid (Below w.heap.size w wr) := HB0.out.trans (hC.below (by omega) fun i _ e => by omega)
    have q0 : wr.cell? ⟨w.heap.size, 1, none⟩ = some (.slice A ws.length c) := hC.cell k0 (by dsimp only; omega)
    obtain ⟨l0, l1, l2⟩ := hL.cells
    have l3 := hL.lt
    have hz := hC.size
    have l4 := l2 1
    by_cases h1 : k < ws.length
    · obtain ⟨b, off, hA, hblt, c1, c2, c3, c4, c5⟩ := (HW.out.below HBk.out).at_ h1
      have HAA := Lib.hid hA
      obtain ⟨Au, cu, hu⟩ := hO.form
      have hlt : (onlyL (ws.take k) f).length ≤ k := onlyL_len k
      generalize hn : (onlyL (ws.take k) f).length = n at hu hlt
      subst hu
      have h1i : (k : Int) < (ws.length : Int) := by omega
      have HT := Lib.hid (take_succ_wx h1)
      obtain ⟨x, hx⟩ : ∃ x, wx ws k = x := ⟨_, rfl⟩
      rw [hx] at c1 c2 c3 c4 c5 HT
      obtain ⟨xf, xb, xt, xl, xh⟩ := x
      dsimp only at c1 c2 c3 c4 c5
      subst hA
      by_cases hf : xf = f
      · have hfb : (xf == f) = true := by simp [hf]
        have HX : Hid (onlyL (ws.take (k + 1)) f = onlyL (ws.take k) f ++ [⟨0, xb, xt, xl, xh⟩]) := by show _ = _; rw [HT.out, onlyL_yes hf]
        have hb1 : Below wr.heap.size wr (wr.alloc (.cells #[.int .i64 0, .int .i64 xb, .int .i64 xt, .int .i64 xl, .int .i64 xh] 56)) := (Below.refl _ _).alloc (Nat.le_refl _) _
        have hb2 : Below wr.heap.size wr ((wr.alloc (.cells #[.int .i64 0, .int .i64 xb, .int .i64 xt, .int .i64 xl, .int .i64 xh] 56)).alloc (.cells #[.int .i64 0, .int .i64 xb, .int .i64 xt, .int .i64 xl, .int .i64 xh] 56)) := hb1.alloc (by simp) _
        have HO2 : Hid (OwnW 56 W0.heap.size ((wr.alloc (.cells #[.int .i64 0, .int .i64 xb, .int .i64 xt, .int .i64 xl, .int .i64 xh] 56)).alloc (.cells #[.int .i64 0, .int .i64 xb, .int .i64 xt, .int .i64 xl, .int .i64 xh] 56)) (.slice Au n cu) (onlyL (ws.take k) f)) := World.ownsRow.kept hO (only_below hb2 none) (own_ne _)
        have HS := Lib.hid (src_word (wr.alloc (.cells #[.int .i64 0, .int .i64 xb, .int .i64 xt, .int .i64 xl, .int .i64 xh] 56)) ⟨0, xb, xt, xl, xh⟩ 56)
        rw [World.size_alloc] at HS
        have HLA : Hid ((onlyL (ws.take k) f).length ≤ 1000000) := by show _ ≤ _; omega
        have hg : w.heap.size + 1 + 1 < W0.heap.size := by omega
        have HLA2 : Hid ((onlyL (ws.take k) f ++ [(⟨0, xb, xt, xl, xh⟩ : Wd)]).length = n + 1) := by show _ = _; rw [List.length_append, hn]; rfl
        have HBS : Hid (W0.heap.size ≤ ((wr.alloc (.cells #[.int .i64 0, .int .i64 xb, .int .i64 xt, .int .i64 xl, .int .i64 xh] 56)).alloc (.cells #[.int .i64 0, .int .i64 xb, .int .i64 xt, .int .i64 xl, .int .i64 xh] 56)).heap.size) := Nat.le_trans hz hb2.size
        have HB2 := Lib.hid hb2
        clear hL hO hC hb1 hb2 hx hn l2 hf
        go_wp2_with (at_builtin; refine wpList_words (t := 22) (e := 56) (.inr ⟨rfl, rfl⟩) (.tmp 27) (.tmp 29) rfl rfl W0.heap.size _ (.slice Au n cu) (onlyL (ws.take k) f) [⟨0, xb, xt, xl, xh⟩] (some ⟨wr.heap.size + 1, 0, none⟩) 1 1 rfl rfl rfl HO2.out HS.out HLA.out (by simp) HBS.out ?_; intro u' w2 HA; obtain ⟨A2, c2', e2⟩ := HA.out.own.form; rw [HLA2.out] at e2; subst e2; obtain ⟨l5, l6, l7⟩ := (lane_app hg HCk.out HB2.out HLk.out HO2.out HA.out).cells; have l8 := l7 1)
        go_roundw
        case rel =>
          obtain ⟨r1, r2, r3⟩ := lane_round hg HCk.out HB2.out HLk.out HO2.out HA.out
          exact ⟨k + 1, _, by omega, by go_num, r1, by rw [HX.out]; exact r2, r3⟩
        case measure => simp [intOf]; omega
      · have hfb : (xf == f) = false := by simp [hf]
        have HX : Hid (onlyL (ws.take (k + 1)) f = onlyL (ws.take k) f) := by show _ = _; rw [HT.out, onlyL_no hf]
        have hb1 : Below wr.heap.size wr (wr.alloc (.cells #[.int .i64 xf, .int .i64 xb, .int .i64 xt, .int .i64 xl, .int .i64 xh] 56)) := (Below.refl _ _).alloc (Nat.le_refl _) _
        have HB1 := Lib.hid hb1
        clear hL hO hC hb1 hx hn l2 hf
        go_wp2_with fail
        go_roundw
        case rel => exact ⟨k + 1, _, by omega, by go_num, HLk.out.below HB1.out, by rw [HX.out]; exact World.ownsRow.kept HOk.out (only_below HB1.out none) (own_ne _), HCk.out.trans (Chg.ofBelow HB1.out _) fun i _ h => h⟩
        case measure => simp [intOf]; omega
    · have hke : k = ws.length := by omega
      have h1i : ¬ (k : Int) < (ws.length : Int) := by omega
      obtain ⟨Au, cu, hu⟩ := hO.form
      rw [List.take_of_length_le (by omega)] at hu
      generalize hn : (onlyL ws f).length = n at hu
      subst hu
      have hz2 : wr.heap[w.heap.size + 1]? = some (.cells #[.int .i64 0, .slice none 0 0] 24 (0, 0)) := (hC.block _ (by omega) (by omega)).trans HZ1.out
      have HZ2 := Lib.hid hz2
      have z1 : wr.frozen? ⟨w.heap.size + 1, 0, none⟩ = false := by simp [World.frozen?, hz2]
      have z2 : wr.frozen? ⟨w.heap.size + 1, 1, none⟩ = false := by simp [World.frozen?, hz2]
      have y1 : wr.cell? ⟨w.heap.size + 1, 0, none⟩ = some (.int .i64 0) := by simp [World.cell?, hz2]
      have y2 : wr.cell? ⟨w.heap.size + 1, 1, none⟩ = some (.slice none 0 0) := by simp [World.cell?, hz2]
      clear hL hO hC l2 hz2
      go_wp2_with fail
      have hd : Below w.heap.size w ((wr.setCell ⟨w.heap.size + 1, 0, none⟩ (.int .i64 1)).setCell ⟨w.heap.size + 1, 1, none⟩ (.slice Au n cu)) := (HBk.out.setCell (by dsimp only; omega) _).setCell (by dsimp only; omega) _
      refine bodyPost_ret (v := .agg #[.int .i64 1, .slice Au n cu]) (by simp [results, Try.results32, go_sem, World.cell?, World.setCell, Array.getElem?_modify, HZ2.out]) rfl ?_
      have HO3 := HOk.out
      rw [List.take_of_length_le (by omega)] at HO3
      have hS : wr.grownBy ((wr.setCell ⟨w.heap.size + 1, 0, none⟩ (.int .i64 1)).setCell ⟨w.heap.size + 1, 1, none⟩ (.slice Au n cu)) (some (w.heap.size + 1)) := sets2 _ _ _ _
      have HO4 : OwnW 56 W0.heap.size ((wr.setCell ⟨w.heap.size + 1, 0, none⟩ (.int .i64 1)).setCell ⟨w.heap.size + 1, 1, none⟩ (.slice Au n cu)) (.slice Au n cu) (onlyL ws f) := World.ownsRow.kept HO3 hS (.inr fun e => by
        have := (World.ownsRow.lt HO3 _ e).1; omega)
      subst hn
      exact ⟨Au, cu, rfl, ownsRow_base HO4 (by omega), hd⟩
end Go.Proofs.Ytadjkinpimmhkaa
