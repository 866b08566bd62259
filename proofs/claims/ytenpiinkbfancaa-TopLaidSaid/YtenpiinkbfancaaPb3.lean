/-
  The reference of path: the hooks of a cell.
-/
import Derived.Test.YtenpiinkbfancaaPb2
namespace Go.Proofs.Ytenpiinkbfancaa.Pa
open Go.RowKit
set_option linter.unusedSimpArgs false
set_option linter.unusedVariables false

attribute [local go_sem] Oper.semAt_some
theorem two_set {W : World} {g : Nat} {a b x y : Value} {t : TypeId} (h : W.heap[g]? = some (.cells #[a, b] t)) : ((W.setCell ⟨g, 0, none⟩ x).setCell ⟨g, 1, none⟩ y).cell? ⟨g, 0, none⟩ = some x ∧ ((W.setCell ⟨g, 0, none⟩ x).setCell ⟨g, 1, none⟩ y).cell? ⟨g, 1, none⟩ = some y := by
  simp [World.setCell, World.cell?, Array.getElem?_modify, h]
set_option maxRecDepth 100000 in
set_option maxHeartbeats 4000000 in
theorem hook77_c (l : Ln) (H P : Option Addr) (ch cp : Nat) (row board : Int) (w : World) (hok : Ok l) (hH : Recs 2 w.heap.size w H l.hk) (hP : Recs 5 w.heap.size w P l.pt) :
    Calls Try.prog 77 #[LV l H P ch cp, .int .i64 row, .int .i64 board] w (Ans w (.agg #[.int .i64 (hkLo l row board), .int .i64 (hkHi l row board)])) := by
  unfold LV
  have hp8 := hok.p8
  have hlb := lvl_bd hok row board _ (Nat.le_refl _)
  have hhl := hok.h4
  have hb0 : Below w.heap.size w ((w.alloc (.cells #[.int .i64 l.nb, .int .i64 l.nr, .slice H l.hk.length ch, .slice P l.pt.length cp] 88)).alloc (.cells #[.int .i64 0, .int .i64 0] 183)) := below_two2 _ _ _
  have k2 : ((w.alloc (.cells #[.int .i64 l.nb, .int .i64 l.nr, .slice H l.hk.length ch, .slice P l.pt.length cp] 88)).alloc (.cells #[.int .i64 0, .int .i64 0] 183)).cell? ⟨w.heap.size, 2, none⟩ = some (.slice H l.hk.length ch) := by go_simp
  have k3 : ((w.alloc (.cells #[.int .i64 l.nb, .int .i64 l.nr, .slice H l.hk.length ch, .slice P l.pt.length cp] 88)).alloc (.cells #[.int .i64 0, .int .i64 0] 183)).cell? ⟨w.heap.size, 3, none⟩ = some (.slice P l.pt.length cp) := by go_simp
  have HG : Hid (((w.alloc (.cells #[.int .i64 l.nb, .int .i64 l.nr, .slice H l.hk.length ch, .slice P l.pt.length cp] 88)).alloc (.cells #[.int .i64 0, .int .i64 0] 183)).heap[w.heap.size + 1]? = some (.cells #[.int .i64 0, .int .i64 0] 183)) := by
    have := World.alloc_heap_new (w.alloc (.cells #[.int .i64 l.nb, .int .i64 l.nr, .slice H l.hk.length ch, .slice P l.pt.length cp] 88)) (.cells #[.int .i64 0, .int .i64 0] 183)
    rw [World.size_alloc] at this
    exact this
  have HHk := Lib.hid (hH.step hb0)
  have HPt := Lib.hid (hP.step hb0)
  have HB := Lib.hid hb0
  have HOK := Lib.hid hok
  clear hb0 hH hP hok
  go_enter Try.func77, Try.ntmps77
  go_wp2_with fail
  generalize ((w.alloc (.cells #[.int .i64 l.nb, .int .i64 l.nr, .slice H l.hk.length ch, .slice P l.pt.length cp] 88)).alloc (.cells #[.int .i64 0, .int .i64 0] 183)) = W0 at *
  go_loopw [8, 7] (fun iv lv wr => ∃ k : Nat, k ≤ l.pt.length ∧ iv = .int .i64 (k : Int) ∧ lv = .int .i64 (lvl l row board k) ∧ Below W0.heap.size W0 wr) (fun iv _ _ => l.pt.length - (intOf iv).toNat)
  case atStart => exact ⟨0, by omega, rfl, rfl, Below.refl _ _⟩
  case round =>
    obtain ⟨k, hk, rfl, rfl, hbw⟩ := hrel
    have HBW := Lib.hid hbw
    replace k2 := cell_of_ans hbw k2
    replace k3 := cell_of_ans hbw k3
    have hw7 : IntKind.i64.wrap ((k : Int) + 1) = (k : Int) + 1 := IntWalk.i64_in _ (by omega)
    by_cases h1 : k < l.pt.length
    · have h1i : (k : Int) < (l.pt.length : Int) := by omega
      obtain ⟨b1, o1, hA1, hb1, c0, c1, c2, c3, c4⟩ := (HPt.out.below hbw).at5 h1
      rw [hA1] at k3 ⊢
      have HLV : Hid (lvl l row board (k + 1) = if overB (rx l.pt k) row board then ix (rx l.pt k) 4 else lvl l row board k) := rfl
      unfold overB at HLV
      generalize rx l.pt k = p at *
      generalize lvl l row board k = lv at *
      have HLV2 := HLV
      obtain ⟨p0, hp0⟩ : ∃ x, x = ix p 0 := ⟨_, rfl⟩
      obtain ⟨p1, hp1⟩ : ∃ x, x = ix p 1 := ⟨_, rfl⟩
      obtain ⟨p2, hp2⟩ : ∃ x, x = ix p 2 := ⟨_, rfl⟩
      obtain ⟨p3, hp3⟩ : ∃ x, x = ix p 3 := ⟨_, rfl⟩
      obtain ⟨p4, hp4⟩ : ∃ x, x = ix p 4 := ⟨_, rfl⟩
      rw [← hp0] at c0 HLV
      rw [← hp1] at c1 HLV
      rw [← hp2] at c2 HLV
      rw [← hp3] at c3 HLV
      rw [← hp4] at c4 HLV
      clear hp0 hp1 hp2 hp3 hp4 HLV2
      have H1 := Lib.hid (fun W => in69_c row p0 p1 W)
      have H2 := Lib.hid (fun W => in69_c board p2 p3 W)
      have hbx : Below wr.heap.size wr (wr.alloc (.cells #[.int .i64 p0, .int .i64 p1, .int .i64 p2, .int .i64 p3, .int .i64 p4] 185)) := (Below.refl _ _).alloc (Nat.le_refl _) _
      have HBX := Lib.hid (HBW.out.trans (hbx.mono HBW.out.size))
      clear hbx
      generalize inB row p0 p1 = r at *
      generalize inB board p2 p3 = q at *
      cases r
      · go_wp2_with fail
        refine (H1.out _).mono ?_
        rintro e w1 ⟨rfl, rfl⟩
        go_wp2_with fail
        go_roundw
        case rel => exact ⟨k + 1, by omega, by go_num, by rw [HLV.out]; simp, HBX.out⟩
        case measure => simp [intOf]; omega
      · cases q
        · go_wp2_with fail
          refine (H1.out _).mono ?_
          rintro e w1 ⟨rfl, rfl⟩
          go_wp2_with fail
          refine (H2.out _).mono ?_
          rintro e w1 ⟨rfl, rfl⟩
          go_wp2_with fail
          go_roundw
          case rel => exact ⟨k + 1, by omega, by go_num, by rw [HLV.out]; simp, HBX.out⟩
          case measure => simp [intOf]; omega
        · go_wp2_with fail
          refine (H1.out _).mono ?_
          rintro e w1 ⟨rfl, rfl⟩
          go_wp2_with fail
          refine (H2.out _).mono ?_
          rintro e w1 ⟨rfl, rfl⟩
          go_wp2_with fail
          go_roundw
          case rel => exact ⟨k + 1, by omega, by go_num, by rw [HLV.out]; simp, HBX.out⟩
          case measure => simp [intOf]; omega
    · obtain rfl : k = l.pt.length := by omega
      have h1i : ¬ (l.pt.length : Int) < (l.pt.length : Int) := by omega
      obtain ⟨v, hv⟩ : ∃ v : Nat, lvl l row board l.pt.length = (v : Int) := ⟨(lvl l row board l.pt.length).toNat, by omega⟩
      have hlo : hkLo l row board = ix (rx l.hk v) 0 := by unfold hkLo level; rw [hv]; simp
      have hhi : hkHi l row board = ix (rx l.hk v) 1 := by unfold hkHi level; rw [hv]; simp
      rw [hv] at hlb ⊢
      obtain ⟨b1, o1, hA1, hb1, c0, c1⟩ := (HHk.out.below hbw).at2 (n := v) (by omega)
      rw [hA1] at k2 ⊢
      have hvl : (v : Int) < (l.hk.length : Int) := by omega
      generalize ix (rx l.hk v) 0 = x at *
      generalize ix (rx l.hk v) 1 = y at *
      have HLO := Lib.hid hlo
      have HHI := Lib.hid hhi
      clear hlo hhi
      have hG : wr.heap[w.heap.size + 1]? = some (.cells #[.int .i64 0, .int .i64 0] 183) := (hbw.block _ (Array.getElem?_eq_some_iff.1 HG.out).1).trans HG.out
      have g0 : wr.cell? ⟨w.heap.size + 1, 0, none⟩ = some (.int .i64 0) := by simp [World.cell?, hG]
      have g1 : wr.cell? ⟨w.heap.size + 1, 1, none⟩ = some (.int .i64 0) := by simp [World.cell?, hG]
      have gf : ∀ o, wr.frozen? ⟨w.heap.size + 1, o, none⟩ = false := by simp [World.frozen?, hG]
      have HT := Lib.hid (two_set (x := .int .i64 x) (y := .int .i64 y) hG)
      go_wp2_with fail
      obtain ⟨e0, e1⟩ := HT.out
      refine bodyPost_ret (v := .agg #[.int .i64 x, .int .i64 y]) (by simp [results, Try.results77, go_sem, e0, e1]) rfl ?_
      refine ⟨by rw [HLO.out, HHI.out], ?_⟩
      exact ((HB.out.trans (HBW.out.mono HB.out.size)).setCell (by dsimp only; omega) _).setCell (by dsimp only; omega) _
end Go.Proofs.Ytenpiinkbfancaa.Pa
