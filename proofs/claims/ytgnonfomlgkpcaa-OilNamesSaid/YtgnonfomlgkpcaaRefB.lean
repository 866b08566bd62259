/-
  The reference's Bounds.
-/
import Derived.Test.YtgnonfomlgkpcaaCanW
namespace Go.Proofs.Ytgnonfomlgkpcaa
open Go.RowKit

def Two (w : World) (g : Nat) (p q : Int) : Prop := w.heap[g]? = some (.cells #[.int .i64 p, .int .i64 q] 24 (0, 0))
theorem Two.c0 {w : World} {g : Nat} {p q : Int} (h : Two w g p q) : w.cell? ⟨g, 0, none⟩ = some (.int .i64 p) := by unfold Two at h; simp [World.cell?, h]
theorem Two.c1 {w : World} {g : Nat} {p q : Int} (h : Two w g p q) : w.cell? ⟨g, 1, none⟩ = some (.int .i64 q) := by unfold Two at h; simp [World.cell?, h]
theorem Two.fz {w : World} {g : Nat} {p q : Int} (h : Two w g p q) (o : Nat) : w.frozen? ⟨g, o, none⟩ = false := by unfold Two at h; simp [World.frozen?, h]
theorem Two.set {w : World} {g : Nat} {p q : Int} (h : Two w g p q) (p' q' : Int) : Two ((w.setCell ⟨g, 0, none⟩ (.int .i64 p')).setCell ⟨g, 1, none⟩ (.int .i64 q')) g p' q' := by
  unfold Two at h ⊢
  simp [World.setCell, Array.getElem?_modify, h]
theorem Two.far {w : World} {g : Nat} {p q : Int} (h : Two w g p q) {ad : Addr} (hp : g ≠ ad.block) (u : Value) : Two (w.setCell ad u) g p q := (Below.heap_setCell w ad u g hp).trans h
theorem Two.lt {w : World} {g : Nat} {p q : Int} (h : Two w g p q) : g < w.heap.size := (Array.getElem?_eq_some_iff.1 h).1

set_option maxRecDepth 100000 in
set_option maxHeartbeats 8000000 in
theorem refBounds_c (A Ab : Option Addr) (xss bss : List (List Int)) (c cb : Nat) (lo hi ca : Int) (r b : Nat) (w : World) (hx : Grd w.heap.size w A xss) (hbs : Grd w.heap.size w Ab bss) (h : ballsErr xss lo hi ca bss = 0) (hr : r < xss.length) (hb : b < (rx xss 0).length) :
    Calls Try.prog 27 #[.agg #[.slice A xss.length c, .int .i64 lo, .int .i64 hi, .int .i64 ca], .slice Ab bss.length cb, .int .i64 (r : Int), .int .i64 (b : Int)] w (Ans w (.agg #[.int .i64 (aN ca lo hi bss r b (ix (rx xss r) b) bss.length), .int .i64 (aN ca hi lo bss r b (ix (rx xss r) b) bss.length)])) := by
  have hb0 : Below w.heap.size w ((w.alloc (.cells #[.slice A xss.length c, .int .i64 lo, .int .i64 hi, .int .i64 ca] 26)).alloc (.cells #[.int .i64 0, .int .i64 0] 24)) := ((Below.refl _ _).alloc (Nat.le_refl _) _).alloc (by simp) _
  have HC := Lib.hid (can_c A Ab xss bss c cb lo hi ca r b _ (hx.step hb0) (hbs.step hb0) h hr hb)
  have fb := fresh_bd h hr hb
  obtain ⟨-, -, -, -, hlo, hlh, -⟩ := laneOk (ballsOk h).1
  have hA := (aN_eq (ca := ca) (lo := lo) bss r b bss.length (show 0 ≤ hi by omega) fb.1 fb.2).2
  have hB := (aN_eq (ca := ca) (lo := hi) bss r b bss.length hlo fb.1 fb.2).2
  have HE : Hid (((w.alloc (.cells #[.slice A xss.length c, .int .i64 lo, .int .i64 hi, .int .i64 ca] 26)).alloc (.cells #[.int .i64 0, .int .i64 0] 24)).heap[w.heap.size + 1]? = some (.cells #[.int .i64 0, .int .i64 0] 24)) := by
    show _ = _
    have := World.alloc_heap_new (w.alloc (.cells #[.slice A xss.length c, .int .i64 lo, .int .i64 hi, .int .i64 ca] 26)) (.cells #[.int .i64 0, .int .i64 0] 24)
    rwa [World.size_alloc] at this
  have HZ : Hid (((w.alloc (.cells #[.slice A xss.length c, .int .i64 lo, .int .i64 hi, .int .i64 ca] 26)).alloc (.cells #[.int .i64 0, .int .i64 0] 24)).heap.size = w.heap.size + 1 + 1) := by show _ = _; simp
  have HB := Lib.hid hb0
  clear hb0 hx hbs h fb
  generalize aN ca lo hi bss r b (ix (rx xss r) b) bss.length = a at *
  generalize aN ca hi lo bss r b (ix (rx xss r) b) bss.length = b0 at *
  go_enter Try.func27, Try.ntmps27
  go_wp2_with fail
  generalize ((w.alloc (.cells #[.slice A xss.length c, .int .i64 lo, .int .i64 hi, .int .i64 ca] 26)).alloc (.cells #[.int .i64 0, .int .i64 0] 24)) = W0 at HC HE HZ HB ⊢
  refine HC.out.mono ?_
  rintro e w1 ⟨f, rfl, hF, hb1⟩
  have HF := Lib.hid hF
  have HB1 := Lib.hid hb1
  obtain ⟨s0, s1, s4⟩ := two HE.out hb1
  clear hF hb1
  have HN0 : Hid ((w1.alloc (.cells Try.zeroCells105 105)).heap[w1.heap.size]? = some (.cells (bcells fun _ => false).toArray 105 (0, 0))) := by
    show _ = _
    rw [← zero105]
    exact heap_alloc_new w1 _
  go_wp2_with (with_reducible refine wpList_store_row (o := ⟨none, .store 105 (.tmp 9) (.tmp 16), _, _, _, _⟩) rfl 105 (.tmp 9) (.tmp 16) rfl w1.heap.size (bcells f).toArray rfl rfl 105 _ HN0.out (info105 f) (by simp [bcells]) (bcells_one f) ?_)
  have hz := HZ.out
  have hz1 := HB1.out.size
  have hz2 : w.heap.size + 1 + 1 ≤ w1.heap.size := by omega
  have HT8 : Hid (Two w1 (w.heap.size + 1) 0 0) := (HB1.out.block (w.heap.size + 1) (by omega)).trans HE.out
  have HBw : Hid (Below w.heap.size w w1) := HB.out.trans (HB1.out.mono HB.out.size)
  have HS : Hid (Bits (((w1.alloc (.cells Try.zeroCells105 105)).setRow w1.heap.size (bcells f).toArray).alloc (.cells #[.int .i64 101, .int .i64 (-1)] 24)) w1.heap.size f ∧ Two (((w1.alloc (.cells Try.zeroCells105 105)).setRow w1.heap.size (bcells f).toArray).alloc (.cells #[.int .i64 101, .int .i64 (-1)] 24)) (w1.heap.size + 1) 101 (-1) ∧ Two (((w1.alloc (.cells Try.zeroCells105 105)).setRow w1.heap.size (bcells f).toArray).alloc (.cells #[.int .i64 101, .int .i64 (-1)] 24)) (w.heap.size + 1) 0 0 ∧ Below w.heap.size w (((w1.alloc (.cells Try.zeroCells105 105)).setRow w1.heap.size (bcells f).toArray).alloc (.cells #[.int .i64 101, .int .i64 (-1)] 24))) := by
    have e1 : Bits ((w1.alloc (.cells Try.zeroCells105 105)).setRow w1.heap.size (bcells f).toArray) w1.heap.size f := Bits.row (f := fun _ => false) HN0.out f
    have sz : ((w1.alloc (.cells Try.zeroCells105 105)).setRow w1.heap.size (bcells f).toArray).heap.size = w1.heap.size + 1 := by simp
    have b1 : Below w1.heap.size w1 ((w1.alloc (.cells Try.zeroCells105 105)).setRow w1.heap.size (bcells f).toArray) := below_setRow ((Below.refl _ _).alloc (Nat.le_refl _) _) (Nat.le_refl _)
    have b2 : Below w1.heap.size w1 (((w1.alloc (.cells Try.zeroCells105 105)).setRow w1.heap.size (bcells f).toArray).alloc (.cells #[.int .i64 101, .int .i64 (-1)] 24)) := b1.alloc (by rw [sz]; omega) _
    refine ⟨e1.step ((Below.refl _ _).alloc (Nat.le_refl _) _), ?_, (b2.block _ (by omega)).trans HT8.out, HBw.out.trans (b2.mono HBw.out.size)⟩
    have := heap_alloc_new ((w1.alloc (.cells Try.zeroCells105 105)).setRow w1.heap.size (bcells f).toArray) (.cells #[.int .i64 101, .int .i64 (-1)] 24)
    rwa [sz] at this
  generalize (((w1.alloc (.cells Try.zeroCells105 105)).setRow w1.heap.size (bcells f).toArray).alloc (.cells #[.int .i64 101, .int .i64 (-1)] 24)) = W2 at HS ⊢
  clear s0 s1 s4 HN0 HE HC
  go_loopw [11] (fun i wr => ∃ (n : Nat) (p q : Int), n ≤ 101 ∧ i = .int .i64 n ∧ Bits wr w1.heap.size f ∧ Two wr (w1.heap.size + 1) p q ∧ Two wr (w.heap.size + 1) 0 0 ∧ Below w.heap.size w wr ∧ (a < n → p = a) ∧ (n ≤ a → p = 101) ∧ -1 ≤ q ∧ q < n ∧ q ≤ b0 ∧ (b0 < n → q = b0)) (fun i _ => 101 - (intOf i).toNat)
  case atStart => exact ⟨0, 101, -1, by omega, rfl, HS.out.1, HS.out.2.1, HS.out.2.2.1, HS.out.2.2.2, (fun h => by omega), (fun _ => rfl), by omega, by omega, by omega, (fun h => by omega)⟩
  case round =>
    obtain ⟨n, p, q, hn, rfl, h1, h2, h3, h4, h5, h6, h7, h8, h9, h10⟩ := hrel
    clear HS
    by_cases hlt : n < 101
    · have t1 := h1.cell (j := n) hlt
      have t2 := h2.c0
      have t3 := h2.c1
      have t4 := h2.fz 0
      have t5 := h2.fz 1
      have n1 : (n : Int) ≤ 100 := by omega
      have n2 : (n : Int) < 101 := by omega
      have H1 := Lib.hid h1
      have H2 := Lib.hid h2
      have H3 := Lib.hid h3
      have H4 := Lib.hid h4
      have H5 := Lib.hid h5
      have H6 := Lib.hid h6
      have H10 := Lib.hid h10
      cases hf : f n
      · rw [hf] at t1
        have HR : Hid (n ≠ a ∧ n ≠ b0) := ⟨(fun e => by subst e; have := HF.out.1; rw [hf] at this; cases this), (fun e => by subst e; have := HF.out.2.1; rw [hf] at this; cases this)⟩
        clear hf h1 h2 h3 h4 h5 h6 h10
        go_wp2_with fail
        go_roundw
        case rel => exact ⟨n + 1, p, q, by omega, by go_num, H1.out, H2.out, H3.out, H4.out, (fun h => H5.out (by have := HR.out.1; omega)), (fun h => H6.out (by omega)), h7, by omega, h9, (fun h => H10.out (by have := HR.out.2; omega))⟩
        case measure => simp [intOf]; omega
      · rw [hf] at t1
        obtain ⟨m1, m2⟩ := HF.out.2.2 n (by omega) hf
        clear hf h1 h2 h3 h4 h5 h6 h10
        by_cases e : n = a
        · have hp : p = 101 := H6.out (by omega)
          subst hp
          have e1 : n ≤ a := by omega
          have e2 : a ≤ n := by omega
          clear e
          have u1 : ¬ ((101 : Int) ≤ (n : Int)) := by omega
          have u3 : ¬ ((n : Int) ≤ q) := by omega
          have u4 : q < (n : Int) := by omega
          go_wp2_with fail
          go_roundw
          case rel => exact ⟨n + 1, n, n, by omega, by go_num, (H1.out.far (by dsimp only; omega) _).far (by dsimp only; omega) _, H2.out.set _ _, (H3.out.far (by dsimp only; omega) _).far (by dsimp only; omega) _, (H4.out.setCell (by dsimp only; omega) _).setCell (by dsimp only; omega) _, (fun h => by omega), (fun h => by omega), by omega, by omega, by omega, (fun h => by omega)⟩
          case measure => simp [intOf]; omega
        · have hp : p = a := H5.out (by omega)
          subst hp
          have u1 : ((a : Int) ≤ (n : Int)) := by omega
          have u1' : ¬ ((n : Int) < (a : Int)) := by omega
          have u3 : ¬ ((n : Int) ≤ q) := by omega
          have u4 : q < (n : Int) := by omega
          go_wp2_with fail
          go_roundw
          case rel => exact ⟨n + 1, a, n, by omega, by go_num, (H1.out.far (by dsimp only; omega) _).far (by dsimp only; omega) _, H2.out.set _ _, (H3.out.far (by dsimp only; omega) _).far (by dsimp only; omega) _, (H4.out.setCell (by dsimp only; omega) _).setCell (by dsimp only; omega) _, (fun h => by omega), (fun h => by omega), by omega, by omega, by omega, (fun h => by omega)⟩
          case measure => simp [intOf]; omega
    · have hp : p = a := h5 (by omega)
      have hq : q = b0 := h10 (by omega)
      subst hp hq
      have n1 : ¬ ((n : Int) ≤ 100) := by omega
      have t2 := h2.c0
      have t3 := h2.c1
      have t4 := h3.fz 0
      have t5 := h3.fz 1
      have t6 := h3.c0
      have t7 := h3.c1
      have H3 := Lib.hid h3
      have H4 := Lib.hid h4
      clear h1 h2 h3 h4 h5 h6 h10
      go_wp2_with fail
      have hS := H3.out.set (a : Int) (b0 : Int)
      have c0 := hS.c0
      have c1 := hS.c1
      refine bodyPost_ret (v := .agg #[.int .i64 (a : Int), .int .i64 (b0 : Int)]) (by simp [results, Try.results27, go_sem, t6, t7]) rfl ⟨rfl, (H4.out.setCell (p := ⟨w.heap.size + 1, 0, none⟩) (by dsimp only; omega) _).setCell (p := ⟨w.heap.size + 1, 1, none⟩) (by dsimp only; omega) _⟩
end Go.Proofs.Ytgnonfomlgkpcaa
