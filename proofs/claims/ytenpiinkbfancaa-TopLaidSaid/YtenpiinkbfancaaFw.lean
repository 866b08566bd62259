/-
  path: the turns that a ball can make, and the states behind them.
-/
import Derived.Test.YtenpiinkbfancaaPc4
import Derived.Test.YtenpiinkbfancaaRo
namespace Go.Proofs.Ytenpiinkbfancaa.Pa
open Go.RowKit
set_option linter.unusedSimpArgs false
set_option linter.unusedVariables false

attribute [local go_sem] Oper.semAt_some
/-- What the iterator reads: the hooks, the state. -/
def FB (W : World) (p q : Nat) (lo hi b d : Int) : Prop := W.heap[p]? = some (.cells #[.int .i64 lo, .int .i64 hi] 186) ∧ W.heap[q]? = some (.cells #[.int .i64 b, .int .i64 d] 105)
section
variable {W W' : World} {p q : Nat} {lo hi b d : Int}
theorem FB.lt (h : FB W p q lo hi b d) : p < W.heap.size ∧ q < W.heap.size := ⟨(Array.getElem?_eq_some_iff.1 h.1).1, (Array.getElem?_eq_some_iff.1 h.2).1⟩
theorem FB.step (h : FB W p q lo hi b d) (hb : Below W.heap.size W W') : FB W' p q lo hi b d := ⟨(hb.block p h.lt.1).trans h.1, (hb.block q h.lt.2).trans h.2⟩
theorem FB.cells (h : FB W p q lo hi b d) : W.cell? ⟨p, 0, none⟩ = some (.int .i64 lo) ∧ W.cell? ⟨p, 1, none⟩ = some (.int .i64 hi) ∧ W.cell? ⟨q, 0, none⟩ = some (.int .i64 b) ∧ W.cell? ⟨q, 1, none⟩ = some (.int .i64 d) := by
  obtain ⟨h1, h2⟩ := h
  simp [World.cell?, h1, h2]
end
def FollowP (l : Ln) (r b : Nat) (d : Int) (w : World) (e : Ending) (w' : World) : Prop :=
  ∃ p q : Nat, e = .returned (.func (.func 168) #[] #[.pointer (some ⟨p, 0, none⟩), .pointer (some ⟨q, 0, none⟩)]) ∧ Below w.heap.size w w' ∧ w.heap.size ≤ p ∧ w.heap.size ≤ q ∧ FB w' p q (hkLo l r b) (hkHi l r b) b d
set_option maxRecDepth 100000 in
set_option maxHeartbeats 4000000 in
theorem follow141_c (l : Ln) (H P : Option Addr) (ch cp g m r b : Nat) (d : Int) (w : World) (hok : Ok l) (hH : Recs 2 w.heap.size w H l.hk) (hT : TabG w g m (fun r b => level l r b)) (hr : r < m) (hm : m ≤ 12) (hb : b < 41) :
    Calls Try.prog 141 #[BV l H P ch cp g m, .int .i64 (r : Int), .agg #[.int .i64 (b : Int), .int .i64 d]] w (FollowP l r b d w) := by
  have hb2 := below_two2 w (.cells #[.int .i64 l.nb, .int .i64 l.nr, .slice H l.hk.length ch, .slice P l.pt.length cp, .slice (some ⟨g, 0, none⟩) m m] 189) (.cells #[.int .i64 (b : Int), .int .i64 d] 105)
  have HB := Lib.hid hb2
  have HZ : Hid (((w.alloc (.cells #[.int .i64 l.nb, .int .i64 l.nr, .slice H l.hk.length ch, .slice P l.pt.length cp, .slice (some ⟨g, 0, none⟩) m m] 189)).alloc (.cells #[.int .i64 (b : Int), .int .i64 d] 105)).heap.size = w.heap.size + 2) := by show _ = _; simp
  have HQ : Hid (((w.alloc (.cells #[.int .i64 l.nb, .int .i64 l.nr, .slice H l.hk.length ch, .slice P l.pt.length cp, .slice (some ⟨g, 0, none⟩) m m] 189)).alloc (.cells #[.int .i64 (b : Int), .int .i64 d] 105)).heap[w.heap.size + 1]? = some (.cells #[.int .i64 (b : Int), .int .i64 d] 105)) := by
    have := World.alloc_heap_new (w.alloc (.cells #[.int .i64 l.nb, .int .i64 l.nr, .slice H l.hk.length ch, .slice P l.pt.length cp, .slice (some ⟨g, 0, none⟩) m m] 189)) (.cells #[.int .i64 (b : Int), .int .i64 d] 105)
    rw [World.size_alloc] at this
    exact this
  have HC := Lib.hid (hooks72_c l H P ch cp g m r b d ((w.alloc (.cells #[.int .i64 l.nb, .int .i64 l.nr, .slice H l.hk.length ch, .slice P l.pt.length cp, .slice (some ⟨g, 0, none⟩) m m] 189)).alloc (.cells #[.int .i64 (b : Int), .int .i64 d] 105)) hok (hH.step hb2) (hT.step hb2) hr hm hb)
  clear hb2 hok hH hT
  unfold FollowP
  unfold BV at HC ⊢
  generalize hkLo l r b = lo at *
  generalize hkHi l r b = hi at *
  go_enter Try.func141, Try.ntmps141
  go_wp2_with fail
  refine HC.out.mono ?_
  rintro e w2 ⟨rfl, hb2⟩
  generalize ((w.alloc (.cells #[.int .i64 l.nb, .int .i64 l.nr, .slice H l.hk.length ch, .slice P l.pt.length cp, .slice (some ⟨g, 0, none⟩) m m] 189)).alloc (.cells #[.int .i64 (b : Int), .int .i64 d] 105)) = W0 at *
  have HB2 := Lib.hid hb2
  clear hb2 HC
  go_wp2_with fail
  go_ret
  refine ⟨_, _, rfl, (HB.out.trans (HB2.out.mono HB.out.size)).alloc (Nat.le_trans HB.out.size HB2.out.size) _, ?_, ?_, ?_⟩
  · exact Nat.le_trans HB.out.size HB2.out.size
  · omega
  · refine ⟨World.alloc_heap_new _ _, ?_⟩
    have hz := HZ.out
    have hz2 := HB2.out.size
    exact (Below.heap_alloc _ _ _ (by omega)).trans ((HB2.out.block _ (by omega)).trans HQ.out)
/-- What the iterator yields. -/
def fEnc (lo b d : Int) (k : Nat) : Array Value := #[.int .i64 (lo + k), .agg #[.int .i64 (nxt (b, d) (lo + k)).1, .int .i64 (nxt (b, d) (lo + k)).2]]
set_option maxRecDepth 100000 in
set_option maxHeartbeats 8000000 in
theorem follow1_in (n p q : Nat) (lo hi b d : Int) (cnt : Nat) (hlo : -3 ≤ lo) (hhi : hi ≤ 3) (hcnt : hi = lo + cnt - 1) (hd : -5 ≤ d ∧ d ≤ 5) (hb : 1 ≤ b ∧ b ≤ 40) (S : Nat → Prop) (w : World) (hw : FB w p q lo hi b d) (hS : ¬ S p ∧ ¬ S q) :
    SeqN Fence.wide n Try.prog 168 #[.pointer (some ⟨p, 0, none⟩), .pointer (some ⟨q, 0, none⟩)] (fEnc lo b d) cnt S w := by
  intro lb R W hW hY h0
  have hpq := hw.lt
  have hwz := hW.size
  have hw2 := hw.step hW
  refine callsIn_of_wp Try.func168 rfl trivial ?_ rfl
  simp only [Try.ntmps168, List.size_toArray, List.length_cons, List.length_nil, Nat.reduceAdd, Nat.reduceSub, Array.replicate_succ, Array.replicate_zero, List.push_toArray, List.append_toArray, List.nil_append, List.cons_append]
  have HS := Lib.hid hw2
  have HH0 : Hid (R W.heap.size 0 W) := h0 W (Below.refl _ _)
  have HD := Lib.hid hd
  have HBB := Lib.hid hb
  obtain ⟨k0, k1, k2, k3⟩ := hw2.cells
  clear hw2 hw h0 hd hb
  gi_wp2
  clear k0 k1 k2 k3
  gi_loopw [4] (fun i wr => ∃ (k : Nat) (W0 : World), k ≤ cnt ∧ i = .int .i64 (lo + (k : Int)) ∧ R W.heap.size k W0 ∧ W.heap.size ≤ W0.heap.size ∧ Chz W.heap.size W.heap.size W0 wr ∧ KS S W.heap.size W wr)
    (fun i _ => (hi + 1 - intOf i).toNat)
  case atStart => exact ⟨0, W, by omega, by simp, HH0.out, by omega, Chz.refl _ _ _, KS.refl _ _ _⟩
  case round =>
    obtain ⟨k, W0, hk, rfl, hR, hz0, hch, hkz⟩ := hrel
    have HR := Lib.hid hR
    have HCH := Lib.hid hch
    have HKZ := Lib.hid hkz
    obtain ⟨k0, k1, k2, k3⟩ := HS.out.cells
    replace k0 := hkz.cell k0 (by dsimp only; omega) hS.1
    replace k1 := hkz.cell k1 (by dsimp only; omega) hS.1
    replace k2 := hkz.cell k2 (by dsimp only; omega) hS.2
    replace k3 := hkz.cell k3 (by dsimp only; omega) hS.2
    clear hR hch hkz
    by_cases hk1 : k < cnt
    · have HNX := Lib.hid (fun W' => next74_c b d (lo + k) HD.out HBB.out (by omega) W')
      have HYY := Lib.hid (fun W1 hc => hY W.heap.size k W0 W1 (by omega) hz0 HR.out hc hk1)
      unfold fEnc at HYY
      have hwr : IntKind.i64.wrap (lo + (k : Int) + 1) = lo + (k : Int) + 1 := IntWalk.i64_in _ (by omega)
      obtain ⟨T, hT⟩ : ∃ T, T = lo + (k : Int) := ⟨_, rfl⟩
      rw [← hT] at HNX HYY hwr
      rw [← hT]
      have hTle : T ≤ hi := by omega
      obtain ⟨u, hu⟩ : ∃ u, u = nxt (b, d) T := ⟨_, rfl⟩
      rw [← hu] at HNX HYY
      have HT := Lib.hid hT
      clear hT hu
      gi_wp2
      refine ⟨trivial, fun h => by simp [Fence.wide] at h, (callsIn_wide.2 (HNX.out _)).mono ?_⟩
      rintro e w4 ⟨rfl, hb4⟩
      have HB4 := Lib.hid hb4
      obtain ⟨fn, tmps, assign, body, hy, hRR⟩ := HYY.out w4 (HCH.out.trans (Chz.of_below hb4))
      have HRR := Lib.hid hRR
      clear hb4 HNX hRR k0 k1 k2 k3 HYY
      gi_wp2
      refine ⟨fun h => by simp [Fence.wide] at h, ?_⟩
      refine HRR.out.mono ?_
      rintro e W7 ⟨rfl, hR7, hk7⟩
      have HR7 := Lib.hid hR7
      have HK7 := Lib.hid hk7
      clear hy HRR hR7 hk7
      gi_wp2
      refine ⟨⟨k + 1, W7, by omega, by rw [HT.out]; go_num, HR7.out, ?_, ?_, ?_⟩, by simp [intOf]; omega⟩
      · have := HK7.out.size
        have h5 := HB4.out.size
        have h6 := HCH.out.1
        omega
      · exact Chz.refl _ _ _
      · exact (HKZ.out.trans (KS.of_below HB4.out)).trans HK7.out.ks
    · obtain rfl : k = cnt := by omega
      have hgt : ¬ (lo + (k : Int) ≤ hi) := by omega
      gi_wp2
      refine bodyPost_end (v := .tuple #[]) (results_none rfl _ _ _) rfl ?_
      exact ⟨⟨_, rfl⟩, W.heap.size, by omega, W0, hz0, HR.out, HCH.out⟩
end Go.Proofs.Ytenpiinkbfancaa.Pa
