/-
  path: Reach: it lists all states that a ball can have in a row.
-/
import Derived.Test.YtenpiinkbfancaaRd2
import Derived.Test.YtenpiinkbfancaaSo3
namespace Go.Proofs.Ytenpiinkbfancaa.Pa
open Go.RowKit
set_option linter.unusedSimpArgs false
set_option linter.unusedVariables false

attribute [local go_sem] Oper.semAt_some
def ReachP (l : Ln) (s : Int × Int) (r : Nat) (w : World) (e : Ending) (w' : World) : Prop :=
  ∃ (A : Option Addr) (c : Nat) (gv : Int) (us : List St), e = .returned (.tuple #[.slice A us.length c, .int .u8 gv, .int .i64 0]) ∧ Below w.heap.size w w' ∧ (us.length ≤ c ∧ c ≤ 9223372036854775807) ∧ Recs 2 w'.heap.size w' A (us.map recS) ∧ ∀ v, Can l s r v → ∃ x ∈ us, x.1 = v
set_option maxRecDepth 100000 in
set_option maxHeartbeats 8000000 in
theorem reach40_c (l : Ln) (H P : Option Addr) (ch cp : Nat) (s : Int × Int) (r : Nat) (w : World) (hok : Ok l) (hH : Recs 2 w.heap.size w H l.hk) (hP : Recs 5 w.heap.size w P l.pt) (hs : startB l s = true) (hr : (r : Int) < l.nr) :
    Calls Try.prog 40 #[LV l H P ch cp, .agg #[.int .i64 s.1, .int .i64 s.2], .int .i64 (r : Int)] w (ReachP l s r w) := by
  have hb2 := below_two2 w (.cells #[.int .i64 l.nb, .int .i64 l.nr, .slice H l.hk.length ch, .slice P l.pt.length cp] 103) (.cells #[.int .i64 s.1, .int .i64 s.2] 105)
  have HB := Lib.hid hb2
  have k0 : ((w.alloc (.cells #[.int .i64 l.nb, .int .i64 l.nr, .slice H l.hk.length ch, .slice P l.pt.length cp] 103)).alloc (.cells #[.int .i64 s.1, .int .i64 s.2] 105)).cell? ⟨w.heap.size, 0, none⟩ = some (.int .i64 l.nb) := by go_simp
  have k1 : ((w.alloc (.cells #[.int .i64 l.nb, .int .i64 l.nr, .slice H l.hk.length ch, .slice P l.pt.length cp] 103)).alloc (.cells #[.int .i64 s.1, .int .i64 s.2] 105)).cell? ⟨w.heap.size, 1, none⟩ = some (.int .i64 l.nr) := by go_simp
  have k2 : ((w.alloc (.cells #[.int .i64 l.nb, .int .i64 l.nr, .slice H l.hk.length ch, .slice P l.pt.length cp] 103)).alloc (.cells #[.int .i64 s.1, .int .i64 s.2] 105)).cell? ⟨w.heap.size, 2, none⟩ = some (.slice H l.hk.length ch) := by go_simp
  have k3 : ((w.alloc (.cells #[.int .i64 l.nb, .int .i64 l.nr, .slice H l.hk.length ch, .slice P l.pt.length cp] 103)).alloc (.cells #[.int .i64 s.1, .int .i64 s.2] 105)).cell? ⟨w.heap.size, 3, none⟩ = some (.slice P l.pt.length cp) := by go_simp
  have k4 : ((w.alloc (.cells #[.int .i64 l.nb, .int .i64 l.nr, .slice H l.hk.length ch, .slice P l.pt.length cp] 103)).alloc (.cells #[.int .i64 s.1, .int .i64 s.2] 105)).cell? ⟨w.heap.size + 1, 0, none⟩ = some (.int .i64 s.1) := by go_simp
  have k5 : ((w.alloc (.cells #[.int .i64 l.nb, .int .i64 l.nr, .slice H l.hk.length ch, .slice P l.pt.length cp] 103)).alloc (.cells #[.int .i64 s.1, .int .i64 s.2] 105)).cell? ⟨w.heap.size + 1, 1, none⟩ = some (.int .i64 s.2) := by go_simp
  have HS := Lib.hid (started71_c l H P ch cp s.1 s.2 ((w.alloc (.cells #[.int .i64 l.nb, .int .i64 l.nr, .slice H l.hk.length ch, .slice P l.pt.length cp] 103)).alloc (.cells #[.int .i64 s.1, .int .i64 s.2] 105)) hok (hH.step hb2) (hP.step hb2) hs)
  have HOK := Lib.hid hok
  have HH := Lib.hid hH
  have HST := Lib.hid hs
  have HWI : Hid (∀ W, Calls Try.prog 94 #[.int .i64 (r : Int), .int .i64 0, .int .i64 (l.nr - 1)] W (Same W (.bool true))) := fun W => by
    have := within94_c (r : Int) 0 (l.nr - 1) W
    rwa [(inB_eq _ _ _).2 (by omega)] at this
  have hwr : IntKind.i64.wrap (l.nr - 1) = l.nr - 1 := by have := hok.r0; have := hok.r1; exact IntWalk.i64_in _ (by omega)
  have hr12 := hok.r1
  clear hb2 hok hH hP hs
  unfold LV at HS ⊢
  go_enter Try.func40, Try.ntmps40
  go_wp2_with fail
  generalize ((w.alloc (.cells #[.int .i64 l.nb, .int .i64 l.nr, .slice H l.hk.length ch, .slice P l.pt.length cp] 103)).alloc (.cells #[.int .i64 s.1, .int .i64 s.2] 105)) = W0 at *
  refine HS.out.mono ?_
  rintro e w1 ⟨g, m, rfl, hm, hT, hb⟩
  have HM := Lib.hid hm
  have HTB := Lib.hid hT
  have HB1 := Lib.hid hb
  replace k1 := cell_alloc_keep (.cells #[.int .i64 l.nb, .int .i64 l.nr, .slice H l.hk.length ch, .slice P l.pt.length cp, .slice (some ⟨g, 0, none⟩) m m] 189) (cell_of_ans hb k1)
  replace k4 := cell_alloc_keep (.cells #[.int .i64 l.nb, .int .i64 l.nr, .slice H l.hk.length ch, .slice P l.pt.length cp, .slice (some ⟨g, 0, none⟩) m m] 189) (cell_of_ans hb k4)
  replace k5 := cell_alloc_keep (.cells #[.int .i64 l.nb, .int .i64 l.nr, .slice H l.hk.length ch, .slice P l.pt.length cp, .slice (some ⟨g, 0, none⟩) m m] 189) (cell_of_ans hb k5)
  clear hT hb HS k0 k2 k3
  unfold BV
  go_wp2_with (go_at_call 94; refine (HWI.out _).mono ?_; rintro e w2 ⟨rfl, rfl⟩)
  have HBA : Hid (Below w1.heap.size w1 (w1.alloc (.cells #[.int .i64 l.nb, .int .i64 l.nr, .slice H l.hk.length ch, .slice P l.pt.length cp, .slice (some ⟨g, 0, none⟩) m m] 189))) := (Below.refl _ w1).alloc (Nat.le_refl _) _
  have HBW : Hid (Below w.heap.size w (w1.alloc (.cells #[.int .i64 l.nb, .int .i64 l.nr, .slice H l.hk.length ch, .slice P l.pt.length cp, .slice (some ⟨g, 0, none⟩) m m] 189))) := (HB.out.trans (HB1.out.mono HB.out.size)).trans (HBA.out.mono (Nat.le_trans HB.out.size HB1.out.size))
  have H95 := Lib.hid (reached95_c l H P ch cp g m s (w1.alloc (.cells #[.int .i64 l.nb, .int .i64 l.nr, .slice H l.hk.length ch, .slice P l.pt.length cp, .slice (some ⟨g, 0, none⟩) m m] 189)) HOK.out (HH.out.step HBW.out) (HTB.out.step HBA.out) HM.out HST.out)
  unfold BV at H95
  have hbx : (w1.alloc (.cells #[.int .i64 l.nb, .int .i64 l.nr, .slice H l.hk.length ch, .slice P l.pt.length cp, .slice (some ⟨g, 0, none⟩) m m] 189)).heap[w1.heap.size]? = some (.cells #[.int .i64 l.nb, .int .i64 l.nr, .slice H l.hk.length ch, .slice P l.pt.length cp, .slice (some ⟨g, 0, none⟩) m m] 189) := World.alloc_heap_new _ _
  generalize (w1.alloc (.cells #[.int .i64 l.nb, .int .i64 l.nr, .slice H l.hk.length ch, .slice P l.pt.length cp, .slice (some ⟨g, 0, none⟩) m m] 189)) = W2 at *
  refine H95.out.mono ?_
  rintro e w3 ⟨A3, c3, bs, gv, rfl, hb3, hl3, how3, hrow3⟩
  have hrm : r < m := by omega
  obtain ⟨bk, hbk⟩ : ∃ bk, bs[r]? = some bk := ⟨_, List.getElem?_eq_getElem (by omega)⟩
  obtain ⟨-, -, D, hD, hcan⟩ := hrow3 r bk hbk
  obtain ⟨bB, oB, rfl, cB⟩ := how3.at_ (j := r) (by omega)
  rw [(List.getElem?_eq_some_iff.1 hbk).2] at cB
  have hpw : 7 ^ r ≤ 2000000000 := by
    have h2 : 7 ^ r ≤ 7 ^ 11 := Nat.pow_le_pow_right (by omega) (by omega)
    have h3 : 7 ^ 11 = 1977326743 := by decide
    omega
  have H96 := Lib.hid (sorted96_c bk (7 ^ r) D w3 hD hpw)
  have HB3 := Lib.hid hb3
  have HCA := Lib.hid hcan
  have hrm2 : ((r : Nat) : Int) < (m : Int) := by omega
  have hr0 : (0 : Int) ≤ (r : Int) := by omega
  clear hb3 how3 hrow3 hbk hD hcan k1 k4 k5 hbx hwr
  go_wp2_with fail
  refine H96.out.mono ?_
  rintro e w4 ⟨A4, c4, us, rfl, hb4, hc4, hr4, hu4⟩
  have HBF : Hid (Below w.heap.size w w4) := (HBW.out.trans (HB3.out.mono HBW.out.size)).trans (hb4.mono (Nat.le_trans HBW.out.size HB3.out.size))
  have HC4 := Lib.hid hc4
  have HR4 := Lib.hid hr4
  have HU4 := Lib.hid (show ∀ v, Can l s r v → ∃ x ∈ us, x.1 = v from fun v hv => hu4 v (HCA.out v hv))
  clear hb4 hc4 hr4 hu4
  obtain ⟨z, hz⟩ : ∃ z : Nat, z = us.length := ⟨_, rfl⟩
  have HZ := Lib.hid hz
  rw [← hz]
  clear hz
  cases hz' : ((z : Int) == 0)
  rotate_left 1
  · go_wp2_with fail
    refine bodyPost_ret (v := .tuple #[.slice A4 z c4, .int .u8 2, .int .i64 0]) (by simp [results, Try.results40, go_sem]) rfl ?_
    exact ⟨A4, c4, 2, us, by rw [HZ.out], HBF.out, HC4.out, HR4.out, HU4.out⟩
  · skip
    by_cases hg : gv ≤ (r : Int)
    · have hg' : decide (gv ≤ (r : Int)) = true := decide_eq_true hg
      go_wp2_with fail
      refine bodyPost_ret (v := .tuple #[.slice A4 z c4, .int .u8 1, .int .i64 0]) (by simp [results, Try.results40, go_sem]) rfl ?_
      exact ⟨A4, c4, 1, us, by rw [HZ.out], HBF.out, HC4.out, HR4.out, HU4.out⟩
    · have hg' : decide (gv ≤ (r : Int)) = false := decide_eq_false hg
      go_wp2_with fail
      refine bodyPost_ret (v := .tuple #[.slice A4 z c4, .int .u8 0, .int .i64 0]) (by simp [results, Try.results40, go_sem]) rfl ?_
      exact ⟨A4, c4, 0, us, by rw [HZ.out], HBF.out, HC4.out, HR4.out, HU4.out⟩
end Go.Proofs.Ytenpiinkbfancaa.Pa
