/-
  Kind; straight balls: over, converts, ProveConvert.
-/
import Derived.Test.YtpekajnjjhibjaaJn
namespace Go.Proofs.Ytpekajnjjhibjaa
open Go.RowKit
set_option linter.unusedSimpArgs false
set_option linter.unusedVariables false

theorem pinS_pn {r : Rk} {xs : List Int} (h : pinErr r xs = 0) (z : Nat) (hz : (pinS r xs).testBit z = true) : z < pn r.rows := by
  unfold pinS at hz
  rw [if_pos h, mem_ofS] at hz
  exact (pins_nats h).2.2 z hz
noncomputable def kindV (r : Rk) (xs : List Int) : Nat := if pinErr r xs = 0 then kindS (pinS r xs) else 0

set_option maxHeartbeats 4000000 in
theorem Kind_c (r : Rk) (A xA : Option Addr) (c cx : Nat) (xs : List Int) (w : World) (hl : Lks w.heap.size w A r.links) (hc : r.links.length ≤ c ∧ c ≤ 9223372036854775807) (hx : Ints w.heap.size w xA xs) (hcx : xs.length ≤ cx ∧ cx ≤ 9223372036854775807) :
    Calls Try.prog 37 #[.agg #[.int .i64 r.rows, .int .i64 r.mid, .int .i64 r.gap, .int .i64 r.reach, .slice A r.links.length c], .slice xA xs.length cx] w (Ans w (.tuple #[.int .u8 (kindV r xs : Int), .int .i64 (pinErr r xs)])) := by
  have HB := Lib.hid (Below.refl w.heap.size w)
  have HL := Lib.hid hl
  have HX := Lib.hid hx
  clear hl hx
  have hb : Below w.heap.size w (w.alloc (.cells #[.int .i64 r.rows, .int .i64 r.mid, .int .i64 r.gap, .int .i64 r.reach, .slice A r.links.length c] 39)) := (Below.refl _ _).alloc (Nat.le_refl _) _
  replace HL := Lib.hid (HL.out.step hb)
  replace HX := Lib.hid (HX.out.step hb)
  replace HB := Lib.hid (HB.out.trans (hb.mono HB.out.size))
  clear hb
  have k0 : (w.alloc (.cells #[.int .i64 r.rows, .int .i64 r.mid, .int .i64 r.gap, .int .i64 r.reach, .slice A r.links.length c] 39)).cell? ⟨w.heap.size, 0, none⟩ = some (.int .i64 r.rows) := by simp
  have k1 : (w.alloc (.cells #[.int .i64 r.rows, .int .i64 r.mid, .int .i64 r.gap, .int .i64 r.reach, .slice A r.links.length c] 39)).cell? ⟨w.heap.size, 1, none⟩ = some (.int .i64 r.mid) := by simp
  have k2 : (w.alloc (.cells #[.int .i64 r.rows, .int .i64 r.mid, .int .i64 r.gap, .int .i64 r.reach, .slice A r.links.length c] 39)).cell? ⟨w.heap.size, 2, none⟩ = some (.int .i64 r.gap) := by simp
  have k3 : (w.alloc (.cells #[.int .i64 r.rows, .int .i64 r.mid, .int .i64 r.gap, .int .i64 r.reach, .slice A r.links.length c] 39)).cell? ⟨w.heap.size, 3, none⟩ = some (.int .i64 r.reach) := by simp
  have k4 : (w.alloc (.cells #[.int .i64 r.rows, .int .i64 r.mid, .int .i64 r.gap, .int .i64 r.reach, .slice A r.links.length c] 39)).cell? ⟨w.heap.size, 4, none⟩ = some (.slice A r.links.length c) := by simp
  have HKV : Hid (kindV r xs = if pinErr r xs = 0 then kindS (pinS r xs) else 0) := rfl
  by_cases he : pinErr r xs = 0
  · rw [if_pos he] at HKV
    have hr := rackOk (pinErr_rack he)
    have hpl := pinS_lt (r := r) (xs := xs)
    have HPP : Hid (∀ z, (pinS r xs).testBit z = true → z < pn r.rows) := fun z hz => pinS_pn he z hz
    go_enter Try.func37, Try.ntmps37
    go_wp2_with fail
    generalize (w.alloc (.cells #[.int .i64 r.rows, .int .i64 r.mid, .int .i64 r.gap, .int .i64 r.reach, .slice A r.links.length c] 39)) = x1 at *
    refine (pinned_c r A xA c cx xs _ HL.out hc HX.out hcx).mono ?_
    rw [he]
    rintro e x1 ⟨rfl, hb⟩
    replace HL := Lib.hid (HL.out.step hb)
    replace HX := Lib.hid (HX.out.step hb)
    replace k0 := cell_of_ans hb k0
    replace k1 := cell_of_ans hb k1
    replace k2 := cell_of_ans hb k2
    replace k3 := cell_of_ans hb k3
    replace k4 := cell_of_ans hb k4
    replace HB := Lib.hid (HB.out.trans (hb.mono HB.out.size))
    clear hb
    generalize pinS r xs = pins at *
    have HE := Lib.hid he
    clear he
    go_wp2_with fail
    refine (kind_c r A c pins _ hr hpl HPP.out).mono ?_
    rintro e x2 ⟨rfl, hb⟩
    replace HL := Lib.hid (HL.out.step hb)
    replace HX := Lib.hid (HX.out.step hb)
    replace k0 := cell_of_ans hb k0
    replace k1 := cell_of_ans hb k1
    replace k2 := cell_of_ans hb k2
    replace k3 := cell_of_ans hb k3
    replace k4 := cell_of_ans hb k4
    replace HB := Lib.hid (HB.out.trans (hb.mono HB.out.size))
    clear hb
    go_wp2_with fail
    refine bodyPost_ret (results_tmp2 rfl _ _ _) rfl ?_
    exact ⟨by rw [HKV.out, HE.out]; rfl, HB.out⟩
  · rw [if_neg he] at HKV
    have hne : (pinErr r xs != 0) = true := by simp [he]
    clear he
    go_enter Try.func37, Try.ntmps37
    go_wp2_with fail
    generalize (w.alloc (.cells #[.int .i64 r.rows, .int .i64 r.mid, .int .i64 r.gap, .int .i64 r.reach, .slice A r.links.length c] 39)) = x1 at *
    refine (pinned_c r A xA c cx xs _ HL.out hc HX.out hcx).mono ?_
    rintro e x3 ⟨rfl, hb⟩
    replace HL := Lib.hid (HL.out.step hb)
    replace HX := Lib.hid (HX.out.step hb)
    replace k0 := cell_of_ans hb k0
    replace k1 := cell_of_ans hb k1
    replace k2 := cell_of_ans hb k2
    replace k3 := cell_of_ans hb k3
    replace k4 := cell_of_ans hb k4
    replace HB := Lib.hid (HB.out.trans (hb.mono HB.out.size))
    clear hb
    go_wp2_with fail
    refine bodyPost_ret (results_tmp2 rfl _ _ _) rfl ?_
    exact ⟨by rw [HKV.out]; rfl, HB.out⟩

/-- The boards of a straight ball; those that are worked out so far. -/
def ovF (st dr : Int) (j : Nat) : Int := st + (j : Int) * dr
def ovT (st dr : Int) (k j : Nat) : Int := if j < k then ovF st dr j else 0
theorem At4.setO {W : World} {q k : Nat} {st dr : Int} (h : At4 W q (ovT st dr k)) (hk : k < 4) : At4 (W.setCell ⟨q, k, none⟩ (.int .i64 (ovF st dr k))) q (ovT st dr (k + 1)) := by
  unfold At4 at h ⊢
  rcases (by omega : k = 0 ∨ k = 1 ∨ k = 2 ∨ k = 3) with rfl | rfl | rfl | rfl <;> simp [World.setCell, Array.getElem?_modify, h, ovT]

set_option maxRecDepth 100000 in
set_option maxHeartbeats 4000000 in
theorem over_c (st dr : Int) (w : World) (h1 : -1000 ≤ st) (h2 : st ≤ 1000) (h3 : -100 ≤ dr) (h4 : dr ≤ 100) :
    Calls Try.prog 94 #[.agg #[.int .i64 st, .int .i64 dr]] w (Ans w (.agg #[.int .i64 (ovF st dr 0), .int .i64 (ovF st dr 1), .int .i64 (ovF st dr 2), .int .i64 (ovF st dr 3)])) := by
  have HB := Lib.hid (Below.refl w.heap.size w)
  have hb : Below w.heap.size w (w.alloc (.cells #[.int .i64 st, .int .i64 dr] 51)) := (Below.refl _ _).alloc (Nat.le_refl _) _
  replace HB := Lib.hid (HB.out.trans (hb.mono HB.out.size))
  clear hb
  have s0 : (w.alloc (.cells #[.int .i64 st, .int .i64 dr] 51)).cell? ⟨w.heap.size, 0, none⟩ = some (.int .i64 st) := by simp
  have s1 : (w.alloc (.cells #[.int .i64 st, .int .i64 dr] 51)).cell? ⟨w.heap.size, 1, none⟩ = some (.int .i64 dr) := by simp
  have hb : Below (w.alloc (.cells #[.int .i64 st, .int .i64 dr] 51)).heap.size (w.alloc (.cells #[.int .i64 st, .int .i64 dr] 51)) ((w.alloc (.cells #[.int .i64 st, .int .i64 dr] 51)).alloc (.cells #[.int .i64 0, .int .i64 0, .int .i64 0, .int .i64 0] 129)) := (Below.refl _ _).alloc (Nat.le_refl _) _
  replace s0 := cell_of_ans hb s0
  replace s1 := cell_of_ans hb s1
  replace HB := Lib.hid (HB.out.trans (hb.mono HB.out.size))
  clear hb
  have HA : Hid (At4 ((w.alloc (.cells #[.int .i64 st, .int .i64 dr] 51)).alloc (.cells #[.int .i64 0, .int .i64 0, .int .i64 0, .int .i64 0] 129)) (w.heap.size + 1) (ovT st dr 0)) := by show At4 _ _ _; unfold At4; rw [show w.heap.size + 1 = (w.alloc (.cells #[.int .i64 st, .int .i64 dr] 51)).heap.size by simp]; exact World.alloc_heap_new _ _
  go_enter Try.func94, Try.ntmps94
  go_wp2_with fail
  generalize ((w.alloc (.cells #[.int .i64 st, .int .i64 dr] 51)).alloc (.cells #[.int .i64 0, .int .i64 0, .int .i64 0, .int .i64 0] 129)) = x2 at *
  go_loopw [4] (fun i wr => ∃ k : Nat, k ≤ 4 ∧ i = .int .i64 k ∧ At4 wr (w.heap.size + 1) (ovT st dr k) ∧ x2.grownBy wr (some (w.heap.size + 1))) (fun i _ => 4 - (intOf i).toNat)
  case atStart => exact ⟨0, by omega, rfl, HA.out, World.grownBy.refl _ _⟩
  case round =>
    obtain ⟨k, hk, rfl, h4, hg⟩ := hrel
    have H4 := Lib.hid h4
    have HG := Lib.hid hg
    have t0 := hg.cell s0 (by simp)
    have t1 := hg.cell s1 (by simp)
    have hqlt : w.heap.size + 1 < wr.heap.size := (Array.getElem?_eq_some_iff.1 h4).1
    clear h4 hg
    by_cases h1 : k < 4
    · obtain ⟨-, zc, zf⟩ := H4.out.cells
      have zk := zc k h1
      have zfk := zf k
      have h1i : (k : Int) < 4 := by omega
      have hm1 : -400 ≤ (k : Int) * dr ∧ (k : Int) * dr ≤ 400 := by
        rcases (by omega : k = 0 ∨ k = 1 ∨ k = 2 ∨ k = 3) with rfl | rfl | rfl | rfl <;> simp <;> omega
      have hw1 : IntKind.i64.wrap ((k : Int) * dr) = (k : Int) * dr := IntWalk.i64_in _ (by omega)
      have hw2 : IntKind.i64.wrap (st + (k : Int) * dr) = st + (k : Int) * dr := IntWalk.i64_in _ (by omega)
      have HS := Lib.hid (H4.out.setO h1)
      clear zc zf hm1
      go_wp2_with fail
      go_roundw
      case rel => exact ⟨k + 1, by omega, by go_num, HS.out, HG.out.trans (only_setCell (World.grownBy.refl _ _) (.inl rfl) _)⟩
      case measure => simp [intOf]; omega
    · obtain rfl : k = 4 := by omega
      obtain ⟨⟨z0, z1, z2, z3⟩, -, zf⟩ := H4.out.cells
      have f0 := zf 0
      have f1 := zf 1
      have f2 := zf 2
      have f3 := zf 3
      have HBE : Hid (Below w.heap.size w wr) := HB.out.grown HG.out HB.out.size (fun k e => by injection e with e; omega)
      have HZ : Hid (At4 ((((wr.setCell ⟨w.heap.size + 1, 0, none⟩ (.int .i64 (ovF st dr 0))).setCell ⟨w.heap.size + 1, 1, none⟩ (.int .i64 (ovF st dr 1))).setCell ⟨w.heap.size + 1, 2, none⟩ (.int .i64 (ovF st dr 2))).setCell ⟨w.heap.size + 1, 3, none⟩ (.int .i64 (ovF st dr 3))) (w.heap.size + 1) (ovF st dr)) := by
        have h := H4.out
        show At4 _ _ _
        unfold At4 at h ⊢
        simp [World.setCell, Array.getElem?_modify, h]
      have HBF : Hid (Below w.heap.size w ((((wr.setCell ⟨w.heap.size + 1, 0, none⟩ (.int .i64 (ovF st dr 0))).setCell ⟨w.heap.size + 1, 1, none⟩ (.int .i64 (ovF st dr 1))).setCell ⟨w.heap.size + 1, 2, none⟩ (.int .i64 (ovF st dr 2))).setCell ⟨w.heap.size + 1, 3, none⟩ (.int .i64 (ovF st dr 3)))) := (((HBE.out.setCell (by simp) _).setCell (by simp) _).setCell (by simp) _).setCell (by simp) _
      clear zf t0 t1 s0 s1
      replace z0 : wr.cell? ⟨w.heap.size + 1, 0, none⟩ = some (.int .i64 (ovF st dr 0)) := z0
      replace z1 : wr.cell? ⟨w.heap.size + 1, 1, none⟩ = some (.int .i64 (ovF st dr 1)) := z1
      replace z2 : wr.cell? ⟨w.heap.size + 1, 2, none⟩ = some (.int .i64 (ovF st dr 2)) := z2
      replace z3 : wr.cell? ⟨w.heap.size + 1, 3, none⟩ = some (.int .i64 (ovF st dr 3)) := z3
      generalize hv0 : ovF st dr 0 = v0 at *
      have HV0 := Lib.hid hv0
      clear hv0
      generalize hv1 : ovF st dr 1 = v1 at *
      have HV1 := Lib.hid hv1
      clear hv1
      generalize hv2 : ovF st dr 2 = v2 at *
      have HV2 := Lib.hid hv2
      clear hv2
      generalize hv3 : ovF st dr 3 = v3 at *
      have HV3 := Lib.hid hv3
      clear hv3
      go_wp2_with fail
      generalize ((((wr.setCell ⟨w.heap.size + 1, 0, none⟩ (.int .i64 v0)).setCell ⟨w.heap.size + 1, 1, none⟩ (.int .i64 v1)).setCell ⟨w.heap.size + 1, 2, none⟩ (.int .i64 v2)).setCell ⟨w.heap.size + 1, 3, none⟩ (.int .i64 v3)) = W9 at *
      obtain ⟨⟨y0, y1, y2, y3⟩, -, -⟩ := HZ.out.cells
      rw [HV0.out] at y0
      rw [HV1.out] at y1
      rw [HV2.out] at y2
      rw [HV3.out] at y3
      refine bodyPost_ret (v := .agg #[.int .i64 v0, .int .i64 v1, .int .i64 v2, .int .i64 v3]) (by simp [results, Try.results94, go_sem, y0, y1, y2, y3]) rfl ?_
      exact ⟨rfl, HBF.out⟩

/-- Does a straight ball fell all that stand? -/
noncomputable def convB (r : Rk) (pins : Nat) (st dr : Int) (cf : Nat → Bool) : Bool := decide (felledS r pins (ovF st dr) cf = pins)

set_option maxRecDepth 100000 in
set_option maxHeartbeats 8000000 in
theorem converts_c (r : Rk) (A : Option Addr) (c pins g : Nat) (st dr : Int) (cf : Nat → Bool) (w : World) (hr : Ok r) (hp : pins < 2 ^ 10) (h1 : 0 ≤ st) (h2 : st ≤ 60) (h3 : -3 ≤ dr) (h4 : dr ≤ 3) (hl : Lks w.heap.size w A r.links) (hc : r.links.length ≤ c ∧ c ≤ 9223372036854775807) (he : Enters g)
    (hg : ∀ i, i < r.links.length → ∀ W, Calls Try.prog g #[lV (lx r.links i), .int .i64 (i : Int), .int .i64 0] W (Ans W (.bool (cf i)))) :
    Calls Try.prog 64 #[.agg #[.int .i64 r.rows, .int .i64 r.mid, .int .i64 r.gap, .int .i64 r.reach, .slice A r.links.length c, .int .u16 (pins : Int)], .agg #[.int .i64 st, .int .i64 dr], .agg #[.func (.func g) #[] #[]]] w (Ans w (.bool (convB r pins st dr cf))) := by
  have HB := Lib.hid (Below.refl w.heap.size w)
  have HL := Lib.hid hl
  have HG := Lib.hid hg
  clear hl hg
  have hb : Below w.heap.size w (w.alloc (.cells #[.int .i64 r.rows, .int .i64 r.mid, .int .i64 r.gap, .int .i64 r.reach, .slice A r.links.length c, .int .u16 (pins : Int)] 102)) := (Below.refl _ _).alloc (Nat.le_refl _) _
  replace HL := Lib.hid (HL.out.step hb)
  replace HB := Lib.hid (HB.out.trans (hb.mono HB.out.size))
  clear hb
  have k0 : (w.alloc (.cells #[.int .i64 r.rows, .int .i64 r.mid, .int .i64 r.gap, .int .i64 r.reach, .slice A r.links.length c, .int .u16 (pins : Int)] 102)).cell? ⟨w.heap.size, 0, none⟩ = some (.int .i64 r.rows) := by simp
  have k1 : (w.alloc (.cells #[.int .i64 r.rows, .int .i64 r.mid, .int .i64 r.gap, .int .i64 r.reach, .slice A r.links.length c, .int .u16 (pins : Int)] 102)).cell? ⟨w.heap.size, 1, none⟩ = some (.int .i64 r.mid) := by simp
  have k2 : (w.alloc (.cells #[.int .i64 r.rows, .int .i64 r.mid, .int .i64 r.gap, .int .i64 r.reach, .slice A r.links.length c, .int .u16 (pins : Int)] 102)).cell? ⟨w.heap.size, 2, none⟩ = some (.int .i64 r.gap) := by simp
  have k3 : (w.alloc (.cells #[.int .i64 r.rows, .int .i64 r.mid, .int .i64 r.gap, .int .i64 r.reach, .slice A r.links.length c, .int .u16 (pins : Int)] 102)).cell? ⟨w.heap.size, 3, none⟩ = some (.int .i64 r.reach) := by simp
  have k4 : (w.alloc (.cells #[.int .i64 r.rows, .int .i64 r.mid, .int .i64 r.gap, .int .i64 r.reach, .slice A r.links.length c, .int .u16 (pins : Int)] 102)).cell? ⟨w.heap.size, 4, none⟩ = some (.slice A r.links.length c) := by simp
  have k5 : (w.alloc (.cells #[.int .i64 r.rows, .int .i64 r.mid, .int .i64 r.gap, .int .i64 r.reach, .slice A r.links.length c, .int .u16 (pins : Int)] 102)).cell? ⟨w.heap.size, 5, none⟩ = some (.int .u16 (pins : Int)) := by simp
  have hb : Below (w.alloc (.cells #[.int .i64 r.rows, .int .i64 r.mid, .int .i64 r.gap, .int .i64 r.reach, .slice A r.links.length c, .int .u16 (pins : Int)] 102)).heap.size (w.alloc (.cells #[.int .i64 r.rows, .int .i64 r.mid, .int .i64 r.gap, .int .i64 r.reach, .slice A r.links.length c, .int .u16 (pins : Int)] 102)) ((w.alloc (.cells #[.int .i64 r.rows, .int .i64 r.mid, .int .i64 r.gap, .int .i64 r.reach, .slice A r.links.length c, .int .u16 (pins : Int)] 102)).alloc (.cells #[.int .i64 st, .int .i64 dr] 51)) := (Below.refl _ _).alloc (Nat.le_refl _) _
  replace HL := Lib.hid (HL.out.step hb)
  replace k0 := cell_of_ans hb k0
  replace k1 := cell_of_ans hb k1
  replace k2 := cell_of_ans hb k2
  replace k3 := cell_of_ans hb k3
  replace k4 := cell_of_ans hb k4
  replace k5 := cell_of_ans hb k5
  replace HB := Lib.hid (HB.out.trans (hb.mono HB.out.size))
  clear hb
  have s0 : ((w.alloc (.cells #[.int .i64 r.rows, .int .i64 r.mid, .int .i64 r.gap, .int .i64 r.reach, .slice A r.links.length c, .int .u16 (pins : Int)] 102)).alloc (.cells #[.int .i64 st, .int .i64 dr] 51)).cell? ⟨w.heap.size + 1, 0, none⟩ = some (.int .i64 st) := by simp
  have s1 : ((w.alloc (.cells #[.int .i64 r.rows, .int .i64 r.mid, .int .i64 r.gap, .int .i64 r.reach, .slice A r.links.length c, .int .u16 (pins : Int)] 102)).alloc (.cells #[.int .i64 st, .int .i64 dr] 51)).cell? ⟨w.heap.size + 1, 1, none⟩ = some (.int .i64 dr) := by simp
  have hb : Below ((w.alloc (.cells #[.int .i64 r.rows, .int .i64 r.mid, .int .i64 r.gap, .int .i64 r.reach, .slice A r.links.length c, .int .u16 (pins : Int)] 102)).alloc (.cells #[.int .i64 st, .int .i64 dr] 51)).heap.size ((w.alloc (.cells #[.int .i64 r.rows, .int .i64 r.mid, .int .i64 r.gap, .int .i64 r.reach, .slice A r.links.length c, .int .u16 (pins : Int)] 102)).alloc (.cells #[.int .i64 st, .int .i64 dr] 51)) (((w.alloc (.cells #[.int .i64 r.rows, .int .i64 r.mid, .int .i64 r.gap, .int .i64 r.reach, .slice A r.links.length c, .int .u16 (pins : Int)] 102)).alloc (.cells #[.int .i64 st, .int .i64 dr] 51)).alloc (.cells #[.func (.func g) #[] #[]] 112)) := (Below.refl _ _).alloc (Nat.le_refl _) _
  replace HL := Lib.hid (HL.out.step hb)
  replace k0 := cell_of_ans hb k0
  replace k1 := cell_of_ans hb k1
  replace k2 := cell_of_ans hb k2
  replace k3 := cell_of_ans hb k3
  replace k4 := cell_of_ans hb k4
  replace k5 := cell_of_ans hb k5
  replace s0 := cell_of_ans hb s0
  replace s1 := cell_of_ans hb s1
  replace HB := Lib.hid (HB.out.trans (hb.mono HB.out.size))
  clear hb
  have c0 : (((w.alloc (.cells #[.int .i64 r.rows, .int .i64 r.mid, .int .i64 r.gap, .int .i64 r.reach, .slice A r.links.length c, .int .u16 (pins : Int)] 102)).alloc (.cells #[.int .i64 st, .int .i64 dr] 51)).alloc (.cells #[.func (.func g) #[] #[]] 112)).cell? ⟨w.heap.size + 1 + 1, 0, none⟩ = some (.func (.func g) #[] #[]) := by go_simp
  have HR : Hid (convB r pins st dr cf = decide (felledS r pins (ovF st dr) cf = pins)) := rfl
  have hfl := felledS_lt (r := r) (b := ovF st dr) (c := cf) hp
  have HFC : Hid (∀ W, Lks W.heap.size W A r.links → Calls Try.prog 77 #[.agg #[.int .i64 r.rows, .int .i64 r.mid, .int .i64 r.gap, .int .i64 r.reach, .slice A r.links.length c, .int .u16 (pins : Int)], .agg #[.int .i64 (ovF st dr 0), .int .i64 (ovF st dr 1), .int .i64 (ovF st dr 2), .int .i64 (ovF st dr 3)], .agg #[.func (.func g) #[] #[]], .int .i64 0] W (Ans W (.int .u16 (felledS r pins (ovF st dr) cf : Int)))) := fun W h => felled_c r A c pins g 0 (ovF st dr) cf W hr hp (fun k hk => by
    have := hr.rows4
    unfold ovF
    rcases (by omega : k = 0 ∨ k = 1 ∨ k = 2 ∨ k = 3) with rfl | rfl | rfl | rfl <;> omega) h hc he HG.out
  have HOV : Hid (∀ W, Calls Try.prog 94 #[.agg #[.int .i64 st, .int .i64 dr]] W (Ans W (.agg #[.int .i64 (ovF st dr 0), .int .i64 (ovF st dr 1), .int .i64 (ovF st dr 2), .int .i64 (ovF st dr 3)]))) := fun W => over_c st dr W (by omega) (by omega) (by omega) (by omega)
  generalize felledS r pins (ovF st dr) cf = F at *
  generalize ovF st dr 0 = v0 at *
  generalize ovF st dr 1 = v1 at *
  generalize ovF st dr 2 = v2 at *
  generalize ovF st dr 3 = v3 at *
  go_enter Try.func64, Try.ntmps64
  go_upto_region 1 with fail
  try simp only [World.size_alloc]
  generalize (((w.alloc (.cells #[.int .i64 r.rows, .int .i64 r.mid, .int .i64 r.gap, .int .i64 r.reach, .slice A r.links.length c, .int .u16 (pins : Int)] 102)).alloc (.cells #[.int .i64 st, .int .i64 dr] 51)).alloc (.cells #[.func (.func g) #[] #[]] 112)) = x3 at *
  have hd : Below x3.heap.size x3 x3.drew := (Below.refl _ _).drew
  replace HL := Lib.hid (HL.out.step hd)
  replace HB := Lib.hid (HB.out.trans (hd.mono HB.out.size))
  clear hd
  go_region_held3 (fun w' => w'.cell? ⟨w.heap.size, 0, none⟩ = some (.int .i64 r.rows) ∧ w'.cell? ⟨w.heap.size, 1, none⟩ = some (.int .i64 r.mid) ∧ w'.cell? ⟨w.heap.size, 2, none⟩ = some (.int .i64 r.gap) ∧ w'.cell? ⟨w.heap.size, 3, none⟩ = some (.int .i64 r.reach) ∧ w'.cell? ⟨w.heap.size, 4, none⟩ = some (.slice A r.links.length c) ∧ w'.cell? ⟨w.heap.size, 5, none⟩ = some (.int .u16 (pins : Int)) ∧ w'.cell? ⟨w.heap.size + 1, 0, none⟩ = some (.int .i64 st) ∧ w'.cell? ⟨w.heap.size + 1, 1, none⟩ = some (.int .i64 dr) ∧ w'.cell? ⟨w.heap.size + 1 + 1, 0, none⟩ = some (.func (.func g) #[] #[])) (go_keep) (first | (go_at_call 94; refine (HOV.out _).mono ?_; rintro e x8 ⟨rfl, hb⟩; replace HL := Lib.hid (HL.out.step hb); replace k0 := cell_of_ans (below_drew_l hb) k0; replace k1 := cell_of_ans (below_drew_l hb) k1; replace k2 := cell_of_ans (below_drew_l hb) k2; replace k3 := cell_of_ans (below_drew_l hb) k3; replace k4 := cell_of_ans (below_drew_l hb) k4; replace k5 := cell_of_ans (below_drew_l hb) k5; replace s0 := cell_of_ans (below_drew_l hb) s0; replace s1 := cell_of_ans (below_drew_l hb) s1; replace c0 := cell_of_ans (below_drew_l hb) c0; replace HB := Lib.hid (HB.out.trans (hb.mono HB.out.size)); clear hb) | (go_at_call 77; refine (HFC.out _ HL.out).mono ?_; rintro e x9 ⟨rfl, hb⟩; replace HL := Lib.hid (HL.out.step hb); replace k0 := cell_of_ans hb k0; replace k1 := cell_of_ans hb k1; replace k2 := cell_of_ans hb k2; replace k3 := cell_of_ans hb k3; replace k4 := cell_of_ans hb k4; replace k5 := cell_of_ans hb k5; replace s0 := cell_of_ans hb s0; replace s1 := cell_of_ans hb s1; replace c0 := cell_of_ans hb c0; replace HB := Lib.hid (HB.out.trans (hb.mono HB.out.size)); clear hb))
  have HQ : Hid (((F : Int) == (pins : Int)) = decide (F = pins)) := by show _ = _; by_cases e : F = pins <;> simp [e]; omega
  go_wp2_with fail
  go_ret
  exact ⟨ret_bool (by rw [HR.out]; exact HQ.out), HB.out⟩
end Go.Proofs.Ytpekajnjjhibjaa
