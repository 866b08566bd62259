/-
  Census.
-/
import Derived.Test.YtpekajnjjhibjaaCensM
namespace Go.Proofs.Ytpekajnjjhibjaa
open Go.RowKit
set_option linter.unusedSimpArgs false
set_option linter.unusedVariables false

attribute [local go_sem] Oper.semAt_some
def AtC (W : World) (q : Nat) (f : Nat → Int) : Prop := W.heap[q]? = some (.cells #[.int .i64 (f 0), .int .i64 (f 1), .int .i64 (f 2), .int .i64 (f 3), .int .i64 (f 4)] 75)
theorem AtC.lt {W : World} {q : Nat} {f : Nat → Int} (h : AtC W q f) : q < W.heap.size := (Array.getElem?_eq_some_iff.1 h).1
theorem AtC.step {W W' : World} {q : Nat} {f : Nat → Int} (h : AtC W q f) (hb : Below W.heap.size W W') : AtC W' q f := (hb.block q h.lt).trans h
theorem AtC.cells {W : World} {q : Nat} {f : Nat → Int} (h : AtC W q f) : (W.cell? ⟨q, 0, none⟩ = some (.int .i64 (f 0)) ∧ W.cell? ⟨q, 1, none⟩ = some (.int .i64 (f 1)) ∧ W.cell? ⟨q, 2, none⟩ = some (.int .i64 (f 2)) ∧ W.cell? ⟨q, 3, none⟩ = some (.int .i64 (f 3)) ∧ W.cell? ⟨q, 4, none⟩ = some (.int .i64 (f 4))) ∧ (∀ j, j < 5 → W.cell? ⟨q, j, none⟩ = some (.int .i64 (f j))) ∧ ∀ i, W.frozen? ⟨q, i, none⟩ = false := by
  unfold AtC at h
  refine ⟨by simp [World.cell?, h], fun j hj => ?_, by simp [World.frozen?, h]⟩
  rcases (by omega : j = 0 ∨ j = 1 ∨ j = 2 ∨ j = 3 ∨ j = 4) with rfl | rfl | rfl | rfl | rfl <;> simp [World.cell?, h]
noncomputable def cenI (n j : Nat) : Int := (cenF n j : Int)
theorem AtC.count {W : World} {q n : Nat} (h : AtC W q (cenI n)) : AtC (W.setCell ⟨q, kindS n, none⟩ (.int .i64 (cenI n (kindS n) + 1))) q (cenI (n + 1)) := by
  have hk := kindS_le n
  have hj : ∀ j, cenI (n + 1) j = if j = kindS n then cenI n j + 1 else cenI n j := fun j => by
    unfold cenI
    rw [cenF]
    split <;> simp
  unfold AtC at h ⊢
  rw [hj, hj, hj, hj, hj]
  generalize kindS n = k at *
  rcases (by omega : k = 0 ∨ k = 1 ∨ k = 2 ∨ k = 3 ∨ k = 4) with rfl | rfl | rfl | rfl | rfl <;> simp [World.setCell, Array.getElem?_modify, h]
theorem AtC.same {W : World} {q : Nat} {f : Nat → Int} (h : AtC W q f) : AtC (((((W.setCell ⟨q, 0, none⟩ (.int .i64 (f 0))).setCell ⟨q, 1, none⟩ (.int .i64 (f 1))).setCell ⟨q, 2, none⟩ (.int .i64 (f 2))).setCell ⟨q, 3, none⟩ (.int .i64 (f 3))).setCell ⟨q, 4, none⟩ (.int .i64 (f 4))) q f := by
  unfold AtC at h ⊢
  simp [World.setCell, Array.getElem?_modify, h]
noncomputable def cenV (r : Rk) (j : Nat) : Int := if rackErr r = 0 then cenI (2 ^ pn r.rows) j else 0
set_option maxRecDepth 100000 in
set_option maxHeartbeats 8000000 in
theorem census_c (r : Rk) (A : Option Addr) (c : Nat) (w : World) (hl : Lks w.heap.size w A r.links) (hc : r.links.length ≤ c ∧ c ≤ 9223372036854775807) :
    Calls Try.prog 38 #[.agg #[.int .i64 r.rows, .int .i64 r.mid, .int .i64 r.gap, .int .i64 r.reach, .slice A r.links.length c]] w (Ans w (.tuple #[.agg #[.int .i64 (cenV r 0), .int .i64 (cenV r 1), .int .i64 (cenV r 2), .int .i64 (cenV r 3), .int .i64 (cenV r 4)], .int .i64 (rackErr r)])) := by
  have HB := Lib.hid (Below.refl w.heap.size w)
  have HL := Lib.hid hl
  clear hl
  have hb : Below w.heap.size w (w.alloc (.cells #[.int .i64 r.rows, .int .i64 r.mid, .int .i64 r.gap, .int .i64 r.reach, .slice A r.links.length c] 39)) := (Below.refl _ _).alloc (Nat.le_refl _) _
  replace HL := Lib.hid (HL.out.step hb)
  replace HB := Lib.hid (HB.out.trans (hb.mono HB.out.size))
  clear hb
  have k0 : (w.alloc (.cells #[.int .i64 r.rows, .int .i64 r.mid, .int .i64 r.gap, .int .i64 r.reach, .slice A r.links.length c] 39)).cell? ⟨w.heap.size, 0, none⟩ = some (.int .i64 r.rows) := by simp
  have k1 : (w.alloc (.cells #[.int .i64 r.rows, .int .i64 r.mid, .int .i64 r.gap, .int .i64 r.reach, .slice A r.links.length c] 39)).cell? ⟨w.heap.size, 1, none⟩ = some (.int .i64 r.mid) := by simp
  have k2 : (w.alloc (.cells #[.int .i64 r.rows, .int .i64 r.mid, .int .i64 r.gap, .int .i64 r.reach, .slice A r.links.length c] 39)).cell? ⟨w.heap.size, 2, none⟩ = some (.int .i64 r.gap) := by simp
  have k3 : (w.alloc (.cells #[.int .i64 r.rows, .int .i64 r.mid, .int .i64 r.gap, .int .i64 r.reach, .slice A r.links.length c] 39)).cell? ⟨w.heap.size, 3, none⟩ = some (.int .i64 r.reach) := by simp
  have k4 : (w.alloc (.cells #[.int .i64 r.rows, .int .i64 r.mid, .int .i64 r.gap, .int .i64 r.reach, .slice A r.links.length c] 39)).cell? ⟨w.heap.size, 4, none⟩ = some (.slice A r.links.length c) := by simp
  have hb : Below (w.alloc (.cells #[.int .i64 r.rows, .int .i64 r.mid, .int .i64 r.gap, .int .i64 r.reach, .slice A r.links.length c] 39)).heap.size (w.alloc (.cells #[.int .i64 r.rows, .int .i64 r.mid, .int .i64 r.gap, .int .i64 r.reach, .slice A r.links.length c] 39)) ((w.alloc (.cells #[.int .i64 r.rows, .int .i64 r.mid, .int .i64 r.gap, .int .i64 r.reach, .slice A r.links.length c] 39)).alloc (.cells #[.int .i64 0, .int .i64 0, .int .i64 0, .int .i64 0, .int .i64 0] 75)) := (Below.refl _ _).alloc (Nat.le_refl _) _
  replace HL := Lib.hid (HL.out.step hb)
  replace k0 := cell_of_ans hb k0
  replace k1 := cell_of_ans hb k1
  replace k2 := cell_of_ans hb k2
  replace k3 := cell_of_ans hb k3
  replace k4 := cell_of_ans hb k4
  replace HB := Lib.hid (HB.out.trans (hb.mono HB.out.size))
  clear hb
  have HQ : Hid (AtC ((w.alloc (.cells #[.int .i64 r.rows, .int .i64 r.mid, .int .i64 r.gap, .int .i64 r.reach, .slice A r.links.length c] 39)).alloc (.cells #[.int .i64 0, .int .i64 0, .int .i64 0, .int .i64 0, .int .i64 0] 75)) (w.heap.size + 1) (fun _ => 0)) := by show AtC _ _ _; unfold AtC; rw [show w.heap.size + 1 = (w.alloc (.cells #[.int .i64 r.rows, .int .i64 r.mid, .int .i64 r.gap, .int .i64 r.reach, .slice A r.links.length c] 39)).heap.size by simp]; exact World.alloc_heap_new _ _
  by_cases he : rackErr r = 0
  · have hr := rackOk he
    have hpn := pn_le hr.rows1 hr.rows4
    have HCV : Hid (∀ j, cenV r j = cenI (2 ^ pn r.rows) j) := fun j => by rw [cenV, if_pos he]
    go_enter Try.func38, Try.ntmps38
    go_wp2_with fail
    generalize ((w.alloc (.cells #[.int .i64 r.rows, .int .i64 r.mid, .int .i64 r.gap, .int .i64 r.reach, .slice A r.links.length c] 39)).alloc (.cells #[.int .i64 0, .int .i64 0, .int .i64 0, .int .i64 0, .int .i64 0] 75)) = x2 at *
    generalize hq : w.heap.size + 1 = q at *
    have hqw : w.heap.size < q := by omega
    clear hq
    refine (checkRack_c r A c _ HL.out hc).mono ?_
    rw [he]
    rintro e x3 ⟨rfl, hb⟩
    replace HL := Lib.hid (HL.out.step hb)
    replace k0 := cell_of_ans hb k0
    replace k1 := cell_of_ans hb k1
    replace k2 := cell_of_ans hb k2
    replace k3 := cell_of_ans hb k3
    replace k4 := cell_of_ans hb k4
    replace HQ := Lib.hid (HQ.out.step hb)
    replace HB := Lib.hid (HB.out.trans (hb.mono HB.out.size))
    clear hb
    go_wp2_with fail
    refine (pins_c r.rows r.mid r.gap r.reach A r.links.length c _ hr.rows1 hr.rows4).mono ?_
    rintro e x4 ⟨rfl, hb⟩
    replace HL := Lib.hid (HL.out.step hb)
    replace k0 := cell_of_ans hb k0
    replace k1 := cell_of_ans hb k1
    replace k2 := cell_of_ans hb k2
    replace k3 := cell_of_ans hb k3
    replace k4 := cell_of_ans hb k4
    replace HQ := Lib.hid (HQ.out.step hb)
    replace HB := Lib.hid (HB.out.trans (hb.mono HB.out.size))
    clear hb
    have hp2 : 2 ^ pn r.rows ≤ 1024 := Nat.le_trans (Nat.pow_le_pow_right (by omega) hpn.2) (by decide)
    have hsp : ∀ n, n < 2 ^ pn r.rows → ∀ z, n.testBit z = true → z < pn r.rows := fun n hn z hz => bit_lt hn hz
    have HKI := Lib.hid (fun (n : Nat) (hn : n < 2 ^ pn r.rows) (W : World) => kind_c r A c n W hr (Nat.lt_of_lt_of_le hn hp2) (hsp n hn))
    have HE : Hid (((2 : Int) ^ pn r.rows) = ((2 ^ pn r.rows : Nat) : Int)) := by show _ = _; simp
    obtain ⟨m, hm⟩ : ∃ m, m = 2 ^ pn r.rows := ⟨_, rfl⟩
    rw [← hm] at hp2 HCV HKI HE
    clear hm hsp
    have hsh : IntKind.i64.wrap ((2 : Int) ^ pn r.rows) = (m : Int) := by
      rw [HE.out]
      exact IntWalk.i64_in _ (by omega)
    clear HE
    go_wp2_with fail
    clear hsh
    have HQ4 := Lib.hid HQ.out
    have HB4 := Lib.hid HB.out
    have hlt0 := World.block_lt_of_cell? _ _ k0
    dsimp only at hlt0
    go_loopw [15, 5] (fun i s wr => ∃ k : Nat, k ≤ m ∧ i = .int .i64 k ∧ AtC wr q (cenI k) ∧ x4.grownBy wr (some q)) (fun i _ _ => m - (intOf i).toNat)
    case atStart => exact ⟨0, by omega, rfl, HQ.out, World.grownBy.refl _ _⟩
    case round =>
      clear HQ4 HQ HB
      obtain ⟨k, hk, rfl, h5, hg⟩ := hrel
      have H5 := Lib.hid h5
      have HG := Lib.hid hg
      have HBR : Hid (Below w.heap.size w wr) := HB4.out.grown HG.out HB4.out.size (fun k e => by injection e with e; omega)
      replace k0 := hg.cell k0 (by simp; omega)
      replace k1 := hg.cell k1 (by simp; omega)
      replace k2 := hg.cell k2 (by simp; omega)
      replace k3 := hg.cell k3 (by simp; omega)
      replace k4 := hg.cell k4 (by simp; omega)
      have hqlt : q < wr.heap.size := h5.lt
      clear h5 hg
      by_cases h1 : k < m
      · have h1i : (k : Int) < (m : Int) := by omega
        have hk10 : k < 1024 := by omega
        have hwu : IntKind.u16.wrap (k : Int) = (k : Int) := by rw [IntKind.wrap_u16]; omega
        have hwk : IntKind.i64.wrap ((k : Int) + 1) = (k : Int) + 1 := IntWalk.i64_in _ (by omega)
        go_wp2_with fail
        refine (HKI.out k h1 _).mono ?_
        rintro e wn ⟨rfl, hb⟩
        replace H5 := Lib.hid (H5.out.step hb)
        have HG2 : Hid (x4.grownBy wn (some q)) := HG.out.trans (only_below hb _)
        clear hb
        have hkl := kindS_le k
        have HC := Lib.hid H5.out.count
        obtain ⟨-, zc, zf⟩ := H5.out.cells
        have zk := zc (kindS k) (by omega)
        have zfk := zf (kindS k)
        have hcl := cenF_le k (kindS k)
        have hwc : IntKind.i64.wrap (cenI k (kindS k) + 1) = cenI k (kindS k) + 1 := IntWalk.i64_in _ (by unfold cenI; omega)
        have hki : (kindS k : Int) < 5 := by omega
        clear zc zf hcl k0 k1 k2 k3 k4
        generalize kindS k = kd at *
        generalize hcv : cenI k kd = cv at *
        clear hcv
        go_wp2_with fail
        go_roundw
        case rel => exact ⟨k + 1, by omega, by go_num, HC.out, HG2.out.trans (only_setCell (World.grownBy.refl _ _) (.inl rfl) _)⟩
        case measure => simp [intOf]; omega
      · obtain rfl : k = m := by omega
        have h1i : ¬ (k : Int) < (k : Int) := by omega
        clear k0 k1 k2 k3 k4
        obtain ⟨⟨z0, z1, z2, z3, z4⟩, -, zf⟩ := H5.out.cells
        have f0 := zf 0
        have f1 := zf 1
        have f2 := zf 2
        have f3 := zf 3
        have f4 := zf 4
        have HZ := Lib.hid H5.out.same
        have HBF : Hid (Below w.heap.size w (((((wr.setCell ⟨q, 0, none⟩ (.int .i64 ((cenI k) 0))).setCell ⟨q, 1, none⟩ (.int .i64 ((cenI k) 1))).setCell ⟨q, 2, none⟩ (.int .i64 ((cenI k) 2))).setCell ⟨q, 3, none⟩ (.int .i64 ((cenI k) 3))).setCell ⟨q, 4, none⟩ (.int .i64 ((cenI k) 4)))) := ((((HBR.out.setCell (by dsimp only; omega) _).setCell (by dsimp only; omega) _).setCell (by dsimp only; omega) _).setCell (by dsimp only; omega) _).setCell (by dsimp only; omega) _
        clear zf
        go_wp2_with fail
        generalize ((((wr.setCell ⟨q, 0, none⟩ (.int .i64 ((cenI k) 0))).setCell ⟨q, 1, none⟩ (.int .i64 ((cenI k) 1))).setCell ⟨q, 2, none⟩ (.int .i64 ((cenI k) 2))).setCell ⟨q, 3, none⟩ (.int .i64 ((cenI k) 3))).setCell ⟨q, 4, none⟩ (.int .i64 ((cenI k) 4)) = W9 at *
        obtain ⟨⟨y0, y1, y2, y3, y4⟩, -, -⟩ := HZ.out.cells
        refine bodyPost_ret (v := .tuple #[.agg #[.int .i64 ((cenI k) 0), .int .i64 ((cenI k) 1), .int .i64 ((cenI k) 2), .int .i64 ((cenI k) 3), .int .i64 ((cenI k) 4)], .int .i64 (0)]) (by simp [results, Try.results38, go_sem, y0, y1, y2, y3, y4]) rfl ?_
        exact ⟨by simp only [HCV.out, he], HBF.out⟩
  · have HCV : Hid (∀ j, cenV r j = 0) := fun j => by rw [cenV, if_neg he]
    have hne : (rackErr r != 0) = true := by simp [he]
    clear he
    go_enter Try.func38, Try.ntmps38
    go_wp2_with fail
    generalize ((w.alloc (.cells #[.int .i64 r.rows, .int .i64 r.mid, .int .i64 r.gap, .int .i64 r.reach, .slice A r.links.length c] 39)).alloc (.cells #[.int .i64 0, .int .i64 0, .int .i64 0, .int .i64 0, .int .i64 0] 75)) = x2 at *
    generalize hq : w.heap.size + 1 = q at *
    have hqw : w.heap.size < q := by omega
    clear hq
    refine (checkRack_c r A c _ HL.out hc).mono ?_
    rintro e x3 ⟨rfl, hb⟩
    replace HL := Lib.hid (HL.out.step hb)
    replace k0 := cell_of_ans hb k0
    replace k1 := cell_of_ans hb k1
    replace k2 := cell_of_ans hb k2
    replace k3 := cell_of_ans hb k3
    replace k4 := cell_of_ans hb k4
    replace HQ := Lib.hid (HQ.out.step hb)
    replace HB := Lib.hid (HB.out.trans (hb.mono HB.out.size))
    clear hb
    obtain ⟨⟨z0, z1, z2, z3, z4⟩, -, zf⟩ := HQ.out.cells
    have f0 := zf 0
    have f1 := zf 1
    have f2 := zf 2
    have f3 := zf 3
    have f4 := zf 4
    have HZ := Lib.hid HQ.out.same
    have HBF : Hid (Below w.heap.size w (((((x3.setCell ⟨q, 0, none⟩ (.int .i64 ((fun _ => (0 : Int)) 0))).setCell ⟨q, 1, none⟩ (.int .i64 ((fun _ => (0 : Int)) 1))).setCell ⟨q, 2, none⟩ (.int .i64 ((fun _ => (0 : Int)) 2))).setCell ⟨q, 3, none⟩ (.int .i64 ((fun _ => (0 : Int)) 3))).setCell ⟨q, 4, none⟩ (.int .i64 ((fun _ => (0 : Int)) 4)))) := ((((HB.out.setCell (by dsimp only; omega) _).setCell (by dsimp only; omega) _).setCell (by dsimp only; omega) _).setCell (by dsimp only; omega) _).setCell (by dsimp only; omega) _
    clear zf
    go_wp2_with fail
    generalize ((((x3.setCell ⟨q, 0, none⟩ (.int .i64 ((fun _ => (0 : Int)) 0))).setCell ⟨q, 1, none⟩ (.int .i64 ((fun _ => (0 : Int)) 1))).setCell ⟨q, 2, none⟩ (.int .i64 ((fun _ => (0 : Int)) 2))).setCell ⟨q, 3, none⟩ (.int .i64 ((fun _ => (0 : Int)) 3))).setCell ⟨q, 4, none⟩ (.int .i64 ((fun _ => (0 : Int)) 4)) = W9 at *
    obtain ⟨⟨y0, y1, y2, y3, y4⟩, -, -⟩ := HZ.out.cells
    refine bodyPost_ret (v := .tuple #[.agg #[.int .i64 ((fun _ => (0 : Int)) 0), .int .i64 ((fun _ => (0 : Int)) 1), .int .i64 ((fun _ => (0 : Int)) 2), .int .i64 ((fun _ => (0 : Int)) 3), .int .i64 ((fun _ => (0 : Int)) 4)], .int .i64 (rackErr r)]) (by simp [results, Try.results38, go_sem, y0, y1, y2, y3, y4]) rfl ?_
    exact ⟨by simp only [HCV.out], HBF.out⟩
end Go.Proofs.Ytpekajnjjhibjaa
