/-
  runs: can a race be settled?
-/
import Derived.Test.YtjokbffdepcpkaaRunsM
import Derived.Test.YtjokbffdepcpkaaShift
import Derived.Deep.QuietTactic
import Derived.BigQuiet
namespace Go.Proofs.Ytjokbffdepcpkaa
open Go.RowKit
set_option linter.unusedSimpArgs false
set_option linter.unusedVariables false

attribute [local go_sem] Oper.semAt_some
theorem gms_set {B : Nat} {w : World} {A : Option Addr} {ws : List Gm} (h : Gms B w A ws) {p : Addr} (hne : ∀ b off, A = some ⟨b, off, none⟩ → b ≠ p.block) (v : Value) : Gms B (w.setCell p v) A ws := fun hp => by
  obtain ⟨b, off, hA, hlt, hc⟩ := h hp
  have hn := (hne b off hA).symm
  refine ⟨b, off, hA, hlt, fun k hk => ?_⟩
  obtain ⟨c1, c2, c3, c4, c5⟩ := hc k hk
  exact ⟨cell_set_keep c1 hn, cell_set_keep c2 hn, cell_set_keep c3 hn, cell_set_keep c4 hn, cell_set_keep c5 hn⟩
theorem idx102_0 (x0 x1 x2 x3 x4 x5 : Value) (w : World) : (Instr.index 102 (.agg #[x0, x1, x2, x3, x4, x5]) (.int .i64 0)).run Try.prog w = .ok x0 w := by kernel_rfl
theorem idx102_1 (x0 x1 x2 x3 x4 x5 : Value) (w : World) : (Instr.index 102 (.agg #[x0, x1, x2, x3, x4, x5]) (.int .i64 1)).run Try.prog w = .ok x1 w := by kernel_rfl
theorem idx102_2 (x0 x1 x2 x3 x4 x5 : Value) (w : World) : (Instr.index 102 (.agg #[x0, x1, x2, x3, x4, x5]) (.int .i64 2)).run Try.prog w = .ok x2 w := by kernel_rfl
theorem idx102_3 (x0 x1 x2 x3 x4 x5 : Value) (w : World) : (Instr.index 102 (.agg #[x0, x1, x2, x3, x4, x5]) (.int .i64 3)).run Try.prog w = .ok x3 w := by kernel_rfl
theorem idx102_4 (x0 x1 x2 x3 x4 x5 : Value) (w : World) : (Instr.index 102 (.agg #[x0, x1, x2, x3, x4, x5]) (.int .i64 4)).run Try.prog w = .ok x4 w := by kernel_rfl
theorem idx102_5 (x0 x1 x2 x3 x4 x5 : Value) (w : World) : (Instr.index 102 (.agg #[x0, x1, x2, x3, x4, x5]) (.int .i64 5)).run Try.prog w = .ok x5 w := by kernel_rfl
set_option maxRecDepth 100000 in
set_option maxHeartbeats 16000000 in
theorem runs80_c (q tm : Nat) (rc : Int) (f : Nat → Int) (OA : Option Addr) (oc : Nat) (gs : List Gm) (Gv : Value) (R : Rc) (hR : R = ⟨6, gs.length, fun i => (gmx gs i).a.toNat, fun i => (gmx gs i).b.toNat, tm, rc⟩) (w : World) (hra : RaceAt w q (tm : Int) rc f (.slice OA gs.length oc) Gv) (hgm : Gms w.heap.size w OA gs) (hne : ∀ b off, OA = some ⟨b, off, none⟩ → b ≠ q)
    (hg6 : ∀ i, i < gs.length → 0 ≤ (gmx gs i).a ∧ (gmx gs i).a < 6 ∧ 0 ≤ (gmx gs i).b ∧ (gmx gs i).b < 6 ∧ (gmx gs i).a ≠ (gmx gs i).b) (htm : tm < 6) (hrc : 0 ≤ rc ∧ rc ≤ 60040) (hn : gs.length ≤ 20) (hoc : gs.length ≤ oc ∧ oc ≤ 9223372036854775807) (hf : ∀ u, 0 ≤ f u ∧ f u ≤ 60000) (hft : f tm ≤ rc) :
    Calls Try.prog 80 #[.pointer (some ⟨q, 0, none⟩)] w (RunsP R f q (.slice OA gs.length oc) w) := by
  have hb0 : Below w.heap.size w (w.alloc (.cells #[.int .i64 0, .int .i64 0, .int .i64 0, .int .i64 0, .int .i64 0, .int .i64 0] 102)) := (Below.refl _ _).alloc (Nat.le_refl _) _
  have HB0 := Lib.hid hb0
  have H60 : Hid (At6 (w.alloc (.cells #[.int .i64 0, .int .i64 0, .int .i64 0, .int .i64 0, .int .i64 0, .int .i64 0] 102)) w.heap.size 102 (fun _ => 0)) := World.alloc_heap_new _ _
  have HRA := Lib.hid (hra.step hb0)
  have HGM := Lib.hid (hgm.below hb0)
  have HQ := Lib.hid hra.lt
  have HRm : Hid (R.m = 6) := by rw [hR]; exact rfl
  have HRn : Hid (R.n = gs.length) := by rw [hR]; exact rfl
  have HRt : Hid (R.tm = tm) := by rw [hR]; exact rfl
  have HRc : Hid (R.rc = rc) := by rw [hR]; exact rfl
  have HOK : Hid R.Ok := fun i hi => by
    rw [hR] at hi ⊢
    obtain ⟨h1, h2, h3, h4, h5⟩ := hg6 i hi
    dsimp only
    omega
  have HR := Lib.hid hR
  have HFT := Lib.hid hft
  have HG6 := Lib.hid hg6
  have HNE := Lib.hid hne
  have HF := Lib.hid hf
  obtain ⟨y0, y1, y8, -, yf1, yf9⟩ := HRA.out.cells
  have s0 := HRA.out.sums (k := 0) (by omega)
  have s1 := HRA.out.sums (k := 1) (by omega)
  have s2 := HRA.out.sums (k := 2) (by omega)
  have s3 := HRA.out.sums (k := 3) (by omega)
  have s4 := HRA.out.sums (k := 4) (by omega)
  have s5 := HRA.out.sums (k := 5) (by omega)
  have HZ0 : Hid ((w.alloc (.cells #[.int .i64 0, .int .i64 0, .int .i64 0, .int .i64 0, .int .i64 0, .int .i64 0] 102)).heap.size = w.heap.size + 1) := by show _ = _; simp
  clear hb0 hra hgm hR hft hg6 hne hf y0 y1 y8 yf1 yf9
  go_enter Try.func80, Try.ntmps80
  go_wp2_with fail
  generalize (w.alloc (.cells #[.int .i64 0, .int .i64 0, .int .i64 0, .int .i64 0, .int .i64 0, .int .i64 0] 102)) = x0 at *
  clear s0 s1 s2 s3 s4 s5
  go_loopw [13] (fun i wr => ∃ k : Nat, k ≤ 6 ∧ i = .int .i64 k ∧ At6 wr w.heap.size 102 (fun j => if j < k then f j else 0) ∧ Below w.heap.size x0 wr ∧ wr.heap.size = w.heap.size + 1 ∧ ∀ u, u < k → f u ≤ rc) (fun i _ => 6 - (intOf i).toNat)
  case atStart => exact ⟨0, by omega, rfl, H60.out, Below.refl _ _, HZ0.out, fun u h => by omega⟩
  case round =>
    clear H60
    obtain ⟨k, hk, rfl, h6, hb, hz, hle⟩ := hrel
    have HLE := Lib.hid hle
    clear hle
    rcases (by omega : k = 0 ∨ k = 1 ∨ k = 2 ∨ k = 3 ∨ k = 4 ∨ k = 5 ∨ k = 6) with rfl | rfl | rfl | rfl | rfl | rfl | rfl
    · obtain ⟨hc, hff⟩ := h6.cell (k := 0) (by omega)
      have HH := Lib.hid h6
      have HBR := Lib.hid hb
      have HZ := Lib.hid hz
      have hqn : q ≠ w.heap.size := by have := HQ.out; omega
      have hle : w.heap.size ≤ wr.heap.size := by omega
      have r1 := ((HRA.out.low hb (show q < w.heap.size from HQ.out)).cells).2.1
      clear h6 hb hz
      have hix := fun W => idx102_0 (.int .i64 (f 0)) (.int .i64 (f 1)) (.int .i64 (f 2)) (.int .i64 (f 3)) (.int .i64 (f 4)) (.int .i64 (f 5)) W
      by_cases hgt : rc < f 0
      · have hnt : 0 ≠ tm := by rintro rfl; have := HFT.out; omega
        have HRO := Lib.hid (Rc.rules_one (R := R) (base := f) (t := 0) (by rw [HRm.out]; omega) (by rw [HRt.out]; exact hnt) HOK.out (by rw [HRc.out]; exact hgt))
        have HBF : Hid (Below q w wr) := (HB0.out.trans HBR.out).mono (Nat.le_of_lt HQ.out)
        go_wp2_with fail
        go_ret
        exact ⟨HBF.out.setCell (by have := HQ.out; dsimp only; omega) _, .inl ⟨rfl, _, HRO.out⟩⟩
      · go_wp2_with fail
        go_roundw
        case rel =>
          refine ⟨1, by omega, by go_num, ((HH.out.set (k := 0) (by omega) (f 0)).congr fun j hj => ?_), HBR.out.setCell (by dsimp only; omega) _, by simpa [World.setCell] using HZ.out, fun u hu => ?_⟩
          · unfold updI; dsimp only; (repeat' split) <;> first | rfl | (exfalso; omega) | (congr 1; omega)
          · by_cases e : u = 0
            · rw [e]; omega
            · exact HLE.out u (by omega)
        case measure => first | (simp [intOf]; done) | (simp [intOf]; omega)
    · obtain ⟨hc, hff⟩ := h6.cell (k := 1) (by omega)
      have HH := Lib.hid h6
      have HBR := Lib.hid hb
      have HZ := Lib.hid hz
      have hqn : q ≠ w.heap.size := by have := HQ.out; omega
      have hle : w.heap.size ≤ wr.heap.size := by omega
      have r1 := ((HRA.out.low hb (show q < w.heap.size from HQ.out)).cells).2.1
      clear h6 hb hz
      have hix := fun W => idx102_1 (.int .i64 (f 0)) (.int .i64 (f 1)) (.int .i64 (f 2)) (.int .i64 (f 3)) (.int .i64 (f 4)) (.int .i64 (f 5)) W
      by_cases hgt : rc < f 1
      · have hnt : 1 ≠ tm := by rintro rfl; have := HFT.out; omega
        have HRO := Lib.hid (Rc.rules_one (R := R) (base := f) (t := 1) (by rw [HRm.out]; omega) (by rw [HRt.out]; exact hnt) HOK.out (by rw [HRc.out]; exact hgt))
        have HBF : Hid (Below q w wr) := (HB0.out.trans HBR.out).mono (Nat.le_of_lt HQ.out)
        go_wp2_with fail
        go_ret
        exact ⟨HBF.out.setCell (by have := HQ.out; dsimp only; omega) _, .inl ⟨rfl, _, HRO.out⟩⟩
      · go_wp2_with fail
        go_roundw
        case rel =>
          refine ⟨2, by omega, by go_num, ((HH.out.set (k := 1) (by omega) (f 1)).congr fun j hj => ?_), HBR.out.setCell (by dsimp only; omega) _, by simpa [World.setCell] using HZ.out, fun u hu => ?_⟩
          · unfold updI; dsimp only; (repeat' split) <;> first | rfl | (exfalso; omega) | (congr 1; omega)
          · by_cases e : u = 1
            · rw [e]; omega
            · exact HLE.out u (by omega)
        case measure => first | (simp [intOf]; done) | (simp [intOf]; omega)
    · obtain ⟨hc, hff⟩ := h6.cell (k := 2) (by omega)
      have HH := Lib.hid h6
      have HBR := Lib.hid hb
      have HZ := Lib.hid hz
      have hqn : q ≠ w.heap.size := by have := HQ.out; omega
      have hle : w.heap.size ≤ wr.heap.size := by omega
      have r1 := ((HRA.out.low hb (show q < w.heap.size from HQ.out)).cells).2.1
      clear h6 hb hz
      have hix := fun W => idx102_2 (.int .i64 (f 0)) (.int .i64 (f 1)) (.int .i64 (f 2)) (.int .i64 (f 3)) (.int .i64 (f 4)) (.int .i64 (f 5)) W
      by_cases hgt : rc < f 2
      · have hnt : 2 ≠ tm := by rintro rfl; have := HFT.out; omega
        have HRO := Lib.hid (Rc.rules_one (R := R) (base := f) (t := 2) (by rw [HRm.out]; omega) (by rw [HRt.out]; exact hnt) HOK.out (by rw [HRc.out]; exact hgt))
        have HBF : Hid (Below q w wr) := (HB0.out.trans HBR.out).mono (Nat.le_of_lt HQ.out)
        go_wp2_with fail
        go_ret
        exact ⟨HBF.out.setCell (by have := HQ.out; dsimp only; omega) _, .inl ⟨rfl, _, HRO.out⟩⟩
      · go_wp2_with fail
        go_roundw
        case rel =>
          refine ⟨3, by omega, by go_num, ((HH.out.set (k := 2) (by omega) (f 2)).congr fun j hj => ?_), HBR.out.setCell (by dsimp only; omega) _, by simpa [World.setCell] using HZ.out, fun u hu => ?_⟩
          · unfold updI; dsimp only; (repeat' split) <;> first | rfl | (exfalso; omega) | (congr 1; omega)
          · by_cases e : u = 2
            · rw [e]; omega
            · exact HLE.out u (by omega)
        case measure => first | (simp [intOf]; done) | (simp [intOf]; omega)
    · obtain ⟨hc, hff⟩ := h6.cell (k := 3) (by omega)
      have HH := Lib.hid h6
      have HBR := Lib.hid hb
      have HZ := Lib.hid hz
      have hqn : q ≠ w.heap.size := by have := HQ.out; omega
      have hle : w.heap.size ≤ wr.heap.size := by omega
      have r1 := ((HRA.out.low hb (show q < w.heap.size from HQ.out)).cells).2.1
      clear h6 hb hz
      have hix := fun W => idx102_3 (.int .i64 (f 0)) (.int .i64 (f 1)) (.int .i64 (f 2)) (.int .i64 (f 3)) (.int .i64 (f 4)) (.int .i64 (f 5)) W
      by_cases hgt : rc < f 3
      · have hnt : 3 ≠ tm := by rintro rfl; have := HFT.out; omega
        have HRO := Lib.hid (Rc.rules_one (R := R) (base := f) (t := 3) (by rw [HRm.out]; omega) (by rw [HRt.out]; exact hnt) HOK.out (by rw [HRc.out]; exact hgt))
        have HBF : Hid (Below q w wr) := (HB0.out.trans HBR.out).mono (Nat.le_of_lt HQ.out)
        go_wp2_with fail
        go_ret
        exact ⟨HBF.out.setCell (by have := HQ.out; dsimp only; omega) _, .inl ⟨rfl, _, HRO.out⟩⟩
      · go_wp2_with fail
        go_roundw
        case rel =>
          refine ⟨4, by omega, by go_num, ((HH.out.set (k := 3) (by omega) (f 3)).congr fun j hj => ?_), HBR.out.setCell (by dsimp only; omega) _, by simpa [World.setCell] using HZ.out, fun u hu => ?_⟩
          · unfold updI; dsimp only; (repeat' split) <;> first | rfl | (exfalso; omega) | (congr 1; omega)
          · by_cases e : u = 3
            · rw [e]; omega
            · exact HLE.out u (by omega)
        case measure => first | (simp [intOf]; done) | (simp [intOf]; omega)
    · obtain ⟨hc, hff⟩ := h6.cell (k := 4) (by omega)
      have HH := Lib.hid h6
      have HBR := Lib.hid hb
      have HZ := Lib.hid hz
      have hqn : q ≠ w.heap.size := by have := HQ.out; omega
      have hle : w.heap.size ≤ wr.heap.size := by omega
      have r1 := ((HRA.out.low hb (show q < w.heap.size from HQ.out)).cells).2.1
      clear h6 hb hz
      have hix := fun W => idx102_4 (.int .i64 (f 0)) (.int .i64 (f 1)) (.int .i64 (f 2)) (.int .i64 (f 3)) (.int .i64 (f 4)) (.int .i64 (f 5)) W
      by_cases hgt : rc < f 4
      · have hnt : 4 ≠ tm := by rintro rfl; have := HFT.out; omega
        have HRO := Lib.hid (Rc.rules_one (R := R) (base := f) (t := 4) (by rw [HRm.out]; omega) (by rw [HRt.out]; exact hnt) HOK.out (by rw [HRc.out]; exact hgt))
        have HBF : Hid (Below q w wr) := (HB0.out.trans HBR.out).mono (Nat.le_of_lt HQ.out)
        go_wp2_with fail
        go_ret
        exact ⟨HBF.out.setCell (by have := HQ.out; dsimp only; omega) _, .inl ⟨rfl, _, HRO.out⟩⟩
      · go_wp2_with fail
        go_roundw
        case rel =>
          refine ⟨5, by omega, by go_num, ((HH.out.set (k := 4) (by omega) (f 4)).congr fun j hj => ?_), HBR.out.setCell (by dsimp only; omega) _, by simpa [World.setCell] using HZ.out, fun u hu => ?_⟩
          · unfold updI; dsimp only; (repeat' split) <;> first | rfl | (exfalso; omega) | (congr 1; omega)
          · by_cases e : u = 4
            · rw [e]; omega
            · exact HLE.out u (by omega)
        case measure => first | (simp [intOf]; done) | (simp [intOf]; omega)
    · obtain ⟨hc, hff⟩ := h6.cell (k := 5) (by omega)
      have HH := Lib.hid h6
      have HBR := Lib.hid hb
      have HZ := Lib.hid hz
      have hqn : q ≠ w.heap.size := by have := HQ.out; omega
      have hle : w.heap.size ≤ wr.heap.size := by omega
      have r1 := ((HRA.out.low hb (show q < w.heap.size from HQ.out)).cells).2.1
      clear h6 hb hz
      have hix := fun W => idx102_5 (.int .i64 (f 0)) (.int .i64 (f 1)) (.int .i64 (f 2)) (.int .i64 (f 3)) (.int .i64 (f 4)) (.int .i64 (f 5)) W
      by_cases hgt : rc < f 5
      · have hnt : 5 ≠ tm := by rintro rfl; have := HFT.out; omega
        have HRO := Lib.hid (Rc.rules_one (R := R) (base := f) (t := 5) (by rw [HRm.out]; omega) (by rw [HRt.out]; exact hnt) HOK.out (by rw [HRc.out]; exact hgt))
        have HBF : Hid (Below q w wr) := (HB0.out.trans HBR.out).mono (Nat.le_of_lt HQ.out)
        go_wp2_with fail
        go_ret
        exact ⟨HBF.out.setCell (by have := HQ.out; dsimp only; omega) _, .inl ⟨rfl, _, HRO.out⟩⟩
      · go_wp2_with fail
        go_roundw
        case rel =>
          refine ⟨6, by omega, by go_num, ((HH.out.set (k := 5) (by omega) (f 5)).congr fun j hj => ?_), HBR.out.setCell (by dsimp only; omega) _, by simpa [World.setCell] using HZ.out, fun u hu => ?_⟩
          · unfold updI; dsimp only; (repeat' split) <;> first | rfl | (exfalso; omega) | (congr 1; omega)
          · by_cases e : u = 5
            · rw [e]; omega
            · exact HLE.out u (by omega)
        case measure => first | (simp [intOf]; done) | (simp [intOf]; omega)
    · have HH : Hid (At6 wr w.heap.size 102 f) := h6.congr (fun j hj => by simp [hj])
      have HRA1 := Lib.hid (HRA.out.low hb HQ.out)
      have HGM1 := Lib.hid (HGM.out.below hb)
      have HB1 : Hid (Below w.heap.size w wr) := HB0.out.trans hb
      have hmk : ∀ W, (Instr.makeSlice 34 (.int .i64 (gs.length : Int)) (.int .i64 (gs.length : Int))).run Try.prog W = .ok (.slice (some ⟨W.heap.size, 0, none⟩) gs.length gs.length) (W.alloc (.cells (madeCells #[.int .i64 0] gs.length) 3)) :=
        fun W => run_make_row' 34 3 (.int .i64 0) 8 (by kernel_rfl) infoInt rfl .i64 .i64 gs.length (by omega) (by omega) W
      obtain ⟨-, -, y8, -, -, -⟩ := HRA1.out.cells
      have hbA : Below wr.heap.size wr (wr.alloc (.cells (madeCells #[.int .i64 0] gs.length) 3)) := (Below.refl _ _).alloc (Nat.le_refl _) _
      obtain ⟨-, -, -, y9, -, yf9⟩ := (HRA1.out.step hbA).cells
      have hqs : q < wr.heap.size := by have := HQ.out; omega
      clear h6 hb HRA HGM HB0
      go_upto_region 10 with fail
      have hz1 : wr.heap.size = w.heap.size + 1 := hz
      have hdn := dnI_new wr gs.length
      rw [hz1] at hdn
      have HGHX : Hid (∃ k : KR, k.Ok ∧ k.R = R ∧ k.q = q ∧ k.tm = tm ∧ k.rc = rc ∧ k.f = f ∧ k.OA = OA ∧ k.oc = oc ∧ k.gs = gs ∧ k.gq = w.heap.size + 1 ∧ k.gc = gs.length ∧ k.hq = w.heap.size ∧ k.B = w.heap.size ∧ k.W = ((wr.alloc (.cells (madeCells #[.int .i64 0] gs.length) 3)).setCell ⟨q, 9, none⟩ (.slice (some ⟨w.heap.size + 1, 0, none⟩) gs.length gs.length)) ∧ GH k ((wr.alloc (.cells (madeCells #[.int .i64 0] gs.length) 3)).setCell ⟨q, 9, none⟩ (.slice (some ⟨w.heap.size + 1, 0, none⟩) gs.length gs.length)) ⟨R.gv0 0, R.hv0 f 0, fun _ => false⟩) := by
        refine ⟨⟨w.heap.size, ((wr.alloc (.cells (madeCells #[.int .i64 0] gs.length) 3)).setCell ⟨q, 9, none⟩ (.slice (some ⟨w.heap.size + 1, 0, none⟩) gs.length gs.length)), q, tm, rc, f, OA, oc, gs, w.heap.size + 1, gs.length, w.heap.size⟩, ⟨(HRA1.out.step hbA).setG _, ?_, HQ.out, Nat.le_succ _, Nat.le_refl _, by dsimp only; omega, HG6.out, htm, hrc, hn, hoc, ⟨Nat.le_refl _, by dsimp only; omega⟩⟩, HR.out.symm, rfl, rfl, rfl, rfl, rfl, rfl, rfl, rfl, rfl, rfl, rfl, rfl, Below.refl _ _, ?_, ?_⟩
        · exact gms_set (HGM1.out.below (hbA.mono (by omega))) (fun b off e => HNE.out b off e) _
        · have e0 : R.gv0 0 = fun _ => 0 := by funext i; unfold Rc.gv0; rw [if_neg (by omega)]
          show DnI ((wr.alloc (.cells (madeCells #[.int .i64 0] gs.length) 3)).setCell ⟨q, 9, none⟩ (.slice (some ⟨w.heap.size + 1, 0, none⟩) gs.length gs.length)) (w.heap.size + 1) (R.gv0 0) gs.length
          rw [e0]
          exact hdn.far (by dsimp only; omega) _
        · exact (HH.out.step hbA).far (by have := HQ.out; omega) _
      have hbX : Below q w ((wr.alloc (.cells (madeCells #[.int .i64 0] gs.length) 3)).setCell ⟨q, 9, none⟩ (.slice (some ⟨w.heap.size + 1, 0, none⟩) gs.length gs.length)) := ((HB1.out.trans (hbA.mono (by omega))).mono (Nat.le_of_lt HQ.out)).setCell (Nat.le_refl _) _
      have HBX := Lib.hid hbX
      clear hbA y8 y9 yf9 HRA1 HGM1 HB1 HH hdn hmk hbX hz1 hz hqs HG6 HNE
      generalize ((wr.alloc (.cells (madeCells #[.int .i64 0] gs.length) 3)).setCell ⟨q, 9, none⟩ (.slice (some ⟨w.heap.size + 1, 0, none⟩) gs.length gs.length)) = x2 at *
      obtain ⟨k, hk, kR, kq, ktm, krc, kf, kOA, koc, kgs, kgq, kgc, khq, kB, kW, hgh⟩ := HGHX.out
      clear HGHX HR HLE
      subst kR kq ktm krc kf kOA koc kgs
      have HK := Lib.hid hk
      have HGH := Lib.hid hgh
      have HGC := Lib.hid kgc
      have HBW : Hid (Below k.q w k.W) := by rw [kW]; exact HBX.out
      rw [← khq]
      clear hk hgh kgq kgc khq kB kW
      obtain ⟨-, -, r8, -, -, -⟩ := (HGH.out.race HK.out).cells
      go_wp2_with fail
      clear r8
      have HLX : Hid (k.q < k.B) := HK.out.qB
      go_loopw [41] (fun x wr => ∃ i : Nat, i ≤ k.gs.length ∧ x = .int .i64 i ∧ GH k wr ⟨k.R.gv0 i, k.R.hv0 k.f i, fun _ => false⟩ ∧ Below k.q w wr) (fun x _ => k.gs.length - (intOf x).toNat)
      case atStart => exact ⟨0, by omega, rfl, HGH.out, HBX.out⟩
      case round =>
        clear HGH HBX
        obtain ⟨i, hi, rfl, hgh, hbq⟩ := hrel
        have HG0 := Lib.hid hgh
        have HBQ := Lib.hid hbq
        clear hbq
        obtain ⟨-, -, r8, -, -, -⟩ := (hgh.race HK.out).cells
        by_cases h1 : i < k.gs.length
        · have h1i : (i : Int) < (k.gs.length : Int) := by omega
          obtain ⟨b9, off, hOA, hb9, u1, u2, u3, u4, u5⟩ := (hgh.gms HK.out).at_ h1
          obtain ⟨m1, m2, m3, m4, m5⟩ := HK.out.g6 i h1
          have HAi : Hid (k.R.A i = (gmx k.gs i).a.toNat) := rfl
          have HBi : Hid (k.R.B i = (gmx k.gs i).b.toNat) := rfl
          obtain ⟨gg, hgg⟩ : ∃ gg, gg = gmx k.gs i := ⟨_, rfl⟩
          rw [← hgg] at u1 u2 u3 u4 u5 m1 m2 m3 m4 m5 HAi HBi
          clear hgg
          obtain ⟨ga, gb, gpa, gpb, gop⟩ := gg
          dsimp only at u1 u2 u3 u4 u5 m1 m2 m3 m4 m5 HAi HBi
          obtain ⟨a, rfl⟩ : ∃ a : Nat, ga = (a : Int) := ⟨ga.toNat, by omega⟩
          obtain ⟨b, rfl⟩ : ∃ b : Nat, gb = (b : Int) := ⟨gb.toNat, by omega⟩
          simp only [Int.toNat_natCast] at HAi HBi
          have ha6 : a < 6 := by omega
          have hb6 : b < 6 := by omega
          have hbi : (b : Int) < 6 := by omega
          have hab : a ≠ b := by omega
          have hba : Below wr.heap.size wr (wr.alloc (.cells #[.int .i64 (a : Int), .int .i64 (b : Int), .int .i64 gpa, .int .i64 gpb, .bool gop] 85)) := (Below.refl _ _).alloc (Nat.le_refl _) _
          have v0 : (wr.alloc (.cells #[.int .i64 (a : Int), .int .i64 (b : Int), .int .i64 gpa, .int .i64 gpb, .bool gop] 85)).cell? ⟨wr.heap.size, 0, none⟩ = some (.int .i64 (a : Int)) := by simp
          have v1 : (wr.alloc (.cells #[.int .i64 (a : Int), .int .i64 (b : Int), .int .i64 gpa, .int .i64 gpb, .bool gop] 85)).cell? ⟨wr.heap.size, 1, none⟩ = some (.int .i64 (b : Int)) := by simp
          have HP := Lib.hid (HG0.out.step HK.out hba)
          have HBP : Hid (Below k.q w (wr.alloc (.cells #[.int .i64 (a : Int), .int .i64 (b : Int), .int .i64 gpa, .int .i64 gpb, .bool gop] 85))) := HBQ.out.alloc (by have := (hgh.race HK.out).lt; omega) _
          clear hba hgh m1 m2 m3 m4 m5
          go_upto_region 13 with fail
          clear u1 u2 u3 u4 u5 HG0 HBQ hb9 hOA r8
          generalize (wr.alloc (.cells #[.int .i64 (a : Int), .int .i64 (b : Int), .int .i64 gpa, .int .i64 gpb, .bool gop] 85)) = Wa at *
          generalize wr.heap.size = bg at *
          obtain ⟨r0, -, -, r9, -, -⟩ := (HP.out.race HK.out).cells
          have htm' := HRt.out
          by_cases ea : a = k.tm
          · have e1 : ((k.tm : Int) == (a : Int)) = true := by simp [ea]
            have HGE : Hid (k.R.gv0 (i + 1) = updI (k.R.gv0 i) i 2) := by show _ = _; funext j; rw [Rc.gv0_succ, if_pos (by rw [HAi.out, htm']; exact ea)]
            have HHE : Hid (k.R.hv0 k.f (i + 1) = k.R.hv0 k.f i) := by show _ = _; rw [Rc.hv0, if_pos (.inl (by rw [HAi.out, htm']; exact ea))]
            obtain ⟨gc, gf⟩ := HP.out.gv.cell (p := i) h1
            clear ea htm'
            go_wp2_with fail
            go_roundw
            case rel => exact ⟨i + 1, by omega, by go_num, by rw [HGE.out, HHE.out]; exact HP.out.setG HK.out i 2, HBP.out.setCell (by have := HK.out.gB; have := HLX.out; dsimp only; omega) _⟩
            case measure => simp [intOf]; omega
          · have e1 : ((k.tm : Int) == (a : Int)) = false := by simp; omega
            have HGE : Hid (k.R.gv0 (i + 1) = k.R.gv0 i) := by show _ = _; funext j; rw [Rc.gv0_succ, if_neg (by rw [HAi.out, htm']; exact ea)]
            by_cases eb : b = k.tm
            · have e2 : ((k.tm : Int) == (b : Int)) = true := by simp [eb]
              have HHE : Hid (k.R.hv0 k.f (i + 1) = k.R.hv0 k.f i) := by show _ = _; rw [Rc.hv0, if_pos (.inr (by rw [HBi.out, htm']; exact eb))]
              clear eb ea htm'
              go_wp2_with fail
              go_roundw
              case rel => exact ⟨i + 1, by omega, by go_num, by rw [HGE.out, HHE.out]; exact HP.out, HBP.out⟩
              case measure => simp [intOf]; omega
            · have e2 : ((k.tm : Int) == (b : Int)) = false := by simp; omega
              have HHE : Hid (k.R.hv0 k.f (i + 1) = updI (k.R.hv0 k.f i) b (k.R.hv0 k.f i b + 2)) := by
                show _ = _
                rw [Rc.hv0, if_neg, HBi.out]
                rw [HAi.out, HBi.out, htm']
                omega
              obtain ⟨hc, hff⟩ := HP.out.hv.cell (k := b) hb6
              have hw2 : IntKind.i64.wrap (k.R.hv0 k.f i b + 2) = k.R.hv0 k.f i b + 2 := IntWalk.i64_in _ (by have := Rc.hv0_rng (R := k.R) (f := k.f) i b; have := HF.out b; have := HK.out.n20; omega)
              have hqb : k.q ≤ k.hq := by have := HK.out.hB; have := HLX.out; omega
              clear eb ea htm'
              go_wp2_with fail
              go_roundw
              case rel => exact ⟨i + 1, by omega, by go_num, by rw [HGE.out, HHE.out]; exact HP.out.setH HK.out hb6 _, HBP.out.setCell hqb _⟩
              case measure => simp [intOf]; omega
        · obtain rfl : i = k.gs.length := by omega
          have h1i : ¬ (k.gs.length : Int) < (k.gs.length : Int) := by omega
          have HIV : Hid (k.R.Inv k.f ⟨k.R.gv0 k.gs.length, k.R.hv0 k.f k.gs.length, fun _ => false⟩) := by
            have := Rc.inv0 (f := k.f) HOK.out (fun _ => false)
            rw [HRn.out] at this
            exact this
          have HTM0 : Hid (k.R.hv0 k.f k.gs.length k.tm = k.f k.tm) := by have := Rc.hv0_tm (R := k.R) (f := k.f) k.gs.length; rw [HRt.out] at this; exact this
          clear hgh r8
          go_wp2_with fail
          obtain ⟨sF, hsF⟩ : ∃ s, s = (⟨k.R.gv0 k.gs.length, k.R.hv0 k.f k.gs.length, fun _ => false⟩ : Fl) := ⟨_, rfl⟩
          rw [← hsF] at HIV HG0
          have HTM1 : Hid (sF.hv k.tm = k.f k.tm) := by rw [hsF]; exact HTM0.out
          clear hsF HTM0 HBQ
          generalize wr = w3 at *
          go_loopw [71] (fun x wr => ∃ (t : Nat) (s : Fl), t ≤ 6 ∧ x = .int .i64 t ∧ GH k wr s ∧ k.R.Inv k.f s ∧ s.hv k.tm = k.f k.tm ∧ (∀ u, u < t → u ≠ k.tm → s.hv u ≤ k.rc)) (fun x _ => 6 - (intOf x).toNat)
          case atStart => exact ⟨0, sF, by omega, rfl, HG0.out, HIV.out, HTM1.out, fun u h => by omega⟩
          case round =>
            clear HG0 HIV HTM1
            obtain ⟨t, s, ht, rfl, hgh, hiv, htm1, hle⟩ := hrel
            have HG := Lib.hid hgh
            have HIV := Lib.hid hiv
            have HTM1 := Lib.hid htm1
            have HLE := Lib.hid hle
            clear hgh hiv htm1 hle
            by_cases h1 : t < 6
            · have h1i : (t : Int) < 6 := by omega
              have hwt : IntKind.i64.wrap ((t : Int) + 1) = (t : Int) + 1 := IntWalk.i64_in _ (by omega)
              go_wp2_with fail
              generalize wr = w4 at *
              go_loopw [74] (fun _ wr => ∃ s : Fl, GH k wr s ∧ k.R.Inv k.f s ∧ s.hv k.tm = k.f k.tm ∧ (∀ u, u < t → u ≠ k.tm → s.hv u ≤ k.rc)) (fun _ wr => (intOf ((wr.cell? ⟨k.hq, t, none⟩).getD (.bool false)) + 200).toNat)
              case atStart => exact ⟨s, HG.out, HIV.out, HTM1.out, HLE.out⟩
              case round =>
                clear HG HIV HTM1 HLE
                obtain ⟨s, hgh, hiv, htm1, hle⟩ := hrel
                have HG := Lib.hid hgh
                have HIV := Lib.hid hiv
                have HTM1 := Lib.hid htm1
                have HLE := Lib.hid hle
                obtain ⟨r0, r1, -, -, -, -⟩ := (hgh.race HK.out).cells
                obtain ⟨hc, -⟩ := hgh.hv.cell (k := t) h1
                have HC0 := Lib.hid hc
                clear hgh hiv htm1 hle
                by_cases et : t = k.tm
                · have e1 : ((t : Int) != (k.tm : Int)) = false := by simp [et]
                  have HET := Lib.hid et
                  clear et
                  try go_upto_region 22 with fail
                  go_quiet (fail)
                  have HG2 := Lib.hid (HG.out.step HK.out (below_drewN (Below.refl _ _) nq))
                  generalize wr.drewN nq = w5 at *
                  clear r0 r1 hc HG
                  go_wp2_with fail
                  go_roundw
                  case rel =>
                    refine ⟨t + 1, s, by omega, by go_num, HG2.out, HIV.out, HTM1.out, fun u hu hne => ?_⟩
                    by_cases e : u = t
                    · exact absurd (e.trans HET.out) hne
                    · exact HLE.out u (by omega) hne
                  case measure => simp [intOf]; omega
                · have e1 : ((t : Int) != (k.tm : Int)) = true := by simp [bne]; omega
                  have HET := Lib.hid et
                  clear et
                  by_cases hgt : k.rc < s.hv t
                  · have hgd : decide (k.rc < s.hv t) = true := decide_eq_true hgt
                    try go_upto_region 22 with fail
                    go_quiet (fail)
                    have HG2 := Lib.hid (HG.out.step HK.out (below_drewN (Below.refl _ _) nq))
                    generalize wr.drewN nq = w5 at *
                    clear r0 r1 hc HG
                    have HSH := Lib.hid (shift106_c HK.out w5 t s HG2.out h1 HET.out (by omega) (fun j hj => HIV.out.rg j (by rw [HRn.out]; exact hj)) (Rc.inv_rng HOK.out HIV.out HF.out (by rw [HRt.out]; exact HTM1.out) (by rw [HRn.out]; exact HK.out.n20)))
                    have HST := Lib.hid (fun e => Rc.shift_true HOK.out HIV.out (t := t) (by rw [HRm.out]; exact h1) (by rw [HRt.out]; exact HET.out) (by rw [HRc.out]; exact hgt) e)
                    have HSF := Lib.hid (fun e => Rc.shift_false HOK.out HIV.out (t := t) (by rw [HRm.out]; exact h1) (by rw [HRt.out]; exact HET.out) (by rw [HRc.out]; exact hgt) e)
                    obtain ⟨⟨bb, s2⟩, hres⟩ : ∃ r, k.R.shiftF t s = r := ⟨_, rfl⟩
                    rw [hres] at HSH HST HSF
                    clear hres
                    dsimp only at HSH HST HSF
                    cases bb
                    · have HS := Lib.hid (HSF.out rfl)
                      clear HSF HST
                      go_wp2_with fail
                      refine HSH.out.mono ?_
                      rintro e w6 ⟨rfl, hg6⟩
                      have HBZ : Hid (Below k.q w w6) := HBW.out.trans (hg6.low.mono (Nat.le_of_lt HLX.out))
                      clear hg6
                      go_wp2_with fail
                      go_ret
                      exact ⟨HBZ.out, .inl ⟨rfl, HS.out⟩⟩
                    · obtain ⟨z1, z2, z3, z4⟩ := HST.out rfl
                      have Z1 := Lib.hid z1
                      have Z2 := Lib.hid z2
                      have Z3 := Lib.hid z3
                      have Z4 := Lib.hid z4
                      clear z1 z2 z3 z4 HSF HST
                      go_wp2_with fail
                      refine HSH.out.mono ?_
                      rintro e w6 ⟨rfl, hg6⟩
                      have HG6' := Lib.hid hg6
                      clear hg6
                      go_wp2_with fail
                      go_roundw
                      case rel => exact ⟨s2, HG6'.out, Z1.out, by have h := Z4.out; rw [HRt.out] at h; rw [h]; exact HTM1.out, fun u hu hne => by have := Z3.out u; rw [HRc.out] at this; exact this (HLE.out u hu hne)⟩
                      case measure =>
                        have h5 := (HG6'.out.hv.cell (k := t) h1).1
                        have h6 := HC0.out
                        have h7 := Z2.out
                        rw [h5, h6]
                        simp only [Option.getD_some, intOf]
                        omega
                  · have hgd : decide (k.rc < s.hv t) = false := decide_eq_false hgt
                    try go_upto_region 22 with fail
                    go_quiet (fail)
                    have HG2 := Lib.hid (HG.out.step HK.out (below_drewN (Below.refl _ _) nq))
                    generalize wr.drewN nq = w5 at *
                    clear r0 r1 hc HG
                    go_wp2_with fail
                    go_roundw
                    case rel =>
                      refine ⟨t + 1, s, by omega, by go_num, HG2.out, HIV.out, HTM1.out, fun u hu hne => ?_⟩
                      by_cases e : u = t
                      · rw [e]; omega
                      · exact HLE.out u (by omega) hne
                    case measure => simp [intOf]; omega
            · obtain rfl : t = 6 := by omega
              have h1i : ¬ ((6 : Nat) : Int) < 6 := by omega
              have HBZ : Hid (Below k.q w wr) := HBW.out.trans (HG.out.low.mono (Nat.le_of_lt HLX.out))
              have HRZ : Hid (RaceAt wr k.q (k.tm : Int) k.rc k.f (.slice k.OA k.gs.length k.oc) (.slice (some ⟨k.gq, 0, none⟩) k.gs.length k.gs.length)) := by
                have := HG.out.race HK.out
                rw [HGC.out] at this
                exact this
              have HDZ := Lib.hid HG.out.gv
              clear HG
              go_wp2_with fail
              go_ret
              exact ⟨HBZ.out, .inr ⟨rfl, s, k.gq, HIV.out, by rw [HRt.out]; exact HTM1.out, fun u hu hne => by rw [HRc.out]; exact HLE.out u (by rw [HRm.out] at hu; exact hu) (by rw [HRt.out] at hne; exact hne), HRZ.out, by rw [HRn.out]; exact HDZ.out⟩⟩
end Go.Proofs.Ytjokbffdepcpkaa
