/-
  The reference's Playable.
-/
import Derived.Test.YtgnonfomlgkpcaaRefB
namespace Go.Proofs.Ytgnonfomlgkpcaa
open Go.RowKit

theorem field24 (w : World) (a b : Int) : (Instr.field 24 (.agg #[.int .i64 a, .int .i64 b]) 0).run Try.prog w = .ok (.int .i64 a) w := by kernel_rfl

/-- Does row r of a line have what it needs, at least? -/
noncomputable def rowOk (xss bss : List (List Int)) (x nd : List Int) (lo hi ca : Int) (r : Nat) : Bool := decide (ix nd r ≤ (aN ca lo hi bss r (ix x r).toNat (ix (rx xss r) (ix x r).toNat) bss.length : Int))
noncomputable def refPlayB (xss bss : List (List Int)) (x nd : List Int) (lo hi ca : Int) : Bool := allB x.length (rowOk xss bss x nd lo hi ca)

set_option maxRecDepth 100000 in
set_option maxHeartbeats 8000000 in
theorem refPlayable_c (A Ab A' An : Option Addr) (xss bss : List (List Int)) (x nd : List Int) (c cb c' cn : Nat) (lo hi ca : Int) (w : World) (hr : Grd w.heap.size w A xss) (hbs : Grd w.heap.size w Ab bss) (hx : Ints w.heap.size w A' x) (hn : Ints w.heap.size w An nd) (h : ballsErr xss lo hi ca bss = 0) (hl : lineB xss x nd = true) :
    Calls Try.prog 38 #[.agg #[.slice A xss.length c, .int .i64 lo, .int .i64 hi, .int .i64 ca], .slice Ab bss.length cb, .agg #[.slice A' x.length c', .slice An nd.length cn]] w (Ans w (.bool (refPlayB xss bss x nd lo hi ca))) := by
  obtain ⟨⟨hxl, hxb⟩, hnl, _⟩ := lineOk hl
  have h8 := (laneOk (ballsOk h).1).2.1
  have hb0 : Below w.heap.size w ((w.alloc (.cells #[.slice A xss.length c, .int .i64 lo, .int .i64 hi, .int .i64 ca] 26)).alloc (.cells #[.slice A' x.length c', .slice An nd.length cn] 55)) := ((Below.refl _ _).alloc (Nat.le_refl _) _).alloc (by simp) _
  have k0 : ((w.alloc (.cells #[.slice A xss.length c, .int .i64 lo, .int .i64 hi, .int .i64 ca] 26)).alloc (.cells #[.slice A' x.length c', .slice An nd.length cn] 55)).cell? ⟨w.heap.size, 0, none⟩ = some (.slice A xss.length c) := by go_simp
  have k1 : ((w.alloc (.cells #[.slice A xss.length c, .int .i64 lo, .int .i64 hi, .int .i64 ca] 26)).alloc (.cells #[.slice A' x.length c', .slice An nd.length cn] 55)).cell? ⟨w.heap.size, 1, none⟩ = some (.int .i64 lo) := by go_simp
  have k2 : ((w.alloc (.cells #[.slice A xss.length c, .int .i64 lo, .int .i64 hi, .int .i64 ca] 26)).alloc (.cells #[.slice A' x.length c', .slice An nd.length cn] 55)).cell? ⟨w.heap.size, 2, none⟩ = some (.int .i64 hi) := by go_simp
  have k3 : ((w.alloc (.cells #[.slice A xss.length c, .int .i64 lo, .int .i64 hi, .int .i64 ca] 26)).alloc (.cells #[.slice A' x.length c', .slice An nd.length cn] 55)).cell? ⟨w.heap.size, 3, none⟩ = some (.int .i64 ca) := by go_simp
  have j0 : ((w.alloc (.cells #[.slice A xss.length c, .int .i64 lo, .int .i64 hi, .int .i64 ca] 26)).alloc (.cells #[.slice A' x.length c', .slice An nd.length cn] 55)).cell? ⟨w.heap.size + 1, 0, none⟩ = some (.slice A' x.length c') := by go_simp
  have j1 : ((w.alloc (.cells #[.slice A xss.length c, .int .i64 lo, .int .i64 hi, .int .i64 ca] 26)).alloc (.cells #[.slice A' x.length c', .slice An nd.length cn] 55)).cell? ⟨w.heap.size + 1, 1, none⟩ = some (.slice An nd.length cn) := by go_simp
  have HX := Lib.hid (hr.step hb0)
  have HBs := Lib.hid (hbs.step hb0)
  have HI := Lib.hid (hx.step hb0)
  have HN := Lib.hid (hn.step hb0)
  have HB := Lib.hid hb0
  have HE := Lib.hid h
  have HXB := Lib.hid hxb
  have HXL := Lib.hid hxl
  have HNL := Lib.hid hnl
  have hx8 : x.length ≤ 8 := by omega
  clear hb0 hx hn hr hbs h hl hxb hxl hnl
  go_enter Try.func38, Try.ntmps38
  go_wp2_with fail
  generalize ((w.alloc (.cells #[.slice A xss.length c, .int .i64 lo, .int .i64 hi, .int .i64 ca] 26)).alloc (.cells #[.slice A' x.length c', .slice An nd.length cn] 55)) = W0 at k0 k1 k2 k3 j0 j1 HX HBs HI HN HB ⊢
  go_loopw [7] (fun i wr => ∃ r : Nat, r ≤ x.length ∧ i = .int .i64 r ∧ AllB r (rowOk xss bss x nd lo hi ca) ∧ Below W0.heap.size W0 wr) (fun i _ => x.length - (intOf i).toNat)
  case atStart => exact ⟨0, by omega, rfl, fun j hj => by omega, Below.refl _ _⟩
  case round =>
    obtain ⟨r, hr, rfl, hp, hb⟩ := hrel
    have p0 := cell_of_ans hb k0
    have p1 := cell_of_ans hb k1
    have p2 := cell_of_ans hb k2
    have p3 := cell_of_ans hb k3
    have q0 := cell_of_ans hb j0
    have q1 := cell_of_ans hb j1
    have HXr := Lib.hid (HX.out.step hb)
    have HBr := Lib.hid (HBs.out.step hb)
    have HIr := Lib.hid (HI.out.step hb)
    have HNr := Lib.hid (HN.out.step hb)
    have HBB := Lib.hid hb
    by_cases h1 : r < x.length
    · have hrx : r < xss.length := by have := HXL.out; omega
      obtain ⟨x0, x1⟩ := HXB.out r hrx
      obtain ⟨bi, hbi⟩ : ∃ bi : Nat, ix x r = (bi : Int) := ⟨(ix x r).toNat, by omega⟩
      obtain ⟨b3, o3, rfl, _, e3⟩ := HIr.out.at_ h1
      obtain ⟨b4, o4, rfl, _, e4⟩ := HNr.out.at_ (k := r) (by have := HXL.out; have := HNL.out; omega)
      rw [hbi] at e3
      have r2 : (r : Int) < (x.length : Int) := by omega
      have r3 : (r : Int) < (nd.length : Int) := by have := HXL.out; have := HNL.out; omega
      have r5 : (0 : Int) ≤ (r : Int) := by omega
      have H27 := Lib.hid (refBounds_c A Ab xss bss c cb lo hi ca r bi wr.drew (HXr.out.step (Below.refl _ _).drew) (HBr.out.step (Below.refl _ _).drew) HE.out hrx (by omega))
      have HOK : Hid (rowOk xss bss x nd lo hi ca r = decide (ix nd r ≤ (aN ca lo hi bss r bi (ix (rx xss r) bi) bss.length : Int))) := by show _ = _; rw [rowOk, hbi, Int.toNat_natCast]
      have HP := Lib.hid hp
      clear hbi hb hp
      generalize aN ca lo hi bss r bi (ix (rx xss r) bi) bss.length = a at *
      generalize aN ca hi lo bss r bi (ix (rx xss r) bi) bss.length = b0 at *
      have hfl := fun W : World => field24 W a b0
      by_cases hok : ix nd r ≤ (a : Int)
      · have HOK1 : Hid (rowOk xss bss x nd lo hi ca r = true) := by show _ = _; rw [HOK.out]; exact decide_eq_true hok
        have hd : ¬ ((a : Int) < ix nd r) := by omega
        go_wp2_with fail
        go_region_held3 (fun w' => w'.cell? ⟨w.heap.size, 0, none⟩ = some (.slice A xss.length c) ∧ w'.cell? ⟨w.heap.size, 1, none⟩ = some (.int .i64 lo) ∧ w'.cell? ⟨w.heap.size, 2, none⟩ = some (.int .i64 hi) ∧ w'.cell? ⟨w.heap.size, 3, none⟩ = some (.int .i64 ca) ∧ w'.cell? ⟨w.heap.size + 1, 0, none⟩ = some (.slice (some ⟨b3, o3, none⟩) x.length c') ∧ w'.cell? ⟨w.heap.size + 1, 1, none⟩ = some (.slice (some ⟨b4, o4, none⟩) nd.length cn) ∧ w'.cell? ⟨b3, o3 + r, none⟩ = some (.int .i64 (bi : Int)) ∧ w'.cell? ⟨b4, o4 + r, none⟩ = some (.int .i64 (ix nd r))) (go_keep) (first | (go_at_call 27; refine H27.out.mono ?_; rintro e w7 ⟨rfl, hb7⟩; replace hb7 := below_drew_l hb7; replace p0 := cell_of_ans hb7 p0; replace p1 := cell_of_ans hb7 p1; replace p2 := cell_of_ans hb7 p2; replace p3 := cell_of_ans hb7 p3; replace q0 := cell_of_ans hb7 q0; replace q1 := cell_of_ans hb7 q1; replace e3 := cell_of_ans hb7 e3; replace e4 := cell_of_ans hb7 e4; have HB7 := Lib.hid hb7; clear hb7))
        go_wp2_with fail
        go_roundw
        case rel => exact ⟨r + 1, by omega, by go_num, HP.out.succ HOK1.out, HBB.out.trans (HB7.out.mono HBB.out.size)⟩
        case measure => simp [intOf]; omega
      · have HR : Hid (refPlayB xss bss x nd lo hi ca = false) := by show _ = _; rw [refPlayB, allB_false h1 (by rw [HOK.out]; exact decide_eq_false hok)]
        have hd : ((a : Int) < ix nd r) := by omega
        go_wp2_with fail
        go_region_held3 (fun w' => w'.cell? ⟨w.heap.size, 0, none⟩ = some (.slice A xss.length c) ∧ w'.cell? ⟨w.heap.size, 1, none⟩ = some (.int .i64 lo) ∧ w'.cell? ⟨w.heap.size, 2, none⟩ = some (.int .i64 hi) ∧ w'.cell? ⟨w.heap.size, 3, none⟩ = some (.int .i64 ca) ∧ w'.cell? ⟨w.heap.size + 1, 0, none⟩ = some (.slice (some ⟨b3, o3, none⟩) x.length c') ∧ w'.cell? ⟨w.heap.size + 1, 1, none⟩ = some (.slice (some ⟨b4, o4, none⟩) nd.length cn) ∧ w'.cell? ⟨b3, o3 + r, none⟩ = some (.int .i64 (bi : Int)) ∧ w'.cell? ⟨b4, o4 + r, none⟩ = some (.int .i64 (ix nd r))) (go_keep) (first | (go_at_call 27; refine H27.out.mono ?_; rintro e w7 ⟨rfl, hb7⟩; replace hb7 := below_drew_l hb7; replace p0 := cell_of_ans hb7 p0; replace p1 := cell_of_ans hb7 p1; replace p2 := cell_of_ans hb7 p2; replace p3 := cell_of_ans hb7 p3; replace q0 := cell_of_ans hb7 q0; replace q1 := cell_of_ans hb7 q1; replace e3 := cell_of_ans hb7 e3; replace e4 := cell_of_ans hb7 e4; have HB7 := Lib.hid hb7; clear hb7))
        go_wp2_with fail
        go_ret
        exact ⟨ret_bool HR.out.symm, (HB.out.trans (HBB.out.mono HB.out.size)).trans (HB7.out.mono (Nat.le_trans HB.out.size HBB.out.size))⟩
    · obtain rfl : r = x.length := by omega
      have HR : Hid (refPlayB xss bss x nd lo hi ca = true) := by show _ = _; rw [refPlayB, allB_true hp]
      clear hp
      go_wp2_with fail
      go_ret
      exact ⟨ret_bool HR.out.symm, HB.out.trans (HBB.out.mono HB.out.size)⟩
end Go.Proofs.Ytgnonfomlgkpcaa
