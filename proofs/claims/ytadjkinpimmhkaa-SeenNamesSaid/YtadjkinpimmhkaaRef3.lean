/-
  The reference's Behind and Fits.
-/
import Derived.Test.YtadjkinpimmhkaaRef2
namespace Go.Proofs.Ytadjkinpimmhkaa
open Go.RowKit
set_option linter.unusedSimpArgs false
set_option linter.unusedVariables false

/-- What stands behind the first k balls. -/
def behN (xs : List Int) : Nat → Int
  | 0 => 10
  | k + 1 => behN xs k - ix xs k
def behR (game : List (List Int)) (f b : Nat) : Int := behN (rx game f) (min (b + 1) (rx game f).length)
theorem behN_bd {xs : List Int} (h : ∀ j, j < xs.length → 0 ≤ ix xs j ∧ ix xs j ≤ 10) : ∀ k, k ≤ xs.length → 10 - 10 * (k : Int) ≤ behN xs k ∧ behN xs k ≤ 10
  | 0, _ => by simp [behN]
  | k + 1, hk => by
    have h1 := behN_bd h k (by omega)
    have h2 := h k (by omega)
    simp only [behN]
    omega

set_option maxHeartbeats 2000000 in
theorem behind_c {B : Nat} (Ag : Option Addr) (game : List (List Int)) (cg f b : Nat) (w : World) (hg : Grd B w Ag game) (hcg : game.length ≤ cg ∧ cg ≤ 9223372036854775807) (hf : f < game.length) (hb : b ≤ 1) (hv : ∀ j, j < (rx game f).length → 0 ≤ ix (rx game f) j ∧ ix (rx game f) j ≤ 10) :
    Calls Try.prog 48 #[.slice Ag game.length cg, .int .i64 (f : Int), .int .i64 (b : Int)] w (Same w (.int .i64 (behR game f b))) := by
  obtain ⟨bg, og, Ax, cx, rfl, _, hc0, hcx, hcx2, hi⟩ := hg.at_ hf
  have HI := Lib.hid hi
  have HV := Lib.hid hv
  have hfi : (f : Int) < (game.length : Int) := by omega
  have HR : Hid (behR game f b = behN (rx game f) (min (b + 1) (rx game f).length)) := rfl
  generalize rx game f = xs at *
  clear hg hi hv
  go_enter Try.func48, Try.ntmps48
  go_wp2_with fail
  go_loop [8, 7] (fun i v => ∃ k : Nat, k ≤ b + 1 ∧ k ≤ xs.length ∧ i = .int .i64 k ∧ v = .int .i64 (behN xs k)) (fun i _ => 3 - (intOf i).toNat)
  case atStart => exact ⟨0, by omega, by omega, rfl, rfl⟩
  case round =>
    obtain ⟨k, hk, hk2, rfl, rfl⟩ := hrel
    have hbd := behN_bd HV.out k hk2
    by_cases h1 : k ≤ b
    · have h1i : (k : Int) ≤ (b : Int) := by omega
      by_cases h2 : k < xs.length
      · obtain ⟨b2, o2, rfl, _, c2⟩ := HI.out.at_ h2
        have h2i : (k : Int) < (xs.length : Int) := by omega
        have hx := HV.out k h2
        have HS : Hid (behN xs (k + 1) = behN xs k - ix xs k) := rfl
        generalize behN xs k = n at *
        generalize ix xs k = y at *
        go_wp2_with fail
        go_round
        case rel => exact ⟨k + 1, by omega, by omega, by go_num, by rw [HS.out]⟩
        case measure => simp [intOf]; omega
      · have h2i : ¬ (k : Int) < (xs.length : Int) := by omega
        obtain rfl : k = xs.length := by omega
        have HE : Hid (behR game f b = behN xs xs.length) := by show _ = _; rw [HR.out, Nat.min_eq_right (by omega)]
        go_wp2_with fail
        go_ret
        exact ⟨ret_int HE.out.symm, rfl⟩
    · have h1i : ¬ (k : Int) ≤ (b : Int) := by omega
      obtain rfl : k = b + 1 := by omega
      have HE : Hid (behR game f b = behN xs (b + 1)) := by show _ = _; rw [HR.out, Nat.min_eq_left (by omega)]
      generalize behN xs (b + 1) = y at *
      go_wp2_with fail
      go_ret
      exact ⟨ret_int HE.out.symm, rfl⟩

/-- Does a game fit a word, or is its teller left out? -/
def fitW (offl : List Int) (game : List (List Int)) (x : Wd) : Bool := hasB offl x.te || inB (behR game x.fr.toNat x.ba.toNat) x.lo x.hi
noncomputable def fitG (ws : List Wd) (offl : List Int) (game : List (List Int)) : Bool := allB ws.length fun k => fitW offl game (wx ws k)

set_option maxRecDepth 100000 in
set_option maxHeartbeats 8000000 in
theorem fits45_c (A At Ag : Option Addr) (ws : List Wd) (offl : List Int) (game : List (List Int)) (c ct cg : Nat) (frn : Int) (w : World) (hw : Wds w.heap.size w A ws) (ht : Ints w.heap.size w At offl) (hg : Grd w.heap.size w Ag game) (hc : ws.length ≤ c ∧ c ≤ 9223372036854775807) (hct : offl.length ≤ ct ∧ ct ≤ 9223372036854775807) (hcg : game.length ≤ cg ∧ cg ≤ 9223372036854775807)
    (hwd : ∀ k, k < ws.length → 0 ≤ (wx ws k).fr ∧ (wx ws k).fr < (game.length : Int) ∧ 0 ≤ (wx ws k).ba ∧ (wx ws k).ba ≤ 1) (hv : ∀ f, f < game.length → ∀ j, j < (rx game f).length → 0 ≤ ix (rx game f) j ∧ ix (rx game f) j ≤ 10) :
    Calls Try.prog 45 #[.agg #[.int .i64 frn, .slice A ws.length c], .slice At offl.length ct, .slice Ag game.length cg] w (Ans w (.bool (fitG ws offl game))) := by
  have hb0 : Below w.heap.size w (w.alloc (.cells #[.int .i64 frn, .slice A ws.length c] 24)) := (Below.refl _ _).alloc (Nat.le_refl _) _
  have k1 : (w.alloc (.cells #[.int .i64 frn, .slice A ws.length c] 24)).cell? ⟨w.heap.size, 1, none⟩ = some (.slice A ws.length c) := by simp
  have HB0 := Lib.hid hb0
  have HW := Lib.hid (hw.step hb0)
  have HT := Lib.hid (ht.step hb0)
  have HG := Lib.hid (hg.step hb0)
  have HWD := Lib.hid hwd
  have HV := Lib.hid hv
  clear hb0 hw ht hg hwd hv
  go_enter Try.func45, Try.ntmps45
  go_wp2_with fail
  generalize w.alloc (.cells #[.int .i64 frn, .slice A ws.length c] 24) = W0 at k1 HB0 HW HT HG ⊢
  go_loopw [7] (fun i wr => ∃ k : Nat, k ≤ ws.length ∧ i = .int .i64 k ∧ AllB k (fun k => fitW offl game (wx ws k)) ∧ Below W0.heap.size W0 wr) (fun i _ => ws.length - (intOf i).toNat)
  case atStart => exact ⟨0, by omega, rfl, fun j hj => by omega, Below.refl _ _⟩
  case round =>
    obtain ⟨k, hk, rfl, hp, hbr⟩ := hrel
    have HP := Lib.hid hp
    have HBr := Lib.hid hbr
    have q1 := cell_of_ans hbr k1
    have hWr := HW.out.step hbr
    have hTr := HT.out.step hbr
    have hGr := HG.out.step hbr
    have hlt : w.heap.size < wr.heap.size := World.block_lt_of_cell? wr _ q1
    have hw0 : W0.heap.size ≤ wr.heap.size := hbr.size
    clear hp hbr
    by_cases hk1 : k < ws.length
    · obtain ⟨b, off, rfl, _, c1, c2, c3, c4, c5⟩ := hWr.at_ hk1
      obtain ⟨y1, y2, y3, y4⟩ := HWD.out k hk1
      have HX : Hid (fitW offl game (wx ws k) = (hasB offl (wx ws k).te || inB (behR game (wx ws k).fr.toNat (wx ws k).ba.toNat) (wx ws k).lo (wx ws k).hi)) := rfl
      obtain ⟨x, hx⟩ : ∃ x, wx ws k = x := ⟨_, rfl⟩
      rw [hx] at c1 c2 c3 c4 c5 y1 y2 y3 y4 HX
      obtain ⟨xf, xb, xt, xl, xh⟩ := x
      have HXX := Lib.hid hx
      clear hx
      dsimp only at c1 c2 c3 c4 c5 y1 y2 y3 y4 HX
      obtain ⟨fn, rfl⟩ : ∃ n : Nat, xf = (n : Int) := ⟨xf.toNat, by omega⟩
      obtain ⟨bn, rfl⟩ : ∃ n : Nat, xb = (n : Int) := ⟨xb.toNat, by omega⟩
      simp only [Int.toNat_natCast] at HX
      have hbx : Below wr.heap.size wr (wr.alloc (.cells #[.int .i64 (fn : Int), .int .i64 (bn : Int), .int .i64 xt, .int .i64 xl, .int .i64 xh] 56)) := (Below.refl _ _).alloc (Nat.le_refl _) _
      have z0 : (wr.alloc (.cells #[.int .i64 (fn : Int), .int .i64 (bn : Int), .int .i64 xt, .int .i64 xl, .int .i64 xh] 56)).cell? ⟨wr.heap.size, 0, none⟩ = some (.int .i64 (fn : Int)) := by simp
      have z1 : (wr.alloc (.cells #[.int .i64 (fn : Int), .int .i64 (bn : Int), .int .i64 xt, .int .i64 xl, .int .i64 xh] 56)).cell? ⟨wr.heap.size, 1, none⟩ = some (.int .i64 (bn : Int)) := by simp
      have z2 : (wr.alloc (.cells #[.int .i64 (fn : Int), .int .i64 (bn : Int), .int .i64 xt, .int .i64 xl, .int .i64 xh] 56)).cell? ⟨wr.heap.size, 2, none⟩ = some (.int .i64 xt) := by simp
      have z3 : (wr.alloc (.cells #[.int .i64 (fn : Int), .int .i64 (bn : Int), .int .i64 xt, .int .i64 xl, .int .i64 xh] 56)).cell? ⟨wr.heap.size, 3, none⟩ = some (.int .i64 xl) := by simp
      have z4 : (wr.alloc (.cells #[.int .i64 (fn : Int), .int .i64 (bn : Int), .int .i64 xt, .int .i64 xl, .int .i64 xh] 56)).cell? ⟨wr.heap.size, 4, none⟩ = some (.int .i64 xh) := by simp
      have hT2 := hTr.step hbx
      have hG2 := hGr.step hbx
      have HBx := Lib.hid hbx
      clear hWr hTr hGr hbx
      go_upto_region 5 with fail
      generalize wr.alloc (.cells #[.int .i64 (fn : Int), .int .i64 (bn : Int), .int .i64 xt, .int .i64 xl, .int .i64 xh] 56) = wx2 at z0 z1 z2 z3 z4 hT2 hG2 HBx ⊢
      have hd : ∀ n, Below wx2.heap.size wx2 (wx2.drewN n) := fun n => below_drewN (Below.refl _ _) n
      have HBe : Hid (∀ n, Calls Try.prog 48 #[.slice Ag game.length cg, .int .i64 (fn : Int), .int .i64 (bn : Int)] (wx2.drewN n) fun e w' => e = .returned (.int .i64 (behR game fn bn)) ∧ w' = wx2.drewN n) := fun n => (behind_c Ag game cg fn bn _ (hG2.step (hd n)) hcg (by omega) (by omega) (HV.out fn (by omega))).mono fun e w' h => ⟨h.1, h.2.symm⟩
      have HBF : Hid (Below W0.heap.size W0 wx2) := HBr.out.trans (HBx.out.mono hw0)
      generalize hbe : behR game fn bn = be at HX HBe
      clear hbe
      cases hh : hasB offl xt
      · have HH : Hid (∀ n, Calls Try.prog 33 #[.slice At offl.length ct, .int .i64 xt] (wx2.drewN n) fun e w' => e = .returned (.bool false) ∧ w' = wx2.drewN n) := fun n => (has_c At offl ct xt _ (hT2.step (hd n)) hct).mono fun e w' h => by rw [hh] at h; exact ⟨h.1, h.2.symm⟩
        cases hin : inB be xl xh
        · have HI : Hid (∀ W, Calls Try.prog 65 #[.int .i64 be, .int .i64 xl, .int .i64 xh] W fun e w' => e = .returned (.bool false) ∧ w' = W) := fun W => (in_c _ _ _ W).mono fun e w' h => by rw [hin] at h; exact ⟨h.1, h.2.symm⟩
          have HNO : Hid (fitG ws offl game = false) := allB_false hk1 (by rw [HXX.out, HX.out, hh, hin]; rfl)
          clear hh hin hT2 hG2 hd
          go_quiet ((first | (go_at_call 33; exact Calls.quiet_of_same (HH.out _)) | (go_at_call 48; exact Calls.quiet_of_same (HBe.out _)) | (go_at_call 65; exact Calls.quiet_of_same (HI.out _))))
          go_wp2_with fail
          go_ret
          exact ⟨ret_bool HNO.out.symm, below_drewN (HB0.out.trans (HBF.out.mono HB0.out.size)) _⟩
        · have HI : Hid (∀ W, Calls Try.prog 65 #[.int .i64 be, .int .i64 xl, .int .i64 xh] W fun e w' => e = .returned (.bool true) ∧ w' = W) := fun W => (in_c _ _ _ W).mono fun e w' h => by rw [hin] at h; exact ⟨h.1, h.2.symm⟩
          have HY : Hid (fitW offl game (wx ws k) = true) := by show _ = _; rw [HXX.out, HX.out, hh, hin]; rfl
          clear hh hin hT2 hG2 hd
          go_quiet ((first | (go_at_call 33; exact Calls.quiet_of_same (HH.out _)) | (go_at_call 48; exact Calls.quiet_of_same (HBe.out _)) | (go_at_call 65; exact Calls.quiet_of_same (HI.out _))))
          go_wp2_with fail
          go_roundw
          case rel => exact ⟨k + 1, by omega, by go_num, HP.out.succ HY.out, below_drewN HBF.out _⟩
          case measure => simp [intOf]; omega
      · have HH : Hid (∀ n, Calls Try.prog 33 #[.slice At offl.length ct, .int .i64 xt] (wx2.drewN n) fun e w' => e = .returned (.bool true) ∧ w' = wx2.drewN n) := fun n => (has_c At offl ct xt _ (hT2.step (hd n)) hct).mono fun e w' h => by rw [hh] at h; exact ⟨h.1, h.2.symm⟩
        have HY : Hid (fitW offl game (wx ws k) = true) := by show _ = _; rw [HXX.out, HX.out, hh]; rfl
        clear hh hT2 hG2 hd
        go_quiet ((first | (go_at_call 33; exact Calls.quiet_of_same (HH.out _)) | (go_at_call 48; exact Calls.quiet_of_same (HBe.out _))))
        go_wp2_with fail
        go_roundw
        case rel => exact ⟨k + 1, by omega, by go_num, HP.out.succ HY.out, below_drewN HBF.out _⟩
        case measure => simp [intOf]; omega
    · obtain rfl : k = ws.length := by omega
      have HA : Hid (fitG ws offl game = true) := allB_true HP.out
      clear hWr hTr hGr
      go_wp2_with fail
      go_ret
      exact ⟨ret_bool HA.out.symm, HB0.out.trans (HBr.out.mono HB0.out.size)⟩
end Go.Proofs.Ytadjkinpimmhkaa
