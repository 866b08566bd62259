/-
  The reference's IsGame, and what it says together with Fits.
-/
import Derived.Test.YtadjkinpimmhkaaProveG
import Derived.Test.YtadjkinpimmhkaaRef3
namespace Go.Proofs.Ytadjkinpimmhkaa
open Go.RowKit
set_option linter.unusedSimpArgs false
set_option linter.unusedVariables false

/-- Are the balls of a frame such as a frame can have? -/
def isR (xs : List Int) : Bool :=
  decide (xs.length ≠ 0) && (inB (ix xs 0) 0 10 && (if ix xs 0 = 10 then decide (xs.length = 1) else decide (xs.length = 2) && inB (ix xs 1) 0 (10 - ix xs 0)))
noncomputable def isG (m : Nat) (game : List (List Int)) : Bool := decide (game.length = m) && allB game.length fun f => isR (rx game f)
theorem isG_no {m : Nat} {game : List (List Int)} {k : Nat} (hk : k < game.length) (h : isR (rx game k) = false) : isG m game = false := by
  unfold isG
  rw [allB_false hk h, Bool.and_false]
theorem isG_yes {m : Nat} {game : List (List Int)} (hl : game.length = m) (h : AllB game.length fun f => isR (rx game f)) : isG m game = true := by
  unfold isG
  rw [allB_true h, decide_eq_true hl]
  rfl
theorem isG_len {m : Nat} {game : List (List Int)} (hl : game.length ≠ m) : isG m game = false := by
  unfold isG
  rw [decide_eq_false hl]
  rfl

set_option maxRecDepth 100000 in
set_option maxHeartbeats 16000000 in
theorem isGame_c (A Ag : Option Addr) (n c cg m : Nat) (game : List (List Int)) (w : World) (hg : Grd w.heap.size w Ag game) (hcg : game.length ≤ cg ∧ cg ≤ 9223372036854775807) :
    Calls Try.prog 44 #[.agg #[.int .i64 (m : Int), .slice A n c], .slice Ag game.length cg] w (Ans w (.bool (isG m game))) := by
  have hb0 : Below w.heap.size w (w.alloc (.cells #[.int .i64 (m : Int), .slice A n c] 24)) := (Below.refl _ _).alloc (Nat.le_refl _) _
  have k0 : (w.alloc (.cells #[.int .i64 (m : Int), .slice A n c] 24)).cell? ⟨w.heap.size, 0, none⟩ = some (.int .i64 (m : Int)) := by simp
  have HB0 := Lib.hid hb0
  have HG := Lib.hid (hg.step hb0)
  clear hb0 hg
  by_cases hgl : game.length = m
  · have hgb : ((game.length : Int) != (m : Int)) = false := bne_eq_false_iff_eq.2 (by omega)
    have HGL := Lib.hid hgl
    clear hgl
    go_enter Try.func44, Try.ntmps44
    go_wp2_with fail
    generalize w.alloc (.cells #[.int .i64 (m : Int), .slice A n c] 24) = W0 at *
    go_loopw [5] (fun i wr => ∃ k : Nat, k ≤ game.length ∧ i = .int .i64 k ∧ AllB k (fun f => isR (rx game f)) ∧ Below W0.heap.size W0 wr) (fun i _ => game.length - (intOf i).toNat)
    case atStart => exact ⟨0, by omega, rfl, fun j hj => by omega, Below.refl _ _⟩
    case round =>
      obtain ⟨k, hk, rfl, hall, hbr⟩ := hrel
      have HALL := Lib.hid hall
      have HBW := Lib.hid hbr
      have HBX : Hid (Below w.heap.size w wr) := HB0.out.trans (hbr.mono HB0.out.size)
      have HGr := Lib.hid (HG.out.step hbr)
      have k0r := cell_of_ans hbr k0
      clear hall hbr k0
      by_cases h1 : k < game.length
      · have h1i : (k : Int) < (game.length : Int) := by omega
        obtain ⟨bg, og, Ax, cx, rfl, _, hc0, hcx, hcx2, hi⟩ := HGr.out.at_ h1
        have HPR : Hid (isR (rx game k) = (decide ((rx game k).length ≠ 0) && (inB (ix (rx game k) 0) 0 10 && (if ix (rx game k) 0 = 10 then decide ((rx game k).length = 1) else decide ((rx game k).length = 2) && inB (ix (rx game k) 1) 0 (10 - ix (rx game k) 0))))) := rfl
        obtain ⟨xs, hxs⟩ : ∃ xs, xs = rx game k := ⟨_, rfl⟩
        rw [← hxs] at hc0 hcx hi HPR
        have HXS := Lib.hid hxs
        have HI := Lib.hid hi
        clear hi hxs
        by_cases hl0 : xs.length = 0
        · have hl0b : ((xs.length : Int) == 0) = true := by rw [hl0]; rfl
          have HNO : Hid (isG m game = false) := isG_no h1 (by rw [← HXS.out, HPR.out, hl0]; rfl)
          clear HPR hl0
          go_wp2_with fail
          go_ret
          exact ⟨ret_bool HNO.out.symm, HBX.out⟩
        · have hl0b : ((xs.length : Int) == 0) = false := beq_eq_false_iff_ne.2 (by omega)
          obtain ⟨bx, ox, rfl, _, x0c⟩ := HI.out.at_ (k := 0) (by omega)
          have hx0p : 0 < xs.length := by omega
          have hx0pi : (0 : Int) < (xs.length : Int) := by omega
          have hd0 : decide (xs.length ≠ 0) = true := decide_eq_true hl0
          obtain ⟨x0, hx0⟩ : ∃ x0, x0 = ix xs 0 := ⟨_, rfl⟩
          rw [← hx0, Nat.add_zero] at x0c
          rw [← hx0, hd0] at HPR
          clear hx0 hd0 hl0
          cases t2 : inB x0 0 10
          · have HNO : Hid (isG m game = false) := isG_no h1 (by rw [← HXS.out, HPR.out, t2]; rfl)
            clear HPR
            go_wp2_with (go_at_call 65; refine (in_c _ _ _ _).mono ?_; rintro e w9 ⟨rfl, rfl⟩)
            go_ret
            exact ⟨ret_bool HNO.out.symm, HBX.out⟩
          · obtain ⟨x00, x01⟩ := (inB_eq _ _ _).1 t2
            by_cases h10 : x0 = 10
            · have h10b : (x0 == 10) = true := by simp [h10]
              by_cases hl1 : xs.length = 1
              · have hl1b : ((xs.length : Int) != 1) = false := by rw [hl1]; rfl
                have HY : Hid (isR (rx game k) = true) := by show _ = _; rw [← HXS.out, HPR.out, t2, if_pos h10, hl1]; rfl
                clear HPR hl1 h10
                go_wp2_with (go_at_call 65; refine (in_c _ _ _ _).mono ?_; rintro e w9 ⟨rfl, rfl⟩)
                go_roundw
                case rel => exact ⟨k + 1, by omega, by go_num, HALL.out.succ HY.out, HBW.out⟩
                case measure => simp [intOf]; omega
              · have hl1b : ((xs.length : Int) != 1) = true := by simp; omega
                have HNO : Hid (isG m game = false) := isG_no h1 (by rw [← HXS.out, HPR.out, t2, if_pos h10, decide_eq_false hl1]; rfl)
                clear HPR hl1 h10
                go_wp2_with (go_at_call 65; refine (in_c _ _ _ _).mono ?_; rintro e w9 ⟨rfl, rfl⟩)
                go_ret
                exact ⟨ret_bool HNO.out.symm, HBX.out⟩
            · have h10b : (x0 == 10) = false := by simp [h10]
              rw [if_neg h10] at HPR
              by_cases hl2 : xs.length = 2
              · have hl2b : ((xs.length : Int) != 2) = false := by rw [hl2]; rfl
                obtain ⟨bx1, ox1, e1, _, x1c⟩ := HI.out.at_ (k := 1) (by omega)
                injection e1 with e1
                injection e1 with e1 e2
                subst e1 e2
                obtain ⟨x1, hx1⟩ : ∃ x1, x1 = ix xs 1 := ⟨_, rfl⟩
                rw [← hx1] at x1c HPR
                have hx1p : 1 < xs.length := by omega
                have hx1pi : (1 : Int) < (xs.length : Int) := by omega
                obtain ⟨y, hy⟩ : ∃ y, y = 10 - x0 := ⟨_, rfl⟩
                rw [← hy] at HPR
                have z1 : IntKind.i64.wrap (10 - x0) = y := by rw [hy]; exact IntWalk.i64_in _ (by omega)
                clear hy
                cases t3 : inB x1 0 y
                · have HNO : Hid (isG m game = false) := isG_no h1 (by rw [← HXS.out, HPR.out, t2, t3, hl2]; rfl)
                  have HWI : Hid (∀ W, Calls Try.prog 65 #[.int .i64 x1, .int .i64 0, .int .i64 y] W fun e w' => e = .returned (.bool false) ∧ w' = W) := fun W => (in_c _ _ _ W).mono fun e w' h => by rw [t3] at h; exact ⟨h.1, h.2.symm⟩
                  clear HPR hl2 h10 hx1 t3
                  go_upto_region 11 with (go_at_call 65; refine (in_c _ _ _ _).mono ?_; rintro e w9 ⟨rfl, rfl⟩)
                  go_quiet ((first | (go_at_call 65; exact Calls.quiet_of_same (HWI.out _))))
                  go_wp2_with fail
                  go_ret
                  exact ⟨ret_bool HNO.out.symm, below_drewN HBX.out _⟩
                · have HY : Hid (isR (rx game k) = true) := by show _ = _; rw [← HXS.out, HPR.out, t2, t3, hl2]; rfl
                  have HWI : Hid (∀ W, Calls Try.prog 65 #[.int .i64 x1, .int .i64 0, .int .i64 y] W fun e w' => e = .returned (.bool true) ∧ w' = W) := fun W => (in_c _ _ _ W).mono fun e w' h => by rw [t3] at h; exact ⟨h.1, h.2.symm⟩
                  clear HPR hl2 h10 hx1 t3
                  go_upto_region 11 with (go_at_call 65; refine (in_c _ _ _ _).mono ?_; rintro e w9 ⟨rfl, rfl⟩)
                  go_quiet ((first | (go_at_call 65; exact Calls.quiet_of_same (HWI.out _))))
                  go_wp2_with fail
                  go_roundw
                  case rel =>
                    exact ⟨k + 1, by omega, by go_num, HALL.out.succ HY.out, below_drewN HBW.out _⟩
                  case measure => simp [intOf]; omega
              · have hl2b : ((xs.length : Int) != 2) = true := by simp; omega
                have HNO : Hid (isG m game = false) := isG_no h1 (by rw [← HXS.out, HPR.out, t2, decide_eq_false hl2]; rfl)
                clear HPR hl2 h10
                go_upto_region 11 with (go_at_call 65; refine (in_c _ _ _ _).mono ?_; rintro e w9 ⟨rfl, rfl⟩)
                go_quiet (fail)
                go_wp2_with fail
                go_ret
                exact ⟨ret_bool HNO.out.symm, below_drewN HBX.out _⟩
      · obtain rfl : k = game.length := by omega
        have h1i : ¬ (game.length : Int) < (game.length : Int) := by omega
        have HYES : Hid (isG m game = true) := isG_yes HGL.out HALL.out
        go_wp2_with fail
        go_ret
        exact ⟨ret_bool HYES.out.symm, HBX.out⟩
  · have hgb : ((game.length : Int) != (m : Int)) = true := by simp; omega
    have HNO : Hid (isG m game = false) := isG_len hgl
    clear hgl
    go_enter Try.func44, Try.ntmps44
    go_wp2_with fail
    go_ret
    exact ⟨ret_bool HNO.out.symm, HB0.out⟩
end Go.Proofs.Ytadjkinpimmhkaa
