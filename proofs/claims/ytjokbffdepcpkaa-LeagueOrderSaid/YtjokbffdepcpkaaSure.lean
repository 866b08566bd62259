/-
  Surely.
-/
import Derived.Test.YtjokbffdepcpkaaCan
namespace Go.Proofs.Ytjokbffdepcpkaa
open Go.RowKit
set_option linter.unusedSimpArgs false
set_option linter.unusedVariables false

attribute [local go_sem] Oper.semAt_some
/-- Can nobody else reach more than a team has? -/
noncomputable def sureB (l : Lg) (p : Nat) : Bool := allB l.teams.toNat fun o => decide (o = p) || decide (reachF l (o : Int) ≤ sumsF l p)
noncomputable def sureL (l : Lg) (tm : Int) : Bool := decide (askedL l tm = 0) && sureB l tm.toNat
theorem idx102_c (f : Nat → Int) (p : Nat) (hp : p < 6) (W : World) : (Instr.index 102 (.agg #[.int .i64 (f 0), .int .i64 (f 1), .int .i64 (f 2), .int .i64 (f 3), .int .i64 (f 4), .int .i64 (f 5)]) (.int .i64 (p : Int))).run Try.prog W = .ok (.int .i64 (f p)) W := by
  rcases (by omega : p = 0 ∨ p = 1 ∨ p = 2 ∨ p = 3 ∨ p = 4 ∨ p = 5) with rfl | rfl | rfl | rfl | rfl | rfl
  · exact idx102_0 _ _ _ _ _ _ W
  · exact idx102_1 _ _ _ _ _ _ W
  · exact idx102_2 _ _ _ _ _ _ W
  · exact idx102_3 _ _ _ _ _ _ W
  · exact idx102_4 _ _ _ _ _ _ W
  · exact idx102_5 _ _ _ _ _ _ W
set_option maxRecDepth 100000 in
set_option maxHeartbeats 4000000 in
theorem sure44_c (l : Lg) (tm : Int) (A : Option Addr) (c : Nat) (w : World) (hl : Gms w.heap.size w A l.games) (hc : l.games.length ≤ c ∧ c ≤ 9223372036854775807) :
    Calls Try.prog 44 #[.agg #[.int .i64 l.teams, .slice A l.games.length c], .int .i64 tm] w (Ans w (.tuple #[.bool (sureL l tm), .int .i64 (askedL l tm)])) := by
  have hb : Below w.heap.size w (w.alloc (.cells #[.int .i64 l.teams, .slice A l.games.length c] 32)) := (Below.refl _ _).alloc (Nat.le_refl _) _
  have HB := Lib.hid hb
  have HL := Lib.hid (hl.step hb)
  have k0 : (w.alloc (.cells #[.int .i64 l.teams, .slice A l.games.length c] 32)).cell? ⟨w.heap.size, 0, none⟩ = some (.int .i64 l.teams) := by simp
  have k1 : (w.alloc (.cells #[.int .i64 l.teams, .slice A l.games.length c] 32)).cell? ⟨w.heap.size, 1, none⟩ = some (.slice A l.games.length c) := by simp
  have HAS := Lib.hid (fun (W : World) (h : Gms W.heap.size W A l.games) => asked69_c l tm A c W h hc)
  clear hb hl
  by_cases h1 : askedL l tm = 0
  rotate_left 1
  · have HC : Hid (sureL l tm = false) := by show _ = _; unfold sureL; simp [h1]
    have q1 : (askedL l tm != 0) = true := by simp [h1]
    rw [HC.out]
    clear h1 HC
    generalize askedL l tm = fl at *
    go_enter Try.func44, Try.ntmps44
    go_wp2_with fail
    generalize (w.alloc (.cells #[.int .i64 l.teams, .slice A l.games.length c] 32)) = x1 at *
    refine (HAS.out _ HL.out).mono ?_
    rintro e x2 ⟨rfl, hb⟩
    replace HB := Lib.hid (HB.out.trans (hb.mono HB.out.size))
    clear hb
    go_wp2_with fail
    refine bodyPost_ret (results_tmp2 rfl _ _ _) rfl ?_
    exact ⟨rfl, HB.out⟩
  · obtain ⟨hv, p, rfl, hp⟩ := asked_zero h1
    have HRC := Lib.hid (fun (o : Nat) (ho : (o : Int) < l.teams) (W : World) (h : Gms W.heap.size W A l.games) => race70_c l o A c W hv ho h hc)
    have HSU := Lib.hid (fun (W : World) (h : Gms W.heap.size W A l.games) => sums61_c l A c W h hc hv)
    have HC : Hid (sureL l (p : Int) = sureB l p) := by show _ = _; unfold sureL; rw [decide_eq_true h1, Bool.true_and, Int.toNat_natCast]
    have hT6 := hv.t6
    have hp6 : p < 6 := by omega
    have hix := fun W => idx102_c (sumsF l) p hp6 W
    have HNO : Hid (∀ o, o < l.teams.toNat → ¬ o = p → ¬ reachF l (o : Int) ≤ sumsF l p → sureB l p = false) := fun o h1 h2 h3 => allB_false h1 (by rw [decide_eq_false h2, decide_eq_false h3]; rfl)
    have HYES : Hid (AllB l.teams.toNat (fun o => decide (o = p) || decide (reachF l (o : Int) ≤ sumsF l p)) → sureB l p = true) := fun h => allB_true h
    rw [h1] at HAS ⊢
    rw [HC.out]
    clear hv h1 HC
    go_enter Try.func44, Try.ntmps44
    go_wp2_with fail
    generalize (w.alloc (.cells #[.int .i64 l.teams, .slice A l.games.length c] 32)) = x1 at *
    refine (HAS.out _ HL.out).mono ?_
    rintro e x2 ⟨rfl, hb⟩
    replace HL := Lib.hid (HL.out.step hb)
    replace HB := Lib.hid (HB.out.trans (hb.mono HB.out.size))
    replace k0 := cell_of_ans hb k0
    replace k1 := cell_of_ans hb k1
    clear hb
    go_wp2_with fail
    refine (HSU.out _ HL.out).mono ?_
    rintro e x3 ⟨rfl, hb⟩
    replace HL := Lib.hid (HL.out.step hb)
    replace HB := Lib.hid (HB.out.trans (hb.mono HB.out.size))
    replace k0 := cell_of_ans hb k0
    replace k1 := cell_of_ans hb k1
    clear hb
    unfold six
    go_wp2_with fail
    clear hix
    go_loopw [21] (fun x wr => ∃ o : Nat, o ≤ l.teams.toNat ∧ x = .int .i64 (o : Int) ∧ AllB o (fun o => decide (o = p) || decide (reachF l (o : Int) ≤ sumsF l p)) ∧ Below x3.heap.size x3 wr) (fun x _ => l.teams.toNat - (intOf x).toNat)
    case atStart => exact ⟨0, by omega, rfl, fun j h => by omega, Below.refl _ _⟩
    case round =>
      obtain ⟨o, ho, rfl, hall, hb⟩ := hrel
      have HALL := Lib.hid hall
      have HBR := Lib.hid hb
      have i0 := cell_of_ans hb k0
      have i1 := cell_of_ans hb k1
      have HLr := Lib.hid (HL.out.step hb)
      clear hall hb
      by_cases h1 : o < l.teams.toNat
      · have h1i : (o : Int) < l.teams := by omega
        have hwo : IntKind.i64.wrap ((o : Int) + 1) = (o : Int) + 1 := IntWalk.i64_in _ (by omega)
        by_cases ep : o = p
        · have e1 : ((o : Int) != (p : Int)) = false := by simp [ep]
          have HEP := Lib.hid ep
          clear ep
          go_wp2_with fail
          go_roundw
          case rel => exact ⟨o + 1, by omega, by go_num, HALL.out.succ (by rw [decide_eq_true HEP.out]; rfl), HBR.out⟩
          case measure => simp [intOf]; omega
        · have e1 : ((o : Int) != (p : Int)) = true := by simp [bne]; omega
          have HRO := Lib.hid (HRC.out o h1i wr HLr.out)
          have HNOo := Lib.hid (HNO.out o h1 ep)
          have HSO := Lib.hid (fun (h : reachF l (o : Int) ≤ sumsF l p) => HALL.out.succ (by rw [decide_eq_true h, Bool.or_true]))
          clear ep HNO
          go_wp2_with fail
          refine HRO.out.mono ?_
          rintro e x5 ⟨q, OA, oc, rfl, hq, hra, hom, hne, hb⟩
          obtain ⟨-, r1, -, -, -, -⟩ := hra.cells
          have HBW := Lib.hid (HBR.out.trans (hb.mono HBR.out.size))
          clear hra hom hne hb
          generalize reachF l (o : Int) = ro at *
          by_cases hgt : sumsF l p < ro
          · have hgd : decide (sumsF l p < ro) = true := decide_eq_true hgt
            have HR := Lib.hid (HNOo.out (by omega))
            have HBZ : Hid (Below w.heap.size w x5) := HB.out.trans (HBW.out.mono HB.out.size)
            clear hgt
            go_wp2_with fail
            refine bodyPost_ret (results_tmp2 rfl _ _ _) rfl ?_
            exact ⟨by rw [HR.out]; rfl, HBZ.out⟩
          · have hgd : decide (sumsF l p < ro) = false := decide_eq_false hgt
            have HS := Lib.hid (HSO.out (by omega))
            clear hgt
            go_wp2_with fail
            go_roundw
            case rel => exact ⟨o + 1, by omega, by go_num, HS.out, HBW.out⟩
            case measure => simp [intOf]; omega
      · obtain rfl : o = l.teams.toNat := by omega
        have h1i : ¬ ((l.teams.toNat : Nat) : Int) < l.teams := by omega
        have HR := Lib.hid (HYES.out HALL.out)
        have HBZ : Hid (Below w.heap.size w wr) := HB.out.trans (HBR.out.mono HB.out.size)
        go_wp2_with fail
        refine bodyPost_ret (results_tmp2 rfl _ _ _) rfl ?_
        exact ⟨by rw [HR.out]; rfl, HBZ.out⟩
end Go.Proofs.Ytjokbffdepcpkaa
