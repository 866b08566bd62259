/-
  The reference's Has, Rising, Fault.
-/
import Derived.Test.YtadjkinpimmhkaaRanges
namespace Go.Proofs.Ytadjkinpimmhkaa
open Go.RowKit
set_option linter.unusedSimpArgs false
set_option linter.unusedVariables false

/-- Is a number in a list? -/
def hasB (ts : List Int) (n : Int) : Bool := ts.any fun t => t == n
theorem hasB_at {ts : List Int} {n : Int} {k : Nat} (h : k < ts.length) (hk : ix ts k = n) : hasB ts n = true := by
  simp only [hasB, List.any_eq_true]
  exact ⟨ts[k], List.getElem_mem h, by rw [ix_lt h] at hk; simp [hk]⟩
theorem hasB_no {ts : List Int} {n : Int} (h : ∀ k, k < ts.length → ix ts k ≠ n) : hasB ts n = false := by
  refine Bool.eq_false_iff.2 fun h2 => ?_
  simp only [hasB, List.any_eq_true, beq_iff_eq] at h2
  obtain ⟨x, hx, rfl⟩ := h2
  obtain ⟨k, hk, rfl⟩ := List.getElem_of_mem hx
  exact h k hk (ix_lt hk)

set_option maxHeartbeats 1000000 in
theorem has_c {B : Nat} (At : Option Addr) (ts : List Int) (ct : Nat) (n : Int) (w : World) (ht : Ints B w At ts) (hct : ts.length ≤ ct ∧ ct ≤ 9223372036854775807) :
    Calls Try.prog 33 #[.slice At ts.length ct, .int .i64 n] w (Same w (.bool (hasB ts n))) := by
  have HT := Lib.hid ht
  clear ht
  go_enter Try.func33, Try.ntmps33
  go_wp2_with fail
  go_loop [5] (fun i => ∃ k : Nat, k ≤ ts.length ∧ i = .int .i64 k ∧ ∀ j, j < k → ix ts j ≠ n) (fun i => ts.length - (intOf i).toNat)
  case atStart => exact ⟨0, by omega, rfl, fun j hj => by omega⟩
  case round =>
    obtain ⟨k, hk, rfl, hp⟩ := hrel
    have HP := Lib.hid hp
    clear hp
    by_cases h1 : k < ts.length
    · obtain ⟨b, off, rfl, _, hc⟩ := HT.out.at_ h1
      by_cases he : ix ts k = n
      · have HR := Lib.hid (hasB_at h1 he)
        have he' : (ix ts k == n) = true := by simp [he]
        clear he
        go_wp2_with fail
        go_ret
        exact ⟨ret_bool HR.out.symm, rfl⟩
      · have he' : (ix ts k == n) = false := by simp [he]
        have HE := Lib.hid he
        clear he
        go_wp2_with fail
        go_round
        case rel => exact ⟨k + 1, by omega, by go_num, fun j hj => by
          by_cases e : j = k
          · subst e; exact HE.out
          · exact HP.out j (by omega)⟩
        case measure => simp [intOf]; omega
    · have HR := Lib.hid (hasB_no (ts := ts) (n := n) fun j hj => HP.out j (by omega))
      go_wp2_with fail
      go_ret
      exact ⟨ret_bool HR.out.symm, rfl⟩

set_option maxRecDepth 100000 in
set_option maxHeartbeats 8000000 in
theorem fault_c (A : Option Addr) (ws : List Wd) (c : Nat) (frn : Int) (w : World) (hw : Wds w.heap.size w A ws) (hc : ws.length ≤ c ∧ c ≤ 9223372036854775807) :
    Calls Try.prog 56 #[.agg #[.int .i64 frn, .slice A ws.length c]] w (Ans w (.int .i64 (laneErr frn ws))) := by
  have hb0 : Below w.heap.size w (w.alloc (.cells #[.int .i64 frn, .slice A ws.length c] 24)) := (Below.refl _ _).alloc (Nat.le_refl _) _
  have HB0 := Lib.hid hb0
  have HW := Lib.hid (hw.step hb0)
  have k0 : (w.alloc (.cells #[.int .i64 frn, .slice A ws.length c] 24)).cell? ⟨w.heap.size, 0, none⟩ = some (.int .i64 frn) := by simp
  have k1 : (w.alloc (.cells #[.int .i64 frn, .slice A ws.length c] 24)).cell? ⟨w.heap.size, 1, none⟩ = some (.slice A ws.length c) := by simp
  clear hb0 hw
  by_cases h1 : ws.length ≤ 30
  · cases h2 : inB frn 1 5
    · have HR : Hid (laneErr frn ws = 1) := by show _ = _; simp [laneErr, h1, h2]
      go_enter Try.func56, Try.ntmps56
      go_wp2_with (go_at_call 65; refine (in_c _ _ _ _).mono ?_; rintro e w1 ⟨rfl, rfl⟩)
      go_ret
      exact ⟨ret_int HR.out.symm, HB0.out⟩
    · obtain ⟨hf1, hf5⟩ := (inB_eq _ _ _).1 h2
      have HR : Hid (laneErr frn ws = if allB ws.length (fun k => wordB frn (wx ws k)) then 0 else 1) := by show _ = _; simp [laneErr, h1, h2]
      go_enter Try.func56, Try.ntmps56
      go_wp2_with (go_at_call 65; refine (in_c _ _ _ _).mono ?_; rintro e w1 ⟨rfl, rfl⟩)
      generalize w.alloc (.cells #[.int .i64 frn, .slice A ws.length c] 24) = W0 at k0 k1 HB0 HW ⊢
      go_loopw [3] (fun i wr => ∃ k : Nat, k ≤ ws.length ∧ i = .int .i64 k ∧ AllB k (fun k => wordB frn (wx ws k)) ∧ Below W0.heap.size W0 wr) (fun i _ => ws.length - (intOf i).toNat)
      case atStart => exact ⟨0, by omega, rfl, fun j hj => by omega, Below.refl _ _⟩
      case round =>
        obtain ⟨k, hk, rfl, hp, hbr⟩ := hrel
        have HP := Lib.hid hp
        have HBr := Lib.hid hbr
        have q0 := cell_of_ans hbr k0
        have q1 := cell_of_ans hbr k1
        have hWr := HW.out.step hbr
        have hlt : w.heap.size < wr.heap.size := World.block_lt_of_cell? wr _ q0
        clear hp hbr
        by_cases hk1 : k < ws.length
        · obtain ⟨b, off, rfl, _, c1, c2, c3, c4, c5⟩ := hWr.at_ hk1
          have HX : Hid (wordB frn (wx ws k) = (inB (wx ws k).fr 0 (frn - 1) && (inB (wx ws k).ba 0 1 && (inB (wx ws k).te 0 3 && (decide (0 ≤ (wx ws k).lo) && (decide ((wx ws k).lo ≤ (wx ws k).hi) && decide ((wx ws k).hi ≤ 10))))))) := rfl
          clear hWr
          obtain ⟨x, hx⟩ : ∃ x, wx ws k = x := ⟨_, rfl⟩
          rw [hx] at c1 c2 c3 c4 c5 HX
          obtain ⟨xf, xb, xt, xl, xh⟩ := x
          have HXX := Lib.hid hx
          clear hx
          dsimp only at c1 c2 c3 c4 c5 HX
          have hw0 : W0.heap.size ≤ wr.heap.size := HBr.out.size
          cases t0 : inB xf 0 (frn - 1)
          · have HNO : Hid (wordB frn (wx ws k) = false) := by
              show _ = _
              rw [HXX.out, HX.out]
              rw [t0]; rfl
            have HA : Hid (allB ws.length (fun k => wordB frn (wx ws k)) = false) := allB_false hk1 HNO.out
            go_wp2_with (go_at_call 65; refine (in_c _ _ _ _).mono ?_; rintro e w1 ⟨rfl, rfl⟩)
            go_ret
            exact ⟨ret_int (by rw [HR.out, HA.out]; rfl), HB0.out.trans ((HBr.out.alloc hw0 _).mono HB0.out.size)⟩
          · cases t1 : inB xb 0 1
            · have HNO : Hid (wordB frn (wx ws k) = false) := by
                show _ = _
                rw [HXX.out, HX.out]
                rw [t1, Bool.false_and, Bool.and_false]
              have HA : Hid (allB ws.length (fun k => wordB frn (wx ws k)) = false) := allB_false hk1 HNO.out
              go_wp2_with (go_at_call 65; refine (in_c _ _ _ _).mono ?_; rintro e w1 ⟨rfl, rfl⟩)
              go_ret
              exact ⟨ret_int (by rw [HR.out, HA.out]; rfl), HB0.out.trans ((HBr.out.alloc hw0 _).mono HB0.out.size)⟩
            · cases t2 : inB xt 0 3
              · have HNO : Hid (wordB frn (wx ws k) = false) := by
                  show _ = _
                  rw [HXX.out, HX.out]
                  rw [t2, Bool.false_and, Bool.and_false, Bool.and_false]
                have HA : Hid (allB ws.length (fun k => wordB frn (wx ws k)) = false) := allB_false hk1 HNO.out
                go_wp2_with (go_at_call 65; refine (in_c _ _ _ _).mono ?_; rintro e w1 ⟨rfl, rfl⟩)
                go_ret
                exact ⟨ret_int (by rw [HR.out, HA.out]; rfl), HB0.out.trans ((HBr.out.alloc hw0 _).mono HB0.out.size)⟩
              · cases t3 : inB xl 0 xh
                · have HNO : Hid (wordB frn (wx ws k) = false) := by
                    show _ = _
                    rw [HXX.out, HX.out]
                    simp only [inB, Bool.and_eq_false_iff, decide_eq_false_iff_not] at t3 ⊢; omega
                  have HA : Hid (allB ws.length (fun k => wordB frn (wx ws k)) = false) := allB_false hk1 HNO.out
                  go_wp2_with (go_at_call 65; refine (in_c _ _ _ _).mono ?_; rintro e w1 ⟨rfl, rfl⟩)
                  go_ret
                  exact ⟨ret_int (by rw [HR.out, HA.out]; rfl), HB0.out.trans ((HBr.out.alloc hw0 _).mono HB0.out.size)⟩
                · by_cases t4 : xh ≤ 10
                  · obtain ⟨y0, y1⟩ := (inB_eq _ _ _).1 t3
                    have HY : Hid (wordB frn (wx ws k) = true) := by
                      show _ = _
                      rw [HXX.out, HX.out, t0, t1, t2, decide_eq_true y0, decide_eq_true y1, decide_eq_true t4]
                      rfl
                    go_wp2_with (go_at_call 65; refine (in_c _ _ _ _).mono ?_; rintro e w1 ⟨rfl, rfl⟩)
                    go_roundw
                    case rel => exact ⟨k + 1, by omega, by go_num, HP.out.succ HY.out, HBr.out.alloc hw0 _⟩
                    case measure => simp [intOf]; omega
                  · have HNO : Hid (wordB frn (wx ws k) = false) := by
                      show _ = _
                      rw [HXX.out, HX.out]
                      simp only [Bool.and_eq_false_iff, decide_eq_false_iff_not]; omega
                    have HA : Hid (allB ws.length (fun k => wordB frn (wx ws k)) = false) := allB_false hk1 HNO.out
                    go_wp2_with (go_at_call 65; refine (in_c _ _ _ _).mono ?_; rintro e w1 ⟨rfl, rfl⟩)
                    go_ret
                    exact ⟨ret_int (by rw [HR.out, HA.out]; rfl), HB0.out.trans ((HBr.out.alloc hw0 _).mono HB0.out.size)⟩
        · obtain rfl : k = ws.length := by omega
          have HA : Hid (allB ws.length (fun k => wordB frn (wx ws k)) = true) := allB_true HP.out
          clear hWr
          go_wp2_with fail
          go_ret
          exact ⟨ret_int (by rw [HR.out, HA.out]; rfl), HB0.out.trans (HBr.out.mono HB0.out.size)⟩
  · have HR : Hid (laneErr frn ws = 3) := by show _ = _; simp [laneErr, h1]
    go_enter Try.func56, Try.ntmps56
    go_wp2_with fail
    go_ret
    exact ⟨ret_int HR.out.symm, HB0.out⟩
end Go.Proofs.Ytadjkinpimmhkaa
