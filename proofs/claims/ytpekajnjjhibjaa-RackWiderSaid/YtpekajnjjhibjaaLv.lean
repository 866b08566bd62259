/-
  idle: whether bits say nothing of links that are sure.
-/
import Derived.Test.YtpekajnjjhibjaaMp
namespace Go.Proofs.Ytpekajnjjhibjaa
open Go.RowKit
set_option linter.unusedSimpArgs false
set_option linter.unusedVariables false

attribute [local go_sem] Oper.semAt_some
set_option maxRecDepth 100000 in
set_option maxHeartbeats 4000000 in
theorem idle_c (r : Rk) (A : Option Addr) (c pins b : Nat) (w : World) (hr : Ok r) (hl : Lks w.heap.size w A r.links) (hc : r.links.length ≤ c ∧ c ≤ 9223372036854775807) :
    Calls Try.prog 87 #[.agg #[.int .i64 r.rows, .int .i64 r.mid, .int .i64 r.gap, .int .i64 r.reach, .slice A r.links.length c, .int .u16 (pins : Int)], .int .i64 (b : Int)] w (Ans w (.bool (idleB r.links b))) := by
  have HB := Lib.hid (Below.refl w.heap.size w)
  have HL := Lib.hid hl
  have hlen := hr.len
  clear hl
  have hb : Below w.heap.size w (w.alloc (.cells #[.int .i64 r.rows, .int .i64 r.mid, .int .i64 r.gap, .int .i64 r.reach, .slice A r.links.length c, .int .u16 (pins : Int)] 102)) := (Below.refl _ _).alloc (Nat.le_refl _) _
  replace HL := Lib.hid (HL.out.step hb)
  replace HB := Lib.hid (HB.out.trans (hb.mono HB.out.size))
  clear hb
  have k4 : (w.alloc (.cells #[.int .i64 r.rows, .int .i64 r.mid, .int .i64 r.gap, .int .i64 r.reach, .slice A r.links.length c, .int .u16 (pins : Int)] 102)).cell? ⟨w.heap.size, 4, none⟩ = some (.slice A r.links.length c) := by simp
  have hbi := some_bit b
  go_enter Try.func87, Try.ntmps87
  have HBI := Lib.hid hbi
  clear hbi
  go_wp2_with fail
  generalize (w.alloc (.cells #[.int .i64 r.rows, .int .i64 r.mid, .int .i64 r.gap, .int .i64 r.reach, .slice A r.links.length c, .int .u16 (pins : Int)] 102)) = x1 at *
  go_loopw [11] (fun i wr => ∃ k : Nat, k ≤ r.links.length ∧ i = .int .i64 k ∧ AllB k (fun i => !((lx r.links i).s && b.testBit i)) ∧ Below x1.heap.size x1 wr) (fun i _ => r.links.length - (intOf i).toNat)
  case atStart => exact ⟨0, by omega, rfl, fun j hj => by omega, Below.refl _ _⟩
  case round =>
    obtain ⟨k, hk, rfl, hA, hb⟩ := hrel
    have HA := Lib.hid hA
    clear hA
    by_cases h1 : k < r.links.length
    · obtain ⟨b1, off, rfl, hb1, c1, c2, c3⟩ := (HL.out.step hb).at_ h1
      have hz := hb.size
      have h1i : (k : Int) < (r.links.length : Int) := by omega
      have hk64 : k < 64 := by omega
      have hb2 : Below x1.heap.size x1 (wr.alloc (.cells #[.int .i64 (lx r.links k).f, .int .i64 (lx r.links k).t, .bool (lx r.links k).s] 99)) := hb.alloc hz _
      have HB2 := Lib.hid hb2
      have hbk := HBI.out k
      have HNO : Hid ((!((lx r.links k).s && b.testBit k)) = false → idleB r.links b = false) := fun h => allB_false h1 h
      have HYE : Hid ((!((lx r.links k).s && b.testBit k)) = true → AllB (k + 1) (fun i => !((lx r.links i).s && b.testBit i))) := fun h => HA.out.succ h
      generalize lx r.links k = x at *
      obtain ⟨xf, xt, xs⟩ := x
      dsimp only at c1 c2 c3 HB2 HNO HYE
      clear hb hb2
      cases xs
      · have HY := Lib.hid (HYE.out rfl)
        clear hbk
        go_wp2_with fail
        go_roundw
        case rel => exact ⟨k + 1, by omega, by go_num, HY.out, HB2.out⟩
        case measure => simp [intOf]; omega
      · cases ht : b.testBit k
        · have HY := Lib.hid (HYE.out (by rw [ht]; rfl))
          rw [ht] at hbk
          clear ht HNO HYE
          go_wp2_with fail
          go_roundw
          case rel => exact ⟨k + 1, by omega, by go_num, HY.out, HB2.out⟩
          case measure => simp [intOf]; omega
        · have HN := Lib.hid (HNO.out (by rw [ht]; rfl))
          rw [ht] at hbk
          clear ht HNO HYE
          go_wp2_with fail
          go_ret
          exact ⟨ret_bool HN.out.symm, HB.out.trans (HB2.out.mono HB.out.size)⟩
    · obtain rfl : k = r.links.length := by omega
      go_wp2_with fail
      go_ret
      exact ⟨ret_bool (allB_true HA.out).symm, HB.out.trans (hb.mono HB.out.size)⟩
end Go.Proofs.Ytpekajnjjhibjaa
