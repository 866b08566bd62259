/-
  The reference's IsTruth.
-/
import Derived.Test.YtpekajnjjhibjaaE2
import Derived.Test.YtpekajnjjhibjaaB5
namespace Go.Proofs.Ytpekajnjjhibjaa
open Go.RowKit
set_option linter.unusedSimpArgs false
set_option linter.unusedVariables false

attribute [local go_sem] Oper.semAt_some
set_option maxRecDepth 100000 in
set_option maxHeartbeats 4000000 in
theorem isTruth44_c (r : Rk) (A Ab yA sA : Option Addr) (c cb cy cs : Nat) (ys : List Int) (ball : List Rg) (bs : List Bool) (w : World) (hl : Lks w.heap.size w A r.links) (hc : r.links.length ≤ c ∧ c ≤ 9223372036854775807) (hball : Rgs w.heap.size w Ab ball) (hcb : ball.length ≤ cb ∧ cb ≤ 9223372036854775807) (hy : Ints w.heap.size w yA ys) (hcy : ys.length ≤ cy ∧ cy ≤ 9223372036854775807) (hcs : Bls w.heap.size w sA bs) (hcs2 : bs.length ≤ cs ∧ cs ≤ 9223372036854775807) :
    Calls Try.prog 44 #[.agg #[.int .i64 r.rows, .int .i64 r.mid, .int .i64 r.gap, .int .i64 r.reach, .slice A r.links.length c], .slice Ab ball.length cb, .slice yA ys.length cy, .slice sA bs.length cs] w (Ans w (.bool (truthB r ball ys bs))) := by
  have hb : Below w.heap.size w (w.alloc (.cells #[.int .i64 r.rows, .int .i64 r.mid, .int .i64 r.gap, .int .i64 r.reach, .slice A r.links.length c] 24)) := (Below.refl _ _).alloc (Nat.le_refl _) _
  have HB := Lib.hid hb
  have HL := Lib.hid (hl.step hb)
  have HBa := Lib.hid (hball.step hb)
  have HY := Lib.hid (hy.step hb)
  have HC := Lib.hid (hcs.step hb)
  clear hb hl hball hy hcs
  have k4 : (w.alloc (.cells #[.int .i64 r.rows, .int .i64 r.mid, .int .i64 r.gap, .int .i64 r.reach, .slice A r.links.length c] 24)).cell? ⟨w.heap.size, 4, none⟩ = some (.slice A r.links.length c) := by simp
  have HTB : Hid (truthB r ball ys bs = ((decide (ys.length = ball.length) && decide (bs.length = r.links.length)) && (overB ball ys && carryB r.links bs))) := rfl
  by_cases e1 : ys.length = ball.length
  · by_cases e2 : bs.length = r.links.length
    · rw [decide_eq_true e1, decide_eq_true e2] at HTB
      simp only [Bool.true_and] at HTB
      have q1 : ((ys.length : Int) != (ball.length : Int)) = false := by simp [e1]
      have q2 : ((bs.length : Int) != (r.links.length : Int)) = false := by simp [e2]
      have E1 := Lib.hid e1
      have E2 := Lib.hid e2
      clear e1 e2
      go_enter Try.func44, Try.ntmps44
      go_wp2_with fail
      generalize (w.alloc (.cells #[.int .i64 r.rows, .int .i64 r.mid, .int .i64 r.gap, .int .i64 r.reach, .slice A r.links.length c] 24)) = x1 at *
      have lt4 := World.block_lt_of_cell? _ _ k4
      dsimp only at lt4
      go_loopw [9] (fun i wr => ∃ k : Nat, k ≤ ball.length ∧ i = .int .i64 k ∧ AllB k (fun k => inB (ix ys k) (gx ball k).lo (gx ball k).hi) ∧ Below x1.heap.size x1 wr) (fun i _ => ball.length - (intOf i).toNat)
      case atStart => exact ⟨0, by omega, rfl, fun j hj => by omega, Below.refl _ _⟩
      case round =>
        obtain ⟨k, hk, rfl, hall, hbr⟩ := hrel
        have HALL := Lib.hid hall
        have HBR := Lib.hid hbr
        clear hall hbr
        by_cases hk1 : k < ball.length
        · obtain ⟨b1, o1, hA1, hlt1, y0⟩ := (HY.out.below HBR.out).at_ (k := k) (by have := E1.out; omega)
          obtain ⟨b2, o2, hA2, hlt2, c1, c2⟩ := (HBa.out.below HBR.out).at_ hk1
          have hkb : (k : Int) < (ball.length : Int) := by omega
          have hky : (k : Int) < (ys.length : Int) := by have := E1.out; omega
          have hky2 : k < ys.length := by have := E1.out; omega
          have HOV : Hid (∀ b, inB (ix ys k) (gx ball k).lo (gx ball k).hi = b → b = false → overB ball ys = false) := fun b h1 h2 => allB_false hky2 (by rw [← h2, ← h1])
          have HSU : Hid (∀ b, inB (ix ys k) (gx ball k).lo (gx ball k).hi = b → b = true → AllB (k + 1) (fun k => inB (ix ys k) (gx ball k).lo (gx ball k).hi)) := fun b h1 h2 => HALL.out.succ (by rw [← h2, ← h1])
          have HBd : Hid (Below x1.heap.size x1 wr.drew) := HBR.out.trans ((Below.refl wr.heap.size wr).drew.mono HBR.out.size)
          generalize hgx : gx ball k = x at *
          obtain ⟨xl, xh⟩ := x
          dsimp only at c1 c2 HOV HSU
          generalize hyk : ix ys k = yk at *
          subst hA1 hA2
          cases hib : inB yk xl xh
          all_goals
            have HIB := Lib.hid hib
            go_upto_region 6 with fail
            go_region_held3 (fun w' => w'.cell? ⟨b2, o2 + k * 2, none⟩ = some (.int .i64 xl) ∧ w'.cell? ⟨b2, o2 + k * 2 + 1, none⟩ = some (.int .i64 xh) ∧ w'.cell? ⟨b1, o1 + k, none⟩ = some (.int .i64 yk)) (go_keep) (first | (go_at_call 27; refine (in_c _ _ _ _).mono ?_; rintro e w1 ⟨rfl, rfl⟩; rw [HIB.out]))
          · have htr : truthB r ball ys bs = false := by rw [HTB.out, HOV.out _ HIB.out rfl, Bool.false_and]
            go_wp2_with fail
            go_ret
            exact ⟨by first | rfl | (rw [htr]; rfl), HB.out.trans (HBd.out.mono HB.out.size)⟩
          · go_wp2_with fail
            go_roundw
            case rel => exact ⟨k + 1, by omega, by go_num, HSU.out _ HIB.out rfl, HBd.out⟩
            case measure => simp [intOf]; omega
        · obtain rfl : k = ball.length := by omega
          have HOT : Hid (overB ball ys = true) := by
            have h1 := E1.out
            exact allB_true (by rw [h1]; exact HALL.out)
          replace k4 := (HBR.out.cell (p := ⟨w.heap.size, 4, none⟩) lt4).trans k4
          clear hk hk1 HALL
          go_wp2_with fail
          go_loop [10] (fun i => ∃ k : Nat, k ≤ bs.length ∧ i = .int .i64 k ∧ AllB k (fun k => !(lx r.links k).s || bx bs k)) (fun i => bs.length - (intOf i).toNat)
          case atStart => exact ⟨0, by omega, rfl, fun j hj => by omega⟩
          case round =>
            obtain ⟨k, hk, rfl, hall⟩ := hrel
            have HALL := Lib.hid hall
            clear hall
            by_cases hk1 : k < bs.length
            · obtain ⟨b1, o1, hA1, hlt1, y0⟩ := (HC.out.below HBR.out).at_ hk1
              obtain ⟨b2, o2, hA2, hlt2, c1, c2, c3⟩ := (HL.out.below HBR.out).at_ (k := k) (by have := E2.out; omega)
              have hki : (k : Int) < (bs.length : Int) := by omega
              have hkl : (k : Int) < (r.links.length : Int) := by have := E2.out; omega
              have hkl2 : k < r.links.length := by have := E2.out; omega
              have HOV : Hid ((!(lx r.links k).s || bx bs k) = false → carryB r.links bs = false) := fun h2 => allB_false hk1 h2
              have HSU : Hid ((!(lx r.links k).s || bx bs k) = true → AllB (k + 1) (fun k => !(lx r.links k).s || bx bs k)) := fun h2 => HALL.out.succ h2
              generalize hlx : lx r.links k = x at *
              obtain ⟨xf, xt, xs'⟩ := x
              dsimp only at c1 c2 c3 HOV HSU
              generalize hyk : bx bs k = yk at *
              subst hA1 hA2
              cases yk
              · cases xs'
                · go_wp2_with fail
                  go_round
                  case rel => exact ⟨k + 1, by omega, by go_num, HSU.out rfl⟩
                  case measure => simp [intOf]; omega
                · have htr : truthB r ball ys bs = false := by rw [HTB.out, HOV.out rfl, Bool.and_false]
                  go_wp2_with fail
                  go_ret
                  exact ⟨by first | rfl | (rw [htr]; rfl), HB.out.trans (HBR.out.mono HB.out.size)⟩
              · cases xs'
                all_goals
                  go_wp2_with fail
                  go_round
                  case rel => exact ⟨k + 1, by omega, by go_num, HSU.out rfl⟩
                  case measure => simp [intOf]; omega
            · obtain rfl : k = bs.length := by omega
              have htr : truthB r ball ys bs = true := by rw [HTB.out, HOT.out]; exact allB_true HALL.out
              go_wp2_with fail
              go_ret
              exact ⟨by first | rfl | (rw [htr]; rfl), HB.out.trans (HBR.out.mono HB.out.size)⟩
    · have htr : truthB r ball ys bs = false := by rw [HTB.out, decide_eq_false e2, Bool.and_false, Bool.false_and]
      have q1 : ((ys.length : Int) != (ball.length : Int)) = false := by simp [e1]
      have q2 : ((bs.length : Int) != (r.links.length : Int)) = true := by simp; omega
      clear e1 e2
      go_enter Try.func44, Try.ntmps44
      go_wp2_with fail
      go_ret
      exact ⟨by first | rfl | (rw [htr]; rfl), HB.out⟩
  · have htr : truthB r ball ys bs = false := by rw [HTB.out, decide_eq_false e1, Bool.false_and, Bool.false_and]
    have q1 : ((ys.length : Int) != (ball.length : Int)) = true := by simp; omega
    clear e1
    go_enter Try.func44, Try.ntmps44
    go_wp2_with fail
    go_ret
    exact ⟨by first | rfl | (rw [htr]; rfl), HB.out⟩
end Go.Proofs.Ytpekajnjjhibjaa
