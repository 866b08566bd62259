/-
  Few.
-/
import Derived.Test.YtpekajnjjhibjaaLawsM
import Derived.Test.YtpekajnjjhibjaaE2
import Derived.Test.YtpekajnjjhibjaaE3
namespace Go.Proofs.Ytpekajnjjhibjaa
open Go.RowKit
set_option linter.unusedSimpArgs false
set_option linter.unusedVariables false

attribute [local go_sem] Oper.semAt_some
/-- How many boards a ball can go over; with what links can do. -/
def pbN (ball : List Rg) : Nat → Int
  | 0 => 1
  | k + 1 => pbN ball k * ((gx ball k).hi - (gx ball k).lo + 1)
def pmN (ls : List Lk) (n : Int) : Nat → Int
  | 0 => n
  | k + 1 => if (lx ls k).s then pmN ls n k else pmN ls n k * 2
theorem pbN_le {ball : List Rg} (h : ∀ k, k < ball.length → 0 ≤ (gx ball k).lo ∧ (gx ball k).lo ≤ (gx ball k).hi ∧ (gx ball k).hi ≤ 60 ∧ (gx ball k).hi - (gx ball k).lo ≤ 8) : ∀ k, k ≤ ball.length → 0 ≤ pbN ball k ∧ pbN ball k ≤ 9 ^ k
  | 0, _ => by simp [pbN]
  | k + 1, hk => by
    obtain ⟨h1, h2⟩ := pbN_le h k (by omega)
    have h3 := h k (by omega)
    rw [pbN]
    refine ⟨Int.mul_nonneg h1 (by omega), ?_⟩
    rw [show (9 : Int) ^ (k + 1) = 9 ^ k * 9 from by rw [Int.pow_succ]]
    exact Int.mul_le_mul h2 (by omega) (by omega) (by omega)
theorem mayTo_mono {ls : List Lk} : ∀ {j k}, j ≤ k → mayTo ls j ≤ mayTo ls k := fun {j k} h => by
  induction k with
  | zero => rw [show j = 0 by omega]; exact Nat.le_refl _
  | succ k ih =>
    by_cases e : j = k + 1
    · rw [e]; exact Nat.le_refl _
    · have := ih (by omega)
      rw [mayTo]
      omega
theorem pmN_is {ls : List Lk} {n : Int} : ∀ k, pmN ls n k = n * 2 ^ mayTo ls k
  | 0 => by simp [pmN, mayTo]
  | k + 1 => by
    rw [pmN, mayTo, pmN_is k]
    cases e : (lx ls k).s
    · simp only [Bool.false_eq_true, if_false]
      rw [Int.pow_succ, Int.mul_assoc]
    · simp
theorem pmN_le {ls : List Lk} {n : Int} (h0 : 0 ≤ n) (hn : n ≤ 6561) (hm : mayTo ls ls.length ≤ 6) {k : Nat} (hk : k ≤ ls.length) : 0 ≤ pmN ls n k ∧ pmN ls n k ≤ 419904 := by
  have h1 : mayTo ls k ≤ 6 := Nat.le_trans (mayTo_mono hk) hm
  rw [pmN_is]
  have h2 : (2 : Int) ^ mayTo ls k = ((2 ^ mayTo ls k : Nat) : Int) := by simp
  have h3 : 2 ^ mayTo ls k ≤ 64 := Nat.le_trans (Nat.pow_le_pow_right (by omega) h1) (by decide)
  rw [h2]
  clear h2
  generalize 2 ^ mayTo ls k = q at *
  exact ⟨Int.mul_nonneg h0 (by omega), Int.le_trans (Int.mul_le_mul hn (show (q : Int) ≤ 64 by omega) (by omega) (by omega)) (by decide)⟩
noncomputable def fewB (r : Rk) (ball : List Rg) : Bool := if rackErr r = 0 ∧ ballB r.rows ball = true then decide (pmN r.links (pbN ball ball.length) r.links.length ≤ 800) else true
theorem rack_may {r : Rk} (h : rackErr r = 0) : mayTo r.links r.links.length ≤ 6 := by
  unfold rackErr at h
  split at h
  · next h1 => exact h1.2
  · cases h
set_option maxRecDepth 100000 in
set_option maxHeartbeats 8000000 in
theorem few31_c (r : Rk) (A Ab : Option Addr) (c cb : Nat) (ball : List Rg) (w : World) (hl : Lks w.heap.size w A r.links) (hc : r.links.length ≤ c ∧ c ≤ 9223372036854775807) (hball : Rgs w.heap.size w Ab ball) (hcb : ball.length ≤ cb ∧ cb ≤ 9223372036854775807) :
    Calls Try.prog 31 #[.agg #[.int .i64 r.rows, .int .i64 r.mid, .int .i64 r.gap, .int .i64 r.reach, .slice A r.links.length c], .slice Ab ball.length cb] w (Ans w (.bool (fewB r ball))) := by
  have HB := Lib.hid (Below.refl w.heap.size w)
  have HL := Lib.hid hl
  have HBa := Lib.hid hball
  clear hl hball
  have hb : Below w.heap.size w (w.alloc (.cells #[.int .i64 r.rows, .int .i64 r.mid, .int .i64 r.gap, .int .i64 r.reach, .slice A r.links.length c] 24)) := (Below.refl _ _).alloc (Nat.le_refl _) _
  replace HL := Lib.hid (HL.out.step hb)
  replace HBa := Lib.hid (HBa.out.step hb)
  replace HB := Lib.hid (HB.out.trans (hb.mono HB.out.size))
  clear hb
  have k0 : (w.alloc (.cells #[.int .i64 r.rows, .int .i64 r.mid, .int .i64 r.gap, .int .i64 r.reach, .slice A r.links.length c] 24)).cell? ⟨w.heap.size, 0, none⟩ = some (.int .i64 r.rows) := by simp
  have k1 : (w.alloc (.cells #[.int .i64 r.rows, .int .i64 r.mid, .int .i64 r.gap, .int .i64 r.reach, .slice A r.links.length c] 24)).cell? ⟨w.heap.size, 1, none⟩ = some (.int .i64 r.mid) := by simp
  have k2 : (w.alloc (.cells #[.int .i64 r.rows, .int .i64 r.mid, .int .i64 r.gap, .int .i64 r.reach, .slice A r.links.length c] 24)).cell? ⟨w.heap.size, 2, none⟩ = some (.int .i64 r.gap) := by simp
  have k3 : (w.alloc (.cells #[.int .i64 r.rows, .int .i64 r.mid, .int .i64 r.gap, .int .i64 r.reach, .slice A r.links.length c] 24)).cell? ⟨w.heap.size, 3, none⟩ = some (.int .i64 r.reach) := by simp
  have k4 : (w.alloc (.cells #[.int .i64 r.rows, .int .i64 r.mid, .int .i64 r.gap, .int .i64 r.reach, .slice A r.links.length c] 24)).cell? ⟨w.heap.size, 4, none⟩ = some (.slice A r.links.length c) := by simp
  by_cases her : rackErr r = 0
  rotate_left 1
  · have HF : Hid (fewB r ball = true) := by show _ = _; rw [fewB, if_neg (fun h => her h.1)]
    have q2 : (rackErr r != 0) = true := by simp [her]
    clear her
    go_enter Try.func31, Try.ntmps31
    go_wp2_with fail
    generalize (w.alloc (.cells #[.int .i64 r.rows, .int .i64 r.mid, .int .i64 r.gap, .int .i64 r.reach, .slice A r.links.length c] 24)) = x1 at *
    refine (fault68_c r A c _ HL.out hc).mono ?_
    rintro e w2 ⟨rfl, hb⟩
    replace HL := Lib.hid (HL.out.step hb)
    replace HBa := Lib.hid (HBa.out.step hb)
    replace k0 := cell_of_ans hb k0
    replace k1 := cell_of_ans hb k1
    replace k2 := cell_of_ans hb k2
    replace k3 := cell_of_ans hb k3
    replace k4 := cell_of_ans hb k4
    replace HB := Lib.hid (HB.out.trans (hb.mono HB.out.size))
    clear hb
    go_wp2_with fail
    go_ret
    exact ⟨ret_bool (by rw [HF.out]), HB.out⟩
  cases eb : ballB r.rows ball
  · have HF : Hid (fewB r ball = true) := by show _ = _; rw [fewB, if_neg (fun h => by rw [eb] at h; cases h.2)]
    go_enter Try.func31, Try.ntmps31
    go_wp2_with fail
    generalize (w.alloc (.cells #[.int .i64 r.rows, .int .i64 r.mid, .int .i64 r.gap, .int .i64 r.reach, .slice A r.links.length c] 24)) = x1 at *
    refine (fault68_c r A c _ HL.out hc).mono ?_
    rw [her]
    rintro e w2 ⟨rfl, hb⟩
    replace HL := Lib.hid (HL.out.step hb)
    replace HBa := Lib.hid (HBa.out.step hb)
    replace k0 := cell_of_ans hb k0
    replace k1 := cell_of_ans hb k1
    replace k2 := cell_of_ans hb k2
    replace k3 := cell_of_ans hb k3
    replace k4 := cell_of_ans hb k4
    replace HB := Lib.hid (HB.out.trans (hb.mono HB.out.size))
    clear hb
    go_wp2_with fail
    refine (isBall69_c r A Ab c cb ball _ HBa.out hcb).mono ?_
    rw [eb]
    rintro e w3 ⟨rfl, hb⟩
    replace HL := Lib.hid (HL.out.step hb)
    replace HBa := Lib.hid (HBa.out.step hb)
    replace k0 := cell_of_ans hb k0
    replace k1 := cell_of_ans hb k1
    replace k2 := cell_of_ans hb k2
    replace k3 := cell_of_ans hb k3
    replace k4 := cell_of_ans hb k4
    replace HB := Lib.hid (HB.out.trans (hb.mono HB.out.size))
    clear hb
    go_wp2_with fail
    go_ret
    exact ⟨ret_bool (by rw [HF.out]), HB.out⟩
  have HF : Hid (fewB r ball = decide (pmN r.links (pbN ball ball.length) r.links.length ≤ 800)) := by show _ = _; rw [fewB, if_pos ⟨her, eb⟩]
  obtain ⟨hbl, -, hrg⟩ := ballB_ok eb
  have ho := rackOk her
  have hr4 := ho.rows4
  have hmy := rack_may her
  have hpb := pbN_le hrg
  have HPB : Hid (∀ k, k ≤ ball.length → 0 ≤ pbN ball k ∧ pbN ball k ≤ 6561) := fun k hk => by
    have h1 := hpb k hk
    have h2 : k = 0 ∨ k = 1 ∨ k = 2 ∨ k = 3 ∨ k = 4 := by omega
    refine ⟨h1.1, Int.le_trans h1.2 ?_⟩
    rcases h2 with rfl | rfl | rfl | rfl | rfl <;> decide
  have HPM := Lib.hid (fun k (hk : k ≤ r.links.length) => pmN_le (HPB.out ball.length (Nat.le_refl _)).1 (HPB.out ball.length (Nat.le_refl _)).2 hmy hk)
  have HRG := Lib.hid hrg
  clear hpb hrg hmy ho
  go_enter Try.func31, Try.ntmps31
  go_wp2_with fail
  generalize (w.alloc (.cells #[.int .i64 r.rows, .int .i64 r.mid, .int .i64 r.gap, .int .i64 r.reach, .slice A r.links.length c] 24)) = x1 at *
  refine (fault68_c r A c _ HL.out hc).mono ?_
  rw [her]
  rintro e w2 ⟨rfl, hb⟩
  replace HL := Lib.hid (HL.out.step hb)
  replace HBa := Lib.hid (HBa.out.step hb)
  replace k0 := cell_of_ans hb k0
  replace k1 := cell_of_ans hb k1
  replace k2 := cell_of_ans hb k2
  replace k3 := cell_of_ans hb k3
  replace k4 := cell_of_ans hb k4
  replace HB := Lib.hid (HB.out.trans (hb.mono HB.out.size))
  clear hb
  go_wp2_with fail
  refine (isBall69_c r A Ab c cb ball _ HBa.out hcb).mono ?_
  rw [eb]
  rintro e w3 ⟨rfl, hb⟩
  replace HL := Lib.hid (HL.out.step hb)
  replace HBa := Lib.hid (HBa.out.step hb)
  replace k0 := cell_of_ans hb k0
  replace k1 := cell_of_ans hb k1
  replace k2 := cell_of_ans hb k2
  replace k3 := cell_of_ans hb k3
  replace k4 := cell_of_ans hb k4
  replace HB := Lib.hid (HB.out.trans (hb.mono HB.out.size))
  clear hb
  clear her eb
  go_wp2_with fail
  go_loopw [5, 6] (fun n i wr => ∃ k : Nat, k ≤ ball.length ∧ i = .int .i64 k ∧ n = .int .i64 (pbN ball k) ∧ Below w3.heap.size w3 wr) (fun _ i _ => ball.length - (intOf i).toNat)
  case atStart => exact ⟨0, by omega, rfl, rfl, Below.refl _ _⟩
  case round =>
    obtain ⟨k, hk, rfl, rfl, hb⟩ := hrel
    have HBr := Lib.hid hb
    by_cases h1 : k < ball.length
    · have h1i : (k : Int) < (ball.length : Int) := by omega
      obtain ⟨b, off, rfl, hb0, c1, c2⟩ := (HBa.out.step hb).at_ h1
      have hg := HRG.out k h1
      have hp := HPB.out k hk
      have hp2 := HPB.out (k + 1) h1
      have HT : Hid (pbN ball (k + 1) = pbN ball k * ((gx ball k).hi - (gx ball k).lo + 1)) := rfl
      rw [HT.out] at hp2
      generalize pbN ball k = n at *
      generalize (gx ball k).lo = lo at *
      generalize (gx ball k).hi = hi at *
      have hw1 : IntKind.i64.wrap (hi - lo) = hi - lo := IntWalk.i64_in _ (by omega)
      have hw2 : IntKind.i64.wrap (hi - lo + 1) = hi - lo + 1 := IntWalk.i64_in _ (by omega)
      have hw3 : IntKind.i64.wrap (n * (hi - lo + 1)) = n * (hi - lo + 1) := IntWalk.i64_in _ (by omega)
      clear hb hg hp hp2
      go_upto_region 7 with fail
      refine wp_region_noPanic ?_
      have hS : (fun W' : World => Below wr.heap.size wr W') wr.drew := (Below.refl _ _).drew
      refine wp_region_any (by kernel_rfl) (wpAny_of_T (S := fun W' : World => Below wr.heap.size wr W') (m := 15) _ _ _ _ ?_)
      refine' T_take (i := 0) (v := _) rfl (by kernel_rfl) (by kernel_rfl) (by kernel_rfl) (by kernel_rfl) (fun _ _ _ h => h) (by kernel_rfl) hS ?_ ?_
      rotate_left 1
      · intro Wv hW
        replace c1 := cell_of_ans hW c1
        replace c2 := cell_of_ans hW c2
        go_simp
        first | done | with_reducible rfl | omega
      try simp only [Act.put, List.setIfInBounds_toArray, List.set_cons_zero, List.set_cons_succ]
      refine' T_take (i := 1) (v := _) rfl (by kernel_rfl) (by kernel_rfl) (by kernel_rfl) (by kernel_rfl) (fun _ _ _ h => h) (by kernel_rfl) hS ?_ ?_
      rotate_left 1
      · intro Wv hW
        replace c1 := cell_of_ans hW c1
        replace c2 := cell_of_ans hW c2
        go_simp
        first | done | with_reducible rfl | omega
      try simp only [Act.put, List.setIfInBounds_toArray, List.set_cons_zero, List.set_cons_succ]
      refine' T_take (i := 2) (v := _) rfl (by kernel_rfl) (by kernel_rfl) (by kernel_rfl) (by kernel_rfl) (fun _ _ _ h => h) (by kernel_rfl) hS ?_ ?_
      rotate_left 1
      · intro Wv hW
        replace c1 := cell_of_ans hW c1
        replace c2 := cell_of_ans hW c2
        go_simp
        first | done | with_reducible rfl | omega
      try simp only [Act.put, List.setIfInBounds_toArray, List.set_cons_zero, List.set_cons_succ]
      refine' T_take (i := 3) (v := _) rfl (by kernel_rfl) (by kernel_rfl) (by kernel_rfl) (by kernel_rfl) (fun _ _ _ h => h) (by kernel_rfl) hS ?_ ?_
      rotate_left 1
      · intro Wv hW
        replace c1 := cell_of_ans hW c1
        replace c2 := cell_of_ans hW c2
        go_simp
        first | done | with_reducible rfl | omega
      try simp only [Act.put, List.setIfInBounds_toArray, List.set_cons_zero, List.set_cons_succ]
      refine' T_take (i := 4) (v := _) rfl (by kernel_rfl) (by kernel_rfl) (by kernel_rfl) (by kernel_rfl) (fun _ _ _ h => h) (by kernel_rfl) hS ?_ ?_
      rotate_left 1
      · intro Wv hW
        replace c1 := cell_of_ans hW c1
        replace c2 := cell_of_ans hW c2
        go_simp
        first | done | with_reducible rfl | omega
      try simp only [Act.put, List.setIfInBounds_toArray, List.set_cons_zero, List.set_cons_succ]
      refine' T_take (i := 5) (v := _) rfl (by kernel_rfl) (by kernel_rfl) (by kernel_rfl) (by kernel_rfl) (fun _ _ _ h => h) (by kernel_rfl) hS ?_ ?_
      rotate_left 1
      · intro Wv hW
        replace c1 := cell_of_ans hW c1
        replace c2 := cell_of_ans hW c2
        go_simp
        first | done | with_reducible rfl | omega
      try simp only [Act.put, List.setIfInBounds_toArray, List.set_cons_zero, List.set_cons_succ]
      refine' T_take (i := 6) (v := _) rfl (by kernel_rfl) (by kernel_rfl) (by kernel_rfl) (by kernel_rfl) (fun _ _ _ h => h) (by kernel_rfl) hS ?_ ?_
      rotate_left 1
      · intro Wv hW
        replace c1 := cell_of_ans hW c1
        replace c2 := cell_of_ans hW c2
        go_simp
        first | done | with_reducible rfl | omega
      try simp only [Act.put, List.setIfInBounds_toArray, List.set_cons_zero, List.set_cons_succ]
      refine' T_take (i := 7) (v := _) rfl (by kernel_rfl) (by kernel_rfl) (by kernel_rfl) (by kernel_rfl) (fun _ _ _ h => h) (by kernel_rfl) hS ?_ ?_
      rotate_left 1
      · intro Wv hW
        replace c1 := cell_of_ans hW c1
        replace c2 := cell_of_ans hW c2
        go_simp
        first | done | with_reducible rfl | omega
      try simp only [Act.put, List.setIfInBounds_toArray, List.set_cons_zero, List.set_cons_succ]
      refine' T_take (i := 8) (v := _) rfl (by kernel_rfl) (by kernel_rfl) (by kernel_rfl) (by kernel_rfl) (fun _ _ _ h => h) (by kernel_rfl) hS ?_ ?_
      rotate_left 1
      · intro Wv hW
        replace c1 := cell_of_ans hW c1
        replace c2 := cell_of_ans hW c2
        go_simp
        first | done | with_reducible rfl | omega
      try simp only [Act.put, List.setIfInBounds_toArray, List.set_cons_zero, List.set_cons_succ]
      refine' T_take (i := 9) (v := _) rfl (by kernel_rfl) (by kernel_rfl) (by kernel_rfl) (by kernel_rfl) (fun _ _ _ h => h) (by kernel_rfl) hS ?_ ?_
      rotate_left 1
      · intro Wv hW
        replace c1 := cell_of_ans hW c1
        replace c2 := cell_of_ans hW c2
        go_simp
        first | done | with_reducible rfl | omega
      try simp only [Act.put, List.setIfInBounds_toArray, List.set_cons_zero, List.set_cons_succ]
      refine' T_take (i := 10) (v := _) rfl (by kernel_rfl) (by kernel_rfl) (by kernel_rfl) (by kernel_rfl) (fun _ _ _ h => h) (by kernel_rfl) hS ?_ ?_
      rotate_left 1
      · intro Wv hW
        replace c1 := cell_of_ans hW c1
        replace c2 := cell_of_ans hW c2
        go_simp
        first | done | with_reducible rfl | omega
      try simp only [Act.put, List.setIfInBounds_toArray, List.set_cons_zero, List.set_cons_succ]
      refine' T_take (i := 11) (v := _) rfl (by kernel_rfl) (by kernel_rfl) (by kernel_rfl) (by kernel_rfl) (fun _ _ _ h => h) (by kernel_rfl) hS ?_ ?_
      rotate_left 1
      · intro Wv hW
        replace c1 := cell_of_ans hW c1
        replace c2 := cell_of_ans hW c2
        go_simp
        first | done | with_reducible rfl | omega
      try simp only [Act.put, List.setIfInBounds_toArray, List.set_cons_zero, List.set_cons_succ]
      refine' T_take (i := 12) (v := _) rfl (by kernel_rfl) (by kernel_rfl) (by kernel_rfl) (by kernel_rfl) (fun _ _ _ h => h) (by kernel_rfl) hS ?_ ?_
      rotate_left 1
      · intro Wv hW
        replace c1 := cell_of_ans hW c1
        replace c2 := cell_of_ans hW c2
        go_simp
        first | done | with_reducible rfl | omega
      try simp only [Act.put, List.setIfInBounds_toArray, List.set_cons_zero, List.set_cons_succ]
      refine' T_take (i := 13) (v := _) rfl (by kernel_rfl) (by kernel_rfl) (by kernel_rfl) (by kernel_rfl) (fun _ _ _ h => h) (by kernel_rfl) hS ?_ ?_
      rotate_left 1
      · intro Wv hW
        replace c1 := cell_of_ans hW c1
        replace c2 := cell_of_ans hW c2
        go_simp
        first | done | with_reducible rfl | omega
      try simp only [Act.put, List.setIfInBounds_toArray, List.set_cons_zero, List.set_cons_succ]
      refine' T_take (i := 14) (v := _) rfl (by kernel_rfl) (by kernel_rfl) (by kernel_rfl) (by kernel_rfl) (fun _ _ _ h => h) (by kernel_rfl) hS ?_ ?_
      rotate_left 1
      · intro Wv hW
        replace c1 := cell_of_ans hW c1
        replace c2 := cell_of_ans hW c2
        go_simp
        first | done | with_reducible rfl | omega
      try simp only [Act.put, List.setIfInBounds_toArray, List.set_cons_zero, List.set_cons_succ]
      refine T_done (by kernel_rfl) ?_ _
      refine NoPanic.normal ?_
      try go_simp
      go_wp2_with fail
      go_roundw
      case rel => exact ⟨k + 1, by omega, by go_num, by rw [HT.out], HBr.out.trans (hS.mono HBr.out.size)⟩
      case measure => simp [intOf]; omega
    · obtain rfl : k = ball.length := by omega
      have h1i : ¬ (ball.length : Int) < (ball.length : Int) := by omega
      clear HPB HRG HBr
      replace HL := Lib.hid (HL.out.step hb)
      replace HBa := Lib.hid (HBa.out.step hb)
      replace k0 := cell_of_ans hb k0
      replace k1 := cell_of_ans hb k1
      replace k2 := cell_of_ans hb k2
      replace k3 := cell_of_ans hb k3
      replace k4 := cell_of_ans hb k4
      replace HB := Lib.hid (HB.out.trans (hb.mono HB.out.size))
      clear hb
      generalize pbN ball ball.length = nb at *
      go_wp2_with fail
      generalize wr = wo at *
      go_loopw [5, 7] (fun n i wr => ∃ k : Nat, k ≤ r.links.length ∧ i = .int .i64 k ∧ n = .int .i64 (pmN r.links nb k) ∧ Below wo.heap.size wo wr) (fun _ i _ => r.links.length - (intOf i).toNat)
      case atStart => exact ⟨0, by omega, rfl, rfl, Below.refl _ _⟩
      case round =>
        obtain ⟨k, hk, rfl, rfl, hb⟩ := hrel
        have HBr := Lib.hid hb
        by_cases h2 : k < r.links.length
        · have h2i : (k : Int) < (r.links.length : Int) := by omega
          have z4 := cell_of_ans hb k4
          obtain ⟨b, off, rfl, hb0, c1, c2, c3⟩ := (HL.out.step hb).at_ h2
          have hp := HPM.out k hk
          have HT : Hid (pmN r.links nb (k + 1) = if (lx r.links k).s then pmN r.links nb k else pmN r.links nb k * 2) := rfl
          generalize pmN r.links nb k = n at *
          have hw3 : wrap64 (n * 2) = n * 2 := IntWalk.wrap64_in _ (by omega)
          have hw4 : IntKind.i64.wrap (n * 2) = n * 2 := IntWalk.i64_in _ (by omega)
          cases e1 : (lx r.links k).s
          all_goals rw [e1] at c3 HT
          · go_wp2_with fail
            go_roundw
            case rel => exact ⟨k + 1, by omega, by go_num, by rw [HT.out]; rfl, HBr.out⟩
            case measure => simp [intOf]; omega
          · go_wp2_with fail
            go_roundw
            case rel => exact ⟨k + 1, by omega, by go_num, by rw [HT.out]; rfl, HBr.out⟩
            case measure => simp [intOf]; omega
        · obtain rfl : k = r.links.length := by omega
          have h2i : ¬ (r.links.length : Int) < (r.links.length : Int) := by omega
          have z4 := cell_of_ans hb k4
          go_wp2_with fail
          go_ret
          exact ⟨ret_bool HF.out.symm, HB.out.trans (hb.mono HB.out.size)⟩
end Go.Proofs.Ytpekajnjjhibjaa
