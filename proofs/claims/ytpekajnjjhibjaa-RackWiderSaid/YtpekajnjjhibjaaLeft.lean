/-
  leaves, Left, CanLeave.
-/
import Derived.Test.YtpekajnjjhibjaaFrom
namespace Go.Proofs.Ytpekajnjjhibjaa
open Go.RowKit
set_option linter.unusedSimpArgs false
set_option linter.unusedVariables false

attribute [local go_sem] Oper.semAt_some
def LeavesP (w : World) (r : Rk) (pins : Nat) (ball : List Rg) (e : Ending) (w' : World) : Prop := ∃ (b n : Nat) (O : Nat → Bool), e = .returned (.map (some b)) ∧ HSet w' b n O ∧ (∀ u, O u = true ↔ LeaveP r pins ball u) ∧ w.heap.size ≤ b ∧ Below w.heap.size w w'
theorem costO_le : ∀ {m : Nat}, m ≤ 4 → costO m ≤ 409600000000 := by decide
theorem alloc_at {w : World} {n : Nat} (h : w.heap.size = n) (o : Obj) : (w.alloc o).heap[n]? = some o := by subst h; exact World.alloc_heap_new w o
theorem leaves_world (r : Rk) (A Ab : Option Addr) (c cb pins : Nat) (ball : List Rg) (w : World) (hl : Lks w.heap.size w A r.links) (hball : Rgs w.heap.size w Ab ball) :
    ∃ X, X = (((((((w.alloc (.cells #[.int .i64 r.rows, .int .i64 r.mid, .int .i64 r.gap, .int .i64 r.reach, .slice A r.links.length c, .int .u16 (pins : Int)] 102)).alloc (.cells #[.slice Ab ball.length cb] 42)).alloc (.map #[] 0)).alloc (.cells #[.map (some (w.heap.size + 2))] 113)).alloc (.map #[] 0)).alloc (.cells #[.map (some (w.heap.size + 4))] 139)).alloc (.cells #[.func (.func 86) #[] #[.pointer (some ⟨w.heap.size + 5, 0, none⟩), .pointer (some ⟨w.heap.size + 1, 0, none⟩), .pointer (some ⟨w.heap.size, 0, none⟩), .pointer (some ⟨w.heap.size + 3, 0, none⟩), .pointer (some ⟨w.heap.size + 6, 0, none⟩)]] 140)) ∧ LCtx X w.heap.size r A c pins Ab cb ball ∧ HSt X (w.heap.size + 4) 0 (fun _ _ => false) ∧ HSet X (w.heap.size + 2) 0 (fun _ => false) ∧ Below w.heap.size w X ∧ X.heap.size = w.heap.size + 7 := by
  refine ⟨_, rfl, ?_⟩
  have b1 : Below w.heap.size w (w.alloc (.cells #[.int .i64 r.rows, .int .i64 r.mid, .int .i64 r.gap, .int .i64 r.reach, .slice A r.links.length c, .int .u16 (pins : Int)] 102)) := (Below.refl _ _).alloc (Nat.le_refl _) _
  have s1 : (w.alloc (.cells #[.int .i64 r.rows, .int .i64 r.mid, .int .i64 r.gap, .int .i64 r.reach, .slice A r.links.length c, .int .u16 (pins : Int)] 102)).heap.size = w.heap.size + 1 := by simp
  have k1 : At6 (w.alloc (.cells #[.int .i64 r.rows, .int .i64 r.mid, .int .i64 r.gap, .int .i64 r.reach, .slice A r.links.length c, .int .u16 (pins : Int)] 102)) w.heap.size (.int .i64 r.rows) (.int .i64 r.mid) (.int .i64 r.gap) (.int .i64 r.reach) (.slice A r.links.length c) (.int .u16 (pins : Int)) := World.alloc_heap_new _ _
  generalize w.alloc (.cells #[.int .i64 r.rows, .int .i64 r.mid, .int .i64 r.gap, .int .i64 r.reach, .slice A r.links.length c, .int .u16 (pins : Int)] 102) = w1 at *
  have b2 : Below w1.heap.size w1 (w1.alloc (.cells #[.slice Ab ball.length cb] 42)) := (Below.refl _ _).alloc (Nat.le_refl _) _
  have s2 : (w1.alloc (.cells #[.slice Ab ball.length cb] 42)).heap.size = w.heap.size + 2 := by simp; omega
  have k2 : (w1.alloc (.cells #[.slice Ab ball.length cb] 42)).cell? ⟨w.heap.size + 1, 0, none⟩ = some (.slice Ab ball.length cb) := by rw [← s1]; simp
  replace k1 := k1.step b2
  replace b1 := b1.trans (b2.mono (by omega))
  generalize w1.alloc (.cells #[.slice Ab ball.length cb] 42) = w2 at *
  have b3 : Below w2.heap.size w2 (w2.alloc (.map #[] 0)) := (Below.refl _ _).alloc (Nat.le_refl _) _
  have s3 : (w2.alloc (.map #[] 0)).heap.size = w.heap.size + 3 := by simp; omega
  have k3 := HSet.made w2
  rw [s2] at k3
  replace k1 := k1.step b3
  replace k2 := cell_of_ans b3 k2
  replace b1 := b1.trans (b3.mono (by omega))
  generalize w2.alloc (.map #[] 0) = w3 at *
  have b4 : Below w3.heap.size w3 (w3.alloc (.cells #[.map (some (w.heap.size + 2))] 113)) := (Below.refl _ _).alloc (Nat.le_refl _) _
  have s4 : (w3.alloc (.cells #[.map (some (w.heap.size + 2))] 113)).heap.size = w.heap.size + 4 := by simp; omega
  have k4 : (w3.alloc (.cells #[.map (some (w.heap.size + 2))] 113)).cell? ⟨w.heap.size + 3, 0, none⟩ = some (.map (some (w.heap.size + 2))) := by rw [← s3]; simp
  replace k1 := k1.step b4
  replace k2 := cell_of_ans b4 k2
  replace k3 := k3.step b4
  replace b1 := b1.trans (b4.mono (by omega))
  generalize w3.alloc (.cells #[.map (some (w.heap.size + 2))] 113) = w4 at *
  have b5 : Below w4.heap.size w4 (w4.alloc (.map #[] 0)) := (Below.refl _ _).alloc (Nat.le_refl _) _
  have s5 : (w4.alloc (.map #[] 0)).heap.size = w.heap.size + 5 := by simp; omega
  have k5 := HSt.made w4
  rw [s4] at k5
  replace k1 := k1.step b5
  replace k2 := cell_of_ans b5 k2
  replace k3 := k3.step b5
  replace k4 := cell_of_ans b5 k4
  replace b1 := b1.trans (b5.mono (by omega))
  generalize w4.alloc (.map #[] 0) = w5 at *
  have b6 : Below w5.heap.size w5 (w5.alloc (.cells #[.map (some (w.heap.size + 4))] 139)) := (Below.refl _ _).alloc (Nat.le_refl _) _
  have s6 : (w5.alloc (.cells #[.map (some (w.heap.size + 4))] 139)).heap.size = w.heap.size + 6 := by simp; omega
  have k6 : (w5.alloc (.cells #[.map (some (w.heap.size + 4))] 139)).cell? ⟨w.heap.size + 5, 0, none⟩ = some (.map (some (w.heap.size + 4))) := by rw [← s5]; simp
  replace k1 := k1.step b6
  replace k2 := cell_of_ans b6 k2
  replace k3 := k3.step b6
  replace k4 := cell_of_ans b6 k4
  replace k5 := k5.step b6
  replace b1 := b1.trans (b6.mono (by omega))
  generalize w5.alloc (.cells #[.map (some (w.heap.size + 4))] 139) = w6 at *
  have b7 : Below w6.heap.size w6 (w6.alloc (.cells #[.func (.func 86) #[] #[.pointer (some ⟨w.heap.size + 5, 0, none⟩), .pointer (some ⟨w.heap.size + 1, 0, none⟩), .pointer (some ⟨w.heap.size, 0, none⟩), .pointer (some ⟨w.heap.size + 3, 0, none⟩), .pointer (some ⟨w.heap.size + 6, 0, none⟩)]] 140)) := (Below.refl _ _).alloc (Nat.le_refl _) _
  have s7 : (w6.alloc (.cells #[.func (.func 86) #[] #[.pointer (some ⟨w.heap.size + 5, 0, none⟩), .pointer (some ⟨w.heap.size + 1, 0, none⟩), .pointer (some ⟨w.heap.size, 0, none⟩), .pointer (some ⟨w.heap.size + 3, 0, none⟩), .pointer (some ⟨w.heap.size + 6, 0, none⟩)]] 140)).heap.size = w.heap.size + 7 := by simp; omega
  have k7 : (w6.alloc (.cells #[.func (.func 86) #[] #[.pointer (some ⟨w.heap.size + 5, 0, none⟩), .pointer (some ⟨w.heap.size + 1, 0, none⟩), .pointer (some ⟨w.heap.size, 0, none⟩), .pointer (some ⟨w.heap.size + 3, 0, none⟩), .pointer (some ⟨w.heap.size + 6, 0, none⟩)]] 140)).cell? ⟨w.heap.size + 6, 0, none⟩ = some (.func (.func 86) #[] #[.pointer (some ⟨w.heap.size + 5, 0, none⟩), .pointer (some ⟨w.heap.size + 1, 0, none⟩), .pointer (some ⟨w.heap.size, 0, none⟩), .pointer (some ⟨w.heap.size + 3, 0, none⟩), .pointer (some ⟨w.heap.size + 6, 0, none⟩)]) := by rw [← s6]; simp
  replace k1 := k1.step b7
  replace k2 := cell_of_ans b7 k2
  replace k3 := k3.step b7
  replace k4 := cell_of_ans b7 k4
  replace k5 := k5.step b7
  replace k6 := cell_of_ans b7 k6
  replace b1 := b1.trans (b7.mono (by omega))
  exact ⟨⟨k1, k2, k4, k6, k7, hl.below b1, hball.below b1⟩, k5, k3, b1, s7⟩
set_option maxRecDepth 100000 in
set_option maxHeartbeats 8000000 in
theorem leaves_c (r : Rk) (A Ab : Option Addr) (c cb pins : Nat) (ball : List Rg) (w : World) (hr : Ok r) (hp : pins < 2 ^ 10) (hbl : (ball.length : Int) = r.rows) (hb3 : ∀ k, k < ball.length → 0 ≤ (gx ball k).lo ∧ (gx ball k).lo ≤ (gx ball k).hi ∧ (gx ball k).hi ≤ 60 ∧ (gx ball k).hi - (gx ball k).lo ≤ 8) (hl : Lks w.heap.size w A r.links) (hc : r.links.length ≤ c ∧ c ≤ 9223372036854775807) (hball : Rgs w.heap.size w Ab ball) (hcb : ball.length ≤ cb ∧ cb ≤ 9223372036854775807) :
    Calls Try.prog 59 #[.agg #[.int .i64 r.rows, .int .i64 r.mid, .int .i64 r.gap, .int .i64 r.reach, .slice A r.links.length c, .int .u16 (pins : Int)], .slice Ab ball.length cb] w (LeavesP w r pins ball) := by
  have HLE := Lib.hid (leaves_iff (r := r) (pins := pins) (ball := ball) (by omega))
  obtain ⟨X, hX, hC, hS, hO, hb, hz⟩ := leaves_world r A Ab c cb pins ball w hl hball
  have hcall := from_c hr hp hbl hc hcb hb3 ball.length X 0 0 (fun _ _ => false) (fun _ => false) 0 0 hC hS hO (fun k t h => by cases h) (by decide) (by omega)
    (by have := costN_le (m := ball.length) (by have := hr.rows4; omega); omega) (by have := costO_le (m := ball.length) (by have := hr.rows4; omega); omega)
  unfold CallsFr at hcall
  rw [Int.natCast_zero] at hcall
  have HCALL := Lib.hid hcall
  have HC := Lib.hid hC
  have HB := Lib.hid hb
  clear hl hball hb3 hbl hcall hC hS hO hb
  have hmm := @run_makeMap Try.prog
  go_enter Try.func59, Try.ntmps59
  go_wp2_with fail
  rw [show w.heap.size + 1 + 1 = w.heap.size + 2 from rfl, show w.heap.size + 2 + 1 = w.heap.size + 3 from rfl, show w.heap.size + 3 + 1 = w.heap.size + 4 from rfl, show w.heap.size + 4 + 1 = w.heap.size + 5 from rfl, show w.heap.size + 5 + 1 = w.heap.size + 6 from rfl]
  rw [← hX]
  clear hX
  refine HCALL.out.mono ?_
  rintro e w7 ⟨⟨v, rfl⟩, S', O', nS', nO', hS', hO', -, -, hP, hk⟩
  have c3 := (HC.out.kept hk (by omega)).h3
  have HO' := Lib.hid hO'
  have HP := Lib.hid hP
  have HB7 : Hid (Below w.heap.size w w7) := HB.out.trans (hk.below (by omega) (by omega) (fun j hj e => by rcases e with e | e <;> omega))
  clear hS' hO' hP hk hz
  go_wp2_with fail
  go_ret
  refine ⟨_, _, _, rfl, HO'.out, fun u => ?_, by omega, HB7.out⟩
  rw [← HLE.out]
  constructor
  · intro h
    rcases HP.out.new u h with h | h
    · cases h
    · exact h
  · exact HP.out.all u
end Go.Proofs.Ytpekajnjjhibjaa
