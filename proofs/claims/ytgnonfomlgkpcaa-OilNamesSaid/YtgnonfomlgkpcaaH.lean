/-
  The cells of a ball, one by one.
-/
import Derived.Test.YtgnonfomlgkpcaaG
import Derived.RangeFuncNested
import Derived.RangeFuncBound
import Derived.RangeFuncCalls
import Derived.RangeFuncLeaves
import Derived.Shelf.Abstract
import Derived.OwnWalkIn
import Derived.TacticsInMore
import Derived.LoopNIn
import Derived.LoopIn
namespace Go.Proofs.Ytgnonfomlgkpcaa
open Go.RowKit

attribute [local go_sem] Oper.semAt_some

/-- The first k of Fin n. -/
def firsts (n k : Nat) : List (Fin n) := (List.finRange n).take k
theorem firsts_len {n k : Nat} (h : k ≤ n) : (firsts n k).length = k := by simp [firsts, h]
theorem firsts_succ {n k : Nat} (h : k < n) : firsts n (k + 1) = firsts n k ++ [⟨k, h⟩] := by
  unfold firsts
  rw [List.take_succ_eq_append_getElem (by simpa using h)]
  simp

set_option maxHeartbeats 400000 in
theorem cells_c (A : Option Addr) (n c : Nat) (w : World) :
    Calls Try.prog 62 #[.slice A n c] w fun e w' => e = .returned (.func (.func 89) #[] #[.pointer (some ⟨w.heap.size, 0, none⟩)]) ∧ w.alloc (.cells #[.slice A n c] 45) = w' := by
  go_enter Try.func62, Try.ntmps62
  go_wp2
  go_ret
  exact ⟨rfl, rfl⟩

def cellEnc (xs : List Int) (k : Fin xs.length) : Array Value := #[.agg #[.int .i64 (k.1 : Int), .int .i64 (ix xs k.1)]]

set_option maxRecDepth 100000 in
set_option maxHeartbeats 2000000 in
theorem cells1_in {B : Nat} (n l bx c : Nat) (A : Option Addr) (xs : List Int) (hl9 : xs.length ≤ 1000000) (Kp : World → World → Prop) (hKt : ∀ {A B C : World}, Kp A B → Kp B C → Kp A C) (hKr : ∀ A, Kp A A)
    (hKc : ∀ W W', Kp W W' → Ints B W A xs → Ints B W' A xs) (J Jx : List (Fin xs.length) → World → Prop)
    (hY : ∀ pre x W, J pre W → pre.length < xs.length → YieldAt Fence.wide (n - 1) Try.prog l (cellEnc xs x) W fun e W' =>
      (e = .returned (.bool true) ∧ J (pre ++ [x]) W' ∧ Kp W W') ∨ (e = .returned (.bool false) ∧ Jx (pre ++ [x]) W'))
    (W : World) (hbx : W.cell? ⟨bx, 0, none⟩ = some (.slice A xs.length c)) (hx : Ints B W A xs) (h0 : J [] W) :
    CallsIn Fence.wide n Try.prog 89 #[.func (.yield l) #[] #[], .pointer (some ⟨bx, 0, none⟩)] W fun e W' => (∃ v, e = .returned v) ∧
      ((∃ ys, ys = List.finRange xs.length ∧ J ys W') ∨ (∃ pre, (∃ k, pre = firsts xs.length k) ∧ Jx pre W')) := by
  refine callsIn_of_wp Try.func89 rfl trivial ?_ rfl
  simp only [Try.ntmps89, List.size_toArray, List.length_cons, List.length_nil, Nat.reduceAdd, Nat.reduceSub, Array.replicate_succ, Array.replicate_zero, List.push_toArray, List.append_toArray, List.nil_append, List.cons_append]
  gi_wp2
  gi_loopw [7] (fun i wr => ∃ k : Nat, k ≤ xs.length ∧ i = .int .i64 k ∧ J (firsts xs.length k) wr ∧ Kp W wr)
    (fun i _ => xs.length - (intOf i).toNat)
  case atStart => exact ⟨0, Nat.zero_le _, rfl, h0, hKr _⟩
  case round =>
    obtain ⟨k, hk, rfl, hJs, hkp⟩ := hrel
    by_cases hlt : k < xs.length
    · obtain ⟨fn, tmps, assign, body, hy, hR⟩ := hY _ ⟨k, hlt⟩ wr hJs (by rw [firsts_len hk]; exact hlt)
      obtain ⟨b, off, rfl, hb, hc⟩ := (hKc _ _ hkp hx).at_ hlt
      unfold cellEnc at hy
      dsimp only at hy
      have HR := Lib.hid hR
      clear hR
      gi_wp2
      refine ⟨fun h => by simp [Fence.wide] at h, ?_⟩
      refine HR.out.mono ?_
      rintro e W3 (⟨rfl, hJ3, hk3⟩ | ⟨rfl, hJx3⟩)
      · gi_wp2
        go_roundw
        case rel => exact ⟨k + 1, by omega, by simp, by rw [firsts_succ hlt]; exact hJ3, hKt hkp hk3⟩
        case measure => simp [intOf]; omega
      · gi_wp2
        refine bodyPost_ret (results_none rfl _ _ _) rfl ?_
        exact ⟨⟨_, rfl⟩, .inr ⟨_, ⟨k + 1, (firsts_succ hlt).symm⟩, hJx3⟩⟩
    · obtain rfl : k = xs.length := by omega
      gi_wp2
      go_end0
      refine ⟨⟨_, rfl⟩, .inl ⟨_, rfl, ?_⟩⟩
      have e : firsts xs.length xs.length = List.finRange xs.length := by
        unfold firsts
        exact List.take_of_length_le (by simp)
      rwa [e] at hJs

theorem cells_stops {B : Nat} (n bx c : Nat) (A : Option Addr) (xs : List Int) (hl9 : xs.length ≤ 1000000) (Kp : World → World → Prop) (hKt : ∀ {A B C : World}, Kp A B → Kp B C → Kp A C) (hKr : ∀ A, Kp A A)
    (hKc : ∀ W W', Kp W W' → Ints B W A xs → Ints B W' A xs) (w : World) (hbx' : bx < w.heap.size) (hB : B ≤ w.heap.size)
    (hbx : w.cell? ⟨bx, 0, none⟩ = some (.slice A xs.length c)) (hx : Ints B w A xs) :
    SeqStopsK Fence.wide n Try.prog 89 #[.pointer (some ⟨bx, 0, none⟩)] (cellEnc xs) Kp (fun ys => ys = List.finRange xs.length) (fun pre => ∃ k, pre = firsts xs.length k) xs.length w :=
  fun l J Jx W hW _ _ hY h0 => cells1_in n l bx c A xs hl9 Kp hKt hKr hKc J Jx hY W ((hW.cell (p := ⟨bx, 0, none⟩) hbx').trans hbx) (hx.below (hW.mono hB)) h0
end Go.Proofs.Ytgnonfomlgkpcaa
