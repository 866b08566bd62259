/-
  A lane just behind a laying.
-/
import Derived.Test.YtgnonfomlgkpcaaE
namespace Go.Proofs.Ytgnonfomlgkpcaa
open Go.RowKit

/-- The oil of all cells, by rows of 12 boards; 0 where a row has no board. -/
def oilOf (xss : List (List Int)) : Nat → Int := fun i => ix (rx xss (i / 12)) (i % 12)

theorem worn_new (fv : Value) (lo hi ca : Int) : (((Try.zeroCells124.setIfInBounds 0 fv).setIfInBounds 1 (.int .i64 lo)).setIfInBounds 2 (.int .i64 hi)).setIfInBounds 3 (.int .i64 ca) = (wcells fv lo hi ca (oilOf [])).toArray := by kernel_rfl

theorem rx_take {xss : List (List Int)} {k j : Nat} : rx (xss.take k) j = if j < k then rx xss j else [] := by
  simp only [rx, List.getD_eq_getElem?_getD, List.getElem?_take]
  split <;> rfl

theorem splice_row {fv : Value} {lo hi ca : Int} {xss : List (List Int)} {k : Nat} (hk : k < 8) (hl : (rx xss k).length ≤ 12) :
    splice (wcells fv lo hi ca (oilOf (xss.take k))) (4 + k * 12) ((rx xss k).map (Value.int .i64)) = wcells fv lo hi ca (oilOf (xss.take (k + 1))) := by
  have hL : (splice (wcells fv lo hi ca (oilOf (xss.take k))) (4 + k * 12) ((rx xss k).map (Value.int .i64))).length = 100 := by
    rw [length_splice _ _ _ (by rw [wcells_len]; simp; omega), wcells_len]
  refine List.ext_getElem (by rw [hL, wcells_len]) fun j h1 h2 => ?_
  rw [hL] at h1
  rw [← Option.some_inj, ← List.getElem?_eq_getElem, ← List.getElem?_eq_getElem]
  unfold splice
  by_cases hj : j < 4
  · rw [List.getElem?_append_left (by simp [wcells_len]; omega), List.getElem?_take, if_pos (by omega)]
    obtain rfl | rfl | rfl | rfl : j = 0 ∨ j = 1 ∨ j = 2 ∨ j = 3 := by omega
    all_goals rfl
  · obtain ⟨m, rfl⟩ : ∃ m, j = 4 + m := ⟨j - 4, by omega⟩
    rw [wcells_at (by omega)]
    by_cases ha : m < k * 12
    · rw [List.getElem?_append_left (by simp [wcells_len]; omega), List.getElem?_take, if_pos (by omega), wcells_at (by omega)]
      have e1 : m / 12 < k := by omega
      simp only [oilOf, rx_take, if_pos e1, if_pos (show m / 12 < k + 1 by omega)]
    · have e0 : (List.take (4 + k * 12) (wcells fv lo hi ca (oilOf (xss.take k)))).length = 4 + k * 12 := by simp [wcells_len]; omega
      rw [List.getElem?_append_right (by rw [e0]; omega), e0]
      by_cases hb : m < k * 12 + (rx xss k).length
      · rw [List.getElem?_append_left (by simp; omega)]
        have e1 : m / 12 = k := by omega
        have e2 : 4 + m - (4 + k * 12) = m % 12 := by omega
        rw [e2, List.getElem?_map, List.getElem?_eq_getElem (by omega)]
        simp only [oilOf, rx_take, e1, if_pos (show k < k + 1 by omega), Option.map_some]
        rw [ix_lt]
      · rw [List.getElem?_append_right (by simp; omega), List.getElem?_drop]
        have e3 : 4 + k * 12 + (List.map (Value.int .i64) (rx xss k)).length + (4 + m - (4 + k * 12) - (List.map (Value.int .i64) (rx xss k)).length) = 4 + m := by simp; omega
        rw [e3, wcells_at (by omega)]
        congr 2
        simp only [oilOf, rx_take]
        by_cases e4 : m / 12 < k + 1
        · have e5 : m / 12 = k := by omega
          rw [e5, if_neg (by omega), if_pos (by omega)]
          simp only [ix]
          rw [List.getD_eq_getElem?_getD, List.getD_eq_getElem?_getD, List.getElem?_eq_none (by simp), List.getElem?_eq_none (by omega)]
        · rw [if_neg (by omega), if_neg (by omega)]

theorem info3s : (Try.prog.info? 3).map (·.size) = some 1 := by kernel_rfl

theorem add_eq (b off j : Nat) : (⟨b, off, none⟩ : Addr).add j = ⟨b, off + j, none⟩ := by
  unfold Addr.add
  split
  · next h => subst h; rfl
  · rfl

theorem Ints.src {B : Nat} {w : World} {A : Option Addr} {xs : List Int} (h : Ints B w A xs) (h0 : 0 < (xs.map (Value.int .i64)).length) : ∃ ad, A = some ad ∧ ∀ j v, (xs.map (Value.int .i64))[j]? = some v → w.cell? (ad.add j) = some v := by
  obtain ⟨b, off, hA, _, hc⟩ := h (by simpa using h0)
  refine ⟨_, hA, fun j v hv => ?_⟩
  rw [add_eq]
  have hj : j < xs.length := by
    rcases Nat.lt_or_ge j xs.length with h | h
    · exact h
    · rw [List.getElem?_eq_none (by simpa using h)] at hv; cases hv
  rw [hc j hj, ix_lt hj]
  simpa [hj] using hv

theorem one_ints (xs : List Int) : ∀ v ∈ xs.map (Value.int .i64), v.oneCell' = true := by
  intro v hv
  obtain ⟨x, _, rfl⟩ := List.mem_map.1 hv
  rfl

/-- The answer is a pointer to a worn lane, in a new block. -/
def FreshPost (w : World) (fv : Value) (lo hi ca : Int) (o : Nat → Int) (e : Ending) (w' : World) : Prop :=
  ∃ g, e = .returned (.pointer (some ⟨g, 0, none⟩)) ∧ w.heap.size ≤ g ∧ Worn w' g fv lo hi ca o ∧ Below w.heap.size w w'

set_option maxRecDepth 100000 in
set_option maxHeartbeats 1000000 in
theorem fresh_c {B : Nat} (A : Option Addr) (xss : List (List Int)) (c : Nat) (lo hi ca : Int) (w : World) (hB : B ≤ w.heap.size) (hr : Grd B w A xss) (_hc : xss.length ≤ c ∧ c ≤ 9223372036854775807) (h8 : xss.length ≤ 8)
    (h12 : ∀ k, k < xss.length → (rx xss k).length ≤ 12) :
    Calls Try.prog 61 #[.agg #[.slice A xss.length c, .int .i64 lo, .int .i64 hi, .int .i64 ca]] w (FreshPost w (.slice A xss.length c) lo hi ca (oilOf xss)) := by
  have hw0 : Below w.heap.size w ((w.alloc (.cells #[.slice A xss.length c, .int .i64 lo, .int .i64 hi, .int .i64 ca] 34)).alloc (.cells ((((Try.zeroCells124.setIfInBounds 0 (.slice A xss.length c)).setIfInBounds 1 (.int .i64 lo)).setIfInBounds 2 (.int .i64 hi)).setIfInBounds 3 (.int .i64 ca)) 124)) := ((Below.refl _ _).alloc (Nat.le_refl _) _).alloc (by simp) _
  have HW0 : Hid (Worn ((w.alloc (.cells #[.slice A xss.length c, .int .i64 lo, .int .i64 hi, .int .i64 ca] 34)).alloc (.cells ((((Try.zeroCells124.setIfInBounds 0 (.slice A xss.length c)).setIfInBounds 1 (.int .i64 lo)).setIfInBounds 2 (.int .i64 hi)).setIfInBounds 3 (.int .i64 ca)) 124)) (w.heap.size + 1) (.slice A xss.length c) lo hi ca (oilOf (xss.take 0))) := by
    show Worn _ _ _ _ _ _ _
    unfold Worn
    rw [List.take_zero, ← worn_new]
    have := World.alloc_heap_new (w.alloc (.cells #[.slice A xss.length c, .int .i64 lo, .int .i64 hi, .int .i64 ca] 34)) (.cells ((((Try.zeroCells124.setIfInBounds 0 (.slice A xss.length c)).setIfInBounds 1 (.int .i64 lo)).setIfInBounds 2 (.int .i64 hi)).setIfInBounds 3 (.int .i64 ca)) 124)
    rwa [World.size_alloc] at this
  go_enter Try.func61, Try.ntmps61
  go_wp2_with fail
  go_loopw [12] (fun i wr => ∃ k : Nat, k ≤ xss.length ∧ i = .int .i64 k ∧ Worn wr (w.heap.size + 1) (.slice A xss.length c) lo hi ca (oilOf (xss.take k)) ∧ Below w.heap.size w wr) (fun i _ => xss.length - (intOf i).toNat)
  case atStart => exact ⟨0, by omega, rfl, HW0.out, hw0⟩
  case round =>
    obtain ⟨k, hk, rfl, hW, hb⟩ := hrel
    clear hw0 HW0
    by_cases h1 : k < xss.length
    · obtain ⟨b, off, A', c', rfl, hb1, hcl, hl1, hl2, hin⟩ := (hr.below (hb.mono hB)).at_ h1
      have hl12 := h12 k h1
      have HIN := Lib.hid hin
      have HWo := Lib.hid hW
      have HB := Lib.hid hb
      have hz := hb.size
      have Hn : Hid (((rx xss k).map (Value.int .i64)).length = Nat.min (rx xss k).length 12) := by show _ = _; rw [List.length_map]; exact (Nat.min_eq_left hl12).symm
      have Hp : Hid (0 < ((rx xss k).map (Value.int .i64)).length → some (⟨w.heap.size + 1, 4 + k * 12, none⟩ : Addr) = some ⟨w.heap.size + 1, 4 + k * 12, none⟩ ∧ ∃ ad, A' = some ad ∧ ∀ j v, ((rx xss k).map (Value.int .i64))[j]? = some v → wr.cell? (ad.add j) = some v) := fun h0 => ⟨rfl, hin.src h0⟩
      have Hf : Hid (4 + k * 12 + ((rx xss k).map (Value.int .i64)).length ≤ (wcells (.slice (some ⟨b, off, none⟩) xss.length c) lo hi ca (oilOf (xss.take k))).length) := by show _ ≤ _; rw [wcells_len]; simp; omega
      clear hin hW hb
      go_wp2_with (refine wpList_copy_splice rfl (.tmp 22) (.tmp 23) 45 45 rfl 3 Try.underlying45 info3s (some ⟨w.heap.size + 1, 4 + k * 12, none⟩) A' 12 12 (rx xss k).length c' rfl rfl (w.heap.size + 1) (4 + k * 12) (wcells (.slice (some ⟨b, off, none⟩) xss.length c) lo hi ca (oilOf (xss.take k))) 124 HWo.out ((rx xss k).map (Value.int .i64)) Hn.out Hp.out Hf.out (one_ints _) w.heap.size w HB.out (Nat.le_succ _) ?_; intro w2 hW2 hb2; clear HWo HB HIN hcl Hn Hp Hf; have HW2 := Lib.hid hW2; have HB2 := Lib.hid hb2; clear hW2 hb2)
      have hW3 := HW2.out.out
      rw [splice_row (by omega) hl12] at hW3
      go_roundw
      case rel => exact ⟨k + 1, by omega, by go_num, hW3, HB2.out⟩
      case measure => simp [intOf]; omega
    · obtain rfl : k = xss.length := by omega
      go_wp2_with fail
      go_ret
      rw [List.take_length] at hW
      exact ⟨_, rfl, by omega, hW, hb⟩
end Go.Proofs.Ytgnonfomlgkpcaa
