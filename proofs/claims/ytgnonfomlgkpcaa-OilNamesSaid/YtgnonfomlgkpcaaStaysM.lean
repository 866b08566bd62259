/-
  Playable and Lasts, by the program and by the reference: plain arithmetic.
-/
import Derived.Test.YtgnonfomlgkpcaaRefL
namespace Go.Proofs.Ytgnonfomlgkpcaa

theorem refPlayB_eq {xss bss : List (List Int)} {x nd : List Int} {lo hi ca : Int} (h : ballsErr xss lo hi ca bss = 0) (hl : lineB xss x nd = true) : refPlayB xss bss x nd lo hi ca = enB x nd (endO ca xss.length bss lo hi (oilOf xss) bss.length) := by
  obtain ⟨⟨hxl, hxb⟩, _, _⟩ := lineOk hl
  obtain ⟨hle, _, hbx⟩ := ballsOk h
  obtain ⟨h0, _, hxr, _, hlo, hlh, _⟩ := laneOk hle
  have h12 := (hxr 0 h0).2.2
  rw [refPlayB, enB, allB]
  refine Bool.eq_iff_iff.2 ?_
  simp only [List.all_eq_true, List.mem_range]
  refine forall_congr' fun r => forall_congr' fun hr => ?_
  have hb := hxb r (by omega)
  have hf := fresh_bd h (r := r) (b := (ix x r).toNat) (by omega) (by omega)
  have e := (aN_eq (ca := ca) (lo := lo) (hi := hi) bss r (ix x r).toNat bss.length (by omega) hf.1 hf.2).1
  rw [rowOk, enAt, e, endO_cell _ _ _ _ _ _ _ _ (show r < xss.length by omega) (by omega) _ (fun i hi j hj => by have := (hbx i hi).2 j hj; omega), oilOf_at _ (by omega)]

theorem ownO_rep {ca : Int} {x : List Int} {lo hi : Int} {o : Nat → Int} {n : Nat} (hn : x.length = n) (m : Nat) : ∀ k, k ≤ m → ownO ca x lo hi o k = endO ca n (List.replicate m x) lo hi o k
  | 0, _ => rfl
  | k + 1, hk => by
    rw [endO_succ, rx_rep m k x (by omega), ← ownO_rep hn m k (by omega), ← hn]
    rfl
theorem lastsRef_eq {xss : List (List Int)} {x nd : List Int} {lo hi ca : Int} (h : laneErr xss lo hi ca = 0) (hl : lineB xss x nd = true) : ∀ m k, k + m ≤ 20 → lastsRef xss x nd lo hi ca k m = lastsFrom ca x nd lo hi (oilOf xss) k m
  | 0, k, _ => rfl
  | m + 1, k, hk => by
    have hxl := (lineOk hl).1.1
    have e := refPlayB_eq (rep_balls (k := k) h hl (by omega)) hl
    rw [List.length_replicate, ← ownO_rep hxl k k (Nat.le_refl _)] at e
    rw [lastsRef, lastsFrom, e, lastsRef_eq h hl m (k + 1) (by omega)]
end Go.Proofs.Ytgnonfomlgkpcaa
