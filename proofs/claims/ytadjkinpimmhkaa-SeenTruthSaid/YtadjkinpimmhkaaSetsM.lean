/-
  All lists of tellers, as the reference's loops print them. Plain facts.
-/
import Derived.Test.YtadjkinpimmhkaaLeastM
namespace Go.Proofs.Ytadjkinpimmhkaa
open Go.RowKit
set_option linter.unusedSimpArgs false
set_option linter.unusedVariables false

def sC (a b n : Nat) : List (List Int) := (List.range n).map fun (i : Nat) => [(a : Int), (b : Int), ((b + 1 + i : Nat) : Int)]
def sBp (m a b : Nat) : List (List Int) := (if m = 2 then [[(a : Int), (b : Int)]] else []) ++ (if m = 3 then sC a b (3 - b) else [])
def sB (m a n : Nat) : List (List Int) := (List.range n).flatMap fun i => sBp m a (a + 1 + i)
def sAp (m a : Nat) : List (List Int) := (if m = 1 then [[(a : Int)]] else []) ++ (if 1 < m then sB m a (3 - a) else [])
def sA (m n : Nat) : List (List Int) := (List.range n).flatMap fun a => sAp m a
def sM (n : Nat) : List (List Int) := (List.range n).flatMap fun i => sA (i + 1) 4
theorem sC_succ (a b n : Nat) : sC a b (n + 1) = sC a b n ++ [[(a : Int), (b : Int), ((b + 1 + n : Nat) : Int)]] := by simp [sC, List.range_succ]
theorem sB_succ (m a n : Nat) : sB m a (n + 1) = sB m a n ++ sBp m a (a + 1 + n) := by simp [sB, List.range_succ]
theorem sA_succ (m n : Nat) : sA m (n + 1) = sA m n ++ sAp m n := by simp [sA, List.range_succ]
theorem sM_succ (n : Nat) : sM (n + 1) = sM n ++ sA (n + 1) 4 := by simp [sM, List.range_succ]
theorem flat_le {f : Nat → List (List Int)} {K : Nat} (h : ∀ i, (f i).length ≤ K) : ∀ n, ((List.range n).flatMap f).length ≤ n * K
  | 0 => by simp
  | n + 1 => by
    rw [List.range_succ, List.flatMap_append, List.length_append]
    have h1 := flat_le h n
    have h2 := h n
    simp only [List.flatMap_cons, List.flatMap_nil, List.append_nil]
    rw [Nat.succ_mul]
    omega
theorem sC_len (a b n : Nat) : (sC a b n).length = n := by simp [sC]
theorem sBp_len (m a b : Nat) : (sBp m a b).length ≤ 4 := by
  unfold sBp
  rw [List.length_append]
  have := sC_len a b (3 - b)
  split <;> split <;> simp <;> omega
theorem sB_len (m a n : Nat) : (sB m a n).length ≤ n * 4 := flat_le (fun i => sBp_len m a (a + 1 + i)) n
theorem sAp_len (m a : Nat) : (sAp m a).length ≤ 13 := by
  unfold sAp
  rw [List.length_append]
  have := sB_len m a (3 - a)
  split <;> split <;> simp <;> omega
theorem sA_len (m n : Nat) : (sA m n).length ≤ n * 13 := flat_le (fun a => sAp_len m a) n
theorem sM_len (n : Nat) : (sM n).length ≤ n * 52 := flat_le (fun i => sA_len (i + 1) 4) n
def setsL : List (List Int) := ([[]] ++ sM 4) ++ [[0, 1, 2, 3]]
theorem sets_eq : setsL = setsK 0 ++ (setsK 1 ++ (setsK 2 ++ (setsK 3 ++ setsK 4))) := by decide +kernel
theorem setsL_len : setsL.length = 16 := by decide +kernel
theorem sets_rows {k : Nat} (hk : k < setsL.length) : (rx setsL k).length ≤ 1000000 := by
  have h : setsL.all (fun x => decide (x.length ≤ 1000000)) = true := by decide +kernel
  rw [rx_lt hk]
  have := List.all_eq_true.1 h _ (List.getElem_mem hk)
  simpa using this
/-- The first of some lists that explains; the empty one if none does. -/
def firstL (ex : (Nat → Bool) → Bool) (xss : List (List Int)) : List Int := rx (xss.filter fun s => ex (offT s)) 0
theorem firstL_at {ex : (Nat → Bool) → Bool} {xss : List (List Int)} {k : Nat} (hk : k < xss.length) (h0 : ∀ j, j < k → ex (offT (rx xss j)) = false) (h : ex (offT (rx xss k)) = true) : firstL ex xss = rx xss k := by
  unfold firstL
  have e : xss = xss.take k ++ (rx xss k :: xss.drop (k + 1)) := by
    rw [rx_lt hk, List.getElem_cons_drop, List.take_append_drop]
  have e2 : (xss.take k).filter (fun s => ex (offT s)) = [] := by
    rw [List.filter_eq_nil_iff]
    intro s hs
    obtain ⟨j, hj, rfl⟩ := List.getElem_of_mem hs
    have hj2 : j < k := by rw [List.length_take] at hj; omega
    have := h0 j hj2
    rw [rx_lt (by omega)] at this
    simp [this]
  conv => lhs; rw [e]
  rw [List.filter_append, e2, List.nil_append, List.filter_cons, if_pos h]
  rfl
theorem firstL_none {ex : (Nat → Bool) → Bool} {xss : List (List Int)} (h0 : ∀ j, j < xss.length → ex (offT (rx xss j)) = false) : firstL ex xss = [] := by
  unfold firstL
  have e2 : xss.filter (fun s => ex (offT s)) = [] := by
    rw [List.filter_eq_nil_iff]
    intro s hs
    obtain ⟨j, hj, rfl⟩ := List.getElem_of_mem hs
    have := h0 j hj
    rw [rx_lt hj] at this
    simp [this]
  rw [e2]
  rfl
theorem least_firstL (ex : (Nat → Bool) → Bool) : leastL ex = firstL ex setsL := by rw [least_first, ← sets_eq]; rfl
theorem blame_rx (ex : (Nat → Bool) → Bool) (h : blameOk ex = true) : 0 ≤ blameV ex := by
  unfold blameV
  rw [if_pos h]
  unfold blameOk at h
  simp only [Bool.and_eq_true, decide_eq_true_eq] at h
  have h1 : rx (lstM ex 1) 0 ∈ lstM ex 1 := by rw [rx_lt (by omega)]; exact List.getElem_mem _
  rw [lstM_1] at h1
  obtain ⟨k, _, e⟩ := List.mem_map.1 h1
  rw [lstM_1, ← e]
  simp [ix]
end Go.Proofs.Ytadjkinpimmhkaa
