/-
  A team can be first, or there is a reason. Plain facts.
-/
import Derived.Test.YtjokbffdepcpkaaCan
namespace Go.Proofs.Ytjokbffdepcpkaa
open Go.RowKit
set_option linter.unusedSimpArgs false
set_option linter.unusedVariables false

theorem refBest_nil {T : Nat} {p : List Int → Bool} : ∀ k, (∀ b, 1 ≤ b → b ≤ k → p (bitsL T b) = true → bitsL T b ≠ []) → (refBest T p k = [] ↔ ∀ b, 1 ≤ b → b ≤ k → p (bitsL T b) = false)
  | 0, _ => ⟨fun _ b h1 h2 => by omega, fun _ => rfl⟩
  | k + 1, h => by
    have ih := refBest_nil k (fun b h1 h2 => h b h1 (by omega))
    have h9 := h (k + 1) (by omega) (Nat.le_refl _)
    rw [refBest]
    cases e : p (bitsL T (k + 1))
    · simp only [Bool.false_and, Bool.false_eq_true, if_false]
      rw [ih]
      refine ⟨fun hh b h1 h2 => ?_, fun hh b h1 h2 => hh b h1 (by omega)⟩
      by_cases eb : b = k + 1
      · rw [eb]; exact e
      · exact hh b h1 (by omega)
    · have hne := h9 e
      constructor
      · intro hh
        exfalso
        split at hh
        · exact hne hh
        · next hc =>
          apply hc
          rw [hh]
          simp
      · intro hh
        have := hh (k + 1) (by omega) (Nat.le_refl _)
        rw [e] at this
        cases this
/-- The number of a set of the first k teams. -/
def bitN (S : Nat → Bool) : Nat → Nat
  | 0 => 0
  | k + 1 => bitN S k + if S k then 2 ^ k else 0
theorem bitN_lt (S : Nat → Bool) : ∀ k, bitN S k < 2 ^ k
  | 0 => by simp [bitN]
  | k + 1 => by
    have := bitN_lt S k
    unfold bitN
    rw [Nat.pow_succ]
    split <;> omega
theorem bitN_test (S : Nat → Bool) : ∀ k t, t < k → (bitN S k).testBit t = S t
  | 0, t, h => by omega
  | k + 1, t, h => by
    have hl := bitN_lt S k
    unfold bitN
    by_cases e : t = k
    · subst e
      cases hs : S t
      · simp only [Bool.false_eq_true, if_false, Nat.add_zero]
        exact Nat.testBit_lt_two_pow hl
      · simp only [if_true]
        rw [Nat.add_comm, Nat.testBit_two_pow_add_eq, Nat.testBit_lt_two_pow hl]
        rfl
    · have ih := bitN_test S k t (by omega)
      split
      · rw [Nat.add_comm, Nat.testBit_two_pow_add_gt (by omega)]
        exact ih
      · simpa using ih
theorem bitN_list (S : Nat → Bool) (T : Nat) : bitsL T (bitN S T) = ((List.range T).filter S).map Int.ofNat := by
  unfold bitsL
  congr 1
  refine List.filter_congr fun t ht => ?_
  exact bitN_test S T t (List.mem_range.1 ht)
/-- The teams of a set, below T. -/
def setT (S : Nat → Bool) (T : Nat) : List Int := ((List.range T).filter S).map Int.ofNat
theorem setT_succ (S : Nat → Bool) (T : Nat) : setT S (T + 1) = setT S T ++ if S T then [(T : Int)] else [] := by
  unfold setT
  rw [List.range_succ, List.filter_append, List.map_append]
  cases h : S T <;> simp [h]
theorem sumP_append {f : Nat → Int} {A B : List Int} : ∀ k, k ≤ A.length → sumP f (A ++ B) k = sumP f A k
  | 0, _ => rfl
  | k + 1, h => by rw [sumP, sumP, sumP_append k (by omega), ix_lt (by simp; omega), ix_lt (show k < A.length by omega), List.getElem_append_left]
theorem setT_sum (S : Nat → Bool) (f : Nat → Int) : ∀ T, sumP f (setT S T) (setT S T).length = Rc.sumS S f T
  | 0 => by simp [setT, sumP, Rc.sumS]
  | T + 1 => by
    rw [setT_succ, Rc.sumS, ← setT_sum S f T]
    cases h : S T
    · simp
    · simp only [if_true, List.length_append, List.length_cons, List.length_nil]
      rw [sumP, sumP_append _ (Nat.le_refl _), ix_lt (by simp)]
      simp
theorem setT_len (S : Nat → Bool) : ∀ T, ((setT S T).length : Int) = Rc.sumS S (fun _ => 1) T
  | 0 => by simp [setT, Rc.sumS]
  | T + 1 => by
    rw [setT_succ, Rc.sumS, ← setT_len S T]
    cases h : S T <;> simp
theorem setT_mem {S : Nat → Bool} {T : Nat} {x : Int} : x ∈ setT S T ↔ ∃ t : Nat, x = (t : Int) ∧ t < T ∧ S t = true := by
  unfold setT
  rw [List.mem_map]
  constructor
  · rintro ⟨t, ht, rfl⟩
    rw [List.mem_filter, List.mem_range] at ht
    exact ⟨t, rfl, ht.1, ht.2⟩
  · rintro ⟨t, rfl, h1, h2⟩
    exact ⟨t, List.mem_filter.2 ⟨List.mem_range.2 h1, h2⟩, rfl⟩
theorem setT_has {S : Nat → Bool} {T : Nat} {x : Int} (h0 : 0 ≤ x) (hx : x < T) : hasI (setT S T) x = S x.toNat := by
  unfold hasI
  cases h : S x.toNat
  · rw [decide_eq_false_iff_not, setT_mem]
    rintro ⟨t, rfl, h1, h2⟩
    rw [Int.toNat_natCast] at h
    rw [h] at h2
    cases h2
  · rw [decide_eq_true_eq, setT_mem]
    exact ⟨x.toNat, by omega, by omega, h⟩
theorem race_in {l : Lg} (hv : Valid l) (p : Nat) (S : Nat → Bool) : ∀ k, k ≤ (opensL l.games).length → (raceR l p).inS S k = (((opensL l.games).take k).countP (bothG (setT S l.teams.toNat)) : Nat)
  | 0, _ => by simp [Rc.inS]
  | k + 1, h => by
    have hk : k < (opensL l.games).length := by omega
    have g := open_mem hv hk
    rw [Rc.inS, race_in hv p S k (by omega), List.take_succ_eq_append_getElem hk, List.countP_append, ← gmx_lt hk]
    have e : bothG (setT S l.teams.toNat) (gmx (opensL l.games) k) = (S ((raceR l p).A k) && S ((raceR l p).B k)) := by
      unfold bothG
      rw [setT_has g.a0 (by have := g.an; omega), setT_has g.b0 (by have := g.bn; omega)]
      rfl
    rw [← e]
    cases he : bothG (setT S l.teams.toNat) (gmx (opensL l.games) k) <;> simp [he]
theorem sumS_ext {S : Nat → Bool} {f : Nat → Int} {T : Nat} : ∀ d, (∀ u, T ≤ u → u < T + d → S u = true → f u = 0) → Rc.sumS S f (T + d) = Rc.sumS S f T
  | 0, _ => rfl
  | d + 1, h => by
    rw [← Nat.add_assoc, Rc.sumS, sumS_ext d (fun u h1 h2 => h u h1 (by omega))]
    by_cases e : S (T + d) = true
    · rw [if_pos e, h _ (by omega) (by omega) e]; omega
    · rw [if_neg e]; omega
theorem sumS_more {S : Nat → Bool} {T : Nat} : ∀ d, Rc.sumS S (fun _ => 1) T ≤ Rc.sumS S (fun _ => 1) (T + d)
  | 0 => Int.le_refl _
  | d + 1 => by
    have := sumS_more (S := S) (T := T) d
    rw [← Nat.add_assoc, Rc.sumS]
    split <;> omega
theorem numS_none {code : Int} {grp : Int → Bool} {t : Int} : ∀ gs : List Gm, (∀ g ∈ gs, g.a ≠ t ∧ g.b ≠ t) → numS code grp t gs = 0
  | [], _ => rfl
  | g :: gs, h => by
    obtain ⟨h1, h2⟩ := h g (by simp)
    rw [numS, numS_none gs (fun x hx => h x (by simp [hx]))]
    unfold vG
    rw [if_neg h2, if_neg h1]
    rfl
theorem sums_ghost {l : Lg} (hv : Valid l) {u : Nat} (h : l.teams.toNat ≤ u) : sumsF l u = 0 := by
  unfold sumsF sumsK
  refine numS_none _ fun g hg => ?_
  have hg' := hv.mem (List.mem_of_mem_take hg)
  have := hg'.an; have := hg'.bn; have := hv.t2
  omega
theorem ruled_of {l : Lg} (hv : Valid l) {p : Nat} {S : Nat → Bool} (h : (raceR l p).Rules (sumsF l) S) : ruledB (reachF l (p : Int)) (sumsF l) (opensL l.games) (setT S l.teams.toNat) = true := by
  have hT2 := hv.t2
  have hT6 := hv.t6
  obtain ⟨d, hd⟩ : ∃ d, 6 = l.teams.toNat + d := ⟨6 - l.teams.toNat, by omega⟩
  have hm : reachF l (p : Int) * Rc.sumS S (fun _ => 1) 6 < Rc.sumS S (sumsF l) 6 + 2 * (raceR l p).inS S (opensL l.games).length := h.more
  rw [hd, sumS_ext (f := sumsF l) d (fun u h1 _ _ => sums_ghost hv h1), race_in hv p S _ (Nat.le_refl _), List.take_length] at hm
  have h0 := (reachK_rng hv (tm := (p : Int)) (Nat.le_refl _)).1
  have hle : reachF l (p : Int) * Rc.sumS S (fun _ => 1) l.teams.toNat ≤ reachF l (p : Int) * Rc.sumS S (fun _ => 1) (l.teams.toNat + d) := Int.mul_le_mul_of_nonneg_left (sumS_more d) h0
  have key : reachF l (p : Int) * ((setT S l.teams.toNat).length : Int) < needK (sumsF l) (opensL l.games) (setT S l.teams.toNat) (opensL l.games).length := by
    unfold needK
    rw [setT_sum, setT_len, List.take_length]
    omega
  unfold ruledB
  rw [Bool.and_eq_true, decide_eq_true_eq, decide_eq_true_eq]
  refine ⟨?_, key⟩
  apply Classical.byContradiction
  intro hn
  have e : setT S l.teams.toNat = [] := List.eq_nil_of_length_eq_zero (by omega)
  rw [e] at key
  have e2 : ∀ gs : List Gm, gs.countP (bothG []) = 0 := fun gs => List.countP_eq_zero.2 fun g _ => by simp [bothG, hasI]
  unfold needK at key
  rw [e2] at key
  simp [sumP] at key
theorem of_ruled {l : Lg} (hv : Valid l) {p : Nat} (hp : (p : Int) < l.teams) {S : Nat → Bool} (hS : ∀ u, S u = true → u < l.teams.toNat) (hn : S p = false) (h : ruledB (reachF l (p : Int)) (sumsF l) (opensL l.games) (setT S l.teams.toNat) = true) : (raceR l p).Rules (sumsF l) S := by
  have hT2 := hv.t2
  have hT6 := hv.t6
  obtain ⟨d, hd⟩ : ∃ d, 6 = l.teams.toNat + d := ⟨6 - l.teams.toNat, by omega⟩
  unfold ruledB at h
  rw [Bool.and_eq_true, decide_eq_true_eq, decide_eq_true_eq] at h
  have hk := h.2
  unfold needK at hk
  rw [setT_sum, setT_len, List.take_length] at hk
  refine ⟨hn, fun u hu => by have := hS u hu; show u < 6; omega, ?_⟩
  show reachF l (p : Int) * Rc.sumS S (fun _ => 1) 6 < Rc.sumS S (sumsF l) 6 + 2 * (raceR l p).inS S (opensL l.games).length
  have e1 : ∀ f : Nat → Int, Rc.sumS S f 6 = Rc.sumS S f l.teams.toNat := fun f => by
    rw [hd]
    exact sumS_ext d fun u h1 h2 h3 => absurd (hS u h3) (by omega)
  rw [e1, e1, race_in hv p S _ (Nat.le_refl _), List.take_length]
  exact hk
theorem setT_nil {S : Nat → Bool} {T : Nat} (h : bitN S T = 0) : setT S T = [] := by
  unfold setT
  rw [List.map_eq_nil_iff, List.filter_eq_nil_iff]
  intro t ht
  rw [← bitN_test S T t (List.mem_range.1 ht), h]
  simp
theorem ruledB_nil (rc : Int) (f : Nat → Int) (gs : List Gm) : ruledB rc f gs [] = false := by simp [ruledB]
/-- A team can be first just if there is no reason. -/
theorem can_reason {l : Lg} (hv : Valid l) {p : Nat} (hp : (p : Int) < l.teams) : canB l p = true ↔ reasonF l (p : Int) = none := by
  have hT2 := hv.t2
  have hT6 := hv.t6
  unfold reasonF
  rw [(reason_eq (T := l.teams.toNat) (tm := p) (by omega) (by omega) (by omega) (ruledB (reachF l (p : Int)) (sumsF l) (opensL l.games))).2]
  rw [refBest_nil _ (fun b _ _ h => by
    intro e
    rw [e, ruledB_nil, Bool.and_false] at h
    cases h)]
  have hpn : 0 < 2 ^ l.teams.toNat := Nat.two_pow_pos _
  constructor
  · intro hc b h1 h2
    cases e : (!hasI (bitsL l.teams.toNat b) (p : Int) && ruledB (reachF l (p : Int)) (sumsF l) (opensL l.games) (bitsL l.teams.toNat b))
    · rfl
    · exfalso
      rw [Bool.and_eq_true, Bool.not_eq_true'] at e
      have hset : bitsL l.teams.toNat b = setT (fun u => decide (u < l.teams.toNat) && b.testBit u) l.teams.toNat := by
        unfold bitsL setT
        congr 1
        refine List.filter_congr fun t ht => ?_
        rw [decide_eq_true (List.mem_range.1 ht), Bool.true_and]
      rw [hset] at e
      have hn := e.1
      rw [setT_has (by omega) (by omega), Int.toNat_natCast] at hn
      have hR := of_ruled hv hp (S := fun u => decide (u < l.teams.toNat) && b.testBit u) (fun u hu => by
        rw [Bool.and_eq_true, decide_eq_true_eq] at hu
        exact hu.1) hn e.2
      rw [can_false hR] at hc
      cases hc
  · intro h
    classical
    unfold canB
    refine decide_eq_true fun S hS => ?_
    have hr := ruled_of hv hS
    have hb := bitN_list S l.teams.toNat
    have hlt := bitN_lt S l.teams.toNat
    by_cases h0 : bitN S l.teams.toNat = 0
    · rw [setT_nil h0, ruledB_nil] at hr
      cases hr
    · have h9 := h (bitN S l.teams.toNat) (by omega) (by omega)
      rw [hb] at h9
      have hn : hasI (setT S l.teams.toNat) (p : Int) = false := by
        rw [setT_has (by omega) (by omega), Int.toNat_natCast]
        exact hS.tm
      have h8 : (!hasI (setT S l.teams.toNat) (p : Int) && ruledB (reachF l (p : Int)) (sumsF l) (opensL l.games) (setT S l.teams.toNat)) = false := h9
      rw [hn, hr] at h8
      cases h8
theorem refBest_mem {T : Nat} {p : List Int → Bool} : ∀ k, refBest T p k ≠ [] → ∃ b, 1 ≤ b ∧ b ≤ k ∧ refBest T p k = bitsL T b ∧ p (bitsL T b) = true
  | 0, h => absurd rfl h
  | k + 1, h => by
    rw [refBest] at h ⊢
    split at h
    · next hc =>
      rw [if_pos hc]
      rw [Bool.and_eq_true] at hc
      exact ⟨k + 1, by omega, Nat.le_refl _, rfl, hc.1⟩
    · next hc =>
      rw [if_neg hc]
      obtain ⟨b, h1, h2, h3, h4⟩ := refBest_mem k h
      exact ⟨b, h1, by omega, h3, h4⟩
/-- A reason is a set of teams, that rules the team out. -/
theorem reason_set {l : Lg} (hv : Valid l) {p : Nat} (hp : (p : Int) < l.teams) {L : List Int} (h : reasonF l (p : Int) = some L) : ∃ S, L = setT S l.teams.toNat ∧ (∀ u, S u = true → u < l.teams.toNat) ∧ (raceR l p).Rules (sumsF l) S := by
  have hT2 := hv.t2
  have hT6 := hv.t6
  obtain ⟨e1, e2⟩ := reason_eq (T := l.teams.toNat) (tm := p) (by omega) (by omega) (by omega) (ruledB (reachF l (p : Int)) (sumsF l) (opensL l.games))
  have h' : (allC l.teams.toNat (p : Int) (l.teams.toNat - 1)).find? (ruledB (reachF l (p : Int)) (sumsF l) (opensL l.games)) = some L := h
  rw [h'] at e1 e2
  have hne : ¬ refBest l.teams.toNat (fun s => !hasI s (p : Int) && ruledB (reachF l (p : Int)) (sumsF l) (opensL l.games) s) (2 ^ l.teams.toNat - 1) = [] := fun e => by
    have := e2.2 e
    cases this
  obtain ⟨b, h1, h2, h3, h4⟩ := refBest_mem _ hne
  have h4' : (!hasI (bitsL l.teams.toNat b) (p : Int) && ruledB (reachF l (p : Int)) (sumsF l) (opensL l.games) (bitsL l.teams.toNat b)) = true := h4
  have hL : L = bitsL l.teams.toNat b := by
    rw [← h3]
    exact e1.symm
  rw [Bool.and_eq_true, Bool.not_eq_true'] at h4'
  have hset : bitsL l.teams.toNat b = setT (fun u => decide (u < l.teams.toNat) && b.testBit u) l.teams.toNat := by
    unfold bitsL setT
    congr 1
    refine List.filter_congr fun t ht => ?_
    rw [decide_eq_true (List.mem_range.1 ht), Bool.true_and]
  rw [hset] at h4' hL
  have hn := h4'.1
  rw [setT_has (by omega) (by omega), Int.toNat_natCast] at hn
  have hS : ∀ u, (decide (u < l.teams.toNat) && b.testBit u) = true → u < l.teams.toNat := fun u hu => by
    rw [Bool.and_eq_true, decide_eq_true_eq] at hu
    exact hu.1
  exact ⟨_, hL, hS, of_ruled hv hp hS hn h4'.2⟩
end Go.Proofs.Ytjokbffdepcpkaa
