/-
  Ranks by rules, and by one rule more. Plain facts.
-/
import Derived.Test.YtjokbffdepcpkaaRefK
namespace Go.Proofs.Ytjokbffdepcpkaa
open Go.RowKit
set_option linter.unusedSimpArgs false
set_option linter.unusedVariables false

section
variable {n : Nat} {gs : List Gm} {rules : List Int} {t o : Int}
theorem groupsK_ext {ys : List Int} : ∀ k, k ≤ rules.length → groupsK n gs (rules ++ ys) k = groupsK n gs rules k
  | 0, _ => rfl
  | k + 1, h => by
    have e : ix (rules ++ ys) k = ix rules k := by rw [ix_lt (by simp; omega), ix_lt (by omega), List.getElem_append_left]
    have e2 : fallG gs (rules ++ ys) k = fallG gs rules k := by
      funext g
      unfold fallG
      have : grpN gs (rules ++ ys) k g = grpN gs rules k g := by funext t; unfold grpN; rw [e]
      rw [this]
    rw [groupsK, groupsK, groupsK_ext k (by omega), e2]
theorem rankV_ext {ys : List Int} : rankV n gs (rules ++ ys) rules.length t = rankV n gs rules rules.length t := by
  unfold rankV
  rw [groupsK_ext _ (Nat.le_refl _)]
theorem rank_more (hn : 0 < n) (hgs : ∀ g ∈ gs, GmOk n g) (x : Int) (ht : t ∈ wholeL n) (ho : o ∈ wholeL n) (h : rankV n gs rules rules.length o < rankV n gs rules rules.length t) : rankV n gs (rules ++ [x]) (rules.length + 1) o < rankV n gs (rules ++ [x]) (rules.length + 1) t := by
  rw [← rankV_ext (ys := [x]), ← rankV_ext (ys := [x])] at h
  rw [rank_lt hn hgs ho ht] at h ⊢
  rw [ahdK_succ, h, Bool.true_or]
theorem cls_down {j : Nat} : ∀ k, j ≤ k → clsK n gs rules k t o = true → clsK n gs rules j t o = true
  | 0, h, hc => by obtain rfl : j = 0 := by omega
                   exact hc
  | k + 1, h, hc => by
    by_cases e : j = k + 1
    · rw [e]; exact hc
    · rw [clsK_succ, Bool.and_eq_true] at hc
      exact cls_down k (by omega) hc.1
theorem rank_same (hn : 0 < n) (hgs : ∀ g ∈ gs, GmOk n g) (ht : t ∈ wholeL n) (ho : o ∈ wholeL n) (h : rankV n gs rules rules.length o = rankV n gs rules rules.length t) {j : Nat} (hj : j < rules.length) (h3 : ix rules j ≠ 3) : numS (ix rules j) (hasI []) o gs = numS (ix rules j) (hasI []) t gs := by
  rw [rank_eq hn hgs ho ht] at h
  have h := cls_down (j := j + 1) _ hj h
  rw [clsK_succ, Bool.and_eq_true, decide_eq_true_eq] at h
  have e : ∀ t, NK n gs rules j t = numS (ix rules j) (hasI []) t gs := fun t => by
    unfold NK
    refine numS_congr fun g _ => ?_
    unfold vG ruV
    simp [h3]
  rw [← e, ← e]
  exact h.2
/-- How many of the first k numbers are less than v, and one. -/
def cntF (r : Nat → Int) (v : Int) : Nat → Int
  | 0 => 1
  | k + 1 => if r k < v then cntF r v k + 1 else cntF r v k
theorem cntF_rng (r : Nat → Int) (v : Int) : ∀ k, 1 ≤ cntF r v k ∧ cntF r v k ≤ 1 + k
  | 0 => by simp [cntF]
  | k + 1 => by
    have := cntF_rng r v k
    unfold cntF
    split <;> omega
theorem cntF_congr {r r' : Nat → Int} {v : Int} : ∀ k, (∀ j, j < k → r j = r' j) → cntF r v k = cntF r' v k
  | 0, _ => rfl
  | k + 1, h => by rw [cntF, cntF, cntF_congr k (fun j hj => h j (by omega)), h k (by omega)]
theorem cntF_is (r : Int → Int) (v : Int) : ∀ k : Nat, cntF (fun j => r (j : Int)) v k = 1 + (((wholeL k).countP fun o => decide (r o < v) : Nat) : Int)
  | 0 => by simp [cntF, wholeL]
  | k + 1 => by
    rw [cntF, cntF_is r v k, whole_succ, List.countP_append]
    by_cases h : r (k : Int) < v
    · rw [if_pos h]
      simp [h]
      omega
    · rw [if_neg h]
      simp [h]
theorem rank_cntF (hn : 0 < n) (hgs : ∀ g ∈ gs, GmOk n g) (ht : t ∈ wholeL n) (k : Nat) : rankV n gs rules k t = cntF (fun j => rankV n gs rules k (j : Int)) (rankV n gs rules k t) n := by
  rw [cntF_is (fun o => rankV n gs rules k o)]
  conv => lhs; rw [rank_count hn hgs ht]
  congr 2
  refine List.countP_congr fun o ho => ?_
  rw [decide_eq_true_eq, rank_lt hn hgs ho ht]
end
/-- What LeagueRules asks. -/
structure RuF (l : Lg) (rules R1 R2 : List Int) : Prop where
  l1 : R1.length = l.teams.toNat
  l2 : R2.length = l.teams.toNat
  lt : ∀ o t, o < l.teams.toNat → t < l.teams.toNat → ix R1 o < ix R1 t → ix R2 o < ix R2 t
  eq : ∀ o t, o < l.teams.toNat → t < l.teams.toNat → ix R1 o = ix R1 t → ∀ j, j < rules.length → ix rules j ≠ 3 → numS (ix rules j) (hasI []) (o : Int) l.games = numS (ix rules j) (hasI []) (t : Int) l.games
  cnt : ∀ t, t < l.teams.toNat → ix R2 t = cntF (ix R2) (ix R2 t) l.teams.toNat
theorem rules_facts {l : Lg} {rules : List Int} {x : Int} (hv : Valid l) (h1 : rankErr l rules = 0) (h2 : rankErr l (rules ++ [x]) = 0) : RuF l rules (rankL l rules) (rankL l (rules ++ [x])) := by
  have hT2 := hv.t2
  have e1 : rankL l rules = (List.range l.teams.toNat).map fun t : Nat => rankV l.teams.toNat l.games rules rules.length (t : Int) := by unfold rankL; rw [if_pos h1]
  have e2 : rankL l (rules ++ [x]) = (List.range l.teams.toNat).map fun t : Nat => rankV l.teams.toNat l.games (rules ++ [x]) (rules.length + 1) (t : Int) := by unfold rankL; rw [if_pos h2]; simp
  have hgs : ∀ g ∈ l.games, GmOk (l.teams.toNat : Int) g := fun g hg => by
    have := hv.mem hg
    rwa [show ((l.teams.toNat : Nat) : Int) = l.teams by omega]
  have hn : 0 < l.teams.toNat := by omega
  have hm : ∀ k : Nat, k < l.teams.toNat → (k : Int) ∈ wholeL l.teams.toNat := fun k hk => mem_whole.2 ⟨by omega, by omega⟩
  rw [e1, e2]
  refine ⟨by simp, by simp, fun o t ho ht h => ?_, fun o t ho ht h j hj h3 => ?_, fun t ht => ?_⟩
  · rw [ix_mapR _ ho, ix_mapR _ ht] at h ⊢
    exact rank_more hn hgs x (hm t ht) (hm o ho) h
  · rw [ix_mapR _ ho, ix_mapR _ ht] at h
    exact rank_same hn hgs (hm t ht) (hm o ho) h hj h3
  · rw [ix_mapR _ ht]
    conv => lhs; rw [rank_cntF hn hgs (hm t ht)]
    exact cntF_congr _ fun j hj => by rw [ix_mapR _ hj]
end Go.Proofs.Ytjokbffdepcpkaa
