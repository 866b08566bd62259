/-
  Who can be first is shown so; who cannot is ruled out by the reason. Plain facts.
-/
import Derived.Test.YtjokbffdepcpkaaTruthF
import Derived.Test.YtjokbffdepcpkaaShows
import Derived.Test.YtjokbffdepcpkaaOut
namespace Go.Proofs.Ytjokbffdepcpkaa
open Go.RowKit
set_option linter.unusedSimpArgs false
set_option linter.unusedVariables false

theorem wt_same {R : Rc} {g h : Nat → Int} {u : Nat} : ∀ k, (∀ j, j < k → g j = h j) → R.wt g u k = R.wt h u k
  | 0, _ => rfl
  | k + 1, e => by rw [Rc.wt, Rc.wt, wt_same k (fun j hj => e j (by omega)), e k (by omega)]
theorem outsF_ix (s : Fl) {n k : Nat} (h : k < n) : ix (outsF s n) k = 3 - s.gv k := ix_mapR (fun j => 3 - s.gv j) h
section
variable {l : Lg} {p : Nat} {s : Fl}
/-- The outcomes that Shows gives: one for each open game, and the team is first by them. -/
theorem outs_first (hv : Valid l) (h : (raceR l p).Inv (sumsF l) s) (hle : ∀ u, u < (raceR l p).m → u ≠ (raceR l p).tm → s.hv u ≤ (raceR l p).rc) :
    (∀ k, k < (outsF s (opensL l.games).length).length → 1 ≤ ix (outsF s (opensL l.games).length) k ∧ ix (outsF s (opensL l.games).length) k ≤ 3) ∧ ∀ u, u < 6 → aftF l (outsF s (opensL l.games).length) u ≤ aftF l (outsF s (opensL l.games).length) p := by
  have h1 : (outsF s (opensL l.games).length).length = (opensL l.games).length := outsF_len s _
  obtain ⟨e1, e2⟩ := Rc.settled (race_ok hv p) h (race_rc hv p) hle
  refine ⟨fun k hk => ?_, fun u hu => ?_⟩
  · rw [h1] at hk
    rw [outsF_ix s hk]
    have := h.rg k hk
    omega
  · have e : ∀ v, (raceR l p).wt (gvO (outsF s (opensL l.games).length)) v (raceR l p).n = (raceR l p).wt s.gv v (raceR l p).n := fun v => wt_same _ fun j hj => by
      unfold gvO
      rw [outsF_ix s (show j < (opensL l.games).length from hj)]
      omega
    rw [aft_is hv h1 (p := p), aft_is hv h1 (p := p), e, e]
    exact e2 u hu
end
/-- Each number more than the one ahead of it. -/
def Inc (xs : List Int) : Prop := xs.Pairwise (· < ·)
theorem inc_setT (S : Nat → Bool) (T : Nat) : Inc (setT S T) := by
  unfold Inc setT
  rw [List.pairwise_map]
  exact (List.pairwise_lt_range.filter _).imp (by intro a b h; show (a : Int) < (b : Int); omega)
theorem inc_list {xs : List Int} (h : Inc xs) : sortedB xs = true ∧ noAdjB xs = true := by
  have h' := List.pairwise_iff_getElem.1 h
  constructor
  · unfold sortedB
    refine allB_true fun k hk => decide_eq_true ?_
    rw [ix_lt (by omega), ix_lt (by omega)]
    have := h' k (k + 1) (by omega) (by omega) (by omega)
    omega
  · rw [noAdjB_iff]
    intro j h1 h2
    rw [ix_lt h2, ix_lt (by omega)]
    have := h' (j - 1) j (by omega) h2 (by omega)
    omega
theorem inc_of {xs : List Int} (h1 : sortedB xs = true) (h2 : noAdjB xs = true) : Inc xs := by
  have h2 := noAdjB_iff.1 h2
  have hs : ∀ k, k + 1 < xs.length → ix xs k < ix xs (k + 1) := fun k hk => by
    have a := allB_iff.1 h1 k (by omega)
    rw [decide_eq_true_eq] at a
    have b := h2 (k + 1) (by omega) hk
    rw [show k + 1 - 1 = k by omega] at b
    omega
  have hd : ∀ d k, k + d + 1 < xs.length → ix xs k < ix xs (k + d + 1) := by
    intro d
    induction d with
    | zero => intro k hk; exact hs k hk
    | succ d ih => intro k hk; exact Int.lt_trans (ih k (by omega)) (by rw [show k + (d + 1) + 1 = (k + d + 1) + 1 by omega]; exact hs _ (by omega))
  refine List.pairwise_iff_getElem.2 fun i j hi hj hij => ?_
  have := hd (j - i - 1) i (by omega)
  rw [show i + (j - i - 1) + 1 = j by omega, ix_lt hi, ix_lt hj] at this
  exact this
theorem hasI_iff {xs : List Int} {x : Int} : hasI xs x = true ↔ x ∈ xs := by unfold hasI; rw [decide_eq_true_eq]
/-- A list of teams, each more than the one ahead of it, is a set's list. -/
theorem inc_set : ∀ (T : Nat) (xs : List Int), Inc xs → (∀ x ∈ xs, 0 ≤ x ∧ x < T) → xs = setT (fun u => hasI xs (u : Int)) T
  | 0, xs, _, h => by
    cases xs with
    | nil => rfl
    | cons x xs => have := h x (by simp); omega
  | T + 1, xs, hi, h => by
    rw [setT_succ]
    by_cases ht : (T : Int) ∈ xs
    · rw [if_pos (hasI_iff.2 ht)]
      rcases List.eq_nil_or_concat xs with rfl | ⟨ys, y, e⟩
      · simp at ht
      · rw [List.concat_eq_append] at e
        subst e
        unfold Inc at hi
        rw [List.pairwise_append] at hi
        obtain ⟨i1, i2, i3⟩ := hi
        have hy : ∀ x ∈ ys, x < y := fun x hx => i3 x hx y (by simp)
        have ey : y = (T : Int) := by
          rcases List.mem_append.1 ht with h4 | h4
          · have a := hy _ h4
            have b := (h y (by simp)).2
            omega
          · exact (List.mem_singleton.1 h4).symm
        subst ey
        have ih := inc_set T ys i1 (fun x hx => ⟨(h x (by simp [hx])).1, hy x hx⟩)
        congr 1
        have e2 : setT (fun u => hasI (ys ++ [(T : Int)]) (u : Int)) T = setT (fun u => hasI ys (u : Int)) T := by
          unfold setT
          congr 1
          refine List.filter_congr fun u hu => ?_
          have hu' := List.mem_range.1 hu
          have : ¬ (u : Int) = (T : Int) := by omega
          unfold hasI
          simp [this]
        rw [e2]
        exact ih
    · have e0 : hasI xs (T : Int) = false := Bool.eq_false_iff.2 fun e => ht (hasI_iff.1 e)
      rw [e0]
      simp only [Bool.false_eq_true, if_false, List.append_nil]
      exact inc_set T xs hi fun x hx => ⟨(h x hx).1, by
        have := (h x hx).2
        have : ¬ x = (T : Int) := fun e => ht (e ▸ hx)
        omega⟩
section
variable {l : Lg} {p : Nat}
/-- No list rules out a team that can be first. -/
theorem out_not (hv : Valid l) (hp : (p : Int) < l.teams) (hc : canB l p = true) (xs : List Int) : outB l (p : Int) xs = false := by
  have hT2 := hv.t2
  refine Bool.eq_false_iff.2 fun h => ?_
  unfold outB listB at h
  simp only [Bool.and_eq_true, Bool.not_eq_true'] at h
  obtain ⟨⟨h1, h2, h3, h4, h5⟩, h6⟩ := h
  have hr : ∀ x ∈ xs, 0 ≤ x ∧ x < (l.teams.toNat : Int) := fun x hx => by
    obtain ⟨k, hk, rfl⟩ := List.getElem_of_mem hx
    have := (inB_eq _ _ _).1 (allB_iff.1 h2 k hk)
    rw [ix_lt hk] at this
    omega
  have e := inc_set l.teams.toNat xs (inc_of h4 h5) hr
  rw [e] at h6
  have hR := of_ruled hv hp (S := fun u => hasI xs (u : Int)) (fun u hu => by have := (hr _ (hasI_iff.1 hu)).2; omega) h3 h6
  rw [can_false hR] at hc
  cases hc
/-- The reason of a team that cannot be first rules it out. -/
theorem out_reason (hv : Valid l) (hp : (p : Int) < l.teams) (hc : canB l p = false) : outB l (p : Int) (reasonL l (p : Int)) = true := by
  have hT2 := hv.t2
  have ha := asked_ok hv hp
  cases hr : reasonF l (p : Int)
  · have := (can_reason hv hp).2 hr
    rw [hc] at this
    cases this
  · next L =>
    obtain ⟨S, hL, hSu, hS⟩ := reason_set hv hp hr
    have e : reasonL l (p : Int) = L := by unfold reasonL; rw [if_pos ha, hr]; rfl
    have h6 := ruled_of hv hS
    obtain ⟨i1, i2⟩ := inc_list (inc_setT S l.teams.toNat)
    have hn : S p = false := hS.tm
    rw [e, hL]
    unfold outB listB
    rw [h6, i1, i2, decide_eq_true ha]
    have g1 : allB (setT S l.teams.toNat).length (fun k => inB (ix (setT S l.teams.toNat) k) 0 (l.teams - 1)) = true := allB_true fun k hk => by
      rw [inB_eq, ix_lt hk]
      obtain ⟨t, e1, e2, -⟩ := setT_mem.1 (List.getElem_mem hk)
      omega
    have g2 : hasI (setT S l.teams.toNat) (p : Int) = false := by
      rw [setT_has (by omega) (by omega), Int.toNat_natCast]
      exact hn
    rw [g1, g2]
    rfl
end
/-- What is told of a team. -/
structure ShF (l : Lg) (xs : List Int) (t : Nat) : Prop where
  ask : askedL l (t : Int) = 0
  yes : canB l t = true → reasonL l (t : Int) = [] ∧ reasonE l (t : Int) = 7 ∧ outB l (t : Int) xs = false
  no : canB l t = false → reasonE l (t : Int) = 0 ∧ outB l (t : Int) (reasonL l (t : Int)) = true
  len : (reasonL l (t : Int)).length ≤ 6
  first : ∀ s, (raceR l t).Inv (sumsF l) s → (∀ u, u < (raceR l t).m → u ≠ (raceR l t).tm → s.hv u ≤ (raceR l t).rc) → canB l t = true ∧ outsB l (outsF s (opensL l.games).length) = true ∧ firstB ((List.range l.teams.toNat).map (aftF l (outsF s (opensL l.games).length))) t = true
theorem shF {l : Lg} (hv : Valid l) (xs : List Int) {t : Nat} (ht : (t : Int) < l.teams) : ShF l xs t := by
  have ha := asked_ok hv ht
  have hT6 := hv.t6
  refine ⟨ha, fun hc => ?_, fun hc => ?_, ?_, fun s h1 h2 => ⟨can_true hv h1 h2, ?_, ?_⟩⟩
  · have hr := (can_reason hv ht).1 hc
    refine ⟨?_, ?_, out_not hv ht hc xs⟩
    · unfold reasonL; rw [if_pos ha, hr]; rfl
    · unfold reasonE; rw [if_pos ha, hr]; rfl
  · refine ⟨?_, out_reason hv ht hc⟩
    cases hr : reasonF l (t : Int)
    · have := (can_reason hv ht).2 hr
      rw [hc] at this
      cases this
    · unfold reasonE; rw [if_pos ha, hr]; rfl
  · cases hr : reasonF l (t : Int)
    · unfold reasonL; rw [if_pos ha, hr]; simp
    · next L =>
      obtain ⟨S, hL, -, -⟩ := reason_set hv ht hr
      have e : reasonL l (t : Int) = L := by unfold reasonL; rw [if_pos ha, hr]; rfl
      have := setT_le S l.teams.toNat
      rw [e, hL]
      omega
  · obtain ⟨o1, o2⟩ := outs_first hv h1 h2
    exact outs_ok (outsF_len s _) o1
  · obtain ⟨o1, o2⟩ := outs_first hv h1 h2
    unfold firstB
    refine allB_true fun u hu => decide_eq_true ?_
    have hu' : u < l.teams.toNat := by simpa using hu
    rw [ix_mapR _ hu', ix_mapR _ (show t < l.teams.toNat by omega)]
    exact o2 u (by omega)
end Go.Proofs.Ytjokbffdepcpkaa
