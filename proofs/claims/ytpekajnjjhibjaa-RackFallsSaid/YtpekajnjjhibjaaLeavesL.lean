/-
  All truths of a ball, one behind the other, as the reference lists them; what is left in each: plain facts; no program.
-/
import Derived.Test.YtpekajnjjhibjaaLawsM
import Derived.Test.YtpekajnjjhibjaaComp
namespace Go.Proofs.Ytpekajnjjhibjaa
open Go.RowKit
set_option linter.unusedVariables false
set_option linter.unusedSimpArgs false

/-- All boards that begin so, m rows more. -/
def bL (ball : List Rg) : Nat → List Int → List (List Int)
  | 0, bg => [bg]
  | m + 1, bg => (boardsC (gx ball bg.length)).flatMap fun n => bL ball m (bg ++ [n])
/-- All that links can do, that begins so, m links more. -/
def cL (ls : List Lk) : Nat → List Bool → List (List Bool)
  | 0, bg => [bg]
  | m + 1, bg => cL ls m (bg ++ [true]) ++ (if (lx ls bg.length).s then [] else cL ls m (bg ++ [false]))
theorem ix_app_lt {bg : List Int} {n : Int} {k : Nat} (h : k < bg.length) : ix (bg ++ [n]) k = ix bg k := by
  rw [ix_lt (by simp; omega), ix_lt h, List.getElem_append_left h]
theorem ix_app_eq {bg : List Int} {n : Int} : ix (bg ++ [n]) bg.length = n := by
  rw [ix_lt (by simp)]
  simp
theorem bx_app_lt {bg : List Bool} {n : Bool} {k : Nat} (h : k < bg.length) : bx (bg ++ [n]) k = bx bg k := by
  rw [bx_lt (by simp; omega), bx_lt h, List.getElem_append_left h]
theorem bx_app_eq {bg : List Bool} {n : Bool} : bx (bg ++ [n]) bg.length = n := by
  rw [bx_lt (by simp)]
  simp
theorem mem_bL {ball : List Rg} {ys : List Int} : ∀ m bg, bg.length + m = ball.length → (ys ∈ bL ball m bg ↔ ys.length = ball.length ∧ (∀ k, k < bg.length → ix ys k = ix bg k) ∧ ∀ k, bg.length ≤ k → k < ball.length → (gx ball k).lo ≤ ix ys k ∧ ix ys k ≤ (gx ball k).hi)
  | 0, bg, h => by
    rw [bL, List.mem_singleton]
    constructor
    · rintro rfl
      exact ⟨by omega, fun k _ => rfl, fun k h1 h2 => by omega⟩
    · rintro ⟨h1, h2, -⟩
      refine List.ext_getElem (by omega) fun i h3 h4 => ?_
      have := h2 i h4
      rwa [ix_lt h3, ix_lt h4] at this
  | m + 1, bg, h => by
    rw [bL, List.mem_flatMap]
    constructor
    · rintro ⟨n, hn, hy⟩
      rw [mem_boardsC] at hn
      obtain ⟨h1, h2, h3⟩ := (mem_bL m (bg ++ [n]) (by simp; omega)).1 hy
      rw [List.length_append, List.length_singleton] at h2 h3
      refine ⟨h1, fun k hk => ?_, fun k hk hk2 => ?_⟩
      · rw [h2 k (by omega), ix_app_lt hk]
      · by_cases e : k = bg.length
        · subst e
          rw [h2 _ (by omega), ix_app_eq]
          exact hn
        · exact h3 k (by omega) hk2
    · rintro ⟨h1, h2, h3⟩
      refine ⟨ix ys bg.length, mem_boardsC.2 (h3 _ (Nat.le_refl _) (by omega)), (mem_bL m _ (by simp; omega)).2 ⟨h1, fun k hk => ?_, fun k hk hk2 => ?_⟩⟩
      · rw [List.length_append, List.length_singleton] at hk
        by_cases e : k = bg.length
        · subst e; rw [ix_app_eq]
        · rw [ix_app_lt (by omega)]; exact h2 k (by omega)
      · rw [List.length_append, List.length_singleton] at hk
        exact h3 k (by omega) hk2
theorem mem_cL {ls : List Lk} {cs : List Bool} : ∀ m bg, bg.length + m = ls.length → (cs ∈ cL ls m bg ↔ cs.length = ls.length ∧ (∀ k, k < bg.length → bx cs k = bx bg k) ∧ ∀ k, bg.length ≤ k → k < ls.length → (lx ls k).s = true → bx cs k = true)
  | 0, bg, h => by
    rw [cL, List.mem_singleton]
    constructor
    · rintro rfl
      exact ⟨by omega, fun k _ => rfl, fun k h1 h2 => by omega⟩
    · rintro ⟨h1, h2, -⟩
      refine List.ext_getElem (by omega) fun i h3 h4 => ?_
      have := h2 i h4
      rwa [bx_lt h3, bx_lt h4] at this
  | m + 1, bg, h => by
    have ih : ∀ v, (cs ∈ cL ls m (bg ++ [v]) ↔ _) := fun v => mem_cL m (bg ++ [v]) (by simp; omega)
    have key : ∀ v, (cs ∈ cL ls m (bg ++ [v]) ↔ bx cs bg.length = v ∧ cs.length = ls.length ∧ (∀ k, k < bg.length → bx cs k = bx bg k) ∧ ∀ k, bg.length + 1 ≤ k → k < ls.length → (lx ls k).s = true → bx cs k = true) := fun v => by
      rw [ih, List.length_append, List.length_singleton]
      constructor
      · rintro ⟨h1, h2, h3⟩
        refine ⟨by rw [h2 _ (by omega), bx_app_eq], h1, fun k hk => by rw [h2 k (by omega), bx_app_lt hk], h3⟩
      · rintro ⟨h0, h1, h2, h3⟩
        refine ⟨h1, fun k hk => ?_, h3⟩
        by_cases e : k = bg.length
        · subst e; rw [bx_app_eq]; exact h0
        · rw [bx_app_lt (by omega)]; exact h2 k (by omega)
    rw [cL, List.mem_append, key true]
    cases es : (lx ls bg.length).s
    · rw [if_neg (by simp), key false]
      constructor
      · rintro (⟨h0, h1, h2, h3⟩ | ⟨h0, h1, h2, h3⟩)
        all_goals refine ⟨h1, h2, fun k hk hk2 hs => ?_⟩
        all_goals by_cases e : k = bg.length
        all_goals first | (subst e; rw [es] at hs; cases hs) | exact h3 k (by omega) hk2 hs
      · rintro ⟨h1, h2, h3⟩
        cases e : bx cs bg.length
        · exact .inr ⟨rfl, h1, h2, fun k hk => h3 k (by omega)⟩
        · exact .inl ⟨rfl, h1, h2, fun k hk => h3 k (by omega)⟩
    · rw [if_pos rfl]
      constructor
      · rintro (⟨h0, h1, h2, h3⟩ | hf)
        · refine ⟨h1, h2, fun k hk hk2 hs => ?_⟩
          by_cases e : k = bg.length
          · subst e; exact h0
          · exact h3 k (by omega) hk2 hs
        · cases hf
      · rintro ⟨h1, h2, h3⟩
        exact .inl ⟨h3 _ (Nat.le_refl _) (by omega) es, h1, h2, fun k hk => h3 k (by omega)⟩
/-- What is left in all truths, one behind the other. -/
noncomputable def leavesL (r : Rk) (s : Nat) (ball : List Rg) : List (List Int) := (bL ball ball.length []).flatMap fun ys => (cL r.links r.links.length []).map fun cs => natsI (listS (leftS r s (ix ys) (bx cs)))
theorem mem_leavesL {r : Rk} {s : Nat} {ball : List Rg} (hs : s < 2 ^ 10) (hl : ball.length = r.rows.toNat) {l : List Int} : l ∈ leavesL r s ball ↔ ∃ u, LeaveP r s ball u ∧ l = natsI (listS u) := by
  unfold leavesL
  rw [List.mem_flatMap]
  constructor
  · rintro ⟨ys, hy, hm⟩
    rw [List.mem_map] at hm
    obtain ⟨cs, hc, rfl⟩ := hm
    obtain ⟨h1, -, h2⟩ := (mem_bL ball.length [] (by simp)).1 hy
    obtain ⟨h3, -, h4⟩ := (mem_cL r.links.length [] (by simp)).1 hc
    exact ⟨_, ⟨ix ys, bx cs, fun k hk => h2 k (by simp) hk, fun i hi hsr => h4 i (by simp) hi hsr, rfl⟩, rfl⟩
  · rintro ⟨u, ⟨b, c, hb, hc, rfl⟩, rfl⟩
    refine ⟨(List.range ball.length).map b, (mem_bL ball.length [] (by simp)).2 ⟨by simp, fun k hk => by simp at hk, fun k _ hk => by rw [ix_map_range hk]; exact hb k hk⟩, List.mem_map.2 ⟨(List.range r.links.length).map c, (mem_cL r.links.length [] (by simp)).2 ⟨by simp, fun k hk => by simp at hk, fun k _ hk hsr => by rw [bx_map_range hk]; exact hc k hk hsr⟩, ?_⟩⟩
    congr 2
    refine set_ext (n := 10) leftS_lt leftS_lt fun p _ => ?_
    rw [mem_leftS hs, mem_leftS hs, mem_felledS hs, mem_felledS hs]
    have e : (∃ row, row < r.rows.toNat ∧ Fall r.links (bx ((List.range r.links.length).map c)) s (touchS r s row (ix ((List.range ball.length).map b) row)) p) ↔ ∃ row, row < r.rows.toNat ∧ Fall r.links c s (touchS r s row (b row)) p := by
      refine exists_congr fun row => and_congr_right fun hrow => ?_
      rw [ix_map_range (by omega)]
      exact ⟨fun h => h.mono (fun i hi hx => by rw [bx_map_range hi] at hx; exact hx) Sub.rfl Sub.rfl, fun h => h.mono (fun i hi hx => by rw [bx_map_range hi]; exact hx) Sub.rfl Sub.rfl⟩
    rw [e]
end Go.Proofs.Ytpekajnjjhibjaa
