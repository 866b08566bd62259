/-
  More words: fewer games, narrower ranges, more places that are sure. Plain facts.
-/
import Derived.Test.YtadjkinpimmhkaaMono
import Derived.Test.YtadjkinpimmhkaaSure
namespace Go.Proofs.Ytadjkinpimmhkaa
open Go.RowKit
set_option linter.unusedSimpArgs false
set_option linter.unusedVariables false

theorem wx_mem {ws : List Wd} {k : Nat} (h : k < ws.length) : wx ws k ∈ ws := by rw [wx_lt h]; exact List.getElem_mem h
theorem mem_wx {ws : List Wd} {x : Wd} (h : x ∈ ws) : ∃ k, k < ws.length ∧ wx ws k = x := by
  obtain ⟨k, hk, e⟩ := List.getElem_of_mem h
  exact ⟨k, hk, by rw [wx_lt hk, e]⟩
theorem okB_mem {ws : List Wd} {f : Int} {o : Nat → Bool} {p : Nat × Nat} : okB ws f o p = true ↔ ∀ x ∈ ws, okW f o x p.1 p.2 = true := by
  unfold okB
  rw [allB_iff]
  constructor
  · intro h x hx
    obtain ⟨k, hk, rfl⟩ := mem_wx hx
    exact h k hk
  · intro h k hk
    exact h _ (wx_mem hk)
theorem games_iff {ws : List Wd} {f : Int} {o : Nat → Bool} {p : Nat × Nat} : p ∈ gamesL ws f o ↔ p ∈ upTo 11 0 ∧ okB ws f o p = true := by
  unfold gamesL gamesTo
  rw [List.mem_filter]
theorem upTo_iff {p : Nat × Nat} : p ∈ upTo 11 0 ↔ p.1 ≤ 10 ∧ p.2 ≤ p.1 := ⟨upTo_bds, fun h => upTo_mem h.1 h.2⟩
theorem okW_iff {f : Int} {o : Nat → Bool} {x : Wd} {a b : Nat} : okW f o x a b = true ↔ (x.fr = f → o x.te.toNat = false → x.lo ≤ standB x a b ∧ standB x a b ≤ x.hi) := by
  unfold okW fitsB
  by_cases h : x.fr = f
  · cases ho : o x.te.toNat <;> simp [h, ho]
  · simp [h]
/-- Each game of the first words is one of the second ones. -/
def Nar (m : Nat) (ws vs : List Wd) (o : Nat → Bool) : Prop := ∀ f : Nat, f < m → ∀ p, p ∈ gamesL ws (f : Int) o → p ∈ gamesL vs (f : Int) o
theorem nar_refl (m : Nat) (ws : List Wd) (o : Nat → Bool) : Nar m ws ws o := fun _ _ _ h => h
theorem nar_sub {m : Nat} {ws vs : List Wd} (h : ∀ x ∈ vs, x ∈ ws) (o : Nat → Bool) : Nar m ws vs o := fun f _ p hp => by
  rw [games_iff] at *
  exact ⟨hp.1, okB_mem.2 fun x hx => okB_mem.1 hp.2 x (h x hx)⟩
theorem filter_le {α : Type} {p q : α → Bool} : ∀ (l : List α), (∀ x ∈ l, p x = true → q x = true) → (l.filter p).length ≤ (l.filter q).length
  | [], _ => Nat.le_refl _
  | x :: xs, h => by
    have ih := filter_le xs fun y hy => h y (List.mem_cons_of_mem _ hy)
    have hx := h x (List.mem_cons_self ..)
    rw [List.filter_cons, List.filter_cons]
    cases hp : p x
    · cases hq : q x <;> simp <;> omega
    · simp [hx hp]; omega
section
variable {m : Nat} {ws vs : List Wd} {o : Nat → Bool} (h : Nar m ws vs o)
include h
theorem nar_len {f : Nat} (hf : f < m) : (gamesL ws (f : Int) o).length ≤ (gamesL vs (f : Int) o).length := by
  unfold gamesL gamesTo
  refine filter_le _ fun p hp hq => ?_
  exact (games_iff.1 (h f hf p (games_iff.2 ⟨hp, hq⟩))).2
theorem nar_many : ∀ k, k ≤ m → manyP ws o k ≤ manyP vs o k
  | 0, _ => Nat.le_refl _
  | k + 1, hk => Nat.mul_le_mul (nar_many k (by omega)) (nar_len h (by omega))
theorem nar_expl (hx : explB (m : Int) ws o = true) : explB (m : Int) vs o = true := by
  unfold explB at *
  rw [allB_iff] at *
  intro f hf
  have h1 : decide (0 < (gamesL ws (f : Int) o).length) = true := hx f hf
  have h2 := nar_len h (f := f) (by simpa using hf)
  simp only [decide_eq_true_eq] at *
  omega
theorem nar_frame {f : Nat} (hf : f < m) (h0 : 0 < (gamesL ws (f : Int) o).length) : loS (fsts (gamesL vs (f : Int) o)) ≤ loS (fsts (gamesL ws (f : Int) o)) ∧ hiS (fsts (gamesL ws (f : Int) o)) ≤ hiS (fsts (gamesL vs (f : Int) o)) ∧ loS (snds (gamesL vs (f : Int) o)) ≤ loS (snds (gamesL ws (f : Int) o)) ∧ hiS (snds (gamesL ws (f : Int) o)) ≤ hiS (snds (gamesL vs (f : Int) o)) := by
  have s1 : ∀ x ∈ fsts (gamesL ws (f : Int) o), x ∈ fsts (gamesL vs (f : Int) o) := fun x hx => by
    simp only [fsts, List.mem_map] at *
    obtain ⟨p, hp, e⟩ := hx
    exact ⟨p, h f hf p hp, e⟩
  have s2 : ∀ x ∈ snds (gamesL ws (f : Int) o), x ∈ snds (gamesL vs (f : Int) o) := fun x hx => by
    simp only [snds, List.mem_map] at *
    obtain ⟨p, hp, e⟩ := hx
    exact ⟨p, h f hf p hp, e⟩
  have l1 : 0 < (fsts (gamesL ws (f : Int) o)).length := by simpa [fsts] using h0
  have l2 : 0 < (snds (gamesL ws (f : Int) o)).length := by simpa [snds] using h0
  exact ⟨loS_le (s1 _ (loS_mem l1)), hiS_le (s1 _ (hiS_mem l1)), loS_le (s2 _ (loS_mem l2)), hiS_le (s2 _ (hiS_mem l2))⟩
theorem nar_ranges (hx : explB (m : Int) ws o = true) {i : Nat} (hi : i < 2 * m) : (px (rangesL vs o m) i).1 ≤ (px (rangesL ws o m) i).1 ∧ (px (rangesL ws o m) i).2 ≤ (px (rangesL vs o m) i).2 := by
  obtain ⟨h1, h2, h3, h4⟩ := nar_frame h (f := i / 2) (by omega) (expl_games hx (f := i / 2) (by omega))
  obtain ⟨a1, a2⟩ := rangesL_at ws o m (i / 2) (by omega)
  obtain ⟨b1, b2⟩ := rangesL_at vs o m (i / 2) (by omega)
  rcases (by omega : i = 2 * (i / 2) ∨ i = 2 * (i / 2) + 1) with e | e
  · rw [e, a1, b1]; exact ⟨h1, h2⟩
  · rw [e, a2, b2]; exact ⟨h3, h4⟩
theorem nar_cnt (hx : explB (m : Int) ws o = true) : ∀ k, k ≤ m → cntLo vs o k ≤ cntLo ws o k ∧ cntHi ws o k ≤ cntHi vs o k
  | 0, _ => ⟨Int.le_refl _, Int.le_refl _⟩
  | k + 1, hk => by
    obtain ⟨c1, c2⟩ := nar_cnt hx k (by omega)
    obtain ⟨h1, h2, h3, h4⟩ := nar_frame h (f := k) (by omega) (expl_games hx (by omega))
    simp only [cntLo, cntHi]
    omega
end
theorem lo_hi {xs : List Int} (h : 0 < xs.length) : loS xs ≤ hiS xs := hiS_le (loS_mem h)
theorem oneS_le {f i a b c d : Int} (h1 : c ≤ a) (h2 : b ≤ d) (h3 : a ≤ b) : (oneS f i c d).length ≤ (oneS f i a b).length := by
  unfold oneS
  by_cases e : c = d
  · rw [if_pos e, if_pos (by omega)]; simp
  · rw [if_neg e]; simp
theorem nar_sure {m : Nat} {ws vs : List Wd} {o : Nat → Bool} (h : Nar m ws vs o) (hx : explB (m : Int) ws o = true) : ∀ k, k ≤ m → (sureL vs o k).length ≤ (sureL ws o k).length
  | 0, _ => Nat.le_refl _
  | k + 1, hk => by
    have c := nar_sure h hx k (by omega)
    have h0 := expl_games hx (f := k) (by omega)
    obtain ⟨h1, h2, h3, h4⟩ := nar_frame h (f := k) (by omega) h0
    have l1 : 0 < (fsts (gamesL ws (k : Int) o)).length := by simpa [fsts] using h0
    have l2 : 0 < (snds (gamesL ws (k : Int) o)).length := by simpa [snds] using h0
    have a := oneS_le (f := (k : Int)) (i := 0) h1 h2 (lo_hi l1)
    have b := oneS_le (f := (k : Int)) (i := 1) h3 h4 (lo_hi l2)
    simp only [sureL, List.length_append]
    omega
/-- The range of place k. -/
noncomputable def rgAt (ws : List Wd) (o : Nat → Bool) (m k : Nat) : Int × Int := px (rangesL ws o m) k
theorem stand_at {ws : List Wd} {o : Nat → Bool} {m k : Nat} (hk : k < 2 * m) {x : Wd} (hb : x.ba = ((k % 2 : Nat) : Int)) {p : Nat × Nat} (hp : p ∈ gamesL ws ((k / 2 : Nat) : Int) o) : (rgAt ws o m k).1 ≤ standB x p.1 p.2 ∧ standB x p.1 p.2 ≤ (rgAt ws o m k).2 := by
  obtain ⟨a1, a2⟩ := rangesL_at ws o m (k / 2) (by omega)
  unfold rgAt standB
  rcases (by omega : k = 2 * (k / 2) ∨ k = 2 * (k / 2) + 1) with e | e
  · have e2 : k % 2 = 0 := by omega
    rw [e2] at hb
    have hb0 : x.ba = 0 := by omega
    rw [if_pos hb0, e, a1]
    have hm : (p.1 : Int) ∈ fsts (gamesL ws ((k / 2 : Nat) : Int) o) := List.mem_map.2 ⟨p, hp, rfl⟩
    exact ⟨loS_le hm, hiS_le hm⟩
  · have e2 : k % 2 = 1 := by omega
    rw [e2] at hb
    rw [if_neg (by omega), e, a2]
    have hm : (p.2 : Int) ∈ snds (gamesL ws ((k / 2 : Nat) : Int) o) := List.mem_map.2 ⟨p, hp, rfl⟩
    exact ⟨loS_le hm, hiS_le hm⟩
theorem rg_bd {ws : List Wd} {o : Nat → Bool} {m k : Nat} (hk : k < 2 * m) (hx : explB (m : Int) ws o = true) : 0 ≤ (rgAt ws o m k).1 ∧ (rgAt ws o m k).1 ≤ (rgAt ws o m k).2 ∧ (rgAt ws o m k).2 ≤ 10 := by
  have h0 := expl_games hx (f := k / 2) (by omega)
  obtain ⟨a1, a2⟩ := rangesL_at ws o m (k / 2) (by omega)
  have l1 : 0 < (fsts (gamesL ws ((k / 2 : Nat) : Int) o)).length := by simpa [fsts] using h0
  have l2 : 0 < (snds (gamesL ws ((k / 2 : Nat) : Int) o)).length := by simpa [snds] using h0
  have b1 : ∀ x ∈ fsts (gamesL ws ((k / 2 : Nat) : Int) o), 0 ≤ x ∧ x ≤ 10 := fun x hx => by
    obtain ⟨p, hp, rfl⟩ := List.mem_map.1 hx
    have := upTo_bds (games_iff.1 hp).1
    omega
  have b2 : ∀ x ∈ snds (gamesL ws ((k / 2 : Nat) : Int) o), 0 ≤ x ∧ x ≤ 10 := fun x hx => by
    obtain ⟨p, hp, rfl⟩ := List.mem_map.1 hx
    have := upTo_bds (games_iff.1 hp).1
    omega
  unfold rgAt
  rcases (by omega : k = 2 * (k / 2) ∨ k = 2 * (k / 2) + 1) with e | e
  · rw [e, a1]; exact ⟨(b1 _ (loS_mem l1)).1, lo_hi l1, (b1 _ (hiS_mem l1)).2⟩
  · rw [e, a2]; exact ⟨(b2 _ (loS_mem l2)).1, lo_hi l2, (b2 _ (hiS_mem l2)).2⟩
/-- A word that says the range of a place changes nothing. -/
theorem nar_range {ws : List Wd} {o : Nat → Bool} {m k : Nat} (hk : k < 2 * m) (te : Int) : Nar m ws (ws ++ [⟨((k / 2 : Nat) : Int), ((k % 2 : Nat) : Int), te, (rgAt ws o m k).1, (rgAt ws o m k).2⟩]) o := fun f hf p hp => by
  have hg := games_iff.1 hp
  refine games_iff.2 ⟨hg.1, okB_mem.2 fun x hx => ?_⟩
  rcases List.mem_append.1 hx with hx | hx
  · exact okB_mem.1 hg.2 x hx
  · simp only [List.mem_singleton] at hx
    subst hx
    refine okW_iff.2 fun e _ => ?_
    dsimp only at e
    rw [← e] at hp
    exact stand_at hk rfl hp
/-- Where one more number of a place can stand. -/
theorem one_more {ws : List Wd} {o : Nat → Bool} {m k : Nat} (hk : k < 2 * m) (hx : explB (m : Int) ws o = true) {te : Nat} (ho : o te = false) (n : Nat) :
    explB (m : Int) (ws ++ [⟨((k / 2 : Nat) : Int), ((k % 2 : Nat) : Int), (te : Int), (n : Int), (n : Int)⟩]) o = (decide ((rgAt ws o m k).1 ≤ (n : Int)) && decide ((n : Int) ≤ (rgAt ws o m k).2)) := by
  have h0 := expl_games hx (f := k / 2) (by omega)
  have hw : ∀ f : Nat, ∀ p, p ∈ gamesL (ws ++ [⟨((k / 2 : Nat) : Int), ((k % 2 : Nat) : Int), (te : Int), (n : Int), (n : Int)⟩]) (f : Int) o ↔ p ∈ gamesL ws (f : Int) o ∧ (f = k / 2 → standB ⟨((k / 2 : Nat) : Int), ((k % 2 : Nat) : Int), (te : Int), (n : Int), (n : Int)⟩ p.1 p.2 = (n : Int)) := fun f p => by
    rw [games_iff, games_iff, okB_mem, okB_mem]
    constructor
    · rintro ⟨a, b⟩
      refine ⟨⟨a, fun x hx => b x (List.mem_append_left _ hx)⟩, fun e => ?_⟩
      have h1 := okW_iff.1 (b _ (List.mem_append_right _ (List.mem_singleton.2 rfl))) (by dsimp only; omega) (by simpa using ho)
      dsimp only at h1
      omega
    · rintro ⟨⟨a, b⟩, c⟩
      refine ⟨a, fun x hx => ?_⟩
      rcases List.mem_append.1 hx with hx | hx
      · exact b x hx
      · simp only [List.mem_singleton] at hx
        subst hx
        refine okW_iff.2 fun e _ => ?_
        have := c (by dsimp only at e; omega)
        dsimp only
        omega
  have hin : ∀ {p : Nat × Nat} {x : Wd}, p ∈ gamesL ws ((k / 2 : Nat) : Int) o → x ∈ ws → x.fr = ((k / 2 : Nat) : Int) → o x.te.toNat = false → x.lo ≤ standB x p.1 p.2 ∧ standB x p.1 p.2 ≤ x.hi := fun hp hx => okW_iff.1 (okB_mem.1 (games_iff.1 hp).2 _ hx)
  by_cases hr : (rgAt ws o m k).1 ≤ (n : Int) ∧ (n : Int) ≤ (rgAt ws o m k).2
  · rw [decide_eq_true hr.1, decide_eq_true hr.2]
    unfold explB
    rw [Bool.and_self, allB_iff]
    intro f hf
    have hfm : f < m := by simpa using hf
    refine decide_eq_true ?_
    by_cases e : f = k / 2
    · subst e
      obtain ⟨a1, a2⟩ := rangesL_at ws o m (k / 2) hfm
      have l1 : 0 < (fsts (gamesL ws ((k / 2 : Nat) : Int) o)).length := by simpa [fsts] using h0
      have l2 : 0 < (snds (gamesL ws ((k / 2 : Nat) : Int) o)).length := by simpa [snds] using h0
      unfold rgAt at hr
      rcases (by omega : k % 2 = 0 ∨ k % 2 = 1) with e2 | e2
      · rw [show k = 2 * (k / 2) by omega] at hr
        rw [a1] at hr
        obtain ⟨p1, hp1, e3⟩ := List.mem_map.1 (loS_mem l1)
        obtain ⟨p2, hp2, e4⟩ := List.mem_map.1 (hiS_mem l1)
        have q3 : loS (fsts (gamesL ws ((k / 2 : Nat) : Int) o)) = _ := e3.symm
        have q4 : hiS (fsts (gamesL ws ((k / 2 : Nat) : Int) o)) = _ := e4.symm
        dsimp only at hr q3 q4
        rw [q3, q4] at hr
        have b1 := upTo_bds (games_iff.1 hp1).1
        have b2 := upTo_bds (games_iff.1 hp2).1
        refine List.length_pos_of_mem (a := (n, p1.2)) ((hw _ _).2 ⟨games_iff.2 ⟨upTo_iff.2 ⟨by dsimp only; omega, by dsimp only; omega⟩, okB_mem.2 fun x hx => okW_iff.2 fun h1 h2 => ?_⟩, fun _ => ?_⟩)
        · have c1 := hin hp1 hx h1 h2
          have c2 := hin hp2 hx h1 h2
          unfold standB at *
          by_cases hb : x.ba = 0
          · rw [if_pos hb] at *; dsimp only; omega
          · rw [if_neg hb] at *; dsimp only; omega
        · unfold standB
          rw [e2]
          rfl
      · rw [show k = 2 * (k / 2) + 1 by omega] at hr
        rw [a2] at hr
        obtain ⟨p1, hp1, e3⟩ := List.mem_map.1 (loS_mem l2)
        obtain ⟨p2, hp2, e4⟩ := List.mem_map.1 (hiS_mem l2)
        have q3 : loS (snds (gamesL ws ((k / 2 : Nat) : Int) o)) = _ := e3.symm
        have q4 : hiS (snds (gamesL ws ((k / 2 : Nat) : Int) o)) = _ := e4.symm
        dsimp only at hr q3 q4
        rw [q3, q4] at hr
        have b1 := upTo_bds (games_iff.1 hp1).1
        have b2 := upTo_bds (games_iff.1 hp2).1
        refine List.length_pos_of_mem (a := (p2.1, n)) ((hw _ _).2 ⟨games_iff.2 ⟨upTo_iff.2 ⟨by dsimp only; omega, by dsimp only; omega⟩, okB_mem.2 fun x hx => okW_iff.2 fun h1 h2 => ?_⟩, fun _ => ?_⟩)
        · have c1 := hin hp1 hx h1 h2
          have c2 := hin hp2 hx h1 h2
          unfold standB at *
          by_cases hb : x.ba = 0
          · rw [if_pos hb] at *; dsimp only; omega
          · rw [if_neg hb] at *; dsimp only; omega
        · unfold standB
          rw [e2]
          rfl
    · have h5 := expl_games hx hfm
      obtain ⟨p, hp⟩ := List.exists_mem_of_length_pos h5
      exact List.length_pos_of_mem ((hw f p).2 ⟨hp, fun e' => absurd e' e⟩)
  · have e : (decide ((rgAt ws o m k).1 ≤ (n : Int)) && decide ((n : Int) ≤ (rgAt ws o m k).2)) = false := by
      simpa using hr
    rw [e]
    unfold explB
    refine allB_false (k := k / 2) (by simp; omega) (decide_eq_false fun h5 => ?_)
    obtain ⟨p, hp⟩ := List.exists_mem_of_length_pos h5
    obtain ⟨c1, c2⟩ := (hw _ _).1 hp
    have c3 := stand_at (x := ⟨((k / 2 : Nat) : Int), ((k % 2 : Nat) : Int), (te : Int), (n : Int), (n : Int)⟩) hk rfl c1
    rw [c2 rfl] at c3
    exact hr c3
theorem wordB_mk {m : Nat} {f b t : Nat} {lo hi : Int} (hf : f < m) (hb : b ≤ 1) (ht : t ≤ 3) (h0 : 0 ≤ lo) (h1 : lo ≤ hi) (h2 : hi ≤ 10) : wordB (m : Int) ⟨(f : Int), (b : Int), (t : Int), lo, hi⟩ = true := by
  simp only [wordB, Bool.and_eq_true, inB_eq, decide_eq_true_eq]
  omega
theorem lane_mk {m : Nat} {ws : List Wd} (h1 : 1 ≤ m) (h5 : m ≤ 5) (hl : ws.length ≤ 30) (h : ∀ x ∈ ws, wordB (m : Int) x = true) : laneErr (m : Int) ws = 0 := by
  unfold laneErr
  rw [if_pos hl, if_pos]
  rw [Bool.and_eq_true, inB_eq, allB_iff]
  exact ⟨⟨by omega, by omega⟩, fun k hk => h _ (wx_mem hk)⟩
theorem lane_word {m : Nat} {ws : List Wd} (h : laneErr (m : Int) ws = 0) : ∀ x ∈ ws, wordB (m : Int) x = true := fun x hx => by
  obtain ⟨k, hk, rfl⟩ := mem_wx hx
  exact (laneOk h).2.2.2 k hk
theorem expl_eq {m : Nat} {ws vs : List Wd} (h : ∀ x, x ∈ ws ↔ x ∈ vs) : explB (m : Int) ws = explB (m : Int) vs := by
  funext o
  have a := nar_expl (m := m) (nar_sub (fun x hx => (h x).2 hx) o)
  have b := nar_expl (m := m) (nar_sub (fun x hx => (h x).1 hx) o)
  cases e1 : explB (m : Int) ws o <;> cases e2 : explB (m : Int) vs o <;> simp_all
end Go.Proofs.Ytadjkinpimmhkaa
