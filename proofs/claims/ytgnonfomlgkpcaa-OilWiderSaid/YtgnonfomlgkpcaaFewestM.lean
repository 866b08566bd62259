/-
  No right plan is better than the best one; oil ahead of each ball is right if any plan is: plain.
-/
import Derived.Test.YtgnonfomlgkpcaaPlA
import Derived.Test.YtgnonfomlgkpcaaTruthW
namespace Go.Proofs.Ytgnonfomlgkpcaa

def OilLe (o o' : Nat → Int) : Prop := ∀ i, o i ≤ o' i
theorem OilLe.refl (o : Nat → Int) : OilLe o o := fun _ => Int.le_refl _
theorem OilLe.trans {a b c : Nat → Int} (h : OilLe a b) (h' : OilLe b c) : OilLe a c := fun i => Int.le_trans (h i) (h' i)
theorem worn_le {ca x b o : Int} (hc : 0 ≤ ca) (hc' : ca ≤ 100) (hb : 0 ≤ b) (ho : b ≤ o) (hx : 0 ≤ x) : wornF ca x b o ≤ x := by
  have h : ca * b ≤ 100 * b := Int.mul_le_mul_of_nonneg_right hc' hb
  have h2 : 0 ≤ ca * b := Int.mul_nonneg hc hb
  simp only [wornF]
  generalize ca * b = p at *
  omega
theorem step_mono {ca lo hi lo' hi' : Int} (hc : 0 ≤ ca) (hl : lo ≤ lo') (hh : hi' ≤ hi) (xs : List Int) {o o' : Nat → Int} (h : OilLe o o') (k : Nat) : OilLe (stepW ca xs (fun _ => lo) (fun _ => hi) o k) (stepW ca xs (fun _ => lo') (fun _ => hi') o' k) := fun i => by
  simp only [stepW, upd]
  split
  · refine wornF_mono hc (h _) ?_ hh
    split
    · exact hl
    · exact Int.le_refl _
  · exact h i
theorem roll_mono {ca lo hi lo' hi' : Int} (hc : 0 ≤ ca) (hl : lo ≤ lo') (hh : hi' ≤ hi) (xs : List Int) : ∀ (ks : List Nat) {o o' : Nat → Int}, OilLe o o' → OilLe (rollW ca xs (fun _ => lo) (fun _ => hi) o ks) (rollW ca xs (fun _ => lo') (fun _ => hi') o' ks)
  | [], _, _, h => h
  | k :: ks, _, _, h => roll_mono hc hl hh xs ks (step_mono hc hl hh xs h k)
theorem step_le {ca lo hi : Int} (hc : 0 ≤ ca) (hc' : ca ≤ 100) (hl : 0 ≤ lo) (hh : lo ≤ hi) (xs : List Int) {o : Nat → Int} (h : Lvl o) (k : Nat) : OilLe (stepW ca xs (fun _ => lo) (fun _ => hi) o k) o := fun i => by
  simp only [stepW, upd]
  split
  · rename_i e
    subst e
    split
    · exact worn_le hc hc' hl hh (h _).1
    · exact worn_le hc hc' (Int.le_refl _) (by omega) (h _).1
  · exact Int.le_refl _
theorem roll_le {ca lo hi : Int} (hc : 0 ≤ ca) (hc' : ca ≤ 100) (hl : 0 ≤ lo) (hh : lo ≤ hi) (xs : List Int) : ∀ (ks : List Nat) {o : Nat → Int}, Lvl o → OilLe (rollW ca xs (fun _ => lo) (fun _ => hi) o ks) o
  | [], o, _ => OilLe.refl o
  | k :: ks, o, h => (roll_le hc hc' hl hh xs ks (h.step (fun _ => by omega) k)).trans (step_le hc hc' hl hh xs h k)
theorem run_le {ca lo hi : Int} (hc : 0 ≤ ca) (hc' : ca ≤ 100) (hl : 0 ≤ lo) (hh : lo ≤ hi) (ls : Lines) {o : Nat → Int} (h : Lvl o) : ∀ k, OilLe (runO ca lo hi ls o k) o
  | 0 => OilLe.refl o
  | k + 1 => (roll_le hc hc' hl hh _ _ (lvl_runO h (by omega) k)).trans (run_le hc hc' hl hh ls h k)
theorem run_mono {ca lo hi lo' hi' : Int} (hc : 0 ≤ ca) (hl : lo ≤ lo') (hh : hi' ≤ hi) (ls : Lines) {o o' : Nat → Int} (h : OilLe o o') : ∀ k, OilLe (runO ca lo hi ls o k) (runO ca lo' hi' ls o' k)
  | 0 => h
  | k + 1 => roll_mono hc hl hh _ _ (run_mono hc hl hh ls h k)
theorem en_mono {x nd : List Int} {o o' : Nat → Int} (h : OilLe o o') (he : enB x nd o = true) : enB x nd o' = true := by
  simp only [enB, List.all_eq_true, List.mem_range, enAt, decide_eq_true_eq] at *
  exact fun k hk => Int.le_trans (he k hk) (h _)

/-- The numbers from i on, c of them. -/
def evF : Nat → Nat → List Int
  | _, 0 => []
  | i, c + 1 => (i : Int) :: evF (i + 1) c
theorem evF_snoc : ∀ (c i : Nat), evF i (c + 1) = evF i c ++ [((i + c : Nat) : Int)]
  | 0, i => by simp [evF]
  | c + 1, i => by
    have e := evF_snoc c (i + 1)
    rw [show i + 1 + c = i + (c + 1) by omega] at e
    rw [evF, e]
    rfl
theorem evF_len : ∀ (c i : Nat), (evF i c).length = c
  | 0, _ => rfl
  | c + 1, i => by rw [evF, List.length_cons, evF_len]

theorem RP.each {n : Nat} {hold : Nat → Nat → Bool} (hm : ∀ f t i, f ≤ i → i < t → t ≤ n → hold f t = true → hold i (i + 1) = true) : ∀ {q : List Int} {fr : Nat}, RP n hold fr q → ∀ i, fr ≤ i → i < n → hold i (i + 1) = true
  | [], fr, h, i, a, b => hm fr n i a b (Nat.le_refl _) h
  | t :: q, fr, ⟨h1, h2, h3, h4⟩, i, a, b => by
    by_cases e : i < t.toNat
    · exact hm fr t.toNat i a e (by omega) h3
    · exact RP.each hm h4 i (by omega) b
theorem RP.every {n : Nat} {hold : Nat → Nat → Bool} (h : ∀ i, i < n → hold i (i + 1) = true) : ∀ (c fr : Nat), fr + 1 + c = n → RP n hold fr (evF (fr + 1) c)
  | 0, fr, e => by
    show hold fr n = true
    rw [← e]
    exact h fr (by omega)
  | c + 1, fr, e => ⟨by omega, by omega, by rw [Int.toNat_natCast]; exact h fr (by omega), by rw [Int.toNat_natCast]; exact RP.every h c (fr + 1) (by omega)⟩

section
variable {xss : List (List Int)} {lo hi ca : Int} {ls : Lines}
theorem hold_one (h : blockErr xss lo hi ca ls = 0) (f t i : Nat) (h1 : f ≤ i) (h2 : i < t) (h3 : t ≤ ls.length) (hh : holdL xss lo hi ca ls f t = true) : holdL xss lo hi ca ls i (i + 1) = true := by
  obtain ⟨hle, _, _⟩ := blockOk h
  have hv := (laneOk hle).2.2.2.2
  unfold holdL holdsB at hh ⊢
  rw [subL_len h3, allB_iff] at hh
  have a := hh (i - f) (by omega)
  dsimp only at a
  rw [lx_sub (by omega), show f + (i - f) = i by omega] at a
  rw [subL_len (by omega), allB_iff]
  intro k hk
  obtain rfl : k = 0 := by omega
  dsimp only
  rw [lx_sub (by omega), Nat.add_zero]
  exact en_mono (run_le hv.2.2.2.1 hv.2.2.2.2 hv.1 hv.2.1 _ (lvl_oilOf hle) _) a
theorem prove_RP (h : blockErr xss lo hi ca ls = 0) (plan : List Int) : provePlan xss lo hi ca ls plan = true ↔ RP ls.length (holdL xss lo hi ca ls) 0 plan := by
  unfold provePlan
  rw [decide_eq_true h, Bool.true_and, proveP_iff]
theorem fewest_none (h : blockErr xss lo hi ca ls = 0) (hp : planB xss lo hi ca ls = none) (plan : List Int) : provePlan xss lo hi ca ls plan = false := by
  cases e : provePlan xss lo hi ca ls plan with
  | false => rfl
  | true => exact absurd ((prove_RP h plan).1 e) (plan_none (hold_self h ls.length (Nat.le_refl _)) hp plan)
theorem fewest_right (h : blockErr xss lo hi ca ls = 0) {p : List Int} (hp : planB xss lo hi ca ls = some p) : provePlan xss lo hi ca ls p = true := (prove_RP h p).2 (plan_right (hold_self h ls.length (Nat.le_refl _)) hp)
theorem fewest_every (h : blockErr xss lo hi ca ls = 0) {p : List Int} (hp : planB xss lo hi ca ls = some p) : provePlan xss lo hi ca ls (evF 1 (ls.length - 1)) = true := by
  have hr := plan_right (hold_self h ls.length (Nat.le_refl _)) hp
  refine (prove_RP h _).2 ?_
  by_cases h0 : ls.length = 0
  · rw [h0]
    exact hold_self h 0 (Nat.zero_le _)
  · exact RP.every (fun i hi => hr.each (hold_one h) i (Nat.zero_le _) hi) (ls.length - 1) 0 (by omega)
theorem fewest_least (h : blockErr xss lo hi ca ls = 0) {p : List Int} (hp : planB xss lo hi ca ls = some p) {plan : List Int} (hq : provePlan xss lo hi ca ls plan = true) : lessI plan p = false := by
  have hr := (prove_RP h plan).1 hq
  obtain ⟨p2, e1, _, e3⟩ := plan_is (hold_self h ls.length (Nat.le_refl _)) hr
  have : p2 = p := Option.some.inj (e1.symm.trans hp)
  rw [← this]
  exact e3 plan hr
end
end Go.Proofs.Ytgnonfomlgkpcaa
