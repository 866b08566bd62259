/-
  What Falls works out, row by row, is what surely falls, and what may: plain facts; no program.
-/
import Derived.Test.YtpekajnjjhibjaaC2
namespace Go.Proofs.Ytpekajnjjhibjaa

noncomputable def byT (r : Rk) (pins : Nat) (l : List Nat) : Nat := l.foldl (fun a x => a &&& fallS r.links (surely r.links) pins x) pins
noncomputable def evT (r : Rk) (pins e : Nat) (l : List Nat) : Nat := l.foldl (fun a x => a ||| fallS r.links (fun _ => true) pins x) e
theorem byT_snoc (r : Rk) (pins x : Nat) (l : List Nat) : byT r pins (l ++ [x]) = byT r pins l &&& fallS r.links (surely r.links) pins x := by simp [byT]
theorem evT_snoc (r : Rk) (pins e x : Nat) (l : List Nat) : evT r pins e (l ++ [x]) = evT r pins e l ||| fallS r.links (fun _ => true) pins x := by simp [evT]
theorem byT_lt {r : Rk} {pins : Nat} (hp : pins < 2 ^ 10) (l : List Nat) : byT r pins l < 2 ^ 10 := by
  have : ∀ (l : List Nat) a, a < 2 ^ 10 → l.foldl (fun a x => a &&& fallS r.links (surely r.links) pins x) a < 2 ^ 10 := by
    intro l
    induction l with
    | nil => intro a h; exact h
    | cons x l ih => intro a h; exact ih _ (Nat.lt_of_le_of_lt Nat.and_le_left h)
  exact this l pins hp
theorem evT_lt {r : Rk} {pins e : Nat} (hp : pins < 2 ^ 10) (he : e < 2 ^ 10) {l : List Nat} (hl : ∀ x ∈ l, x < 2 ^ 10) : evT r pins e l < 2 ^ 10 := by
  have : ∀ (l : List Nat), (∀ x ∈ l, x < 2 ^ 10) → ∀ a, a < 2 ^ 10 → l.foldl (fun a x => a ||| fallS r.links (fun _ => true) pins x) a < 2 ^ 10 := by
    intro l
    induction l with
    | nil => intro _ a h; exact h
    | cons x l ih => intro hl a h; exact ih (fun y hy => hl y (List.mem_cons_of_mem _ hy)) _ (Nat.or_lt_two_pow h (fallS_lt (hl x (List.mem_cons_self ..)) hp))
  exact this l hl e he
theorem mem_byT {r : Rk} {pins p : Nat} (hp : pins < 2 ^ 10) {l : List Nat} (hl : ∀ x ∈ l, x < 2 ^ 10) : (byT r pins l).testBit p = true ↔ pins.testBit p = true ∧ ∀ x ∈ l, Fall r.links (surely r.links) pins x p := by
  have : ∀ (l : List Nat), (∀ x ∈ l, x < 2 ^ 10) → ∀ a, (l.foldl (fun a x => a &&& fallS r.links (surely r.links) pins x) a).testBit p = true ↔ a.testBit p = true ∧ ∀ x ∈ l, Fall r.links (surely r.links) pins x p := by
    intro l
    induction l with
    | nil => intro _ a; simp
    | cons x l ih =>
      intro hl a
      rw [List.foldl_cons, ih (fun y hy => hl y (List.mem_cons_of_mem _ hy)), Nat.testBit_and, Bool.and_eq_true, mem_fallS (lt16 (hl x (List.mem_cons_self ..))) (lt16 hp)]
      simp only [List.mem_cons, forall_eq_or_imp, and_assoc]
  exact this l hl pins
theorem mem_evT {r : Rk} {pins e p : Nat} (hp : pins < 2 ^ 10) {l : List Nat} (hl : ∀ x ∈ l, x < 2 ^ 10) : (evT r pins e l).testBit p = true ↔ e.testBit p = true ∨ ∃ x ∈ l, Fall r.links (fun _ => true) pins x p := by
  have : ∀ (l : List Nat), (∀ x ∈ l, x < 2 ^ 10) → ∀ a, (l.foldl (fun a x => a ||| fallS r.links (fun _ => true) pins x) a).testBit p = true ↔ a.testBit p = true ∨ ∃ x ∈ l, Fall r.links (fun _ => true) pins x p := by
    intro l
    induction l with
    | nil => intro _ a; simp
    | cons x l ih =>
      intro hl a
      rw [List.foldl_cons, ih (fun y hy => hl y (List.mem_cons_of_mem _ hy)), Nat.testBit_or, Bool.or_eq_true, mem_fallS (lt16 (hl x (List.mem_cons_self ..))) (lt16 hp)]
      simp only [List.mem_cons, exists_eq_or_imp, or_assoc]
  exact this l hl e
/-- The sets of pins of row k that the ball can reach. -/
noncomputable def rowL (r : Rk) (pins : Nat) (ball : List Rg) (k : Nat) : List Nat := (eachL r pins k (gx ball k).lo (gx ball k).hi ((gx ball k).hi - (gx ball k).lo + 1).toNat).map Subtype.val
theorem rowL_lt {r : Rk} {pins : Nat} {ball : List Rg} {k : Nat} : ∀ x ∈ rowL r pins ball k, x < 2 ^ 10 := fun x hx => by
  obtain ⟨y, _, rfl⟩ := List.mem_map.1 hx
  obtain ⟨n, _, _, h⟩ := y.2
  rw [h]; exact touchS_lt ..
theorem mem_rowL {r : Rk} {pins : Nat} {ball : List Rg} {k x : Nat} : x ∈ rowL r pins ball k ↔ ∃ n, (gx ball k).lo ≤ n ∧ n ≤ (gx ball k).hi ∧ x = touchS r pins k n := by
  constructor
  · intro hx
    obtain ⟨y, _, rfl⟩ := List.mem_map.1 hx
    exact y.2
  · rintro ⟨n, h1, h2, rfl⟩
    obtain ⟨y, hy, hv⟩ := mem_eachL (r := r) (pins := pins) (row := k) h1 h2 (k := ((gx ball k).hi - (gx ball k).lo + 1).toNat) (by omega)
    exact List.mem_map.2 ⟨y, hy, hv⟩
noncomputable def alwT (r : Rk) (pins : Nat) (ball : List Rg) : Nat → Nat
  | 0 => 0
  | k + 1 => alwT r pins ball k ||| byT r pins (rowL r pins ball k)
noncomputable def eveT (r : Rk) (pins : Nat) (ball : List Rg) : Nat → Nat
  | 0 => 0
  | k + 1 => evT r pins (eveT r pins ball k) (rowL r pins ball k)
section
variable {r : Rk} {pins : Nat} {ball : List Rg}
theorem alwT_lt (hp : pins < 2 ^ 10) : ∀ k, alwT r pins ball k < 2 ^ 10
  | 0 => by simp [alwT]
  | k + 1 => Nat.or_lt_two_pow (alwT_lt hp k) (byT_lt hp _)
theorem eveT_lt (hp : pins < 2 ^ 10) : ∀ k, eveT r pins ball k < 2 ^ 10
  | 0 => by simp [eveT]
  | k + 1 => evT_lt hp (eveT_lt hp k) rowL_lt
theorem alw_is (hp : pins < 2 ^ 10) (hr : Ranges ball) : alwT r pins ball ball.length = sureS r pins ball := by
  have key : ∀ k, k ≤ ball.length → ∀ p, (alwT r pins ball k).testBit p = true ↔ ∃ row, row < k ∧ ∀ n, (gx ball row).lo ≤ n → n ≤ (gx ball row).hi → Fall r.links (surely r.links) pins (touchS r pins row n) p := by
    intro k
    induction k with
    | zero => intro _ p; simp [alwT]
    | succ k ih =>
      intro hk p
      rw [alwT, Nat.testBit_or, Bool.or_eq_true, ih (by omega), mem_byT hp rowL_lt]
      constructor
      · rintro (⟨row, h, h'⟩ | ⟨h, h'⟩)
        · exact ⟨row, by omega, h'⟩
        · exact ⟨k, by omega, fun n h1 h2 => h' _ (mem_rowL.2 ⟨n, h1, h2, rfl⟩)⟩
      · rintro ⟨row, h, h'⟩
        by_cases e : row = k
        · subst e
          refine .inr ⟨(h' _ (Int.le_refl _) (hr row (by omega))).in (touchS_sub _ _ _ _), fun x hx => ?_⟩
          obtain ⟨n, h1, h2, rfl⟩ := mem_rowL.1 hx
          exact h' n h1 h2
        · exact .inl ⟨row, by omega, h'⟩
  refine set_ext (n := 10) (alwT_lt hp _) sureS_lt fun p h10 => ?_
  rw [key _ (Nat.le_refl _), sureS, mem_bitsP]
  exact ⟨fun h => ⟨h10, h⟩, fun h => h.2⟩
theorem eve_is (hp : pins < 2 ^ 10) : eveT r pins ball ball.length = mayS r pins ball := by
  have key : ∀ k, ∀ p, (eveT r pins ball k).testBit p = true ↔ ∃ row n, row < k ∧ (gx ball row).lo ≤ n ∧ n ≤ (gx ball row).hi ∧ Fall r.links (fun _ => true) pins (touchS r pins row n) p := by
    intro k
    induction k with
    | zero => intro p; simp [eveT]
    | succ k ih =>
      intro p
      rw [eveT, mem_evT hp rowL_lt, ih]
      constructor
      · rintro (⟨row, n, h, h'⟩ | ⟨x, hx, h'⟩)
        · exact ⟨row, n, by omega, h'⟩
        · obtain ⟨n, h1, h2, rfl⟩ := mem_rowL.1 hx
          exact ⟨k, n, by omega, h1, h2, h'⟩
      · rintro ⟨row, n, h, h1, h2, h3⟩
        by_cases e : row = k
        · subst e
          exact .inr ⟨_, mem_rowL.2 ⟨n, h1, h2, rfl⟩, h3⟩
        · exact .inl ⟨row, n, by omega, h1, h2, h3⟩
  refine set_ext (n := 10) (eveT_lt hp _) mayS_lt fun p h10 => ?_
  rw [key, mayS, mem_bitsP]
  exact ⟨fun h => ⟨h10, h⟩, fun h => h.2⟩
end
/-- A ball that is one has ranges. -/
theorem ballB_ok {rows : Int} {ball : List Rg} (h : ballB rows ball = true) : (ball.length : Int) = rows ∧ Ranges ball ∧ ∀ k, k < ball.length → 0 ≤ (gx ball k).lo ∧ (gx ball k).lo ≤ (gx ball k).hi ∧ (gx ball k).hi ≤ 60 ∧ (gx ball k).hi - (gx ball k).lo ≤ 8 := by
  unfold ballB at h
  rw [Bool.and_eq_true, decide_eq_true_eq, allB_iff] at h
  have h2 : ∀ k, k < ball.length → 0 ≤ (gx ball k).lo ∧ (gx ball k).lo ≤ (gx ball k).hi ∧ (gx ball k).hi ≤ 60 ∧ (gx ball k).hi - (gx ball k).lo ≤ 8 := fun k hk => by
    have := h.2 k hk
    simp only [rangeB, Bool.and_eq_true, inB_eq, decide_eq_true_eq] at this
    omega
  exact ⟨h.1, fun k hk => (h2 k hk).2.1, h2⟩
end Go.Proofs.Ytpekajnjjhibjaa
