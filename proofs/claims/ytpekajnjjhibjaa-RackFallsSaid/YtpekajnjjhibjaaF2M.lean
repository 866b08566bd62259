/-
  The reference's Fallen, plain: a row of bools, written pin by pin, link by link; it ends as felledS. No program.
-/
import Derived.Test.YtpekajnjjhibjaaLawsM
import Derived.Test.YtpekajnjjhibjaaComp
namespace Go.Proofs.Ytpekajnjjhibjaa
open Go.RowKit
set_option linter.unusedVariables false
set_option linter.unusedSimpArgs false

def upd (D : Nat → Bool) (p : Nat) (b : Bool) : Nat → Bool := fun q => if q = p then b else D q
/-- The first n pins, each touched or not. -/
def initD (r : Rk) (xs ys : List Int) : Nat → Nat → Bool
  | 0 => fun _ => false
  | k + 1 => upd (initD r xs ys k) (ix xs k).toNat (reachB r (ix xs k).toNat (ix ys (rowP (ix xs k).toNat)))
def linkD (ls : List Lk) (bs : List Bool) (xs : List Int) (D : Nat → Bool) (k : Nat) : Nat → Bool :=
  if (bx bs k && D (lx ls k).f.toNat) && hasB xs (lx ls k).t then upd D (lx ls k).t.toNat true else D
def passD (ls : List Lk) (bs : List Bool) (xs : List Int) (D : Nat → Bool) : Nat → Nat → Bool
  | 0 => D
  | k + 1 => linkD ls bs xs (passD ls bs xs D k) k
def iterD (ls : List Lk) (bs : List Bool) (xs : List Int) (D : Nat → Bool) : Nat → Nat → Bool
  | 0 => D
  | n + 1 => passD ls bs xs (iterD ls bs xs D n) ls.length
theorem rowP_lt {rows : Int} (h1 : 1 ≤ rows) (h4 : rows ≤ 4) {p : Nat} (hp : p < pn rows) : rowP p < rows.toNat := by
  rcases rows4 h1 h4 with rfl | rfl | rfl | rfl <;> revert p <;> decide
section
variable {r : Rk} {xs ys : List Int} {bs : List Bool}
theorem initD_iff (q : Nat) : ∀ n, initD r xs ys n q = true ↔ (∃ j, j < n ∧ (ix xs j).toNat = q) ∧ reachB r q (ix ys (rowP q)) = true
  | 0 => by simp [initD]
  | n + 1 => by
    rw [initD, upd]
    split
    · next h =>
      rw [← h]
      exact ⟨fun h1 => ⟨⟨n, by omega, h.symm⟩, h1⟩, fun h1 => h1.2⟩
    · next h =>
      rw [initD_iff q n]
      constructor
      · rintro ⟨⟨j, h1, h2⟩, h3⟩
        exact ⟨⟨j, by omega, h2⟩, h3⟩
      · rintro ⟨⟨j, h1, h2⟩, h3⟩
        refine ⟨⟨j, ?_, h2⟩, h3⟩
        rcases Nat.lt_or_ge j n with h4 | h4
        · exact h4
        · exact absurd (by rw [← h2, show n = j by omega]) h
theorem pinS_iff (h : pinErr r xs = 0) (q : Nat) : (pinS r xs).testBit q = true ↔ ∃ j, j < xs.length ∧ (ix xs j).toNat = q := by
  rw [pinS, if_pos h, mem_ofS, List.mem_map]
  constructor
  · rintro ⟨a, h1, h2⟩
    obtain ⟨j, h3, rfl⟩ := List.getElem_of_mem h1
    exact ⟨j, h3, by rw [ix_lt h3]; exact h2⟩
  · rintro ⟨j, h1, h2⟩
    exact ⟨xs[j], List.getElem_mem h1, by rwa [ix_lt h1] at h2⟩
theorem initD_is (h : pinErr r xs = 0) : initD r xs ys xs.length = (touchedS r (pinS r xs) (ix ys) r.rows.toNat).testBit := by
  funext q
  have ho := rackOk (pinErr_rack h)
  rw [Bool.eq_iff_iff, initD_iff, ← pinS_iff h, mem_touchedS]
  constructor
  · rintro ⟨h1, h2⟩
    have h3 := pinS_pn h q h1
    have h4 := pn_le ho.rows1 ho.rows4
    exact ⟨rowP q, rowP_lt ho.rows1 ho.rows4 h3, mem_bitsP.2 ⟨by omega, h1, rfl, h2⟩⟩
  · rintro ⟨row, h1, h2⟩
    obtain ⟨_, h3, rfl, h4⟩ := mem_bitsP.1 h2
    exact ⟨h3, h4⟩
theorem has_pin (h : pinErr r xs = 0) {t : Int} (ht : 0 ≤ t) : hasB xs t = (pinS r xs).testBit t.toNat := by
  rw [Bool.eq_iff_iff, pinS_iff h, hasB_iff]
  have hn := (pins_nats h).1
  constructor
  · intro h1
    obtain ⟨j, h2, rfl⟩ := List.getElem_of_mem h1
    exact ⟨j, h2, by rw [ix_lt h2]⟩
  · rintro ⟨j, h1, h2⟩
    have h0 : 0 ≤ ix xs j := by
      have h3 : ∀ x ∈ xs, 0 ≤ x := by
        rw [hn]
        intro x hx
        obtain ⟨a, _, rfl⟩ := List.mem_map.1 hx
        exact Int.natCast_nonneg a
      rw [ix_lt h1]
      exact h3 _ (List.getElem_mem h1)
    have : t = ix xs j := by omega
    rw [this, ix_lt h1]
    exact List.getElem_mem h1
theorem upd_bit (u p : Nat) : upd u.testBit p true = (u ||| 2 ^ p).testBit := by
  funext q
  rw [upd, Nat.testBit_or, Nat.testBit_two_pow]
  by_cases e : q = p
  · subst e; simp
  · simp [e, Ne.symm e]
theorem linkD_is (h : pinErr r xs = 0) (u : Nat) {k : Nat} (hk : k < r.links.length) : linkD r.links bs xs u.testBit k = (stepC r.links (bx bs) (pinS r xs) u k).testBit := by
  have hl := (rackOk (pinErr_rack h)).link k hk
  simp only [linkB, Bool.and_eq_true, inB_eq] at hl
  rw [linkD, stepC, has_pin h hl.2.1.1]
  split
  · exact upd_bit _ _
  · rfl
theorem passD_is (h : pinErr r xs = 0) (u : Nat) : ∀ k, k ≤ r.links.length → passD r.links bs xs u.testBit k = (passC r.links (bx bs) (pinS r xs) u k).testBit
  | 0, _ => rfl
  | k + 1, hk => by rw [passD, passD_is h u k (by omega), linkD_is h _ (by omega)]; rfl
theorem iterD_is (h : pinErr r xs = 0) (u : Nat) : ∀ n, iterD r.links bs xs u.testBit n = (fallC r.links (bx bs) (pinS r xs) u n).testBit
  | 0 => rfl
  | n + 1 => by rw [iterD, iterD_is h u n, passD_is h _ _ (Nat.le_refl _)]; rfl
/-- What Fallen's row of bools is at its end. -/
theorem fallen_bits (h : pinErr r xs = 0) : iterD r.links bs xs (initD r xs ys xs.length) (pn r.rows) = (felledS r (pinS r xs) (ix ys) (bx bs)).testBit := by
  have ho := rackOk (pinErr_rack h)
  rw [initD_is h, iterD_is h, fallC_pn (pn_le ho.rows1 ho.rows4).2 pinS_lt (fun p hp => pinS_pn h p hp) (touchedS_sub _ _ _ _)]
  rfl
theorem fallen_list (h : pinErr r xs = 0) : natsI ((List.range (pn r.rows)).filter (felledS r (pinS r xs) (ix ys) (bx bs)).testBit) = natsI (listS (felledS r (pinS r xs) (ix ys) (bx bs))) := by
  have ho := rackOk (pinErr_rack h)
  have h4 := (pn_le ho.rows1 ho.rows4).2
  refine congrArg natsI (rising_ext (List.Pairwise.filter _ List.pairwise_lt_range) (rising_listS _) fun p => ?_)
  rw [mem_listS, List.mem_filter, List.mem_range]
  constructor
  · rintro ⟨h1, h2⟩
    exact ⟨by omega, h2⟩
  · rintro ⟨h1, h2⟩
    exact ⟨pinS_pn h p (felledS_sub pinS_lt p h2), h2⟩
end

/-! The row in memory. -/
def dnL (D : Nat → Bool) (m : Nat) : List Value := (List.range m).map fun q => Value.bool (D q)
def Dn (w : World) (g : Nat) (D : Nat → Bool) (m : Nat) : Prop := w.heap[g]? = some (.cells (dnL D m).toArray 4)
theorem Dn.lt {w : World} {g m : Nat} {D : Nat → Bool} (h : Dn w g D m) : g < w.heap.size := (Array.getElem?_eq_some_iff.1 h).1
theorem Dn.step {w w' : World} {g m : Nat} {D : Nat → Bool} (h : Dn w g D m) (hb : Below w.heap.size w w') : Dn w' g D m := (hb.block g h.lt).trans h
theorem Dn.cell {w : World} {g m : Nat} {D : Nat → Bool} (h : Dn w g D m) {p : Nat} (hp : p < m) : w.cell? ⟨g, p, none⟩ = some (.bool (D p)) ∧ w.frozen? ⟨g, p, none⟩ = false := by
  unfold Dn at h
  refine ⟨?_, by simp [World.frozen?, h]⟩
  simp [World.cell?, h, dnL, hp]
theorem Dn.set {w : World} {g m : Nat} {D : Nat → Bool} (h : Dn w g D m) (p : Nat) (b : Bool) : Dn (w.setCell ⟨g, p, none⟩ (.bool b)) g (upd D p b) m := by
  have e : ((dnL D m).toArray.setIfInBounds p (.bool b)) = (dnL (upd D p b) m).toArray := by
    refine Array.ext (by simp [dnL]) fun i h1 h2 => ?_
    simp only [Array.getElem_setIfInBounds, List.getElem_toArray]
    by_cases e : p = i
    · subst e; simp [dnL, upd]
    · simp [dnL, upd, e, Ne.symm e]
  unfold Dn at h ⊢
  rw [← e]
  simp [World.setCell, Array.getElem?_modify, h]
theorem dn_new (w : World) (m : Nat) : Dn (w.alloc (.cells (madeCells #[.bool false] m) 4)) w.heap.size (fun _ => false) m := by
  have e : madeCells #[.bool false] m = (dnL (fun _ => false) m).toArray := by
    refine Array.toList_inj.1 ?_
    rw [toList_madeCells_one]
    refine List.ext_getElem (by simp [dnL]) fun i h1 h2 => ?_
    simp [dnL]
  unfold Dn
  rw [← e]
  exact World.alloc_heap_new _ _
end Go.Proofs.Ytpekajnjjhibjaa
