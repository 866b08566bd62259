/-
  Some of the pins, by bits; what falls of them falls of more: plain facts; a copy of bools.
-/
import Derived.Test.YtpekajnjjhibjaaLawsM
namespace Go.Proofs.Ytpekajnjjhibjaa
open Go.RowKit
set_option linter.unusedVariables false
set_option linter.unusedSimpArgs false

theorem bit_test (b k : Nat) : (((b : Int) / 2 ^ k).tmod 2 == 1) = b.testBit k := by
  have h1 : ((b : Int) / 2 ^ k) = ((b / 2 ^ k : Nat) : Int) := by simp
  have h2 : (((b / 2 ^ k : Nat) : Int).tmod 2) = ((b / 2 ^ k % 2 : Nat) : Int) := rfl
  rw [h1, h2, Nat.testBit_eq_decide_div_mod_eq]
  exact Bool.eq_iff_iff.2 (by simp; omega)
def fewT (xs : List Int) (b : Nat) : Nat → List Int
  | 0 => []
  | k + 1 => if b.testBit k then fewT xs b k ++ [ix xs k] else fewT xs b k
theorem fewT_len (xs : List Int) (b : Nat) : ∀ k, (fewT xs b k).length ≤ k
  | 0 => Nat.le_refl _
  | k + 1 => by
    have := fewT_len xs b k
    rw [fewT]; split
    · rw [List.length_append]; exact Nat.succ_le_succ this
    · omega
def fewN (l : List Nat) (b : Nat) : Nat → List Nat
  | 0 => []
  | k + 1 => if b.testBit k then fewN l b k ++ [l.getD k 0] else fewN l b k
theorem fewN_is (l : List Nat) (b : Nat) : ∀ k, k ≤ l.length → fewT (natsI l) b k = natsI (fewN l b k)
  | 0, _ => rfl
  | k + 1, h => by
    rw [fewT, fewN, fewN_is l b k (by omega)]
    split
    · rw [ix_nats (show k < l.length by omega)]
      simp [natsI, show k < l.length by omega]
    · rfl
theorem fewN_mem {l : List Nat} {b x : Nat} : ∀ k, k ≤ l.length → x ∈ fewN l b k → ∃ j, ∃ h : j < l.length, j < k ∧ x = l[j]
  | 0, _, h => by simp [fewN] at h
  | k + 1, hk, h => by
    rw [fewN] at h
    split at h
    · rcases List.mem_append.1 h with h | h
      · obtain ⟨j, h1, h2, h3⟩ := fewN_mem k (by omega) h
        exact ⟨j, h1, by omega, h3⟩
      · rw [List.mem_singleton] at h
        exact ⟨k, by omega, by omega, by rw [h]; simp [show k < l.length by omega]⟩
    · obtain ⟨j, h1, h2, h3⟩ := fewN_mem k (by omega) h
      exact ⟨j, h1, by omega, h3⟩
theorem fewN_rises {l : List Nat} {b : Nat} (hl : l.Pairwise (· < ·)) : ∀ k, k ≤ l.length → (fewN l b k).Pairwise (· < ·)
  | 0, _ => List.Pairwise.nil
  | k + 1, hk => by
    rw [fewN]
    split
    · refine List.pairwise_append.2 ⟨fewN_rises hl k (by omega), List.pairwise_singleton _ _, fun x hx y hy => ?_⟩
      rw [List.mem_singleton] at hy
      obtain ⟨j, h1, h2, rfl⟩ := fewN_mem k (by omega) hx
      rw [hy]
      have := List.pairwise_iff_getElem.1 hl j k h1 (by omega) h2
      simpa [show k < l.length by omega] using this
    · exact fewN_rises hl k (by omega)
/-- Some of the pins are pins. -/
theorem few_pins {r : Rk} {xs : List Int} (b : Nat) (h : pinErr r xs = 0) : pinErr r (fewT xs b xs.length) = 0 ∧ Sub (pinS r (fewT xs b xs.length)) (pinS r xs) := by
  have e := pins_list h
  have hl := rising_listS (pinS r xs)
  have hpn : ∀ p ∈ listS (pinS r xs), p < pn r.rows := fun p hp => pinS_pn h p (mem_listS.1 hp).2
  have hlen : xs.length = (listS (pinS r xs)).length := len_many h
  have hm := fun x => fewN_mem (l := listS (pinS r xs)) (b := b) (x := x) (listS (pinS r xs)).length (Nat.le_refl _)
  have hr := fewN_rises (b := b) hl (listS (pinS r xs)).length (Nat.le_refl _)
  have hf : fewT xs b xs.length = natsI (fewN (listS (pinS r xs)) b (listS (pinS r xs)).length) := by
    rw [hlen]
    have := fewN_is (listS (pinS r xs)) b (listS (pinS r xs)).length (Nat.le_refl _)
    rw [← e] at this
    exact this
  rw [hf]
  have hmem : ∀ x, x ∈ fewN (listS (pinS r xs)) b (listS (pinS r xs)).length → x ∈ listS (pinS r xs) := fun x hx => by
    obtain ⟨j, h1, _, rfl⟩ := hm x hx
    exact List.getElem_mem h1
  generalize hfl : fewN (listS (pinS r xs)) b (listS (pinS r xs)).length = fl at *
  have h10 : ∀ p ∈ fl, p < 10 := fun p hp => (mem_listS.1 (hmem p hp)).1
  have hu : ∀ p, (ofS fl).testBit p = true → p < pn r.rows := fun p hp => hpn p (hmem p (mem_ofS.1 hp))
  have := pin_of (pinErr_rack h) hu
  rw [listS_ofS hr h10] at this
  refine ⟨this.1, ?_⟩
  rw [this.2]
  exact fun p hp => (mem_listS.1 (hmem p (mem_ofS.1 hp))).2
theorem touchS_mono {r : Rk} {s t : Nat} (h : Sub s t) (row : Nat) (b : Int) : Sub (touchS r s row b) (touchS r t row b) := fun p hp => by
  obtain ⟨h1, h2, h3⟩ := mem_bitsP.1 hp
  exact mem_bitsP.2 ⟨h1, h p h2, h3⟩
theorem felledS_mono {r : Rk} {s t : Nat} (hs : s < 2 ^ 10) (ht : t < 2 ^ 10) (h : Sub s t) (b : Nat → Int) (c : Nat → Bool) : Sub (felledS r s b c) (felledS r t b c) := fun p hp => by
  obtain ⟨row, h1, h2⟩ := (mem_felledS hs).1 hp
  exact (mem_felledS ht).2 ⟨row, h1, h2.mono (fun _ _ h => h) (touchS_mono h row _) h⟩
theorem few_thr {r : Rk} {xs : List Int} {ball : List Rg} (b : Nat) (h : thrErr r xs ball = 0) : thrErr r (fewT xs b xs.length) ball = 0 := by
  have h1 := (few_pins b (thrErr_pin h).1).1
  rw [thrErr, if_pos h1, (thrErr_pin h).2]
  rfl
theorem more_in {r : Rk} {xs ws : List Int} {ball : List Rg} (b : Nat) (h : thrErr r xs ball = 0) :
    subB (minusL (fewT xs b xs.length) (hitL r (fewT xs b xs.length) ball (pickB ball ws) (pickC r.links ws))) (minusL xs (hitL r xs ball (pickB ball ws) (pickC r.links ws))) = true := by
  have hf := few_thr b h
  rw [truth_fell h, truth_fell hf, subB_sets (bitsP_lt _ _) (bitsP_lt _ _)]
  have hsub := (few_pins b (thrErr_pin h).1).2
  have hs := pinS_lt (r := r) (xs := fewT xs b xs.length)
  have ht := pinS_lt (r := r) (xs := xs)
  intro p hp
  obtain ⟨h10, h1, h2⟩ := mem_bitsP.1 hp
  refine mem_bitsP.2 ⟨h10, hsub p h1, fun h3 => ?_⟩
  have hfe : (felledS r (pinS r (fewT xs b xs.length)) (ix (pickB ball ws)) (bx (pickC r.links ws))).testBit p = true := Classical.byContradiction fun hn => h2 ((mem_leftS hs).2 ⟨h1, hn⟩)
  exact ((mem_leftS ht).1 h3).2 (felledS_mono hs ht hsub _ _ p hfe)

theorem flatB_map (bs : List Bool) : flatB bs = bs.map Value.bool := by
  induction bs with
  | nil => rfl
  | cons x xs ih => simp only [flatB, cellsB, List.flatMap_cons, List.map_cons] at *; simp [ih]
theorem Bls.isrc {B : Nat} {w : World} {A : Option Addr} {bs : List Bool} (h : Bls B w A bs) : Src w 1 A bs.length (flatB bs) := by
  rw [flatB_map]
  refine ⟨by simp, fun hA => ?_, fun ad hA j u hu => ?_⟩
  · rcases Nat.eq_zero_or_pos bs.length with h0 | h0
    · exact h0
    · obtain ⟨b, off, hA', _⟩ := h h0
      rw [hA] at hA'
      cases hA'
  · have hj : j < bs.length := by
      rcases Nat.lt_or_ge j bs.length with h1 | h1
      · exact h1
      · rw [List.getElem?_eq_none (by simpa using h1)] at hu; cases hu
    obtain ⟨b, off, hA', _, hc⟩ := h (by omega)
    rw [hA] at hA'
    injection hA' with e
    subst e
    rw [add_eq, hc j hj, bx_lt hj]
    simpa [hj] using hu
theorem wpList_copyB {ops : Array Oper} {rest : List Oper} {o : Oper} {a : Act} {Q : Exit → Act → World → Prop} (x : Operand) (hgd : o.guard = none) (ho : o.op = .call { callee := .builtin .append, args := #[.const (.slice none 0 0), x], argTypes := #[71, 71] })
    (w : World) (A : Option Addr) (bs : List Bool) (n c : Nat) (hn : n = bs.length) (hx : a.eval x = .slice A n c) (hB : Hid (Bls w.heap.size w A bs)) (hl : bs.length ≤ 1000000)
    (h : ∀ A' c' w', Hid (OwnB 4 w.heap.size w' (.slice A' n c') bs) → Hid (Below w.heap.size w w') → wpList Try.prog ops Q rest (a.put o.dst (.slice A' n c')) w') : wpList Try.prog ops Q (o :: rest) a w := by
  subst hn
  obtain ⟨hu, i, hi, hz, hz1, hz2⟩ := tyB (t := 71) (e := 4) ⟨rfl, rfl⟩
  refine wpList_append_src hgd (.const (.slice none 0 0)) x 71 ho w.heap.size 4 i _ 1 1 hu hi hz hz1 hz2 rfl (by decide) (.slice none 0 0) 0 [] rfl (World.ownsRow_nil _ _ _ _) A bs.length c _ hx hB.out.isrc (one_flatB bs) (by unfold maxLen; omega) (by omega) (Nat.le_refl _) ?_
  intro v' w' h1 h2 _
  rw [Nat.zero_add, List.nil_append] at h1
  obtain ⟨A', c', rfl⟩ := ownsRow_form h1
  exact h A' c' w' h1 ((Below.refl w.heap.size w).grown h2 (Nat.le_refl _) (fun k e => by cases e))
end Go.Proofs.Ytpekajnjjhibjaa
