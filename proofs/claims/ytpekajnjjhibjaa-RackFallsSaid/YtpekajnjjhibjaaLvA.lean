/-
  Own lists of slices that are only read; appends of one, and of another such list. The reference's Boards. The reference's Carries. The reference's Leaves.
-/
import Derived.Test.YtpekajnjjhibjaaGen
import Derived.Test.YtpekajnjjhibjaaLeavesL
import Derived.Test.YtpekajnjjhibjaaOwn2
import Derived.Test.YtpekajnjjhibjaaMoreM
import Derived.Test.YtpekajnjjhibjaaHitsW
namespace Go.Proofs.Ytpekajnjjhibjaa
section

open Go.RowKit
set_option linter.unusedVariables false
set_option linter.unusedSimpArgs false

/-- The block that a slice with elements reads. -/
def blkOf : Value → Option Nat
  | .slice (some a) (_ + 1) _ => some a.block
  | _ => none
section
variable {α : Type}
/-- A reading of a slice: kept while its block is; the block is there. -/
structure RdK (Rd : World → Value → α → Prop) : Prop where
  frame : ∀ {w w' : World} {u : Value} {x : α}, Rd w u x → (∀ b, blkOf u = some b → w'.heap[b]? = w.heap[b]?) → Rd w' u x
  lt : ∀ {w : World} {u : Value} {x : α} {b : Nat}, Rd w u x → blkOf u = some b → b < w.heap.size
  sl : ∀ {w : World} {u : Value} {x : α}, Rd w u x → ∃ A n c, u = .slice A n c
/-- v is an own list of slices that read as xs, none of them in the list's own block, nor below lo. -/
def Rs (Rd : World → Value → α → Prop) (e : TypeId) (base lo : Nat) (w : World) (v : Value) (xs : List α) : Prop :=
  ∃ vs : List Value, w.ownsRow base e 1 v xs.length vs ∧ ∀ j (h : j < xs.length), ∃ u, vs[j]? = some u ∧ Rd w u xs[j] ∧ ∀ b, blkOf u = some b → lo ≤ b ∧ v.ownBlock ≠ some b
variable {Rd : World → Value → α → Prop} {e : TypeId} {base lo : Nat} {w w' w1 w2 : World} {v v' u : Value} {xs ys : List α}
theorem Rs.form (h : Rs Rd e base lo w v xs) : ∃ A c, v = .slice A xs.length c := by
  obtain ⟨vs, h, -⟩ := h
  exact ownsRow_form h
theorem Rs.nil : Rs Rd e base lo w (.slice none 0 0) [] := ⟨[], World.ownsRow_nil _ _ _ _, fun j h => by simp at h⟩
theorem Rs.kept (K : RdK Rd) (h : Rs Rd e base lo w v xs) (hb : Below w.heap.size w w') : Rs Rd e base lo w' v xs := by
  obtain ⟨vs, h1, h2⟩ := h
  refine ⟨vs, h1.kept (only_below hb none) (by cases v.ownBlock <;> simp), fun j hj => ?_⟩
  obtain ⟨u, a, b, c⟩ := h2 j hj
  exact ⟨u, a, K.frame b fun k hk => hb.block k (K.lt b hk), c⟩
/-- A block is set that is neither the list's own, nor one of its elements' blocks. -/
theorem Rs.keptBy (K : RdK Rd) {g : Nat} (h : Rs Rd e base lo w v xs) (hg : w.grownBy w' (some g)) (hb : g < base) (hl : g < lo) : Rs Rd e base lo w' v xs := by
  obtain ⟨vs, h1, h2⟩ := h
  refine ⟨vs, h1.kept hg (.inr fun e => by have := (h1.lt g e).1; omega), fun j hj => ?_⟩
  obtain ⟨u, a, b, c⟩ := h2 j hj
  exact ⟨u, a, K.frame b fun k hk => hg.block k (K.lt b hk) (fun e => by injection e with e; have := (c k hk).1; omega), c⟩
theorem Rs.low {lo' : Nat} (h : Rs Rd e base lo w v xs) (hl : lo' ≤ lo) : Rs Rd e base lo' w v xs := by
  obtain ⟨vs, h1, h2⟩ := h
  refine ⟨vs, h1, fun j hj => ?_⟩
  obtain ⟨u, a, b, c⟩ := h2 j hj
  exact ⟨u, a, b, fun k hk => ⟨Nat.le_trans hl (c k hk).1, (c k hk).2⟩⟩
theorem Rs.lowBase {base' : Nat} (h : Rs Rd e base lo w v xs) (hl : base' ≤ base) : Rs Rd e base' lo w v xs := by
  obtain ⟨vs, h1, h2⟩ := h
  exact ⟨vs, ownsRow_base h1 hl, h2⟩
/-- One element, in new memory. -/
theorem Rs.lit (hb : base ≤ w.heap.size) (K : RdK Rd) {x : α} (h : Rd w u x) (hl : ∀ b, blkOf u = some b → lo ≤ b) : Rs Rd e base lo (w.alloc (.cells #[u] e)) (.slice (some ⟨w.heap.size, 0, none⟩) 1 1) [x] := by
  refine ⟨[u], ?_, fun j hj => ?_⟩
  · have := World.ownsRow_lit (base := base) (e := e) (size := 1) w #[u] 1 hb (by unfold maxLen; omega) (by simp)
    simpa using this
  · have hj' : j < 1 := by simpa using hj
    obtain rfl : j = 0 := by omega
    refine ⟨u, rfl, K.frame h fun b hb2 => Below.heap_alloc w _ b (K.lt h hb2), fun b hb2 => ⟨hl b hb2, fun e1 => ?_⟩⟩
    have e2 : w.heap.size = b := by injection e1
    have := K.lt h hb2
    omega
/-- What an element reads as. -/
theorem Rs.at_ (h : Rs Rd e base lo w v xs) {k : Nat} (hk : k < xs.length) : ∃ g c u, v = .slice (some ⟨g, 0, none⟩) xs.length c ∧ xs.length ≤ c ∧ c ≤ 9223372036854775807 ∧ g < w.heap.size ∧ w.cell? ⟨g, k, none⟩ = some u ∧ Rd w u xs[k] := by
  obtain ⟨vs, h1, h2⟩ := h
  obtain ⟨u, a, b, -⟩ := h2 k hk
  have h3 := h1
  rcases h1.2 with ⟨rfl, h0⟩ | ⟨g, cap, cur, rfl, hb, hg, hn, hm, hs, ht⟩
  · omega
  · refine ⟨g, cap, u, rfl, hn, by unfold maxLen at hm; omega, (Array.getElem?_eq_some_iff.1 hg).1, ?_, b⟩
    have := h3.cells (g := g) rfl k u a
    rw [add_eq, Nat.zero_add] at this
    exact this
theorem Rs.parts {A : Option Addr} {n c : Nat} (h : Rs Rd e base lo w (.slice A n c) xs) : n = xs.length ∧ xs.length ≤ c ∧ c ≤ 9223372036854775807 := by
  obtain ⟨vs, h1, -⟩ := h
  rcases h1.2 with ⟨e, h0⟩ | ⟨g, cap, cur, e, hb, hg, hn, hm, hs, ht⟩
  · injection e with e1 e2 e3
    omega
  · injection e with e1 e2 e3
    unfold maxLen at hm
    omega
theorem Rs.oneCell (K : RdK Rd) {vs : List Value} (hl : vs.length = xs.length) (h2 : ∀ j (h : j < xs.length), ∃ u, vs[j]? = some u ∧ Rd w u xs[j] ∧ ∀ b, blkOf u = some b → lo ≤ b ∧ v.ownBlock ≠ some b) : ∀ u ∈ vs, u.oneCell' = true := by
  intro u hu
  obtain ⟨j, hj, rfl⟩ := List.getElem_of_mem hu
  obtain ⟨u', a, b, -⟩ := h2 j (by omega)
  rw [List.getElem?_eq_getElem hj] at a
  injection a with a
  obtain ⟨A, n, c, e⟩ := K.sl b
  rw [a, e]
  rfl
theorem Rs.src (h : Rs Rd e base lo w v xs) {A : Option Addr} {n c : Nat} (hv : v = .slice A n c) : ∃ vs : List Value, Src w 1 A n vs ∧ vs.length = xs.length ∧ n = xs.length ∧ ∀ j (h : j < xs.length), ∃ u, vs[j]? = some u ∧ Rd w u xs[j] ∧ ∀ b, blkOf u = some b → lo ≤ b ∧ v.ownBlock ≠ some b := by
  obtain ⟨vs, h1, h2⟩ := h
  have h3 := h1
  have hl := h1.1
  rcases h1.2 with ⟨e1, h0⟩ | ⟨g, cap, cur, e1, hb, hg, hn, hm, hs, ht⟩
  · rw [hv] at e1
    injection e1 with e1 e2 e3
    subst e1 e2 e3
    refine ⟨vs, ⟨by omega, fun _ => rfl, fun ad h => by cases h⟩, by omega, by omega, h2⟩
  · rw [hv] at e1
    injection e1 with e1 e2 e3
    subst e1 e2 e3
    refine ⟨vs, ⟨by omega, fun h => (by cases h), fun ad h j u hu => ?_⟩, by omega, rfl, h2⟩
    injection h with h
    subst h
    exact h3.cells (g := g) (by rw [hv]; rfl) j u hu
/-- The element type of such a list, in the program's table. -/
def STy (t e : TypeId) : Prop := Try.prog.underlying t = some (.slice e) ∧ ∃ i, Try.prog.info? e = some i ∧ i.zero = some (.slice none 0 0) ∧ i.size = 1 ∧ i.bytes = 24
/-- An append of all elements of another list. -/
theorem run_appRs (K : RdK Rd) {t : TypeId} (hT : STy t e) (ty : TypeId) {w0 : World} {base1 lo1 : Nat} {A : Option Addr} {n c : Nat} (h1 : Rs Rd e base lo w0 v xs) (hb : Below w0.heap.size w0 w) (hB : base ≤ w0.heap.size) (h2 : Rs Rd e base1 lo1 w (.slice A n c) ys) (hl1 : w0.heap.size ≤ lo1) (hlo : lo ≤ w0.heap.size)
    (hl : xs.length + ys.length ≤ 1000000) : ∃ A' c' w', (Builtin.append_ #[t, t] ty #[v, .slice A n c]).run Try.prog w = .ok (.slice A' (xs.length + ys.length) c') w' ∧ Rs Rd e base lo w' (.slice A' (xs.length + ys.length) c') (xs ++ ys) ∧ Below base w0 w' := by
  obtain ⟨hu, i, hi, hz, hz1, hz2⟩ := hT
  have h1k := h1.kept K hb
  obtain ⟨vs, o1, o2⟩ := h1
  obtain ⟨us, s1, s2, rfl, s4⟩ := h2.src rfl
  have o1k : w.ownsRow base e 1 v xs.length vs := o1.kept (only_below hb none) (by cases v.ownBlock <;> simp)
  have hsz := hb.size
  obtain ⟨v', w', hr, a1, a2, a3⟩ := run_append_src (P := Try.prog) (w := w) base t ty e i _ 1 24 hu hi hz hz1 hz2 rfl (by decide) v xs.length vs o1k A ys.length c us s1 (Rs.oneCell K s2 s4) (by unfold maxLen; omega) (by omega) (by omega)
  obtain ⟨A', c', rfl⟩ := ownsRow_form a1
  have hvl := o1.1
  refine ⟨A', c', w', hr, ⟨vs ++ us, by rw [List.length_append]; exact a1, fun j hj => ?_⟩, (hb.mono hB).grown a2 (by omega) (fun k e => (o1.lt k e).1)⟩
  by_cases hj1 : j < xs.length
  · obtain ⟨u, b1, b2, b3⟩ := o2 j hj1
    refine ⟨u, by rw [List.getElem?_append_left (by omega)]; exact b1, ?_, fun b hbk => ?_⟩
    · rw [List.getElem_append_left hj1]
      refine K.frame b2 fun k hk => ?_
      have hk1 := K.lt b2 hk
      rw [a2.block k (by omega) (fun e => (b3 k hk).2 e.symm)]
      exact hb.block k hk1
    · refine ⟨(b3 b hbk).1, fun e => ?_⟩
      rcases a3 with a3 | a3
      · rw [a3] at e; exact (b3 b hbk).2 e
      · rw [a3] at e
        injection e with e
        have := K.lt b2 hbk
        omega
  · obtain ⟨u, b1, b2, b3⟩ := s4 (j - xs.length) (by rw [List.length_append] at hj; omega)
    refine ⟨u, by rw [List.getElem?_append_right (by omega), show j - vs.length = j - xs.length by omega]; exact b1, ?_, fun b hbk => ?_⟩
    · rw [List.getElem_append_right (by omega)]
      refine K.frame b2 fun k hk => ?_
      refine a2.block k (K.lt b2 hk) fun e => ?_
      have := (o1.lt k e.symm).2
      have := (b3 k hk).1
      omega
    · have hk1 := (b3 b hbk).1
      refine ⟨by omega, fun e => ?_⟩
      rcases a3 with a3 | a3
      · rw [a3] at e
        have := (o1.lt b e).2
        omega
      · rw [a3] at e
        injection e with e
        have := K.lt b2 hbk
        omega
section
variable {ops : Array Oper} {rest : List Oper} {o : Oper} {a : Act} {KK : Act → World → Prop} {Q : Exit → Act → World → Prop} {E : Prop}
theorem wpList_appRs (K : RdK Rd) {t : TypeId} (hT : STy t e) (s y : Operand) (hgd : o.guard = none) (ho : o.op = .call { callee := .builtin .append, args := #[s, y], argTypes := #[t, t] }) {w0 : World} {base1 lo1 : Nat} {A : Option Addr} {n c : Nat} (hv : a.eval s = v) (hx : a.eval y = .slice A n c)
    (h1 : Hid (Rs Rd e base lo w0 v xs)) (hb : Hid (Below w0.heap.size w0 w)) (hB : base ≤ w0.heap.size) (h2 : Hid (Rs Rd e base1 lo1 w (.slice A n c) ys)) (hl1 : w0.heap.size ≤ lo1) (hlo : lo ≤ w0.heap.size) (hl : xs.length + ys.length ≤ 1000000)
    (h : ∀ A' c' w', Hid (Rs Rd e base lo w' (.slice A' (xs.length + ys.length) c') (xs ++ ys)) → Hid (Below base w0 w') → wpList Try.prog ops Q rest (a.put o.dst (.slice A' (xs.length + ys.length) c')) w') :
    wpList Try.prog ops Q (o :: rest) a w := by
  refine wpList_plain hgd fun K' hK => ?_
  obtain ⟨A', c', w', hr, k1, k2⟩ := run_appRs K hT o.type h1.out hb.out hB h2.out hl1 hlo hl
  unfold Oper.wp execOp
  simp only [ho, resolve, invoke, builtin, Sem.run_bind, Sem.run_pure, Result.andThen_ok, List.map_toArray, List.map_cons, List.map_nil, hv, hx, hr]
  exact hK _ _ (h _ _ _ k1 k2)
theorem step_appRs (K : RdK Rd) {t : TypeId} (hT : STy t e) (s y : Operand) (hgd : o.guard = none) (ho : o.op = .call { callee := .builtin .append, args := #[s, y], argTypes := #[t, t] }) {w0 : World} {base1 lo1 : Nat} {A : Option Addr} {n c : Nat} (hv : a.eval s = v) (hx : a.eval y = .slice A n c)
    (h1 : Hid (Rs Rd e base lo w0 v xs)) (hb : Hid (Below w0.heap.size w0 w)) (hB : base ≤ w0.heap.size) (h2 : Hid (Rs Rd e base1 lo1 w (.slice A n c) ys)) (hl1 : w0.heap.size ≤ lo1) (hlo : lo ≤ w0.heap.size) (hl : xs.length + ys.length ≤ 1000000)
    (hK : ∀ A' c' w', Hid (Rs Rd e base lo w' (.slice A' (xs.length + ys.length) c') (xs ++ ys)) → Hid (Below base w0 w') → KK (a.put o.dst (.slice A' (xs.length + ys.length) c')) w') :
    if Region.wanted o (yielded ops a.tmps) = true then Oper.wp Try.prog o a w KK Q else E := by
  rw [if_pos (by simp [Region.wanted, hgd])]
  obtain ⟨A', c', w', hr, k1, k2⟩ := run_appRs K hT o.type h1.out hb.out hB h2.out hl1 hlo hl
  unfold Oper.wp execOp
  simp only [ho, resolve, invoke, builtin, Sem.run_bind, Sem.run_pure, Result.andThen_ok, List.map_toArray, List.map_cons, List.map_nil, hv, hx, hr]
  exact hK _ _ _ k1 k2
end
end
/-- Readings as numbers. -/
def RdI (w : World) (u : Value) (xs : List Int) : Prop := IsInts w.heap.size w u xs
theorem cell_same {w w' : World} {b i : Nat} (h : w'.heap[b]? = w.heap[b]?) : w'.cell? ⟨b, i, none⟩ = w.cell? ⟨b, i, none⟩ := by
  simp only [World.cell?, h]
theorem heap_same_lt {w w' : World} {b : Nat} (h : w'.heap[b]? = w.heap[b]?) (hb : b < w.heap.size) : b < w'.heap.size := by
  rw [Array.getElem?_eq_getElem hb] at h
  exact (Array.getElem?_eq_some_iff.1 h).1
theorem rdI : RdK RdI where
  frame := by
    rintro w w' u xs ⟨A, c, rfl, h1, h2, h3⟩ hf
    refine ⟨A, c, rfl, h1, h2, fun hp => ?_⟩
    obtain ⟨b, off, rfl, hb, hc⟩ := h3 hp
    have hs : w'.heap[b]? = w.heap[b]? := hf b (by
      obtain ⟨n, hn⟩ : ∃ n, xs.length = n + 1 := ⟨xs.length - 1, by omega⟩
      rw [hn]; rfl)
    exact ⟨b, off, rfl, heap_same_lt hs hb, fun k hk => (cell_same hs).trans (hc k hk)⟩
  lt := by
    rintro w u xs b ⟨A, c, rfl, h1, h2, h3⟩ hb
    obtain ⟨n, hn⟩ | h0 : (∃ n, xs.length = n + 1) ∨ xs.length = 0 := by
      rcases xs.length with _ | n
      · exact .inr rfl
      · exact .inl ⟨n, rfl⟩
    · obtain ⟨b', off, rfl, hb', _⟩ := h3 (by omega)
      rw [hn] at hb
      have hb2 : b' = b := by injection hb
      omega
    · rw [h0] at hb
      cases A <;> cases hb
  sl := by
    rintro w u xs ⟨A, c, rfl, -⟩
    exact ⟨_, _, _, rfl⟩
/-- A new own list of numbers is read so. -/
theorem rdI_own {base : Nat} {w : World} {u : Value} {xs : List Int} (h : w.ownsRow base 3 1 u xs.length (xs.map (Value.int .i64))) : RdI w u xs ∧ ∀ b, blkOf u = some b → base ≤ b := by
  refine ⟨ownsRow_isInts h, fun b hb => ?_⟩
  rcases h.2 with ⟨rfl, h0⟩ | ⟨g, cap, cur, rfl, h1, _⟩
  · cases hb
  · rcases hx : xs.length with _ | n
    · rw [hx] at hb; cases hb
    · rw [hx] at hb
      injection hb with hb
      subst hb
      exact h1
theorem Rs.grd {e : TypeId} {base lo : Nat} {w : World} {A : Option Addr} {n c : Nat} {yss : List (List Int)} (h : Rs RdI e base lo w (.slice A n c) yss) : Grd w.heap.size w A yss := fun hp => by
  obtain ⟨g, c', u, e1, _, _, hg, _⟩ := h.at_ hp
  injection e1 with e1 e2 e3
  subst e1
  refine ⟨g, 0, rfl, hg, fun k hk => ?_⟩
  obtain ⟨g', c', u, e1, _, _, _, h1, h2⟩ := h.at_ hk
  injection e1 with e1 e2 e3
  injection e1 with e1
  injection e1 with e1
  subst e1
  exact ⟨u, by simpa using h1, by rw [rx_lt hk]; exact h2⟩
end

section

open Go.RowKit
set_option linter.unusedSimpArgs false
set_option linter.unusedVariables false

attribute [local go_sem] Oper.semAt_some
theorem OwnI.empty2 {base : Nat} {w : World} (h : base ≤ w.heap.size) : OwnI base (w.alloc (.cells #[] 3)) (.slice (some ⟨w.heap.size, 0, none⟩) 0 0) [] :=
  ⟨rfl, .inr ⟨w.heap.size, 0, #[], rfl, h, World.alloc_heap_new _ _, Nat.le_refl _, by unfold maxLen; omega, rfl, rfl⟩⟩
section
variable {ops : Array Oper} {rest : List Oper} {o : Oper} {a : Act} {Q : Exit → Act → World → Prop}
/-- append of a whole list to an empty one that has been made -/
theorem wpList_copyE2 (s x : Operand) (hgd : o.guard = none) (ho : o.op = .call { callee := .builtin .append, args := #[s, x], argTypes := #[25, 25] }) {B : Nat} (base : Nat) (w : World) (A : Option Addr) (xs : List Int) (c : Nat)
    (hv : a.eval s = .slice (some ⟨w.heap.size, 0, none⟩) 0 0) (hx : a.eval x = .slice A xs.length c) (hsrc : Hid (Ints B w A xs)) (hB : B ≤ w.heap.size) (hl : xs.length ≤ 1000000) (hb : base ≤ w.heap.size)
    (h : ∀ A' c' w', Hid (OwnI base w' (.slice A' xs.length c') xs) → Hid (Below base w w') → wpList Try.prog ops Q rest (a.put o.dst (.slice A' xs.length c')) w') :
    wpList Try.prog ops Q (o :: rest) a (w.alloc (.cells #[] 3)) := by
  obtain ⟨i0, hi, hz0, hz1, hz2⟩ := info_parts infoInt
  have hs : Src (w.alloc (.cells #[] 3)) 1 A xs.length (xs.map (Value.int .i64)) := (hsrc.out.alloc hB _).isrc
  refine wpList_append_src hgd s x 25 ho base 3 i0 (.int .i64 0) 1 8 Try.underlying25 hi hz0 hz1 hz2 rfl (by decide) _ 0 [] hv (OwnI.empty2 hb) A xs.length c _ hx hs (one_ints xs) (by unfold maxLen; omega) (by omega) (by simp; omega) ?_
  intro v' w' h1 h2 _
  rw [List.nil_append, Nat.zero_add] at h1
  obtain ⟨A', c', rfl⟩ := ownsRow_form h1
  refine h A' c' w' h1 ?_
  exact ((Below.refl base w).alloc hb _).grown h2 (by simp; omega) (fun k e => by injection e with e; subst e; exact hb)
end
theorem sty67 : STy 67 25 := by
  obtain ⟨i, a, b, c, d⟩ := info_parts infoInts
  exact ⟨Try.underlying67, i, a, b, c, d⟩
/-- A new own list of lists, whose elements lie from lo on. -/
def NewRs {α : Type} (Rd : World → Value → α → Prop) (e : TypeId) (lo : Nat) (w : World) (xs : List α) (en : Ending) (w' : World) : Prop := ∃ A c, en = .returned (.slice A xs.length c) ∧ Rs Rd e w.heap.size lo w' (.slice A xs.length c) xs ∧ Below w.heap.size w w'
theorem boardsC_len (x : Rg) : (boardsC x).length = (x.hi - x.lo + 1).toNat := by simp [boardsC]
theorem bL_len {ball : List Rg} (hrg : ∀ k, k < ball.length → (gx ball k).hi - (gx ball k).lo ≤ 8) : ∀ m bg, bg.length + m = ball.length → (bL ball m bg).length ≤ 9 ^ m
  | 0, bg, _ => by simp [bL]
  | m + 1, bg, h => by
    rw [bL, List.length_flatMap]
    have h1 : (boardsC (gx ball bg.length)).length ≤ 9 := by
      have := hrg bg.length (by omega)
      rw [boardsC_len]; omega
    have h2 : ∀ l : List Int, (l.map fun n => (bL ball m (bg ++ [n])).length).sum ≤ l.length * 9 ^ m := by
      intro l
      induction l with
      | nil => simp
      | cons x l ih =>
        have := bL_len hrg m (bg ++ [x]) (by simp; omega)
        rw [List.map_cons, List.sum_cons, List.length_cons, Nat.add_mul]
        omega
    refine Nat.le_trans (h2 _) ?_
    rw [Nat.pow_succ, Nat.mul_comm (9 ^ m)]
    exact Nat.mul_le_mul_right _ h1
/-- Those of the first j boards. -/
def partB (ball : List Rg) (m : Nat) (bg : List Int) (j : Nat) : List (List Int) := ((boardsC (gx ball bg.length)).take j).flatMap fun n => bL ball m (bg ++ [n])
theorem partB_succ {ball : List Rg} {m : Nat} {bg : List Int} {j : Nat} (hj : j < (boardsC (gx ball bg.length)).length) : partB ball m bg (j + 1) = partB ball m bg j ++ bL ball m (bg ++ [(gx ball bg.length).lo + (j : Int)]) := by
  unfold partB
  rw [List.take_succ_eq_append_getElem hj, List.flatMap_append]
  congr 1
  have : (boardsC (gx ball bg.length))[j] = (gx ball bg.length).lo + (j : Int) := by simp [boardsC]
  rw [this]
  simp
theorem partB_all {ball : List Rg} {m : Nat} {bg : List Int} : partB ball m bg (boardsC (gx ball bg.length)).length = bL ball (m + 1) bg := by
  unfold partB
  rw [List.take_length]
  rfl
theorem flatLen {α β : Type} (f : α → List β) (l : List α) (j : Nat) : ((l.take j).flatMap f).length ≤ (l.flatMap f).length := by
  conv => rhs; rw [← List.take_append_drop j l]
  rw [List.flatMap_append, List.length_append]
  omega
theorem blk_own {w : World} {base : Nat} {A : Option Addr} {n c : Nat} {xs : List Int} (h : OwnI base w (.slice A n c) xs) : ∀ b, blkOf (.slice A n c) = some b → base ≤ b := by
  obtain ⟨A', c', e⟩ := h.form
  injection e with e1 e2 e3
  subst e1 e2 e3
  exact (rdI_own h).2
set_option maxRecDepth 100000 in
set_option maxHeartbeats 8000000 in
theorem boards70_c (Ab : Option Addr) (cb : Nat) (ball : List Rg) (hcb : ball.length ≤ cb ∧ cb ≤ 9223372036854775807) (hb4 : ball.length ≤ 4) (hrg : ∀ k, k < ball.length → 0 ≤ (gx ball k).lo ∧ (gx ball k).lo ≤ (gx ball k).hi ∧ (gx ball k).hi ≤ 60 ∧ (gx ball k).hi - (gx ball k).lo ≤ 8) :
    ∀ (m : Nat) (bg : List Int) (A : Option Addr) (c lo : Nat) (w : World), bg.length + m = ball.length → Rgs w.heap.size w Ab ball → Ints w.heap.size w A bg → bg.length ≤ c ∧ c ≤ 9223372036854775807 → (∀ b, blkOf (.slice A bg.length c) = some b → lo ≤ b) → lo ≤ w.heap.size →
    Calls Try.prog 70 #[.slice Ab ball.length cb, .slice A bg.length c] w (NewRs RdI 25 lo w (bL ball m bg))
  | 0, bg, A, c, lo, w, hm, hball, hx, hc, hlo, hlw => by
    have q1 : ((bg.length : Int) == (ball.length : Int)) = true := by simp; omega
    have HX : Hid (RdI w (.slice A bg.length c) bg) := ⟨A, c, rfl, hc.1, hc.2, hx⟩
    have HLO := Lib.hid hlo
    clear hball hx hlo hm
    go_enter Try.func70, Try.ntmps70
    go_wp2_with fail
    go_ret
    exact ⟨_, _, rfl, Rs.lit (Nat.le_refl _) rdI HX.out HLO.out, (Below.refl _ _).alloc (Nat.le_refl _) _⟩
  | m + 1, bg, A, c, lo, w, hm, hball, hx, hc, hlo, hlw => by
    have hblt : bg.length < ball.length := by omega
    have q1 : ((bg.length : Int) == (ball.length : Int)) = false := by simp; omega
    have q2 : (bg.length : Int) < (ball.length : Int) := by omega
    have q3 : (0 : Int) ≤ (bg.length : Int) := by omega
    obtain ⟨h0, h1, h2, h3⟩ := hrg _ hblt
    have HIH : Hid (∀ (n : Int) (A' : Option Addr) (c' : Nat) (lo' : Nat) (W : World), Rgs W.heap.size W Ab ball → OwnI lo' W (.slice A' (bg.length + 1) c') (bg ++ [n]) → lo' ≤ W.heap.size → Calls Try.prog 70 #[.slice Ab ball.length cb, .slice A' (bg.length + 1) c'] W (NewRs RdI 25 lo' W (bL ball m (bg ++ [n])))) := fun n A' c' lo' W k1 k2 k3 => by
      have hl : (bg ++ [n]).length = bg.length + 1 := by simp
      have k4 := blk_own k2
      obtain ⟨k5, k6, k7⟩ := isInts_parts k2.isInts
      have := boards70_c Ab cb ball hcb hb4 hrg m (bg ++ [n]) A' c' lo' W (by simp; omega) k1 k7 ⟨k5, k6⟩ (by rw [hl]; exact k4) k3
      rwa [hl] at this
    have HPS : Hid (∀ j, j < (boardsC (gx ball bg.length)).length → partB ball m bg (j + 1) = partB ball m bg j ++ bL ball m (bg ++ [(gx ball bg.length).lo + (j : Int)])) := fun j hj => partB_succ hj
    have HPA : Hid (partB ball m bg (boardsC (gx ball bg.length)).length = bL ball (m + 1) bg) := partB_all
    have HPL : Hid (∀ j, (partB ball m bg j).length ≤ 6561) := fun j => by
      have a := bL_len (fun k hk => (hrg k hk).2.2.2) (m + 1) bg hm
      have b : (partB ball m bg j).length ≤ (bL ball (m + 1) bg).length := flatLen _ _ j
      have : 9 ^ (m + 1) ≤ 9 ^ 4 := Nat.pow_le_pow_right (by omega) (by omega)
      have : 9 ^ 4 = 6561 := rfl
      omega
    have HP0 : Hid (partB ball m bg 0 = []) := rfl
    have HCL : Hid ((boardsC (gx ball bg.length)).length = ((gx ball bg.length).hi - (gx ball bg.length).lo + 1).toNat) := boardsC_len _
    have HBa := Lib.hid hball
    have HX := Lib.hid hx
    clear hball hx hlo hrg
    have HB := Lib.hid (Below.refl w.heap.size w)
    obtain ⟨b, off, rfl, hb0, c1, c2⟩ := HBa.out.at_ hblt
    generalize (boardsC (gx ball bg.length)).length = cnt at *
    generalize bL ball (m + 1) bg = all at *
    generalize partB ball m bg = part at *
    obtain ⟨F, hF⟩ : ∃ F, F = fun n => bL ball m (bg ++ [n]) := ⟨_, rfl⟩
    have HIH2 : Hid (∀ (n : Int) (A' : Option Addr) (c' : Nat) (lo' : Nat) (W : World), Rgs W.heap.size W (some ⟨b, off, none⟩) ball → OwnI lo' W (.slice A' (bg.length + 1) c') (bg ++ [n]) → lo' ≤ W.heap.size → Calls Try.prog 70 #[.slice (some ⟨b, off, none⟩) ball.length cb, .slice A' (bg.length + 1) c'] W (NewRs RdI 25 lo' W (F n))) := by rw [hF]; exact HIH
    have HPS2 : Hid (∀ j, j < cnt → part (j + 1) = part j ++ F ((gx ball bg.length).lo + (j : Int))) := by rw [hF]; exact HPS
    clear HIH HPS hF
    generalize (gx ball bg.length).lo = g0 at *
    generalize (gx ball bg.length).hi = g1 at *
    have hcnt : (cnt : Int) = g1 - g0 + 1 := by have := HCL.out; omega
    clear HCL
    go_enter Try.func70, Try.ntmps70
    go_wp2_with fail
    go_loopw [5, 6] (fun v n wr => ∃ (j : Nat) (A' : Option Addr) (c' : Nat), j ≤ cnt ∧ n = .int .i64 (g0 + (j : Int)) ∧ v = .slice A' (part j).length c' ∧ Rs RdI 25 w.heap.size lo wr (.slice A' (part j).length c') (part j) ∧ Below w.heap.size w wr) (fun _ n _ => (g1 + 1 - intOf n).toNat)
    case atStart => exact ⟨0, none, 0, by omega, by simp, by rw [HP0.out]; rfl, by rw [HP0.out]; exact Rs.nil, Below.refl _ _⟩
    case round =>
      obtain ⟨j, A', c', hj, rfl, rfl, hrs, hb⟩ := hrel
      have HRS := Lib.hid hrs
      have HBR := Lib.hid hb
      replace c1 := cell_of_ans hb c1
      replace c2 := cell_of_ans hb c2
      have HBal := Lib.hid (HBa.out.step hb)
      have HXr := Lib.hid (HX.out.below hb)
      have hwr := hb.size
      clear hrs hb
      by_cases hjl : j < cnt
      · have q4 : g0 + (j : Int) ≤ g1 := by omega
        have hbgl : bg.length ≤ 1000000 := by omega
        have hwi : IntKind.i64.wrap (g0 + (j : Int) + 1) = g0 + (j : Int) + 1 := IntWalk.i64_in _ (by omega)
        go_wp2_with (first | (at_builtin; refine wpList_copyE2 (.tmp 32) (.tmp 33) rfl rfl wr.heap.size wr A bg c rfl rfl HXr (by omega) hbgl (Nat.le_refl _) ?_; intro A0 c0 w0 HO0 HB0) | (at_builtin; refine wpList_app_int (.tmp 34) (.tmp 36) rfl rfl wr.heap.size w0 _ bg (g0 + (j : Int)) rfl rfl HO0 hbgl HB0.out.size ?_; intro A1 c1' w1 HO1 HB1))
        have HBw : Hid (Below wr.heap.size wr w1) := HB0.out.trans HB1.out
        have HLL := Lib.hid (HPL.out j)
        have HLM := Lib.hid (HPL.out (j + 1))
        have HPJ := Lib.hid (HPS2.out j hjl)
        have hwl := HBw.out.size
        refine (HIH2.out (g0 + (j : Int)) A1 c1' wr.heap.size w1 (HBal.out.step HBw.out) HO1.out hwl).mono ?_
        rintro e w2 ⟨A2, c2', rfl, hrs2, hb2⟩
        have HRS2 := Lib.hid hrs2
        have HB2 : Hid (Below wr.heap.size wr w2) := HBw.out.trans (hb2.mono hwl)
        clear hrs2 hb2 HO0 HB0 HO1 HB1 HBw hwl HPS2 HIH2
        generalize F (g0 + (j : Int)) = Fn at *
        have hlen : (part j).length + Fn.length ≤ 1000000 := by
          have h := HLM.out
          rw [HPJ.out, List.length_append] at h
          omega
        go_wp2_with (at_builtin; refine wpList_appRs rdI sty67 (.tmp 30) (.tmp 38) rfl rfl (w0 := wr) rfl rfl HRS HB2 hwr HRS2 (Nat.le_refl _) (by omega) hlen ?_; intro A3 c3 w3 HRS3 HB3)
        go_roundw
        case rel => exact ⟨j + 1, A3, c3, by omega, by congr 1; omega, by rw [HPJ.out, List.length_append], by rw [HPJ.out, List.length_append]; exact HRS3.out, HBR.out.trans HB3.out⟩
        case measure => simp [intOf]; omega
      · obtain rfl : j = cnt := by omega
        have q4 : ¬ g0 + (j : Int) ≤ g1 := by omega
        rw [HPA.out] at HRS ⊢
        go_wp2_with fail
        go_ret
        exact ⟨A', c', rfl, HRS.out, HBR.out⟩
end

section

open Go.RowKit
set_option linter.unusedSimpArgs false
set_option linter.unusedVariables false

attribute [local go_sem] Oper.semAt_some
theorem infoB122 : (Try.prog.info? 71).map (fun i => (i.zero, i.size, i.bytes)) = some (some (.slice none 0 0), 1, 24) := by kernel_rfl
theorem sty122 : STy 122 71 := by
  obtain ⟨i, a, b, c, d⟩ := info_parts infoB122
  exact ⟨by kernel_rfl, i, a, b, c, d⟩
/-- Readings as bools. -/
def RdB (w : World) (u : Value) (xs : List Bool) : Prop := ∃ A c, u = .slice A xs.length c ∧ xs.length ≤ c ∧ c ≤ 9223372036854775807 ∧ Bls w.heap.size w A xs
theorem rdB : RdK RdB where
  frame := by
    rintro w w' u xs ⟨A, c, rfl, h1, h2, h3⟩ hf
    refine ⟨A, c, rfl, h1, h2, fun hp => ?_⟩
    obtain ⟨b, off, rfl, hb, hc⟩ := h3 hp
    have hs : w'.heap[b]? = w.heap[b]? := hf b (by
      obtain ⟨n, hn⟩ : ∃ n, xs.length = n + 1 := ⟨xs.length - 1, by omega⟩
      rw [hn]; rfl)
    exact ⟨b, off, rfl, heap_same_lt hs hb, fun k hk => (cell_same hs).trans (hc k hk)⟩
  lt := by
    rintro w u xs b ⟨A, c, rfl, h1, h2, h3⟩ hb
    obtain ⟨n, hn⟩ | h0 : (∃ n, xs.length = n + 1) ∨ xs.length = 0 := by
      rcases xs.length with _ | n
      · exact .inr rfl
      · exact .inl ⟨n, rfl⟩
    · obtain ⟨b', off, rfl, hb', _⟩ := h3 (by omega)
      rw [hn] at hb
      have hb2 : b' = b := by injection hb
      omega
    · rw [h0] at hb
      cases A <;> cases hb
  sl := by
    rintro w u xs ⟨A, c, rfl, -⟩
    exact ⟨_, _, _, rfl⟩
theorem blk_ownB {w : World} {base : Nat} {A : Option Addr} {n c : Nat} {xs : List Bool} (h : OwnB 4 base w (.slice A n c) xs) : ∀ b, blkOf (.slice A n c) = some b → base ≤ b := by
  intro b hb
  rcases h.2 with ⟨e, h0⟩ | ⟨g, cap, cur, e, h1, _⟩
  · rw [e] at hb; cases hb
  · rw [e] at hb
    rcases hx : xs.length with _ | n
    · rw [hx] at hb; cases hb
    · rw [hx] at hb
      injection hb with hb
      subst hb
      exact h1
theorem OwnB.empty {base : Nat} {w : World} (h : base ≤ w.heap.size) : OwnB 4 base (w.alloc (.cells #[] 4)) (.slice (some ⟨w.heap.size, 0, none⟩) 0 0) [] :=
  ⟨rfl, .inr ⟨w.heap.size, 0, #[], rfl, h, World.alloc_heap_new _ _, Nat.le_refl _, by unfold maxLen; omega, rfl, rfl⟩⟩
theorem lit_srcB {w : World} {q : Nat} {v : Bool} (h : w.cell? ⟨q, 0, none⟩ = some (.bool v)) : Src w 1 (some ⟨q, 0, none⟩) 1 (flatB [v]) := by
  refine ⟨rfl, (fun h => by cases h), fun ad hA j u hu => ?_⟩
  injection hA with hA
  subst hA
  rw [add_eq]
  rcases j with _ | j <;> simp [flatB, cellsB] at hu
  subst hu
  exact h
theorem grown_cell {w w' : World} {r : Option Nat} {q i : Nat} {v : Value} (hg : w.grownBy w' r) (hq : q < w.heap.size) (hne : r ≠ some q) (h : w.cell? ⟨q, i, none⟩ = some v) : w'.cell? ⟨q, i, none⟩ = some v := by
  rw [cell_same (hg.block q hq (fun e => hne e.symm))]
  exact h
section
variable {ops : Array Oper} {o : Oper} {a : Act} {K : Act → World → Prop} {Q : Exit → Act → World → Prop} {E : Prop}
theorem step_appB2 (s y : Operand) (hgd : o.guard = none) (ho : o.op = .call { callee := .builtin .append, args := #[s, y], argTypes := #[71, 71] }) (base : Nat) (w : World) (u : Value) (ls : List Bool) (A : Option Addr) (n c : Nat) (bs : List Bool) (m : Nat)
    (hv : a.eval s = u) (hx : a.eval y = .slice A n c) (hown : Hid (OwnB 4 base w u ls)) (hsrc : Hid (Src w 1 A n (flatB bs))) (hm : ls.length + n = m) (hn : n = bs.length) (hl : m ≤ 1000000) (hb : base ≤ w.heap.size)
    (hK : ∀ A' c' w', Hid (OwnB 4 base w' (.slice A' m c') (ls ++ bs)) → Hid (w.grownBy w' u.ownBlock) → K (a.put o.dst (.slice A' m c')) w') :
    if Region.wanted o (yielded ops a.tmps) = true then Oper.wp Try.prog o a w K Q else E := by
  rw [if_pos (by simp [Region.wanted, hgd])]
  subst hm hn
  obtain ⟨hu, i, hi, hz, hz1, hz2⟩ := tyB (t := 71) (e := 4) ⟨rfl, rfl⟩
  have hO : w.ownsRow base 4 1 u ls.length (flatB ls) := hown.out
  obtain ⟨u', w', hr, h1, h2, h3⟩ := run_append_src (P := Try.prog) (w := w) base 71 o.type 4 i _ 1 1 hu hi hz hz1 hz2 rfl (by decide) u ls.length (flatB ls) hO A bs.length c (flatB bs) hsrc.out (one_flatB bs) (by unfold maxLen; omega) (by omega) hb
  obtain ⟨A', c', rfl⟩ := ownsRow_form h1
  unfold Oper.wp execOp
  simp only [ho, resolve, invoke, builtin, Sem.run_bind, Sem.run_pure, Result.andThen_ok, List.map_toArray, List.map_cons, List.map_nil, hv, hx, hr]
  refine hK A' c' w' ?_ h2
  show OwnB _ _ _ _ _
  unfold OwnB
  rw [flatB_append, List.length_append]
  exact h1
end
theorem cL_len {ls : List Lk} : ∀ m bg, (cL ls m bg).length ≤ 2 ^ m
  | 0, bg => by simp [cL]
  | m + 1, bg => by
    have h1 := cL_len (ls := ls) m (bg ++ [true])
    have h2 := cL_len (ls := ls) m (bg ++ [false])
    rw [cL, List.length_append, Nat.pow_succ]
    split
    · simp; omega
    · omega
set_option maxRecDepth 100000 in
set_option maxHeartbeats 16000000 in
theorem carries71_c (r : Rk) (A0 : Option Addr) (c0 : Nat) (hc0 : r.links.length ≤ c0 ∧ c0 ≤ 9223372036854775807) (hl12 : r.links.length ≤ 12) :
    ∀ (m : Nat) (bg : List Bool) (A : Option Addr) (c lo : Nat) (w : World), bg.length + m = r.links.length → Lks w.heap.size w A0 r.links → Bls w.heap.size w A bg → bg.length ≤ c ∧ c ≤ 9223372036854775807 → (∀ b, blkOf (.slice A bg.length c) = some b → lo ≤ b) → lo ≤ w.heap.size →
    Calls Try.prog 71 #[.agg #[.int .i64 r.rows, .int .i64 r.mid, .int .i64 r.gap, .int .i64 r.reach, .slice A0 r.links.length c0], .slice A bg.length c] w (NewRs RdB 71 lo w (cL r.links m bg))
  | 0, bg, A, c, lo, w, hm, hl, hx, hc, hlo, hlw => by
    have q1 : ((bg.length : Int) == (r.links.length : Int)) = true := by simp; omega
    have HX : Hid (RdB w (.slice A bg.length c) bg) := ⟨A, c, rfl, hc.1, hc.2, hx⟩
    have HLO := Lib.hid hlo
    clear hl hx hlo hm
    have HBX : Hid (Below w.heap.size w (w.alloc (.cells #[.int .i64 r.rows, .int .i64 r.mid, .int .i64 r.gap, .int .i64 r.reach, .slice A0 r.links.length c0] 24))) := (Below.refl _ _).alloc (Nat.le_refl _) _
    have HXa : Hid (RdB (w.alloc (.cells #[.int .i64 r.rows, .int .i64 r.mid, .int .i64 r.gap, .int .i64 r.reach, .slice A0 r.links.length c0] 24)) (.slice A bg.length c) bg) := rdB.frame HX.out fun b hb => Below.heap_alloc w _ b (rdB.lt HX.out hb)
    have hsz : (w.alloc (.cells #[.int .i64 r.rows, .int .i64 r.mid, .int .i64 r.gap, .int .i64 r.reach, .slice A0 r.links.length c0] 24)).heap.size = w.heap.size + 1 := by simp
    go_enter Try.func71, Try.ntmps71
    go_wp2_with fail
    generalize (w.alloc (.cells #[.int .i64 r.rows, .int .i64 r.mid, .int .i64 r.gap, .int .i64 r.reach, .slice A0 r.links.length c0] 24)) = x1 at *
    have hz := HBX.out.size
    go_ret
    refine ⟨some ⟨w.heap.size + 1, 0, none⟩, 1, rfl, ?_, HBX.out.alloc hz _⟩
    rw [← hsz]
    exact Rs.lit hz rdB HXa.out HLO.out
  | m + 1, bg, A, c, lo, w, hm, hl, hx, hc, hlo, hlw => by
    have HB := Lib.hid (Below.refl w.heap.size w)
    have HL := Lib.hid hl
    have HX := Lib.hid hx
    clear hl hx
    have hblt : bg.length < r.links.length := by omega
    have q1 : ((bg.length : Int) == (r.links.length : Int)) = false := by simp; omega
    have q2 : (bg.length : Int) < (r.links.length : Int) := by omega
    have HIH : Hid (∀ (v : Bool) (A' : Option Addr) (c' : Nat) (lo' : Nat) (W : World), Lks W.heap.size W A0 r.links → OwnB 4 lo' W (.slice A' (bg.length + 1) c') (bg ++ [v]) → lo' ≤ W.heap.size → Calls Try.prog 71 #[.agg #[.int .i64 r.rows, .int .i64 r.mid, .int .i64 r.gap, .int .i64 r.reach, .slice A0 r.links.length c0], .slice A' (bg.length + 1) c'] W (NewRs RdB 71 lo' W (cL r.links m (bg ++ [v])))) := fun v A' c' lo' W k1 k2 k3 => by
      have hl : (bg ++ [v]).length = bg.length + 1 := by simp
      have k4 := blk_ownB k2
      have k2' : OwnB 4 lo' W (.slice A' (bg ++ [v]).length c') (bg ++ [v]) := by rw [hl]; exact k2
      obtain ⟨k5, k6, k7⟩ := k2'.parts
      have := carries71_c r A0 c0 hc0 hl12 m (bg ++ [v]) A' c' lo' W (by simp; omega) k1 k7 ⟨k5, k6⟩ (by rw [hl]; exact k4) k3
      rwa [hl] at this
    have HCL : Hid (cL r.links (m + 1) bg = cL r.links m (bg ++ [true]) ++ (if (lx r.links bg.length).s then [] else cL r.links m (bg ++ [false]))) := rfl
    have HCN : Hid (∀ v, (cL r.links m (bg ++ [v])).length ≤ 2048) := fun v => by
      have := cL_len (ls := r.links) m (bg ++ [v])
      have h2 : 2 ^ m ≤ 2 ^ 11 := Nat.pow_le_pow_right (by omega) (by omega)
      have : 2 ^ 11 = 2048 := rfl
      omega
    have hbgl : bg.length ≤ 12 := by omega
    clear hlo
    generalize cL r.links (m + 1) bg = all at *
    obtain ⟨F, hF⟩ : ∃ F, F = fun v => cL r.links m (bg ++ [v]) := ⟨_, rfl⟩
    have HIH2 : Hid (∀ (v : Bool) (A' : Option Addr) (c' : Nat) (lo' : Nat) (W : World), Lks W.heap.size W A0 r.links → OwnB 4 lo' W (.slice A' (bg.length + 1) c') (bg ++ [v]) → lo' ≤ W.heap.size → Calls Try.prog 71 #[.agg #[.int .i64 r.rows, .int .i64 r.mid, .int .i64 r.gap, .int .i64 r.reach, .slice A0 r.links.length c0], .slice A' (bg.length + 1) c'] W (NewRs RdB 71 lo' W (F v))) := by rw [hF]; exact HIH
    have HCL2 : Hid (all = F true ++ (if (lx r.links bg.length).s then [] else F false)) := by rw [hF]; exact HCL
    have HCN2 : Hid (∀ v, (F v).length ≤ 2048) := by rw [hF]; exact HCN
    clear HIH HCL HCN hF
    have hb : Below w.heap.size w (w.alloc (.cells #[.int .i64 r.rows, .int .i64 r.mid, .int .i64 r.gap, .int .i64 r.reach, .slice A0 r.links.length c0] 24)) := (Below.refl _ _).alloc (Nat.le_refl _) _
    replace HL := Lib.hid (HL.out.step hb)
    replace HX := Lib.hid (HX.out.step hb)
    replace HB := Lib.hid (HB.out.trans (hb.mono HB.out.size))
    clear hb
    have k0 : (w.alloc (.cells #[.int .i64 r.rows, .int .i64 r.mid, .int .i64 r.gap, .int .i64 r.reach, .slice A0 r.links.length c0] 24)).cell? ⟨w.heap.size, 0, none⟩ = some (.int .i64 r.rows) := by simp
    have k1 : (w.alloc (.cells #[.int .i64 r.rows, .int .i64 r.mid, .int .i64 r.gap, .int .i64 r.reach, .slice A0 r.links.length c0] 24)).cell? ⟨w.heap.size, 1, none⟩ = some (.int .i64 r.mid) := by simp
    have k2 : (w.alloc (.cells #[.int .i64 r.rows, .int .i64 r.mid, .int .i64 r.gap, .int .i64 r.reach, .slice A0 r.links.length c0] 24)).cell? ⟨w.heap.size, 2, none⟩ = some (.int .i64 r.gap) := by simp
    have k3 : (w.alloc (.cells #[.int .i64 r.rows, .int .i64 r.mid, .int .i64 r.gap, .int .i64 r.reach, .slice A0 r.links.length c0] 24)).cell? ⟨w.heap.size, 3, none⟩ = some (.int .i64 r.reach) := by simp
    have k4 : (w.alloc (.cells #[.int .i64 r.rows, .int .i64 r.mid, .int .i64 r.gap, .int .i64 r.reach, .slice A0 r.links.length c0] 24)).cell? ⟨w.heap.size, 4, none⟩ = some (.slice A0 r.links.length c0) := by simp
    go_enter Try.func71, Try.ntmps71
    go_wp2_with fail
    generalize (w.alloc (.cells #[.int .i64 r.rows, .int .i64 r.mid, .int .i64 r.gap, .int .i64 r.reach, .slice A0 r.links.length c0] 24)) = x1 at *
    have ltk0 := World.block_lt_of_cell? _ _ k0
    dsimp only at ltk0
    obtain ⟨n0, hn0⟩ : ∃ n0, n0 = x1.heap.size := ⟨_, rfl⟩
    have hlw2 : w.heap.size ≤ n0 := by rw [hn0]; exact HB.out.size
    have hlw1 : lo ≤ n0 := by omega
    have hnx : n0 ≤ x1.heap.size := by omega
    have HN := Lib.hid hn0
    clear hn0
    refine wp_region_noPanic ?_
    have hS : (fun W' : World => Below n0 x1 W') x1.drew := (by rw [HN.out]; exact (Below.refl _ _).drew)
    refine wp_region_any (by kernel_rfl) (wpAny_of_T (S := fun W' : World => Below n0 x1 W') (m := 7) _ _ _ _ ?_)
    refine' T_take (i := 0) (v := _) rfl (by kernel_rfl) (by kernel_rfl) (by kernel_rfl) (by kernel_rfl) (fun _ _ _ h => h) (by kernel_rfl) hS ?_ ?_
    rotate_left 1
    · intro Wv hW
      replace k0 := cell_of_ans (HN.out ▸ hW) k0
      replace k1 := cell_of_ans (HN.out ▸ hW) k1
      replace k2 := cell_of_ans (HN.out ▸ hW) k2
      replace k3 := cell_of_ans (HN.out ▸ hW) k3
      replace k4 := cell_of_ans (HN.out ▸ hW) k4
      go_simp
      first | done | with_reducible rfl | omega
    try simp only [Act.put, List.setIfInBounds_toArray, List.set_cons_zero, List.set_cons_succ]
    refine' T_take (i := 2) (v := _) rfl (by kernel_rfl) (by kernel_rfl) (by kernel_rfl) (by kernel_rfl) (fun _ _ _ h => h) (by kernel_rfl) hS ?_ ?_
    rotate_left 1
    · intro Wv hW
      replace k0 := cell_of_ans (HN.out ▸ hW) k0
      replace k1 := cell_of_ans (HN.out ▸ hW) k1
      replace k2 := cell_of_ans (HN.out ▸ hW) k2
      replace k3 := cell_of_ans (HN.out ▸ hW) k3
      replace k4 := cell_of_ans (HN.out ▸ hW) k4
      go_simp
      first | done | with_reducible rfl | omega
    try simp only [Act.put, List.setIfInBounds_toArray, List.set_cons_zero, List.set_cons_succ]
    refine T_ready (rs := [1, 4]) (by kernel_rfl) (by simp) ?_
    refine TReady.cons rfl (fun K hK => ?_) (TReady.cons rfl (fun K hK => ?_) TReady.nil)
    · try go_simp
      obtain ⟨e1, he1⟩ : ∃ e1, e1 = x1.heap.size := ⟨_, rfl⟩
      have HO : Hid (OwnB 4 (n0) ((x1.alloc (.cells #[] 4)).drew) (.slice (some ⟨e1, 0, none⟩) 0 0) []) := by rw [he1]; exact OwnB.empty (w := x1.drew) (by have := hS.size;  omega)
      refine hK.out _ _ (fun _ => hS.alloc (by have := hS.size; omega) _) (fun hS2 => ?_)
      replace hS := hS2 (by decide)
      clear hS2 hK K
      try simp only [Act.put, List.setIfInBounds_toArray, List.set_cons_zero, List.set_cons_succ]
      try simp only [← he1]
      generalize (x1.alloc (.cells #[] 4)).drew = v1 at *
      clear he1
      refine T_ready (rs := [3, 4]) (by kernel_rfl) (by simp) ?_
      refine TReady.cons rfl (fun K hK => ?_) (TReady.cons rfl (fun K hK => ?_) TReady.nil)
      · have HSR := Lib.hid ((HX.out.below (HN.out ▸ hS)).isrc)
        refine step_appB2 (.tmp 15) (.tmp 16) rfl rfl n0 v1 _ [] A bg.length c bg bg.length rfl rfl HO HSR (by simp) rfl (by omega) (by have := hS.size;  omega) ?_
        intro A3 c3 v2 HO3 HG3
        have hS2 : Below n0 x1 v2 := hS.grown HG3.out (by have := hS.size; omega) (fun k e => by have := (World.ownsRow.lt HO.out k e).1; omega)
        skip
        rw [List.nil_append] at HO3
        replace HO := HO3
        clear HSR HG3 HO3
        refine hK.out _ _ (fun _ => hS2) (fun _ => ?_)
        clear hK K hS
        have hS := hS2
        clear hS2
        try simp only [Act.put, List.setIfInBounds_toArray, List.set_cons_zero, List.set_cons_succ]
        refine T_ready (rs := [4]) (by kernel_rfl) (by simp) ?_
        refine TReady.cons rfl (fun K hK => ?_) TReady.nil
        try go_simp
        obtain ⟨q1, hq1⟩ : ∃ q1, q1 = v2.heap.size := ⟨_, rfl⟩
        have zl : (v2.alloc (.cells #[.bool true] 4)).cell? ⟨q1, 0, none⟩ = some (.bool true) := by rw [hq1]; simp
        have hql : q1 < (v2.alloc (.cells #[.bool true] 4)).heap.size := by rw [hq1]; simp
        replace HO := Lib.hid (HO.out.kept ((Below.refl v2.heap.size v2).alloc (Nat.le_refl _) (.cells #[.bool true] 4)))
        refine hK.out _ _ (fun _ => hS.alloc (by have := hS.size; omega) _) (fun hS2 => ?_)
        replace hS := hS2 (by decide)
        clear hS2 hK K
        try simp only [Act.put, List.setIfInBounds_toArray, List.set_cons_zero, List.set_cons_succ]
        try simp only [← hq1]
        generalize v2.alloc (.cells #[.bool true] 4) = v3 at *
        clear hq1
        refine T_ready (rs := [5]) (by kernel_rfl) (by simp) ?_
        refine TReady.cons rfl (fun K hK => ?_) TReady.nil
        have HSR := Lib.hid (lit_srcB zl)
        refine step_appB2 (.tmp 17) (.tmp 18) rfl rfl n0 v3 _ bg (some ⟨q1, 0, none⟩) 1 1 [true] (bg.length + 1) rfl rfl HO HSR rfl rfl (by omega) (by have := hS.size;  omega) ?_
        intro A5 c5 v4 HO5 HG5
        have hS2 : Below n0 x1 v4 := hS.grown HG5.out (by have := hS.size; omega) (fun k e => by have := (World.ownsRow.lt HO.out k e).1; omega)
        skip
        replace HO := HO5
        clear HSR HG5 HO5 zl hql
        refine hK.out _ _ (fun _ => hS2) (fun _ => ?_)
        clear hK K hS
        have hS := hS2
        clear hS2
        try simp only [Act.put, List.setIfInBounds_toArray, List.set_cons_zero, List.set_cons_succ]
        refine T_ready (rs := [6]) (by kernel_rfl) (by simp) ?_
        refine TReady.cons rfl (fun K hK => ?_) TReady.nil
        try go_simp
        refine (HIH2.out true A5 c5 n0 v4 (HL.out.step (HN.out ▸ hS)) HO.out (by have := hS.size; have := HN.out; omega)).mono ?_
        rintro e v9 ⟨A6, c6, rfl, hrs, hb⟩
        have hS2 : Below n0 x1 v9 := hS.trans (hb.mono (by have := hS.size; omega))
        have HRS := Lib.hid (hrs.lowBase (show n0 ≤ _ by have := hS.size; have := HN.out; omega))
        clear hrs hb HO
        refine hK.out _ _ (fun _ => hS2) (fun _ => ?_)
        clear hK K hS
        have hS := hS2
        clear hS2
        try simp only [Act.put, List.setIfInBounds_toArray, List.set_cons_zero, List.set_cons_succ]
        refine' T_take (i := 7) (v := _) rfl (by kernel_rfl) (by kernel_rfl) (by kernel_rfl) (by kernel_rfl) (fun _ _ _ h => h) (by kernel_rfl) hS ?_ ?_
        rotate_left 1
        · intro Wv hW
          replace k0 := cell_of_ans (HN.out ▸ hW) k0
          replace k1 := cell_of_ans (HN.out ▸ hW) k1
          replace k2 := cell_of_ans (HN.out ▸ hW) k2
          replace k3 := cell_of_ans (HN.out ▸ hW) k3
          replace k4 := cell_of_ans (HN.out ▸ hW) k4
          go_simp
          first | done | with_reducible rfl | omega
        try simp only [Act.put, List.setIfInBounds_toArray, List.set_cons_zero, List.set_cons_succ]
        refine T_done (by kernel_rfl) ?_ _
        refine NoPanic.normal ?_
        try go_simp
        replace hS : Below x1.heap.size x1 v9 := HN.out ▸ hS
        have HB9 : Hid (Below w.heap.size w v9) := HB.out.trans (hS.mono HB.out.size)
        have HL9 := Lib.hid (HL.out.step hS)
        have HX9 := Lib.hid (HX.out.step hS)
        have hs9 := hS.size
        replace k0 := cell_of_ans hS k0
        replace k1 := cell_of_ans hS k1
        replace k2 := cell_of_ans hS k2
        replace k3 := cell_of_ans hS k3
        replace k4 := cell_of_ans hS k4
        clear HL HX hS
        obtain ⟨b, off, rfl, hb0, c1, c2, c3⟩ := HL9.out.at_ hblt
        have ltb := World.block_lt_of_cell? _ _ k0
        dsimp only at ltb
        cases es : (lx r.links bg.length).s
        all_goals rw [es] at c3 HCL2
        · have HB0 := HB9.out.size
          obtain ⟨n9, hn9⟩ : ∃ n9, n9 = v9.heap.size := ⟨_, rfl⟩
          have hnx9 : n9 ≤ v9.heap.size := by omega
          have hw9 : n0 ≤ v9.heap.size := by have := HN.out; omega
          have hn09 : n0 ≤ n9 := by omega
          have HN9 := Lib.hid hn9
          clear hn9
          have HCF := Lib.hid (HCN2.out false)
          have HCT := Lib.hid (HCN2.out true)
          have HCE := Lib.hid HCL2.out
          clear es HCL2 HCN2
          generalize HFt : F true = Ft at *
          clear HFt
          go_upto_region 5 with fail
          have HSB : Hid (Below n9 v9 v9.drew) := (Below.refl _ _).drew
          refine wp_region_noPanic ?_
          have hS : (fun W' : World => Below n0 v9 W') v9.drew := (Below.refl _ _).drew
          refine wp_region_any (by kernel_rfl) (wpAny_of_T (S := fun W' : World => Below n0 v9 W') (m := 9) _ _ _ _ ?_)
          refine' T_take (i := 0) (v := _) rfl (by kernel_rfl) (by kernel_rfl) (by kernel_rfl) (by kernel_rfl) (fun _ _ _ h => h) (by kernel_rfl) hS ?_ ?_
          rotate_left 1
          · intro Wv hW
            replace k0 := (hW.cell (p := ⟨w.heap.size, 0, none⟩) (by dsimp only; have := HN.out; omega)).trans k0
            replace k1 := (hW.cell (p := ⟨w.heap.size, 1, none⟩) (by dsimp only; have := HN.out; omega)).trans k1
            replace k2 := (hW.cell (p := ⟨w.heap.size, 2, none⟩) (by dsimp only; have := HN.out; omega)).trans k2
            replace k3 := (hW.cell (p := ⟨w.heap.size, 3, none⟩) (by dsimp only; have := HN.out; omega)).trans k3
            replace k4 := (hW.cell (p := ⟨w.heap.size, 4, none⟩) (by dsimp only; have := HN.out; omega)).trans k4
            go_simp
            first | done | with_reducible rfl | omega
          try simp only [Act.put, List.setIfInBounds_toArray, List.set_cons_zero, List.set_cons_succ]
          refine' T_take (i := 1) (v := _) rfl (by kernel_rfl) (by kernel_rfl) (by kernel_rfl) (by kernel_rfl) (fun _ _ _ h => h) (by kernel_rfl) hS ?_ ?_
          rotate_left 1
          · intro Wv hW
            replace k0 := (hW.cell (p := ⟨w.heap.size, 0, none⟩) (by dsimp only; have := HN.out; omega)).trans k0
            replace k1 := (hW.cell (p := ⟨w.heap.size, 1, none⟩) (by dsimp only; have := HN.out; omega)).trans k1
            replace k2 := (hW.cell (p := ⟨w.heap.size, 2, none⟩) (by dsimp only; have := HN.out; omega)).trans k2
            replace k3 := (hW.cell (p := ⟨w.heap.size, 3, none⟩) (by dsimp only; have := HN.out; omega)).trans k3
            replace k4 := (hW.cell (p := ⟨w.heap.size, 4, none⟩) (by dsimp only; have := HN.out; omega)).trans k4
            go_simp
            first | done | with_reducible rfl | omega
          try simp only [Act.put, List.setIfInBounds_toArray, List.set_cons_zero, List.set_cons_succ]
          refine' T_take (i := 3) (v := _) rfl (by kernel_rfl) (by kernel_rfl) (by kernel_rfl) (by kernel_rfl) (fun _ _ _ h => h) (by kernel_rfl) hS ?_ ?_
          rotate_left 1
          · intro Wv hW
            replace k0 := (hW.cell (p := ⟨w.heap.size, 0, none⟩) (by dsimp only; have := HN.out; omega)).trans k0
            replace k1 := (hW.cell (p := ⟨w.heap.size, 1, none⟩) (by dsimp only; have := HN.out; omega)).trans k1
            replace k2 := (hW.cell (p := ⟨w.heap.size, 2, none⟩) (by dsimp only; have := HN.out; omega)).trans k2
            replace k3 := (hW.cell (p := ⟨w.heap.size, 3, none⟩) (by dsimp only; have := HN.out; omega)).trans k3
            replace k4 := (hW.cell (p := ⟨w.heap.size, 4, none⟩) (by dsimp only; have := HN.out; omega)).trans k4
            go_simp
            first | done | with_reducible rfl | omega
          try simp only [Act.put, List.setIfInBounds_toArray, List.set_cons_zero, List.set_cons_succ]
          refine T_ready (rs := [2, 5]) (by kernel_rfl) (by simp) ?_
          refine TReady.cons rfl (fun K hK => ?_) (TReady.cons rfl (fun K hK => ?_) TReady.nil)
          · try go_simp
            obtain ⟨e1, he1⟩ : ∃ e1, e1 = v9.heap.size := ⟨_, rfl⟩
            have HO : Hid (OwnB 4 (n9) ((v9.alloc (.cells #[] 4)).drew) (.slice (some ⟨e1, 0, none⟩) 0 0) []) := by rw [he1]; exact OwnB.empty (w := v9.drew) (by have := hS.size; have := HSB.out.size; omega)
            replace HSB : Hid (Below n9 v9 ((v9.alloc (.cells #[] 4)).drew)) := HSB.out.alloc (by have := HSB.out.size; omega) _
            refine hK.out _ _ (fun _ => hS.alloc (by have := hS.size; omega) _) (fun hS2 => ?_)
            replace hS := hS2 (by decide)
            clear hS2 hK K
            try simp only [Act.put, List.setIfInBounds_toArray, List.set_cons_zero, List.set_cons_succ]
            try simp only [← he1]
            generalize (v9.alloc (.cells #[] 4)).drew = y1 at *
            clear he1
            refine T_ready (rs := [4, 5]) (by kernel_rfl) (by simp) ?_
            refine TReady.cons rfl (fun K hK => ?_) (TReady.cons rfl (fun K hK => ?_) TReady.nil)
            · have HSR := Lib.hid ((HX9.out.below (HN9.out ▸ HSB.out)).isrc)
              refine step_appB2 (.tmp 31) (.tmp 32) rfl rfl n9 y1 _ [] A bg.length c bg bg.length rfl rfl HO HSR (by simp) rfl (by omega) (by have := hS.size; have := HSB.out.size; omega) ?_
              intro A3 c3 y2 HO3 HG3
              have hS2 : Below n0 v9 y2 := hS.grown HG3.out (by have := hS.size; omega) (fun k e => by have := (World.ownsRow.lt HO.out k e).1; omega)
              replace HSB : Hid (Below n9 v9 y2) := HSB.out.grown HG3.out (by have := HSB.out.size; omega) (fun k e => (World.ownsRow.lt HO.out k e).1)
              skip
              rw [List.nil_append] at HO3
              replace HO := HO3
              clear HSR HG3 HO3
              refine hK.out _ _ (fun _ => hS2) (fun _ => ?_)
              clear hK K hS
              have hS := hS2
              clear hS2
              try simp only [Act.put, List.setIfInBounds_toArray, List.set_cons_zero, List.set_cons_succ]
              refine T_ready (rs := [5]) (by kernel_rfl) (by simp) ?_
              refine TReady.cons rfl (fun K hK => ?_) TReady.nil
              try go_simp
              obtain ⟨q1, hq1⟩ : ∃ q1, q1 = y2.heap.size := ⟨_, rfl⟩
              have zl : (y2.alloc (.cells #[.bool false] 4)).cell? ⟨q1, 0, none⟩ = some (.bool false) := by rw [hq1]; simp
              have hql : q1 < (y2.alloc (.cells #[.bool false] 4)).heap.size := by rw [hq1]; simp
              replace HO := Lib.hid (HO.out.kept ((Below.refl y2.heap.size y2).alloc (Nat.le_refl _) (.cells #[.bool false] 4)))
              replace HSB : Hid (Below n9 v9 (y2.alloc (.cells #[.bool false] 4))) := HSB.out.alloc (by have := HSB.out.size; omega) _
              refine hK.out _ _ (fun _ => hS.alloc (by have := hS.size; omega) _) (fun hS2 => ?_)
              replace hS := hS2 (by decide)
              clear hS2 hK K
              try simp only [Act.put, List.setIfInBounds_toArray, List.set_cons_zero, List.set_cons_succ]
              try simp only [← hq1]
              generalize y2.alloc (.cells #[.bool false] 4) = y3 at *
              clear hq1
              refine T_ready (rs := [6]) (by kernel_rfl) (by simp) ?_
              refine TReady.cons rfl (fun K hK => ?_) TReady.nil
              have HSR := Lib.hid (lit_srcB zl)
              refine step_appB2 (.tmp 33) (.tmp 34) rfl rfl n9 y3 _ bg (some ⟨q1, 0, none⟩) 1 1 [false] (bg.length + 1) rfl rfl HO HSR rfl rfl (by omega) (by have := hS.size; have := HSB.out.size; omega) ?_
              intro A5 c5 y4 HO5 HG5
              have hS2 : Below n0 v9 y4 := hS.grown HG5.out (by have := hS.size; omega) (fun k e => by have := (World.ownsRow.lt HO.out k e).1; omega)
              replace HSB : Hid (Below n9 v9 y4) := HSB.out.grown HG5.out (by have := HSB.out.size; omega) (fun k e => (World.ownsRow.lt HO.out k e).1)
              skip
              replace HO := HO5
              clear HSR HG5 HO5 zl hql
              refine hK.out _ _ (fun _ => hS2) (fun _ => ?_)
              clear hK K hS
              have hS := hS2
              clear hS2
              try simp only [Act.put, List.setIfInBounds_toArray, List.set_cons_zero, List.set_cons_succ]
              refine T_ready (rs := [7]) (by kernel_rfl) (by simp) ?_
              refine TReady.cons rfl (fun K hK => ?_) TReady.nil
              try go_simp
              refine (HIH2.out false A5 c5 n9 y4 (HL9.out.step (HN9.out ▸ HSB.out)) HO.out (by have := HSB.out.size; omega)).mono ?_
              rintro e u9 ⟨A7, c7, rfl, hrs, hb⟩
              have hS2 : Below n0 v9 u9 := hS.trans (hb.mono (by have := hS.size; omega))
              have hS3 : Below n9 v9 u9 := HSB.out.trans (hb.mono (by have := HSB.out.size; omega))
              have HRT := Lib.hid hrs
              have HSS : Hid (Below v9.heap.size v9 u9) := by rw [← HN9.out]; exact hS3
              clear hrs hb HO hS3 HSB
              refine hK.out _ _ (fun _ => hS2) (fun _ => ?_)
              clear hK K hS
              have hS := hS2
              clear hS2
              try simp only [Act.put, List.setIfInBounds_toArray, List.set_cons_zero, List.set_cons_succ]
              refine T_ready (rs := [8]) (by kernel_rfl) (by simp) ?_
              refine TReady.cons rfl (fun K hK => ?_) TReady.nil
              refine step_appRs rdB sty122 (.tmp 29) (.tmp 36) rfl rfl (w0 := v9) rfl rfl HRS HSS hw9 HRT (by have := HN9.out; omega) hw9 (by have := HCF.out; have := HCT.out; omega) ?_
              intro A8 c8 t9 HR8 HB8
              refine hK.out _ _ (fun _ => HB8.out) (fun _ => ?_)
              clear hK K
              replace hS := HB8.out
              try simp only [Act.put, List.setIfInBounds_toArray, List.set_cons_zero, List.set_cons_succ]
              refine' T_take (i := 9) (v := _) rfl (by kernel_rfl) (by kernel_rfl) (by kernel_rfl) (by kernel_rfl) (fun _ _ _ h => h) (by kernel_rfl) hS ?_ ?_
              rotate_left 1
              · intro Wv hW
                replace k0 := (hW.cell (p := ⟨w.heap.size, 0, none⟩) (by dsimp only; have := HN.out; omega)).trans k0
                replace k1 := (hW.cell (p := ⟨w.heap.size, 1, none⟩) (by dsimp only; have := HN.out; omega)).trans k1
                replace k2 := (hW.cell (p := ⟨w.heap.size, 2, none⟩) (by dsimp only; have := HN.out; omega)).trans k2
                replace k3 := (hW.cell (p := ⟨w.heap.size, 3, none⟩) (by dsimp only; have := HN.out; omega)).trans k3
                replace k4 := (hW.cell (p := ⟨w.heap.size, 4, none⟩) (by dsimp only; have := HN.out; omega)).trans k4
                go_simp
                first | done | with_reducible rfl | omega
              try simp only [Act.put, List.setIfInBounds_toArray, List.set_cons_zero, List.set_cons_succ]
              refine T_done (by kernel_rfl) ?_ _
              refine NoPanic.normal ?_
              try go_simp
              have hbF : Below w.heap.size w t9 := HB9.out.trans (HB8.out.mono (by omega))
              have HBF := Lib.hid hbF
              clear hbF hS
              go_wp2_with fail
              go_ret
              have HE : all = Ft ++ F false := by rw [HCE.out]; simp
              have HEL : all.length = Ft.length + (F false).length := by rw [HE, List.length_append]
              refine ⟨A8, c8, by rw [HEL]; rfl, ?_, HBF.out⟩
              rw [HEL, HE]
              exact (HR8.out.low hlw1).lowBase hlw2
            · try go_simp
              obtain ⟨q1, hq1⟩ : ∃ q1, q1 = y1.heap.size := ⟨_, rfl⟩
              have zl : (y1.alloc (.cells #[.bool false] 4)).cell? ⟨q1, 0, none⟩ = some (.bool false) := by rw [hq1]; simp
              have hql : q1 < (y1.alloc (.cells #[.bool false] 4)).heap.size := by rw [hq1]; simp
              have hne : e1 ≠ q1 := by have h := (World.ownsRow.lt HO.out e1 rfl).2; omega
              replace HO := Lib.hid (HO.out.kept ((Below.refl y1.heap.size y1).alloc (Nat.le_refl _) (.cells #[.bool false] 4)))
              replace HSB : Hid (Below n9 v9 (y1.alloc (.cells #[.bool false] 4))) := HSB.out.alloc (by have := HSB.out.size; omega) _
              refine hK.out _ _ (fun _ => hS.alloc (by have := hS.size; omega) _) (fun hS2 => ?_)
              replace hS := hS2 (by decide)
              clear hS2 hK K
              try simp only [Act.put, List.setIfInBounds_toArray, List.set_cons_zero, List.set_cons_succ]
              try simp only [← hq1]
              generalize y1.alloc (.cells #[.bool false] 4) = y5 at *
              clear hq1
              refine T_ready (rs := [4]) (by kernel_rfl) (by simp) ?_
              refine TReady.cons rfl (fun K hK => ?_) TReady.nil
              have HSR := Lib.hid ((HX9.out.below (HN9.out ▸ HSB.out)).isrc)
              refine step_appB2 (.tmp 31) (.tmp 32) rfl rfl n9 y5 _ [] A bg.length c bg bg.length rfl rfl HO HSR (by simp) rfl (by omega) (by have := hS.size; have := HSB.out.size; omega) ?_
              intro A3 c3 y6 HO3 HG3
              have hS2 : Below n0 v9 y6 := hS.grown HG3.out (by have := hS.size; omega) (fun k e => by have := (World.ownsRow.lt HO.out k e).1; omega)
              replace HSB : Hid (Below n9 v9 y6) := HSB.out.grown HG3.out (by have := HSB.out.size; omega) (fun k e => (World.ownsRow.lt HO.out k e).1)
              skip
              replace zl := grown_cell HG3.out hql (fun e => hne (by injection e)) zl
              replace hql := Nat.lt_of_lt_of_le hql HG3.out.size
              clear hne
              rw [List.nil_append] at HO3
              replace HO := HO3
              clear HSR HG3 HO3
              refine hK.out _ _ (fun _ => hS2) (fun _ => ?_)
              clear hK K hS
              have hS := hS2
              clear hS2
              try simp only [Act.put, List.setIfInBounds_toArray, List.set_cons_zero, List.set_cons_succ]
              refine T_ready (rs := [6]) (by kernel_rfl) (by simp) ?_
              refine TReady.cons rfl (fun K hK => ?_) TReady.nil
              have HSR := Lib.hid (lit_srcB zl)
              refine step_appB2 (.tmp 33) (.tmp 34) rfl rfl n9 y6 _ bg (some ⟨q1, 0, none⟩) 1 1 [false] (bg.length + 1) rfl rfl HO HSR rfl rfl (by omega) (by have := hS.size; have := HSB.out.size; omega) ?_
              intro A5 c5 y7 HO5 HG5
              have hS2 : Below n0 v9 y7 := hS.grown HG5.out (by have := hS.size; omega) (fun k e => by have := (World.ownsRow.lt HO.out k e).1; omega)
              replace HSB : Hid (Below n9 v9 y7) := HSB.out.grown HG5.out (by have := HSB.out.size; omega) (fun k e => (World.ownsRow.lt HO.out k e).1)
              skip
              replace HO := HO5
              clear HSR HG5 HO5 zl hql
              refine hK.out _ _ (fun _ => hS2) (fun _ => ?_)
              clear hK K hS
              have hS := hS2
              clear hS2
              try simp only [Act.put, List.setIfInBounds_toArray, List.set_cons_zero, List.set_cons_succ]
              refine T_ready (rs := [7]) (by kernel_rfl) (by simp) ?_
              refine TReady.cons rfl (fun K hK => ?_) TReady.nil
              try go_simp
              refine (HIH2.out false A5 c5 n9 y7 (HL9.out.step (HN9.out ▸ HSB.out)) HO.out (by have := HSB.out.size; omega)).mono ?_
              rintro e u9 ⟨A7, c7, rfl, hrs, hb⟩
              have hS2 : Below n0 v9 u9 := hS.trans (hb.mono (by have := hS.size; omega))
              have hS3 : Below n9 v9 u9 := HSB.out.trans (hb.mono (by have := HSB.out.size; omega))
              have HRT := Lib.hid hrs
              have HSS : Hid (Below v9.heap.size v9 u9) := by rw [← HN9.out]; exact hS3
              clear hrs hb HO hS3 HSB
              refine hK.out _ _ (fun _ => hS2) (fun _ => ?_)
              clear hK K hS
              have hS := hS2
              clear hS2
              try simp only [Act.put, List.setIfInBounds_toArray, List.set_cons_zero, List.set_cons_succ]
              refine T_ready (rs := [8]) (by kernel_rfl) (by simp) ?_
              refine TReady.cons rfl (fun K hK => ?_) TReady.nil
              refine step_appRs rdB sty122 (.tmp 29) (.tmp 36) rfl rfl (w0 := v9) rfl rfl HRS HSS hw9 HRT (by have := HN9.out; omega) hw9 (by have := HCF.out; have := HCT.out; omega) ?_
              intro A8 c8 t9 HR8 HB8
              refine hK.out _ _ (fun _ => HB8.out) (fun _ => ?_)
              clear hK K
              replace hS := HB8.out
              try simp only [Act.put, List.setIfInBounds_toArray, List.set_cons_zero, List.set_cons_succ]
              refine' T_take (i := 9) (v := _) rfl (by kernel_rfl) (by kernel_rfl) (by kernel_rfl) (by kernel_rfl) (fun _ _ _ h => h) (by kernel_rfl) hS ?_ ?_
              rotate_left 1
              · intro Wv hW
                replace k0 := (hW.cell (p := ⟨w.heap.size, 0, none⟩) (by dsimp only; have := HN.out; omega)).trans k0
                replace k1 := (hW.cell (p := ⟨w.heap.size, 1, none⟩) (by dsimp only; have := HN.out; omega)).trans k1
                replace k2 := (hW.cell (p := ⟨w.heap.size, 2, none⟩) (by dsimp only; have := HN.out; omega)).trans k2
                replace k3 := (hW.cell (p := ⟨w.heap.size, 3, none⟩) (by dsimp only; have := HN.out; omega)).trans k3
                replace k4 := (hW.cell (p := ⟨w.heap.size, 4, none⟩) (by dsimp only; have := HN.out; omega)).trans k4
                go_simp
                first | done | with_reducible rfl | omega
              try simp only [Act.put, List.setIfInBounds_toArray, List.set_cons_zero, List.set_cons_succ]
              refine T_done (by kernel_rfl) ?_ _
              refine NoPanic.normal ?_
              try go_simp
              have hbF : Below w.heap.size w t9 := HB9.out.trans (HB8.out.mono (by omega))
              have HBF := Lib.hid hbF
              clear hbF hS
              go_wp2_with fail
              go_ret
              have HE : all = Ft ++ F false := by rw [HCE.out]; simp
              have HEL : all.length = Ft.length + (F false).length := by rw [HE, List.length_append]
              refine ⟨A8, c8, by rw [HEL]; rfl, ?_, HBF.out⟩
              rw [HEL, HE]
              exact (HR8.out.low hlw1).lowBase hlw2
          · try go_simp
            obtain ⟨q1, hq1⟩ : ∃ q1, q1 = v9.heap.size := ⟨_, rfl⟩
            have zl : ((v9.alloc (.cells #[.bool false] 4)).drew).cell? ⟨q1, 0, none⟩ = some (.bool false) := by rw [hq1]; simp
            have hql : q1 < ((v9.alloc (.cells #[.bool false] 4)).drew).heap.size := by rw [hq1]; simp
            replace HSB : Hid (Below n9 v9 ((v9.alloc (.cells #[.bool false] 4)).drew)) := HSB.out.alloc (by have := HSB.out.size; omega) _
            refine hK.out _ _ (fun _ => hS.alloc (by have := hS.size; omega) _) (fun hS2 => ?_)
            replace hS := hS2 (by decide)
            clear hS2 hK K
            try simp only [Act.put, List.setIfInBounds_toArray, List.set_cons_zero, List.set_cons_succ]
            try simp only [← hq1]
            generalize (v9.alloc (.cells #[.bool false] 4)).drew = y8 at *
            clear hq1
            refine T_ready (rs := [2]) (by kernel_rfl) (by simp) ?_
            refine TReady.cons rfl (fun K hK => ?_) TReady.nil
            try go_simp
            obtain ⟨e1, he1⟩ : ∃ e1, e1 = y8.heap.size := ⟨_, rfl⟩
            have HO : Hid (OwnB 4 (n9) (y8.alloc (.cells #[] 4)) (.slice (some ⟨e1, 0, none⟩) 0 0) []) := by rw [he1]; exact OwnB.empty (w := y8) (by have := hS.size; have := HSB.out.size; omega)
            have hne : e1 ≠ q1 := by omega
            replace zl := cell_alloc_keep (.cells #[] 4) zl
            replace hql : q1 < (y8.alloc (.cells #[] 4)).heap.size := Nat.lt_of_lt_of_le hql (by simp)
            replace HSB : Hid (Below n9 v9 (y8.alloc (.cells #[] 4))) := HSB.out.alloc (by have := HSB.out.size; omega) _
            refine hK.out _ _ (fun _ => hS.alloc (by have := hS.size; omega) _) (fun hS2 => ?_)
            replace hS := hS2 (by decide)
            clear hS2 hK K
            try simp only [Act.put, List.setIfInBounds_toArray, List.set_cons_zero, List.set_cons_succ]
            try simp only [← he1]
            generalize y8.alloc (.cells #[] 4) = y9 at *
            clear he1
            refine T_ready (rs := [4]) (by kernel_rfl) (by simp) ?_
            refine TReady.cons rfl (fun K hK => ?_) TReady.nil
            have HSR := Lib.hid ((HX9.out.below (HN9.out ▸ HSB.out)).isrc)
            refine step_appB2 (.tmp 31) (.tmp 32) rfl rfl n9 y9 _ [] A bg.length c bg bg.length rfl rfl HO HSR (by simp) rfl (by omega) (by have := hS.size; have := HSB.out.size; omega) ?_
            intro A3 c3 y10 HO3 HG3
            have hS2 : Below n0 v9 y10 := hS.grown HG3.out (by have := hS.size; omega) (fun k e => by have := (World.ownsRow.lt HO.out k e).1; omega)
            replace HSB : Hid (Below n9 v9 y10) := HSB.out.grown HG3.out (by have := HSB.out.size; omega) (fun k e => (World.ownsRow.lt HO.out k e).1)
            skip
            replace zl := grown_cell HG3.out hql (fun e => hne (by injection e)) zl
            replace hql := Nat.lt_of_lt_of_le hql HG3.out.size
            clear hne
            rw [List.nil_append] at HO3
            replace HO := HO3
            clear HSR HG3 HO3
            refine hK.out _ _ (fun _ => hS2) (fun _ => ?_)
            clear hK K hS
            have hS := hS2
            clear hS2
            try simp only [Act.put, List.setIfInBounds_toArray, List.set_cons_zero, List.set_cons_succ]
            refine T_ready (rs := [6]) (by kernel_rfl) (by simp) ?_
            refine TReady.cons rfl (fun K hK => ?_) TReady.nil
            have HSR := Lib.hid (lit_srcB zl)
            refine step_appB2 (.tmp 33) (.tmp 34) rfl rfl n9 y10 _ bg (some ⟨q1, 0, none⟩) 1 1 [false] (bg.length + 1) rfl rfl HO HSR rfl rfl (by omega) (by have := hS.size; have := HSB.out.size; omega) ?_
            intro A5 c5 y11 HO5 HG5
            have hS2 : Below n0 v9 y11 := hS.grown HG5.out (by have := hS.size; omega) (fun k e => by have := (World.ownsRow.lt HO.out k e).1; omega)
            replace HSB : Hid (Below n9 v9 y11) := HSB.out.grown HG5.out (by have := HSB.out.size; omega) (fun k e => (World.ownsRow.lt HO.out k e).1)
            skip
            replace HO := HO5
            clear HSR HG5 HO5 zl hql
            refine hK.out _ _ (fun _ => hS2) (fun _ => ?_)
            clear hK K hS
            have hS := hS2
            clear hS2
            try simp only [Act.put, List.setIfInBounds_toArray, List.set_cons_zero, List.set_cons_succ]
            refine T_ready (rs := [7]) (by kernel_rfl) (by simp) ?_
            refine TReady.cons rfl (fun K hK => ?_) TReady.nil
            try go_simp
            refine (HIH2.out false A5 c5 n9 y11 (HL9.out.step (HN9.out ▸ HSB.out)) HO.out (by have := HSB.out.size; omega)).mono ?_
            rintro e u9 ⟨A7, c7, rfl, hrs, hb⟩
            have hS2 : Below n0 v9 u9 := hS.trans (hb.mono (by have := hS.size; omega))
            have hS3 : Below n9 v9 u9 := HSB.out.trans (hb.mono (by have := HSB.out.size; omega))
            have HRT := Lib.hid hrs
            have HSS : Hid (Below v9.heap.size v9 u9) := by rw [← HN9.out]; exact hS3
            clear hrs hb HO hS3 HSB
            refine hK.out _ _ (fun _ => hS2) (fun _ => ?_)
            clear hK K hS
            have hS := hS2
            clear hS2
            try simp only [Act.put, List.setIfInBounds_toArray, List.set_cons_zero, List.set_cons_succ]
            refine T_ready (rs := [8]) (by kernel_rfl) (by simp) ?_
            refine TReady.cons rfl (fun K hK => ?_) TReady.nil
            refine step_appRs rdB sty122 (.tmp 29) (.tmp 36) rfl rfl (w0 := v9) rfl rfl HRS HSS hw9 HRT (by have := HN9.out; omega) hw9 (by have := HCF.out; have := HCT.out; omega) ?_
            intro A8 c8 t9 HR8 HB8
            refine hK.out _ _ (fun _ => HB8.out) (fun _ => ?_)
            clear hK K
            replace hS := HB8.out
            try simp only [Act.put, List.setIfInBounds_toArray, List.set_cons_zero, List.set_cons_succ]
            refine' T_take (i := 9) (v := _) rfl (by kernel_rfl) (by kernel_rfl) (by kernel_rfl) (by kernel_rfl) (fun _ _ _ h => h) (by kernel_rfl) hS ?_ ?_
            rotate_left 1
            · intro Wv hW
              replace k0 := (hW.cell (p := ⟨w.heap.size, 0, none⟩) (by dsimp only; have := HN.out; omega)).trans k0
              replace k1 := (hW.cell (p := ⟨w.heap.size, 1, none⟩) (by dsimp only; have := HN.out; omega)).trans k1
              replace k2 := (hW.cell (p := ⟨w.heap.size, 2, none⟩) (by dsimp only; have := HN.out; omega)).trans k2
              replace k3 := (hW.cell (p := ⟨w.heap.size, 3, none⟩) (by dsimp only; have := HN.out; omega)).trans k3
              replace k4 := (hW.cell (p := ⟨w.heap.size, 4, none⟩) (by dsimp only; have := HN.out; omega)).trans k4
              go_simp
              first | done | with_reducible rfl | omega
            try simp only [Act.put, List.setIfInBounds_toArray, List.set_cons_zero, List.set_cons_succ]
            refine T_done (by kernel_rfl) ?_ _
            refine NoPanic.normal ?_
            try go_simp
            have hbF : Below w.heap.size w t9 := HB9.out.trans (HB8.out.mono (by omega))
            have HBF := Lib.hid hbF
            clear hbF hS
            go_wp2_with fail
            go_ret
            have HE : all = Ft ++ F false := by rw [HCE.out]; simp
            have HEL : all.length = Ft.length + (F false).length := by rw [HE, List.length_append]
            refine ⟨A8, c8, by rw [HEL]; rfl, ?_, HBF.out⟩
            rw [HEL, HE]
            exact (HR8.out.low hlw1).lowBase hlw2
        · have HCE := Lib.hid HCL2.out
          clear es HCL2 HCN2
          generalize F true = Ft at *
          go_wp2_with fail
          go_ret
          exact ⟨A6, c6, by rw [HCE.out]; simp, by rw [HCE.out]; simp only [if_true, List.append_nil]; exact (HRS.out.low hlw1).lowBase hlw2, HB9.out⟩
      · try go_simp
        obtain ⟨q1, hq1⟩ : ∃ q1, q1 = v1.heap.size := ⟨_, rfl⟩
        have zl : (v1.alloc (.cells #[.bool true] 4)).cell? ⟨q1, 0, none⟩ = some (.bool true) := by rw [hq1]; simp
        have hql : q1 < (v1.alloc (.cells #[.bool true] 4)).heap.size := by rw [hq1]; simp
        have hne : e1 ≠ q1 := by have h := (World.ownsRow.lt HO.out e1 rfl).2; omega
        replace HO := Lib.hid (HO.out.kept ((Below.refl v1.heap.size v1).alloc (Nat.le_refl _) (.cells #[.bool true] 4)))
        refine hK.out _ _ (fun _ => hS.alloc (by have := hS.size; omega) _) (fun hS2 => ?_)
        replace hS := hS2 (by decide)
        clear hS2 hK K
        try simp only [Act.put, List.setIfInBounds_toArray, List.set_cons_zero, List.set_cons_succ]
        try simp only [← hq1]
        generalize v1.alloc (.cells #[.bool true] 4) = v5 at *
        clear hq1
        refine T_ready (rs := [3]) (by kernel_rfl) (by simp) ?_
        refine TReady.cons rfl (fun K hK => ?_) TReady.nil
        have HSR := Lib.hid ((HX.out.below (HN.out ▸ hS)).isrc)
        refine step_appB2 (.tmp 15) (.tmp 16) rfl rfl n0 v5 _ [] A bg.length c bg bg.length rfl rfl HO HSR (by simp) rfl (by omega) (by have := hS.size;  omega) ?_
        intro A3 c3 v6 HO3 HG3
        have hS2 : Below n0 x1 v6 := hS.grown HG3.out (by have := hS.size; omega) (fun k e => by have := (World.ownsRow.lt HO.out k e).1; omega)
        skip
        replace zl := grown_cell HG3.out hql (fun e => hne (by injection e)) zl
        replace hql := Nat.lt_of_lt_of_le hql HG3.out.size
        clear hne
        rw [List.nil_append] at HO3
        replace HO := HO3
        clear HSR HG3 HO3
        refine hK.out _ _ (fun _ => hS2) (fun _ => ?_)
        clear hK K hS
        have hS := hS2
        clear hS2
        try simp only [Act.put, List.setIfInBounds_toArray, List.set_cons_zero, List.set_cons_succ]
        refine T_ready (rs := [5]) (by kernel_rfl) (by simp) ?_
        refine TReady.cons rfl (fun K hK => ?_) TReady.nil
        have HSR := Lib.hid (lit_srcB zl)
        refine step_appB2 (.tmp 17) (.tmp 18) rfl rfl n0 v6 _ bg (some ⟨q1, 0, none⟩) 1 1 [true] (bg.length + 1) rfl rfl HO HSR rfl rfl (by omega) (by have := hS.size;  omega) ?_
        intro A5 c5 v7 HO5 HG5
        have hS2 : Below n0 x1 v7 := hS.grown HG5.out (by have := hS.size; omega) (fun k e => by have := (World.ownsRow.lt HO.out k e).1; omega)
        skip
        replace HO := HO5
        clear HSR HG5 HO5 zl hql
        refine hK.out _ _ (fun _ => hS2) (fun _ => ?_)
        clear hK K hS
        have hS := hS2
        clear hS2
        try simp only [Act.put, List.setIfInBounds_toArray, List.set_cons_zero, List.set_cons_succ]
        refine T_ready (rs := [6]) (by kernel_rfl) (by simp) ?_
        refine TReady.cons rfl (fun K hK => ?_) TReady.nil
        try go_simp
        refine (HIH2.out true A5 c5 n0 v7 (HL.out.step (HN.out ▸ hS)) HO.out (by have := hS.size; have := HN.out; omega)).mono ?_
        rintro e v9 ⟨A6, c6, rfl, hrs, hb⟩
        have hS2 : Below n0 x1 v9 := hS.trans (hb.mono (by have := hS.size; omega))
        have HRS := Lib.hid (hrs.lowBase (show n0 ≤ _ by have := hS.size; have := HN.out; omega))
        clear hrs hb HO
        refine hK.out _ _ (fun _ => hS2) (fun _ => ?_)
        clear hK K hS
        have hS := hS2
        clear hS2
        try simp only [Act.put, List.setIfInBounds_toArray, List.set_cons_zero, List.set_cons_succ]
        refine' T_take (i := 7) (v := _) rfl (by kernel_rfl) (by kernel_rfl) (by kernel_rfl) (by kernel_rfl) (fun _ _ _ h => h) (by kernel_rfl) hS ?_ ?_
        rotate_left 1
        · intro Wv hW
          replace k0 := cell_of_ans (HN.out ▸ hW) k0
          replace k1 := cell_of_ans (HN.out ▸ hW) k1
          replace k2 := cell_of_ans (HN.out ▸ hW) k2
          replace k3 := cell_of_ans (HN.out ▸ hW) k3
          replace k4 := cell_of_ans (HN.out ▸ hW) k4
          go_simp
          first | done | with_reducible rfl | omega
        try simp only [Act.put, List.setIfInBounds_toArray, List.set_cons_zero, List.set_cons_succ]
        refine T_done (by kernel_rfl) ?_ _
        refine NoPanic.normal ?_
        try go_simp
        replace hS : Below x1.heap.size x1 v9 := HN.out ▸ hS
        have HB9 : Hid (Below w.heap.size w v9) := HB.out.trans (hS.mono HB.out.size)
        have HL9 := Lib.hid (HL.out.step hS)
        have HX9 := Lib.hid (HX.out.step hS)
        have hs9 := hS.size
        replace k0 := cell_of_ans hS k0
        replace k1 := cell_of_ans hS k1
        replace k2 := cell_of_ans hS k2
        replace k3 := cell_of_ans hS k3
        replace k4 := cell_of_ans hS k4
        clear HL HX hS
        obtain ⟨b, off, rfl, hb0, c1, c2, c3⟩ := HL9.out.at_ hblt
        have ltb := World.block_lt_of_cell? _ _ k0
        dsimp only at ltb
        cases es : (lx r.links bg.length).s
        all_goals rw [es] at c3 HCL2
        · have HB0 := HB9.out.size
          obtain ⟨n9, hn9⟩ : ∃ n9, n9 = v9.heap.size := ⟨_, rfl⟩
          have hnx9 : n9 ≤ v9.heap.size := by omega
          have hw9 : n0 ≤ v9.heap.size := by have := HN.out; omega
          have hn09 : n0 ≤ n9 := by omega
          have HN9 := Lib.hid hn9
          clear hn9
          have HCF := Lib.hid (HCN2.out false)
          have HCT := Lib.hid (HCN2.out true)
          have HCE := Lib.hid HCL2.out
          clear es HCL2 HCN2
          generalize HFt : F true = Ft at *
          clear HFt
          go_upto_region 5 with fail
          have HSB : Hid (Below n9 v9 v9.drew) := (Below.refl _ _).drew
          refine wp_region_noPanic ?_
          have hS : (fun W' : World => Below n0 v9 W') v9.drew := (Below.refl _ _).drew
          refine wp_region_any (by kernel_rfl) (wpAny_of_T (S := fun W' : World => Below n0 v9 W') (m := 9) _ _ _ _ ?_)
          refine' T_take (i := 0) (v := _) rfl (by kernel_rfl) (by kernel_rfl) (by kernel_rfl) (by kernel_rfl) (fun _ _ _ h => h) (by kernel_rfl) hS ?_ ?_
          rotate_left 1
          · intro Wv hW
            replace k0 := (hW.cell (p := ⟨w.heap.size, 0, none⟩) (by dsimp only; have := HN.out; omega)).trans k0
            replace k1 := (hW.cell (p := ⟨w.heap.size, 1, none⟩) (by dsimp only; have := HN.out; omega)).trans k1
            replace k2 := (hW.cell (p := ⟨w.heap.size, 2, none⟩) (by dsimp only; have := HN.out; omega)).trans k2
            replace k3 := (hW.cell (p := ⟨w.heap.size, 3, none⟩) (by dsimp only; have := HN.out; omega)).trans k3
            replace k4 := (hW.cell (p := ⟨w.heap.size, 4, none⟩) (by dsimp only; have := HN.out; omega)).trans k4
            go_simp
            first | done | with_reducible rfl | omega
          try simp only [Act.put, List.setIfInBounds_toArray, List.set_cons_zero, List.set_cons_succ]
          refine' T_take (i := 1) (v := _) rfl (by kernel_rfl) (by kernel_rfl) (by kernel_rfl) (by kernel_rfl) (fun _ _ _ h => h) (by kernel_rfl) hS ?_ ?_
          rotate_left 1
          · intro Wv hW
            replace k0 := (hW.cell (p := ⟨w.heap.size, 0, none⟩) (by dsimp only; have := HN.out; omega)).trans k0
            replace k1 := (hW.cell (p := ⟨w.heap.size, 1, none⟩) (by dsimp only; have := HN.out; omega)).trans k1
            replace k2 := (hW.cell (p := ⟨w.heap.size, 2, none⟩) (by dsimp only; have := HN.out; omega)).trans k2
            replace k3 := (hW.cell (p := ⟨w.heap.size, 3, none⟩) (by dsimp only; have := HN.out; omega)).trans k3
            replace k4 := (hW.cell (p := ⟨w.heap.size, 4, none⟩) (by dsimp only; have := HN.out; omega)).trans k4
            go_simp
            first | done | with_reducible rfl | omega
          try simp only [Act.put, List.setIfInBounds_toArray, List.set_cons_zero, List.set_cons_succ]
          refine' T_take (i := 3) (v := _) rfl (by kernel_rfl) (by kernel_rfl) (by kernel_rfl) (by kernel_rfl) (fun _ _ _ h => h) (by kernel_rfl) hS ?_ ?_
          rotate_left 1
          · intro Wv hW
            replace k0 := (hW.cell (p := ⟨w.heap.size, 0, none⟩) (by dsimp only; have := HN.out; omega)).trans k0
            replace k1 := (hW.cell (p := ⟨w.heap.size, 1, none⟩) (by dsimp only; have := HN.out; omega)).trans k1
            replace k2 := (hW.cell (p := ⟨w.heap.size, 2, none⟩) (by dsimp only; have := HN.out; omega)).trans k2
            replace k3 := (hW.cell (p := ⟨w.heap.size, 3, none⟩) (by dsimp only; have := HN.out; omega)).trans k3
            replace k4 := (hW.cell (p := ⟨w.heap.size, 4, none⟩) (by dsimp only; have := HN.out; omega)).trans k4
            go_simp
            first | done | with_reducible rfl | omega
          try simp only [Act.put, List.setIfInBounds_toArray, List.set_cons_zero, List.set_cons_succ]
          refine T_ready (rs := [2, 5]) (by kernel_rfl) (by simp) ?_
          refine TReady.cons rfl (fun K hK => ?_) (TReady.cons rfl (fun K hK => ?_) TReady.nil)
          · try go_simp
            obtain ⟨e1, he1⟩ : ∃ e1, e1 = v9.heap.size := ⟨_, rfl⟩
            have HO : Hid (OwnB 4 (n9) ((v9.alloc (.cells #[] 4)).drew) (.slice (some ⟨e1, 0, none⟩) 0 0) []) := by rw [he1]; exact OwnB.empty (w := v9.drew) (by have := hS.size; have := HSB.out.size; omega)
            replace HSB : Hid (Below n9 v9 ((v9.alloc (.cells #[] 4)).drew)) := HSB.out.alloc (by have := HSB.out.size; omega) _
            refine hK.out _ _ (fun _ => hS.alloc (by have := hS.size; omega) _) (fun hS2 => ?_)
            replace hS := hS2 (by decide)
            clear hS2 hK K
            try simp only [Act.put, List.setIfInBounds_toArray, List.set_cons_zero, List.set_cons_succ]
            try simp only [← he1]
            generalize (v9.alloc (.cells #[] 4)).drew = y1 at *
            clear he1
            refine T_ready (rs := [4, 5]) (by kernel_rfl) (by simp) ?_
            refine TReady.cons rfl (fun K hK => ?_) (TReady.cons rfl (fun K hK => ?_) TReady.nil)
            · have HSR := Lib.hid ((HX9.out.below (HN9.out ▸ HSB.out)).isrc)
              refine step_appB2 (.tmp 31) (.tmp 32) rfl rfl n9 y1 _ [] A bg.length c bg bg.length rfl rfl HO HSR (by simp) rfl (by omega) (by have := hS.size; have := HSB.out.size; omega) ?_
              intro A3 c3 y2 HO3 HG3
              have hS2 : Below n0 v9 y2 := hS.grown HG3.out (by have := hS.size; omega) (fun k e => by have := (World.ownsRow.lt HO.out k e).1; omega)
              replace HSB : Hid (Below n9 v9 y2) := HSB.out.grown HG3.out (by have := HSB.out.size; omega) (fun k e => (World.ownsRow.lt HO.out k e).1)
              skip
              rw [List.nil_append] at HO3
              replace HO := HO3
              clear HSR HG3 HO3
              refine hK.out _ _ (fun _ => hS2) (fun _ => ?_)
              clear hK K hS
              have hS := hS2
              clear hS2
              try simp only [Act.put, List.setIfInBounds_toArray, List.set_cons_zero, List.set_cons_succ]
              refine T_ready (rs := [5]) (by kernel_rfl) (by simp) ?_
              refine TReady.cons rfl (fun K hK => ?_) TReady.nil
              try go_simp
              obtain ⟨q1, hq1⟩ : ∃ q1, q1 = y2.heap.size := ⟨_, rfl⟩
              have zl : (y2.alloc (.cells #[.bool false] 4)).cell? ⟨q1, 0, none⟩ = some (.bool false) := by rw [hq1]; simp
              have hql : q1 < (y2.alloc (.cells #[.bool false] 4)).heap.size := by rw [hq1]; simp
              replace HO := Lib.hid (HO.out.kept ((Below.refl y2.heap.size y2).alloc (Nat.le_refl _) (.cells #[.bool false] 4)))
              replace HSB : Hid (Below n9 v9 (y2.alloc (.cells #[.bool false] 4))) := HSB.out.alloc (by have := HSB.out.size; omega) _
              refine hK.out _ _ (fun _ => hS.alloc (by have := hS.size; omega) _) (fun hS2 => ?_)
              replace hS := hS2 (by decide)
              clear hS2 hK K
              try simp only [Act.put, List.setIfInBounds_toArray, List.set_cons_zero, List.set_cons_succ]
              try simp only [← hq1]
              generalize y2.alloc (.cells #[.bool false] 4) = y3 at *
              clear hq1
              refine T_ready (rs := [6]) (by kernel_rfl) (by simp) ?_
              refine TReady.cons rfl (fun K hK => ?_) TReady.nil
              have HSR := Lib.hid (lit_srcB zl)
              refine step_appB2 (.tmp 33) (.tmp 34) rfl rfl n9 y3 _ bg (some ⟨q1, 0, none⟩) 1 1 [false] (bg.length + 1) rfl rfl HO HSR rfl rfl (by omega) (by have := hS.size; have := HSB.out.size; omega) ?_
              intro A5 c5 y4 HO5 HG5
              have hS2 : Below n0 v9 y4 := hS.grown HG5.out (by have := hS.size; omega) (fun k e => by have := (World.ownsRow.lt HO.out k e).1; omega)
              replace HSB : Hid (Below n9 v9 y4) := HSB.out.grown HG5.out (by have := HSB.out.size; omega) (fun k e => (World.ownsRow.lt HO.out k e).1)
              skip
              replace HO := HO5
              clear HSR HG5 HO5 zl hql
              refine hK.out _ _ (fun _ => hS2) (fun _ => ?_)
              clear hK K hS
              have hS := hS2
              clear hS2
              try simp only [Act.put, List.setIfInBounds_toArray, List.set_cons_zero, List.set_cons_succ]
              refine T_ready (rs := [7]) (by kernel_rfl) (by simp) ?_
              refine TReady.cons rfl (fun K hK => ?_) TReady.nil
              try go_simp
              refine (HIH2.out false A5 c5 n9 y4 (HL9.out.step (HN9.out ▸ HSB.out)) HO.out (by have := HSB.out.size; omega)).mono ?_
              rintro e u9 ⟨A7, c7, rfl, hrs, hb⟩
              have hS2 : Below n0 v9 u9 := hS.trans (hb.mono (by have := hS.size; omega))
              have hS3 : Below n9 v9 u9 := HSB.out.trans (hb.mono (by have := HSB.out.size; omega))
              have HRT := Lib.hid hrs
              have HSS : Hid (Below v9.heap.size v9 u9) := by rw [← HN9.out]; exact hS3
              clear hrs hb HO hS3 HSB
              refine hK.out _ _ (fun _ => hS2) (fun _ => ?_)
              clear hK K hS
              have hS := hS2
              clear hS2
              try simp only [Act.put, List.setIfInBounds_toArray, List.set_cons_zero, List.set_cons_succ]
              refine T_ready (rs := [8]) (by kernel_rfl) (by simp) ?_
              refine TReady.cons rfl (fun K hK => ?_) TReady.nil
              refine step_appRs rdB sty122 (.tmp 29) (.tmp 36) rfl rfl (w0 := v9) rfl rfl HRS HSS hw9 HRT (by have := HN9.out; omega) hw9 (by have := HCF.out; have := HCT.out; omega) ?_
              intro A8 c8 t9 HR8 HB8
              refine hK.out _ _ (fun _ => HB8.out) (fun _ => ?_)
              clear hK K
              replace hS := HB8.out
              try simp only [Act.put, List.setIfInBounds_toArray, List.set_cons_zero, List.set_cons_succ]
              refine' T_take (i := 9) (v := _) rfl (by kernel_rfl) (by kernel_rfl) (by kernel_rfl) (by kernel_rfl) (fun _ _ _ h => h) (by kernel_rfl) hS ?_ ?_
              rotate_left 1
              · intro Wv hW
                replace k0 := (hW.cell (p := ⟨w.heap.size, 0, none⟩) (by dsimp only; have := HN.out; omega)).trans k0
                replace k1 := (hW.cell (p := ⟨w.heap.size, 1, none⟩) (by dsimp only; have := HN.out; omega)).trans k1
                replace k2 := (hW.cell (p := ⟨w.heap.size, 2, none⟩) (by dsimp only; have := HN.out; omega)).trans k2
                replace k3 := (hW.cell (p := ⟨w.heap.size, 3, none⟩) (by dsimp only; have := HN.out; omega)).trans k3
                replace k4 := (hW.cell (p := ⟨w.heap.size, 4, none⟩) (by dsimp only; have := HN.out; omega)).trans k4
                go_simp
                first | done | with_reducible rfl | omega
              try simp only [Act.put, List.setIfInBounds_toArray, List.set_cons_zero, List.set_cons_succ]
              refine T_done (by kernel_rfl) ?_ _
              refine NoPanic.normal ?_
              try go_simp
              have hbF : Below w.heap.size w t9 := HB9.out.trans (HB8.out.mono (by omega))
              have HBF := Lib.hid hbF
              clear hbF hS
              go_wp2_with fail
              go_ret
              have HE : all = Ft ++ F false := by rw [HCE.out]; simp
              have HEL : all.length = Ft.length + (F false).length := by rw [HE, List.length_append]
              refine ⟨A8, c8, by rw [HEL]; rfl, ?_, HBF.out⟩
              rw [HEL, HE]
              exact (HR8.out.low hlw1).lowBase hlw2
            · try go_simp
              obtain ⟨q1, hq1⟩ : ∃ q1, q1 = y1.heap.size := ⟨_, rfl⟩
              have zl : (y1.alloc (.cells #[.bool false] 4)).cell? ⟨q1, 0, none⟩ = some (.bool false) := by rw [hq1]; simp
              have hql : q1 < (y1.alloc (.cells #[.bool false] 4)).heap.size := by rw [hq1]; simp
              have hne : e1 ≠ q1 := by have h := (World.ownsRow.lt HO.out e1 rfl).2; omega
              replace HO := Lib.hid (HO.out.kept ((Below.refl y1.heap.size y1).alloc (Nat.le_refl _) (.cells #[.bool false] 4)))
              replace HSB : Hid (Below n9 v9 (y1.alloc (.cells #[.bool false] 4))) := HSB.out.alloc (by have := HSB.out.size; omega) _
              refine hK.out _ _ (fun _ => hS.alloc (by have := hS.size; omega) _) (fun hS2 => ?_)
              replace hS := hS2 (by decide)
              clear hS2 hK K
              try simp only [Act.put, List.setIfInBounds_toArray, List.set_cons_zero, List.set_cons_succ]
              try simp only [← hq1]
              generalize y1.alloc (.cells #[.bool false] 4) = y5 at *
              clear hq1
              refine T_ready (rs := [4]) (by kernel_rfl) (by simp) ?_
              refine TReady.cons rfl (fun K hK => ?_) TReady.nil
              have HSR := Lib.hid ((HX9.out.below (HN9.out ▸ HSB.out)).isrc)
              refine step_appB2 (.tmp 31) (.tmp 32) rfl rfl n9 y5 _ [] A bg.length c bg bg.length rfl rfl HO HSR (by simp) rfl (by omega) (by have := hS.size; have := HSB.out.size; omega) ?_
              intro A3 c3 y6 HO3 HG3
              have hS2 : Below n0 v9 y6 := hS.grown HG3.out (by have := hS.size; omega) (fun k e => by have := (World.ownsRow.lt HO.out k e).1; omega)
              replace HSB : Hid (Below n9 v9 y6) := HSB.out.grown HG3.out (by have := HSB.out.size; omega) (fun k e => (World.ownsRow.lt HO.out k e).1)
              skip
              replace zl := grown_cell HG3.out hql (fun e => hne (by injection e)) zl
              replace hql := Nat.lt_of_lt_of_le hql HG3.out.size
              clear hne
              rw [List.nil_append] at HO3
              replace HO := HO3
              clear HSR HG3 HO3
              refine hK.out _ _ (fun _ => hS2) (fun _ => ?_)
              clear hK K hS
              have hS := hS2
              clear hS2
              try simp only [Act.put, List.setIfInBounds_toArray, List.set_cons_zero, List.set_cons_succ]
              refine T_ready (rs := [6]) (by kernel_rfl) (by simp) ?_
              refine TReady.cons rfl (fun K hK => ?_) TReady.nil
              have HSR := Lib.hid (lit_srcB zl)
              refine step_appB2 (.tmp 33) (.tmp 34) rfl rfl n9 y6 _ bg (some ⟨q1, 0, none⟩) 1 1 [false] (bg.length + 1) rfl rfl HO HSR rfl rfl (by omega) (by have := hS.size; have := HSB.out.size; omega) ?_
              intro A5 c5 y7 HO5 HG5
              have hS2 : Below n0 v9 y7 := hS.grown HG5.out (by have := hS.size; omega) (fun k e => by have := (World.ownsRow.lt HO.out k e).1; omega)
              replace HSB : Hid (Below n9 v9 y7) := HSB.out.grown HG5.out (by have := HSB.out.size; omega) (fun k e => (World.ownsRow.lt HO.out k e).1)
              skip
              replace HO := HO5
              clear HSR HG5 HO5 zl hql
              refine hK.out _ _ (fun _ => hS2) (fun _ => ?_)
              clear hK K hS
              have hS := hS2
              clear hS2
              try simp only [Act.put, List.setIfInBounds_toArray, List.set_cons_zero, List.set_cons_succ]
              refine T_ready (rs := [7]) (by kernel_rfl) (by simp) ?_
              refine TReady.cons rfl (fun K hK => ?_) TReady.nil
              try go_simp
              refine (HIH2.out false A5 c5 n9 y7 (HL9.out.step (HN9.out ▸ HSB.out)) HO.out (by have := HSB.out.size; omega)).mono ?_
              rintro e u9 ⟨A7, c7, rfl, hrs, hb⟩
              have hS2 : Below n0 v9 u9 := hS.trans (hb.mono (by have := hS.size; omega))
              have hS3 : Below n9 v9 u9 := HSB.out.trans (hb.mono (by have := HSB.out.size; omega))
              have HRT := Lib.hid hrs
              have HSS : Hid (Below v9.heap.size v9 u9) := by rw [← HN9.out]; exact hS3
              clear hrs hb HO hS3 HSB
              refine hK.out _ _ (fun _ => hS2) (fun _ => ?_)
              clear hK K hS
              have hS := hS2
              clear hS2
              try simp only [Act.put, List.setIfInBounds_toArray, List.set_cons_zero, List.set_cons_succ]
              refine T_ready (rs := [8]) (by kernel_rfl) (by simp) ?_
              refine TReady.cons rfl (fun K hK => ?_) TReady.nil
              refine step_appRs rdB sty122 (.tmp 29) (.tmp 36) rfl rfl (w0 := v9) rfl rfl HRS HSS hw9 HRT (by have := HN9.out; omega) hw9 (by have := HCF.out; have := HCT.out; omega) ?_
              intro A8 c8 t9 HR8 HB8
              refine hK.out _ _ (fun _ => HB8.out) (fun _ => ?_)
              clear hK K
              replace hS := HB8.out
              try simp only [Act.put, List.setIfInBounds_toArray, List.set_cons_zero, List.set_cons_succ]
              refine' T_take (i := 9) (v := _) rfl (by kernel_rfl) (by kernel_rfl) (by kernel_rfl) (by kernel_rfl) (fun _ _ _ h => h) (by kernel_rfl) hS ?_ ?_
              rotate_left 1
              · intro Wv hW
                replace k0 := (hW.cell (p := ⟨w.heap.size, 0, none⟩) (by dsimp only; have := HN.out; omega)).trans k0
                replace k1 := (hW.cell (p := ⟨w.heap.size, 1, none⟩) (by dsimp only; have := HN.out; omega)).trans k1
                replace k2 := (hW.cell (p := ⟨w.heap.size, 2, none⟩) (by dsimp only; have := HN.out; omega)).trans k2
                replace k3 := (hW.cell (p := ⟨w.heap.size, 3, none⟩) (by dsimp only; have := HN.out; omega)).trans k3
                replace k4 := (hW.cell (p := ⟨w.heap.size, 4, none⟩) (by dsimp only; have := HN.out; omega)).trans k4
                go_simp
                first | done | with_reducible rfl | omega
              try simp only [Act.put, List.setIfInBounds_toArray, List.set_cons_zero, List.set_cons_succ]
              refine T_done (by kernel_rfl) ?_ _
              refine NoPanic.normal ?_
              try go_simp
              have hbF : Below w.heap.size w t9 := HB9.out.trans (HB8.out.mono (by omega))
              have HBF := Lib.hid hbF
              clear hbF hS
              go_wp2_with fail
              go_ret
              have HE : all = Ft ++ F false := by rw [HCE.out]; simp
              have HEL : all.length = Ft.length + (F false).length := by rw [HE, List.length_append]
              refine ⟨A8, c8, by rw [HEL]; rfl, ?_, HBF.out⟩
              rw [HEL, HE]
              exact (HR8.out.low hlw1).lowBase hlw2
          · try go_simp
            obtain ⟨q1, hq1⟩ : ∃ q1, q1 = v9.heap.size := ⟨_, rfl⟩
            have zl : ((v9.alloc (.cells #[.bool false] 4)).drew).cell? ⟨q1, 0, none⟩ = some (.bool false) := by rw [hq1]; simp
            have hql : q1 < ((v9.alloc (.cells #[.bool false] 4)).drew).heap.size := by rw [hq1]; simp
            replace HSB : Hid (Below n9 v9 ((v9.alloc (.cells #[.bool false] 4)).drew)) := HSB.out.alloc (by have := HSB.out.size; omega) _
            refine hK.out _ _ (fun _ => hS.alloc (by have := hS.size; omega) _) (fun hS2 => ?_)
            replace hS := hS2 (by decide)
            clear hS2 hK K
            try simp only [Act.put, List.setIfInBounds_toArray, List.set_cons_zero, List.set_cons_succ]
            try simp only [← hq1]
            generalize (v9.alloc (.cells #[.bool false] 4)).drew = y8 at *
            clear hq1
            refine T_ready (rs := [2]) (by kernel_rfl) (by simp) ?_
            refine TReady.cons rfl (fun K hK => ?_) TReady.nil
            try go_simp
            obtain ⟨e1, he1⟩ : ∃ e1, e1 = y8.heap.size := ⟨_, rfl⟩
            have HO : Hid (OwnB 4 (n9) (y8.alloc (.cells #[] 4)) (.slice (some ⟨e1, 0, none⟩) 0 0) []) := by rw [he1]; exact OwnB.empty (w := y8) (by have := hS.size; have := HSB.out.size; omega)
            have hne : e1 ≠ q1 := by omega
            replace zl := cell_alloc_keep (.cells #[] 4) zl
            replace hql : q1 < (y8.alloc (.cells #[] 4)).heap.size := Nat.lt_of_lt_of_le hql (by simp)
            replace HSB : Hid (Below n9 v9 (y8.alloc (.cells #[] 4))) := HSB.out.alloc (by have := HSB.out.size; omega) _
            refine hK.out _ _ (fun _ => hS.alloc (by have := hS.size; omega) _) (fun hS2 => ?_)
            replace hS := hS2 (by decide)
            clear hS2 hK K
            try simp only [Act.put, List.setIfInBounds_toArray, List.set_cons_zero, List.set_cons_succ]
            try simp only [← he1]
            generalize y8.alloc (.cells #[] 4) = y9 at *
            clear he1
            refine T_ready (rs := [4]) (by kernel_rfl) (by simp) ?_
            refine TReady.cons rfl (fun K hK => ?_) TReady.nil
            have HSR := Lib.hid ((HX9.out.below (HN9.out ▸ HSB.out)).isrc)
            refine step_appB2 (.tmp 31) (.tmp 32) rfl rfl n9 y9 _ [] A bg.length c bg bg.length rfl rfl HO HSR (by simp) rfl (by omega) (by have := hS.size; have := HSB.out.size; omega) ?_
            intro A3 c3 y10 HO3 HG3
            have hS2 : Below n0 v9 y10 := hS.grown HG3.out (by have := hS.size; omega) (fun k e => by have := (World.ownsRow.lt HO.out k e).1; omega)
            replace HSB : Hid (Below n9 v9 y10) := HSB.out.grown HG3.out (by have := HSB.out.size; omega) (fun k e => (World.ownsRow.lt HO.out k e).1)
            skip
            replace zl := grown_cell HG3.out hql (fun e => hne (by injection e)) zl
            replace hql := Nat.lt_of_lt_of_le hql HG3.out.size
            clear hne
            rw [List.nil_append] at HO3
            replace HO := HO3
            clear HSR HG3 HO3
            refine hK.out _ _ (fun _ => hS2) (fun _ => ?_)
            clear hK K hS
            have hS := hS2
            clear hS2
            try simp only [Act.put, List.setIfInBounds_toArray, List.set_cons_zero, List.set_cons_succ]
            refine T_ready (rs := [6]) (by kernel_rfl) (by simp) ?_
            refine TReady.cons rfl (fun K hK => ?_) TReady.nil
            have HSR := Lib.hid (lit_srcB zl)
            refine step_appB2 (.tmp 33) (.tmp 34) rfl rfl n9 y10 _ bg (some ⟨q1, 0, none⟩) 1 1 [false] (bg.length + 1) rfl rfl HO HSR rfl rfl (by omega) (by have := hS.size; have := HSB.out.size; omega) ?_
            intro A5 c5 y11 HO5 HG5
            have hS2 : Below n0 v9 y11 := hS.grown HG5.out (by have := hS.size; omega) (fun k e => by have := (World.ownsRow.lt HO.out k e).1; omega)
            replace HSB : Hid (Below n9 v9 y11) := HSB.out.grown HG5.out (by have := HSB.out.size; omega) (fun k e => (World.ownsRow.lt HO.out k e).1)
            skip
            replace HO := HO5
            clear HSR HG5 HO5 zl hql
            refine hK.out _ _ (fun _ => hS2) (fun _ => ?_)
            clear hK K hS
            have hS := hS2
            clear hS2
            try simp only [Act.put, List.setIfInBounds_toArray, List.set_cons_zero, List.set_cons_succ]
            refine T_ready (rs := [7]) (by kernel_rfl) (by simp) ?_
            refine TReady.cons rfl (fun K hK => ?_) TReady.nil
            try go_simp
            refine (HIH2.out false A5 c5 n9 y11 (HL9.out.step (HN9.out ▸ HSB.out)) HO.out (by have := HSB.out.size; omega)).mono ?_
            rintro e u9 ⟨A7, c7, rfl, hrs, hb⟩
            have hS2 : Below n0 v9 u9 := hS.trans (hb.mono (by have := hS.size; omega))
            have hS3 : Below n9 v9 u9 := HSB.out.trans (hb.mono (by have := HSB.out.size; omega))
            have HRT := Lib.hid hrs
            have HSS : Hid (Below v9.heap.size v9 u9) := by rw [← HN9.out]; exact hS3
            clear hrs hb HO hS3 HSB
            refine hK.out _ _ (fun _ => hS2) (fun _ => ?_)
            clear hK K hS
            have hS := hS2
            clear hS2
            try simp only [Act.put, List.setIfInBounds_toArray, List.set_cons_zero, List.set_cons_succ]
            refine T_ready (rs := [8]) (by kernel_rfl) (by simp) ?_
            refine TReady.cons rfl (fun K hK => ?_) TReady.nil
            refine step_appRs rdB sty122 (.tmp 29) (.tmp 36) rfl rfl (w0 := v9) rfl rfl HRS HSS hw9 HRT (by have := HN9.out; omega) hw9 (by have := HCF.out; have := HCT.out; omega) ?_
            intro A8 c8 t9 HR8 HB8
            refine hK.out _ _ (fun _ => HB8.out) (fun _ => ?_)
            clear hK K
            replace hS := HB8.out
            try simp only [Act.put, List.setIfInBounds_toArray, List.set_cons_zero, List.set_cons_succ]
            refine' T_take (i := 9) (v := _) rfl (by kernel_rfl) (by kernel_rfl) (by kernel_rfl) (by kernel_rfl) (fun _ _ _ h => h) (by kernel_rfl) hS ?_ ?_
            rotate_left 1
            · intro Wv hW
              replace k0 := (hW.cell (p := ⟨w.heap.size, 0, none⟩) (by dsimp only; have := HN.out; omega)).trans k0
              replace k1 := (hW.cell (p := ⟨w.heap.size, 1, none⟩) (by dsimp only; have := HN.out; omega)).trans k1
              replace k2 := (hW.cell (p := ⟨w.heap.size, 2, none⟩) (by dsimp only; have := HN.out; omega)).trans k2
              replace k3 := (hW.cell (p := ⟨w.heap.size, 3, none⟩) (by dsimp only; have := HN.out; omega)).trans k3
              replace k4 := (hW.cell (p := ⟨w.heap.size, 4, none⟩) (by dsimp only; have := HN.out; omega)).trans k4
              go_simp
              first | done | with_reducible rfl | omega
            try simp only [Act.put, List.setIfInBounds_toArray, List.set_cons_zero, List.set_cons_succ]
            refine T_done (by kernel_rfl) ?_ _
            refine NoPanic.normal ?_
            try go_simp
            have hbF : Below w.heap.size w t9 := HB9.out.trans (HB8.out.mono (by omega))
            have HBF := Lib.hid hbF
            clear hbF hS
            go_wp2_with fail
            go_ret
            have HE : all = Ft ++ F false := by rw [HCE.out]; simp
            have HEL : all.length = Ft.length + (F false).length := by rw [HE, List.length_append]
            refine ⟨A8, c8, by rw [HEL]; rfl, ?_, HBF.out⟩
            rw [HEL, HE]
            exact (HR8.out.low hlw1).lowBase hlw2
        · have HCE := Lib.hid HCL2.out
          clear es HCL2 HCN2
          generalize F true = Ft at *
          go_wp2_with fail
          go_ret
          exact ⟨A6, c6, by rw [HCE.out]; simp, by rw [HCE.out]; simp only [if_true, List.append_nil]; exact (HRS.out.low hlw1).lowBase hlw2, HB9.out⟩
    · try go_simp
      obtain ⟨q1, hq1⟩ : ∃ q1, q1 = x1.heap.size := ⟨_, rfl⟩
      have zl : ((x1.alloc (.cells #[.bool true] 4)).drew).cell? ⟨q1, 0, none⟩ = some (.bool true) := by rw [hq1]; simp
      have hql : q1 < ((x1.alloc (.cells #[.bool true] 4)).drew).heap.size := by rw [hq1]; simp
      refine hK.out _ _ (fun _ => hS.alloc (by have := hS.size; omega) _) (fun hS2 => ?_)
      replace hS := hS2 (by decide)
      clear hS2 hK K
      try simp only [Act.put, List.setIfInBounds_toArray, List.set_cons_zero, List.set_cons_succ]
      try simp only [← hq1]
      generalize (x1.alloc (.cells #[.bool true] 4)).drew = v8 at *
      clear hq1
      refine T_ready (rs := [1]) (by kernel_rfl) (by simp) ?_
      refine TReady.cons rfl (fun K hK => ?_) TReady.nil
      try go_simp
      obtain ⟨e1, he1⟩ : ∃ e1, e1 = v8.heap.size := ⟨_, rfl⟩
      have HO : Hid (OwnB 4 (n0) (v8.alloc (.cells #[] 4)) (.slice (some ⟨e1, 0, none⟩) 0 0) []) := by rw [he1]; exact OwnB.empty (w := v8) (by have := hS.size;  omega)
      have hne : e1 ≠ q1 := by omega
      replace zl := cell_alloc_keep (.cells #[] 4) zl
      replace hql : q1 < (v8.alloc (.cells #[] 4)).heap.size := Nat.lt_of_lt_of_le hql (by simp)
      refine hK.out _ _ (fun _ => hS.alloc (by have := hS.size; omega) _) (fun hS2 => ?_)
      replace hS := hS2 (by decide)
      clear hS2 hK K
      try simp only [Act.put, List.setIfInBounds_toArray, List.set_cons_zero, List.set_cons_succ]
      try simp only [← he1]
      generalize v8.alloc (.cells #[] 4) = v9 at *
      clear he1
      refine T_ready (rs := [3]) (by kernel_rfl) (by simp) ?_
      refine TReady.cons rfl (fun K hK => ?_) TReady.nil
      have HSR := Lib.hid ((HX.out.below (HN.out ▸ hS)).isrc)
      refine step_appB2 (.tmp 15) (.tmp 16) rfl rfl n0 v9 _ [] A bg.length c bg bg.length rfl rfl HO HSR (by simp) rfl (by omega) (by have := hS.size;  omega) ?_
      intro A3 c3 v10 HO3 HG3
      have hS2 : Below n0 x1 v10 := hS.grown HG3.out (by have := hS.size; omega) (fun k e => by have := (World.ownsRow.lt HO.out k e).1; omega)
      skip
      replace zl := grown_cell HG3.out hql (fun e => hne (by injection e)) zl
      replace hql := Nat.lt_of_lt_of_le hql HG3.out.size
      clear hne
      rw [List.nil_append] at HO3
      replace HO := HO3
      clear HSR HG3 HO3
      refine hK.out _ _ (fun _ => hS2) (fun _ => ?_)
      clear hK K hS
      have hS := hS2
      clear hS2
      try simp only [Act.put, List.setIfInBounds_toArray, List.set_cons_zero, List.set_cons_succ]
      refine T_ready (rs := [5]) (by kernel_rfl) (by simp) ?_
      refine TReady.cons rfl (fun K hK => ?_) TReady.nil
      have HSR := Lib.hid (lit_srcB zl)
      refine step_appB2 (.tmp 17) (.tmp 18) rfl rfl n0 v10 _ bg (some ⟨q1, 0, none⟩) 1 1 [true] (bg.length + 1) rfl rfl HO HSR rfl rfl (by omega) (by have := hS.size;  omega) ?_
      intro A5 c5 v11 HO5 HG5
      have hS2 : Below n0 x1 v11 := hS.grown HG5.out (by have := hS.size; omega) (fun k e => by have := (World.ownsRow.lt HO.out k e).1; omega)
      skip
      replace HO := HO5
      clear HSR HG5 HO5 zl hql
      refine hK.out _ _ (fun _ => hS2) (fun _ => ?_)
      clear hK K hS
      have hS := hS2
      clear hS2
      try simp only [Act.put, List.setIfInBounds_toArray, List.set_cons_zero, List.set_cons_succ]
      refine T_ready (rs := [6]) (by kernel_rfl) (by simp) ?_
      refine TReady.cons rfl (fun K hK => ?_) TReady.nil
      try go_simp
      refine (HIH2.out true A5 c5 n0 v11 (HL.out.step (HN.out ▸ hS)) HO.out (by have := hS.size; have := HN.out; omega)).mono ?_
      rintro e v9 ⟨A6, c6, rfl, hrs, hb⟩
      have hS2 : Below n0 x1 v9 := hS.trans (hb.mono (by have := hS.size; omega))
      have HRS := Lib.hid (hrs.lowBase (show n0 ≤ _ by have := hS.size; have := HN.out; omega))
      clear hrs hb HO
      refine hK.out _ _ (fun _ => hS2) (fun _ => ?_)
      clear hK K hS
      have hS := hS2
      clear hS2
      try simp only [Act.put, List.setIfInBounds_toArray, List.set_cons_zero, List.set_cons_succ]
      refine' T_take (i := 7) (v := _) rfl (by kernel_rfl) (by kernel_rfl) (by kernel_rfl) (by kernel_rfl) (fun _ _ _ h => h) (by kernel_rfl) hS ?_ ?_
      rotate_left 1
      · intro Wv hW
        replace k0 := cell_of_ans (HN.out ▸ hW) k0
        replace k1 := cell_of_ans (HN.out ▸ hW) k1
        replace k2 := cell_of_ans (HN.out ▸ hW) k2
        replace k3 := cell_of_ans (HN.out ▸ hW) k3
        replace k4 := cell_of_ans (HN.out ▸ hW) k4
        go_simp
        first | done | with_reducible rfl | omega
      try simp only [Act.put, List.setIfInBounds_toArray, List.set_cons_zero, List.set_cons_succ]
      refine T_done (by kernel_rfl) ?_ _
      refine NoPanic.normal ?_
      try go_simp
      replace hS : Below x1.heap.size x1 v9 := HN.out ▸ hS
      have HB9 : Hid (Below w.heap.size w v9) := HB.out.trans (hS.mono HB.out.size)
      have HL9 := Lib.hid (HL.out.step hS)
      have HX9 := Lib.hid (HX.out.step hS)
      have hs9 := hS.size
      replace k0 := cell_of_ans hS k0
      replace k1 := cell_of_ans hS k1
      replace k2 := cell_of_ans hS k2
      replace k3 := cell_of_ans hS k3
      replace k4 := cell_of_ans hS k4
      clear HL HX hS
      obtain ⟨b, off, rfl, hb0, c1, c2, c3⟩ := HL9.out.at_ hblt
      have ltb := World.block_lt_of_cell? _ _ k0
      dsimp only at ltb
      cases es : (lx r.links bg.length).s
      all_goals rw [es] at c3 HCL2
      · have HB0 := HB9.out.size
        obtain ⟨n9, hn9⟩ : ∃ n9, n9 = v9.heap.size := ⟨_, rfl⟩
        have hnx9 : n9 ≤ v9.heap.size := by omega
        have hw9 : n0 ≤ v9.heap.size := by have := HN.out; omega
        have hn09 : n0 ≤ n9 := by omega
        have HN9 := Lib.hid hn9
        clear hn9
        have HCF := Lib.hid (HCN2.out false)
        have HCT := Lib.hid (HCN2.out true)
        have HCE := Lib.hid HCL2.out
        clear es HCL2 HCN2
        generalize HFt : F true = Ft at *
        clear HFt
        go_upto_region 5 with fail
        have HSB : Hid (Below n9 v9 v9.drew) := (Below.refl _ _).drew
        refine wp_region_noPanic ?_
        have hS : (fun W' : World => Below n0 v9 W') v9.drew := (Below.refl _ _).drew
        refine wp_region_any (by kernel_rfl) (wpAny_of_T (S := fun W' : World => Below n0 v9 W') (m := 9) _ _ _ _ ?_)
        refine' T_take (i := 0) (v := _) rfl (by kernel_rfl) (by kernel_rfl) (by kernel_rfl) (by kernel_rfl) (fun _ _ _ h => h) (by kernel_rfl) hS ?_ ?_
        rotate_left 1
        · intro Wv hW
          replace k0 := (hW.cell (p := ⟨w.heap.size, 0, none⟩) (by dsimp only; have := HN.out; omega)).trans k0
          replace k1 := (hW.cell (p := ⟨w.heap.size, 1, none⟩) (by dsimp only; have := HN.out; omega)).trans k1
          replace k2 := (hW.cell (p := ⟨w.heap.size, 2, none⟩) (by dsimp only; have := HN.out; omega)).trans k2
          replace k3 := (hW.cell (p := ⟨w.heap.size, 3, none⟩) (by dsimp only; have := HN.out; omega)).trans k3
          replace k4 := (hW.cell (p := ⟨w.heap.size, 4, none⟩) (by dsimp only; have := HN.out; omega)).trans k4
          go_simp
          first | done | with_reducible rfl | omega
        try simp only [Act.put, List.setIfInBounds_toArray, List.set_cons_zero, List.set_cons_succ]
        refine' T_take (i := 1) (v := _) rfl (by kernel_rfl) (by kernel_rfl) (by kernel_rfl) (by kernel_rfl) (fun _ _ _ h => h) (by kernel_rfl) hS ?_ ?_
        rotate_left 1
        · intro Wv hW
          replace k0 := (hW.cell (p := ⟨w.heap.size, 0, none⟩) (by dsimp only; have := HN.out; omega)).trans k0
          replace k1 := (hW.cell (p := ⟨w.heap.size, 1, none⟩) (by dsimp only; have := HN.out; omega)).trans k1
          replace k2 := (hW.cell (p := ⟨w.heap.size, 2, none⟩) (by dsimp only; have := HN.out; omega)).trans k2
          replace k3 := (hW.cell (p := ⟨w.heap.size, 3, none⟩) (by dsimp only; have := HN.out; omega)).trans k3
          replace k4 := (hW.cell (p := ⟨w.heap.size, 4, none⟩) (by dsimp only; have := HN.out; omega)).trans k4
          go_simp
          first | done | with_reducible rfl | omega
        try simp only [Act.put, List.setIfInBounds_toArray, List.set_cons_zero, List.set_cons_succ]
        refine' T_take (i := 3) (v := _) rfl (by kernel_rfl) (by kernel_rfl) (by kernel_rfl) (by kernel_rfl) (fun _ _ _ h => h) (by kernel_rfl) hS ?_ ?_
        rotate_left 1
        · intro Wv hW
          replace k0 := (hW.cell (p := ⟨w.heap.size, 0, none⟩) (by dsimp only; have := HN.out; omega)).trans k0
          replace k1 := (hW.cell (p := ⟨w.heap.size, 1, none⟩) (by dsimp only; have := HN.out; omega)).trans k1
          replace k2 := (hW.cell (p := ⟨w.heap.size, 2, none⟩) (by dsimp only; have := HN.out; omega)).trans k2
          replace k3 := (hW.cell (p := ⟨w.heap.size, 3, none⟩) (by dsimp only; have := HN.out; omega)).trans k3
          replace k4 := (hW.cell (p := ⟨w.heap.size, 4, none⟩) (by dsimp only; have := HN.out; omega)).trans k4
          go_simp
          first | done | with_reducible rfl | omega
        try simp only [Act.put, List.setIfInBounds_toArray, List.set_cons_zero, List.set_cons_succ]
        refine T_ready (rs := [2, 5]) (by kernel_rfl) (by simp) ?_
        refine TReady.cons rfl (fun K hK => ?_) (TReady.cons rfl (fun K hK => ?_) TReady.nil)
        · try go_simp
          obtain ⟨e1, he1⟩ : ∃ e1, e1 = v9.heap.size := ⟨_, rfl⟩
          have HO : Hid (OwnB 4 (n9) ((v9.alloc (.cells #[] 4)).drew) (.slice (some ⟨e1, 0, none⟩) 0 0) []) := by rw [he1]; exact OwnB.empty (w := v9.drew) (by have := hS.size; have := HSB.out.size; omega)
          replace HSB : Hid (Below n9 v9 ((v9.alloc (.cells #[] 4)).drew)) := HSB.out.alloc (by have := HSB.out.size; omega) _
          refine hK.out _ _ (fun _ => hS.alloc (by have := hS.size; omega) _) (fun hS2 => ?_)
          replace hS := hS2 (by decide)
          clear hS2 hK K
          try simp only [Act.put, List.setIfInBounds_toArray, List.set_cons_zero, List.set_cons_succ]
          try simp only [← he1]
          generalize (v9.alloc (.cells #[] 4)).drew = y1 at *
          clear he1
          refine T_ready (rs := [4, 5]) (by kernel_rfl) (by simp) ?_
          refine TReady.cons rfl (fun K hK => ?_) (TReady.cons rfl (fun K hK => ?_) TReady.nil)
          · have HSR := Lib.hid ((HX9.out.below (HN9.out ▸ HSB.out)).isrc)
            refine step_appB2 (.tmp 31) (.tmp 32) rfl rfl n9 y1 _ [] A bg.length c bg bg.length rfl rfl HO HSR (by simp) rfl (by omega) (by have := hS.size; have := HSB.out.size; omega) ?_
            intro A3 c3 y2 HO3 HG3
            have hS2 : Below n0 v9 y2 := hS.grown HG3.out (by have := hS.size; omega) (fun k e => by have := (World.ownsRow.lt HO.out k e).1; omega)
            replace HSB : Hid (Below n9 v9 y2) := HSB.out.grown HG3.out (by have := HSB.out.size; omega) (fun k e => (World.ownsRow.lt HO.out k e).1)
            skip
            rw [List.nil_append] at HO3
            replace HO := HO3
            clear HSR HG3 HO3
            refine hK.out _ _ (fun _ => hS2) (fun _ => ?_)
            clear hK K hS
            have hS := hS2
            clear hS2
            try simp only [Act.put, List.setIfInBounds_toArray, List.set_cons_zero, List.set_cons_succ]
            refine T_ready (rs := [5]) (by kernel_rfl) (by simp) ?_
            refine TReady.cons rfl (fun K hK => ?_) TReady.nil
            try go_simp
            obtain ⟨q1, hq1⟩ : ∃ q1, q1 = y2.heap.size := ⟨_, rfl⟩
            have zl : (y2.alloc (.cells #[.bool false] 4)).cell? ⟨q1, 0, none⟩ = some (.bool false) := by rw [hq1]; simp
            have hql : q1 < (y2.alloc (.cells #[.bool false] 4)).heap.size := by rw [hq1]; simp
            replace HO := Lib.hid (HO.out.kept ((Below.refl y2.heap.size y2).alloc (Nat.le_refl _) (.cells #[.bool false] 4)))
            replace HSB : Hid (Below n9 v9 (y2.alloc (.cells #[.bool false] 4))) := HSB.out.alloc (by have := HSB.out.size; omega) _
            refine hK.out _ _ (fun _ => hS.alloc (by have := hS.size; omega) _) (fun hS2 => ?_)
            replace hS := hS2 (by decide)
            clear hS2 hK K
            try simp only [Act.put, List.setIfInBounds_toArray, List.set_cons_zero, List.set_cons_succ]
            try simp only [← hq1]
            generalize y2.alloc (.cells #[.bool false] 4) = y3 at *
            clear hq1
            refine T_ready (rs := [6]) (by kernel_rfl) (by simp) ?_
            refine TReady.cons rfl (fun K hK => ?_) TReady.nil
            have HSR := Lib.hid (lit_srcB zl)
            refine step_appB2 (.tmp 33) (.tmp 34) rfl rfl n9 y3 _ bg (some ⟨q1, 0, none⟩) 1 1 [false] (bg.length + 1) rfl rfl HO HSR rfl rfl (by omega) (by have := hS.size; have := HSB.out.size; omega) ?_
            intro A5 c5 y4 HO5 HG5
            have hS2 : Below n0 v9 y4 := hS.grown HG5.out (by have := hS.size; omega) (fun k e => by have := (World.ownsRow.lt HO.out k e).1; omega)
            replace HSB : Hid (Below n9 v9 y4) := HSB.out.grown HG5.out (by have := HSB.out.size; omega) (fun k e => (World.ownsRow.lt HO.out k e).1)
            skip
            replace HO := HO5
            clear HSR HG5 HO5 zl hql
            refine hK.out _ _ (fun _ => hS2) (fun _ => ?_)
            clear hK K hS
            have hS := hS2
            clear hS2
            try simp only [Act.put, List.setIfInBounds_toArray, List.set_cons_zero, List.set_cons_succ]
            refine T_ready (rs := [7]) (by kernel_rfl) (by simp) ?_
            refine TReady.cons rfl (fun K hK => ?_) TReady.nil
            try go_simp
            refine (HIH2.out false A5 c5 n9 y4 (HL9.out.step (HN9.out ▸ HSB.out)) HO.out (by have := HSB.out.size; omega)).mono ?_
            rintro e u9 ⟨A7, c7, rfl, hrs, hb⟩
            have hS2 : Below n0 v9 u9 := hS.trans (hb.mono (by have := hS.size; omega))
            have hS3 : Below n9 v9 u9 := HSB.out.trans (hb.mono (by have := HSB.out.size; omega))
            have HRT := Lib.hid hrs
            have HSS : Hid (Below v9.heap.size v9 u9) := by rw [← HN9.out]; exact hS3
            clear hrs hb HO hS3 HSB
            refine hK.out _ _ (fun _ => hS2) (fun _ => ?_)
            clear hK K hS
            have hS := hS2
            clear hS2
            try simp only [Act.put, List.setIfInBounds_toArray, List.set_cons_zero, List.set_cons_succ]
            refine T_ready (rs := [8]) (by kernel_rfl) (by simp) ?_
            refine TReady.cons rfl (fun K hK => ?_) TReady.nil
            refine step_appRs rdB sty122 (.tmp 29) (.tmp 36) rfl rfl (w0 := v9) rfl rfl HRS HSS hw9 HRT (by have := HN9.out; omega) hw9 (by have := HCF.out; have := HCT.out; omega) ?_
            intro A8 c8 t9 HR8 HB8
            refine hK.out _ _ (fun _ => HB8.out) (fun _ => ?_)
            clear hK K
            replace hS := HB8.out
            try simp only [Act.put, List.setIfInBounds_toArray, List.set_cons_zero, List.set_cons_succ]
            refine' T_take (i := 9) (v := _) rfl (by kernel_rfl) (by kernel_rfl) (by kernel_rfl) (by kernel_rfl) (fun _ _ _ h => h) (by kernel_rfl) hS ?_ ?_
            rotate_left 1
            · intro Wv hW
              replace k0 := (hW.cell (p := ⟨w.heap.size, 0, none⟩) (by dsimp only; have := HN.out; omega)).trans k0
              replace k1 := (hW.cell (p := ⟨w.heap.size, 1, none⟩) (by dsimp only; have := HN.out; omega)).trans k1
              replace k2 := (hW.cell (p := ⟨w.heap.size, 2, none⟩) (by dsimp only; have := HN.out; omega)).trans k2
              replace k3 := (hW.cell (p := ⟨w.heap.size, 3, none⟩) (by dsimp only; have := HN.out; omega)).trans k3
              replace k4 := (hW.cell (p := ⟨w.heap.size, 4, none⟩) (by dsimp only; have := HN.out; omega)).trans k4
              go_simp
              first | done | with_reducible rfl | omega
            try simp only [Act.put, List.setIfInBounds_toArray, List.set_cons_zero, List.set_cons_succ]
            refine T_done (by kernel_rfl) ?_ _
            refine NoPanic.normal ?_
            try go_simp
            have hbF : Below w.heap.size w t9 := HB9.out.trans (HB8.out.mono (by omega))
            have HBF := Lib.hid hbF
            clear hbF hS
            go_wp2_with fail
            go_ret
            have HE : all = Ft ++ F false := by rw [HCE.out]; simp
            have HEL : all.length = Ft.length + (F false).length := by rw [HE, List.length_append]
            refine ⟨A8, c8, by rw [HEL]; rfl, ?_, HBF.out⟩
            rw [HEL, HE]
            exact (HR8.out.low hlw1).lowBase hlw2
          · try go_simp
            obtain ⟨q1, hq1⟩ : ∃ q1, q1 = y1.heap.size := ⟨_, rfl⟩
            have zl : (y1.alloc (.cells #[.bool false] 4)).cell? ⟨q1, 0, none⟩ = some (.bool false) := by rw [hq1]; simp
            have hql : q1 < (y1.alloc (.cells #[.bool false] 4)).heap.size := by rw [hq1]; simp
            have hne : e1 ≠ q1 := by have h := (World.ownsRow.lt HO.out e1 rfl).2; omega
            replace HO := Lib.hid (HO.out.kept ((Below.refl y1.heap.size y1).alloc (Nat.le_refl _) (.cells #[.bool false] 4)))
            replace HSB : Hid (Below n9 v9 (y1.alloc (.cells #[.bool false] 4))) := HSB.out.alloc (by have := HSB.out.size; omega) _
            refine hK.out _ _ (fun _ => hS.alloc (by have := hS.size; omega) _) (fun hS2 => ?_)
            replace hS := hS2 (by decide)
            clear hS2 hK K
            try simp only [Act.put, List.setIfInBounds_toArray, List.set_cons_zero, List.set_cons_succ]
            try simp only [← hq1]
            generalize y1.alloc (.cells #[.bool false] 4) = y5 at *
            clear hq1
            refine T_ready (rs := [4]) (by kernel_rfl) (by simp) ?_
            refine TReady.cons rfl (fun K hK => ?_) TReady.nil
            have HSR := Lib.hid ((HX9.out.below (HN9.out ▸ HSB.out)).isrc)
            refine step_appB2 (.tmp 31) (.tmp 32) rfl rfl n9 y5 _ [] A bg.length c bg bg.length rfl rfl HO HSR (by simp) rfl (by omega) (by have := hS.size; have := HSB.out.size; omega) ?_
            intro A3 c3 y6 HO3 HG3
            have hS2 : Below n0 v9 y6 := hS.grown HG3.out (by have := hS.size; omega) (fun k e => by have := (World.ownsRow.lt HO.out k e).1; omega)
            replace HSB : Hid (Below n9 v9 y6) := HSB.out.grown HG3.out (by have := HSB.out.size; omega) (fun k e => (World.ownsRow.lt HO.out k e).1)
            skip
            replace zl := grown_cell HG3.out hql (fun e => hne (by injection e)) zl
            replace hql := Nat.lt_of_lt_of_le hql HG3.out.size
            clear hne
            rw [List.nil_append] at HO3
            replace HO := HO3
            clear HSR HG3 HO3
            refine hK.out _ _ (fun _ => hS2) (fun _ => ?_)
            clear hK K hS
            have hS := hS2
            clear hS2
            try simp only [Act.put, List.setIfInBounds_toArray, List.set_cons_zero, List.set_cons_succ]
            refine T_ready (rs := [6]) (by kernel_rfl) (by simp) ?_
            refine TReady.cons rfl (fun K hK => ?_) TReady.nil
            have HSR := Lib.hid (lit_srcB zl)
            refine step_appB2 (.tmp 33) (.tmp 34) rfl rfl n9 y6 _ bg (some ⟨q1, 0, none⟩) 1 1 [false] (bg.length + 1) rfl rfl HO HSR rfl rfl (by omega) (by have := hS.size; have := HSB.out.size; omega) ?_
            intro A5 c5 y7 HO5 HG5
            have hS2 : Below n0 v9 y7 := hS.grown HG5.out (by have := hS.size; omega) (fun k e => by have := (World.ownsRow.lt HO.out k e).1; omega)
            replace HSB : Hid (Below n9 v9 y7) := HSB.out.grown HG5.out (by have := HSB.out.size; omega) (fun k e => (World.ownsRow.lt HO.out k e).1)
            skip
            replace HO := HO5
            clear HSR HG5 HO5 zl hql
            refine hK.out _ _ (fun _ => hS2) (fun _ => ?_)
            clear hK K hS
            have hS := hS2
            clear hS2
            try simp only [Act.put, List.setIfInBounds_toArray, List.set_cons_zero, List.set_cons_succ]
            refine T_ready (rs := [7]) (by kernel_rfl) (by simp) ?_
            refine TReady.cons rfl (fun K hK => ?_) TReady.nil
            try go_simp
            refine (HIH2.out false A5 c5 n9 y7 (HL9.out.step (HN9.out ▸ HSB.out)) HO.out (by have := HSB.out.size; omega)).mono ?_
            rintro e u9 ⟨A7, c7, rfl, hrs, hb⟩
            have hS2 : Below n0 v9 u9 := hS.trans (hb.mono (by have := hS.size; omega))
            have hS3 : Below n9 v9 u9 := HSB.out.trans (hb.mono (by have := HSB.out.size; omega))
            have HRT := Lib.hid hrs
            have HSS : Hid (Below v9.heap.size v9 u9) := by rw [← HN9.out]; exact hS3
            clear hrs hb HO hS3 HSB
            refine hK.out _ _ (fun _ => hS2) (fun _ => ?_)
            clear hK K hS
            have hS := hS2
            clear hS2
            try simp only [Act.put, List.setIfInBounds_toArray, List.set_cons_zero, List.set_cons_succ]
            refine T_ready (rs := [8]) (by kernel_rfl) (by simp) ?_
            refine TReady.cons rfl (fun K hK => ?_) TReady.nil
            refine step_appRs rdB sty122 (.tmp 29) (.tmp 36) rfl rfl (w0 := v9) rfl rfl HRS HSS hw9 HRT (by have := HN9.out; omega) hw9 (by have := HCF.out; have := HCT.out; omega) ?_
            intro A8 c8 t9 HR8 HB8
            refine hK.out _ _ (fun _ => HB8.out) (fun _ => ?_)
            clear hK K
            replace hS := HB8.out
            try simp only [Act.put, List.setIfInBounds_toArray, List.set_cons_zero, List.set_cons_succ]
            refine' T_take (i := 9) (v := _) rfl (by kernel_rfl) (by kernel_rfl) (by kernel_rfl) (by kernel_rfl) (fun _ _ _ h => h) (by kernel_rfl) hS ?_ ?_
            rotate_left 1
            · intro Wv hW
              replace k0 := (hW.cell (p := ⟨w.heap.size, 0, none⟩) (by dsimp only; have := HN.out; omega)).trans k0
              replace k1 := (hW.cell (p := ⟨w.heap.size, 1, none⟩) (by dsimp only; have := HN.out; omega)).trans k1
              replace k2 := (hW.cell (p := ⟨w.heap.size, 2, none⟩) (by dsimp only; have := HN.out; omega)).trans k2
              replace k3 := (hW.cell (p := ⟨w.heap.size, 3, none⟩) (by dsimp only; have := HN.out; omega)).trans k3
              replace k4 := (hW.cell (p := ⟨w.heap.size, 4, none⟩) (by dsimp only; have := HN.out; omega)).trans k4
              go_simp
              first | done | with_reducible rfl | omega
            try simp only [Act.put, List.setIfInBounds_toArray, List.set_cons_zero, List.set_cons_succ]
            refine T_done (by kernel_rfl) ?_ _
            refine NoPanic.normal ?_
            try go_simp
            have hbF : Below w.heap.size w t9 := HB9.out.trans (HB8.out.mono (by omega))
            have HBF := Lib.hid hbF
            clear hbF hS
            go_wp2_with fail
            go_ret
            have HE : all = Ft ++ F false := by rw [HCE.out]; simp
            have HEL : all.length = Ft.length + (F false).length := by rw [HE, List.length_append]
            refine ⟨A8, c8, by rw [HEL]; rfl, ?_, HBF.out⟩
            rw [HEL, HE]
            exact (HR8.out.low hlw1).lowBase hlw2
        · try go_simp
          obtain ⟨q1, hq1⟩ : ∃ q1, q1 = v9.heap.size := ⟨_, rfl⟩
          have zl : ((v9.alloc (.cells #[.bool false] 4)).drew).cell? ⟨q1, 0, none⟩ = some (.bool false) := by rw [hq1]; simp
          have hql : q1 < ((v9.alloc (.cells #[.bool false] 4)).drew).heap.size := by rw [hq1]; simp
          replace HSB : Hid (Below n9 v9 ((v9.alloc (.cells #[.bool false] 4)).drew)) := HSB.out.alloc (by have := HSB.out.size; omega) _
          refine hK.out _ _ (fun _ => hS.alloc (by have := hS.size; omega) _) (fun hS2 => ?_)
          replace hS := hS2 (by decide)
          clear hS2 hK K
          try simp only [Act.put, List.setIfInBounds_toArray, List.set_cons_zero, List.set_cons_succ]
          try simp only [← hq1]
          generalize (v9.alloc (.cells #[.bool false] 4)).drew = y8 at *
          clear hq1
          refine T_ready (rs := [2]) (by kernel_rfl) (by simp) ?_
          refine TReady.cons rfl (fun K hK => ?_) TReady.nil
          try go_simp
          obtain ⟨e1, he1⟩ : ∃ e1, e1 = y8.heap.size := ⟨_, rfl⟩
          have HO : Hid (OwnB 4 (n9) (y8.alloc (.cells #[] 4)) (.slice (some ⟨e1, 0, none⟩) 0 0) []) := by rw [he1]; exact OwnB.empty (w := y8) (by have := hS.size; have := HSB.out.size; omega)
          have hne : e1 ≠ q1 := by omega
          replace zl := cell_alloc_keep (.cells #[] 4) zl
          replace hql : q1 < (y8.alloc (.cells #[] 4)).heap.size := Nat.lt_of_lt_of_le hql (by simp)
          replace HSB : Hid (Below n9 v9 (y8.alloc (.cells #[] 4))) := HSB.out.alloc (by have := HSB.out.size; omega) _
          refine hK.out _ _ (fun _ => hS.alloc (by have := hS.size; omega) _) (fun hS2 => ?_)
          replace hS := hS2 (by decide)
          clear hS2 hK K
          try simp only [Act.put, List.setIfInBounds_toArray, List.set_cons_zero, List.set_cons_succ]
          try simp only [← he1]
          generalize y8.alloc (.cells #[] 4) = y9 at *
          clear he1
          refine T_ready (rs := [4]) (by kernel_rfl) (by simp) ?_
          refine TReady.cons rfl (fun K hK => ?_) TReady.nil
          have HSR := Lib.hid ((HX9.out.below (HN9.out ▸ HSB.out)).isrc)
          refine step_appB2 (.tmp 31) (.tmp 32) rfl rfl n9 y9 _ [] A bg.length c bg bg.length rfl rfl HO HSR (by simp) rfl (by omega) (by have := hS.size; have := HSB.out.size; omega) ?_
          intro A3 c3 y10 HO3 HG3
          have hS2 : Below n0 v9 y10 := hS.grown HG3.out (by have := hS.size; omega) (fun k e => by have := (World.ownsRow.lt HO.out k e).1; omega)
          replace HSB : Hid (Below n9 v9 y10) := HSB.out.grown HG3.out (by have := HSB.out.size; omega) (fun k e => (World.ownsRow.lt HO.out k e).1)
          skip
          replace zl := grown_cell HG3.out hql (fun e => hne (by injection e)) zl
          replace hql := Nat.lt_of_lt_of_le hql HG3.out.size
          clear hne
          rw [List.nil_append] at HO3
          replace HO := HO3
          clear HSR HG3 HO3
          refine hK.out _ _ (fun _ => hS2) (fun _ => ?_)
          clear hK K hS
          have hS := hS2
          clear hS2
          try simp only [Act.put, List.setIfInBounds_toArray, List.set_cons_zero, List.set_cons_succ]
          refine T_ready (rs := [6]) (by kernel_rfl) (by simp) ?_
          refine TReady.cons rfl (fun K hK => ?_) TReady.nil
          have HSR := Lib.hid (lit_srcB zl)
          refine step_appB2 (.tmp 33) (.tmp 34) rfl rfl n9 y10 _ bg (some ⟨q1, 0, none⟩) 1 1 [false] (bg.length + 1) rfl rfl HO HSR rfl rfl (by omega) (by have := hS.size; have := HSB.out.size; omega) ?_
          intro A5 c5 y11 HO5 HG5
          have hS2 : Below n0 v9 y11 := hS.grown HG5.out (by have := hS.size; omega) (fun k e => by have := (World.ownsRow.lt HO.out k e).1; omega)
          replace HSB : Hid (Below n9 v9 y11) := HSB.out.grown HG5.out (by have := HSB.out.size; omega) (fun k e => (World.ownsRow.lt HO.out k e).1)
          skip
          replace HO := HO5
          clear HSR HG5 HO5 zl hql
          refine hK.out _ _ (fun _ => hS2) (fun _ => ?_)
          clear hK K hS
          have hS := hS2
          clear hS2
          try simp only [Act.put, List.setIfInBounds_toArray, List.set_cons_zero, List.set_cons_succ]
          refine T_ready (rs := [7]) (by kernel_rfl) (by simp) ?_
          refine TReady.cons rfl (fun K hK => ?_) TReady.nil
          try go_simp
          refine (HIH2.out false A5 c5 n9 y11 (HL9.out.step (HN9.out ▸ HSB.out)) HO.out (by have := HSB.out.size; omega)).mono ?_
          rintro e u9 ⟨A7, c7, rfl, hrs, hb⟩
          have hS2 : Below n0 v9 u9 := hS.trans (hb.mono (by have := hS.size; omega))
          have hS3 : Below n9 v9 u9 := HSB.out.trans (hb.mono (by have := HSB.out.size; omega))
          have HRT := Lib.hid hrs
          have HSS : Hid (Below v9.heap.size v9 u9) := by rw [← HN9.out]; exact hS3
          clear hrs hb HO hS3 HSB
          refine hK.out _ _ (fun _ => hS2) (fun _ => ?_)
          clear hK K hS
          have hS := hS2
          clear hS2
          try simp only [Act.put, List.setIfInBounds_toArray, List.set_cons_zero, List.set_cons_succ]
          refine T_ready (rs := [8]) (by kernel_rfl) (by simp) ?_
          refine TReady.cons rfl (fun K hK => ?_) TReady.nil
          refine step_appRs rdB sty122 (.tmp 29) (.tmp 36) rfl rfl (w0 := v9) rfl rfl HRS HSS hw9 HRT (by have := HN9.out; omega) hw9 (by have := HCF.out; have := HCT.out; omega) ?_
          intro A8 c8 t9 HR8 HB8
          refine hK.out _ _ (fun _ => HB8.out) (fun _ => ?_)
          clear hK K
          replace hS := HB8.out
          try simp only [Act.put, List.setIfInBounds_toArray, List.set_cons_zero, List.set_cons_succ]
          refine' T_take (i := 9) (v := _) rfl (by kernel_rfl) (by kernel_rfl) (by kernel_rfl) (by kernel_rfl) (fun _ _ _ h => h) (by kernel_rfl) hS ?_ ?_
          rotate_left 1
          · intro Wv hW
            replace k0 := (hW.cell (p := ⟨w.heap.size, 0, none⟩) (by dsimp only; have := HN.out; omega)).trans k0
            replace k1 := (hW.cell (p := ⟨w.heap.size, 1, none⟩) (by dsimp only; have := HN.out; omega)).trans k1
            replace k2 := (hW.cell (p := ⟨w.heap.size, 2, none⟩) (by dsimp only; have := HN.out; omega)).trans k2
            replace k3 := (hW.cell (p := ⟨w.heap.size, 3, none⟩) (by dsimp only; have := HN.out; omega)).trans k3
            replace k4 := (hW.cell (p := ⟨w.heap.size, 4, none⟩) (by dsimp only; have := HN.out; omega)).trans k4
            go_simp
            first | done | with_reducible rfl | omega
          try simp only [Act.put, List.setIfInBounds_toArray, List.set_cons_zero, List.set_cons_succ]
          refine T_done (by kernel_rfl) ?_ _
          refine NoPanic.normal ?_
          try go_simp
          have hbF : Below w.heap.size w t9 := HB9.out.trans (HB8.out.mono (by omega))
          have HBF := Lib.hid hbF
          clear hbF hS
          go_wp2_with fail
          go_ret
          have HE : all = Ft ++ F false := by rw [HCE.out]; simp
          have HEL : all.length = Ft.length + (F false).length := by rw [HE, List.length_append]
          refine ⟨A8, c8, by rw [HEL]; rfl, ?_, HBF.out⟩
          rw [HEL, HE]
          exact (HR8.out.low hlw1).lowBase hlw2
      · have HCE := Lib.hid HCL2.out
        clear es HCL2 HCN2
        generalize F true = Ft at *
        go_wp2_with fail
        go_ret
        exact ⟨A6, c6, by rw [HCE.out]; simp, by rw [HCE.out]; simp only [if_true, List.append_nil]; exact (HRS.out.low hlw1).lowBase hlw2, HB9.out⟩
end

section

open Go.RowKit
set_option linter.unusedSimpArgs false
set_option linter.unusedVariables false

attribute [local go_sem] Oper.semAt_some
/-- What is left by one truth, as the reference works it out. -/
noncomputable def leafL (r : Rk) (xs : List Int) (ys : List Int) (cs : List Bool) : List Int := minusL xs (natsI (listS (felledS r (pinS r xs) (ix ys) (bx cs))))
theorem leafL_is {r : Rk} {xs ys : List Int} {cs : List Bool} (he : pinErr r xs = 0) : leafL r xs ys cs = natsI (listS (leftS r (pinS r xs) (ix ys) (bx cs))) := fallen_left he
def rowsAt {α : Type} (L : List (List α)) (k : Nat) : List α := L.getD k []
/-- Those of the first i boards, and the first k ways to carry of the next one. -/
noncomputable def leafK (r : Rk) (xs : List Int) (bs : List (List Int)) (cs : List (List Bool)) (i k : Nat) : List (List Int) := ((bs.take i).flatMap fun ys => cs.map fun c => leafL r xs ys c) ++ ((cs.take k).map fun c => leafL r xs (rowsAt bs i) c)
theorem leafK_0 {r : Rk} {xs : List Int} {bs : List (List Int)} {cs : List (List Bool)} : leafK r xs bs cs 0 0 = [] := by simp [leafK]
theorem leafK_k {r : Rk} {xs : List Int} {bs : List (List Int)} {cs : List (List Bool)} {i k : Nat} (hk : k < cs.length) : leafK r xs bs cs i (k + 1) = leafK r xs bs cs i k ++ [leafL r xs (rowsAt bs i) (rowsAt cs k)] := by
  unfold leafK
  rw [List.take_succ_eq_append_getElem hk, List.map_append, List.append_assoc]
  simp [rowsAt, hk]
theorem leafK_i {r : Rk} {xs : List Int} {bs : List (List Int)} {cs : List (List Bool)} {i : Nat} (hi : i < bs.length) : leafK r xs bs cs (i + 1) 0 = leafK r xs bs cs i cs.length := by
  unfold leafK
  rw [List.take_succ_eq_append_getElem hi, List.flatMap_append, List.take_length]
  simp [rowsAt, hi]
theorem leafK_all {r : Rk} {xs : List Int} {ball : List Rg} (he : pinErr r xs = 0) : leafK r xs (bL ball ball.length []) (cL r.links r.links.length []) (bL ball ball.length []).length 0 = leavesL r (pinS r xs) ball := by
  unfold leafK leavesL
  rw [List.take_length]
  simp only [List.take_zero, List.map_nil, List.append_nil]
  congr 1
  funext ys
  congr 1
  funext cs
  exact leafL_is he
theorem leafK_len {r : Rk} {xs : List Int} {bs : List (List Int)} {cs : List (List Bool)} {i k : Nat} (hi : i ≤ bs.length) (hk : k ≤ cs.length) : (leafK r xs bs cs i k).length ≤ bs.length * cs.length + cs.length := by
  unfold leafK
  rw [List.length_append, List.length_map, List.length_take, List.length_flatMap]
  have : ∀ l : List (List Int), (l.map fun ys => (cs.map fun c => leafL r xs ys c).length).sum = l.length * cs.length := by
    intro l
    induction l with
    | nil => simp
    | cons x l ih => rw [List.map_cons, List.sum_cons, ih, List.length_cons, Nat.add_mul, List.length_map]; omega
  rw [this, List.length_take, Nat.min_eq_left hi]
  have := Nat.mul_le_mul_right cs.length hi
  omega
set_option maxRecDepth 100000 in
set_option maxHeartbeats 16000000 in
theorem leaves34_c (r : Rk) (A xA Ab : Option Addr) (c cx cb : Nat) (xs : List Int) (ball : List Rg) (w : World) (hl : Lks w.heap.size w A r.links) (hc : r.links.length ≤ c ∧ c ≤ 9223372036854775807) (hx : Ints w.heap.size w xA xs) (hcx : xs.length ≤ cx ∧ cx ≤ 9223372036854775807) (hball : Rgs w.heap.size w Ab ball) (hcb : ball.length ≤ cb ∧ cb ≤ 9223372036854775807)
    (he : pinErr r xs = 0) (hbr : ball.length = r.rows.toNat) (hb4 : ball.length ≤ 4) (hl12 : r.links.length ≤ 12) (hx10 : xs.length ≤ 10) (hcl : (cL r.links r.links.length []).length ≤ 64) (hrg : ∀ k, k < ball.length → 0 ≤ (gx ball k).lo ∧ (gx ball k).lo ≤ (gx ball k).hi ∧ (gx ball k).hi ≤ 60 ∧ (gx ball k).hi - (gx ball k).lo ≤ 8) :
    Calls Try.prog 34 #[.agg #[.int .i64 r.rows, .int .i64 r.mid, .int .i64 r.gap, .int .i64 r.reach, .slice A r.links.length c], .slice xA xs.length cx, .slice Ab ball.length cb] w (NewRs RdI 25 w.heap.size w (leavesL r (pinS r xs) ball)) := by
  have HB := Lib.hid (Below.refl w.heap.size w)
  have HL := Lib.hid hl
  have HX := Lib.hid hx
  have HBa := Lib.hid hball
  clear hl hx hball
  have HBO := Lib.hid (fun (Ab4 : Option Addr) (W : World) h1 h2 => boards70_c Ab4 cb ball hcb hb4 hrg ball.length [] none 0 0 W (by simp) h1 h2 ⟨Nat.le_refl _, by omega⟩ (fun b h => by cases h) (Nat.zero_le _))
  have HCA := Lib.hid (fun (A4 : Option Addr) (W : World) h1 h2 => carries71_c r A4 c hc hl12 r.links.length [] none 0 0 W (by simp) h1 h2 ⟨Nat.le_refl _, by omega⟩ (fun b h => by cases h) (Nat.zero_le _))
  have HLALL := Lib.hid (leafK_all (ball := ball) he)
  have HBM : Hid (∀ i, i < (bL ball ball.length []).length → (rowsAt (bL ball ball.length []) i).length = r.rows.toNat ∧ ∀ k, k < (rowsAt (bL ball ball.length []) i).length → -1000 ≤ ix (rowsAt (bL ball ball.length []) i) k ∧ ix (rowsAt (bL ball ball.length []) i) k ≤ 1000) := fun i hi => by
    have hm : rowsAt (bL ball ball.length []) i ∈ bL ball ball.length [] := by simp only [rowsAt, List.getD_eq_getElem?_getD, List.getElem?_eq_getElem hi, Option.getD_some]; exact List.getElem_mem hi
    obtain ⟨a1, -, a3⟩ := (mem_bL ball.length [] (by simp)).1 hm
    refine ⟨by omega, fun k hk => ?_⟩
    have h1 := a3 k (by simp) (by omega)
    have h2 := hrg k (by omega)
    omega
  have HCM : Hid (∀ i, i < (cL r.links r.links.length []).length → (rowsAt (cL r.links r.links.length []) i).length = r.links.length) := fun i hi => by
    have hm : rowsAt (cL r.links r.links.length []) i ∈ cL r.links r.links.length [] := by simp only [rowsAt, List.getD_eq_getElem?_getD, List.getElem?_eq_getElem hi, Option.getD_some]; exact List.getElem_mem hi
    exact ((mem_cL r.links.length [] (by simp)).1 hm).1
  have HBL : Hid ((bL ball ball.length []).length ≤ 6561) := Nat.le_trans (bL_len (fun k hk => (hrg k hk).2.2.2) ball.length [] (by simp)) (Nat.le_trans (Nat.pow_le_pow_right (by omega) hb4) (by decide))
  have HCLn : Hid ((cL r.links r.links.length []).length ≤ 64) := hcl
  have hlen : r.links.length ≤ 1000000 := by omega
  have hxl : xs.length ≤ 1000000 := by omega
  clear hrg hcl hbr
  generalize bL ball ball.length [] = bs at *
  generalize cL r.links r.links.length [] = cs at *
  have hb : Below w.heap.size w (w.alloc (.cells #[.int .i64 r.rows, .int .i64 r.mid, .int .i64 r.gap, .int .i64 r.reach, .slice A r.links.length c] 24)) := (Below.refl _ _).alloc (Nat.le_refl _) _
  replace HL := Lib.hid (HL.out.step hb)
  replace HX := Lib.hid (HX.out.step hb)
  replace HBa := Lib.hid (HBa.out.step hb)
  replace HB := Lib.hid (HB.out.trans (hb.mono HB.out.size))
  clear hb
  have k0 : (w.alloc (.cells #[.int .i64 r.rows, .int .i64 r.mid, .int .i64 r.gap, .int .i64 r.reach, .slice A r.links.length c] 24)).cell? ⟨w.heap.size, 0, none⟩ = some (.int .i64 r.rows) := by simp
  have k1 : (w.alloc (.cells #[.int .i64 r.rows, .int .i64 r.mid, .int .i64 r.gap, .int .i64 r.reach, .slice A r.links.length c] 24)).cell? ⟨w.heap.size, 1, none⟩ = some (.int .i64 r.mid) := by simp
  have k2 : (w.alloc (.cells #[.int .i64 r.rows, .int .i64 r.mid, .int .i64 r.gap, .int .i64 r.reach, .slice A r.links.length c] 24)).cell? ⟨w.heap.size, 2, none⟩ = some (.int .i64 r.gap) := by simp
  have k3 : (w.alloc (.cells #[.int .i64 r.rows, .int .i64 r.mid, .int .i64 r.gap, .int .i64 r.reach, .slice A r.links.length c] 24)).cell? ⟨w.heap.size, 3, none⟩ = some (.int .i64 r.reach) := by simp
  have k4 : (w.alloc (.cells #[.int .i64 r.rows, .int .i64 r.mid, .int .i64 r.gap, .int .i64 r.reach, .slice A r.links.length c] 24)).cell? ⟨w.heap.size, 4, none⟩ = some (.slice A r.links.length c) := by simp
  go_enter Try.func34, Try.ntmps34
  go_wp2_with fail
  generalize (w.alloc (.cells #[.int .i64 r.rows, .int .i64 r.mid, .int .i64 r.gap, .int .i64 r.reach, .slice A r.links.length c] 24)) = x1 at *
  have ltk0 := World.block_lt_of_cell? _ _ k0
  dsimp only at ltk0
  refine wp_region_noPanic ?_
  have hS : (fun W' : World => Below x1.heap.size x1 W') x1.drew := (Below.refl _ _).drew
  refine wp_region_any (by kernel_rfl) (wpAny_of_T (S := fun W' : World => Below x1.heap.size x1 W') (m := 6) _ _ _ _ ?_)
  refine' T_take (i := 0) (v := _) rfl (by kernel_rfl) (by kernel_rfl) (by kernel_rfl) (by kernel_rfl) (fun _ _ _ h => h) (by kernel_rfl) hS ?_ ?_
  rotate_left 1
  · intro Wv hW
    replace k0 := cell_of_ans hW k0
    replace k1 := cell_of_ans hW k1
    replace k2 := cell_of_ans hW k2
    replace k3 := cell_of_ans hW k3
    replace k4 := cell_of_ans hW k4
    go_simp
    first | done | with_reducible rfl | omega
  try simp only [Act.put, List.setIfInBounds_toArray, List.set_cons_zero, List.set_cons_succ]
  refine' T_take (i := 2) (v := _) rfl (by kernel_rfl) (by kernel_rfl) (by kernel_rfl) (by kernel_rfl) (fun _ _ _ h => h) (by kernel_rfl) hS ?_ ?_
  rotate_left 1
  · intro Wv hW
    replace k0 := cell_of_ans hW k0
    replace k1 := cell_of_ans hW k1
    replace k2 := cell_of_ans hW k2
    replace k3 := cell_of_ans hW k3
    replace k4 := cell_of_ans hW k4
    go_simp
    first | done | with_reducible rfl | omega
  try simp only [Act.put, List.setIfInBounds_toArray, List.set_cons_zero, List.set_cons_succ]
  refine T_ready (rs := [1]) (by kernel_rfl) (by simp) ?_
  refine TReady.cons rfl (fun K hK => ?_) TReady.nil
  try go_simp
  refine (HBO.out Ab _ (HBa.out.step hS) (fun hp => by simp at hp)).mono ?_
  rintro e v1 ⟨BA, bc, rfl, hrs, hb⟩
  have HRB := Lib.hid hrs
  have hS2 : Below x1.heap.size x1 v1 := hS.trans (hb.mono hS.size)
  clear hrs hb
  try go_simp
  refine hK.out _ _ (fun _ => hS2) (fun _ => ?_)
  clear hK K hS
  have hS := hS2
  clear hS2
  try simp only [Act.put, List.setIfInBounds_toArray, List.set_cons_zero, List.set_cons_succ]
  refine T_ready (rs := [3]) (by kernel_rfl) (by simp) ?_
  refine TReady.cons rfl (fun K hK => ?_) TReady.nil
  try go_simp
  refine (HCA.out A _ (HL.out.step hS) (fun hp => by simp at hp)).mono ?_
  rintro e v2 ⟨CA, cc, rfl, hrs, hb⟩
  replace HRB := Lib.hid (HRB.out.kept rdI hb)
  have HRC := Lib.hid hrs
  have hS2 : Below x1.heap.size x1 v2 := hS.trans (hb.mono hS.size)
  clear hrs hb
  try go_simp
  refine hK.out _ _ (fun _ => hS2) (fun _ => ?_)
  clear hK K hS
  have hS := hS2
  clear hS2
  try simp only [Act.put, List.setIfInBounds_toArray, List.set_cons_zero, List.set_cons_succ]
  refine' T_take (i := 4) (v := _) rfl (by kernel_rfl) (by kernel_rfl) (by kernel_rfl) (by kernel_rfl) (fun _ _ _ h => h) (by kernel_rfl) hS ?_ ?_
  rotate_left 1
  · intro Wv hW
    replace k0 := cell_of_ans hW k0
    replace k1 := cell_of_ans hW k1
    replace k2 := cell_of_ans hW k2
    replace k3 := cell_of_ans hW k3
    replace k4 := cell_of_ans hW k4
    go_simp
    first | done | with_reducible rfl | omega
  try simp only [Act.put, List.setIfInBounds_toArray, List.set_cons_zero, List.set_cons_succ]
  refine' T_take (i := 5) (v := _) rfl (by kernel_rfl) (by kernel_rfl) (by kernel_rfl) (by kernel_rfl) (fun _ _ _ h => h) (by kernel_rfl) hS ?_ ?_
  rotate_left 1
  · intro Wv hW
    replace k0 := cell_of_ans hW k0
    replace k1 := cell_of_ans hW k1
    replace k2 := cell_of_ans hW k2
    replace k3 := cell_of_ans hW k3
    replace k4 := cell_of_ans hW k4
    go_simp
    first | done | with_reducible rfl | omega
  try simp only [Act.put, List.setIfInBounds_toArray, List.set_cons_zero, List.set_cons_succ]
  refine T_done (by kernel_rfl) ?_ _
  refine NoPanic.normal ?_
  try go_simp
  have hb := hS
  clear hS
  replace HL := Lib.hid (HL.out.step hb)
  replace HX := Lib.hid (HX.out.step hb)
  replace HBa := Lib.hid (HBa.out.step hb)
  replace k0 := cell_of_ans hb k0
  replace k1 := cell_of_ans hb k1
  replace k2 := cell_of_ans hb k2
  replace k3 := cell_of_ans hb k3
  replace k4 := cell_of_ans hb k4
  replace HB := Lib.hid (HB.out.trans (hb.mono HB.out.size))
  clear hb
  clear HBO HCA HBa
  have hcl6 : cs.length ≤ 64 := HCLn.out
  have hbl6 : bs.length ≤ 6561 := HBL.out
  have ltk1 := World.block_lt_of_cell? _ _ k0
  dsimp only at ltk1
  go_wp2_with fail
  go_loopw [7, 10, 11] (fun o i k wr => ∃ (ii : Nat) (A' : Option Addr) (c' : Nat), ii ≤ bs.length ∧ i = .int .i64 ii ∧ o = .slice A' (leafK r xs bs cs ii 0).length c' ∧ Rs RdI 25 v2.heap.size v2.heap.size wr (.slice A' (leafK r xs bs cs ii 0).length c') (leafK r xs bs cs ii 0) ∧ Below v2.heap.size v2 wr) (fun _ i _ _ => bs.length - (intOf i).toNat)
  case atStart => exact ⟨0, none, 0, by omega, rfl, by rw [leafK_0]; rfl, by rw [leafK_0]; exact Rs.nil, Below.refl _ _⟩
  case round =>
    obtain ⟨i, A1, c1, hi, rfl, rfl, hrs, hb⟩ := hrel
    have HRS := Lib.hid hrs
    have HBR := Lib.hid hb
    clear hrs hb
    by_cases h1 : i < bs.length
    · have h1i : (i : Int) < (bs.length : Int) := by omega
      have HI1 := Lib.hid (leafK_i (r := r) (xs := xs) (bs := bs) (cs := cs) h1)
      obtain ⟨gb, cb1, ub, eb, -, -, hgb, czb, hrb⟩ := HRB.out.at_ h1
      obtain ⟨By, cy, rfl, hy1, hy2, hy3⟩ := hrb
      injection eb with eb1 eb2 eb3
      have HBi := Lib.hid (HBM.out i h1)
      have eR : rowsAt bs i = bs[i] := by simp [rowsAt, h1]
      rw [← eR] at czb hy1 hy3
      generalize hys : rowsAt bs i = ys at *
      subst eb1
      have HY := Lib.hid hy3
      clear hy3 eR eb2 eb3 cb1
      go_wp2_with fail
      generalize wr = wo at *
      go_loopw [7, 11] (fun o k wr => ∃ (kk : Nat) (A' : Option Addr) (c' : Nat), kk ≤ cs.length ∧ k = .int .i64 kk ∧ o = .slice A' (leafK r xs bs cs i kk).length c' ∧ Rs RdI 25 v2.heap.size v2.heap.size wr (.slice A' (leafK r xs bs cs i kk).length c') (leafK r xs bs cs i kk) ∧ Below v2.heap.size v2 wr) (fun _ k _ => cs.length - (intOf k).toNat)
      case atStart => exact ⟨0, A1, c1, by omega, rfl, rfl, HRS.out, HBR.out⟩
      case round =>
        clear HRS HBR
        obtain ⟨k, A2, c2, hk, rfl, rfl, hrs, hb⟩ := hrel
        have HRS := Lib.hid hrs
        have HBR := Lib.hid hb
        by_cases h2 : k < cs.length
        · have h2i : (k : Int) < (cs.length : Int) := by omega
          have HK1 := Lib.hid (leafK_k (r := r) (xs := xs) (bs := bs) (cs := cs) (i := i) h2)
          rw [hys] at HK1
          obtain ⟨gc, cc1, uc, ec, -, -, hgc, czc, hrc⟩ := HRC.out.at_ h2
          obtain ⟨Bz, cz, rfl, hz1, hz2, hz3⟩ := hrc
          injection ec with ec1 ec2 ec3
          have HCi := Lib.hid (HCM.out k h2)
          have eR : rowsAt cs k = cs[k] := by simp [rowsAt, h2]
          rw [← eR] at czc hz1 hz3
          have HKL : Hid ((leafK r xs bs cs i k).length + 1 ≤ 1000000) := by
            show _ ≤ _
            have h3 := leafK_len (r := r) (xs := xs) (bs := bs) (cs := cs) hi hk
            have h4 := HBL.out
            have h5 := HCLn.out
            have h6 : bs.length * cs.length ≤ 6561 * 64 := Nat.mul_le_mul h4 h5
            omega
          generalize hzs : rowsAt cs k = zs at *
          subst ec1
          have HZ := Lib.hid hz3
          have czb2 := cell_of_ans hb czb
          have czc2 := cell_of_ans hb czc
          replace k0 := cell_of_ans hb k0
          replace k1 := cell_of_ans hb k1
          replace k2 := cell_of_ans hb k2
          replace k3 := cell_of_ans hb k3
          replace k4 := cell_of_ans hb k4
          have HLr := Lib.hid (HL.out.step hb)
          have HXr := Lib.hid (HX.out.step hb)
          have HYr := Lib.hid (HY.out.step hb)
          have HZr := Lib.hid (HZ.out.step hb)
          have hwr := hb.size
          have ltb := World.block_lt_of_cell? _ _ czb2
          have ltc := World.block_lt_of_cell? _ _ czc2
          have ltk := World.block_lt_of_cell? _ _ k0
          dsimp only at ltb ltc ltk
          have HFA := Lib.hid (fun (W : World) h1 h2 h3 h4 => fallen46_c r A xA By Bz c cx cy cz xs ys zs W h1 hc h2 hcx h3 ⟨hy1, hy2⟩ h4 ⟨hz1, hz2⟩ he HBi.out.1 HBi.out.2 HCi.out)
          have HLE : Hid (leafL r xs ys zs = minusL xs (natsI (listS (felledS r (pinS r xs) (ix ys) (bx zs))))) := rfl
          generalize natsI (listS (felledS r (pinS r xs) (ix ys) (bx zs))) = fl at *
          generalize hlf : leafL r xs ys zs = lf at *
          generalize hlk : leafK r xs bs cs i k = lk at *
          clear hb hrs eR ec2 ec3 cc1 czb czc hz3 hlf
          go_upto_region 9 with fail
          have HSB : Hid (Below wr.heap.size wr wr.drew) := (Below.refl _ _).drew
          refine wp_region_noPanic ?_
          have hS : (fun W' : World => Below v2.heap.size wr W') wr.drew := (Below.refl _ _).drew
          refine wp_region_any (by kernel_rfl) (wpAny_of_T (S := fun W' : World => Below v2.heap.size wr W') (m := 17) _ _ _ _ ?_)
          refine' T_take (i := 0) (v := _) rfl (by kernel_rfl) (by kernel_rfl) (by kernel_rfl) (by kernel_rfl) (fun _ _ _ h => h) (by kernel_rfl) hS ?_ ?_
          rotate_left 1
          · intro Wv hW
            replace k0 := (hW.cell (p := ⟨w.heap.size, 0, none⟩) ltk1).trans k0
            replace k1 := (hW.cell (p := ⟨w.heap.size, 1, none⟩) ltk1).trans k1
            replace k2 := (hW.cell (p := ⟨w.heap.size, 2, none⟩) ltk1).trans k2
            replace k3 := (hW.cell (p := ⟨w.heap.size, 3, none⟩) ltk1).trans k3
            replace k4 := (hW.cell (p := ⟨w.heap.size, 4, none⟩) ltk1).trans k4
            replace czb2 := (hW.cell (p := ⟨gb, i, none⟩) hgb).trans czb2
            replace czc2 := (hW.cell (p := ⟨gc, k, none⟩) hgc).trans czc2
            go_simp
            first | done | with_reducible rfl | omega
          try simp only [Act.put, List.setIfInBounds_toArray, List.set_cons_zero, List.set_cons_succ]
          refine' T_take (i := 1) (v := _) rfl (by kernel_rfl) (by kernel_rfl) (by kernel_rfl) (by kernel_rfl) (fun _ _ _ h => h) (by kernel_rfl) hS ?_ ?_
          rotate_left 1
          · intro Wv hW
            replace k0 := (hW.cell (p := ⟨w.heap.size, 0, none⟩) ltk1).trans k0
            replace k1 := (hW.cell (p := ⟨w.heap.size, 1, none⟩) ltk1).trans k1
            replace k2 := (hW.cell (p := ⟨w.heap.size, 2, none⟩) ltk1).trans k2
            replace k3 := (hW.cell (p := ⟨w.heap.size, 3, none⟩) ltk1).trans k3
            replace k4 := (hW.cell (p := ⟨w.heap.size, 4, none⟩) ltk1).trans k4
            replace czb2 := (hW.cell (p := ⟨gb, i, none⟩) hgb).trans czb2
            replace czc2 := (hW.cell (p := ⟨gc, k, none⟩) hgc).trans czc2
            go_simp
            first | done | with_reducible rfl | omega
          try simp only [Act.put, List.setIfInBounds_toArray, List.set_cons_zero, List.set_cons_succ]
          refine' T_take (i := 2) (v := _) rfl (by kernel_rfl) (by kernel_rfl) (by kernel_rfl) (by kernel_rfl) (fun _ _ _ h => h) (by kernel_rfl) hS ?_ ?_
          rotate_left 1
          · intro Wv hW
            replace k0 := (hW.cell (p := ⟨w.heap.size, 0, none⟩) ltk1).trans k0
            replace k1 := (hW.cell (p := ⟨w.heap.size, 1, none⟩) ltk1).trans k1
            replace k2 := (hW.cell (p := ⟨w.heap.size, 2, none⟩) ltk1).trans k2
            replace k3 := (hW.cell (p := ⟨w.heap.size, 3, none⟩) ltk1).trans k3
            replace k4 := (hW.cell (p := ⟨w.heap.size, 4, none⟩) ltk1).trans k4
            replace czb2 := (hW.cell (p := ⟨gb, i, none⟩) hgb).trans czb2
            replace czc2 := (hW.cell (p := ⟨gc, k, none⟩) hgc).trans czc2
            go_simp
            first | done | with_reducible rfl | omega
          try simp only [Act.put, List.setIfInBounds_toArray, List.set_cons_zero, List.set_cons_succ]
          refine' T_take (i := 3) (v := _) rfl (by kernel_rfl) (by kernel_rfl) (by kernel_rfl) (by kernel_rfl) (fun _ _ _ h => h) (by kernel_rfl) hS ?_ ?_
          rotate_left 1
          · intro Wv hW
            replace k0 := (hW.cell (p := ⟨w.heap.size, 0, none⟩) ltk1).trans k0
            replace k1 := (hW.cell (p := ⟨w.heap.size, 1, none⟩) ltk1).trans k1
            replace k2 := (hW.cell (p := ⟨w.heap.size, 2, none⟩) ltk1).trans k2
            replace k3 := (hW.cell (p := ⟨w.heap.size, 3, none⟩) ltk1).trans k3
            replace k4 := (hW.cell (p := ⟨w.heap.size, 4, none⟩) ltk1).trans k4
            replace czb2 := (hW.cell (p := ⟨gb, i, none⟩) hgb).trans czb2
            replace czc2 := (hW.cell (p := ⟨gc, k, none⟩) hgc).trans czc2
            go_simp
            first | done | with_reducible rfl | omega
          try simp only [Act.put, List.setIfInBounds_toArray, List.set_cons_zero, List.set_cons_succ]
          refine' T_take (i := 4) (v := _) rfl (by kernel_rfl) (by kernel_rfl) (by kernel_rfl) (by kernel_rfl) (fun _ _ _ h => h) (by kernel_rfl) hS ?_ ?_
          rotate_left 1
          · intro Wv hW
            replace k0 := (hW.cell (p := ⟨w.heap.size, 0, none⟩) ltk1).trans k0
            replace k1 := (hW.cell (p := ⟨w.heap.size, 1, none⟩) ltk1).trans k1
            replace k2 := (hW.cell (p := ⟨w.heap.size, 2, none⟩) ltk1).trans k2
            replace k3 := (hW.cell (p := ⟨w.heap.size, 3, none⟩) ltk1).trans k3
            replace k4 := (hW.cell (p := ⟨w.heap.size, 4, none⟩) ltk1).trans k4
            replace czb2 := (hW.cell (p := ⟨gb, i, none⟩) hgb).trans czb2
            replace czc2 := (hW.cell (p := ⟨gc, k, none⟩) hgc).trans czc2
            go_simp
            first | done | with_reducible rfl | omega
          try simp only [Act.put, List.setIfInBounds_toArray, List.set_cons_zero, List.set_cons_succ]
          refine' T_take (i := 5) (v := _) rfl (by kernel_rfl) (by kernel_rfl) (by kernel_rfl) (by kernel_rfl) (fun _ _ _ h => h) (by kernel_rfl) hS ?_ ?_
          rotate_left 1
          · intro Wv hW
            replace k0 := (hW.cell (p := ⟨w.heap.size, 0, none⟩) ltk1).trans k0
            replace k1 := (hW.cell (p := ⟨w.heap.size, 1, none⟩) ltk1).trans k1
            replace k2 := (hW.cell (p := ⟨w.heap.size, 2, none⟩) ltk1).trans k2
            replace k3 := (hW.cell (p := ⟨w.heap.size, 3, none⟩) ltk1).trans k3
            replace k4 := (hW.cell (p := ⟨w.heap.size, 4, none⟩) ltk1).trans k4
            replace czb2 := (hW.cell (p := ⟨gb, i, none⟩) hgb).trans czb2
            replace czc2 := (hW.cell (p := ⟨gc, k, none⟩) hgc).trans czc2
            go_simp
            first | done | with_reducible rfl | omega
          try simp only [Act.put, List.setIfInBounds_toArray, List.set_cons_zero, List.set_cons_succ]
          refine' T_take (i := 6) (v := _) rfl (by kernel_rfl) (by kernel_rfl) (by kernel_rfl) (by kernel_rfl) (fun _ _ _ h => h) (by kernel_rfl) hS ?_ ?_
          rotate_left 1
          · intro Wv hW
            replace k0 := (hW.cell (p := ⟨w.heap.size, 0, none⟩) ltk1).trans k0
            replace k1 := (hW.cell (p := ⟨w.heap.size, 1, none⟩) ltk1).trans k1
            replace k2 := (hW.cell (p := ⟨w.heap.size, 2, none⟩) ltk1).trans k2
            replace k3 := (hW.cell (p := ⟨w.heap.size, 3, none⟩) ltk1).trans k3
            replace k4 := (hW.cell (p := ⟨w.heap.size, 4, none⟩) ltk1).trans k4
            replace czb2 := (hW.cell (p := ⟨gb, i, none⟩) hgb).trans czb2
            replace czc2 := (hW.cell (p := ⟨gc, k, none⟩) hgc).trans czc2
            go_simp
            first | done | with_reducible rfl | omega
          try simp only [Act.put, List.setIfInBounds_toArray, List.set_cons_zero, List.set_cons_succ]
          refine' T_take (i := 7) (v := _) rfl (by kernel_rfl) (by kernel_rfl) (by kernel_rfl) (by kernel_rfl) (fun _ _ _ h => h) (by kernel_rfl) hS ?_ ?_
          rotate_left 1
          · intro Wv hW
            replace k0 := (hW.cell (p := ⟨w.heap.size, 0, none⟩) ltk1).trans k0
            replace k1 := (hW.cell (p := ⟨w.heap.size, 1, none⟩) ltk1).trans k1
            replace k2 := (hW.cell (p := ⟨w.heap.size, 2, none⟩) ltk1).trans k2
            replace k3 := (hW.cell (p := ⟨w.heap.size, 3, none⟩) ltk1).trans k3
            replace k4 := (hW.cell (p := ⟨w.heap.size, 4, none⟩) ltk1).trans k4
            replace czb2 := (hW.cell (p := ⟨gb, i, none⟩) hgb).trans czb2
            replace czc2 := (hW.cell (p := ⟨gc, k, none⟩) hgc).trans czc2
            go_simp
            first | done | with_reducible rfl | omega
          try simp only [Act.put, List.setIfInBounds_toArray, List.set_cons_zero, List.set_cons_succ]
          refine' T_take (i := 8) (v := _) rfl (by kernel_rfl) (by kernel_rfl) (by kernel_rfl) (by kernel_rfl) (fun _ _ _ h => h) (by kernel_rfl) hS ?_ ?_
          rotate_left 1
          · intro Wv hW
            replace k0 := (hW.cell (p := ⟨w.heap.size, 0, none⟩) ltk1).trans k0
            replace k1 := (hW.cell (p := ⟨w.heap.size, 1, none⟩) ltk1).trans k1
            replace k2 := (hW.cell (p := ⟨w.heap.size, 2, none⟩) ltk1).trans k2
            replace k3 := (hW.cell (p := ⟨w.heap.size, 3, none⟩) ltk1).trans k3
            replace k4 := (hW.cell (p := ⟨w.heap.size, 4, none⟩) ltk1).trans k4
            replace czb2 := (hW.cell (p := ⟨gb, i, none⟩) hgb).trans czb2
            replace czc2 := (hW.cell (p := ⟨gc, k, none⟩) hgc).trans czc2
            go_simp
            first | done | with_reducible rfl | omega
          try simp only [Act.put, List.setIfInBounds_toArray, List.set_cons_zero, List.set_cons_succ]
          refine' T_take (i := 9) (v := _) rfl (by kernel_rfl) (by kernel_rfl) (by kernel_rfl) (by kernel_rfl) (fun _ _ _ h => h) (by kernel_rfl) hS ?_ ?_
          rotate_left 1
          · intro Wv hW
            replace k0 := (hW.cell (p := ⟨w.heap.size, 0, none⟩) ltk1).trans k0
            replace k1 := (hW.cell (p := ⟨w.heap.size, 1, none⟩) ltk1).trans k1
            replace k2 := (hW.cell (p := ⟨w.heap.size, 2, none⟩) ltk1).trans k2
            replace k3 := (hW.cell (p := ⟨w.heap.size, 3, none⟩) ltk1).trans k3
            replace k4 := (hW.cell (p := ⟨w.heap.size, 4, none⟩) ltk1).trans k4
            replace czb2 := (hW.cell (p := ⟨gb, i, none⟩) hgb).trans czb2
            replace czc2 := (hW.cell (p := ⟨gc, k, none⟩) hgc).trans czc2
            go_simp
            first | done | with_reducible rfl | omega
          try simp only [Act.put, List.setIfInBounds_toArray, List.set_cons_zero, List.set_cons_succ]
          refine' T_take (i := 10) (v := _) rfl (by kernel_rfl) (by kernel_rfl) (by kernel_rfl) (by kernel_rfl) (fun _ _ _ h => h) (by kernel_rfl) hS ?_ ?_
          rotate_left 1
          · intro Wv hW
            replace k0 := (hW.cell (p := ⟨w.heap.size, 0, none⟩) ltk1).trans k0
            replace k1 := (hW.cell (p := ⟨w.heap.size, 1, none⟩) ltk1).trans k1
            replace k2 := (hW.cell (p := ⟨w.heap.size, 2, none⟩) ltk1).trans k2
            replace k3 := (hW.cell (p := ⟨w.heap.size, 3, none⟩) ltk1).trans k3
            replace k4 := (hW.cell (p := ⟨w.heap.size, 4, none⟩) ltk1).trans k4
            replace czb2 := (hW.cell (p := ⟨gb, i, none⟩) hgb).trans czb2
            replace czc2 := (hW.cell (p := ⟨gc, k, none⟩) hgc).trans czc2
            go_simp
            first | done | with_reducible rfl | omega
          try simp only [Act.put, List.setIfInBounds_toArray, List.set_cons_zero, List.set_cons_succ]
          refine' T_take (i := 11) (v := _) rfl (by kernel_rfl) (by kernel_rfl) (by kernel_rfl) (by kernel_rfl) (fun _ _ _ h => h) (by kernel_rfl) hS ?_ ?_
          rotate_left 1
          · intro Wv hW
            replace k0 := (hW.cell (p := ⟨w.heap.size, 0, none⟩) ltk1).trans k0
            replace k1 := (hW.cell (p := ⟨w.heap.size, 1, none⟩) ltk1).trans k1
            replace k2 := (hW.cell (p := ⟨w.heap.size, 2, none⟩) ltk1).trans k2
            replace k3 := (hW.cell (p := ⟨w.heap.size, 3, none⟩) ltk1).trans k3
            replace k4 := (hW.cell (p := ⟨w.heap.size, 4, none⟩) ltk1).trans k4
            replace czb2 := (hW.cell (p := ⟨gb, i, none⟩) hgb).trans czb2
            replace czc2 := (hW.cell (p := ⟨gc, k, none⟩) hgc).trans czc2
            go_simp
            first | done | with_reducible rfl | omega
          try simp only [Act.put, List.setIfInBounds_toArray, List.set_cons_zero, List.set_cons_succ]
          refine T_ready (rs := [12]) (by kernel_rfl) (by simp) ?_
          refine TReady.cons rfl (fun K hK => ?_) TReady.nil
          try go_simp
          refine (HFA.out _ (HLr.out.step HSB.out) (HXr.out.step HSB.out) (HYr.out.step HSB.out) (HZr.out.step HSB.out)).mono ?_
          rintro e y1 ⟨FA, fc, rfl, hof, hb⟩
          obtain ⟨hf1, hf2, hf3⟩ := isInts_parts hof.isInts
          have HOF := Lib.hid hf3
          have hS2 : Below v2.heap.size wr y1 := hS.trans (hb.mono (Nat.le_trans hwr HSB.out.size))
          replace HSB : Hid (Below wr.heap.size wr y1) := HSB.out.trans (hb.mono HSB.out.size)
          clear hof hb hf3
          try go_simp
          refine hK.out _ _ (fun _ => hS2) (fun _ => ?_)
          clear hK K hS
          have hS := hS2
          clear hS2
          try simp only [Act.put, List.setIfInBounds_toArray, List.set_cons_zero, List.set_cons_succ]
          refine T_ready (rs := [13]) (by kernel_rfl) (by simp) ?_
          refine TReady.cons rfl (fun K hK => ?_) TReady.nil
          try go_simp
          refine (left45_c xA FA xs fl cx fc _ (HXr.out.step HSB.out) hcx hxl HOF.out ⟨hf1, hf2⟩).mono ?_
          rw [← HLE.out]
          rintro e y2 ⟨GA, gc2, rfl, hog, hb⟩
          have HOG := Lib.hid (rdI_own (ownsRow_base hog (show wr.heap.size ≤ _ from HSB.out.size)))
          have hS2 : Below v2.heap.size wr y2 := hS.trans (hb.mono (Nat.le_trans hwr HSB.out.size))
          replace HSB : Hid (Below wr.heap.size wr y2) := HSB.out.trans (hb.mono HSB.out.size)
          clear hog hb HOF
          try go_simp
          refine hK.out _ _ (fun _ => hS2) (fun _ => ?_)
          clear hK K hS
          have hS := hS2
          clear hS2
          try simp only [Act.put, List.setIfInBounds_toArray, List.set_cons_zero, List.set_cons_succ]
          refine T_ready (rs := [14]) (by kernel_rfl) (by simp) ?_
          refine TReady.cons rfl (fun K hK => ?_) TReady.nil
          try go_simp
          have hvy : v2.heap.size ≤ y2.heap.size := Nat.le_trans hwr HSB.out.size
          have HSL := Lib.hid (Rs.lit (base := wr.heap.size) (e := 25) HSB.out.size rdI HOG.out.1 HOG.out.2)
          replace HSB : Hid (Below wr.heap.size wr (y2.alloc (.cells #[.slice GA lf.length gc2] 25))) := HSB.out.alloc HSB.out.size _
          refine hK.out _ _ (fun _ => hS.alloc hvy _) (fun hS2 => ?_)
          clear hS2 hK K
          try simp only [Act.put, List.setIfInBounds_toArray, List.set_cons_zero, List.set_cons_succ]
          refine T_ready (rs := [15]) (by kernel_rfl) (by simp) ?_
          refine TReady.cons rfl (fun K hK => ?_) TReady.nil
          refine step_appRs rdI sty67 (.tmp 28) (.tmp 42) rfl rfl (w0 := wr) rfl rfl HRS HSB hwr HSL (Nat.le_refl _) hwr HKL.out ?_
          intro A8 c8 t9 HR8 HB8
          refine hK.out _ _ (fun _ => HB8.out) (fun _ => ?_)
          clear hK K hS
          have hS := HB8.out
          try simp only [Act.put, List.setIfInBounds_toArray, List.set_cons_zero, List.set_cons_succ]
          refine' T_take (i := 16) (v := _) rfl (by kernel_rfl) (by kernel_rfl) (by kernel_rfl) (by kernel_rfl) (fun _ _ _ h => h) (by kernel_rfl) hS ?_ ?_
          rotate_left 1
          · intro Wv hW
            replace k0 := (hW.cell (p := ⟨w.heap.size, 0, none⟩) ltk1).trans k0
            replace k1 := (hW.cell (p := ⟨w.heap.size, 1, none⟩) ltk1).trans k1
            replace k2 := (hW.cell (p := ⟨w.heap.size, 2, none⟩) ltk1).trans k2
            replace k3 := (hW.cell (p := ⟨w.heap.size, 3, none⟩) ltk1).trans k3
            replace k4 := (hW.cell (p := ⟨w.heap.size, 4, none⟩) ltk1).trans k4
            replace czb2 := (hW.cell (p := ⟨gb, i, none⟩) hgb).trans czb2
            replace czc2 := (hW.cell (p := ⟨gc, k, none⟩) hgc).trans czc2
            go_simp
            first | done | with_reducible rfl | omega
          try simp only [Act.put, List.setIfInBounds_toArray, List.set_cons_zero, List.set_cons_succ]
          refine T_done (by kernel_rfl) ?_ _
          refine NoPanic.normal ?_
          try go_simp
          go_wp2_with fail
          go_roundw
          case rel => exact ⟨k + 1, A8, c8, by omega, by go_num, by rw [HK1.out, List.length_append]; rfl, by rw [HK1.out, List.length_append]; exact HR8.out, HBR.out.trans HB8.out⟩
          case measure => simp [intOf]; omega
        · obtain rfl : k = cs.length := by omega
          have h2i : ¬ (cs.length : Int) < (cs.length : Int) := by omega
          rw [← HI1.out] at HRS ⊢
          replace k0 := cell_of_ans hb k0
          clear hb
          go_wp2_with fail
          go_roundw
          case rel => exact ⟨i + 1, A2, c2, by omega, by go_num, rfl, HRS.out, HBR.out⟩
          case measure => simp [intOf]; omega
    · obtain rfl : i = bs.length := by omega
      have h1i : ¬ (bs.length : Int) < (bs.length : Int) := by omega
      rw [HLALL.out] at HRS ⊢
      have HBF : Hid (Below w.heap.size w wr) := HB.out.trans (HBR.out.mono HB.out.size)
      have hwz := HB.out.size
      go_wp2_with fail
      go_ret
      exact ⟨A1, c1, rfl, (HRS.out.low hwz).lowBase hwz, HBF.out⟩
end
end Go.Proofs.Ytpekajnjjhibjaa
