/-
  Nothing carried: plain arithmetic; and an append of rows.
-/
import Derived.Test.YtgnonfomlgkpcaaStepsW
namespace Go.Proofs.Ytgnonfomlgkpcaa
open Go.RowKit

/-- How many balls go over a cell. -/
def cntO (bss : List (List Int)) (r b : Nat) : Nat := bss.countP fun x => decide (ix x r = (b : Int))
theorem cntO_le (bss : List (List Int)) (r b : Nat) : cntO bss r b ≤ bss.length := List.countP_le_length
theorem cntO_succ {bss : List (List Int)} {k : Nat} (hk : k < bss.length) (r b : Nat) : cntO (bss.take (k + 1)) r b = if ix (rx bss k) r = (b : Int) then cntO (bss.take k) r b + 1 else cntO (bss.take k) r b := by
  rw [List.take_succ_eq_append_getElem hk, cntO, List.countP_append, List.countP_singleton, rx_lt hk, cntO]
  by_cases e : ix bss[k] r = (b : Int)
  · simp [e]
  · simp [e]
theorem cntO_turn (bss : List (List Int)) (m r b : Nat) : cntO (bss.drop m ++ bss.take m) r b = cntO bss r b := by
  rw [cntO, List.countP_append, Nat.add_comm, ← List.countP_append, List.take_append_drop, cntO]

theorem dry_step (x o y : Int) (ho : 0 ≤ o) : max 0 (max 0 (x - y) - o) = max 0 (x - (y + o)) := by omega
theorem cellO_dry (bss : List (List Int)) (r b : Nat) (bf : Nat → Int) (o x : Int) (ho : 0 ≤ o) (hx : 0 ≤ x) (hx' : x ≤ 100) : ∀ k, k ≤ bss.length → cellO 0 bss r b bf (fun _ => o) x k = max 0 (x - (cntO (bss.take k) r b : Int) * o)
  | 0, _ => by simp [cellO, cntO]; omega
  | k + 1, hk => by
    have ih := cellO_dry bss r b bf o x ho hx hx' k (by omega)
    have hy : 0 ≤ (cntO (bss.take k) r b : Int) * o := Int.mul_nonneg (by omega) ho
    simp only [cellO]
    rw [ih, cntO_succ (by omega)]
    by_cases e : ix (rx bss k) r = (b : Int)
    · rw [if_pos e, if_pos e, Int.natCast_add, Int.add_mul, Int.natCast_one, Int.one_mul]
      simp only [wornF, Int.zero_mul, Int.zero_ediv, Int.add_zero]
      generalize (cntO (bss.take k) r b : Int) * o = y at *
      omega
    · rw [if_neg e, if_neg e]

theorem lowX_row {xss bss : List (List Int)} {lo hi ca : Int} {r : Nat} (hr : r < xss.length) : (rx (lowX xss bss lo hi ca) r).length = (rx xss 0).length := by rw [lowX, rx_rowsOf _ hr, rowOf_len]
theorem highX_row {xss bss : List (List Int)} {lo hi ca : Int} {r : Nat} (hr : r < xss.length) : (rx (highX xss bss lo hi ca) r).length = (rx xss 0).length := by rw [highX, rx_rowsOf _ hr, rowOf_len]
theorem lowX_at {xss bss : List (List Int)} {lo hi ca : Int} (h : ballsErr xss lo hi ca bss = 0) {r b : Nat} (hr : r < xss.length) (hb : b < (rx xss 0).length) :
    ix (rx (lowX xss bss lo hi ca) r) b = cellO ca bss r b (fun _ => if 0 < r then lo else 0) (fun _ => hi) (ix (rx xss r) b) bss.length := by
  obtain ⟨hle, _, hbx⟩ := ballsOk h
  obtain ⟨hx0, hx8, hxr, _⟩ := laneOk hle
  have h12 := (hxr 0 hx0).2.2
  rw [lowX, rx_rowsOf _ hr, ix_rowOf _ hb, endO_cell _ _ _ _ _ _ _ _ hr (by omega) _ (fun i hi j hj => by have := (hbx i hi).2 j hj; omega), oilOf_at _ (by omega)]
theorem highX_at {xss bss : List (List Int)} {lo hi ca : Int} (h : ballsErr xss lo hi ca bss = 0) {r b : Nat} (hr : r < xss.length) (hb : b < (rx xss 0).length) :
    ix (rx (highX xss bss lo hi ca) r) b = cellO ca bss r b (fun _ => if 0 < r then hi else 0) (fun _ => lo) (ix (rx xss r) b) bss.length := by
  obtain ⟨hle, _, hbx⟩ := ballsOk h
  obtain ⟨hx0, hx8, hxr, _⟩ := laneOk hle
  have h12 := (hxr 0 hx0).2.2
  rw [highX, rx_rowsOf _ hr, ix_rowOf _ hb, endO_cell _ _ _ _ _ _ _ _ hr (by omega) _ (fun i hi j hj => by have := (hbx i hi).2 j hj; omega), oilOf_at _ (by omega)]

section
variable {xss bss : List (List Int)} {lo hi : Int}
theorem fresh_bd {ca : Int} (h : ballsErr xss lo hi ca bss = 0) {r b : Nat} (hr : r < xss.length) (hb : b < (rx xss 0).length) : 0 ≤ ix (rx xss r) b ∧ ix (rx xss r) b ≤ 100 := by
  obtain ⟨hle, _, _⟩ := ballsOk h
  obtain ⟨_, _, hxr, hv, _⟩ := laneOk hle
  exact hv r hr b (by rw [(hxr r hr).2.1]; exact hb)
theorem dry_low (h : ballsErr xss lo hi 0 bss = 0) {r b : Nat} (hr : r < xss.length) (hb : b < (rx xss 0).length) : ix (rx (lowX xss bss lo hi 0) r) b = max 0 (ix (rx xss r) b - (cntO bss r b : Int) * hi) := by
  obtain ⟨_, _, _, _, hlo, hlh, _⟩ := laneOk (ballsOk h).1
  have := fresh_bd h hr hb
  rw [lowX_at h hr hb, cellO_dry bss r b _ hi _ (by omega) this.1 this.2 _ (Nat.le_refl _), List.take_length]
theorem dry_high (h : ballsErr xss lo hi 0 bss = 0) {r b : Nat} (hr : r < xss.length) (hb : b < (rx xss 0).length) : ix (rx (highX xss bss lo hi 0) r) b = max 0 (ix (rx xss r) b - (cntO bss r b : Int) * lo) := by
  obtain ⟨_, _, _, _, hlo, hlh, _⟩ := laneOk (ballsOk h).1
  have := fresh_bd h hr hb
  rw [highX_at h hr hb, cellO_dry bss r b _ lo _ (by omega) this.1 this.2 _ (Nat.le_refl _), List.take_length]

theorem rx_append (a b : List (List Int)) (k : Nat) : rx (a ++ b) k = if k < a.length then rx a k else rx b (k - a.length) := by
  simp only [rx, List.getD_eq_getElem?_getD, List.getElem?_append]
  split <;> rfl
theorem turned_ok {ca : Int} (h : ballsErr xss lo hi ca bss = 0) (m : Nat) (hm : m ≤ bss.length) : ballsErr xss lo hi ca (bss.drop m ++ bss.take m) = 0 := by
  obtain ⟨hle, h20, hbx⟩ := ballsOk h
  have e1 : (bss.drop m).length = bss.length - m := List.length_drop
  have e2 : (bss.take m).length = m := by rw [List.length_take]; omega
  refine mk_ballsErr hle (by rw [List.length_append]; omega) fun k hk => ?_
  rw [List.length_append] at hk
  rw [rx_append]
  split
  · rw [rx_drop]; exact hbx (m + k) (by omega)
  · rw [rx_takeL (by omega)]; exact hbx _ (by omega)
theorem turn_low (h : ballsErr xss lo hi 0 bss = 0) (m : Nat) (hm : m ≤ bss.length) : lowX xss bss lo hi 0 = lowX xss (bss.drop m ++ bss.take m) lo hi 0 := by
  have h' := turned_ok h m hm
  refine grid_ext (by rw [lowX_len, lowX_len]) (fun r hr => ?_) (fun r hr b hb => ?_)
  · rw [lowX_len] at hr; rw [lowX_row hr, lowX_row hr]
  · rw [lowX_len] at hr
    rw [lowX_row hr] at hb
    rw [dry_low h hr hb, dry_low h' hr hb, cntO_turn]
theorem turn_high (h : ballsErr xss lo hi 0 bss = 0) (m : Nat) (hm : m ≤ bss.length) : highX xss bss lo hi 0 = highX xss (bss.drop m ++ bss.take m) lo hi 0 := by
  have h' := turned_ok h m hm
  refine grid_ext (by rw [highX_len, highX_len]) (fun r hr => ?_) (fun r hr b hb => ?_)
  · rw [highX_len] at hr; rw [highX_row hr, highX_row hr]
  · rw [highX_len] at hr
    rw [highX_row hr] at hb
    rw [dry_high h hr hb, dry_high h' hr hb, cntO_turn]
end

/-! Appending all rows of one copy to another. -/
theorem src_own {w : World} {base m c : Nat} {e : TypeId} {A : Option Addr} {us : List Value} (h : w.ownsRow base e 1 (.slice A m c) m us) : Src w 1 A m us := by
  refine ⟨h.1, fun hA => ?_, fun ad hA j u hu => ?_⟩
  · subst hA
    rcases h.2 with ⟨_, h0⟩ | ⟨g, cap, cur, hv, _⟩
    · exact h0
    · cases hv
  · subst hA
    rcases h.2 with ⟨hv, _⟩ | ⟨g, cap, cur, hv, _⟩
    · cases hv
    · injection hv with hv _ _
      injection hv with hv
      subst hv
      exact h.cells (g := g) rfl j u hu

theorem rws_one {base : Nat} {w : World} {v : Value} {n : Nat} {vs : List Value} {rows : Nat → List Int} (h : Rws base w v n vs rows) : ∀ u ∈ vs, u.oneCell' = true := by
  intro u hu
  obtain ⟨j, hj, rfl⟩ := List.getElem_of_mem hu
  obtain ⟨x, hx, ho, _⟩ := h.2.1 j (by rw [← h.len]; exact hj)
  rw [List.getElem?_eq_getElem hj] at hx
  injection hx with hx
  subst hx
  obtain ⟨A, c, e⟩ := ownsRow_form ho
  rw [e]
  rfl

theorem rws_append {base : Nat} {w0 w1 w2 : World} {v v' u : Value} {vs us : List Value} {xss yss : List (List Int)} (h1 : Rws base w0 v xss.length vs (rx xss)) (hb : Below w0.heap.size w0 w1) (h2 : Rws w0.heap.size w1 u yss.length us (rx yss))
    (hg : w1.grownBy w2 v.ownBlock) (ho : w2.ownsRow base 45 1 v' (xss.length + yss.length) (vs ++ us)) : IsGrd w2.heap.size w2 v' (xss ++ yss) := by
  have hl1 := h1.len
  have hl2 := h2.len
  have key : ∀ k, k < xss.length + yss.length → ∃ x, (vs ++ us)[k]? = some x ∧ IsInts w2.heap.size w2 x (rx (xss ++ yss) k) := by
    intro k hk
    rw [rx_append]
    by_cases hlt : k < xss.length
    · rw [if_pos hlt]
      obtain ⟨x, hx, hox, hne⟩ := h1.2.1 k hlt
      refine ⟨x, by rw [List.getElem?_append_left (by omega)]; exact hx, ?_⟩
      exact ownsRow_isInts ((hox.kept (only_below hb none) (by cases x.ownBlock <;> simp)).kept hg hne)
    · rw [if_neg hlt]
      obtain ⟨x, hx, hox, _⟩ := h2.2.1 (k - xss.length) (by omega)
      refine ⟨x, by rw [List.getElem?_append_right (by omega), hl1]; exact hx, ?_⟩
      refine ownsRow_isInts (hox.kept hg ?_)
      cases e : x.ownBlock with
      | none => exact .inl rfl
      | some g =>
        refine .inr fun e' => ?_
        have a := (hox.lt g e).1
        have b := (h1.1.lt g e'.symm).2
        omega
  rcases ho.2 with ⟨rfl, h0⟩ | ⟨g, cap, cur, rfl, hbg, hgg, hn, hm, hs, ht⟩
  · have : xss = [] := List.eq_nil_of_length_eq_zero (by omega)
    subst this
    have : yss = [] := List.eq_nil_of_length_eq_zero (by simpa using h0)
    subst this
    exact ⟨none, 0, rfl, by simp, by simp, fun hp => by simp at hp⟩
  · refine ⟨_, cap, by rw [List.length_append], by rw [List.length_append]; exact hn, by unfold maxLen at hm; omega, fun hp => ⟨g, 0, rfl, (Array.getElem?_eq_some_iff.1 hgg).1, fun k hk => ?_⟩⟩
    rw [List.length_append] at hk
    obtain ⟨x, hx, hi⟩ := key k hk
    refine ⟨x, ?_, hi⟩
    have := ho.cells (g := g) rfl k x hx
    rwa [add_eq] at this

theorem step_app_rows {ops : Array Oper} {o : Oper} {a : Act} {K : Act → World → Prop} {Q : Exit → Act → World → Prop} {E : Prop} (s x : Operand) (hgd : o.guard = none) (ho : o.op = .call { callee := .builtin .append, args := #[s, x], argTypes := #[22, 22] }) (base : Nat) (w0 w : World) (v : Value) (vs us : List Value) (xss yss zss : List (List Int)) (A : Option Addr) (c : Nat)
    (hv : a.eval s = v) (hx : a.eval x = .slice A yss.length c) (h1 : Hid (Rws base w0 v xss.length vs (rx xss))) (h2 : Hid (Rws w0.heap.size w (.slice A yss.length c) yss.length us (rx yss))) (hb : Hid (Below w0.heap.size w0 w)) (hl : xss.length + yss.length ≤ 1000000) (hbase : base ≤ w0.heap.size) (hz : zss = xss ++ yss)
    (h : ∀ A' c' w', (zss.length ≤ c' ∧ c' ≤ 9223372036854775807) → Hid (Grd w'.heap.size w' A' zss) → Hid (Below base w0 w') → K (a.put o.dst (.slice A' zss.length c')) w') :
    if Region.wanted o (yielded ops a.tmps) = true then Oper.wp Try.prog o a w K Q else E := by
  rw [if_pos (by simp [Region.wanted, hgd])]
  obtain ⟨i1, hi', hy0, hy1, hy2⟩ := info_parts infoInts
  have hO := h1.out.1
  have hO1 : w.ownsRow base 45 1 v xss.length vs := hO.kept (only_below hb.out none) (own_ne v)
  have hz0 := hb.out.size
  obtain ⟨v', w', hr, e1, e2, _⟩ := run_append_src (P := Try.prog) (w := w) base 22 o.type 45 i1 (.slice none 0 0) 1 24 Try.underlying22 hi' hy0 hy1 hy2 rfl (by decide) v xss.length vs hO1 A yss.length c us (src_own h2.out.1) (rws_one h2.out) (by unfold maxLen; omega) (by omega) (by omega)
  obtain ⟨A', c', rfl, a1, a2, a3⟩ := rws_append h1.out hb.out h2.out e2 e1
  subst hz
  unfold Oper.wp execOp
  simp only [ho, resolve, invoke, builtin, Sem.run_bind, Sem.run_pure, Result.andThen_ok, List.map_toArray, List.map_cons, List.map_nil, hv, hx, hr]
  exact h A' c' w' ⟨a1, a2⟩ a3 ((hb.out.mono hbase).grown e2 (by omega) (fun k e => (hO.lt k e).1))
end Go.Proofs.Ytgnonfomlgkpcaa
