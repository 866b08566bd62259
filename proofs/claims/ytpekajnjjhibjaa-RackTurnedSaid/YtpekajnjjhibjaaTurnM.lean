/-
  A rack that is turned over: the same falls, mirrored; the kind of a leave stays: plain facts; no program.
-/
import Derived.Test.YtpekajnjjhibjaaLawsM
import Derived.Test.YtpekajnjjhibjaaComp
namespace Go.Proofs.Ytpekajnjjhibjaa
open Go.RowKit
set_option linter.unusedVariables false
set_option linter.unusedSimpArgs false

def mir (p : Nat) : Nat := rowP p * (rowP p + 1) / 2 + rowP p - atP p
theorem mir_all : ∀ p, p < 10 → mir p < 10 ∧ mir (mir p) = p ∧ rowP (mir p) = rowP p ∧ atP (mir p) + atP p = rowP p ∧ atP p ≤ rowP p := by decide
theorem mir_nb : ∀ a, a < 10 → ∀ b, b < 10 → nbB (mir a) (mir b) = nbB a b := by decide
theorem mir_pn {rows : Int} (h1 : 1 ≤ rows) (h4 : rows ≤ 4) {p : Nat} (hp : p < pn rows) : mir p < pn rows := by
  rcases rows4 h1 h4 with rfl | rfl | rfl | rfl <;> revert p <;> decide
theorem mir_inj {a b : Nat} (ha : a < 10) (hb : b < 10) (h : mir a = mir b) : a = b := by
  have h1 := (mir_all a ha).2.1
  have h2 := (mir_all b hb).2.1
  rw [← h1, ← h2, h]
noncomputable def mirS (s : Nat) : Nat := bitsP (fun p => s.testBit (mir p) = true) 10
theorem mirS_lt (s : Nat) : mirS s < 2 ^ 10 := bitsP_lt _ _
theorem mem_mirS {s p : Nat} : (mirS s).testBit p = true ↔ p < 10 ∧ s.testBit (mir p) = true := mem_bitsP
theorem mem_mirS' {s p : Nat} (hp : p < 10) : (mirS s).testBit (mir p) = true ↔ s.testBit p = true := by
  rw [mem_mirS, (mir_all p hp).2.1]
  exact ⟨fun h => h.2, fun h => ⟨(mir_all p hp).1, h⟩⟩
theorem mirS_mirS {s : Nat} (hs : s < 2 ^ 10) : mirS (mirS s) = s := by
  refine set_ext (n := 10) (mirS_lt _) hs fun p hp => ?_
  rw [mem_mirS, mem_mirS' hp]
  exact ⟨fun h => h.2, fun h => ⟨hp, h⟩⟩
/-! The rack turned over. -/
def mirK (x : Lk) : Lk := ⟨(mir x.f.toNat : Int), (mir x.t.toNat : Int), x.s⟩
def mirR (r : Rk) : Rk := { r with links := r.links.map mirK }
def mirX (r : Rk) (x : Rg) : Rg := ⟨2 * r.mid - x.hi, 2 * r.mid - x.lo⟩
def mirG (r : Rk) (ball : List Rg) : List Rg := ball.map (mirX r)
theorem lx_mir {r : Rk} {i : Nat} (h : i < r.links.length) : lx (mirR r).links i = mirK (lx r.links i) := by
  rw [lx_lt (by simpa [mirR] using h), lx_lt h]
  simp [mirR]
theorem gx_mir {r : Rk} {ball : List Rg} {k : Nat} (h : k < ball.length) : gx (mirG r ball) k = mirX r (gx ball k) := by
  rw [gx_lt (by simpa [mirG] using h), gx_lt h]
  simp [mirG]
theorem mirR_len (r : Rk) : (mirR r).links.length = r.links.length := by simp [mirR]
theorem mirG_len (r : Rk) (ball : List Rg) : (mirG r ball).length = ball.length := by simp [mirG]
theorem link_parts {rows : Int} {x : Lk} (h : linkB rows x = true) : 0 ≤ x.f ∧ x.f.toNat < pn rows ∧ 0 ≤ x.t ∧ x.t.toNat < pn rows ∧ x.f ≠ x.t := by
  simp only [linkB, Bool.and_eq_true, inB_eq, Bool.not_eq_true', decide_eq_false_iff_not] at h
  omega
theorem mayTo_mir {r : Rk} : ∀ k, k ≤ r.links.length → mayTo (mirR r).links k = mayTo r.links k
  | 0, _ => by simp [mayTo]
  | k + 1, h => by
    rw [mayTo, mayTo, mayTo_mir k (by omega), lx_mir (by omega)]
    rfl
theorem mir_rack {r : Rk} (h : rackErr r = 0) : rackErr (mirR r) = 0 := by
  have ho := rackOk h
  have hpn := pn_le ho.rows1 ho.rows4
  unfold rackErr at h ⊢
  rw [mirR_len, mayTo_mir _ (Nat.le_refl _)]
  split at h
  · next h1 =>
    rw [if_pos h1]
    split at h
    · next h2 =>
      rw [if_pos]
      simp only [Bool.and_eq_true] at h2 ⊢
      refine ⟨h2.1, h2.2.1, h2.2.2.1, h2.2.2.2.1, ?_⟩
      rw [allB_iff]
      intro k hk
      have h3 := link_parts (ho.link k hk)
      have m1 := mir_pn ho.rows1 ho.rows4 h3.2.1
      have m2 := mir_pn ho.rows1 ho.rows4 h3.2.2.2.1
      show linkB r.rows (lx (mirR r).links k) = true
      rw [lx_mir hk]
      simp only [linkB, Bool.and_eq_true, inB_eq, Bool.not_eq_true', decide_eq_false_iff_not, mirK]
      refine ⟨by omega, by omega, decide_eq_false fun e => h3.2.2.2.2 ?_⟩
      have := mir_inj (by omega) (by omega) (Int.ofNat.inj e)
      omega
    · cases h
  · cases h
theorem board_mir {r : Rk} {p : Nat} (hp : p < 10) : boardP r (mir p) = 2 * r.mid - boardP r p := by
  obtain ⟨_, _, h1, h2, h3⟩ := mir_all p hp
  unfold boardP
  rw [h1, show (atP (mir p) : Int) = (rowP p : Int) - (atP p : Int) by omega]
  have : (2 * ((rowP p : Int) - (atP p : Int)) - (rowP p : Int)) = -(2 * (atP p : Int) - (rowP p : Int)) := by omega
  rw [this, Int.mul_neg]
  omega
theorem reach_mir {r : Rk} {p : Nat} (hp : p < 10) (b : Int) : reachB (mirR r) p (2 * r.mid - b) = reachB r (mir p) b := by
  have h := board_mir (r := r) hp
  have h2 : boardP (mirR r) p = boardP r p := rfl
  unfold reachB
  rw [h2, h, show (mirR r).reach = r.reach from rfl, Bool.eq_iff_iff, Bool.and_eq_true, Bool.and_eq_true, decide_eq_true_eq, decide_eq_true_eq, decide_eq_true_eq, decide_eq_true_eq]
  omega
section
variable {r : Rk} {s : Nat}
theorem touch_mir (row : Nat) (b : Int) : touchS (mirR r) (mirS s) row (2 * r.mid - b) = mirS (touchS r s row b) := by
  refine set_ext (n := 10) (touchS_lt ..) (mirS_lt _) fun p hp => ?_
  obtain ⟨m1, m2, m3, _⟩ := mir_all p hp
  have hL : (touchS (mirR r) (mirS s) row (2 * r.mid - b)).testBit p = true ↔ p < 10 ∧ ((mirS s).testBit p = true ∧ rowP p = row ∧ reachB (mirR r) p (2 * r.mid - b) = true) := mem_bitsP
  have hR : (touchS r s row b).testBit (mir p) = true ↔ mir p < 10 ∧ (s.testBit (mir p) = true ∧ rowP (mir p) = row ∧ reachB r (mir p) b = true) := mem_bitsP
  rw [hL, mem_mirS (s := touchS r s row b), hR, mem_mirS, reach_mir hp, m3]
  exact ⟨fun h => ⟨hp, m1, h.2.1.2, h.2.2⟩, fun h => ⟨hp, ⟨hp, h.2.2.1⟩, h.2.2.2⟩⟩
theorem fall_mir_to {c : Nat → Bool} {t : Nat} (ho : Ok r) {p : Nat} (h : Fall r.links c s t p) (ht : t < 2 ^ 10) (hs : s < 2 ^ 10) : Fall (mirR r).links c (mirS s) (mirS t) (mir p) := by
  have hpn := pn_le ho.rows1 ho.rows4
  induction h with
  | base h => exact .base ((mem_mirS' (bit_lt ht h)).2 h)
  | @step i hi hc _ hpin ih =>
    have h3 := link_parts (ho.link i hi)
    have e := lx_mir (r := r) hi
    have e1 : (lx (mirR r).links i).f.toNat = mir (lx r.links i).f.toNat := by rw [e]; rfl
    have e2 : (lx (mirR r).links i).t.toNat = mir (lx r.links i).t.toNat := by rw [e]; rfl
    rw [← e1] at ih
    rw [← e2]
    exact .step (by rw [mirR_len]; exact hi) hc ih (by rw [e2]; exact (mem_mirS' (bit_lt hs hpin)).2 hpin)
theorem fall_mir_of {c : Nat → Bool} {t : Nat} (ho : Ok r) {p : Nat} (h : Fall (mirR r).links c (mirS s) (mirS t) p) : Fall r.links c s t (mir p) := by
  have hpn := pn_le ho.rows1 ho.rows4
  induction h with
  | base h => exact .base (mem_mirS.1 h).2
  | @step i hi hc _ hpin ih =>
    rw [mirR_len] at hi
    have h3 := link_parts (ho.link i hi)
    have e := lx_mir (r := r) hi
    have e1 : (lx (mirR r).links i).f.toNat = mir (lx r.links i).f.toNat := by rw [e]; rfl
    have e2 : (lx (mirR r).links i).t.toNat = mir (lx r.links i).t.toNat := by rw [e]; rfl
    rw [e1, (mir_all _ (by omega)).2.1] at ih
    rw [e2] at hpin ⊢
    rw [(mir_all _ (by omega)).2.1]
    rw [mem_mirS' (by omega)] at hpin
    exact .step hi hc ih hpin
theorem felled_mir {c : Nat → Bool} {b b' : Nat → Int} (ho : Ok r) (hs : s < 2 ^ 10) (hb : ∀ k, k < r.rows.toNat → b' k = 2 * r.mid - b k) : felledS (mirR r) (mirS s) b' c = mirS (felledS r s b c) := by
  refine set_ext (n := 10) (felledS_lt (mirS_lt _)) (mirS_lt _) fun p hp => ?_
  rw [mem_felledS (mirS_lt _), mem_mirS, mem_felledS hs]
  constructor
  · rintro ⟨row, h1, h2⟩
    rw [hb row h1, touch_mir] at h2
    exact ⟨hp, row, h1, fall_mir_of ho h2⟩
  · rintro ⟨_, row, h1, h2⟩
    refine ⟨row, h1, ?_⟩
    rw [hb row h1, touch_mir]
    have := fall_mir_to ho h2 (touchS_lt ..) hs
    rwa [(mir_all p hp).2.1] at this
theorem left_mir {c : Nat → Bool} {b b' : Nat → Int} (ho : Ok r) (hs : s < 2 ^ 10) (hb : ∀ k, k < r.rows.toNat → b' k = 2 * r.mid - b k) : leftS (mirR r) (mirS s) b' c = mirS (leftS r s b c) := by
  refine set_ext (n := 10) leftS_lt (mirS_lt _) fun p hp => ?_
  rw [mem_leftS (mirS_lt _), mem_mirS (s := leftS r s b c), mem_leftS hs, felled_mir ho hs hb, mem_mirS (s := s), mem_mirS (s := felledS r s b c)]
  constructor
  · rintro ⟨h1, h2⟩; exact ⟨hp, h1.2, fun h => h2 ⟨hp, h⟩⟩
  · rintro ⟨_, h1, h2⟩; exact ⟨⟨hp, h1⟩, fun h => h2 h.2⟩
theorem within_mir {ball : List Rg} {b : Nat → Int} : Within (mirG r ball) (fun k => 2 * r.mid - b k) ↔ Within ball b := by
  constructor
  · intro h k hk
    have := h k (by rw [mirG_len]; exact hk)
    rw [gx_mir hk] at this
    simp only [mirX] at this
    omega
  · intro h k hk
    rw [mirG_len] at hk
    have := h k hk
    rw [gx_mir hk]
    simp only [mirX]
    omega
theorem carry_mir {c : Nat → Bool} : Carry (mirR r).links c ↔ Carry r.links c := by
  constructor
  · intro h i hi hsr
    refine h i (by rw [mirR_len]; exact hi) ?_
    rw [lx_mir hi]; exact hsr
  · intro h i hi hsr
    rw [mirR_len] at hi
    rw [lx_mir hi] at hsr
    exact h i hi hsr
theorem ranges_mir {ball : List Rg} (h : Ranges ball) : Ranges (mirG r ball) := fun k hk => by
  rw [mirG_len] at hk
  have := h k hk
  rw [gx_mir hk]
  simp only [mirX]
  omega
theorem sure_mir {ball : List Rg} (ho : Ok r) (hs : s < 2 ^ 10) (hl : ball.length = r.rows.toNat) (hr : Ranges ball) : sureS (mirR r) (mirS s) (mirG r ball) = mirS (sureS r s ball) := by
  refine set_ext (n := 10) sureS_lt (mirS_lt _) fun p hp => ?_
  rw [sure_iff (mirS_lt _) (by rw [mirG_len]; exact hl) (ranges_mir hr), mem_mirS, sure_iff hs hl hr]
  constructor
  · intro h
    refine ⟨hp, fun b c hb hc => ?_⟩
    have := h (fun k => 2 * r.mid - b k) c (within_mir.2 hb) (carry_mir.2 hc)
    rw [felled_mir (b := b) ho hs (fun k _ => rfl), mem_mirS] at this
    exact this.2
  · rintro ⟨_, h⟩ b c hb hc
    have e : b = fun k => 2 * r.mid - (2 * r.mid - b k) := funext fun k => by omega
    rw [e] at hb
    have := h (fun k => 2 * r.mid - b k) c (within_mir.1 hb) (carry_mir.1 hc)
    rw [felled_mir (b := fun k => 2 * r.mid - b k) ho hs (fun k _ => by omega), mem_mirS]
    exact ⟨hp, this⟩
theorem may_mir {ball : List Rg} (ho : Ok r) (hs : s < 2 ^ 10) (hl : ball.length = r.rows.toNat) (hr : Ranges ball) : mayS (mirR r) (mirS s) (mirG r ball) = mirS (mayS r s ball) := by
  refine set_ext (n := 10) mayS_lt (mirS_lt _) fun p hp => ?_
  rw [may_iff (mirS_lt _) (by rw [mirG_len]; exact hl) (ranges_mir hr), mem_mirS, may_iff hs hl hr]
  constructor
  · rintro ⟨b, c, hb, hc, h⟩
    have e : b = fun k => 2 * r.mid - (2 * r.mid - b k) := funext fun k => by omega
    rw [e] at hb
    rw [felled_mir (b := fun k => 2 * r.mid - b k) ho hs (fun k _ => by omega), mem_mirS] at h
    exact ⟨hp, _, c, within_mir.1 hb, carry_mir.1 hc, h.2⟩
  · rintro ⟨_, b, c, hb, hc, h⟩
    refine ⟨fun k => 2 * r.mid - b k, c, within_mir.2 hb, carry_mir.2 hc, ?_⟩
    rw [felled_mir (b := b) ho hs (fun k _ => rfl), mem_mirS]
    exact ⟨hp, h⟩
end
/-! The kind. -/
theorem Conn.symm {s a b : Nat} (hs : s < 2 ^ 10) (ha : s.testBit a = true) (h : Conn s a b) : Conn s b a := by
  induction h with
  | base => exact .base
  | @step x y hx hy hn ih =>
    have hx2 := hx.in ha
    exact (Conn.step .base hx2 (by rw [nbB_symm y (bit_lt hs hy) x (bit_lt hs hx2)]; exact hn)).trans ih
theorem conn_mir {s a b : Nat} (hs : s < 2 ^ 10) (ha : s.testBit a = true) (h : Conn s a b) : Conn (mirS s) (mir a) (mir b) := by
  induction h with
  | base => exact .base
  | @step x y hx hy hn ih =>
    have hx2 := hx.in ha
    exact .step ih ((mem_mirS' (bit_lt hs hy)).2 hy) (by rw [mir_nb x (bit_lt hs hx2) y (bit_lt hs hy)]; exact hn)
theorem many_mir {s : Nat} (hs : s < 2 ^ 10) : many (mirS s) = many s := by
  unfold many
  have n1 : (listS (mirS s)).Nodup := (rising_listS _).imp fun h => Nat.ne_of_lt h
  have n2 : ((listS s).map mir).Nodup := by
    refine List.pairwise_map.2 (List.Pairwise.imp_of_mem ?_ (rising_listS s))
    intro a b ha hb hab e
    have := mir_inj (mem_listS.1 ha).1 (mem_listS.1 hb).1 e
    omega
  have := (List.perm_ext_iff_of_nodup n1 n2).2 fun p => by
    rw [mem_listS, mem_mirS, List.mem_map]
    constructor
    · rintro ⟨h1, _, h2⟩
      exact ⟨mir p, mem_listS.2 ⟨(mir_all p h1).1, h2⟩, (mir_all p h1).2.1⟩
    · rintro ⟨q, h1, rfl⟩
      obtain ⟨h2, h3⟩ := mem_listS.1 h1
      obtain ⟨m1, m2, _⟩ := mir_all q h2
      exact ⟨m1, m1, by rw [m2]; exact h3⟩
  rw [this.length_eq, List.length_map]
theorem conn_all_mir {s : Nat} (hs : s < 2 ^ 10) (h2 : 2 ≤ many s) (h : ∀ p, s.testBit p = true → Conn s (firstS s) p) : ∀ p, (mirS s).testBit p = true → Conn (mirS s) (firstS (mirS s)) p := by
  intro p hp
  obtain ⟨_, _, hf⟩ := first_mem (s := s) (by omega)
  obtain ⟨_, hg10, hg⟩ := first_mem (s := mirS s) (by rw [many_mir hs]; omega)
  have hp10 := (mem_mirS.1 hp).1
  have c1 := h _ (mem_mirS.1 hg).2
  have c2 := h _ (mem_mirS.1 hp).2
  have c3 := (Conn.symm hs hf c1).trans c2
  have c4 := conn_mir hs (mem_mirS.1 hg).2 c3
  rwa [(mir_all _ hg10).2.1, (mir_all _ hp10).2.1] at c4
theorem kind_mir {s : Nat} (hs : s < 2 ^ 10) : kindS (mirS s) = kindS s := by
  unfold kindS
  rw [many_mir hs]
  by_cases h : many s < 2
  · rw [if_pos h, if_pos h]
  · rw [if_neg h, if_neg h]
    have e : (∀ p, (mirS s).testBit p = true → Conn (mirS s) (firstS (mirS s)) p) ↔ ∀ p, s.testBit p = true → Conn s (firstS s) p := by
      constructor
      · intro h1
        have := conn_all_mir (mirS_lt s) (by rw [many_mir hs]; omega) h1
        rwa [mirS_mirS hs] at this
      · exact conn_all_mir hs (by omega)
    have e0 : (mirS s).testBit 0 = true ↔ s.testBit 0 = true := by rw [mem_mirS]; exact ⟨fun h => h.2, fun h => ⟨by omega, h⟩⟩
    by_cases h1 : ∀ p, s.testBit p = true → Conn s (firstS s) p
    · rw [if_pos h1, if_pos (e.2 h1)]
    · rw [if_neg h1, if_neg (fun h => h1 (e.1 h))]
      by_cases h2 : s.testBit 0 = true
      · rw [if_pos h2, if_pos (e0.2 h2)]
      · rw [if_neg h2, if_neg (fun h => h2 (e0.1 h))]
/-! Lists of pins. -/
def turnT (l : List Int) : Nat → List Int
  | 0 => []
  | k + 1 => if hasB l (mir k : Int) then turnT l k ++ [(k : Int)] else turnT l k
theorem turnT_len (l : List Int) : ∀ k, (turnT l k).length ≤ k
  | 0 => Nat.le_refl _
  | k + 1 => by
    have := turnT_len l k
    rw [turnT]; split
    · rw [List.length_append]; exact Nat.succ_le_succ this
    · omega
theorem turnT_is (l : List Int) : ∀ k, turnT l k = natsI ((List.range k).filter fun p => hasB l (mir p : Int))
  | 0 => rfl
  | k + 1 => by
    rw [turnT, turnT_is l k, List.range_succ, List.filter_append]
    cases e : hasB l (mir k : Int)
    · simp [e, natsI]
    · simp [e, natsI]
theorem turnT_list {r : Rk} {s : Nat} (h1 : 1 ≤ r.rows) (h4 : r.rows ≤ 4) (hs : ∀ p, s.testBit p = true → p < pn r.rows) : turnT (natsI (listS s)) (pn r.rows) = natsI (listS (mirS s)) := by
  have hpn := pn_le h1 h4
  have hs10 : s < 2 ^ 10 := Nat.lt_pow_two_of_testBit _ fun i hi => by
    rw [Bool.eq_false_iff]
    intro h
    have := hs i h
    omega
  rw [turnT_is]
  refine congrArg natsI (rising_ext (List.Pairwise.filter _ List.pairwise_lt_range) (rising_listS _) fun p => ?_)
  rw [List.mem_filter, List.mem_range, mem_listS, mem_mirS, hasB_iff, mem_natsS_nat hs10]
  constructor
  · rintro ⟨a, b⟩; exact ⟨by omega, by omega, b⟩
  · rintro ⟨a, _, b⟩
    refine ⟨?_, b⟩
    have := mir_pn h1 h4 (hs _ b)
    rwa [(mir_all p a).2.1] at this
section
variable {r : Rk} {xs ws : List Int} {ball : List Rg}
/-- The turned leave; what falls of it. -/
def turnL (r : Rk) (l : List Int) : List Int := turnT l (pn r.rows)
theorem turn_pins (h : pinErr r xs = 0) : pinErr (mirR r) (turnL r xs) = 0 ∧ pinS (mirR r) (turnL r xs) = mirS (pinS r xs) := by
  have ho := rackOk (pinErr_rack h)
  have e := pins_list h
  have e2 : turnL r xs = natsI (listS (mirS (pinS r xs))) := by
    rw [turnL]
    conv => lhs; rw [e]
    exact turnT_list ho.rows1 ho.rows4 (pinS_pn h)
  rw [e2]
  refine pin_of (mir_rack (pinErr_rack h)) fun p hp => ?_
  obtain ⟨h1, h2⟩ := mem_mirS.1 hp
  have := mir_pn ho.rows1 ho.rows4 (pinS_pn h _ h2)
  rwa [(mir_all p h1).2.1] at this
theorem turn_kind (h : pinErr r xs = 0) : kindV (mirR r) (turnL r xs) = kindV r xs := by
  obtain ⟨h1, h2⟩ := turn_pins h
  rw [kindV, if_pos h1, kindV, if_pos h, h2, kind_mir pinS_lt]
/-- The turned boards. -/
def mirB (r : Rk) (b : List Int) : List Int := b.map fun n => 2 * r.mid - n
theorem ix_mirB {b : List Int} {k : Nat} (h : k < b.length) : ix (mirB r b) k = 2 * r.mid - ix b k := by
  rw [ix_lt (by simpa [mirB] using h), ix_lt h]
  simp [mirB]
theorem turn_law (h : thrErr r xs ball = 0) (h' : thrErr (mirR r) (turnL r xs) (mirG r ball) = 0) :
    hitErr (mirR r) (turnL r xs) (mirG r ball) (mirB r (pickB ball ws)) (pickC r.links ws) = 0 ∧
    turnL r (hitL r xs ball (pickB ball ws) (pickC r.links ws)) = hitL (mirR r) (turnL r xs) (mirG r ball) (mirB r (pickB ball ws)) (pickC r.links ws) ∧
    turnL r (sureL r xs ball) = sureL (mirR r) (turnL r xs) (mirG r ball) ∧ turnL r (mayL r xs ball) = mayL (mirR r) (turnL r xs) (mirG r ball) := by
  obtain ⟨a1, a2, a3, a4, a5⟩ := thr_parts h
  obtain ⟨t1, t2⟩ := turn_pins a1
  have hs := pinS_lt (r := r) (xs := xs)
  have hin : ∀ {u}, Sub u (pinS r xs) → ∀ p, u.testBit p = true → p < pn r.rows := fun hu p hp => pinS_pn a1 p (hu p hp)
  have hlen : ∀ k, k < r.rows.toNat → ix (mirB r (pickB ball ws)) k = 2 * r.mid - ix (pickB ball ws) k := fun k hk => ix_mirB (by rw [pickB_len]; omega)
  have he : hitErr (mirR r) (turnL r xs) (mirG r ball) (mirB r (pickB ball ws)) (pickC r.links ws) = 0 := by
    rw [hitErr, if_pos h', if_pos]
    rw [truthB, Bool.and_eq_true, Bool.and_eq_true, Bool.and_eq_true, decide_eq_true_eq, decide_eq_true_eq, overB, carryB, allB_iff, allB_iff]
    refine ⟨⟨by rw [mirG_len]; simp [mirB, pickB_len], by rw [mirR_len, pickC_len]⟩, fun k hk => ?_, fun k hk => ?_⟩
    · have hk2 : k < ball.length := by simpa [mirB, pickB_len] using hk
      have hw := pick_within (ws := ws) a4 k hk2
      rw [inB_eq, ix_mirB (by rw [pickB_len]; exact hk2), gx_mir hk2]
      simp only [mirX]
      omega
    · rw [pickC_len] at hk
      show (!(lx (mirR r).links k).s || bx (pickC r.links ws) k) = true
      rw [lx_mir hk]
      show (!(lx r.links k).s || bx (pickC r.links ws) k) = true
      cases hsr : (lx r.links k).s
      · rfl
      · rw [pick_carry k hk hsr]; rfl
  refine ⟨he, ?_, ?_, ?_⟩
  · rw [hit_list h, hitL, if_pos he, t2, left_mir (b := ix (pickB ball ws)) a2 hs hlen]
    exact turnT_list a2.rows1 a2.rows4 (hin (leave_sub hs (pick_leave (ws := ws) h)))
  · rw [sureL, if_pos h, sureL, if_pos h', t2, sure_mir a2 hs a3 a4]
    exact turnT_list a2.rows1 a2.rows4 (hin fun p hp => ((sure_leaves hs a3 a4).1 hp).1)
  · rw [mayL, if_pos h, mayL, if_pos h', t2, may_mir a2 hs a3 a4]
    exact turnT_list a2.rows1 a2.rows4 (hin fun p hp => ((may_leaves hs a3 a4).1 hp).1)
end
end Go.Proofs.Ytpekajnjjhibjaa
