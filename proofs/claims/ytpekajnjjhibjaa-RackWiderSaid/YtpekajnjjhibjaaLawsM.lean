/-
  Lists of pins as sets; what the statements of the rack say of sets: plain facts; no program.
-/
import Derived.Test.YtpekajnjjhibjaaE4
import Derived.Test.YtpekajnjjhibjaaE7
namespace Go.Proofs.Ytpekajnjjhibjaa
set_option linter.unusedVariables false
set_option linter.unusedSimpArgs false

theorem mem_natsS {s : Nat} {x : Int} : x ∈ natsI (listS s) ↔ ∃ p : Nat, p < 10 ∧ s.testBit p = true ∧ x = (p : Int) := by
  simp only [natsI, List.mem_map, mem_listS]
  constructor
  · rintro ⟨p, ⟨h1, h2⟩, rfl⟩
    exact ⟨p, h1, h2, rfl⟩
  · rintro ⟨p, h1, h2, rfl⟩
    exact ⟨p, ⟨h1, h2⟩, rfl⟩
theorem mem_natsS_nat {s p : Nat} (hs : s < 2 ^ 10) : (p : Int) ∈ natsI (listS s) ↔ s.testBit p = true := by
  rw [mem_natsS]
  constructor
  · rintro ⟨q, _, h, e⟩
    rw [show p = q by omega]
    exact h
  · intro h
    exact ⟨p, bit_lt hs h, h, rfl⟩
theorem subB_sets {s t : Nat} (hs : s < 2 ^ 10) (ht : t < 2 ^ 10) : subB (natsI (listS s)) (natsI (listS t)) = true ↔ Sub s t := by
  rw [subB_iff]
  constructor
  · intro h p hp
    have := h (p : Int) ((mem_natsS_nat hs).2 hp)
    exact (mem_natsS_nat ht).1 this
  · intro h x hx
    obtain ⟨p, _, hp, rfl⟩ := mem_natsS.1 hx
    exact (mem_natsS_nat ht).2 (h p hp)
theorem minus_sets {s t : Nat} (hs : s < 2 ^ 10) (ht : t < 2 ^ 10) : minusL (natsI (listS s)) (natsI (listS t)) = natsI (listS (bitsP (fun p => s.testBit p = true ∧ ¬ t.testBit p = true) 10)) := by
  have hb := bitsP_lt (fun p => s.testBit p = true ∧ ¬ t.testBit p = true) 10
  unfold minusL natsI
  rw [List.filter_map]
  congr 1
  refine rising_ext (List.Pairwise.filter _ (rising_listS s)) (rising_listS _) fun p => ?_
  rw [List.mem_filter, mem_listS, mem_listS, mem_bitsP]
  have : ((fun x => !hasB (List.map Int.ofNat (listS t)) x) ∘ Int.ofNat) p = true ↔ ¬ t.testBit p = true := by
    show (!hasB (natsI (listS t)) (p : Int)) = true ↔ _
    rw [Bool.not_eq_true', ← Bool.not_eq_true, hasB_iff, mem_natsS_nat ht]
  rw [this]
  constructor
  · rintro ⟨⟨h1, h2⟩, h3⟩; exact ⟨h1, h1, h2, h3⟩
  · rintro ⟨h1, _, h2, h3⟩; exact ⟨⟨h1, h2⟩, h3⟩
theorem ix_nats {l : List Nat} {k : Nat} (h : k < l.length) : ix (natsI l) k = (l[k] : Int) := by
  rw [ix_lt (by rw [natsI_len]; exact h)]
  simp [natsI]
theorem rises_nats {l : List Nat} (h : l.Pairwise (· < ·)) : risesB (natsI l) = true := by
  rw [risesB, allB_iff]
  intro k hk
  rw [natsI_len] at hk
  rw [decide_eq_true_eq, lastOf]
  split
  · rw [ix_nats hk]; omega
  · rw [ix_nats hk, ix_nats (show k - 1 < l.length by omega)]
    have := List.pairwise_iff_getElem.1 h (k - 1) k (by omega) hk (by omega)
    omega
theorem pin_of {r : Rk} {u : Nat} (he : rackErr r = 0) (hu : ∀ p, u.testBit p = true → p < pn r.rows) : pinErr r (natsI (listS u)) = 0 ∧ pinS r (natsI (listS u)) = u := by
  have hpn := pn_le (rackOk he).rows1 (rackOk he).rows4
  have hu10 : u < 2 ^ 10 := Nat.lt_pow_two_of_testBit _ fun i hi => by
    rw [Bool.eq_false_iff]
    intro h
    have := hu i h
    omega
  have h1 : pinErr r (natsI (listS u)) = 0 := by
    rw [pinErr, if_pos he, rises_nats (rising_listS u), Bool.and_true, if_pos]
    rw [pinsB, allB_iff]
    intro k hk
    rw [natsI_len] at hk
    rw [inB_eq, ix_nats hk]
    have := hu _ (mem_listS.1 (List.getElem_mem hk)).2
    omega
  refine ⟨h1, ?_⟩
  rw [pinS, if_pos h1]
  have : (natsI (listS u)).map Int.toNat = listS u := by simp [natsI, Function.comp_def]
  rw [this, ofS_listS hu10]
theorem pins_list {r : Rk} {xs : List Int} (h : pinErr r xs = 0) : xs = natsI (listS (pinS r xs)) := by
  obtain ⟨h1, h2, h3⟩ := pins_nats h
  have hpn := pn_le (rackOk (pinErr_rack h)).rows1 (rackOk (pinErr_rack h)).rows4
  rw [pinS, if_pos h, listS_ofS h2 fun p hp => by have := h3 p hp; omega]
  exact h1
theorem ix_map_range {n k : Nat} {f : Nat → Int} (h : k < n) : ix ((List.range n).map f) k = f k := by
  rw [ix_lt (by simpa using h)]
  simp
theorem bx_map_range {n k : Nat} {f : Nat → Bool} (h : k < n) : bx ((List.range n).map f) k = f k := by
  rw [bx_lt (by simpa using h)]
  simp
section
variable {r : Rk} {xs : List Int} {ball : List Rg} {ws : List Int}
theorem pick_within (hr : Ranges ball) : Within ball (ix (pickB ball ws)) := fun k hk => by
  rw [pickB, ix_map_range hk]
  have h := hr k hk
  have a := Int.emod_nonneg (wordF ws k) (b := (gx ball k).hi - (gx ball k).lo + 1) (by omega)
  have b := Int.emod_lt_of_pos (wordF ws k) (b := (gx ball k).hi - (gx ball k).lo + 1) (by omega)
  omega
theorem pick_carry : Carry r.links (bx (pickC r.links ws)) := fun i hi hs => by
  rw [pickC, bx_map_range hi, hs, Bool.true_or]
theorem pick_truth (hr : Ranges ball) : truthB r ball (pickB ball ws) (pickC r.links ws) = true := by
  rw [truthB, Bool.and_eq_true, Bool.and_eq_true, Bool.and_eq_true, decide_eq_true_eq, decide_eq_true_eq, overB, carryB, allB_iff, allB_iff]
  refine ⟨⟨pickB_len _ _, pickC_len _ _⟩, fun k hk => ?_, fun k hk => ?_⟩
  · rw [pickB_len] at hk
    rw [inB_eq]
    exact pick_within hr k hk
  · rw [pickC_len] at hk
    show (!(lx r.links k).s || bx (pickC r.links ws) k) = true
    cases hs : (lx r.links k).s
    · rfl
    · rw [pick_carry k hk hs]; rfl
theorem thr_parts (h : thrErr r xs ball = 0) : pinErr r xs = 0 ∧ Ok r ∧ ball.length = r.rows.toNat ∧ Ranges ball ∧ (∀ k, k < ball.length → 0 ≤ (gx ball k).lo ∧ (gx ball k).lo ≤ (gx ball k).hi ∧ (gx ball k).hi ≤ 60 ∧ (gx ball k).hi - (gx ball k).lo ≤ 8) := by
  obtain ⟨h1, h2⟩ := thrErr_pin h
  obtain ⟨a, b, c⟩ := ballB_ok h2
  exact ⟨h1, rackOk (pinErr_rack h1), by omega, b, c⟩
theorem hit_ok (h : thrErr r xs ball = 0) : hitErr r xs ball (pickB ball ws) (pickC r.links ws) = 0 := by
  rw [hitErr, if_pos h, pick_truth (thr_parts h).2.2.2.1, if_pos rfl]
noncomputable def pickS (r : Rk) (xs : List Int) (ball : List Rg) (ws : List Int) : Nat := leftS r (pinS r xs) (ix (pickB ball ws)) (bx (pickC r.links ws))
theorem hit_list (h : thrErr r xs ball = 0) : hitL r xs ball (pickB ball ws) (pickC r.links ws) = natsI (listS (pickS r xs ball ws)) := by
  rw [hitL, if_pos (hit_ok h)]; rfl
theorem pick_leave (h : thrErr r xs ball = 0) : LeaveP r (pinS r xs) ball (pickS r xs ball ws) := ⟨_, _, pick_within (thr_parts h).2.2.2.1, pick_carry, rfl⟩
theorem leave_pins {u : Nat} (h : pinErr r xs = 0) (hu : LeaveP r (pinS r xs) ball u) : pinErr r (natsI (listS u)) = 0 ∧ pinS r (natsI (listS u)) = u :=
  pin_of (pinErr_rack h) fun p hp => pinS_pn h p (leave_sub pinS_lt hu p hp)
theorem leave_can {u : Nat} (h : thrErr r xs ball = 0) (hu : LeaveP r (pinS r xs) ball u) : canB r xs ball (natsI (listS u)) = true := by
  obtain ⟨h1, h2⟩ := leave_pins (thr_parts h).1 hu
  rw [canB_iff]
  exact ⟨h, h1, by rw [h2]; exact hu⟩
theorem leave_left {u : Nat} (h : thrErr r xs ball = 0) (hu : LeaveP r (pinS r xs) ball u) : (leftV r xs ball).1 ≤ many u ∧ many u ≤ (leftV r xs ball).2 := by
  rw [leftV, if_pos h]
  exact (leftN_is (thr_parts h).2.2.2.1).1 u hu
theorem truth_in (h : thrErr r xs ball = 0) : subB (hitL r xs ball (pickB ball ws) (pickC r.links ws)) xs = true := by
  rw [hit_list h]
  have h1 := leave_lt (pick_leave (ws := ws) h)
  have h2 := leave_sub pinS_lt (pick_leave (ws := ws) h)
  have h3 := pinS_lt (r := r) (xs := xs)
  have e := pins_list (thr_parts h).1
  generalize pickS r xs ball ws = u at *
  generalize pinS r xs = s at *
  rw [e, subB_sets h1 h3]
  exact h2
theorem truth_len (h : thrErr r xs ball = 0) : (leftV r xs ball).1 ≤ (hitL r xs ball (pickB ball ws) (pickC r.links ws)).length ∧ (hitL r xs ball (pickB ball ws) (pickC r.links ws)).length ≤ (leftV r xs ball).2 := by
  rw [hit_list h, natsI_len]
  exact leave_left h (pick_leave h)
theorem truth_can (h : thrErr r xs ball = 0) : canB r xs ball (hitL r xs ball (pickB ball ws) (pickC r.links ws)) = true := by
  rw [hit_list h]
  exact leave_can h (pick_leave h)
theorem truth_fell (h : thrErr r xs ball = 0) : minusL xs (hitL r xs ball (pickB ball ws) (pickC r.links ws)) = natsI (listS (bitsP (fun p => (pinS r xs).testBit p = true ∧ ¬ (pickS r xs ball ws).testBit p = true) 10)) := by
  rw [hit_list h]
  have h1 := leave_lt (pick_leave (ws := ws) h)
  have h3 := pinS_lt (r := r) (xs := xs)
  have e := pins_list (thr_parts h).1
  generalize pickS r xs ball ws = u at *
  generalize pinS r xs = s at *
  rw [e]
  exact minus_sets h3 h1
theorem truth_sure (h : thrErr r xs ball = 0) : subB (sureL r xs ball) (minusL xs (hitL r xs ball (pickB ball ws) (pickC r.links ws))) = true := by
  obtain ⟨h1, h2, h3, h4, h5⟩ := thr_parts h
  rw [truth_fell h, sureL, if_pos h, subB_sets sureS_lt (bitsP_lt _ _)]
  intro p hp
  obtain ⟨a, b⟩ := (sure_leaves pinS_lt h3 h4).1 hp
  exact mem_bitsP.2 ⟨bit_lt pinS_lt a, a, b _ (pick_leave h)⟩
theorem truth_may (h : thrErr r xs ball = 0) : subB (minusL xs (hitL r xs ball (pickB ball ws) (pickC r.links ws))) (mayL r xs ball) = true := by
  obtain ⟨h1, h2, h3, h4, h5⟩ := thr_parts h
  rw [truth_fell h, mayL, if_pos h, subB_sets (bitsP_lt _ _) mayS_lt]
  intro p hp
  obtain ⟨_, a, b⟩ := mem_bitsP.1 hp
  exact (may_leaves pinS_lt h3 h4).2 ⟨a, _, pick_leave h, b⟩
end
end Go.Proofs.Ytpekajnjjhibjaa
