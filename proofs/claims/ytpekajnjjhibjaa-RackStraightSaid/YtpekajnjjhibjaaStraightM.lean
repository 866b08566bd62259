/-
  Straight balls that convert leaves: plain facts; no program.
-/
import Derived.Test.YtpekajnjjhibjaaMoreM
import Derived.Test.YtpekajnjjhibjaaC2
namespace Go.Proofs.Ytpekajnjjhibjaa
open Go.RowKit
set_option linter.unusedVariables false
set_option linter.unusedSimpArgs false

theorem convO_is {r : Rk} {s : Nat} {cf : Nat → Bool} {n : Nat} (h : convO r s cf = some n) : n < 427 ∧ cvN r s cf n = true := by
  unfold convO at h
  rw [List.find?_range_eq_some] at h
  exact ⟨List.mem_range.1 h.2.1, h.1⟩
theorem convO_no {r : Rk} {s : Nat} {cf : Nat → Bool} (h : convO r s cf = none) {n : Nat} (hn : n < 427) : cvN r s cf n = false := by
  unfold convO at h
  rw [List.find?_eq_none] at h
  have := h n (List.mem_range.2 hn)
  simpa using this
theorem line_ranges {n : Nat} (h : n < 427) : (0 ≤ lineS n ∧ lineS n ≤ 60) ∧ (-3 ≤ lineD n ∧ lineD n ≤ 3) := by
  unfold lineS lineD
  omega
theorem line_num {st dr : Int} (h1 : 0 ≤ st ∧ st ≤ 60) (h2 : -3 ≤ dr ∧ dr ≤ 3) : ∃ n, n < 427 ∧ lineS n = st ∧ lineD n = dr := by
  obtain ⟨e1, e2⟩ := line_at st.toNat (dr + 3).toNat (by omega)
  exact ⟨7 * st.toNat + (dr + 3).toNat, by omega, by omega, by omega⟩
theorem felledS_carry {r : Rk} {pins : Nat} {b : Nat → Int} {c d : Nat → Bool} (hp : pins < 2 ^ 10) (h : ∀ i, i < r.links.length → c i = true → d i = true) : Sub (felledS r pins b c) (felledS r pins b d) := fun p hp' => by
  rw [mem_felledS hp] at hp' ⊢
  obtain ⟨row, h1, h2⟩ := hp'
  exact ⟨row, h1, h2.mono h Sub.rfl Sub.rfl⟩
theorem conv_carry {r : Rk} {pins : Nat} {st dr : Int} {c d : Nat → Bool} (hp : pins < 2 ^ 10) (h : ∀ i, i < r.links.length → c i = true → d i = true) (hc : convB r pins st dr c = true) : convB r pins st dr d = true := by
  rw [convB, decide_eq_true_eq] at hc ⊢
  refine Sub.antisymm (felledS_lt hp) hp (felledS_sub hp) ?_
  have := felledS_carry (r := r) (b := ovF st dr) hp h
  rw [hc] at this
  exact this
/-- The ball over the boards of a straight one; are these boards? -/
def strG (a b : Int) (k : Nat) : List Rg := (List.range k).map fun j => ⟨ovF a b j, ovF a b j⟩
def onB (a b : Int) (k : Nat) : Bool := (List.range k).all fun j => inB (ovF a b j) 0 60
theorem strG_len (a b : Int) (k : Nat) : (strG a b k).length = k := by simp [strG]
theorem strG_succ (a b : Int) (k : Nat) : strG a b (k + 1) = strG a b k ++ [⟨a + (k : Int) * b, a + (k : Int) * b⟩] := by
  simp [strG, List.range_succ, ovF]
theorem onB_succ (a b : Int) (k : Nat) : onB a b (k + 1) = (onB a b k && inB (a + (k : Int) * b) 0 60) := by
  simp [onB, List.range_succ, ovF]
theorem gx_strG {a b : Int} {k j : Nat} (h : j < k) : gx (strG a b k) j = ⟨ovF a b j, ovF a b j⟩ := by
  rw [gx_lt (by rw [strG_len]; exact h)]
  simp [strG]
section
variable {r : Rk} {xs : List Int}
theorem straight_err (h : pinErr r xs = 0) (hc : cvErr r xs false ≠ 0) : cvErr r xs false = 9 ∧ (cvErr r xs true = 0 ∨ cvErr r xs true = 9) ∧ ∀ st dr, provB r xs st dr = false := by
  rw [cvErr, if_pos h] at hc ⊢
  rw [cvErr, if_pos h]
  cases e : convO r (pinS r xs) (carryOf r.links false) with
  | some n => rw [e] at hc; simp at hc
  | none =>
    refine ⟨by simp, ?_, fun st dr => ?_⟩
    · split
      · exact .inl rfl
      · exact .inr rfl
    · rw [provB]
      cases e1 : inB st 0 60
      · simp
      · cases e2 : inB dr (-3) 3
        · simp
        · rw [inB_eq] at e1 e2
          obtain ⟨n, hn, rfl, rfl⟩ := line_num e1 e2
          have := convO_no e hn
          rw [cvN] at this
          rw [this]
          simp
theorem straight_ok (h : pinErr r xs = 0) (hc : cvErr r xs false = 0) (bi : Nat) :
    cvErr r xs true = 0 ∧ provB r xs (cvLn r xs false).1 (cvLn r xs false).2 = true ∧ (0 ≤ (cvLn r xs false).1 ∧ (cvLn r xs false).1 ≤ 60) ∧ (-3 ≤ (cvLn r xs false).2 ∧ (cvLn r xs false).2 ≤ 3) ∧
    (r.links.length = 0 → provB r (fewT xs bi xs.length) (cvLn r xs false).1 (cvLn r xs false).2 = true) ∧
    (onB (cvLn r xs false).1 (cvLn r xs false).2 r.rows.toNat = true → thrErr r xs (strG (cvLn r xs false).1 (cvLn r xs false).2 r.rows.toNat) = 0 ∧ sureL r xs (strG (cvLn r xs false).1 (cvLn r xs false).2 r.rows.toNat) = xs) := by
  rw [cvErr, if_pos h] at hc
  rw [cvErr, if_pos h, cvLn, if_pos h]
  have hs := pinS_lt (r := r) (xs := xs)
  have ho := rackOk (pinErr_rack h)
  cases e : convO r (pinS r xs) (carryOf r.links false) with
  | none => rw [e] at hc; simp at hc
  | some n =>
    obtain ⟨hn, hcn⟩ := convO_is e
    obtain ⟨h1, h2⟩ := line_ranges hn
    rw [cvN] at hcn
    dsimp only
    generalize lineS n = a at *
    generalize lineD n = b at *
    refine ⟨?_, ?_, h1, h2, fun h0 => ?_, fun hon => ?_⟩
    · cases e2 : convO r (pinS r xs) (carryOf r.links true) with
      | some m => rfl
      | none =>
        obtain ⟨m, hm, e3, e4⟩ := line_num h1 h2
        have := convO_no e2 hm
        rw [cvN, e3, e4, conv_carry (d := carryOf r.links true) hs (fun i _ _ => rfl) hcn] at this
        cases this
    · rw [provB, decide_eq_true h, hcn, (inB_eq _ _ _).2 h1, (inB_eq _ _ _).2 h2]
      rfl
    · obtain ⟨f1, f2⟩ := few_pins bi h
      have hs' := pinS_lt (r := r) (xs := fewT xs bi xs.length)
      have : convB r (pinS r (fewT xs bi xs.length)) a b (carryOf r.links false) = true := by
        rw [convB, decide_eq_true_eq] at hcn ⊢
        refine Sub.antisymm (felledS_lt hs') hs' (felledS_sub hs') fun p hp => ?_
        have h3 : (felledS r (pinS r xs) (ovF a b) (carryOf r.links false)).testBit p = true := by rw [hcn]; exact f2 p hp
        rw [mem_felledS hs] at h3
        rw [mem_felledS hs']
        obtain ⟨row, h4, h5⟩ := h3
        refine ⟨row, h4, ?_⟩
        cases h5 with
        | base h6 =>
          refine .base ?_
          rw [touchS, mem_bitsP] at h6 ⊢
          exact ⟨h6.1, hp, h6.2.2⟩
        | step h6 => omega
      rw [provB, decide_eq_true f1, this, (inB_eq _ _ _).2 h1, (inB_eq _ _ _).2 h2]
      rfl
    · have hin : ∀ j, j < r.rows.toNat → 0 ≤ ovF a b j ∧ ovF a b j ≤ 60 := fun j hj => by
        rw [onB, List.all_eq_true] at hon
        exact (inB_eq _ _ _).1 (hon j (List.mem_range.2 hj))
      have hr1 := ho.rows1
      have ht : thrErr r xs (strG a b r.rows.toNat) = 0 := by
        have hb : ballB r.rows (strG a b r.rows.toNat) = true := by
          rw [ballB, Bool.and_eq_true, decide_eq_true_eq, strG_len, allB_iff]
          refine ⟨by omega, fun k hk => ?_⟩
          have := hin k hk
          show rangeB (gx (strG a b r.rows.toNat) k) = true
          rw [gx_strG hk]
          simp [rangeB, inB]
          omega
        rw [thrErr, if_pos h, hb]
        rfl
      refine ⟨ht, ?_⟩
      obtain ⟨t1, t2, t3, t4, t5⟩ := thr_parts ht
      have e5 := pins_list h
      rw [sureL, if_pos ht]
      refine Eq.trans (congrArg (fun z => natsI (listS z)) ?_) e5.symm
      refine Sub.antisymm sureS_lt hs (fun p hp => ((sure_leaves hs t3 t4).1 hp).1) fun p hp => ?_
      rw [sure_iff hs t3 t4]
      intro bb c hbb hcc
      rw [convB, decide_eq_true_eq] at hcn
      rw [← hcn] at hp
      have h7 := felledS_carry (r := r) (b := ovF a b) (d := c) hs (fun i hi hci => hcc i hi (by simpa [carryOf] using hci)) p hp
      rw [mem_felledS hs] at h7 ⊢
      obtain ⟨row, h8, h9⟩ := h7
      refine ⟨row, h8, ?_⟩
      have h10 := hbb row (by rw [strG_len]; exact h8)
      rw [gx_strG h8] at h10
      rw [show bb row = ovF a b row by dsimp only at h10; omega]
      exact h9
end
end Go.Proofs.Ytpekajnjjhibjaa
