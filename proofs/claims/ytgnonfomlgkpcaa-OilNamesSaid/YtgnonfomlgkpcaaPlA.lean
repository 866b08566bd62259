/-
  Are all lines of a list playable, one behind the other? Plans of a block: plain. What is known of spans of lines: a map from spans (from, tz) tz bools; the recursive closure of Plan. Parts of a list of lines; slices.Contains; ProvePlan. All plans by bits, the best of them, and rightness line by line: plain. Plans by the program and by the reference: plain. The reference's Less, IsPlan. The reference's Balls, Right. Plan: the best plan of a block. The reference's Plan: all plans by bits. Block (a block for the program, in new memory); the law's error of a block. OilPlans: the walk.
-/
import Derived.Test.YtgnonfomlgkpcaaBlock
import Derived.Test.YtgnonfomlgkpcaaOwn
import Derived.Test.YtgnonfomlgkpcaaRt
import Derived.Maps.OwnSet
import Derived.DeepKeys4
import Derived.Test.YtgnonfomlgkpcaaStaysM
import Derived.Test.YtgnonfomlgkpcaaTruthW
namespace Go.Proofs.Ytgnonfomlgkpcaa
section

open Go.RowKit
set_option linter.unusedSimpArgs false
set_option linter.unusedVariables false

/-- The oil behind the first k lines' balls, as little as can be. -/
def runO (ca lo hi : Int) (ls : Lines) (o : Nat → Int) : Nat → (Nat → Int)
  | 0 => o
  | k + 1 => rollW ca (lx ls k).1 (fun _ => lo) (fun _ => hi) (runO ca lo hi ls o k) (List.range (lx ls k).1.length)
theorem lvl_runO {ca lo hi : Int} {ls : Lines} {o : Nat → Int} (h : Lvl o) (hw : 0 ≤ hi) : ∀ k, Lvl (runO ca lo hi ls o k)
  | 0 => h
  | k + 1 => (lvl_runO h hw k).roll (fun _ => hw) _
noncomputable def holdsB (ca lo hi : Int) (ls : Lines) (o : Nat → Int) : Bool := allB ls.length fun k => enB (lx ls k).1 (lx ls k).2 (runO ca lo hi ls o k)
theorem linesOk {xss : List (List Int)} {ls : Lines} (h : linesB xss ls = true) : ∀ k, k < ls.length → lineB xss (lx ls k).1 (lx ls k).2 = true := by
  unfold linesB at h
  rw [allB_iff] at h
  exact h

set_option maxRecDepth 100000 in
set_option maxHeartbeats 8000000 in
theorem holds_c {B : Nat} (A A' : Option Addr) (xss : List (List Int)) (ls : Lines) (c c' : Nat) (lo hi ca : Int) (w : World) (hB : B ≤ w.heap.size) (hr : Grd B w A xss) (hx : Lns B w A' ls) (hc : xss.length ≤ c ∧ c ≤ 9223372036854775807) (hc' : ls.length ≤ c' ∧ c' ≤ 9223372036854775807) (h : laneErr xss lo hi ca = 0) (hl : linesB xss ls = true) :
    Calls Try.prog 78 #[.agg #[.slice A xss.length c, .int .i64 lo, .int .i64 hi, .int .i64 ca], .slice A' ls.length c'] w (Ans w (.bool (holdsB ca lo hi ls (oilOf xss)))) := by
  have hw1 : Below w.heap.size w (w.alloc (.cells #[.slice A xss.length c, .int .i64 lo, .int .i64 hi, .int .i64 ca] 34)) := (Below.refl _ _).alloc (Nat.le_refl _) _
  have hz1 := hw1.size
  have HRr := Lib.hid hr
  have HX := Lib.hid hx
  clear hr hx
  have HV := Lib.hid (laneOk h)
  have HLW := Lib.hid (lvl_oilOf h)
  have HLO := Lib.hid (linesOk hl)
  have H5 := Lib.hid (fresh_c (B := B) A xss c lo hi ca _ (by omega) (HRr.out.below (hw1.mono hB)) hc HV.out.2.1 (fun k hk => (HV.out.2.2.1 k hk).2.2))
  have HB1 := Lib.hid hw1
  clear h hl hw1
  go_enter Try.func78, Try.ntmps78
  go_wp2_with fail
  generalize w.alloc (.cells #[.slice A xss.length c, .int .i64 lo, .int .i64 hi, .int .i64 ca] 34) = w2 at *
  refine H5.out.mono ?_
  rintro e w5 ⟨g, rfl, hg, hW5, hb5⟩
  have hz5 := hb5.size
  have HB5 := Lib.hid (HB1.out.trans (hb5.mono HB1.out.size))
  have HW5 := Lib.hid hW5
  have hgl := hW5.lt
  clear hb5 HB1 H5 hW5
  go_wp2_with fail
  go_loopw [12] (fun i wr => ∃ k : Nat, k ≤ ls.length ∧ i = .int .i64 k ∧ Worn wr g (.slice A xss.length c) lo hi ca (runO ca lo hi ls (oilOf xss) k) ∧ KpG w5.heap.size g w5 wr ∧ AllB k (fun k => enB (lx ls k).1 (lx ls k).2 (runO ca lo hi ls (oilOf xss) k))) (fun i _ => ls.length - (intOf i).toNat)
  case atStart => exact ⟨0, by omega, rfl, HW5.out, KpG.refl _ _ _, fun j hj => by omega⟩
  case round =>
    obtain ⟨k, hk, rfl, hWr, hKr, hal⟩ := hrel
    have HAL := Lib.hid hal
    have hzr := hKr.1
    have hbr : Below B w wr := (HB5.out.mono hB).trans (hKr.below (by omega) (by omega))
    clear hal
    by_cases h1 : k < ls.length
    · have h1i : (k : Int) < (ls.length : Int) := by omega
      obtain ⟨b, off, A1, c1, A2, c2, hA, i4, i5, q1, q2, q3, q4⟩ := (HX.out.below hbr).at_ h1
      subst hA
      have h12 := (HV.out.2.2.1 0 HV.out.1).2.2
      have hv := HV.out.2.2.2.2
      have hok := lineOk (HLO.out k h1)
      have HRS : Hid (runO ca lo hi ls (oilOf xss) (k + 1) = rollW ca (lx ls k).1 (fun _ => lo) (fun _ => hi) (runO ca lo hi ls (oilOf xss) k) (List.range (lx ls k).1.length)) := rfl
      have hlv := lvl_runO (ca := ca) (lo := lo) (ls := ls) HLW.out (show 0 ≤ hi by omega) k
      have HNX : Hid (enB (lx ls k).1 (lx ls k).2 (runO ca lo hi ls (oilOf xss) k) = false → holdsB ca lo hi ls (oilOf xss) = false) := fun h => allB_false h1 h
      have HYX : Hid (enB (lx ls k).1 (lx ls k).2 (runO ca lo hi ls (oilOf xss) k) = true → (fun k => enB (lx ls k).1 (lx ls k).2 (runO ca lo hi ls (oilOf xss) k)) k = true) := fun h => h
      have hlen : (lx ls k).1.length ≤ 8 := by rw [hok.1.1]; exact HV.out.2.1
      have hbd : ∀ j, j < (lx ls k).1.length → 0 ≤ ix (lx ls k).1 j ∧ ix (lx ls k).1 j < 12 := fun j hj => by
        have := hok.1.2 j (by rw [← hok.1.1]; exact hj)
        omega
      have hln : (lx ls k).2.length = (lx ls k).1.length := by rw [hok.2.1, hok.1.1]
      have hb0 : Below wr.heap.size wr (wr.alloc (.cells #[.slice A1 (lx ls k).1.length c1, .slice A2 (lx ls k).2.length c2] 60)) := (Below.refl _ _).alloc (Nat.le_refl _) _
      have hbr2 : Below B w (wr.alloc (.cells #[.slice A1 (lx ls k).1.length c1, .slice A2 (lx ls k).2.length c2] 60)) := hbr.trans (hb0.mono (by omega))
      have H74 := Lib.hid (enough_c (B := B) g c1 c2 A1 A2 (lx ls k).1 (lx ls k).2 (.slice A xss.length c) lo hi ca _ _ (hWr.alloc (.cells #[.slice A1 (lx ls k).1.length c1, .slice A2 (lx ls k).2.length c2] 60)) (Nat.le_trans hB hbr2.size) (q3.below (hb0.mono (by omega))) (q4.below (hb0.mono (by omega))) hln hlen hbd)
      have j4 : (wr.alloc (.cells #[.slice A1 (lx ls k).1.length c1, .slice A2 (lx ls k).2.length c2] 60)).cell? ⟨wr.heap.size, 0, none⟩ = some (.slice A1 (lx ls k).1.length c1) := by simp
      have H68 := Lib.hid (fun (W : World) (hW : Below (wr.alloc (.cells #[.slice A1 (lx ls k).1.length c1, .slice A2 (lx ls k).2.length c2] 60)).heap.size (wr.alloc (.cells #[.slice A1 (lx ls k).1.length c1, .slice A2 (lx ls k).2.length c2] 60)) W) => roll_c (B := B) g 69 c1 A1 (lx ls k).1 (.slice A xss.length c) lo hi ca lo hi _ W ((hWr.alloc _).below hW (hWr.alloc _).lt) (by have := hW.size; have := hb0.size; omega) (by omega) (q3.below ((hb0.mono (by omega)).trans (hW.mono (by have := hb0.size; omega)))) enters69 (fun W => little_c lo hi W) hlen hbd hv.2.2.2.1 hv.2.2.2.2 hv.1 (by omega) (by omega) hv.2.2.1 hlv)
      have HKr := Lib.hid hKr
      have HB0 := Lib.hid hb0
      have HEQ : Hid (enB (lx ls k).1 (lx ls k).2 (runO ca lo hi ls (oilOf xss) k) = (List.range (lx ls k).1.length).all (enAt (lx ls k).1 (lx ls k).2 (runO ca lo hi ls (oilOf xss) k))) := rfl
      clear hWr hKr hbr2 hbd hlen hv h12 hok hlv hln hb0 q3 q4
      generalize (lx ls k).1 = x at *
      generalize (lx ls k).2 = nd at *
      generalize runO ca lo hi ls (oilOf xss) k = ok at *
      cases hen : enB x nd ok
      · have HEN : Hid ((List.range x.length).all (enAt x nd ok) = false) := HEQ.out.symm.trans hen
        have HF := Lib.hid (HNX.out hen)
        clear hen HEQ hbr
        go_wp2_with fail
        refine H74.out.mono ?_
        rw [HEN.out]
        rintro e w6 ⟨rfl, hb6⟩
        go_wp2_with fail
        go_ret
        refine ⟨ret_bool HF.out.symm, ?_⟩
        exact (HB5.out.trans (HKr.out.below (by omega) (by omega))).trans ((HB0.out.trans (hb6.mono HB0.out.size)).mono (by omega))
      · have HEN : Hid ((List.range x.length).all (enAt x nd ok) = true) := HEQ.out.symm.trans hen
        have HY := Lib.hid (HYX.out hen)
        clear hen HEQ hbr
        go_wp2_with fail
        refine H74.out.mono ?_
        rw [HEN.out]
        rintro e w6 ⟨rfl, hb6⟩
        have i4' := cell_of_ans hb6 j4
        have HB6 := Lib.hid hb6
        clear hb6
        go_wp2_with fail
        refine (H68.out w6 HB6.out).mono ?_
        rintro e w7 ⟨rfl, hW7, hg7⟩
        have HW7 := Lib.hid hW7
        have HG7 := Lib.hid hg7
        clear hW7 hg7
        go_wp2_with fail
        go_roundw
        case rel =>
          refine ⟨k + 1, by omega, by go_num, by rw [HRS.out]; exact HW7.out, ?_, HAL.out.succ HY.out⟩
          have hb7 := HB0.out.trans (HB6.out.mono HB0.out.size)
          exact (HKr.out.trans ⟨hb7.size, hb7.os, hb7.tape, hb7.output, fun j hj _ => hb7.block j (by omega)⟩).trans (KpG.of_grown HG7.out (by have := hb7.size; omega))
        case measure => simp [intOf]; omega
    · obtain rfl : k = ls.length := by omega
      have h1i : ¬ (ls.length : Int) < (ls.length : Int) := by omega
      have HF : Hid (holdsB ca lo hi ls (oilOf xss) = true) := allB_true HAL.out
      have HKr := Lib.hid hKr
      clear hWr hKr hbr
      go_wp2_with fail
      go_ret
      refine ⟨ret_bool HF.out.symm, ?_⟩
      exact HB5.out.trans (HKr.out.below (by omega) (by omega))
end

section


/-- Is a number in a list? -/
def hasI (xs : List Int) (n : Int) : Bool := xs.any fun x => x == n
/-- A step of a plan: from one laying tz the next. -/
def stepP (n : Nat) (hold : Nat → Nat → Bool) (fr : Nat) (t : Int) : Bool := !(decide (t < (n : Int)) && decide (t ≤ (fr : Int))) && (!decide ((n : Int) < t) && hold fr t.toNat)
def goP (n : Nat) (hold : Nat → Nat → Bool) : Nat → List Int → Bool
  | _, [] => true
  | fr, t :: ts => stepP n hold fr t && goP n hold t.toNat ts
def proveP (n : Nat) (hold : Nat → Nat → Bool) (plan : List Int) : Bool := goP n hold 0 (plan ++ [(n : Int)]) && !hasI plan (n : Int)

/-- A right plan of the lines from one on. -/
def RP (n : Nat) (hold : Nat → Nat → Bool) : Nat → List Int → Prop
  | fr, [] => hold fr n = true
  | fr, t :: q => (fr : Int) < t ∧ t < (n : Int) ∧ hold fr t.toNat = true ∧ RP n hold t.toNat q

theorem goP_iff (n : Nat) (hold : Nat → Nat → Bool) : ∀ (plan : List Int) (fr : Nat), fr ≤ n → ((goP n hold fr (plan ++ [(n : Int)]) = true ∧ hasI plan (n : Int) = false) ↔ RP n hold fr plan)
  | [], fr, _ => by simp [goP, stepP, hasI, RP]
  | t :: q, fr, h => by
    have hh : hasI (t :: q) (n : Int) = ((t == (n : Int)) || hasI q (n : Int)) := rfl
    have hg : goP n hold fr ((t :: q) ++ [(n : Int)]) = (stepP n hold fr t && goP n hold t.toNat (q ++ [(n : Int)])) := rfl
    rw [hh, hg]
    simp only [RP, Bool.and_eq_true, Bool.or_eq_false_iff]
    constructor
    · rintro ⟨⟨h1, h2⟩, h3, h4⟩
      have h3' : t ≠ (n : Int) := by simpa using h3
      unfold stepP at h1
      simp only [Bool.and_eq_true, Bool.not_eq_true', Bool.and_eq_false_iff, decide_eq_false_iff_not] at h1
      obtain ⟨a, b, c⟩ := h1
      have hl : t < (n : Int) := by omega
      have hf : (fr : Int) < t := by rcases a with a | a <;> omega
      exact ⟨hf, hl, c, (goP_iff n hold q t.toNat (by omega)).1 ⟨h2, h4⟩⟩
    · rintro ⟨h1, h2, h3, h4⟩
      obtain ⟨a, b⟩ := (goP_iff n hold q t.toNat (by omega)).2 h4
      refine ⟨⟨?_, a⟩, by simp; omega, b⟩
      unfold stepP
      simp only [Bool.and_eq_true, Bool.not_eq_true', Bool.and_eq_false_iff, decide_eq_false_iff_not]
      exact ⟨.inr (by omega), by omega, h3⟩

theorem proveP_iff (n : Nat) (hold : Nat → Nat → Bool) (plan : List Int) : proveP n hold plan = true ↔ RP n hold 0 plan := by
  rw [← goP_iff n hold plan 0 (Nat.zero_le _)]
  unfold proveP
  simp

theorem RP.len {n : Nat} {hold : Nat → Nat → Bool} : ∀ {q : List Int} {fr : Nat}, fr ≤ n → RP n hold fr q → q.length + fr ≤ n
  | [], fr, h, _ => by simpa using h
  | t :: q, fr, h, hq => by
    obtain ⟨a, b, _, d⟩ := hq
    have := RP.len (q := q) (fr := t.toNat) (by omega) d
    simp only [List.length_cons]
    omega

def tryL (hold : Nat → Nat → Bool) (r : Nat → Option (List Int)) (fr tz : Nat) : Option (List Int) := if hold fr tz then (r tz).map (fun p => (tz : Int) :: p) else none
def scanL (f : Nat → Option (List Int)) : Nat → Nat → Option (List Int)
  | _, 0 => none
  | tz, k + 1 => match f tz with
    | some p => some p
    | none => scanL f (tz + 1) k
def restL (n : Nat) (hold : Nat → Nat → Bool) : Nat → Nat → Option (List Int)
  | 0, fr => if fr = n ∨ hold fr n = true then some [] else none
  | m + 1, fr => if fr = n ∨ hold fr n = true then none else scanL (tryL hold (restL n hold m) fr) (fr + 1) (n - (fr + 1))

theorem scanL_some {f : Nat → Option (List Int)} {p : List Int} : ∀ {k tz : Nat}, scanL f tz k = some p → ∃ t, tz ≤ t ∧ t < tz + k ∧ f t = some p ∧ ∀ j, tz ≤ j → j < t → f j = none
  | 0, tz, h => by cases h
  | k + 1, tz, h => by
    unfold scanL at h
    cases hf : f tz with
    | some x => rw [hf] at h; exact ⟨tz, Nat.le_refl _, by omega, by rw [hf]; exact h, fun j a b => by omega⟩
    | none =>
      rw [hf] at h
      obtain ⟨t, a, b, c, d⟩ := scanL_some (k := k) (tz := tz + 1) h
      refine ⟨t, by omega, by omega, c, fun j e g => ?_⟩
      by_cases hj : j = tz
      · rw [hj]; exact hf
      · exact d j (by omega) g
theorem scanL_none {f : Nat → Option (List Int)} : ∀ {k tz : Nat}, scanL f tz k = none → ∀ t, tz ≤ t → t < tz + k → f t = none
  | 0, tz, _, t, a, b => by omega
  | k + 1, tz, h, t, a, b => by
    unfold scanL at h
    cases hf : f tz with
    | some x => rw [hf] at h; cases h
    | none =>
      rw [hf] at h
      by_cases hj : t = tz
      · rw [hj]; exact hf
      · exact scanL_none (k := k) (tz := tz + 1) h t (by omega) (by omega)

theorem tryL_some {hold : Nat → Nat → Bool} {r : Nat → Option (List Int)} {fr tz : Nat} {p : List Int} (h : tryL hold r fr tz = some p) : hold fr tz = true ∧ ∃ q, r tz = some q ∧ p = (tz : Int) :: q := by
  unfold tryL at h
  by_cases hh : hold fr tz = true
  · rw [if_pos hh] at h
    cases hr : r tz with
    | none => rw [hr] at h; cases h
    | some q => rw [hr] at h; injection h with h; exact ⟨hh, q, rfl, h.symm⟩
  · rw [if_neg hh] at h; cases h

theorem rest_right {n : Nat} {hold : Nat → Nat → Bool} (hnn : hold n n = true) : ∀ {m fr : Nat} {p : List Int}, fr ≤ n → restL n hold m fr = some p → RP n hold fr p ∧ p.length = m
  | 0, fr, p, _, h => by
    unfold restL at h
    by_cases hc : fr = n ∨ hold fr n = true
    · rw [if_pos hc] at h
      injection h with h
      subst h
      refine ⟨?_, rfl⟩
      rcases hc with rfl | hc
      · exact hnn
      · exact hc
    · rw [if_neg hc] at h; cases h
  | m + 1, fr, p, hf, h => by
    unfold restL at h
    by_cases hc : fr = n ∨ hold fr n = true
    · rw [if_pos hc] at h; cases h
    · rw [if_neg hc] at h
      obtain ⟨t, a, b, c, _⟩ := scanL_some h
      obtain ⟨hh, q, hq, rfl⟩ := tryL_some c
      obtain ⟨r1, r2⟩ := rest_right hnn (m := m) (fr := t) (p := q) (by omega) hq
      refine ⟨⟨by omega, by omega, ?_, ?_⟩, by simp [r2]⟩
      · rw [Int.toNat_natCast]; exact hh
      · rw [Int.toNat_natCast]; exact r1

/-- Is a list before another one of its length? -/
def lexLt : List Int → List Int → Bool
  | a :: aa, b :: bs => if a = b then lexLt aa bs else decide (a < b)
  | _, _ => false
def lessI (a b : List Int) : Bool := if a.length = b.length then lexLt a b else decide (a.length < b.length)

theorem rest_min {n : Nat} {hold : Nat → Nat → Bool} (hnn : hold n n = true) : ∀ {m fr : Nat}, fr ≤ n → (∀ q, RP n hold fr q → m ≤ q.length) → (∃ q, RP n hold fr q ∧ q.length = m) → ∃ p, restL n hold m fr = some p ∧ ∀ q, RP n hold fr q → q.length = m → lexLt q p = false
  | 0, fr, _, _, he => by
    obtain ⟨q, hq, hl⟩ := he
    obtain rfl := List.length_eq_zero_iff.1 hl
    refine ⟨[], ?_, fun q _ _ => by cases q <;> rfl⟩
    unfold restL
    rw [if_pos (.inr hq)]
  | m + 1, fr, hf, hm, he => by
    obtain ⟨q, hq, hl⟩ := he
    have hc : ¬ (fr = n ∨ hold fr n = true) := by
      rintro (rfl | hc)
      · have := hm [] hnn; simp at this
      · have := hm [] hc; simp at this
    have key : ∀ t q', RP n hold fr (t :: q') → q'.length = m → ∃ p', restL n hold m t.toNat = some p' ∧ lexLt q' p' = false := fun t q' hr hlq => by
      obtain ⟨a, b, c, d⟩ := hr
      obtain ⟨p', e1, e2⟩ := rest_min hnn (m := m) (fr := t.toNat) (by omega) (fun q2 h2 => by
        have := hm (t :: q2) ⟨a, b, c, h2⟩
        simp only [List.length_cons] at this
        omega) ⟨q', d, hlq⟩
      exact ⟨p', e1, e2 q' d hlq⟩
    have hrs : restL n hold (m + 1) fr = scanL (tryL hold (restL n hold m) fr) (fr + 1) (n - (fr + 1)) := by
      show (if _ then _ else _) = _
      rw [if_neg hc]
    rw [hrs]
    cases hs : scanL (tryL hold (restL n hold m) fr) (fr + 1) (n - (fr + 1)) with
    | none =>
      exfalso
      cases q with
      | nil => simp at hl
      | cons t q' =>
        obtain ⟨p', e1, _⟩ := key t q' hq (by simpa using hl)
        obtain ⟨a, b, c, d⟩ := hq
        have := scanL_none hs t.toNat (by omega) (by omega)
        unfold tryL at this
        rw [if_pos c, e1] at this
        cases this
    | some p =>
      refine ⟨p, rfl, fun q2 h2 hl2 => ?_⟩
      cases q2 with
      | nil => simp at hl2
      | cons t q' =>
        obtain ⟨p', e1, e2⟩ := key t q' h2 (by simpa using hl2)
        obtain ⟨a, b, c, d⟩ := h2
        obtain ⟨t0, f1, f2, f3, f4⟩ := scanL_some hs
        obtain ⟨g1, q0, g2, rfl⟩ := tryL_some f3
        have hle : t0 ≤ t.toNat := by
          refine Nat.le_of_not_lt fun hlt => ?_
          have := f4 t.toNat (by omega) hlt
          unfold tryL at this
          rw [if_pos c, e1] at this
          cases this
        unfold lexLt
        by_cases hte : t = (t0 : Int)
        · rw [if_pos hte]
          subst hte
          rw [Int.toNat_natCast] at e1
          rw [g2] at e1
          injection e1 with e1
          rw [e1]
          exact e2
        · rw [if_neg hte]
          exact decide_eq_false (by omega)

def planFrom (n : Nat) (hold : Nat → Nat → Bool) : Nat → Nat → Option (List Int)
  | _, 0 => none
  | m, k + 1 => match restL n hold m 0 with
    | some p => some p
    | none => planFrom n hold (m + 1) k
/-- The best plan of n lines. -/
def planL (n : Nat) (hold : Nat → Nat → Bool) : Option (List Int) := planFrom n hold 0 (n + 1)

theorem planFrom_skip {n : Nat} {hold : Nat → Nat → Bool} (k : Nat) : ∀ (d a : Nat), (∀ j, a ≤ j → j < a + d → restL n hold j 0 = none) → planFrom n hold a (d + k) = planFrom n hold (a + d) k
  | 0, a, _ => by simp
  | d + 1, a, h => by
    rw [show d + 1 + k = (d + k) + 1 by omega, planFrom, h a (Nat.le_refl _) (by omega)]
    rw [show a + (d + 1) = (a + 1) + d by omega]
    exact planFrom_skip k d (a + 1) fun j x y => h j (by omega) (by omega)

theorem least_len {P : List Int → Prop} : ∀ (k : Nat), (∃ q, P q ∧ q.length ≤ k) → ∃ m, (∃ q, P q ∧ q.length = m) ∧ ∀ q, P q → m ≤ q.length
  | 0, ⟨q, hq, hl⟩ => ⟨0, ⟨q, hq, by omega⟩, fun _ _ => Nat.zero_le _⟩
  | k + 1, ⟨q, hq, hl⟩ => by
    by_cases h : ∃ q, P q ∧ q.length ≤ k
    · exact least_len k h
    · refine ⟨k + 1, ⟨q, hq, ?_⟩, fun q2 h2 => ?_⟩
      · exact Nat.le_antisymm hl (Nat.lt_of_not_le fun x => h ⟨q, hq, x⟩)
      · exact Nat.lt_of_not_le fun x => h ⟨q2, h2, x⟩

theorem plan_is {n : Nat} {hold : Nat → Nat → Bool} (hnn : hold n n = true) {q : List Int} (hq : RP n hold 0 q) : ∃ p, planL n hold = some p ∧ RP n hold 0 p ∧ ∀ q, RP n hold 0 q → lessI q p = false := by
  obtain ⟨m, ⟨q1, h1, l1⟩, hmin⟩ := least_len (P := RP n hold 0) q.length ⟨q, hq, Nat.le_refl _⟩
  have hmn := RP.len (Nat.zero_le _) h1
  obtain ⟨p, hp, hlex⟩ := rest_min hnn (m := m) (fr := 0) (Nat.zero_le _) hmin ⟨q1, h1, l1⟩
  obtain ⟨hr, hl⟩ := rest_right hnn (Nat.zero_le _) hp
  refine ⟨p, ?_, hr, fun q2 h2 => ?_⟩
  · unfold planL
    rw [show n + 1 = m + ((n - m) + 1) by omega, planFrom_skip]
    · rw [Nat.zero_add, planFrom, hp]
    · intro j _ hj
      cases hj2 : restL n hold j 0 with
      | none => rfl
      | some x =>
        obtain ⟨a, b⟩ := rest_right hnn (Nat.zero_le _) hj2
        have := hmin x a
        omega
  · unfold lessI
    by_cases he : q2.length = p.length
    · rw [if_pos he]; exact hlex q2 h2 (by omega)
    · rw [if_neg he]
      have := hmin q2 h2
      exact decide_eq_false (by omega)
theorem planFrom_none {n : Nat} {hold : Nat → Nat → Bool} {p : List Int} : ∀ {k m : Nat}, planFrom n hold m k = some p → ∃ j, restL n hold j 0 = some p
  | 0, m, h => by cases h
  | k + 1, m, h => by
    unfold planFrom at h
    cases hr : restL n hold m 0 with
    | some x => rw [hr] at h; exact ⟨m, by rw [hr]; exact h⟩
    | none => rw [hr] at h; exact planFrom_none (k := k) (m := m + 1) h
theorem plan_right {n : Nat} {hold : Nat → Nat → Bool} (hnn : hold n n = true) {p : List Int} (h : planL n hold = some p) : RP n hold 0 p := by
  obtain ⟨j, hj⟩ := planFrom_none h
  exact (rest_right hnn (Nat.zero_le _) hj).1
theorem plan_none {n : Nat} {hold : Nat → Nat → Bool} (hnn : hold n n = true) (h : planL n hold = none) (q : List Int) : ¬ RP n hold 0 q := fun hq => by
  obtain ⟨p, hp, _⟩ := plan_is hnn hq
  rw [h] at hp
  cases hp

/-- Order of lists. -/
theorem lexLt_antisymm : ∀ {a b : List Int}, a.length = b.length → lexLt a b = false → lexLt b a = false → a = b
  | [], [], _, _, _ => rfl
  | [], b :: bs, h, _, _ => by simp at h
  | a :: aa, [], h, _, _ => by simp at h
  | a :: aa, b :: bs, h, h1, h2 => by
    unfold lexLt at h1 h2
    by_cases he : a = b
    · subst he
      rw [if_pos rfl] at h1 h2
      rw [lexLt_antisymm (by simpa using h) h1 h2]
    · rw [if_neg he] at h1
      rw [if_neg (fun e => he e.symm)] at h2
      simp only [decide_eq_false_iff_not] at h1 h2
      omega
theorem lessI_antisymm {a b : List Int} (h1 : lessI a b = false) (h2 : lessI b a = false) : a = b := by
  unfold lessI at h1 h2
  by_cases h : a.length = b.length
  · rw [if_pos h] at h1
    rw [if_pos h.symm] at h2
    exact lexLt_antisymm h h1 h2
  · rw [if_neg h] at h1
    rw [if_neg (fun e => h e.symm)] at h2
    simp only [decide_eq_false_iff_not] at h1 h2
    omega
theorem lexLt_trans : ∀ {a b c : List Int}, lexLt a b = true → lexLt b c = true → lexLt a c = true
  | [], _, _, h1, _ => by simp [lexLt] at h1
  | a :: aa, [], _, h1, _ => by simp [lexLt] at h1
  | a :: aa, b :: bs, [], _, h2 => by simp [lexLt] at h2
  | a :: aa, b :: bs, c :: cs, h1, h2 => by
    unfold lexLt at h1 h2 ⊢
    by_cases e1 : a = b
    · subst e1
      rw [if_pos rfl] at h1
      by_cases e2 : a = c
      · rw [if_pos e2] at h2 ⊢; exact lexLt_trans h1 h2
      · rw [if_neg e2] at h2 ⊢; exact h2
    · rw [if_neg e1] at h1
      have h1' := of_decide_eq_true h1
      by_cases e2 : b = c
      · subst e2
        rw [if_neg e1]; exact h1
      · rw [if_neg e2] at h2
        have h2' := of_decide_eq_true h2
        rw [if_neg (by omega)]
        exact decide_eq_true (by omega)
theorem lessI_trans {a b c : List Int} (h1 : lessI a b = true) (h2 : lessI b c = true) : lessI a c = true := by
  unfold lessI at *
  by_cases e1 : a.length = b.length
  · rw [if_pos e1] at h1
    by_cases e2 : b.length = c.length
    · rw [if_pos e2] at h2
      rw [if_pos (e1.trans e2)]
      exact lexLt_trans h1 h2
    · rw [if_neg e2] at h2
      rw [if_neg (by omega), e1]
      exact h2
  · rw [if_neg e1] at h1
    have h1' := of_decide_eq_true h1
    by_cases e2 : b.length = c.length
    · rw [if_neg (by omega), ← e2]; exact h1
    · rw [if_neg e2] at h2
      have h2' := of_decide_eq_true h2
      rw [if_neg (by omega)]
      exact decide_eq_true (by omega)
end

section

open Go.RowKit
set_option linter.unusedSimpArgs false
set_option linter.unusedVariables false

theorem Try.laidOutH : laidOutB Try.prog = true := by kernel_rfl
theorem span_law : Maps.Keyed Try.prog 115 := Maps.Keyed.of_law (deep_law_laid Try.laidOutH (m := 3) (by decide) (of_decide_eq_true (by kernel_rfl)) (by kernel_rfl) (by kernel_rfl))
set_option maxRecDepth 100000 in
theorem span_keys : ∀ a b : Fin 22, (keyOf Try.prog 115 (.agg #[.int .i64 ((a : Nat) : Int), .int .i64 ((b : Nat) : Int)])).isSome = true := by decide +kernel
theorem span_key {f t : Nat} (hf : f ≤ 21) (ht : t ≤ 21) : ∃ kl, keyOf Try.prog 115 (.agg #[.int .i64 (f : Int), .int .i64 (t : Int)]) = some kl :=
  Option.isSome_iff_exists.1 (span_keys ⟨f, by omega⟩ ⟨t, by omega⟩)
theorem under4 : Try.prog.underlying 4 = some .bool := by kernel_rfl
theorem zero4 (w : World) : (zeroValue 4).run Try.prog w = .ok (.bool false) w := by kernel_rfl
theorem plainElem_bool_inv {v : Value} {z : DataW Unit × List MemPlace} (h : plainElem Try.prog 4 v = some z) : ∃ x, v = .bool x ∧ z = (.lit (.bool x), []) := by
  unfold plainElem at h
  rw [under4] at h
  cases v <;> simp at h
  exact ⟨_, rfl, h.symm⟩

/-- Block b is a map of at most n entries that tells tab. -/
def Held (w : World) (b n : Nat) (tab : Nat → Nat → Bool) : Prop :=
  ∃ D : DataW Unit, w.ownsMap Try.prog 115 (plainElem Try.prog 4) b n D ∧ ∀ (f t : Nat) (kl : Lit), keyOf Try.prog 115 (.agg #[.int .i64 (f : Int), .int .i64 (t : Int)]) = some kl → D.atKey kl (.lit (.bool false)) = .lit (.bool (tab f t))
theorem Held.made (w : World) : Held (w.alloc (.map #[] 0)) w.heap.size 0 (fun _ _ => false) :=
  ⟨.map [], World.ownsMap_made _ _ _ _, fun f t kl _ => Maps.atKey_of_not_has (D := .map []) (k := kl) (by rfl) _⟩
theorem Held.kept {w w' : World} {b n : Nat} {tab : Nat → Nat → Bool} {row : Option Nat} (h : Held w b n tab) (hg : w.grownBy w' row) (hne : some b ≠ row) : Held w' b n tab := by
  obtain ⟨D, h1, h2⟩ := h
  exact ⟨D, h1.kept hg hne, h2⟩
theorem Held.lt {w : World} {b n : Nat} {tab : Nat → Nat → Bool} (h : Held w b n tab) : b < w.heap.size := by
  obtain ⟨D, h1, _⟩ := h
  exact h1.lt
theorem Held.step {w w' : World} {b n : Nat} {tab : Nat → Nat → Bool} (h : Held w b n tab) (hb : Below w.heap.size w w') : Held w' b n tab := h.kept (only_below hb none) (by simp)
theorem Held.look {w : World} {b n : Nat} {tab : Nat → Nat → Bool} (h : Held w b n tab) {f t : Nat} (hf : f ≤ 21) (ht : t ≤ 21) :
    (Instr.lookup 113 (.map (some b)) (.agg #[.int .i64 (f : Int), .int .i64 (t : Int)]) false).run Try.prog w = .ok (.bool (tab f t)) w := by
  obtain ⟨D, h1, h2⟩ := h
  obtain ⟨kl, hk⟩ := span_key hf ht
  obtain ⟨v, ps, hr, hv⟩ := World.ownsMap.lookup (w := w) h1 span_law Try.underlying113 (zero4 _) (plainElem_bool under4 false) hk
  obtain ⟨x, rfl, hx⟩ := plainElem_bool_inv hv
  rw [h2 f t kl hk] at hx
  simp only [Prod.mk.injEq, DataW.lit.injEq, Lit.bool.injEq] at hx
  rw [hr, ← hx.1]
def updT (tab : Nat → Nat → Bool) (f t : Nat) (x : Bool) : Nat → Nat → Bool := fun f' t' => if f' = f ∧ t' = t then x else tab f' t'
theorem Held.put {w : World} {b n : Nat} {tab : Nat → Nat → Bool} (h : Held w b n tab) (hn : n ≤ 1000000) {f t : Nat} (hf : f ≤ 21) (ht : t ≤ 21) (x : Bool) :
    ∃ w', (Instr.mapUpdate 113 (.map (some b)) (.agg #[.int .i64 (f : Int), .int .i64 (t : Int)]) (.bool x)).run Try.prog w = .ok () w' ∧ Held w' b (n + 1) (updT tab f t x) ∧ w.grownBy w' (some b) := by
  obtain ⟨D, h1, h2⟩ := h
  obtain ⟨kl, hk⟩ := span_key hf ht
  have K := span_law
  obtain ⟨w', hr, hw, hg⟩ := h1.update K Try.underlying113 (by unfold maxLen; omega) hk (plainElem_bool under4 x)
  refine ⟨w', hr, ⟨_, hw, fun f' t' kl' hk' => ?_⟩, hg⟩
  by_cases e : kl' = kl
  · subst e
    have hv := K.inj hk' hk
    simp only [Value.agg.injEq, Array.mk.injEq, List.cons.injEq, Value.int.injEq, and_true, true_and] at hv
    rw [Maps.atKey_put_same h1.isMap (K.key hk), updT, if_pos (by omega)]
  · rw [Maps.atKey_put_other e, h2 f' t' kl' hk', updT, if_neg]
    rintro ⟨rfl, rfl⟩
    exact e (Option.some.inj (hk'.symm.trans hk))
/-- A store, at a step of a region that draws its order. -/
theorem step_held {ops : Array Oper} {o : Oper} {a : Act} {K : Act → World → Prop} {Q : Exit → Act → World → Prop} {E : Prop} (m x v : Operand) (hgd : o.guard = none) (hop : o.op = Op.mapUpdate 113 m x v)
    (w : World) (b n : Nat) (tab : Nat → Nat → Bool) (f t : Nat) (y : Bool) (hm : a.eval m = .map (some b)) (hx : a.eval x = .agg #[.int .i64 (f : Int), .int .i64 (t : Int)]) (hv : a.eval v = .bool y) (h : Held w b n tab) (hn : n ≤ 1000000) (hf : f ≤ 21) (ht : t ≤ 21)
    (hK : ∀ w', Hid (Held w' b (n + 1) (updT tab f t y)) → Hid (w.grownBy w' (some b)) → K (a.put o.dst undef) w') : if Region.wanted o (yielded ops a.tmps) = true then Oper.wp Try.prog o a w K Q else E := by
  rw [if_pos (by simp [Region.wanted, hgd])]
  obtain ⟨w', hr, h1, h2⟩ := h.put hn hf ht y
  unfold Oper.wp
  simp [execOp, hop, hm, hx, hv, hr, Result.andThen]
  exact hK w' h1 h2

/-- What the closure of Plan sees. -/
def PEnv (W : World) (n gN gH gR b : Nat) (tab : Nat → Nat → Bool) : Prop :=
  W.cell? ⟨gN, 0, none⟩ = some (.int .i64 (n : Int)) ∧ W.cell? ⟨gH, 0, none⟩ = some (.map (some b)) ∧ W.cell? ⟨gR, 0, none⟩ = some (.func (.func 80) #[] #[.pointer (some ⟨gN, 0, none⟩), .pointer (some ⟨gH, 0, none⟩), .pointer (some ⟨gR, 0, none⟩)]) ∧ ∃ k, Held W b k tab
theorem PEnv.step {W W' : World} {n gN gH gR b : Nat} {tab : Nat → Nat → Bool} (h : PEnv W n gN gH gR b tab) (hb : Below W.heap.size W W') : PEnv W' n gN gH gR b tab := by
  obtain ⟨h1, h2, h3, k, h4⟩ := h
  exact ⟨cell_of_ans hb h1, cell_of_ans hb h2, cell_of_ans hb h3, k, h4.step hb⟩
def RPost (W : World) (p : Option (List Int)) (e : Ending) (w' : World) : Prop :=
  match p with
  | some q => ∃ A c, e = .returned (.tuple #[.slice A q.length c, .bool true]) ∧ OwnI W.heap.size w' (.slice A q.length c) q ∧ Below W.heap.size W w'
  | none => e = .returned (.tuple #[.slice none 0 0, .bool false]) ∧ Below W.heap.size W w'
theorem RPost.some_ {W : World} {q : List Int} {e : Ending} {w' : World} (h : ∃ A c, e = .returned (.tuple #[.slice A q.length c, .bool true]) ∧ OwnI W.heap.size w' (.slice A q.length c) q ∧ Below W.heap.size W w') : RPost W (some q) e w' := h
theorem rest_len {n : Nat} {hold : Nat → Nat → Bool} {m fr : Nat} {p : List Int} (h : restL n hold m fr = some p) : p.length = m := by
  induction m generalizing fr p with
  | zero =>
    unfold restL at h
    split at h
    · injection h with h; subst h; rfl
    · cases h
  | succ m ih =>
    unfold restL at h
    split at h
    · cases h
    · obtain ⟨t, _, _, c, _⟩ := scanL_some h
      obtain ⟨_, q, hq, rfl⟩ := tryL_some c
      rw [List.length_cons, ih hq]

set_option maxRecDepth 100000 in
set_option maxHeartbeats 8000000 in
theorem rest_done (n gN gH gR b : Nat) (tab hold : Nat → Nat → Bool) (hn : n ≤ 20) (htab : ∀ f t, f < t → t ≤ n → tab f t = hold f t) (m fr : Nat) (W : World) (hf : fr ≤ n) (hE : PEnv W n gN gH gR b tab) (hd : fr = n ∨ hold fr n = true) :
    Calls Try.prog 80 #[.int .i64 (fr : Int), .int .i64 (m : Int), .pointer (some ⟨gN, 0, none⟩), .pointer (some ⟨gH, 0, none⟩), .pointer (some ⟨gR, 0, none⟩)] W (RPost W (restL n hold m fr)) := by
  obtain ⟨cN, cH, cR, k, hH⟩ := hE
  have HRES : Hid (restL n hold m fr = if m = 0 then some [] else none) := by
    show _ = _
    cases m with
    | zero => rw [restL, if_pos hd]; rfl
    | succ m => rw [restL, if_pos hd]; rfl
  have hfin : ∀ (x : Bool), x = decide (m = 0) → RPost W (restL n hold m fr) (.returned (.tuple #[.slice none 0 0, .bool x])) W := fun x hx => by
    rw [HRES.out, hx]
    by_cases h0 : m = 0
    · rw [if_pos h0, decide_eq_true h0]
      exact ⟨none, 0, rfl, OwnI.nil _ _, Below.refl _ _⟩
    · rw [if_neg h0, decide_eq_false h0]
      exact ⟨rfl, Below.refl _ _⟩
  have HFIN := Lib.hid hfin
  clear hfin
  by_cases h1 : fr = n
  · have h1b : ((fr : Int) == (n : Int)) = true := by simp [h1]
    clear h1 hd
    go_enter Try.func80, Try.ntmps80
    go_wp2_with fail
    go_ret2
    exact HFIN.out _ (Bool.eq_iff_iff.2 (by simp))
  · have h1b : ((fr : Int) == (n : Int)) = false := by simp; omega
    have hl : (Instr.lookup 113 (.map (some b)) (.agg #[.int .i64 (fr : Int), .int .i64 (n : Int)]) false).run Try.prog W = .ok (.bool true) W := by
      rw [hH.look (by omega) (by omega), htab fr n (by omega) (Nat.le_refl _)]
      rcases hd with hd | hd
      · exact absurd hd h1
      · rw [hd]
    clear h1 hd
    go_enter Try.func80, Try.ntmps80
    go_wp2_with fail
    go_ret2
    exact HFIN.out _ (Bool.eq_iff_iff.2 (by simp))

set_option maxRecDepth 100000 in
set_option maxHeartbeats 8000000 in
theorem rest_zero (n gN gH gR b : Nat) (tab hold : Nat → Nat → Bool) (hn : n ≤ 20) (htab : ∀ f t, f < t → t ≤ n → tab f t = hold f t) (fr : Nat) (W : World) (hf : fr < n) (hE : PEnv W n gN gH gR b tab) (hd : hold fr n = false) :
    Calls Try.prog 80 #[.int .i64 (fr : Int), .int .i64 0, .pointer (some ⟨gN, 0, none⟩), .pointer (some ⟨gH, 0, none⟩), .pointer (some ⟨gR, 0, none⟩)] W (RPost W (restL n hold 0 fr)) := by
  obtain ⟨cN, cH, cR, k, hH⟩ := hE
  have HRES : Hid (restL n hold 0 fr = none) := by
    show _ = _
    rw [restL, if_neg]
    rintro (h | h)
    · omega
    · rw [hd] at h; cases h
  have h1b : ((fr : Int) == (n : Int)) = false := by simp; omega
  have hl : (Instr.lookup 113 (.map (some b)) (.agg #[.int .i64 (fr : Int), .int .i64 (n : Int)]) false).run Try.prog W = .ok (.bool false) W := by
    rw [hH.look (by omega) (by omega), htab fr n hf (Nat.le_refl _), hd]
  have HF : Hid (RPost W (restL n hold 0 fr) (.returned (.tuple #[.slice none 0 0, .bool false])) W) := by
    show RPost _ _ _ _
    rw [HRES.out]
    exact ⟨rfl, Below.refl _ _⟩
  have hw : IntKind.i64.wrap ((fr : Int) + 1) = (fr : Int) + 1 := IntWalk.i64_in _ (by omega)
  clear hd hH
  go_enter Try.func80, Try.ntmps80
  go_wp2_with fail
  go_loop [9] (fun i => i = .int .i64 ((fr : Int) + 1)) (fun i => 1)
  case atStart => rfl
  case round =>
    obtain rfl := hrel
    by_cases h2 : (fr : Int) + 1 < (n : Int)
    · go_wp2_with fail
      go_ret2
      exact HF.out
    · go_wp2_with fail
      go_ret2
      exact HF.out

set_option maxRecDepth 100000 in
set_option maxHeartbeats 16000000 in
theorem rest_succ (n gN gH gR b : Nat) (tab hold : Nat → Nat → Bool) (hn : n ≤ 20) (htab : ∀ f t, f < t → t ≤ n → tab f t = hold f t) (m fr : Nat) (hm : m ≤ 20) (W : World) (hf : fr < n) (hE : PEnv W n gN gH gR b tab) (hd : hold fr n = false)
    (ih : ∀ (tz : Nat) (W' : World), tz ≤ n → PEnv W' n gN gH gR b tab → Calls Try.prog 80 #[.int .i64 (tz : Int), .int .i64 (m : Int), .pointer (some ⟨gN, 0, none⟩), .pointer (some ⟨gH, 0, none⟩), .pointer (some ⟨gR, 0, none⟩)] W' (RPost W' (restL n hold m tz))) :
    Calls Try.prog 80 #[.int .i64 (fr : Int), .int .i64 ((m + 1 : Nat) : Int), .pointer (some ⟨gN, 0, none⟩), .pointer (some ⟨gH, 0, none⟩), .pointer (some ⟨gR, 0, none⟩)] W (RPost W (restL n hold (m + 1) fr)) := by
  have HE := Lib.hid hE
  obtain ⟨cN, cH, cR, k, hH⟩ := hE
  have HRES : Hid (restL n hold (m + 1) fr = scanL (tryL hold (restL n hold m) fr) (fr + 1) (n - (fr + 1))) := by
    show _ = _
    rw [restL, if_neg]
    rintro (h | h)
    · omega
    · rw [hd] at h; cases h
  have h1b : ((fr : Int) == (n : Int)) = false := by simp; omega
  have hl : (Instr.lookup 113 (.map (some b)) (.agg #[.int .i64 (fr : Int), .int .i64 (n : Int)]) false).run Try.prog W = .ok (.bool false) W := by
    rw [hH.look (by omega) (by omega), htab fr n hf (Nat.le_refl _), hd]
  have IH := Lib.hid ih
  have HT := Lib.hid htab
  have hw : IntKind.i64.wrap ((fr : Int) + 1) = (fr : Int) + 1 := IntWalk.i64_in _ (by omega)
  have hwm : IntKind.i64.wrap (((m + 1 : Nat) : Int) - 1) = (m : Int) := by rw [show ((m + 1 : Nat) : Int) - 1 = (m : Int) by omega]; exact IntWalk.i64_in _ (by omega)
  have hm0 : decide ((0 : Int) < ((m + 1 : Nat) : Int)) = true := decide_eq_true (by omega)
  obtain ⟨m1, hm1⟩ : ∃ m1 : Int, m1 = ((m + 1 : Nat) : Int) := ⟨_, rfl⟩
  rw [← hm1] at hwm hm0 ⊢
  clear hd hH ih htab hm1
  go_enter Try.func80, Try.ntmps80
  go_wp2_with fail
  clear hl h1b
  go_loopw [9] (fun i wr => ∃ tz : Nat, fr + 1 ≤ tz ∧ tz ≤ n ∧ i = .int .i64 (tz : Int) ∧ restL n hold (m + 1) fr = scanL (tryL hold (restL n hold m) fr) tz (n - tz) ∧ Below W.heap.size W wr) (fun i _ => n - (intOf i).toNat)
  case atStart => exact ⟨fr + 1, Nat.le_refl _, by omega, by go_num, HRES.out, Below.refl _ _⟩
  case round =>
    obtain ⟨tz, ht1, ht2, rfl, hsc, hb⟩ := hrel
    have HSC := Lib.hid hsc
    have HB := Lib.hid hb
    have cN2 := cell_of_ans hb cN
    have cH2 := cell_of_ans hb cH
    have cR2 := cell_of_ans hb cR
    have HE2 := Lib.hid (HE.out.step hb)
    clear cN cH cR hsc hb
    by_cases h2 : tz < n
    · have h2i : (tz : Int) < (n : Int) := by omega
      obtain ⟨_, _, _, k2, hH2⟩ := HE2.out
      have HST : Hid (scanL (tryL hold (restL n hold m) fr) tz (n - tz) = match tryL hold (restL n hold m) fr tz with
        | some p => some p
        | none => scanL (tryL hold (restL n hold m) fr) (tz + 1) (n - (tz + 1))) := by
        show _ = _
        rw [show n - tz = (n - (tz + 1)) + 1 by omega, scanL]
        all_goals rfl
      have hlk := hH2.look (f := fr) (t := tz) (by omega) (by omega)
      rw [HT.out fr tz (by omega) ht2] at hlk
      clear hH2
      cases hh : hold fr tz
      · have HTR : Hid (tryL hold (restL n hold m) fr tz = none) := by show _ = _; unfold tryL; rw [if_neg (by rw [hh]; simp)]
        rw [hh] at hlk
        clear hh
        go_wp2_with fail
        go_roundw
        case rel => exact ⟨tz + 1, by omega, by omega, by go_num, by rw [HSC.out, HST.out, HTR.out], HB.out⟩
        case measure => simp [intOf]; omega
      · rw [hh] at hlk
        have HTR : Hid (tryL hold (restL n hold m) fr tz = (restL n hold m tz).map (fun p => (tz : Int) :: p)) := by show _ = _; unfold tryL; rw [if_pos hh]
        have HC := Lib.hid (IH.out tz wr (by omega) HE2.out)
        clear hh
        cases hr : restL n hold m tz with
        | none =>
          have HRN : Hid (restL n hold (m + 1) fr = scanL (tryL hold (restL n hold m) fr) (tz + 1) (n - (tz + 1))) := by show _ = _; rw [HSC.out, HST.out, HTR.out, hr]; rfl
          rw [hr] at HC
          clear hr
          go_wp2_with fail
          refine HC.out.mono ?_
          rintro e w3 ⟨rfl, hb3⟩
          have HB3 := Lib.hid hb3
          clear hb3
          go_wp2_with fail
          go_roundw
          case rel => exact ⟨tz + 1, by omega, by omega, by go_num, HRN.out, HB.out.trans (HB3.out.mono HB.out.size)⟩
          case measure => simp [intOf]; omega
        | some q =>
          have HRS : Hid (restL n hold (m + 1) fr = some ((tz : Int) :: q)) := by show _ = _; rw [HSC.out, HST.out, HTR.out, hr]; rfl
          have hql : q.length ≤ 20 := by rw [rest_len hr]; exact hm
          rw [hr] at HC
          clear hr
          go_wp2_with fail
          refine HC.out.mono ?_
          rintro e w3 ⟨Aq, cq, rfl, ho3, hb3⟩
          have HB3 := Lib.hid hb3
          obtain ⟨_, _, hq3⟩ := isInts_parts ho3.isInts
          obtain ⟨i0, hi, hz0, hz1, hz2⟩ := info_parts infoInt
          have hs := Lib.hid ((hq3.alloc (Nat.le_refl _) (.cells #[.int .i64 (tz : Int)] 3)).isrc)
          have ho : Hid ((w3.alloc (.cells #[.int .i64 (tz : Int)] 3)).ownsRow w3.heap.size 3 1 (.slice (some ⟨w3.heap.size, 0, none⟩) 1 1) 1 [.int .i64 (tz : Int)]) := World.ownsRow_lit w3 #[.int .i64 (tz : Int)] 1 (Nat.le_refl _) (by simp [maxLen]) (by simp)
          have h63 : Hid (1 + q.length ≤ maxLen) := by show _ ≤ _; unfold maxLen; omega
          have hby : Hid ((1 + q.length) * 8 ≤ 140737488355328) := by show _ ≤ _; omega
          clear hb3 ho3 hq3
          go_wp2_with (at_builtin; go_loud (refine wpList_append_src rfl (.tmp 51) (.tmp 52) 45 rfl w3.heap.size 3 i0 (.int .i64 0) 1 8 Try.underlying45 hi hz0 hz1 hz2 rfl (by decide) (.slice (some ⟨w3.heap.size, 0, none⟩) 1 1) 1 [.int .i64 (tz : Int)] rfl ho.out Aq q.length cq _ rfl hs.out (one_ints q) h63.out hby.out (by simp) ?_; intro v' w4 hown hgrow _; obtain ⟨Au, cu, rfl⟩ := ownsRow_form hown; have HO := Lib.hid hown; have HG := Lib.hid hgrow; clear hown hgrow))
          go_ret2
          rw [HRS.out]
          have hb4 : Below w3.heap.size w3 w4 := ((Below.refl w3.heap.size w3).alloc (Nat.le_refl _) _).grown HG.out (by simp) (fun k e => by injection e with e; subst e; exact Nat.le_refl _)
          have hz3 := HB3.out.size
          have hzr := HB.out.size
          refine ⟨Au, cu, by rw [List.length_cons, Nat.add_comm q.length 1]; rfl, ?_, (HB.out.trans (HB3.out.mono hzr)).trans (hb4.mono (by omega))⟩
          have h1 := HO.out
          show World.ownsRow _ _ _ _ _ _ _
          rw [List.length_cons, List.map_cons, Nat.add_comm q.length 1]
          exact ownsRow_base h1 (by omega)
    · obtain rfl : tz = n := by omega
      have h2i : ¬ (tz : Int) < (tz : Int) := by omega
      have HF : Hid (restL tz hold (m + 1) fr = none) := by show _ = _; rw [HSC.out, Nat.sub_self]; rfl
      go_wp2_with fail
      go_ret2
      rw [HF.out]
      exact ⟨rfl, HB.out⟩

theorem rest_c (n gN gH gR b : Nat) (tab hold : Nat → Nat → Bool) (hn : n ≤ 20) (htab : ∀ f t, f < t → t ≤ n → tab f t = hold f t) : ∀ (m fr : Nat) (W : World), m ≤ 20 → fr ≤ n → PEnv W n gN gH gR b tab →
    Calls Try.prog 80 #[.int .i64 (fr : Int), .int .i64 (m : Int), .pointer (some ⟨gN, 0, none⟩), .pointer (some ⟨gH, 0, none⟩), .pointer (some ⟨gR, 0, none⟩)] W (RPost W (restL n hold m fr)) := by
  intro m
  induction m with
  | zero =>
    intro fr W _ hf hE
    by_cases hd : fr = n ∨ hold fr n = true
    · exact rest_done n gN gH gR b tab hold hn htab 0 fr W hf hE hd
    · have h1 : fr ≠ n := fun e => hd (.inl e)
      have h2 : hold fr n = false := by cases h : hold fr n; (· rfl); exact absurd (.inr h) hd
      exact rest_zero n gN gH gR b tab hold hn htab fr W (by omega) hE h2
  | succ m ih =>
    intro fr W hm hf hE
    by_cases hd : fr = n ∨ hold fr n = true
    · exact rest_done n gN gH gR b tab hold hn htab (m + 1) fr W hf hE hd
    · have h1 : fr ≠ n := fun e => hd (.inl e)
      have h2 : hold fr n = false := by cases h : hold fr n; (· rfl); exact absurd (.inr h) hd
      exact rest_succ n gN gH gR b tab hold hn htab m fr (by omega) W (by omega) hE h2 fun tz W' ht hE' => ih tz W' (by omega) ht hE'
end

section

open Go.RowKit
set_option linter.unusedSimpArgs false
set_option linter.unusedVariables false

theorem T_skip {P : Program} {ops : Array Oper} {Q : Exit → Act → World → Prop} {md : Region.Mode} {S : World → Prop} {m i : Nat} {oi : Oper} {fuel : Nat} {listed : Array Bool} {a : Act} {w : World} (hi : ops[i]? = some oi)
    (hs : Region.noSelect ops = true) (hf : Region.free md ops listed i = true) (hr : (Region.ready md ops listed).contains i = true) (hwt : tailWaits md ops m i = true)
    (hQ : ∀ c a w, Q (.panic c) (a.put oi.dst undef) w → Q (.panic c) a w) (hw : Region.wanted oi (yielded ops a.tmps) = false) (hS : S w)
    (h : wpAnyT P md ops Q S m fuel (listed.setIfInBounds i true) (a.put oi.dst undef) w) : wpAnyT P md ops Q S m (fuel + 1) listed a w :=
  wpAnyT_first hi (Region.noSelect_spec hs) hQ hwt fuel listed a w (Region.free_spec hi hf) (by simpa using hr) (.inr ⟨hw, rfl⟩) hS h

def subA (a : Option Addr) (c f : Nat) : Option Addr := if c = f then a else a.map (·.add (f * 2))
def subL (ls : Lines) (f t : Nat) : Lines := (ls.drop f).take (t - f)
theorem subL_len {ls : Lines} {f t : Nat} (h : t ≤ ls.length) : (subL ls f t).length = t - f := by
  unfold subL
  rw [List.length_take, List.length_drop]
  omega
theorem lx_sub {ls : Lines} {f t k : Nat} (h : k < t - f) : lx (subL ls f t) k = lx ls (f + k) := by
  unfold lx subL
  rw [List.getD_eq_getElem?_getD, List.getD_eq_getElem?_getD, List.getElem?_take, if_pos h, List.getElem?_drop]
theorem size60 (W : World) : (sizeOf (Try.prog.elem 70)).run Try.prog W = .ok 2 W := by kernel_rfl
theorem slice70 (W : World) (a : Option Addr) (len cap f t : Nat) (h1 : f ≤ t) (h2 : t ≤ cap) :
    (Instr.slice 70 (.slice a len cap) (some (.int .i64 (f : Int))) (some (.int .i64 (t : Int))) none).run Try.prog W = .ok (.slice (subA a cap f) (t - f) (cap - f)) W := by
  rw [run_slice_lh (P := Try.prog) (w := W) 70 a len cap (by kernel_rfl) .i64 .i64 (f : Int) (t : Int) (by omega) (by omega) (by omega), size60]
  simp only [Result.andThen, sliced, Int.toNat_natCast]
  rfl
theorem Lns.sub {B : Nat} {w : World} {a : Option Addr} {ls : Lines} (h : Lns B w a ls) {f t cap : Nat} (h2 : t ≤ ls.length) (hc : ls.length ≤ cap) : Lns B w (subA a cap f) (subL ls f t) := fun hp => by
  rw [subL_len h2] at hp
  obtain ⟨b, off, rfl, hb, hcc⟩ := h (by omega)
  refine ⟨b, off + f * 2, ?_, hb, fun k hk => ?_⟩
  · unfold subA
    rw [if_neg (by omega)]
    simp only [Option.map_some]
    rw [add_eq]
  · rw [subL_len h2] at hk
    rw [lx_sub hk, show off + f * 2 + k * 2 = off + (f + k) * 2 by omega]
    exact hcc (f + k) (by omega)
theorem lines_sub {xss : List (List Int)} {ls : Lines} (h : linesB xss ls = true) {f t : Nat} (h2 : t ≤ ls.length) : linesB xss (subL ls f t) = true := by
  unfold linesB
  rw [allB_iff]
  intro k hk
  rw [subL_len h2] at hk
  dsimp only
  rw [lx_sub hk]
  exact linesOk h (f + k) (by omega)

theorem hasI_at {xs : List Int} {n : Int} {k : Nat} (h : k < xs.length) (he : ix xs k = n) : hasI xs n = true := by
  simp only [hasI, List.any_eq_true]
  exact ⟨xs[k], List.getElem_mem h, by rw [ix_lt h] at he; simp [he]⟩
theorem hasI_no {xs : List Int} {n : Int} (h : ∀ j, j < xs.length → ix xs j ≠ n) : hasI xs n = false := by
  refine Bool.eq_false_iff.2 fun ht => ?_
  simp only [hasI, List.any_eq_true] at ht
  obtain ⟨x, hx, e⟩ := ht
  obtain ⟨j, hj, rfl⟩ := List.getElem_of_mem hx
  exact h j hj (by rw [ix_lt hj]; simpa using e)
def FoundI (w : World) (xs : List Int) (n : Int) (e : Ending) (w' : World) : Prop := (∃ k : Nat, e = .returned (.int .i64 (k : Int)) ∧ hasI xs n = true ∧ w = w') ∨ (e = .returned (.int .i64 (-1)) ∧ hasI xs n = false ∧ w = w')

set_option maxHeartbeats 1000000 in
theorem index93 {B : Nat} (A : Option Addr) (c : Nat) (xs : List Int) (n : Int) (w : World) (h : Ints B w A xs) (_hc : xs.length ≤ c ∧ c ≤ 9223372036854775807) :
    Calls Try.prog 93 #[.slice A xs.length c, .int .i64 n] w (FoundI w xs n) := by
  have HI := Lib.hid h
  clear h
  go_enter Try.func93, Try.ntmps93
  go_wp2_with fail
  go_loop [8] (fun i => ∃ k : Nat, k ≤ xs.length ∧ i = .int .i64 k ∧ ∀ j, j < k → ix xs j ≠ n) (fun i => xs.length - (intOf i).toNat)
  case atStart => exact ⟨0, by omega, rfl, fun j hj => by omega⟩
  case round =>
    obtain ⟨k, hk, rfl, hn⟩ := hrel
    have HN := Lib.hid hn
    clear hn
    by_cases h1 : k < xs.length
    · have h1i : (k : Int) < (xs.length : Int) := by omega
      obtain ⟨b, off, rfl, _, c1⟩ := HI.out.at_ h1
      obtain ⟨x, hx⟩ : ∃ x, x = ix xs k := ⟨_, rfl⟩
      rw [← hx] at c1
      have HX := Lib.hid hx
      clear hx
      by_cases he : n = x
      · have heb : (n == x) = true := by simp [he]
        have HY : Hid (hasI xs n = true) := hasI_at h1 (by rw [← HX.out, he])
        clear he
        go_wp2_with fail
        go_ret
        exact .inl ⟨k, rfl, HY.out, rfl⟩
      · have heb : (n == x) = false := by simp [he]
        have HNE : Hid (ix xs k ≠ n) := fun e => he (by rw [HX.out, e])
        clear he
        go_wp2_with fail
        go_round
        case rel =>
          refine ⟨k + 1, by omega, by go_num, fun j hj => ?_⟩
          by_cases e : j = k
          · subst e; exact HNE.out
          · exact HN.out j (by omega)
        case measure => simp [intOf]; omega
    · have h1i : ¬ (k : Int) < (xs.length : Int) := by omega
      have HNO : Hid (hasI xs n = false) := hasI_no fun j hj => HN.out j (by omega)
      go_wp2_with fail
      go_ret
      exact .inr ⟨rfl, HNO.out, rfl⟩

set_option maxHeartbeats 400000 in
theorem contains79 {B : Nat} (A : Option Addr) (c : Nat) (xs : List Int) (n : Int) (w : World) (h : Ints B w A xs) (hc : xs.length ≤ c ∧ c ≤ 9223372036854775807) :
    Calls Try.prog 79 #[.slice A xs.length c, .int .i64 n] w (Same w (.bool (hasI xs n))) := by
  have H := Lib.hid (index93 A c xs n w h hc)
  clear h
  go_enter Try.func79, Try.ntmps79
  go_wp2_with fail
  refine H.out.mono ?_
  rintro e w1 (⟨k, rfl, hk, rfl⟩ | ⟨rfl, hk, rfl⟩)
  · go_wp2_with fail
    go_ret
    exact ⟨ret_bool (by rw [hk]), rfl⟩
  · go_wp2_with fail
    go_ret
    exact ⟨ret_bool (by rw [hk]), rfl⟩

theorem drop_at {xs : List Int} {k : Nat} (h : k < xs.length) : xs.drop k = ix xs k :: xs.drop (k + 1) := by rw [ix_lt h]; exact List.drop_eq_getElem_cons h
noncomputable def holdL (xss : List (List Int)) (lo hi ca : Int) (ls : Lines) (f t : Nat) : Bool := holdsB ca lo hi (subL ls f t) (oilOf xss)
/-- What ProvePlan answers. -/
noncomputable def provePlan (xss : List (List Int)) (lo hi ca : Int) (ls : Lines) (plan : List Int) : Bool := decide (blockErr xss lo hi ca ls = 0) && proveP ls.length (holdL xss lo hi ca ls) plan
theorem blockOk {xss : List (List Int)} {lo hi ca : Int} {ls : Lines} (h : blockErr xss lo hi ca ls = 0) : laneErr xss lo hi ca = 0 ∧ ls.length ≤ 20 ∧ linesB xss ls = true := by
  unfold blockErr at h
  by_cases h1 : laneErr xss lo hi ca = 0
  · rw [if_pos h1] at h
    by_cases h2 : ls.length ≤ 20
    · rw [if_pos h2] at h
      cases h3 : linesB xss ls
      · rw [h3] at h; cases h
      · exact ⟨h1, h2, rfl⟩
    · rw [if_neg h2] at h; cases h
  · rw [if_neg h1] at h; exact absurd h h1

set_option maxRecDepth 100000 in
set_option maxHeartbeats 16000000 in
theorem provePlan_c (A A' Ap : Option Addr) (xss : List (List Int)) (ls : Lines) (plan : List Int) (c c' cp : Nat) (lo hi ca : Int) (w : World) (hr : Grd w.heap.size w A xss) (hx : Lns w.heap.size w A' ls) (hp : Ints w.heap.size w Ap plan) (hc : xss.length ≤ c ∧ c ≤ 9223372036854775807) (hc' : ls.length ≤ c' ∧ c' ≤ 9223372036854775807) (hcp : plan.length ≤ cp ∧ cp ≤ 9223372036854775807) (hpl : plan.length ≤ 100000) :
    Calls Try.prog 41 #[.agg #[.slice A xss.length c, .int .i64 lo, .int .i64 hi, .int .i64 ca], .slice A' ls.length c', .slice Ap plan.length cp] w (Ans w (.bool (provePlan xss lo hi ca ls plan))) := by
  have hb0 : Below w.heap.size w (w.alloc (.cells #[.slice A xss.length c, .int .i64 lo, .int .i64 hi, .int .i64 ca] 34)) := (Below.refl _ _).alloc (Nat.le_refl _) _
  have k0 : (w.alloc (.cells #[.slice A xss.length c, .int .i64 lo, .int .i64 hi, .int .i64 ca] 34)).cell? ⟨w.heap.size, 0, none⟩ = some (.slice A xss.length c) := by simp
  have k1 : (w.alloc (.cells #[.slice A xss.length c, .int .i64 lo, .int .i64 hi, .int .i64 ca] 34)).cell? ⟨w.heap.size, 1, none⟩ = some (.int .i64 lo) := by simp
  have k2 : (w.alloc (.cells #[.slice A xss.length c, .int .i64 lo, .int .i64 hi, .int .i64 ca] 34)).cell? ⟨w.heap.size, 2, none⟩ = some (.int .i64 hi) := by simp
  have k3 : (w.alloc (.cells #[.slice A xss.length c, .int .i64 lo, .int .i64 hi, .int .i64 ca] 34)).cell? ⟨w.heap.size, 3, none⟩ = some (.int .i64 ca) := by simp
  have HB := Lib.hid hb0
  have HR := Lib.hid (hr.below hb0 |>.more hb0.size)
  have HX := Lib.hid (hx.step hb0)
  have HP := Lib.hid (hp.below hb0 |>.more hb0.size)
  have HBE := Lib.hid (block_c (B := (w.alloc (.cells #[.slice A xss.length c, .int .i64 lo, .int .i64 hi, .int .i64 ca] 34)).heap.size) A A' xss ls c c' lo hi ca _ (Nat.le_refl _) (hr.below hb0 |>.more hb0.size) (hx.step hb0) hc hc')
  clear hr hx hp hb0
  go_enter Try.func41, Try.ntmps41
  go_wp2_with fail
  generalize w.alloc (.cells #[.slice A xss.length c, .int .i64 lo, .int .i64 hi, .int .i64 ca] 34) = W0 at *
  refine HBE.out.mono ?_
  rintro e w1 ⟨rfl, hb⟩
  replace k0 := cell_of_ans hb k0
  replace k1 := cell_of_ans hb k1
  replace k2 := cell_of_ans hb k2
  replace k3 := cell_of_ans hb k3
  replace HR := Lib.hid (HR.out.below hb |>.more hb.size)
  replace HX := Lib.hid (HX.out.step hb)
  replace HP := Lib.hid (HP.out.below hb |>.more hb.size)
  replace HB := Lib.hid (HB.out.trans (hb.mono HB.out.size))
  clear hb HBE
  by_cases hbe : blockErr xss lo hi ca ls = 0
  · obtain ⟨hle, hl20, hli⟩ := blockOk hbe
    have HPV : Hid (provePlan xss lo hi ca ls plan = proveP ls.length (holdL xss lo hi ca ls) plan) := by show _ = _; unfold provePlan; rw [decide_eq_true hbe, Bool.true_and]
    have HLE := Lib.hid hle
    have HLI := Lib.hid hli
    rw [hbe]
    clear hbe hle hli
    have H77 := Lib.hid (clone_c (B := w1.heap.size) Ap plan cp w1 HP.out (Nat.le_refl _) (by omega))
    go_wp2_with fail
    refine H77.out.mono ?_
    rintro e w2 ⟨Ac, cc, rfl, ho, hb⟩
    have HO : Hid (OwnI w1.heap.size w2 (.slice Ac plan.length cc) plan) := ho
    have HBb := Lib.hid hb
    have hz2 := hb.size
    have hpl1 : plan.length ≤ 1000000 := by omega
    clear ho hb H77
    go_wp2_with (at_builtin; refine wpList_app_int (.tmp 15) (.tmp 18) rfl rfl w1.heap.size w2 _ plan (ls.length : Int) rfl rfl HO hpl1 hz2 ?_; intro As cs w3 HO3 HB3)
    have HSL : Hid ((plan ++ [(ls.length : Int)]).length = plan.length + 1) := by show _ = _; rw [List.length_append]; rfl
    have HB13 : Hid (Below w1.heap.size w1 w3) := HBb.out.trans HB3.out
    have HQI : Hid (Ints w3.heap.size w3 As (plan ++ [(ls.length : Int)])) := by
      obtain ⟨A', c', e1, _, _, e2⟩ := HO3.out.isInts
      injection e1 with e1
      rw [e1]
      exact e2
    have HPP : Hid (proveP ls.length (holdL xss lo hi ca ls) plan = (goP ls.length (holdL xss lo hi ca ls) 0 (plan ++ [(ls.length : Int)]) && !hasI plan (ls.length : Int))) := rfl
    generalize hseq : plan ++ [(ls.length : Int)] = seq at *
    have HSQ := Lib.hid hseq
    have hb := HB13.out
    replace k0 := cell_of_ans hb k0
    replace k1 := cell_of_ans hb k1
    replace k2 := cell_of_ans hb k2
    replace k3 := cell_of_ans hb k3
    replace HR := Lib.hid (HR.out.below hb |>.more hb.size)
    replace HX := Lib.hid (HX.out.step hb)
    replace HP := Lib.hid (HP.out.below hb |>.more hb.size)
    replace HB := Lib.hid (HB.out.trans (hb.mono HB.out.size))
    clear hb HO HBb hz2 HO3 HB3 HB13 hseq
    go_loopw [21, 7] (fun i v wr => ∃ k fr : Nat, k ≤ plan.length + 1 ∧ fr ≤ ls.length ∧ i = .int .i64 k ∧ v = .int .i64 fr ∧ goP ls.length (holdL xss lo hi ca ls) 0 seq = goP ls.length (holdL xss lo hi ca ls) fr (seq.drop k) ∧ Below w3.heap.size w3 wr) (fun i _ _ => plan.length + 1 - (intOf i).toNat)
    case atStart => exact ⟨0, 0, by omega, by omega, rfl, rfl, rfl, Below.refl _ _⟩
    case round =>
      obtain ⟨k, fr, hk, hfr, rfl, rfl, hgo, hbr⟩ := hrel
      have HGO := Lib.hid hgo
      have HBR := Lib.hid hbr
      have HBT : Hid (Below w.heap.size w wr) := HB.out.trans (hbr.mono HB.out.size)
      have q0 := cell_of_ans hbr k0
      have q1 := cell_of_ans hbr k1
      have q2 := cell_of_ans hbr k2
      have q3 := cell_of_ans hbr k3
      have hzr := hbr.size
      by_cases h1 : k < plan.length + 1
      · have h1i : (k : Int) < (plan.length : Int) + 1 := by omega
        obtain ⟨bs, os, hAs, _, cs0⟩ := (HQI.out.below hbr).at_ (k := k) (by rw [HSL.out]; exact h1)
        subst hAs
        have HDR := Lib.hid (drop_at (xs := seq) (k := k) (by rw [HSL.out]; exact h1))
        obtain ⟨t, ht⟩ : ∃ t, t = ix seq k := ⟨_, rfl⟩
        rw [← ht] at cs0 HDR
        have HST : Hid (goP ls.length (holdL xss lo hi ca ls) 0 seq = (stepP ls.length (holdL xss lo hi ca ls) fr t && goP ls.length (holdL xss lo hi ca ls) t.toNat (seq.drop (k + 1)))) := by show _ = _; rw [HGO.out, HDR.out]; rfl
        have HSP : Hid (stepP ls.length (holdL xss lo hi ca ls) fr t = (!(decide (t < (ls.length : Int)) && decide (t ≤ (fr : Int))) && (!decide ((ls.length : Int) < t) && holdL xss lo hi ca ls fr t.toNat))) := rfl
        have HNO : Hid (stepP ls.length (holdL xss lo hi ca ls) fr t = false → provePlan xss lo hi ca ls plan = false) := fun h => by rw [HPV.out, HPP.out, HST.out, h]; rfl
        clear hgo hbr ht
        by_cases p1 : t < (ls.length : Int)
        · have p1b : decide (t < (ls.length : Int)) = true := decide_eq_true p1
          by_cases p2 : t ≤ (fr : Int)
          · have p2b : decide (t ≤ (fr : Int)) = true := decide_eq_true p2
            have HF := Lib.hid (HNO.out (by rw [HSP.out, p1b, p2b]; rfl))
            clear HSP
            clear HST HDR
            go_wp2_with fail
            go_quiet (fail)
            go_wp2_with fail
            go_ret
            exact ⟨ret_bool HF.out.symm, below_drewN HBT.out _⟩
          · have p2b : decide (t ≤ (fr : Int)) = false := decide_eq_false p2
            have p3b : decide ((ls.length : Int) < t) = false := decide_eq_false (by omega)
            obtain ⟨tn, htq⟩ : ∃ tn : Nat, t = (tn : Int) := ⟨t.toNat, by omega⟩
            have HTQ := Lib.hid htq
            have htn : tn ≤ ls.length := by omega
            have hft : fr ≤ tn := by omega
            have hsl : ∀ W, (Instr.slice 70 (.slice A' ls.length c') (some (.int .i64 (fr : Int))) (some (.int .i64 t)) none).run Try.prog W = .ok (.slice (subA A' c' fr) (tn - fr) (c' - fr)) W := fun W => by rw [htq]; exact slice70 W A' ls.length c' fr tn hft (by omega)
            have H78 : Hid (∀ W, Below wr.heap.size wr W → Calls Try.prog 78 #[.agg #[.slice A xss.length c, .int .i64 lo, .int .i64 hi, .int .i64 ca], .slice (subA A' c' fr) (tn - fr) (c' - fr)] W (Ans W (.bool (holdL xss lo hi ca ls fr tn)))) := fun W hW => by
              have hW3 := HBR.out.trans (hW.mono HBR.out.size)
              have h := holds_c (B := W.heap.size) A (subA A' c' fr) xss (subL ls fr tn) c (c' - fr) lo hi ca W (Nat.le_refl _) (HR.out.below hW3 |>.more hW3.size) ((HX.out.step hW3).sub htn hc'.1) hc ⟨by rw [subL_len htn]; omega, by omega⟩ HLE.out (lines_sub HLI.out htn)
              rw [subL_len htn] at h
              exact h
            have HSV : Hid (stepP ls.length (holdL xss lo hi ca ls) fr t = holdL xss lo hi ca ls fr tn) := by
              show _ = _
              rw [HSP.out, htq, decide_eq_false (show ¬ ((ls.length : Int) < (tn : Int)) by omega), Int.toNat_natCast]
              have : (decide ((tn : Int) < (ls.length : Int)) && decide ((tn : Int) ≤ (fr : Int))) = false := by
                rw [Bool.and_eq_false_iff]
                by_cases e : (tn : Int) < (ls.length : Int)
                · exact .inr (decide_eq_false (by omega))
                · exact .inl (decide_eq_false e)
              rw [this]
              rfl
            have HY : Hid (Below wr.heap.size wr wr.drew) := (Below.refl _ _).drew
            have HTN : Hid (tn ≤ ls.length) := htn
            clear HDR HSP htn hft htq p1 p2
            go_wp2_with fail
            first | go_region_held3 (fun w' => w'.cell? ⟨w.heap.size, 0, none⟩ = some (.slice A xss.length c) ∧ w'.cell? ⟨w.heap.size, 1, none⟩ = some (.int .i64 lo) ∧ w'.cell? ⟨w.heap.size, 2, none⟩ = some (.int .i64 hi) ∧ w'.cell? ⟨w.heap.size, 3, none⟩ = some (.int .i64 ca)) (go_keep) (first | (go_at_call 78; refine (H78.out _ HY.out).mono ?_; rintro e w6 ⟨rfl, hb⟩; replace q0 := cell_of_ans (below_drew_l hb) q0; replace q1 := cell_of_ans (below_drew_l hb) q1; replace q2 := cell_of_ans (below_drew_l hb) q2; replace q3 := cell_of_ans (below_drew_l hb) q3; replace HY := Lib.hid (HY.out.trans (hb.mono HY.out.size)); clear hb))
            clear hsl
            cases hh : holdL xss lo hi ca ls fr tn
            · have HF := Lib.hid (HNO.out (by rw [HSV.out, hh]))
              clear hh HST HSV
              go_wp2_with fail
              go_ret
              exact ⟨ret_bool HF.out.symm, HBT.out.trans (HY.out.mono HBT.out.size)⟩
            · have HNX : Hid (goP ls.length (holdL xss lo hi ca ls) 0 seq = goP ls.length (holdL xss lo hi ca ls) tn (seq.drop (k + 1))) := by show _ = _; rw [HST.out, HSV.out, hh, Bool.true_and, HTQ.out, Int.toNat_natCast]
              clear hh HST HSV
              go_wp2_with fail
              go_roundw
              case rel => exact ⟨k + 1, tn, by omega, HTN.out, by go_num, by rw [HTQ.out], HNX.out, HBR.out.trans (HY.out.mono HBR.out.size)⟩
              case measure => simp [intOf]; omega
        · have p1b : decide (t < (ls.length : Int)) = false := decide_eq_false p1
          by_cases p3 : (ls.length : Int) < t
          · have p3b : decide ((ls.length : Int) < t) = true := decide_eq_true p3
            have HF := Lib.hid (HNO.out (by rw [HSP.out, p1b, p3b]; rfl))
            clear HSP
            clear HST HDR
            go_wp2_with fail
            go_quiet (fail)
            go_wp2_with fail
            go_ret
            exact ⟨ret_bool HF.out.symm, below_drewN HBT.out _⟩
          · have p3b : decide ((ls.length : Int) < t) = false := decide_eq_false p3
            obtain ⟨tn, htq⟩ : ∃ tn : Nat, t = (tn : Int) := ⟨t.toNat, by omega⟩
            have HTQ := Lib.hid htq
            have htn : tn ≤ ls.length := by omega
            have hft : fr ≤ tn := by omega
            have hsl : ∀ W, (Instr.slice 70 (.slice A' ls.length c') (some (.int .i64 (fr : Int))) (some (.int .i64 t)) none).run Try.prog W = .ok (.slice (subA A' c' fr) (tn - fr) (c' - fr)) W := fun W => by rw [htq]; exact slice70 W A' ls.length c' fr tn hft (by omega)
            have H78 : Hid (∀ W, Below wr.heap.size wr W → Calls Try.prog 78 #[.agg #[.slice A xss.length c, .int .i64 lo, .int .i64 hi, .int .i64 ca], .slice (subA A' c' fr) (tn - fr) (c' - fr)] W (Ans W (.bool (holdL xss lo hi ca ls fr tn)))) := fun W hW => by
              have hW3 := HBR.out.trans (hW.mono HBR.out.size)
              have h := holds_c (B := W.heap.size) A (subA A' c' fr) xss (subL ls fr tn) c (c' - fr) lo hi ca W (Nat.le_refl _) (HR.out.below hW3 |>.more hW3.size) ((HX.out.step hW3).sub htn hc'.1) hc ⟨by rw [subL_len htn]; omega, by omega⟩ HLE.out (lines_sub HLI.out htn)
              rw [subL_len htn] at h
              exact h
            have HSV : Hid (stepP ls.length (holdL xss lo hi ca ls) fr t = holdL xss lo hi ca ls fr tn) := by
              show _ = _
              rw [HSP.out, htq, decide_eq_false (show ¬ ((ls.length : Int) < (tn : Int)) by omega), Int.toNat_natCast]
              have : (decide ((tn : Int) < (ls.length : Int)) && decide ((tn : Int) ≤ (fr : Int))) = false := by
                rw [Bool.and_eq_false_iff]
                by_cases e : (tn : Int) < (ls.length : Int)
                · exact .inr (decide_eq_false (by omega))
                · exact .inl (decide_eq_false e)
              rw [this]
              rfl
            have HY : Hid (Below wr.heap.size wr wr.drew) := (Below.refl _ _).drew
            have HTN : Hid (tn ≤ ls.length) := htn
            clear HDR HSP htn hft htq p1 p3
            go_wp2_with fail
            refine wp_region_noPanic ?_
            have hS : (fun w' : World => w'.cell? ⟨w.heap.size, 0, none⟩ = some (.slice A xss.length c) ∧ w'.cell? ⟨w.heap.size, 1, none⟩ = some (.int .i64 lo) ∧ w'.cell? ⟨w.heap.size, 2, none⟩ = some (.int .i64 hi) ∧ w'.cell? ⟨w.heap.size, 3, none⟩ = some (.int .i64 ca)) wr.drew := ⟨q0, q1, q2, q3⟩
            refine wp_region_any (by kernel_rfl) (wpAny_of_T (S := fun w' : World => w'.cell? ⟨w.heap.size, 0, none⟩ = some (.slice A xss.length c) ∧ w'.cell? ⟨w.heap.size, 1, none⟩ = some (.int .i64 lo) ∧ w'.cell? ⟨w.heap.size, 2, none⟩ = some (.int .i64 hi) ∧ w'.cell? ⟨w.heap.size, 3, none⟩ = some (.int .i64 ca)) (m := 24) _ _ _ _ ?_)
            refine' T_take (i := 0) (v := _) rfl (by kernel_rfl) (by kernel_rfl) (by kernel_rfl) (by kernel_rfl) (fun _ _ _ h => h) (by kernel_rfl) hS ?_ ?_
            rotate_left 1
            · intro Wv hW
              obtain ⟨s0, s1, s2, s3⟩ := hW
              go_simp
              first | done | with_reducible rfl
            try simp only [Act.put, List.setIfInBounds_toArray, List.set_cons_zero, List.set_cons_succ]
            refine' T_take (i := 1) (v := _) rfl (by kernel_rfl) (by kernel_rfl) (by kernel_rfl) (by kernel_rfl) (fun _ _ _ h => h) (by kernel_rfl) hS ?_ ?_
            rotate_left 1
            · intro Wv hW
              obtain ⟨s0, s1, s2, s3⟩ := hW
              go_simp
              first | done | with_reducible rfl
            try simp only [Act.put, List.setIfInBounds_toArray, List.set_cons_zero, List.set_cons_succ]
            refine' T_take (i := 2) (v := _) rfl (by kernel_rfl) (by kernel_rfl) (by kernel_rfl) (by kernel_rfl) (fun _ _ _ h => h) (by kernel_rfl) hS ?_ ?_
            rotate_left 1
            · intro Wv hW
              obtain ⟨s0, s1, s2, s3⟩ := hW
              go_simp
              first | done | with_reducible rfl
            try simp only [Act.put, List.setIfInBounds_toArray, List.set_cons_zero, List.set_cons_succ]
            refine' T_take (i := 3) (v := _) rfl (by kernel_rfl) (by kernel_rfl) (by kernel_rfl) (by kernel_rfl) (fun _ _ _ h => h) (by kernel_rfl) hS ?_ ?_
            rotate_left 1
            · intro Wv hW
              obtain ⟨s0, s1, s2, s3⟩ := hW
              go_simp
              first | done | with_reducible rfl
            try simp only [Act.put, List.setIfInBounds_toArray, List.set_cons_zero, List.set_cons_succ]
            refine' T_take (i := 4) (v := _) rfl (by kernel_rfl) (by kernel_rfl) (by kernel_rfl) (by kernel_rfl) (fun _ _ _ h => h) (by kernel_rfl) hS ?_ ?_
            rotate_left 1
            · intro Wv hW
              obtain ⟨s0, s1, s2, s3⟩ := hW
              go_simp
              first | done | with_reducible rfl
            try simp only [Act.put, List.setIfInBounds_toArray, List.set_cons_zero, List.set_cons_succ]
            refine' T_skip (i := 5) rfl (by kernel_rfl) (by kernel_rfl) (by kernel_rfl) (by kernel_rfl) (fun _ _ _ h => h) (by kernel_rfl) hS ?_
            try simp only [Act.put, List.setIfInBounds_toArray, List.set_cons_zero, List.set_cons_succ]
            refine' T_skip (i := 6) rfl (by kernel_rfl) (by kernel_rfl) (by kernel_rfl) (by kernel_rfl) (fun _ _ _ h => h) (by kernel_rfl) hS ?_
            try simp only [Act.put, List.setIfInBounds_toArray, List.set_cons_zero, List.set_cons_succ]
            refine' T_skip (i := 7) rfl (by kernel_rfl) (by kernel_rfl) (by kernel_rfl) (by kernel_rfl) (fun _ _ _ h => h) (by kernel_rfl) hS ?_
            try simp only [Act.put, List.setIfInBounds_toArray, List.set_cons_zero, List.set_cons_succ]
            refine' T_take (i := 8) (v := _) rfl (by kernel_rfl) (by kernel_rfl) (by kernel_rfl) (by kernel_rfl) (fun _ _ _ h => h) (by kernel_rfl) hS ?_ ?_
            rotate_left 1
            · intro Wv hW
              obtain ⟨s0, s1, s2, s3⟩ := hW
              go_simp
              first | done | with_reducible rfl
            try simp only [Act.put, List.setIfInBounds_toArray, List.set_cons_zero, List.set_cons_succ]
            refine' T_take (i := 9) (v := _) rfl (by kernel_rfl) (by kernel_rfl) (by kernel_rfl) (by kernel_rfl) (fun _ _ _ h => h) (by kernel_rfl) hS ?_ ?_
            rotate_left 1
            · intro Wv hW
              obtain ⟨s0, s1, s2, s3⟩ := hW
              go_simp
              first | done | with_reducible rfl
            try simp only [Act.put, List.setIfInBounds_toArray, List.set_cons_zero, List.set_cons_succ]
            refine' T_take (i := 10) (v := _) rfl (by kernel_rfl) (by kernel_rfl) (by kernel_rfl) (by kernel_rfl) (fun _ _ _ h => h) (by kernel_rfl) hS ?_ ?_
            rotate_left 1
            · intro Wv hW
              obtain ⟨s0, s1, s2, s3⟩ := hW
              go_simp
              first | done | with_reducible rfl
            try simp only [Act.put, List.setIfInBounds_toArray, List.set_cons_zero, List.set_cons_succ]
            refine' T_take (i := 11) (v := _) rfl (by kernel_rfl) (by kernel_rfl) (by kernel_rfl) (by kernel_rfl) (fun _ _ _ h => h) (by kernel_rfl) hS ?_ ?_
            rotate_left 1
            · intro Wv hW
              obtain ⟨s0, s1, s2, s3⟩ := hW
              go_simp
              first | done | with_reducible rfl
            try simp only [Act.put, List.setIfInBounds_toArray, List.set_cons_zero, List.set_cons_succ]
            refine' T_take (i := 12) (v := _) rfl (by kernel_rfl) (by kernel_rfl) (by kernel_rfl) (by kernel_rfl) (fun _ _ _ h => h) (by kernel_rfl) hS ?_ ?_
            rotate_left 1
            · intro Wv hW
              obtain ⟨s0, s1, s2, s3⟩ := hW
              go_simp
              first | done | with_reducible rfl
            try simp only [Act.put, List.setIfInBounds_toArray, List.set_cons_zero, List.set_cons_succ]
            refine' T_take (i := 13) (v := _) rfl (by kernel_rfl) (by kernel_rfl) (by kernel_rfl) (by kernel_rfl) (fun _ _ _ h => h) (by kernel_rfl) hS ?_ ?_
            rotate_left 1
            · intro Wv hW
              obtain ⟨s0, s1, s2, s3⟩ := hW
              go_simp
              first | done | with_reducible rfl
            try simp only [Act.put, List.setIfInBounds_toArray, List.set_cons_zero, List.set_cons_succ]
            refine' T_take (i := 14) (v := _) rfl (by kernel_rfl) (by kernel_rfl) (by kernel_rfl) (by kernel_rfl) (fun _ _ _ h => h) (by kernel_rfl) hS ?_ ?_
            rotate_left 1
            · intro Wv hW
              obtain ⟨s0, s1, s2, s3⟩ := hW
              go_simp
              first | done | with_reducible rfl
            try simp only [Act.put, List.setIfInBounds_toArray, List.set_cons_zero, List.set_cons_succ]
            refine' T_take (i := 15) (v := _) rfl (by kernel_rfl) (by kernel_rfl) (by kernel_rfl) (by kernel_rfl) (fun _ _ _ h => h) (by kernel_rfl) hS ?_ ?_
            rotate_left 1
            · intro Wv hW
              obtain ⟨s0, s1, s2, s3⟩ := hW
              go_simp
              first | done | with_reducible rfl
            try simp only [Act.put, List.setIfInBounds_toArray, List.set_cons_zero, List.set_cons_succ]
            refine' T_take (i := 16) (v := _) rfl (by kernel_rfl) (by kernel_rfl) (by kernel_rfl) (by kernel_rfl) (fun _ _ _ h => h) (by kernel_rfl) hS ?_ ?_
            rotate_left 1
            · intro Wv hW
              obtain ⟨s0, s1, s2, s3⟩ := hW
              go_simp
              first | done | with_reducible rfl
            try simp only [Act.put, List.setIfInBounds_toArray, List.set_cons_zero, List.set_cons_succ]
            refine' T_take (i := 17) (v := _) rfl (by kernel_rfl) (by kernel_rfl) (by kernel_rfl) (by kernel_rfl) (fun _ _ _ h => h) (by kernel_rfl) hS ?_ ?_
            rotate_left 1
            · intro Wv hW
              obtain ⟨s0, s1, s2, s3⟩ := hW
              go_simp
              first | done | with_reducible rfl
            try simp only [Act.put, List.setIfInBounds_toArray, List.set_cons_zero, List.set_cons_succ]
            refine' T_take (i := 18) (v := _) rfl (by kernel_rfl) (by kernel_rfl) (by kernel_rfl) (by kernel_rfl) (fun _ _ _ h => h) (by kernel_rfl) hS ?_ ?_
            rotate_left 1
            · intro Wv hW
              obtain ⟨s0, s1, s2, s3⟩ := hW
              go_simp
              first | done | with_reducible rfl
            try simp only [Act.put, List.setIfInBounds_toArray, List.set_cons_zero, List.set_cons_succ]
            refine' T_take (i := 19) (v := _) rfl (by kernel_rfl) (by kernel_rfl) (by kernel_rfl) (by kernel_rfl) (fun _ _ _ h => h) (by kernel_rfl) hS ?_ ?_
            rotate_left 1
            · intro Wv hW
              obtain ⟨s0, s1, s2, s3⟩ := hW
              go_simp
              first | done | with_reducible rfl
            try simp only [Act.put, List.setIfInBounds_toArray, List.set_cons_zero, List.set_cons_succ]
            refine' T_take (i := 20) (v := _) rfl (by kernel_rfl) (by kernel_rfl) (by kernel_rfl) (by kernel_rfl) (fun _ _ _ h => h) (by kernel_rfl) hS ?_ ?_
            rotate_left 1
            · intro Wv hW
              obtain ⟨s0, s1, s2, s3⟩ := hW
              go_simp
              first | done | with_reducible rfl
            try simp only [Act.put, List.setIfInBounds_toArray, List.set_cons_zero, List.set_cons_succ]
            refine T_ready (rs := [21]) (by kernel_rfl) (by simp) ?_
            refine TReady.cons rfl (fun K hK => ?_) TReady.nil
            try go_simp
            refine (H78.out _ HY.out).mono ?_
            rintro e w6 ⟨rfl, hb⟩
            replace HY := Lib.hid (HY.out.trans (hb.mono HY.out.size))
            try go_simp
            refine hK.out _ _ (fun _ => ⟨cell_of_ans hb hS.1, cell_of_ans hb hS.2.1, cell_of_ans hb hS.2.2.1, cell_of_ans hb hS.2.2.2⟩) (fun hS => ?_)
            replace hS := hS (by decide)
            clear hK K
            try simp only [Act.put, List.setIfInBounds_toArray, List.set_cons_zero, List.set_cons_succ]
            clear hb
            refine' T_take (i := 22) (v := _) rfl (by kernel_rfl) (by kernel_rfl) (by kernel_rfl) (by kernel_rfl) (fun _ _ _ h => h) (by kernel_rfl) hS ?_ ?_
            rotate_left 1
            · intro Wv hW
              obtain ⟨s0, s1, s2, s3⟩ := hW
              go_simp
              first | done | with_reducible rfl
            try simp only [Act.put, List.setIfInBounds_toArray, List.set_cons_zero, List.set_cons_succ]
            refine' T_take (i := 23) (v := _) rfl (by kernel_rfl) (by kernel_rfl) (by kernel_rfl) (by kernel_rfl) (fun _ _ _ h => h) (by kernel_rfl) hS ?_ ?_
            rotate_left 1
            · intro Wv hW
              obtain ⟨s0, s1, s2, s3⟩ := hW
              go_simp
              first | done | with_reducible rfl
            try simp only [Act.put, List.setIfInBounds_toArray, List.set_cons_zero, List.set_cons_succ]
            refine T_done (by kernel_rfl) ?_ _
            refine NoPanic.normal ?_
            clear hsl
            cases hh : holdL xss lo hi ca ls fr tn
            · have HF := Lib.hid (HNO.out (by rw [HSV.out, hh]))
              clear hh HST HSV
              go_wp2_with fail
              go_ret
              exact ⟨ret_bool HF.out.symm, HBT.out.trans (HY.out.mono HBT.out.size)⟩
            · have HNX : Hid (goP ls.length (holdL xss lo hi ca ls) 0 seq = goP ls.length (holdL xss lo hi ca ls) tn (seq.drop (k + 1))) := by show _ = _; rw [HST.out, HSV.out, hh, Bool.true_and, HTQ.out, Int.toNat_natCast]
              clear hh HST HSV
              go_wp2_with fail
              go_roundw
              case rel => exact ⟨k + 1, tn, by omega, HTN.out, by go_num, by rw [HTQ.out], HNX.out, HBR.out.trans (HY.out.mono HBR.out.size)⟩
              case measure => simp [intOf]; omega
      · obtain rfl : k = plan.length + 1 := by omega
        have HG1 : Hid (goP ls.length (holdL xss lo hi ca ls) 0 seq = true) := by show _ = _; rw [HGO.out, List.drop_eq_nil_of_le (by rw [HSL.out]; exact Nat.le_refl _)]; rfl
        have H79 := Lib.hid (contains79 (B := wr.heap.size) Ap cp plan (ls.length : Int) wr (HP.out.below hbr |>.more hbr.size) hcp)
        have HF : Hid (provePlan xss lo hi ca ls plan = !hasI plan (ls.length : Int)) := by show _ = _; rw [HPV.out, HPP.out, HG1.out, Bool.true_and]
        clear hgo hbr
        go_wp2_with fail
        refine H79.out.mono ?_
        rintro e w9 ⟨rfl, rfl⟩
        go_wp2_with fail
        go_ret
        exact ⟨ret_bool HF.out.symm, HBT.out⟩
  · have hbb : (blockErr xss lo hi ca ls != 0) = true := by simp [hbe]
    have HF : Hid (provePlan xss lo hi ca ls plan = false) := by show _ = _; unfold provePlan; rw [decide_eq_false hbe]; rfl
    generalize blockErr xss lo hi ca ls = er at *
    clear hbe
    go_wp2_with fail
    go_ret
    exact ⟨ret_bool HF.out.symm, HB.out⟩
end

section


/-- A rising list of numbers from lo on, below hi. -/
def Ris : Int → Int → List Int → Prop
  | _, _, [] => True
  | lo, hi, t :: q => lo ≤ t ∧ t < hi ∧ Ris (t + 1) hi q
theorem Ris.mono {lo lo' hi : Int} : ∀ {q : List Int}, Ris lo' hi q → lo ≤ lo' → Ris lo hi q
  | [], _, _ => trivial
  | t :: q, ⟨a, b, c⟩, h => ⟨by omega, b, c⟩

/-- The plan of some bits: numbers from i on, k of them. -/
def bitsF : Nat → Nat → Nat → List Int
  | _, _, 0 => []
  | b, i, k + 1 => if b % 2 = 1 then (i : Int) :: bitsF (b / 2) (i + 1) k else bitsF (b / 2) (i + 1) k
theorem bitsF_snoc : ∀ (k b i : Nat), bitsF b i (k + 1) = bitsF b i k ++ (if b / 2 ^ k % 2 = 1 then [((i + k : Nat) : Int)] else [])
  | 0, b, i => by
    unfold bitsF
    simp only [bitsF, Nat.pow_zero, Nat.div_one, Nat.add_zero, List.nil_append]
  | k + 1, b, i => by
    have e := bitsF_snoc k (b / 2) (i + 1)
    rw [Nat.div_div_eq_div_mul, ← Nat.pow_succ', show i + 1 + k = i + (k + 1) by omega] at e
    rw [bitsF, e]
    conv => rhs; rw [bitsF]
    split <;> rfl
theorem bitsF_ris : ∀ (k b i : Nat), Ris (i : Int) ((i + k : Nat) : Int) (bitsF b i k)
  | 0, b, i => trivial
  | k + 1, b, i => by
    have e := bitsF_ris k (b / 2) (i + 1)
    rw [show i + 1 + k = i + (k + 1) by omega] at e
    unfold bitsF
    by_cases h : b % 2 = 1
    · rw [if_pos h]
      exact ⟨Int.le_refl _, by omega, e⟩
    · rw [if_neg h]
      exact e.mono (by omega)
theorem bitsF_all : ∀ (k i : Nat) (q : List Int), Ris (i : Int) ((i + k : Nat) : Int) q → ∃ b, b < 2 ^ k ∧ bitsF b i k = q
  | 0, i, q, h => by
    cases q with
    | nil => exact ⟨0, by simp, rfl⟩
    | cons t q => obtain ⟨a, b, _⟩ := h; omega
  | k + 1, i, q, h => by
    have hw : ((i + (k + 1) : Nat) : Int) = ((i + 1 + k : Nat) : Int) := by omega
    by_cases hq : ∃ q', q = (i : Int) :: q'
    · obtain ⟨q', rfl⟩ := hq
      obtain ⟨_, _, c⟩ := h
      obtain ⟨b, hb, e⟩ := bitsF_all k (i + 1) q' (by rw [← hw]; exact c)
      refine ⟨2 * b + 1, by rw [Nat.pow_succ]; omega, ?_⟩
      rw [bitsF, if_pos (by omega), show (2 * b + 1) / 2 = b by omega, e]
    · have h' : Ris ((i + 1 : Nat) : Int) ((i + 1 + k : Nat) : Int) q := by
        rw [← hw]
        cases q with
        | nil => trivial
        | cons t q =>
          obtain ⟨a, b, c⟩ := h
          refine ⟨?_, b, c⟩
          by_cases ht : t = (i : Int)
          · exact absurd ⟨q, by rw [ht]⟩ hq
          · omega
      obtain ⟨b, hb, e⟩ := bitsF_all k (i + 1) q h'
      refine ⟨2 * b, by rw [Nat.pow_succ]; omega, ?_⟩
      rw [bitsF, if_neg (by omega), show (2 * b) / 2 = b by omega, e]

/-- The best of the first k plans by bits. -/
def bestL (n : Nat) (right : List Int → Bool) : Nat → Option (List Int)
  | 0 => none
  | k + 1 => match bestL n right k with
    | none => if right (bitsF k 1 (n - 1)) then some (bitsF k 1 (n - 1)) else none
    | some p => if lessI (bitsF k 1 (n - 1)) p && right (bitsF k 1 (n - 1)) then some (bitsF k 1 (n - 1)) else some p
theorem lessI_self (a : List Int) : lessI a a = false := by
  cases h : lessI a a with
  | false => rfl
  | true =>
    unfold lessI at h
    rw [if_pos rfl] at h
    exfalso
    revert h
    induction a with
    | nil => simp [lexLt]
    | cons x a ih => unfold lexLt; rw [if_pos rfl]; exact ih
theorem best_none {n : Nat} {right : List Int → Bool} : ∀ {k : Nat}, bestL n right k = none → ∀ j, j < k → right (bitsF j 1 (n - 1)) = false
  | 0, _, j, hj => by omega
  | k + 1, h, j, hj => by
    unfold bestL at h
    cases hb : bestL n right k with
    | some p =>
      rw [hb] at h
      dsimp only at h
      split at h <;> cases h
    | none =>
      rw [hb] at h
      dsimp only at h
      by_cases hr : right (bitsF k 1 (n - 1)) = true
      · rw [if_pos hr] at h; cases h
      · by_cases e : j = k
        · subst e; simpa using hr
        · exact best_none hb j (by omega)
theorem best_some {n : Nat} {right : List Int → Bool} : ∀ {k : Nat} {p : List Int}, bestL n right k = some p → (∃ j, j < k ∧ p = bitsF j 1 (n - 1)) ∧ right p = true ∧ ∀ j, j < k → right (bitsF j 1 (n - 1)) = true → lessI (bitsF j 1 (n - 1)) p = false
  | 0, p, h => by cases h
  | k + 1, p, h => by
    unfold bestL at h
    cases hb : bestL n right k with
    | some p0 =>
      rw [hb] at h
      dsimp only at h
      obtain ⟨⟨j0, h1, h2⟩, h3, h4⟩ := best_some hb
      by_cases hr : (lessI (bitsF k 1 (n - 1)) p0 && right (bitsF k 1 (n - 1))) = true
      · rw [if_pos hr] at h
        injection h with h
        obtain ⟨r1, r2⟩ := Bool.and_eq_true_iff.1 hr
        refine ⟨⟨k, by omega, h.symm⟩, by rw [← h]; exact r2, fun j hj hjr => ?_⟩
        rw [← h]
        by_cases e : j = k
        · rw [e]; exact lessI_self _
        · cases hl : lessI (bitsF j 1 (n - 1)) (bitsF k 1 (n - 1)) with
          | false => rfl
          | true =>
            have := lessI_trans hl r1
            rw [h4 j (by omega) hjr] at this
            cases this
      · rw [if_neg hr] at h
        injection h with h
        subst h
        refine ⟨⟨j0, by omega, h2⟩, h3, fun j hj hjr => ?_⟩
        by_cases e : j = k
        · subst e
          rw [hjr, Bool.and_true] at hr
          simpa using hr
        · exact h4 j (by omega) hjr
    | none =>
      rw [hb] at h
      dsimp only at h
      by_cases hr : right (bitsF k 1 (n - 1)) = true
      · rw [if_pos hr] at h
        injection h with h
        refine ⟨⟨k, by omega, h.symm⟩, by rw [← h]; exact hr, fun j hj hjr => ?_⟩
        by_cases e : j = k
        · rw [e, ← h]; exact lessI_self _
        · rw [best_none hb j (by omega)] at hjr; cases hjr
      · rw [if_neg hr] at h; cases h

/-- Are the lines from the i-th on right, c of them, if oil was laid last ahead of a line, and q is what is left of the plan? -/
def rightR (play : Nat → Nat → Bool) : Nat → Nat → Nat → List Int → Bool
  | 0, _, _, _ => true
  | c + 1, i, last, [] => play last i && rightR play c (i + 1) last []
  | c + 1, i, last, t :: q => if t = (i : Int) then play i i && rightR play c (i + 1) i q else play last i && rightR play c (i + 1) last (t :: q)

theorem hold_split {hold play : Nat → Nat → Bool} {n : Nat} (hh : ∀ f t, f ≤ t → t ≤ n → (hold f t = true ↔ ∀ j, f ≤ j → j < t → play f j = true)) {f i : Nat} (h1 : f ≤ i) (h2 : i < n) (h : hold f i = true) : hold f (i + 1) = true ↔ play f i = true := by
  rw [hh f (i + 1) (by omega) (by omega)]
  rw [hh f i h1 (by omega)] at h
  constructor
  · intro a; exact a i h1 (by omega)
  · intro a j hj1 hj2
    by_cases e : j = i
    · rw [e]; exact a
    · exact h j hj1 (by omega)
theorem hold_sub {hold play : Nat → Nat → Bool} {n : Nat} (hh : ∀ f t, f ≤ t → t ≤ n → (hold f t = true ↔ ∀ j, f ≤ j → j < t → play f j = true)) {f i t : Nat} (h1 : f ≤ i) (h2 : i < t) (h3 : t ≤ n) (h : hold f t = true) : play f i = true := (hh f t (by omega) h3).1 h i h1 h2
theorem hold_le {hold play : Nat → Nat → Bool} {n : Nat} (hh : ∀ f t, f ≤ t → t ≤ n → (hold f t = true ↔ ∀ j, f ≤ j → j < t → play f j = true)) {f i t : Nat} (h1 : f ≤ i) (h2 : i ≤ t) (h3 : t ≤ n) (h : hold f t = true) : hold f i = true := (hh f i h1 (by omega)).2 fun j a b => (hh f t (by omega) h3).1 h j a (by omega)

theorem right_iff {hold play : Nat → Nat → Bool} {n : Nat} (hh : ∀ f t, f ≤ t → t ≤ n → (hold f t = true ↔ ∀ j, f ≤ j → j < t → play f j = true)) : ∀ (c i last : Nat) (q : List Int), i + c = n → last ≤ i → Ris (i : Int) n q → (∀ t q', q = t :: q' → (last : Int) < t) → hold last i = true → (rightR play c i last q = true ↔ RP n hold last q)
  | 0, i, last, q, hc, hl, hq, _, hi => by
    cases q with
    | nil =>
      obtain rfl : i = n := by omega
      simp only [rightR, RP, hi]
    | cons t q => obtain ⟨a, b, _⟩ := hq; omega
  | c + 1, i, last, [], hc, hl, _, hg, hi => by
    simp only [rightR, Bool.and_eq_true]
    constructor
    · rintro ⟨a, b⟩
      exact (right_iff hh c (i + 1) last [] (by omega) (by omega) trivial (fun t q' h => by cases h) ((hold_split hh hl (by omega) hi).2 a)).1 b
    · intro h
      have hp := hold_sub hh hl (show i < n by omega) (Nat.le_refl _) h
      exact ⟨hp, (right_iff hh c (i + 1) last [] (by omega) (by omega) trivial (fun t q' h => by cases h) ((hold_split hh hl (by omega) hi).2 hp)).2 h⟩
  | c + 1, i, last, t :: q, hc, hl, hq, hg, hi => by
    obtain ⟨a1, a2, a3⟩ := hq
    have hg0 := hg t q rfl
    by_cases ht : t = (i : Int)
    · subst ht
      have hii : hold i i = true := (hh i i (Nat.le_refl _) (by omega)).2 fun j a b => by omega
      have hgq : ∀ t q', q = t :: q' → (i : Int) < t := fun t q' e => by subst e; obtain ⟨x, _⟩ := a3; omega
      simp only [rightR, if_true, Bool.and_eq_true, RP, Int.toNat_natCast]
      constructor
      · rintro ⟨a, b⟩
        exact ⟨hg0, a2, hi, (right_iff hh c (i + 1) i q (by omega) (by omega) a3 hgq ((hold_split hh (Nat.le_refl _) (by omega) hii).2 a)).1 b⟩
      · rintro ⟨_, _, _, d⟩
        have hp : play i i = true := by
          cases q with
          | nil => exact hold_sub hh (Nat.le_refl _) (show i < n by omega) (Nat.le_refl _) d
          | cons t q =>
            obtain ⟨x, y, z, _⟩ := d
            exact hold_sub hh (Nat.le_refl _) (show i < t.toNat by omega) (by omega) z
        exact ⟨hp, (right_iff hh c (i + 1) i q (by omega) (by omega) a3 hgq ((hold_split hh (Nat.le_refl _) (by omega) hii).2 hp)).2 d⟩
    · have hr : rightR play (c + 1) i last (t :: q) = (play last i && rightR play c (i + 1) last (t :: q)) := by
        show (if _ then _ else _) = _
        rw [if_neg ht]
      rw [hr, Bool.and_eq_true]
      have hq' : Ris ((i + 1 : Nat) : Int) n (t :: q) := ⟨by omega, a2, a3⟩
      constructor
      · rintro ⟨a, b⟩
        exact (right_iff hh c (i + 1) last (t :: q) (by omega) (by omega) hq' hg ((hold_split hh hl (by omega) hi).2 a)).1 b
      · intro h
        obtain ⟨x, y, z, u⟩ := h
        have hp : play last i = true := hold_sub hh hl (show i < t.toNat by omega) (by omega) z
        exact ⟨hp, (right_iff hh c (i + 1) last (t :: q) (by omega) (by omega) hq' hg ((hold_split hh hl (by omega) hi).2 hp)).2 ⟨x, y, z, u⟩⟩

theorem RP.ris {n : Nat} {hold : Nat → Nat → Bool} : ∀ {q : List Int} {fr : Nat}, RP n hold fr q → Ris ((fr : Int) + 1) n q
  | [], _, _ => trivial
  | t :: q, fr, ⟨a, b, _, d⟩ => by
    refine ⟨by omega, b, ?_⟩
    have := RP.ris d
    rw [Int.toNat_of_nonneg (by omega)] at this
    exact this

/-- The reference's best plan is the program's. -/
theorem best_plan {hold play : Nat → Nat → Bool} {n : Nat} (hh : ∀ f t, f ≤ t → t ≤ n → (hold f t = true ↔ ∀ j, f ≤ j → j < t → play f j = true)) : bestL n (rightR play n 0 0) (2 ^ (n - 1)) = planL n hold := by
  have hnn : hold n n = true := (hh n n (Nat.le_refl _) (Nat.le_refl _)).2 fun j a b => by omega
  have h00 : hold 0 0 = true := (hh 0 0 (Nat.le_refl _) (Nat.zero_le _)).2 fun j a b => by omega
  have hR : ∀ q, Ris 1 n q → (rightR play n 0 0 q = true ↔ RP n hold 0 q) := fun q hq => right_iff hh n 0 0 q (by omega) (Nat.le_refl _) (hq.mono (by decide)) (fun t q' e => by subst e; obtain ⟨x, _⟩ := hq; omega) h00
  have hn1 : ∀ q, Ris 1 n q → ∃ b, b < 2 ^ (n - 1) ∧ bitsF b 1 (n - 1) = q := fun q hq => bitsF_all (n - 1) 1 q (by
    cases n with
    | zero =>
      cases q with
      | nil => trivial
      | cons t q => obtain ⟨a, b, _⟩ := hq; omega
    | succ n => rw [show 1 + (n + 1 - 1) = n + 1 by omega]; exact hq)
  have hris : ∀ b, 0 < n → Ris 1 n (bitsF b 1 (n - 1)) := fun b h => by
    have := bitsF_ris (n - 1) b 1
    rwa [show 1 + (n - 1) = n by omega] at this
  have hris' : ∀ b, Ris 1 n (bitsF b 1 (n - 1)) := fun b => by
    by_cases h : 0 < n
    · exact hris b h
    · obtain rfl : n = 0 := by omega
      trivial
  cases hb : bestL n (rightR play n 0 0) (2 ^ (n - 1)) with
  | none =>
    cases hp : planL n hold with
    | none => rfl
    | some p =>
      exfalso
      have hr := plan_right hnn hp
      have hri : Ris 1 n p := hr.ris.mono (by omega)
      obtain ⟨b, b1, b2⟩ := hn1 p hri
      have := best_none hb b b1
      rw [b2] at this
      rw [(hR p hri).2 hr] at this
      cases this
  | some p =>
    obtain ⟨⟨j, h1, h2⟩, h3, h4⟩ := best_some hb
    have hrp := (hR p (by rw [h2]; exact hris' j)).1 h3
    obtain ⟨p2, e1, e2, e3⟩ := plan_is hnn hrp
    rw [e1]
    congr 1
    have hri : Ris 1 n p2 := e2.ris.mono (by omega)
    obtain ⟨b, b1, b2⟩ := hn1 p2 hri
    have e4 := h4 b b1 (by rw [b2]; exact (hR p2 hri).2 e2)
    rw [b2] at e4
    exact lessI_antisymm (e3 p hrp) e4
end

section


/-- The balls of the lines from f on, ahead of i. -/
def ballsP (ls : Lines) (f i : Nat) : List (List Int) := (List.range (i - f)).map fun j => (lx ls (f + j)).1
theorem ballsP_len (ls : Lines) (f i : Nat) : (ballsP ls f i).length = i - f := by simp [ballsP]
theorem rx_ballsP {ls : Lines} {f i k : Nat} (h : k < i - f) : rx (ballsP ls f i) k = (lx ls (f + k)).1 := by
  rw [rx_lt (by rw [ballsP_len]; exact h)]
  simp [ballsP]
theorem runO_endO {xss : List (List Int)} {ls : Lines} {ca lo hi : Int} {o : Nat → Int} {f t i : Nat} (hl : linesB xss ls = true) (ht : t ≤ ls.length) (hi' : i ≤ t) : ∀ k, f + k ≤ i → runO ca lo hi (subL ls f t) o k = endO ca xss.length (ballsP ls f i) lo hi o k
  | 0, _ => rfl
  | k + 1, hk => by
    rw [runO, endO_succ, lx_sub (by omega), rx_ballsP (by omega), runO_endO hl ht hi' k (by omega), (lineOk (linesOk hl (f + k) (by omega))).1.1]
noncomputable def playP (xss : List (List Int)) (lo hi ca : Int) (ls : Lines) (f i : Nat) : Bool := refPlayB xss (ballsP ls f i) (lx ls i).1 (lx ls i).2 lo hi ca
theorem ballsP_ok {xss : List (List Int)} {lo hi ca : Int} {ls : Lines} (h : blockErr xss lo hi ca ls = 0) {f i : Nat} (hi' : i ≤ ls.length) : ballsErr xss lo hi ca (ballsP ls f i) = 0 := by
  obtain ⟨h1, h2, h3⟩ := blockOk h
  refine mk_ballsErr h1 (by rw [ballsP_len]; omega) fun k hk => ?_
  rw [ballsP_len] at hk
  rw [rx_ballsP hk]
  exact (lineOk (linesOk h3 (f + k) (by omega))).1
theorem holdL_iff {xss : List (List Int)} {lo hi ca : Int} {ls : Lines} (h : blockErr xss lo hi ca ls = 0) (f t : Nat) (h1 : f ≤ t) (h2 : t ≤ ls.length) : holdL xss lo hi ca ls f t = true ↔ ∀ j, f ≤ j → j < t → playP xss lo hi ca ls f j = true := by
  obtain ⟨_, _, hl⟩ := blockOk h
  have key : ∀ k, f + k < t → enB (lx (subL ls f t) k).1 (lx (subL ls f t) k).2 (runO ca lo hi (subL ls f t) (oilOf xss) k) = playP xss lo hi ca ls f (f + k) := fun k hk => by
    rw [playP, refPlayB_eq (ballsP_ok h (by omega)) (linesOk hl (f + k) (by omega)), lx_sub (by omega), ballsP_len, show f + k - f = k by omega, runO_endO hl h2 (show f + k ≤ t by omega) k (Nat.le_refl _)]
  unfold holdL holdsB
  rw [subL_len h2, allB_iff]
  constructor
  · intro a j hj1 hj2
    have := key (j - f) (by omega)
    rw [show f + (j - f) = j by omega] at this
    rw [← this]
    exact a (j - f) (by omega)
  · intro a k hk
    dsimp only
    rw [key k (by omega)]
    exact a (f + k) (by omega) (by omega)

/-- Is a list a rising one of numbers of lines, from 1 on? -/
def plB (n : Nat) (plan : List Int) (i : Nat) : Bool := decide (1 ≤ ix plan i) && decide (ix plan i < (n : Int)) && (decide (i = 0) || decide (ix plan (i - 1) < ix plan i))
noncomputable def isPlanB (n : Nat) (plan : List Int) : Bool := allB plan.length (plB n plan)
theorem ris_iff (n : Int) : ∀ (q : List Int) (lo : Int), Ris lo n q ↔ ∀ i, i < q.length → lo ≤ ix q i ∧ ix q i < n ∧ (0 < i → ix q (i - 1) < ix q i)
  | [], lo => by simp [Ris]
  | t :: q, lo => by
    have e0 : ix (t :: q) 0 = t := rfl
    have e1 : ∀ i, ix (t :: q) (i + 1) = ix q i := fun i => rfl
    constructor
    · rintro ⟨a, b, c⟩ i hi
      have c' := (ris_iff n q (t + 1)).1 c
      cases i with
      | zero => rw [e0]; exact ⟨a, b, fun h => by omega⟩
      | succ i =>
        obtain ⟨x, y, z⟩ := c' i (by simpa using hi)
        rw [e1, Nat.add_sub_cancel]
        refine ⟨by omega, y, fun _ => ?_⟩
        cases i with
        | zero => rw [e0]; omega
        | succ i => rw [e1]; exact z (by omega)
    · intro h
      obtain ⟨a, b, _⟩ := h 0 (by simp)
      rw [e0] at a b
      refine ⟨a, b, (ris_iff n q (t + 1)).2 fun i hi => ?_⟩
      have hh : ∀ i, i < q.length → t + 1 ≤ ix q i := fun i => by
        induction i with
        | zero =>
          intro hi
          obtain ⟨_, _, z⟩ := h 1 (by simp; omega)
          have := z (by omega)
          have e2 : ix (t :: q) (1 - 1) = t := rfl
          rw [e2] at this
          have e3 : ix (t :: q) 1 = ix q 0 := rfl
          rw [e3] at this
          omega
        | succ i ih =>
          intro hi
          have h1 := ih (by omega)
          obtain ⟨_, _, z⟩ := h (i + 2) (by simp; omega)
          have := z (by omega)
          have e2 : ix (t :: q) (i + 2 - 1) = ix q i := rfl
          have e3 : ix (t :: q) (i + 2) = ix q (i + 1) := rfl
          rw [e2, e3] at this
          omega
      obtain ⟨_, y, z⟩ := h (i + 1) (by simp; omega)
      rw [e1] at y z
      refine ⟨hh i hi, y, fun hp => ?_⟩
      have := z (by omega)
      rw [Nat.add_sub_cancel] at this
      obtain ⟨j, rfl⟩ : ∃ j, i = j + 1 := ⟨i - 1, by omega⟩
      rw [e1] at this
      exact this
theorem isPlan_iff (n : Nat) (q : List Int) : isPlanB n q = true ↔ Ris 1 n q := by
  rw [ris_iff, isPlanB, allB_iff]
  refine forall_congr' fun i => forall_congr' fun hi => ?_
  simp only [plB, Bool.and_eq_true, Bool.or_eq_true, decide_eq_true_eq]
  constructor
  · rintro ⟨⟨a, b⟩, c⟩
    exact ⟨a, b, fun h => by rcases c with c | c; (· omega); exact c⟩
  · rintro ⟨a, b, c⟩
    exact ⟨⟨a, b⟩, by by_cases h : i = 0; (· exact .inl h); exact .inr (c (by omega))⟩

noncomputable def rightB (xss : List (List Int)) (lo hi ca : Int) (ls : Lines) (plan : List Int) : Bool := rightR (playP xss lo hi ca ls) ls.length 0 0 plan
theorem hold_self {xss : List (List Int)} {lo hi ca : Int} {ls : Lines} (h : blockErr xss lo hi ca ls = 0) (f : Nat) (hf : f ≤ ls.length) : holdL xss lo hi ca ls f f = true := (holdL_iff h f f (Nat.le_refl _) hf).2 fun j a b => by omega
theorem right_RP {xss : List (List Int)} {lo hi ca : Int} {ls : Lines} (h : blockErr xss lo hi ca ls = 0) {q : List Int} (hq : Ris 1 ls.length q) : rightB xss lo hi ca ls q = true ↔ RP ls.length (holdL xss lo hi ca ls) 0 q :=
  right_iff (holdL_iff h) ls.length 0 0 q (by omega) (Nat.le_refl _) (hq.mono (by decide)) (fun t q' e => by subst e; obtain ⟨x, _⟩ := hq; omega) (hold_self h 0 (Nat.zero_le _))
theorem provePlan_eq (xss : List (List Int)) (lo hi ca : Int) (ls : Lines) (plan : List Int) : provePlan xss lo hi ca ls plan = (decide (blockErr xss lo hi ca ls = 0) && (isPlanB ls.length plan && rightB xss lo hi ca ls plan)) := by
  unfold provePlan
  by_cases h : blockErr xss lo hi ca ls = 0
  · rw [decide_eq_true h, Bool.true_and, Bool.true_and]
    refine Bool.eq_iff_iff.2 ?_
    rw [proveP_iff, Bool.and_eq_true, isPlan_iff]
    constructor
    · intro a
      have hr : Ris 1 ls.length plan := a.ris.mono (by omega)
      exact ⟨hr, (right_RP h hr).2 a⟩
    · rintro ⟨a, b⟩
      exact (right_RP h a).1 b
  · rw [decide_eq_false h]; rfl
noncomputable def bestB (xss : List (List Int)) (lo hi ca : Int) (ls : Lines) : Option (List Int) := bestL ls.length (rightB xss lo hi ca ls) (2 ^ (ls.length - 1))
theorem bestB_eq {xss : List (List Int)} {lo hi ca : Int} {ls : Lines} (h : blockErr xss lo hi ca ls = 0) : bestB xss lo hi ca ls = planL ls.length (holdL xss lo hi ca ls) := best_plan (holdL_iff h)
end

section

open Go.RowKit
set_option linter.unusedSimpArgs false
set_option linter.unusedVariables false

theorem lexLt_at : ∀ {xs ys : List Int} {k : Nat}, k < xs.length → k < ys.length → pref xs ys k → ix xs k ≠ ix ys k → lexLt xs ys = decide (ix xs k < ix ys k)
  | [], _, k, h, _, _, _ => by simp at h
  | _ :: _, [], k, _, h, _, _ => by simp at h
  | x :: xs, y :: ys, 0, _, _, _, hn => by
    have hn' : x ≠ y := hn
    unfold lexLt
    rw [if_neg hn']
    rfl
  | x :: xs, y :: ys, k + 1, h1, h2, hp, hn => by
    have h0 : x = y := hp 0 (by omega)
    unfold lexLt
    rw [if_pos h0]
    exact lexLt_at (k := k) (by simpa using h1) (by simpa using h2) (fun j hj => hp (j + 1) (by omega)) hn
theorem lexLt_self : ∀ (xs : List Int), lexLt xs xs = false
  | [] => rfl
  | x :: xs => by unfold lexLt; rw [if_pos rfl]; exact lexLt_self xs

set_option maxHeartbeats 4000000 in
theorem less_c {B : Nat} (A A' : Option Addr) (xs ys : List Int) (c c' : Nat) (w : World) (hx : Ints B w A xs) (hy : Ints B w A' ys) (hc : xs.length ≤ c ∧ c ≤ 9223372036854775807) (hc' : ys.length ≤ c' ∧ c' ≤ 9223372036854775807) :
    Calls Try.prog 50 #[.slice A xs.length c, .slice A' ys.length c'] w (Qt w (.bool (lessI xs ys))) := by
  by_cases hl : xs.length = ys.length
  · have HL := Lib.hid hl
    have hne : ((xs.length : Int) == (ys.length : Int)) = true := by simp [hl]
    have HLS : Hid (lessI xs ys = lexLt xs ys) := by show _ = _; unfold lessI; rw [if_pos hl]
    clear hl
    go_enter Try.func50, Try.ntmps50
    go_wp2
    go_loopw [5] (fun i wr => ∃ k n : Nat, k ≤ xs.length ∧ i = .int .i64 k ∧ pref xs ys k ∧ wr = w.drewN n) (fun i _ => xs.length - (intOf i).toNat)
    case atStart => exact ⟨0, 0, by omega, rfl, fun j hj => by omega, rfl⟩
    case round =>
      obtain ⟨k, n, hk, rfl, hp, rfl⟩ := hrel
      by_cases h1 : k < xs.length
      · obtain ⟨b, off, rfl, hb, hcell⟩ := hx.at_ h1
        obtain ⟨b', off', rfl, hb', hcell'⟩ := hy.at_ (k := k) (by have := HL.out; omega)
        have h1' : k < ys.length := by have := HL.out; omega
        by_cases he : ix xs k = ix ys k
        · have he' : (ix xs k != ix ys k) = false := by simp [he]
          have HE := Lib.hid he
          clear he
          go_wp2
          go_quiet (fail)
          go_wp2
          go_roundw
          case rel => exact ⟨k + 1, _, by omega, by go_num, fun j hj => by
            by_cases e : j = k
            · subst e; exact HE.out
            · exact hp j (by omega), rfl⟩
          case measure => simp [intOf]; omega
        · have he' : (ix xs k != ix ys k) = true := by simp [he]
          have HV := Lib.hid (lexLt_at h1 h1' hp he)
          clear he
          go_wp2
          go_quiet (fail)
          go_wp2
          go_quiet (fail)
          go_wp2
          go_ret
          exact ⟨ret_bool (by rw [HLS.out, HV.out]), by simp only [World.drewN_drewN]; exact ⟨_, rfl⟩⟩
      · have hd : decide ((xs.length : Int) < (ys.length : Int)) = false := decide_eq_false (by have := HL.out; omega)
        go_wp2
        go_ret
        refine ⟨ret_bool ?_, _, rfl⟩
        rw [HLS.out]
        have : xs = ys := of_decide_eq_true (eqB_all HL.out (fun j hj => hp j (by omega)))
        rw [this, lexLt_self]
        simp
  · have hne : ((xs.length : Int) == (ys.length : Int)) = false := by simp; omega
    have HLS : Hid (lessI xs ys = decide ((xs.length : Int) < (ys.length : Int))) := by show _ = _; unfold lessI; rw [if_neg hl]; exact decide_eq_decide.2 (by omega)
    clear hl
    go_enter Try.func50, Try.ntmps50
    go_wp2
    go_loop [5] (fun i => i = .int .i64 0) (fun i => 1)
    case atStart => rfl
    case round =>
      obtain rfl := hrel
      by_cases h0 : (0 : Int) < (xs.length : Int)
      · go_wp2
        go_ret
        exact ⟨ret_bool (by rw [HLS.out]; exact decide_eq_decide.2 (by omega)), 0, rfl⟩
      · go_wp2
        go_ret
        exact ⟨ret_bool (by rw [HLS.out]; exact decide_eq_decide.2 (by omega)), 0, rfl⟩

set_option maxRecDepth 100000 in
set_option maxHeartbeats 4000000 in
theorem isPlan_c {B : Nat} (A' Ap : Option Addr) (n : Nat) (plan : List Int) (c' cp : Nat) (w : World) (hp : Ints B w Ap plan) (hn : n ≤ 1000) (hc' : n ≤ c' ∧ c' ≤ 9223372036854775807) (hcp : plan.length ≤ cp ∧ cp ≤ 9223372036854775807) :
    Calls Try.prog 47 #[.slice A' n c', .slice Ap plan.length cp] w (Qt w (.bool (isPlanB n plan))) := by
  have hw1 : IntKind.i64.wrap ((n : Int) - 1) = (n : Int) - 1 := IntWalk.i64_in _ (by omega)
  have HP := Lib.hid hp
  clear hp
  go_enter Try.func47, Try.ntmps47
  go_wp2
  go_loopw [5] (fun i wr => ∃ k m : Nat, k ≤ plan.length ∧ i = .int .i64 k ∧ AllB k (plB n plan) ∧ wr = w.drewN m) (fun i _ => plan.length - (intOf i).toNat)
  case atStart => exact ⟨0, 0, by omega, rfl, fun j hj => by omega, rfl⟩
  case round =>
    obtain ⟨k, m, hk, rfl, ha, rfl⟩ := hrel
    by_cases h1 : k < plan.length
    · obtain ⟨b, off, rfl, hb, hcell⟩ := HP.out.at_ h1
      have hki : (k : Int) < (plan.length : Int) := by omega
      cases hin : inB (ix plan k) 1 ((n : Int) - 1)
      · have HIN := Lib.hid hin
        have HR : Hid (isPlanB n plan = false) := by
          refine allB_false h1 ?_
          have : ¬ (1 ≤ ix plan k ∧ ix plan k ≤ (n : Int) - 1) := fun h => by rw [(inB_eq _ _ _).2 h] at hin; cases hin
          simp only [plB]
          by_cases q : 1 ≤ ix plan k
          · rw [decide_eq_false (show ¬ ix plan k < (n : Int) by omega)]; simp
          · rw [decide_eq_false q]; rfl
        clear hin
        go_wp2
        go_quiet ((go_at_call 66; refine (in_c _ _ _ _).mono ?_; rw [HIN.out]; rintro e w' ⟨rfl, rfl⟩; exact ⟨rfl, _, rfl⟩))
        go_wp2
        go_ret
        exact ⟨ret_bool HR.out.symm, by simp only [World.drewN_drewN]; exact ⟨_, rfl⟩⟩
      · have HIN := Lib.hid hin
        obtain ⟨a1, a2⟩ := (inB_eq _ _ _).1 hin
        have HD1 : Hid (decide (1 ≤ ix plan k) = true) := decide_eq_true a1
        have HD2 : Hid (decide (ix plan k < (n : Int)) = true) := decide_eq_true (by omega)
        clear hin a1 a2
        by_cases h0 : k = 0
        · subst h0
          have HY : Hid (plB n plan 0 = true) := by show _ = _; unfold plB; rw [HD1.out, HD2.out]; rfl
          clear HD1 HD2
          simp only [Nat.add_zero] at hcell
          have h1n : 0 < plan.length := by omega
          go_wp2
          go_quiet ((go_at_call 66; refine (in_c _ _ _ _).mono ?_; rw [HIN.out]; rintro e w' ⟨rfl, rfl⟩; exact ⟨rfl, _, rfl⟩))
          go_wp2
          go_roundw
          case rel => exact ⟨1, _, by omega, by go_num, ha.succ HY.out, rfl⟩
          case measure => simp [intOf]; omega
        · obtain ⟨j, rfl⟩ : ∃ j, k = j + 1 := ⟨k - 1, by omega⟩
          have hcell2 := HP.out.at_ (k := j) (by omega)
          obtain ⟨b2, off2, e2, _, hcell2⟩ := hcell2
          injection e2 with e2
          injection e2 with e2 e3 _
          subst e2 e3
          have hg0 : decide ((0 : Int) < ((j + 1 : Nat) : Int)) = true := decide_eq_true (by omega)
          have hw2 : IntKind.i64.wrap (((j + 1 : Nat) : Int) - 1) = (j : Int) := by rw [show ((j + 1 : Nat) : Int) - 1 = (j : Int) by omega]; exact IntWalk.i64_in _ (by omega)
          by_cases hle : ix plan (j + 1) ≤ ix plan j
          · have hleb : decide (ix plan (j + 1) ≤ ix plan j) = true := decide_eq_true hle
            have HR : Hid (isPlanB n plan = false) := by
              refine allB_false h1 ?_
              simp only [plB, Nat.add_sub_cancel]
              rw [decide_eq_false (show ¬ ix plan j < ix plan (j + 1) by omega)]
              simp
            clear hle
            go_wp2
            go_quiet ((go_at_call 66; refine (in_c _ _ _ _).mono ?_; rw [HIN.out]; rintro e w' ⟨rfl, rfl⟩; exact ⟨rfl, _, rfl⟩))
            go_wp2
            go_ret
            exact ⟨ret_bool HR.out.symm, by simp only [World.drewN_drewN]; exact ⟨_, rfl⟩⟩
          · have hleb : decide (ix plan (j + 1) ≤ ix plan j) = false := decide_eq_false hle
            have HY : Hid (plB n plan (j + 1) = true) := by
              show _ = _
              unfold plB
              rw [HD1.out, HD2.out, Nat.add_sub_cancel, decide_eq_true (show ix plan j < ix plan (j + 1) by omega)]
              simp
            clear hle
            go_wp2
            go_quiet ((go_at_call 66; refine (in_c _ _ _ _).mono ?_; rw [HIN.out]; rintro e w' ⟨rfl, rfl⟩; exact ⟨rfl, _, rfl⟩))
            go_wp2
            go_roundw
            case rel => exact ⟨j + 1 + 1, _, by omega, by go_num, ha.succ HY.out, rfl⟩
            case measure => simp [intOf]; omega
    · obtain rfl : k = plan.length := by omega
      have HR : Hid (isPlanB n plan = true) := allB_true ha
      go_wp2
      go_ret
      exact ⟨ret_bool HR.out.symm, _, rfl⟩
end

section

open Go.RowKit
set_option linter.unusedSimpArgs false
set_option linter.unusedVariables false

def valsB (ls : Lines) (A1 : Nat → Option Addr) (c1 : Nat → Nat) (f k : Nat) : List Value := (List.range k).map fun j => .slice (A1 (f + j)) (lx ls (f + j)).1.length (c1 (f + j))
theorem valsB_succ (ls : Lines) (A1 : Nat → Option Addr) (c1 : Nat → Nat) (f k : Nat) : valsB ls A1 c1 f (k + 1) = valsB ls A1 c1 f k ++ [.slice (A1 (f + k)) (lx ls (f + k)).1.length (c1 (f + k))] := by simp [valsB, List.range_succ]
def BallsP (w : World) (ls : Lines) (f t : Nat) (e : Ending) (w' : World) : Prop :=
  ∃ A' c', e = .returned (.slice A' (ballsP ls f t).length c') ∧ ((ballsP ls f t).length ≤ c' ∧ c' ≤ 9223372036854775807) ∧ Grd w'.heap.size w' A' (ballsP ls f t) ∧ Below w.heap.size w w'
theorem balls_own {base B : Nat} {w w' : World} {v : Value} {ls : Lines} {A1 A2 : Nat → Option Addr} {c1 c2 : Nat → Nat} {f t : Nat} (h : w'.ownsRow base 45 1 v (t - f) (valsB ls A1 c1 f (t - f))) (hi : InL B w ls A1 c1 A2 c2) (hb : Below B w w') (hB : B ≤ w.heap.size) (hft : f ≤ t) (ht : t ≤ ls.length) :
    ∃ A' c', v = .slice A' (ballsP ls f t).length c' ∧ ((ballsP ls f t).length ≤ c' ∧ c' ≤ 9223372036854775807) ∧ Grd w'.heap.size w' A' (ballsP ls f t) := by
  rw [ballsP_len]
  rcases h.2 with ⟨rfl, h0⟩ | ⟨g, cap, cur, rfl, hb', hg, hn, hm, hs, ht'⟩
  · rw [h0]
    exact ⟨none, 0, rfl, by omega, fun hp => by rw [ballsP_len] at hp; omega⟩
  · refine ⟨_, cap, rfl, ⟨hn, by unfold maxLen at hm; omega⟩, fun hp => ⟨g, 0, rfl, (Array.getElem?_eq_some_iff.1 hg).1, fun j hj => ?_⟩⟩
    rw [ballsP_len] at hj
    obtain ⟨q1, _, q3, _⟩ := hi (f + j) (by omega)
    refine ⟨_, ?_, A1 (f + j), c1 (f + j), rfl, ?_⟩
    · have := h.cells (g := g) rfl j (.slice (A1 (f + j)) (lx ls (f + j)).1.length (c1 (f + j))) (by simp [valsB, hj])
      rw [add_eq] at this
      rw [rx_ballsP hj]
      exact this
    · rw [rx_ballsP hj]
      exact ⟨q1.1, q1.2, (q3.below hb).more (by have := hb.size; omega)⟩

set_option maxRecDepth 100000 in
set_option maxHeartbeats 8000000 in
theorem balls_c (A : Option Addr) (ls : Lines) (c f t : Nat) (w : World) (hx : Lns w.heap.size w A ls) (hft : f ≤ t) (ht : t ≤ ls.length) (hn : ls.length ≤ 1000) (hc : ls.length ≤ c ∧ c ≤ 9223372036854775807) :
    Calls Try.prog 81 #[.slice A ls.length c, .int .i64 (f : Int), .int .i64 (t : Int)] w (BallsP w ls f t) := by
  obtain ⟨i1, hi', hy0, hy1, hy2⟩ := info_parts infoInts
  obtain ⟨A1, c1, A2, c2, hel, hin⟩ := hx.el
  have HEL := Lib.hid hel
  have HIN := Lib.hid hin
  clear hx hel hin
  go_enter Try.func81, Try.ntmps81
  go_wp2_with fail
  go_loopw [8, 7] (fun i v wr => ∃ (k : Nat) (Av : Option Addr) (cv : Nat), k ≤ t - f ∧ i = .int .i64 ((f + k : Nat) : Int) ∧ v = .slice Av k cv ∧ wr.ownsRow w.heap.size 45 1 (.slice Av k cv) k (valsB ls A1 c1 f k) ∧ Below w.heap.size w wr) (fun i _ _ => t - (intOf i).toNat)
  case atStart => exact ⟨0, none, 0, by omega, rfl, rfl, World.ownsRow_nil _ _ _ _, Below.refl _ _⟩
  case round =>
    obtain ⟨k, Av, cv, hk, rfl, rfl, hO, hb⟩ := hrel
    have HO := Lib.hid hO
    have HB := Lib.hid hb
    have hz := hb.size
    clear hO hb
    by_cases h1 : k < t - f
    · obtain ⟨b, off, rfl, hbb, hcl⟩ := HEL.out (by omega)
      obtain ⟨e1, _⟩ := hcl (f + k) (by omega)
      have d1 := (HB.out.cell (p := ⟨b, off + (f + k) * 2, none⟩) hbb).trans e1
      have hti : ((f + k : Nat) : Int) < (t : Int) := by omega
      have hli : ((f + k : Nat) : Int) < (ls.length : Int) := by omega
      have h0i : (0 : Int) ≤ ((f + k : Nat) : Int) := by omega
      have hlN : f + k < ls.length := by omega
      have HV := Lib.hid (valsB_succ ls A1 c1 f k)
      clear e1 hcl
      have hkk : k ≤ 1000 := by omega
      have HRN : Hid ((((f + k : Nat) : Int) + 1) = ((f + (k + 1) : Nat) : Int)) := by show _ = _; omega
      have hon : ∀ v ∈ [Value.slice (A1 (f + k)) (lx ls (f + k)).1.length (c1 (f + k))], v.oneCell' = true := by simp [Value.oneCell']
      have HON := Lib.hid hon
      have htf : k + 1 ≤ t - f := by omega
      have hms : t - (f + (k + 1)) < t - (f + k) := by omega
      clear hon h1 hk
      generalize (lx ls (f + k)).1.length = n1 at *
      generalize A1 (f + k) = a1 at *
      generalize c1 (f + k) = cc1 at *
      have HFK : Hid (∃ m, m = f + k) := ⟨_, rfl⟩
      obtain ⟨m, hm⟩ := HFK.out
      have HM := Lib.hid hm
      rw [← hm] at d1 hti hli h0i hlN HRN hms ⊢
      clear hm HFK
      have hwm : IntKind.i64.wrap ((m : Int) + 1) = (m : Int) + 1 := IntWalk.i64_in _ (by omega)
      go_wp2_with (at_builtin; refine wpList_append_src rfl (.tmp 15) (.tmp 21) 22 rfl w.heap.size 45 i1 (.slice none 0 0) 1 24 Try.underlying22 hi' hy0 hy1 hy2 rfl (by decide) (.slice Av k cv) k _ rfl (HO.out.alloc _) (some ⟨wr.heap.size, 0, none⟩) 1 1 [.slice a1 n1 cc1] rfl (src_one wr _) HON.out (by unfold maxLen; omega) (by omega) (by simp; omega) ?_; intro v' w8 hown hgrow _hob; obtain ⟨A8, c8, rfl⟩ := ownsRow_form hown; have HO8 := Lib.hid hown; have HB8 := Lib.hid (own_below HO.out (by omega) hgrow); clear hown hgrow _hob)
      go_roundw
      case rel => exact ⟨k + 1, A8, c8, htf, by rw [HRN.out], rfl, by rw [HV.out]; exact HO8.out, HB.out.trans HB8.out⟩
      case measure => simp [intOf]; omega
    · obtain rfl : k = t - f := by omega
      have hti : ((f + (t - f) : Nat) : Int) = (t : Int) := by omega
      have h1i : decide ((t : Int) < (t : Int)) = false := decide_eq_false (by omega)
      rw [hti]
      clear hti h1 hk
      go_wp2_with fail
      go_ret
      obtain ⟨A', c', e1, e2, e3⟩ := balls_own HO.out HIN.out HB.out (Nat.le_refl _) hft ht
      exact ⟨A', c', by rw [← e1]; rfl, e2, e3, HB.out⟩

set_option maxRecDepth 100000 in
set_option maxHeartbeats 16000000 in
theorem right_c (A A' Ap : Option Addr) (xss : List (List Int)) (ls : Lines) (plan : List Int) (c c' cp : Nat) (lo hi ca : Int) (w : World) (hr : Grd w.heap.size w A xss) (hx : Lns w.heap.size w A' ls) (hp : Ints w.heap.size w Ap plan) (hc : xss.length ≤ c ∧ c ≤ 9223372036854775807) (hc' : ls.length ≤ c' ∧ c' ≤ 9223372036854775807) (hcp : plan.length ≤ cp ∧ cp ≤ 9223372036854775807) (hpl : plan.length ≤ 100000) (hbe : blockErr xss lo hi ca ls = 0) :
    Calls Try.prog 48 #[.agg #[.slice A xss.length c, .int .i64 lo, .int .i64 hi, .int .i64 ca], .slice A' ls.length c', .slice Ap plan.length cp] w (Ans w (.bool (rightB xss lo hi ca ls plan))) := by
  obtain ⟨_, hl20, hli⟩ := blockOk hbe
  have HLI := Lib.hid hli
  have HBE := Lib.hid hbe
  have hb0 : Below w.heap.size w (w.alloc (.cells #[.slice A xss.length c, .int .i64 lo, .int .i64 hi, .int .i64 ca] 26)) := (Below.refl _ _).alloc (Nat.le_refl _) _
  have k0 : (w.alloc (.cells #[.slice A xss.length c, .int .i64 lo, .int .i64 hi, .int .i64 ca] 26)).cell? ⟨w.heap.size, 0, none⟩ = some (.slice A xss.length c) := by simp
  have k1 : (w.alloc (.cells #[.slice A xss.length c, .int .i64 lo, .int .i64 hi, .int .i64 ca] 26)).cell? ⟨w.heap.size, 1, none⟩ = some (.int .i64 lo) := by simp
  have k2 : (w.alloc (.cells #[.slice A xss.length c, .int .i64 lo, .int .i64 hi, .int .i64 ca] 26)).cell? ⟨w.heap.size, 2, none⟩ = some (.int .i64 hi) := by simp
  have k3 : (w.alloc (.cells #[.slice A xss.length c, .int .i64 lo, .int .i64 hi, .int .i64 ca] 26)).cell? ⟨w.heap.size, 3, none⟩ = some (.int .i64 ca) := by simp
  have HX := Lib.hid (hr.step hb0)
  have HL := Lib.hid (hx.step hb0)
  have HP := Lib.hid (hp.step hb0)
  have HB := Lib.hid hb0
  clear hb0 hr hx hp hli hbe
  go_enter Try.func48, Try.ntmps48
  go_wp2_with fail
  generalize (w.alloc (.cells #[.slice A xss.length c, .int .i64 lo, .int .i64 hi, .int .i64 ca] 26)) = W0 at k0 k1 k2 k3 HX HL HP HB ⊢
  go_loopw [9, 7, 8] (fun i v u wr => ∃ k last at_ : Nat, k ≤ ls.length ∧ last ≤ k ∧ at_ ≤ plan.length ∧ i = .int .i64 (k : Int) ∧ v = .int .i64 (last : Int) ∧ u = .int .i64 (at_ : Int) ∧ rightB xss lo hi ca ls plan = rightR (playP xss lo hi ca ls) (ls.length - k) k last (plan.drop at_) ∧ Below W0.heap.size W0 wr) (fun i _ _ _ => ls.length - (intOf i).toNat)
  case atStart => exact ⟨0, 0, 0, by omega, by omega, by omega, rfl, rfl, rfl, rfl, Below.refl _ _⟩
  case round =>
    obtain ⟨k, last, at_, hk, hlk, hat, rfl, rfl, rfl, hrb, hbr⟩ := hrel
    have HRB := Lib.hid hrb
    have HBR : Hid (Below w.heap.size w wr) := HB.out.trans (hbr.mono HB.out.size)
    have HB1 := Lib.hid hbr
    replace k0 := cell_of_ans hbr k0
    replace k1 := cell_of_ans hbr k1
    replace k2 := cell_of_ans hbr k2
    replace k3 := cell_of_ans hbr k3
    replace HX := Lib.hid (HX.out.step hbr)
    replace HL := Lib.hid (HL.out.step hbr)
    replace HP := Lib.hid (HP.out.step hbr)
    replace HB := HBR
    clear hrb hbr
    by_cases h1 : k < ls.length
    · obtain ⟨b, off, A1, c1, A2, c2, rfl, j0, j1, q1, q2, hi1, hi2⟩ := HL.out.at_ h1
      have HI1 := Lib.hid hi1
      have HI2 := Lib.hid hi2
      have hki : (k : Int) < (ls.length : Int) := by omega
      have HLO := Lib.hid (linesOk HLI.out k h1)
      have HC1 : Hid (ls.length - k = (ls.length - (k + 1)) + 1) := by show _ = _; omega
      clear hi1 hi2
      by_cases h2 : at_ < plan.length
      · have h2i : (at_ : Int) < (plan.length : Int) := by omega
        obtain ⟨bp, op, rfl, _, cp0⟩ := HP.out.at_ h2
        have HDR := Lib.hid (drop_at h2)
        by_cases he : ix plan at_ = (k : Int)
        · have heb : (ix plan at_ == (k : Int)) = true := by simp [he]
          have HV : Hid (rightB xss lo hi ca ls plan = (playP xss lo hi ca ls k k && rightR (playP xss lo hi ca ls) (ls.length - (k + 1)) (k + 1) k (plan.drop (at_ + 1)))) := by show _ = _; rw [HRB.out, HC1.out, HDR.out, rightR, if_pos he]
          have HBO := Lib.hid (ballsP_ok (f := k) HBE.out (show k ≤ ls.length by omega))
          clear HRB HDR he
          go_wp2_with fail
          have hd : Below wr.heap.size wr wr.drew := (Below.refl _ _).drew
          replace HX := Lib.hid (HX.out.step hd)
          replace HL := Lib.hid (HL.out.step hd)
          replace HP := Lib.hid (HP.out.step hd)
          replace HI1 := Lib.hid (HI1.out.step hd)
          replace HI2 := Lib.hid (HI2.out.step hd)
          replace HB1 := Lib.hid (HB1.out.trans (hd.mono HB1.out.size))
          replace HB := Lib.hid (HB.out.trans (hd.mono HB.out.size))
          clear hd
          go_region_held3 (fun w' => w'.cell? ⟨w.heap.size, 0, none⟩ = some (.slice A xss.length c) ∧ w'.cell? ⟨w.heap.size, 1, none⟩ = some (.int .i64 lo) ∧ w'.cell? ⟨w.heap.size, 2, none⟩ = some (.int .i64 hi) ∧ w'.cell? ⟨w.heap.size, 3, none⟩ = some (.int .i64 ca) ∧ w'.cell? ⟨b, off + k * 2, none⟩ = some (.slice A1 (lx ls k).1.length c1) ∧ w'.cell? ⟨b, off + k * 2 + 1, none⟩ = some (.slice A2 (lx ls k).2.length c2)) (go_keep) (first | (go_at_call 81; refine (balls_c _ ls c' k k _ HL.out (Nat.le_refl _) (by omega) (by omega) hc').mono ?_; rintro e w3 ⟨A3, c3, rfl, hc3, g3, hb⟩; replace HX := Lib.hid (HX.out.step hb); replace HL := Lib.hid (HL.out.step hb); replace HP := Lib.hid (HP.out.step hb); replace HI1 := Lib.hid (HI1.out.step hb); replace HI2 := Lib.hid (HI2.out.step hb); replace k0 := cell_of_ans (below_drew_l hb) k0; replace k1 := cell_of_ans (below_drew_l hb) k1; replace k2 := cell_of_ans (below_drew_l hb) k2; replace k3 := cell_of_ans (below_drew_l hb) k3; replace j0 := cell_of_ans (below_drew_l hb) j0; replace j1 := cell_of_ans (below_drew_l hb) j1; replace HB1 := Lib.hid (HB1.out.trans (hb.mono HB1.out.size)); replace HB := Lib.hid (HB.out.trans (hb.mono HB.out.size)); clear hb; have Hg3 := Lib.hid g3; clear g3) | (go_at_call 38; refine (refPlayable_c A A3 A1 A2 xss _ (lx ls k).1 (lx ls k).2 c c3 c1 c2 lo hi ca _ HX.out Hg3.out HI1.out HI2.out HBO.out HLO.out).mono ?_; rintro e w4 ⟨rfl, hb⟩; replace HX := Lib.hid (HX.out.step hb); replace HL := Lib.hid (HL.out.step hb); replace HP := Lib.hid (HP.out.step hb); replace HI1 := Lib.hid (HI1.out.step hb); replace HI2 := Lib.hid (HI2.out.step hb); replace k0 := cell_of_ans hb k0; replace k1 := cell_of_ans hb k1; replace k2 := cell_of_ans hb k2; replace k3 := cell_of_ans hb k3; replace j0 := cell_of_ans hb j0; replace j1 := cell_of_ans hb j1; replace HB1 := Lib.hid (HB1.out.trans (hb.mono HB1.out.size)); replace Hg3 := Lib.hid (Hg3.out.step hb); replace HB := Lib.hid (HB.out.trans (hb.mono HB.out.size)); clear hb))
          cases hpl2 : playP xss lo hi ca ls k k
          · have HF : Hid (rightB xss lo hi ca ls plan = false) := by show _ = _; rw [HV.out, hpl2]; rfl
            have HE : Hid (refPlayB xss (ballsP ls k k) (lx ls k).1 (lx ls k).2 lo hi ca = false) := hpl2
            clear hpl2 HV
            rw [HE.out]
            go_wp2_with fail
            go_ret
            exact ⟨ret_bool HF.out.symm, HB.out⟩
          · have HF : Hid (rightB xss lo hi ca ls plan = rightR (playP xss lo hi ca ls) (ls.length - (k + 1)) (k + 1) k (plan.drop (at_ + 1))) := by show _ = _; rw [HV.out, hpl2]; rfl
            have HE : Hid (refPlayB xss (ballsP ls k k) (lx ls k).1 (lx ls k).2 lo hi ca = true) := hpl2
            clear hpl2 HV
            rw [HE.out]
            go_wp2_with fail
            go_roundw
            case rel => exact ⟨k + 1, k, at_ + 1, by omega, by omega, by omega, by go_num, rfl, by go_num, HF.out, HB1.out⟩
            case measure => simp [intOf]; omega
        · have heb : (ix plan at_ == (k : Int)) = false := by simp [he]
          have HV : Hid (rightB xss lo hi ca ls plan = (playP xss lo hi ca ls last k && rightR (playP xss lo hi ca ls) (ls.length - (k + 1)) (k + 1) last (plan.drop at_))) := by show _ = _; rw [HRB.out, HC1.out, HDR.out, rightR, if_neg he]
          have HBO := Lib.hid (ballsP_ok (f := last) HBE.out (show k ≤ ls.length by omega))
          clear HRB HDR he
          go_wp2_with fail
          have hd : Below wr.heap.size wr wr.drew := (Below.refl _ _).drew
          replace HX := Lib.hid (HX.out.step hd)
          replace HL := Lib.hid (HL.out.step hd)
          replace HP := Lib.hid (HP.out.step hd)
          replace HI1 := Lib.hid (HI1.out.step hd)
          replace HI2 := Lib.hid (HI2.out.step hd)
          replace HB1 := Lib.hid (HB1.out.trans (hd.mono HB1.out.size))
          replace HB := Lib.hid (HB.out.trans (hd.mono HB.out.size))
          clear hd
          go_region_held3 (fun w' => w'.cell? ⟨w.heap.size, 0, none⟩ = some (.slice A xss.length c) ∧ w'.cell? ⟨w.heap.size, 1, none⟩ = some (.int .i64 lo) ∧ w'.cell? ⟨w.heap.size, 2, none⟩ = some (.int .i64 hi) ∧ w'.cell? ⟨w.heap.size, 3, none⟩ = some (.int .i64 ca) ∧ w'.cell? ⟨b, off + k * 2, none⟩ = some (.slice A1 (lx ls k).1.length c1) ∧ w'.cell? ⟨b, off + k * 2 + 1, none⟩ = some (.slice A2 (lx ls k).2.length c2)) (go_keep) (first | (go_at_call 81; refine (balls_c _ ls c' last k _ HL.out hlk (by omega) (by omega) hc').mono ?_; rintro e w3 ⟨A3, c3, rfl, hc3, g3, hb⟩; replace HX := Lib.hid (HX.out.step hb); replace HL := Lib.hid (HL.out.step hb); replace HP := Lib.hid (HP.out.step hb); replace HI1 := Lib.hid (HI1.out.step hb); replace HI2 := Lib.hid (HI2.out.step hb); replace k0 := cell_of_ans (below_drew_l hb) k0; replace k1 := cell_of_ans (below_drew_l hb) k1; replace k2 := cell_of_ans (below_drew_l hb) k2; replace k3 := cell_of_ans (below_drew_l hb) k3; replace j0 := cell_of_ans (below_drew_l hb) j0; replace j1 := cell_of_ans (below_drew_l hb) j1; replace HB1 := Lib.hid (HB1.out.trans (hb.mono HB1.out.size)); replace HB := Lib.hid (HB.out.trans (hb.mono HB.out.size)); clear hb; have Hg3 := Lib.hid g3; clear g3) | (go_at_call 38; refine (refPlayable_c A A3 A1 A2 xss _ (lx ls k).1 (lx ls k).2 c c3 c1 c2 lo hi ca _ HX.out Hg3.out HI1.out HI2.out HBO.out HLO.out).mono ?_; rintro e w4 ⟨rfl, hb⟩; replace HX := Lib.hid (HX.out.step hb); replace HL := Lib.hid (HL.out.step hb); replace HP := Lib.hid (HP.out.step hb); replace HI1 := Lib.hid (HI1.out.step hb); replace HI2 := Lib.hid (HI2.out.step hb); replace k0 := cell_of_ans hb k0; replace k1 := cell_of_ans hb k1; replace k2 := cell_of_ans hb k2; replace k3 := cell_of_ans hb k3; replace j0 := cell_of_ans hb j0; replace j1 := cell_of_ans hb j1; replace HB1 := Lib.hid (HB1.out.trans (hb.mono HB1.out.size)); replace Hg3 := Lib.hid (Hg3.out.step hb); replace HB := Lib.hid (HB.out.trans (hb.mono HB.out.size)); clear hb))
          cases hpl2 : playP xss lo hi ca ls last k
          · have HF : Hid (rightB xss lo hi ca ls plan = false) := by show _ = _; rw [HV.out, hpl2]; rfl
            have HE : Hid (refPlayB xss (ballsP ls last k) (lx ls k).1 (lx ls k).2 lo hi ca = false) := hpl2
            clear hpl2 HV
            rw [HE.out]
            go_wp2_with fail
            go_ret
            exact ⟨ret_bool HF.out.symm, HB.out⟩
          · have HF : Hid (rightB xss lo hi ca ls plan = rightR (playP xss lo hi ca ls) (ls.length - (k + 1)) (k + 1) last (plan.drop at_)) := by show _ = _; rw [HV.out, hpl2]; rfl
            have HE : Hid (refPlayB xss (ballsP ls last k) (lx ls k).1 (lx ls k).2 lo hi ca = true) := hpl2
            clear hpl2 HV
            rw [HE.out]
            go_wp2_with fail
            go_roundw
            case rel => exact ⟨k + 1, last, at_, by omega, by omega, by omega, by go_num, rfl, by go_num, HF.out, HB1.out⟩
            case measure => simp [intOf]; omega
      · have h2i : ¬ (at_ : Int) < (plan.length : Int) := by omega
        have HDR : Hid (plan.drop at_ = []) := List.drop_eq_nil_of_le (by omega)
        have HV : Hid (rightB xss lo hi ca ls plan = (playP xss lo hi ca ls last k && rightR (playP xss lo hi ca ls) (ls.length - (k + 1)) (k + 1) last (plan.drop at_))) := by show _ = _; rw [HRB.out, HC1.out, HDR.out, rightR]
        have HBO := Lib.hid (ballsP_ok (f := last) HBE.out (show k ≤ ls.length by omega))
        clear HRB HDR
        go_wp2_with fail
        have hd : Below wr.heap.size wr wr.drew := (Below.refl _ _).drew
        replace HX := Lib.hid (HX.out.step hd)
        replace HL := Lib.hid (HL.out.step hd)
        replace HP := Lib.hid (HP.out.step hd)
        replace HI1 := Lib.hid (HI1.out.step hd)
        replace HI2 := Lib.hid (HI2.out.step hd)
        replace HB1 := Lib.hid (HB1.out.trans (hd.mono HB1.out.size))
        replace HB := Lib.hid (HB.out.trans (hd.mono HB.out.size))
        clear hd
        go_region_held3 (fun w' => w'.cell? ⟨w.heap.size, 0, none⟩ = some (.slice A xss.length c) ∧ w'.cell? ⟨w.heap.size, 1, none⟩ = some (.int .i64 lo) ∧ w'.cell? ⟨w.heap.size, 2, none⟩ = some (.int .i64 hi) ∧ w'.cell? ⟨w.heap.size, 3, none⟩ = some (.int .i64 ca) ∧ w'.cell? ⟨b, off + k * 2, none⟩ = some (.slice A1 (lx ls k).1.length c1) ∧ w'.cell? ⟨b, off + k * 2 + 1, none⟩ = some (.slice A2 (lx ls k).2.length c2)) (go_keep) (first | (go_at_call 81; refine (balls_c _ ls c' last k _ HL.out hlk (by omega) (by omega) hc').mono ?_; rintro e w3 ⟨A3, c3, rfl, hc3, g3, hb⟩; replace HX := Lib.hid (HX.out.step hb); replace HL := Lib.hid (HL.out.step hb); replace HP := Lib.hid (HP.out.step hb); replace HI1 := Lib.hid (HI1.out.step hb); replace HI2 := Lib.hid (HI2.out.step hb); replace k0 := cell_of_ans (below_drew_l hb) k0; replace k1 := cell_of_ans (below_drew_l hb) k1; replace k2 := cell_of_ans (below_drew_l hb) k2; replace k3 := cell_of_ans (below_drew_l hb) k3; replace j0 := cell_of_ans (below_drew_l hb) j0; replace j1 := cell_of_ans (below_drew_l hb) j1; replace HB1 := Lib.hid (HB1.out.trans (hb.mono HB1.out.size)); replace HB := Lib.hid (HB.out.trans (hb.mono HB.out.size)); clear hb; have Hg3 := Lib.hid g3; clear g3) | (go_at_call 38; refine (refPlayable_c A A3 A1 A2 xss _ (lx ls k).1 (lx ls k).2 c c3 c1 c2 lo hi ca _ HX.out Hg3.out HI1.out HI2.out HBO.out HLO.out).mono ?_; rintro e w4 ⟨rfl, hb⟩; replace HX := Lib.hid (HX.out.step hb); replace HL := Lib.hid (HL.out.step hb); replace HP := Lib.hid (HP.out.step hb); replace HI1 := Lib.hid (HI1.out.step hb); replace HI2 := Lib.hid (HI2.out.step hb); replace k0 := cell_of_ans hb k0; replace k1 := cell_of_ans hb k1; replace k2 := cell_of_ans hb k2; replace k3 := cell_of_ans hb k3; replace j0 := cell_of_ans hb j0; replace j1 := cell_of_ans hb j1; replace HB1 := Lib.hid (HB1.out.trans (hb.mono HB1.out.size)); replace Hg3 := Lib.hid (Hg3.out.step hb); replace HB := Lib.hid (HB.out.trans (hb.mono HB.out.size)); clear hb))
        cases hpl2 : playP xss lo hi ca ls last k
        · have HF : Hid (rightB xss lo hi ca ls plan = false) := by show _ = _; rw [HV.out, hpl2]; rfl
          have HE : Hid (refPlayB xss (ballsP ls last k) (lx ls k).1 (lx ls k).2 lo hi ca = false) := hpl2
          clear hpl2 HV
          rw [HE.out]
          go_wp2_with fail
          go_ret
          exact ⟨ret_bool HF.out.symm, HB.out⟩
        · have HF : Hid (rightB xss lo hi ca ls plan = rightR (playP xss lo hi ca ls) (ls.length - (k + 1)) (k + 1) last (plan.drop at_)) := by show _ = _; rw [HV.out, hpl2]; rfl
          have HE : Hid (refPlayB xss (ballsP ls last k) (lx ls k).1 (lx ls k).2 lo hi ca = true) := hpl2
          clear hpl2 HV
          rw [HE.out]
          go_wp2_with fail
          go_roundw
          case rel => exact ⟨k + 1, last, at_, by omega, by omega, by omega, by go_num, rfl, by go_num, HF.out, HB1.out⟩
          case measure => simp [intOf]; omega
    · obtain rfl : k = ls.length := by omega
      have HF : Hid (rightB xss lo hi ca ls plan = true) := by show _ = _; rw [HRB.out, Nat.sub_self]; rfl
      have hki : ¬ (ls.length : Int) < (ls.length : Int) := by omega
      clear HRB
      go_wp2_with fail
      go_ret
      exact ⟨ret_bool HF.out.symm, HB.out⟩
end

section

open Go.RowKit
set_option linter.unusedSimpArgs false
set_option linter.unusedVariables false

/-- What is held of spans from lines ahead of fr, and of those from fr on that end ahead of u. -/
def tabL (n : Nat) (hold : Nat → Nat → Bool) (fr u : Nat) : Nat → Nat → Bool := fun f t => (decide (f < fr ∧ f < t ∧ t ≤ n) || decide (f = fr ∧ f < t ∧ t < u)) && hold f t
theorem tabL_zero (n : Nat) (hold : Nat → Nat → Bool) : tabL n hold 0 1 = fun _ _ => false := by
  funext f t
  unfold tabL
  rw [decide_eq_false (by omega), decide_eq_false (by omega)]
  rfl
theorem tabL_put (n : Nat) (hold : Nat → Nat → Bool) (fr u : Nat) (h : fr < u) : updT (tabL n hold fr u) fr u (hold fr u) = tabL n hold fr (u + 1) := by
  funext f t
  unfold updT tabL
  by_cases e : f = fr ∧ t = u
  · obtain ⟨rfl, rfl⟩ := e
    rw [if_pos ⟨rfl, rfl⟩, decide_eq_true (show f = f ∧ f < t ∧ t < t + 1 by omega), Bool.or_true, Bool.true_and]
  · rw [if_neg e]
    congr 2
    exact decide_eq_decide.2 (by omega)
theorem tabL_next (n : Nat) (hold : Nat → Nat → Bool) (fr : Nat) : tabL n hold fr (n + 1) = tabL n hold (fr + 1) (fr + 2) := by
  funext f t
  unfold tabL
  congr 1
  refine Bool.eq_iff_iff.2 ?_
  simp only [Bool.or_eq_true, decide_eq_true_eq]
  omega
theorem tabL_all (n : Nat) (hold : Nat → Nat → Bool) (f t : Nat) (h1 : f < t) (h2 : t ≤ n) : tabL n hold n (n + 1) f t = hold f t := by
  unfold tabL
  rw [decide_eq_true (show f < n ∧ f < t ∧ t ≤ n by omega)]
  simp

def PlanP (w : World) (p : Option (List Int)) (e : Ending) (w' : World) : Prop :=
  match p with
  | some q => ∃ A c, e = .returned (.tuple #[.slice A q.length c, .int .i64 0]) ∧ OwnI w.heap.size w' (.slice A q.length c) q ∧ Below w.heap.size w w'
  | none => e = .returned (.tuple #[.slice none 0 0, .int .i64 9]) ∧ Below w.heap.size w w'
/-- The best plan of a block. -/
noncomputable def planB (xss : List (List Int)) (lo hi ca : Int) (ls : Lines) : Option (List Int) := planL ls.length (holdL xss lo hi ca ls)

set_option maxRecDepth 100000 in
set_option maxHeartbeats 4000000 in
theorem plan_bad (A A' : Option Addr) (xss : List (List Int)) (ls : Lines) (c c' : Nat) (lo hi ca : Int) (w : World) (hr : Grd w.heap.size w A xss) (hx : Lns w.heap.size w A' ls) (hc : xss.length ≤ c ∧ c ≤ 9223372036854775807) (hc' : ls.length ≤ c' ∧ c' ≤ 9223372036854775807) (hbe : blockErr xss lo hi ca ls ≠ 0) :
    Calls Try.prog 46 #[.agg #[.slice A xss.length c, .int .i64 lo, .int .i64 hi, .int .i64 ca], .slice A' ls.length c'] w (Ans w (.tuple #[.slice none 0 0, .int .i64 (blockErr xss lo hi ca ls)])) := by
  have hb0 : Below w.heap.size w (w.alloc (.cells #[.slice A xss.length c, .int .i64 lo, .int .i64 hi, .int .i64 ca] 34)) := (Below.refl _ _).alloc (Nat.le_refl _) _
  have HB := Lib.hid hb0
  have HBE := Lib.hid (block_c (B := (w.alloc (.cells #[.slice A xss.length c, .int .i64 lo, .int .i64 hi, .int .i64 ca] 34)).heap.size) A A' xss ls c c' lo hi ca _ (Nat.le_refl _) (hr.below hb0 |>.more hb0.size) (hx.step hb0) hc hc')
  have hbb : (blockErr xss lo hi ca ls != 0) = true := by simp [hbe]
  clear hr hx hb0 hbe
  go_enter Try.func46, Try.ntmps46
  go_wp2_with fail
  generalize w.alloc (.cells #[.slice A xss.length c, .int .i64 lo, .int .i64 hi, .int .i64 ca] 34) = W0 at *
  refine HBE.out.mono ?_
  rintro e w1 ⟨rfl, hb⟩
  go_wp2_with fail
  go_ret2
  exact ⟨rfl, HB.out.trans (hb.mono HB.out.size)⟩

set_option maxRecDepth 100000 in
set_option maxHeartbeats 16000000 in
theorem plan_ok (A A' : Option Addr) (xss : List (List Int)) (ls : Lines) (c c' : Nat) (lo hi ca : Int) (w : World) (hr : Grd w.heap.size w A xss) (hx : Lns w.heap.size w A' ls) (hc : xss.length ≤ c ∧ c ≤ 9223372036854775807) (hc' : ls.length ≤ c' ∧ c' ≤ 9223372036854775807) (hbe : blockErr xss lo hi ca ls = 0) :
    Calls Try.prog 46 #[.agg #[.slice A xss.length c, .int .i64 lo, .int .i64 hi, .int .i64 ca], .slice A' ls.length c'] w (PlanP w (planB xss lo hi ca ls)) := by
  obtain ⟨hle, hl20, hli⟩ := blockOk hbe
  have hb0 : Below w.heap.size w (w.alloc (.cells #[.slice A xss.length c, .int .i64 lo, .int .i64 hi, .int .i64 ca] 34)) := (Below.refl _ _).alloc (Nat.le_refl _) _
  have k0 : (w.alloc (.cells #[.slice A xss.length c, .int .i64 lo, .int .i64 hi, .int .i64 ca] 34)).cell? ⟨w.heap.size, 0, none⟩ = some (.slice A xss.length c) := by simp
  have k1 : (w.alloc (.cells #[.slice A xss.length c, .int .i64 lo, .int .i64 hi, .int .i64 ca] 34)).cell? ⟨w.heap.size, 1, none⟩ = some (.int .i64 lo) := by simp
  have k2 : (w.alloc (.cells #[.slice A xss.length c, .int .i64 lo, .int .i64 hi, .int .i64 ca] 34)).cell? ⟨w.heap.size, 2, none⟩ = some (.int .i64 hi) := by simp
  have k3 : (w.alloc (.cells #[.slice A xss.length c, .int .i64 lo, .int .i64 hi, .int .i64 ca] 34)).cell? ⟨w.heap.size, 3, none⟩ = some (.int .i64 ca) := by simp
  have HB := Lib.hid hb0
  have HR := Lib.hid (hr.below hb0 |>.more hb0.size)
  have HX := Lib.hid (hx.step hb0)
  have HWL : Hid (w.heap.size < (w.alloc (.cells #[.slice A xss.length c, .int .i64 lo, .int .i64 hi, .int .i64 ca] 34)).heap.size) := by show _ < _; simp
  have HBE := Lib.hid (block_c (B := (w.alloc (.cells #[.slice A xss.length c, .int .i64 lo, .int .i64 hi, .int .i64 ca] 34)).heap.size) A A' xss ls c c' lo hi ca _ (Nat.le_refl _) (hr.below hb0 |>.more hb0.size) (hx.step hb0) hc hc')
  rw [hbe] at HBE
  have HLE := Lib.hid hle
  have HLI := Lib.hid hli
  have HPB : Hid (planB xss lo hi ca ls = planFrom ls.length (holdL xss lo hi ca ls) 0 (ls.length + 1)) := rfl
  clear hr hx hb0 hbe hle hli
  go_enter Try.func46, Try.ntmps46
  go_wp2_with fail
  generalize w.alloc (.cells #[.slice A xss.length c, .int .i64 lo, .int .i64 hi, .int .i64 ca] 34) = W0 at *
  refine HBE.out.mono ?_
  rintro e w1 ⟨rfl, hb⟩
  replace k0 := cell_of_ans hb k0
  replace k1 := cell_of_ans hb k1
  replace k2 := cell_of_ans hb k2
  replace k3 := cell_of_ans hb k3
  replace HR := Lib.hid (HR.out.below hb |>.more hb.size)
  replace HX := Lib.hid (HX.out.step hb)
  replace HB := Lib.hid (HB.out.trans (hb.mono HB.out.size))
  replace HWL : Hid (w.heap.size < w1.heap.size) := Nat.lt_of_lt_of_le HWL.out hb.size
  clear hb HBE
  have hmm := @run_makeMap Try.prog
  go_upto_region 6 with fail
  have hl20' : ls.length ≤ 20 := hl20
  have hbW : Below w1.heap.size w1 (((w1.alloc (.cells #[.int .i64 (ls.length : Int)] 3)).alloc (.map #[] 0)).alloc (.cells #[.map (some (w1.heap.size + 1))] 113)) := (((Below.refl _ _).alloc (Nat.le_refl _) _).alloc (by simp) _).alloc (by simp; omega) _
  have cN : (((w1.alloc (.cells #[.int .i64 (ls.length : Int)] 3)).alloc (.map #[] 0)).alloc (.cells #[.map (some (w1.heap.size + 1))] 113)).cell? ⟨w1.heap.size, 0, none⟩ = some (.int .i64 (ls.length : Int)) := by go_simp
  have cH : (((w1.alloc (.cells #[.int .i64 (ls.length : Int)] 3)).alloc (.map #[] 0)).alloc (.cells #[.map (some (w1.heap.size + 1))] 113)).cell? ⟨w1.heap.size + 1 + 1, 0, none⟩ = some (.map (some (w1.heap.size + 1))) := by go_simp
  have hHd : Held (((w1.alloc (.cells #[.int .i64 (ls.length : Int)] 3)).alloc (.map #[] 0)).alloc (.cells #[.map (some (w1.heap.size + 1))] 113)) (w1.heap.size + 1) 0 (tabL ls.length (holdL xss lo hi ca ls) 0 1) := by
    rw [tabL_zero]
    have h := Held.made (w1.alloc (.cells #[.int .i64 (ls.length : Int)] 3))
    rw [World.size_alloc] at h
    exact h.step ((Below.refl _ _).alloc (Nat.le_refl _) _)
  have HSZ : Hid ((((w1.alloc (.cells #[.int .i64 (ls.length : Int)] 3)).alloc (.map #[] 0)).alloc (.cells #[.map (some (w1.heap.size + 1))] 113)).heap.size = w1.heap.size + 1 + 1 + 1) := by show _ = _; simp
  have HH := Lib.hid hHd
  have HBW := Lib.hid hbW
  replace k0 := cell_of_ans hbW k0
  replace k1 := cell_of_ans hbW k1
  replace k2 := cell_of_ans hbW k2
  replace k3 := cell_of_ans hbW k3
  have HBz : Hid (w.heap.size ≤ w1.heap.size ∧ w.heap.size < w1.heap.size) := ⟨HB.out.size, HWL.out⟩
  have HC78 : Hid (∀ (fr u : Nat), fr ≤ u → u ≤ ls.length → ∀ W, Below w1.heap.size w1 W → Calls Try.prog 78 #[.agg #[.slice A xss.length c, .int .i64 lo, .int .i64 hi, .int .i64 ca], .slice (subA A' c' fr) (u - fr) (c' - fr)] W (Ans W (.bool (holdL xss lo hi ca ls fr u)))) := fun fr u h1 h2 W hW => by
    have h := holds_c (B := W.heap.size) A (subA A' c' fr) xss (subL ls fr u) c (c' - fr) lo hi ca W (Nat.le_refl _) (HR.out.below hW |>.more hW.size) ((HX.out.step hW).sub h2 hc'.1) hc ⟨by rw [subL_len h2]; omega, by omega⟩ HLE.out (lines_sub HLI.out h2)
    rw [subL_len h2] at h
    exact h
  clear hHd hbW hmm HR HX
  generalize ((w1.alloc (.cells #[.int .i64 (ls.length : Int)] 3)).alloc (.map #[] 0)).alloc (.cells #[.map (some (w1.heap.size + 1))] 113) = W2 at *
  generalize hhold : holdL xss lo hi ca ls = hold at *
  go_wp2_with fail
  go_loopw [25] (fun i wr => ∃ fr cnt : Nat, fr ≤ ls.length ∧ i = .int .i64 (fr : Int) ∧ Held wr (w1.heap.size + 1) cnt (tabL ls.length hold fr (fr + 1)) ∧ cnt ≤ fr * 21 ∧ KpG W2.heap.size (w1.heap.size + 1) W2 wr) (fun i _ => ls.length - (intOf i).toNat)
  case atStart => exact ⟨0, 0, by omega, rfl, HH.out, by omega, KpG.refl _ _ _⟩
  case round =>
    obtain ⟨fr, cnt, hfr, rfl, hh, hcnt, hk⟩ := hrel
    have HH1 := Lib.hid hh
    have HK1 := Lib.hid hk
    clear hh hk
    by_cases h1 : fr < ls.length
    · have h1i : (fr : Int) < (ls.length : Int) := by omega
      have hw1 : IntKind.i64.wrap ((fr : Int) + 1) = (fr : Int) + 1 := IntWalk.i64_in _ (by omega)
      go_wp2_with fail
      go_loopw [10] (fun i wr' => ∃ u cnt' : Nat, fr < u ∧ u ≤ ls.length + 1 ∧ i = .int .i64 (u : Int) ∧ Held wr' (w1.heap.size + 1) cnt' (tabL ls.length hold fr u) ∧ cnt' ≤ fr * 21 + u ∧ KpG W2.heap.size (w1.heap.size + 1) W2 wr') (fun i _ => ls.length + 1 - (intOf i).toNat)
      case atStart => exact ⟨fr + 1, cnt, by omega, by omega, by go_num, HH1.out, by omega, HK1.out⟩
      case round =>
        obtain ⟨u, cnt2, hfu, hun, rfl, hh, hcnt2, hk⟩ := hrel
        have HH2 := Lib.hid hh
        have HK2 := Lib.hid hk
        have hsz := HSZ.out
        have hbz := HBz.out
        have dN := hk.cell cN (by dsimp only; omega) (by dsimp only; omega)
        have dH := hk.cell cH (by dsimp only; omega) (by dsimp only; omega)
        have d0 := hk.cell k0 (by dsimp only; omega) (by dsimp only; omega)
        have d1 := hk.cell k1 (by dsimp only; omega) (by dsimp only; omega)
        have d2 := hk.cell k2 (by dsimp only; omega) (by dsimp only; omega)
        have d3 := hk.cell k3 (by dsimp only; omega) (by dsimp only; omega)
        have HBK : Hid (Below w1.heap.size w1 wr) := HBW.out.trans (hk.below (by omega) (by omega))
        clear hh hk hsz hbz
        by_cases h2 : u ≤ ls.length
        · have h2i : (u : Int) ≤ (ls.length : Int) := by omega
          have hsl : ∀ W, (Instr.slice 70 (.slice A' ls.length c') (some (.int .i64 (fr : Int))) (some (.int .i64 (u : Int))) none).run Try.prog W = .ok (.slice (subA A' c' fr) (u - fr) (c' - fr)) W := fun W => slice70 W A' ls.length c' fr u (by omega) (by omega)
          have HPUT := Lib.hid (tabL_put ls.length hold fr u hfu)
          have H78 := Lib.hid (HC78.out fr u (by omega) h2)
          have hcm : cnt2 ≤ 1000000 := by omega
          have hf21 : fr ≤ 21 := by omega
          have hu21 : u ≤ 21 := by omega
          have HBD : Hid (Below w1.heap.size w1 wr.drew) := HBK.out.drew
          go_wp2_with fail
          refine wp_region_noPanic ?_
          have hS : (fun w' : World => w'.cell? ⟨w1.heap.size + 1 + 1, 0, none⟩ = some (.map (some (w1.heap.size + 1))) ∧ w'.cell? ⟨w.heap.size, 0, none⟩ = some (.slice A xss.length c) ∧ w'.cell? ⟨w.heap.size, 1, none⟩ = some (.int .i64 lo) ∧ w'.cell? ⟨w.heap.size, 2, none⟩ = some (.int .i64 hi) ∧ w'.cell? ⟨w.heap.size, 3, none⟩ = some (.int .i64 ca)) wr.drew := ⟨dH, d0, d1, d2, d3⟩
          refine wp_region_any (by kernel_rfl) (wpAny_of_T (S := fun w' : World => w'.cell? ⟨w1.heap.size + 1 + 1, 0, none⟩ = some (.map (some (w1.heap.size + 1))) ∧ w'.cell? ⟨w.heap.size, 0, none⟩ = some (.slice A xss.length c) ∧ w'.cell? ⟨w.heap.size, 1, none⟩ = some (.int .i64 lo) ∧ w'.cell? ⟨w.heap.size, 2, none⟩ = some (.int .i64 hi) ∧ w'.cell? ⟨w.heap.size, 3, none⟩ = some (.int .i64 ca)) (m := 10) _ _ _ _ ?_)
          refine' T_take (i := 0) (v := _) rfl (by kernel_rfl) (by kernel_rfl) (by kernel_rfl) (by kernel_rfl) (fun _ _ _ h => h) (by kernel_rfl) hS ?_ ?_
          rotate_left 1
          · intro Wv hW
            obtain ⟨s4, s0, s1, s2, s3⟩ := hW
            go_simp
            first | done | with_reducible rfl
          try simp only [Act.put, List.setIfInBounds_toArray, List.set_cons_zero, List.set_cons_succ]
          refine' T_take (i := 1) (v := _) rfl (by kernel_rfl) (by kernel_rfl) (by kernel_rfl) (by kernel_rfl) (fun _ _ _ h => h) (by kernel_rfl) hS ?_ ?_
          rotate_left 1
          · intro Wv hW
            obtain ⟨s4, s0, s1, s2, s3⟩ := hW
            go_simp
            first | done | with_reducible rfl
          try simp only [Act.put, List.setIfInBounds_toArray, List.set_cons_zero, List.set_cons_succ]
          refine' T_take (i := 2) (v := _) rfl (by kernel_rfl) (by kernel_rfl) (by kernel_rfl) (by kernel_rfl) (fun _ _ _ h => h) (by kernel_rfl) hS ?_ ?_
          rotate_left 1
          · intro Wv hW
            obtain ⟨s4, s0, s1, s2, s3⟩ := hW
            go_simp
            first | done | with_reducible rfl
          try simp only [Act.put, List.setIfInBounds_toArray, List.set_cons_zero, List.set_cons_succ]
          refine' T_take (i := 3) (v := _) rfl (by kernel_rfl) (by kernel_rfl) (by kernel_rfl) (by kernel_rfl) (fun _ _ _ h => h) (by kernel_rfl) hS ?_ ?_
          rotate_left 1
          · intro Wv hW
            obtain ⟨s4, s0, s1, s2, s3⟩ := hW
            go_simp
            first | done | with_reducible rfl
          try simp only [Act.put, List.setIfInBounds_toArray, List.set_cons_zero, List.set_cons_succ]
          refine' T_take (i := 4) (v := _) rfl (by kernel_rfl) (by kernel_rfl) (by kernel_rfl) (by kernel_rfl) (fun _ _ _ h => h) (by kernel_rfl) hS ?_ ?_
          rotate_left 1
          · intro Wv hW
            obtain ⟨s4, s0, s1, s2, s3⟩ := hW
            go_simp
            first | done | with_reducible rfl
          try simp only [Act.put, List.setIfInBounds_toArray, List.set_cons_zero, List.set_cons_succ]
          refine' T_take (i := 5) (v := _) rfl (by kernel_rfl) (by kernel_rfl) (by kernel_rfl) (by kernel_rfl) (fun _ _ _ h => h) (by kernel_rfl) hS ?_ ?_
          rotate_left 1
          · intro Wv hW
            obtain ⟨s4, s0, s1, s2, s3⟩ := hW
            go_simp
            first | done | with_reducible rfl
          try simp only [Act.put, List.setIfInBounds_toArray, List.set_cons_zero, List.set_cons_succ]
          refine' T_take (i := 6) (v := _) rfl (by kernel_rfl) (by kernel_rfl) (by kernel_rfl) (by kernel_rfl) (fun _ _ _ h => h) (by kernel_rfl) hS ?_ ?_
          rotate_left 1
          · intro Wv hW
            obtain ⟨s4, s0, s1, s2, s3⟩ := hW
            go_simp
            first | done | with_reducible rfl
          try simp only [Act.put, List.setIfInBounds_toArray, List.set_cons_zero, List.set_cons_succ]
          refine' T_take (i := 7) (v := _) rfl (by kernel_rfl) (by kernel_rfl) (by kernel_rfl) (by kernel_rfl) (fun _ _ _ h => h) (by kernel_rfl) hS ?_ ?_
          rotate_left 1
          · intro Wv hW
            obtain ⟨s4, s0, s1, s2, s3⟩ := hW
            go_simp
            first | done | with_reducible rfl
          try simp only [Act.put, List.setIfInBounds_toArray, List.set_cons_zero, List.set_cons_succ]
          refine' T_take (i := 8) (v := _) rfl (by kernel_rfl) (by kernel_rfl) (by kernel_rfl) (by kernel_rfl) (fun _ _ _ h => h) (by kernel_rfl) hS ?_ ?_
          rotate_left 1
          · intro Wv hW
            obtain ⟨s4, s0, s1, s2, s3⟩ := hW
            go_simp
            first | done | with_reducible rfl
          try simp only [Act.put, List.setIfInBounds_toArray, List.set_cons_zero, List.set_cons_succ]
          refine T_ready (rs := [9]) (by kernel_rfl) (by simp) ?_
          refine TReady.cons rfl (fun K hK => ?_) TReady.nil
          try go_simp
          refine (H78.out _ HBD.out).mono ?_
          rintro e w6 ⟨rfl, hb⟩
          have HH6 := Lib.hid ((HH2.out.step (Below.refl _ _).drew).step hb)
          have HK6 : Hid (KpG W2.heap.size (w1.heap.size + 1) W2 w6) := HK2.out.trans (KpG.of_grown (only_below (below_drew_l hb) _) HK2.out.1)
          try go_simp
          refine hK.out _ _ (fun _ => ⟨cell_of_ans hb hS.1, cell_of_ans hb hS.2.1, cell_of_ans hb hS.2.2.1, cell_of_ans hb hS.2.2.2.1, cell_of_ans hb hS.2.2.2.2⟩) (fun hS => ?_)
          replace hS := hS (by decide)
          clear hK K
          try simp only [Act.put, List.setIfInBounds_toArray, List.set_cons_zero, List.set_cons_succ]
          clear hb
          refine T_ready (rs := [10]) (by kernel_rfl) (by simp) ?_
          refine TReady.cons rfl (fun K hK => ?_) TReady.nil
          refine step_held (.tmp 35) (.tmp 38) (.tmp 44) rfl rfl w6 (w1.heap.size + 1) cnt2 (tabL ls.length hold fr u) fr u (hold fr u) rfl rfl rfl HH6.out hcm hf21 hu21 ?_
          intro w7 HH7 HG7
          have HK7 : Hid (KpG W2.heap.size (w1.heap.size + 1) W2 w7) := HK6.out.trans (KpG.of_grown HG7.out HK6.out.1)
          refine hK.out _ _ (fun h => absurd h (by decide)) (fun _ => ?_)
          clear hK K
          try simp only [Act.put, List.setIfInBounds_toArray, List.set_cons_zero, List.set_cons_succ]
          refine T_done (by kernel_rfl) ?_ _
          refine NoPanic.normal ?_
          go_wp2_with fail
          go_roundw
          case rel => exact ⟨u + 1, cnt2 + 1, by omega, by omega, by go_num, by rw [← HPUT.out]; exact HH7.out, by omega, HK7.out⟩
          case measure => simp [intOf]; omega
        · obtain rfl : u = ls.length + 1 := by omega
          have h2i : ¬ (((ls.length + 1 : Nat) : Int)) ≤ (ls.length : Int) := by omega
          have HN := Lib.hid (tabL_next ls.length hold fr)
          go_wp2_with fail
          go_roundw
          case rel => exact ⟨fr + 1, cnt2, by omega, by go_num, by rw [← HN.out]; exact HH2.out, by omega, HK2.out⟩
          case measure => simp [intOf]; omega
    · obtain rfl : fr = ls.length := by omega
      have h1i : ¬ (ls.length : Int) < (ls.length : Int) := by omega
      have hsz := HSZ.out
      have hbz := HBz.out
      have dN := HK1.out.cell cN (by dsimp only; omega) (by dsimp only; omega)
      have dH := HK1.out.cell cH (by dsimp only; omega) (by dsimp only; omega)
      have HBK : Hid (Below w1.heap.size w1 wr) := HBW.out.trans (HK1.out.below (by omega) (by omega))
      have hHA : ∀ f t, f < t → t ≤ ls.length → tabL ls.length hold ls.length (ls.length + 1) f t = hold f t := tabL_all ls.length hold
      have HHA := Lib.hid hHA
      clear hsz hbz hHA
      go_upto_region 16 with fail
      have hb5 : Below wr.heap.size wr (wr.alloc (.cells #[.func (.func 80) #[] #[.pointer (some ⟨w1.heap.size, 0, none⟩), .pointer (some ⟨w1.heap.size + 1 + 1, 0, none⟩), .pointer (some ⟨wr.heap.size, 0, none⟩)]] 116)) := (Below.refl _ _).alloc (Nat.le_refl _) _
      have hE : PEnv (wr.alloc (.cells #[.func (.func 80) #[] #[.pointer (some ⟨w1.heap.size, 0, none⟩), .pointer (some ⟨w1.heap.size + 1 + 1, 0, none⟩), .pointer (some ⟨wr.heap.size, 0, none⟩)]] 116)) ls.length w1.heap.size (w1.heap.size + 1 + 1) wr.heap.size (w1.heap.size + 1) (tabL ls.length hold ls.length (ls.length + 1)) :=
        ⟨cell_of_ans hb5 dN, cell_of_ans hb5 dH, by simp, cnt, HH1.out.step hb5⟩
      have HE := Lib.hid hE
      have HB5 : Hid (Below w1.heap.size w1 (wr.alloc (.cells #[.func (.func 80) #[] #[.pointer (some ⟨w1.heap.size, 0, none⟩), .pointer (some ⟨w1.heap.size + 1 + 1, 0, none⟩), .pointer (some ⟨wr.heap.size, 0, none⟩)]] 116))) := HBK.out.trans (hb5.mono HBK.out.size)
      have HREST : Hid (∀ (m : Nat) (W : World), m ≤ 20 → PEnv W ls.length w1.heap.size (w1.heap.size + 1 + 1) wr.heap.size (w1.heap.size + 1) (tabL ls.length hold ls.length (ls.length + 1)) → Calls Try.prog 80 #[.int .i64 0, .int .i64 (m : Int), .pointer (some ⟨w1.heap.size, 0, none⟩), .pointer (some ⟨w1.heap.size + 1 + 1, 0, none⟩), .pointer (some ⟨wr.heap.size, 0, none⟩)] W (RPost W (restL ls.length hold m 0))) := fun m W hm hE => rest_c ls.length _ _ _ _ _ hold hl20 HHA.out m 0 W hm (Nat.zero_le _) hE
      obtain ⟨e1, e2, e3, _⟩ := hE
      clear hb5 dN dH HBK HHA HH1 HK1
      generalize wr.alloc (.cells #[.func (.func 80) #[] #[.pointer (some ⟨w1.heap.size, 0, none⟩), .pointer (some ⟨w1.heap.size + 1 + 1, 0, none⟩), .pointer (some ⟨wr.heap.size, 0, none⟩)]] 116) = W5 at *
      generalize wr.heap.size = gR at *
      have hw1 : IntKind.i64.wrap ((ls.length : Int) + 1) = (ls.length : Int) + 1 := IntWalk.i64_in _ (by omega)
      go_wp2_with fail
      go_loopw [49] (fun i wr => ∃ m : Nat, m ≤ ls.length + 1 ∧ i = .int .i64 (m : Int) ∧ planB xss lo hi ca ls = planFrom ls.length hold m (ls.length + 1 - m) ∧ Below W5.heap.size W5 wr) (fun i _ => ls.length + 1 - (intOf i).toNat)
      case atStart => exact ⟨0, by omega, rfl, HPB.out, Below.refl _ _⟩
      case round =>
        obtain ⟨m, hm, rfl, hpl, hb⟩ := hrel
        have HPL := Lib.hid hpl
        have HBB := Lib.hid hb
        have c1 := cell_of_ans hb e1
        have c2 := cell_of_ans hb e2
        have c3 := cell_of_ans hb e3
        have HE6 := Lib.hid (HE.out.step hb)
        clear hpl hb
        by_cases h3 : m < ls.length + 1
        · have h3i : (m : Int) < (ls.length : Int) + 1 := by omega
          have HST : Hid (planFrom ls.length hold m (ls.length + 1 - m) = match restL ls.length hold m 0 with
            | some p => some p
            | none => planFrom ls.length hold (m + 1) (ls.length + 1 - (m + 1))) := by
            show _ = _
            rw [show ls.length + 1 - m = (ls.length + 1 - (m + 1)) + 1 by omega, planFrom]
            all_goals rfl
          have HC := Lib.hid (HREST.out m wr (by omega) HE6.out)
          cases hr : restL ls.length hold m 0 with
          | none =>
            have HN : Hid (planB xss lo hi ca ls = planFrom ls.length hold (m + 1) (ls.length + 1 - (m + 1))) := by show _ = _; rw [HPL.out, HST.out, hr]
            rw [hr] at HC
            clear hr
            go_wp2_with fail
            refine HC.out.mono ?_
            rintro e w8 ⟨rfl, hb8⟩
            have HB8 := Lib.hid hb8
            clear hb8
            go_wp2_with fail
            go_roundw
            case rel => exact ⟨m + 1, by omega, by go_num, HN.out, HBB.out.trans (HB8.out.mono HBB.out.size)⟩
            case measure => simp [intOf]; omega
          | some q =>
            have HN : Hid (planB xss lo hi ca ls = some q) := by show _ = _; rw [HPL.out, HST.out, hr]
            rw [hr] at HC
            clear hr
            go_wp2_with fail
            refine HC.out.mono ?_
            rintro e w8 ⟨Aq, cq, rfl, ho, hb8⟩
            have HO := Lib.hid ho
            have HB8 := Lib.hid hb8
            clear hb8 ho
            go_wp2_with fail
            go_ret2
            rw [HN.out]
            have z1 := HB.out.size
            have z2 := HB5.out.size
            have z3 := HBB.out.size
            exact ⟨Aq, cq, rfl, ownsRow_base HO.out (by omega), (HB.out.trans (HB5.out.mono z1)).trans ((HBB.out.mono (by omega)).trans (HB8.out.mono (by omega)))⟩
        · obtain rfl : m = ls.length + 1 := by omega
          have h3i : ¬ ((ls.length + 1 : Nat) : Int) < (ls.length : Int) + 1 := by omega
          have HN : Hid (planB xss lo hi ca ls = none) := by show _ = _; rw [HPL.out, Nat.sub_self]; rfl
          go_wp2_with fail
          go_ret2
          rw [HN.out]
          have z1 := HB.out.size
          have z2 := HB5.out.size
          exact ⟨rfl, (HB.out.trans (HB5.out.mono z1)).trans (HBB.out.mono (by omega))⟩
end

section

open Go.RowKit
set_option linter.unusedSimpArgs false
set_option linter.unusedVariables false

theorem bitsF_len : ∀ (k b i : Nat), (bitsF b i k).length ≤ k
  | 0, _, _ => Nat.le_refl _
  | k + 1, b, i => by
    have := bitsF_len k (b / 2) (i + 1)
    unfold bitsF
    split
    · simp only [List.length_cons]; omega
    · omega
theorem bit_test (b j : Nat) : (((b : Int) / 2 ^ j).tmod 2 == 1) = decide (b / 2 ^ j % 2 = 1) := by
  have h : ((b : Int) / 2 ^ j) = ((b / 2 ^ j : Nat) : Int) := by rw [Int.natCast_ediv, Int.natCast_pow]; rfl
  rw [h, Int.tmod_eq_emod_of_nonneg (Int.natCast_nonneg _)]
  generalize b / 2 ^ j = x
  exact Bool.eq_iff_iff.2 (by simp; omega)

set_option maxRecDepth 100000 in
set_option maxHeartbeats 16000000 in
theorem refPlan_c (A A' : Option Addr) (xss : List (List Int)) (ls : Lines) (c c' : Nat) (lo hi ca : Int) (w : World) (hr : Grd w.heap.size w A xss) (hx : Lns w.heap.size w A' ls) (hc : xss.length ≤ c ∧ c ≤ 9223372036854775807) (hc' : ls.length ≤ c' ∧ c' ≤ 9223372036854775807) (hbe : blockErr xss lo hi ca ls = 0) (h7 : ls.length ≤ 7) :
    Calls Try.prog 49 #[.agg #[.slice A xss.length c, .int .i64 lo, .int .i64 hi, .int .i64 ca], .slice A' ls.length c'] w (RPost w (bestB xss lo hi ca ls)) := by
  have hb0 : Below w.heap.size w (w.alloc (.cells #[.slice A xss.length c, .int .i64 lo, .int .i64 hi, .int .i64 ca] 26)) := (Below.refl _ _).alloc (Nat.le_refl _) _
  have k0 : (w.alloc (.cells #[.slice A xss.length c, .int .i64 lo, .int .i64 hi, .int .i64 ca] 26)).cell? ⟨w.heap.size, 0, none⟩ = some (.slice A xss.length c) := by simp
  have k1 : (w.alloc (.cells #[.slice A xss.length c, .int .i64 lo, .int .i64 hi, .int .i64 ca] 26)).cell? ⟨w.heap.size, 1, none⟩ = some (.int .i64 lo) := by simp
  have k2 : (w.alloc (.cells #[.slice A xss.length c, .int .i64 lo, .int .i64 hi, .int .i64 ca] 26)).cell? ⟨w.heap.size, 2, none⟩ = some (.int .i64 hi) := by simp
  have k3 : (w.alloc (.cells #[.slice A xss.length c, .int .i64 lo, .int .i64 hi, .int .i64 ca] 26)).cell? ⟨w.heap.size, 3, none⟩ = some (.int .i64 ca) := by simp
  have HR := Lib.hid (hr.step hb0)
  have HX := Lib.hid (hx.step hb0)
  have HB := Lib.hid hb0
  have HBE := Lib.hid hbe
  clear hr hx hb0 hbe
  obtain ⟨N, hN⟩ : ∃ N : Nat, N = 2 ^ (ls.length - 1) := ⟨_, rfl⟩
  have hif : (if (1 : Int) < (ls.length : Int) then (ls.length : Int) - 1 else 0) = ((ls.length - 1 : Nat) : Int) := by split <;> omega
  have hW : wrap64 ((2 : Int) ^ (ls.length - 1)) = (N : Int) := by
    rw [hN]
    rcases (by omega : ls.length = 0 ∨ ls.length = 1 ∨ ls.length = 2 ∨ ls.length = 3 ∨ ls.length = 4 ∨ ls.length = 5 ∨ ls.length = 6 ∨ ls.length = 7) with h | h | h | h | h | h | h | h <;> rw [h] <;> decide +kernel
  have hN64 : N ≤ 64 := by
    rw [hN]
    exact Nat.pow_le_pow_right (n := 2) (j := 6) (by omega) (by omega)
  have HN := Lib.hid hN
  have HBB : Hid (bestB xss lo hi ca ls = bestL ls.length (rightB xss lo hi ca ls) N) := by show _ = _; rw [hN]; rfl
  clear hN
  go_enter Try.func49, Try.ntmps49
  go_wp2_with fail
  generalize w.alloc (.cells #[.slice A xss.length c, .int .i64 lo, .int .i64 hi, .int .i64 ca] 26) = W0 at *
  go_loopw [8, 6, 7] (fun i v f wr => ∃ (b : Nat), b ≤ N ∧ i = .int .i64 (b : Int) ∧ (match bestL ls.length (rightB xss lo hi ca ls) b with
    | none => v = .slice none 0 0 ∧ f = .bool false
    | some q => f = .bool true ∧ ∃ Aq cq, v = .slice Aq q.length cq ∧ OwnI W0.heap.size wr (.slice Aq q.length cq) q) ∧ Below W0.heap.size W0 wr) (fun i _ _ _ => N - (intOf i).toNat)
  case atStart => exact ⟨0, Nat.zero_le _, rfl, ⟨rfl, rfl⟩, Below.refl _ _⟩
  case round =>
    obtain ⟨b, hb, rfl, hm, hbr⟩ := hrel
    have HBR := Lib.hid hbr
    clear hbr
    by_cases h1 : b < N
    · have h1i : (b : Int) < (N : Int) := by omega
      cases hbl : bestL ls.length (rightB xss lo hi ca ls) b with
      | none =>
        rw [hbl] at hm
        obtain ⟨rfl, rfl⟩ := hm
        have HST : Hid (bestL ls.length (rightB xss lo hi ca ls) (b + 1) = if rightB xss lo hi ca ls (bitsF b 1 (ls.length - 1)) then some (bitsF b 1 (ls.length - 1)) else none) := by show _ = _; rw [bestL, hbl]
        clear hbl
        go_wp2_with fail
        rename World => wo
        go_loopw [9, 10] (fun v i wr' => ∃ (k : Nat) (Av : Option Addr) (cv : Nat), 1 ≤ k ∧ k ≤ max 1 ls.length ∧ i = .int .i64 (k : Int) ∧ v = .slice Av (bitsF b 1 (k - 1)).length cv ∧ OwnI wo.heap.size wr' (.slice Av (bitsF b 1 (k - 1)).length cv) (bitsF b 1 (k - 1)) ∧ Below wo.heap.size wo wr') (fun _ i _ => 8 - (intOf i).toNat)
        case atStart => exact ⟨1, none, 0, by omega, by omega, rfl, rfl, OwnI.nil _ _, Below.refl _ _⟩
        case round =>
          obtain ⟨k, Av, cv, hk1, hkn, rfl, rfl, ho, hbk⟩ := hrel
          have HO := Lib.hid ho
          have HBK := Lib.hid hbk
          have hzk := hbk.size
          have HT := Lib.hid (bit_test b (k - 1))
          have HSN := Lib.hid (bitsF_snoc (k - 1) b 1)
          clear ho hbk hif hW
          by_cases h2 : k < ls.length
          · have h2i : (k : Int) < (ls.length : Int) := by omega
            have hw1 : IntKind.i64.wrap ((k : Int) + 1) = (k : Int) + 1 := IntWalk.i64_in _ (by omega)
            have hlen : (bitsF b 1 (k - 1)).length ≤ 1000000 := by have := bitsF_len (k - 1) b 1; omega
            by_cases hbit : b / 2 ^ (k - 1) % 2 = 1
            · have ht : (((b : Int) / 2 ^ (k - 1)).tmod 2 == 1) = true := by rw [HT.out]; exact decide_eq_true hbit
              have HX2 : Hid (bitsF b 1 (k + 1 - 1) = bitsF b 1 (k - 1) ++ [(k : Int)]) := by
                show _ = _
                rw [show k + 1 - 1 = (k - 1) + 1 by omega, HSN.out, if_pos hbit, show 1 + (k - 1) = k by omega]
              clear hbit HT HSN
              generalize bitsF b 1 (k - 1) = xs at *
              go_wp2_with (at_builtin; refine wpList_app_int (.tmp 34) (.tmp 36) rfl rfl wo.heap.size wr _ xs (k : Int) rfl rfl HO hlen hzk ?_; intro As cs w3 HO3 HB3)
              go_roundw
              case rel => exact ⟨k + 1, As, cs, by omega, by omega, by go_num, by rw [HX2.out, List.length_append]; rfl, by rw [HX2.out, List.length_append]; exact HO3.out, HBK.out.trans HB3.out⟩
              case measure => simp [intOf]; omega
            · have ht : (((b : Int) / 2 ^ (k - 1)).tmod 2 == 1) = false := by rw [HT.out]; exact decide_eq_false hbit
              have HX2 : Hid (bitsF b 1 (k + 1 - 1) = bitsF b 1 (k - 1)) := by
                show _ = _
                rw [show k + 1 - 1 = (k - 1) + 1 by omega, HSN.out, if_neg hbit, List.append_nil]
              clear hbit HT HSN
              generalize bitsF b 1 (k - 1) = xs at *
              go_wp2_with fail
              go_roundw
              case rel => exact ⟨k + 1, Av, cv, by omega, by omega, by go_num, by rw [HX2.out], by rw [HX2.out]; exact HO.out, HBK.out⟩
              case measure => simp [intOf]; omega
          · have h2i : ¬ (k : Int) < (ls.length : Int) := by omega
            have hkk : k - 1 = ls.length - 1 := by omega
            have hlen : (bitsF b 1 (k - 1)).length ≤ 10 := by have := bitsF_len (k - 1) b 1; omega
            rw [hkk] at HO hlen ⊢
            clear HT HSN hkk
            generalize bitsF b 1 (ls.length - 1) = xs at *
            have hw2 : IntKind.i64.wrap ((b : Int) + 1) = (b : Int) + 1 := IntWalk.i64_in _ (by omega)
            obtain ⟨hcv1, hcv2, hxs⟩ := isInts_parts HO.out.isInts
            have HXS := Lib.hid hxs
            have HBA : Hid (Below W0.heap.size W0 wr) := HBR.out.trans (HBK.out.mono HBR.out.size)
            have hw0 := HBR.out.size
            clear hxs
            have H48 := Lib.hid (right_c A A' Av xss ls xs c c' cv lo hi ca wr (HR.out.step HBA.out) (HX.out.step HBA.out) HXS.out hc hc' ⟨hcv1, hcv2⟩ (by omega) HBE.out)
            have d0 := cell_of_ans HBA.out k0
            have d1 := cell_of_ans HBA.out k1
            have d2 := cell_of_ans HBA.out k2
            have d3 := cell_of_ans HBA.out k3
            cases hrb : rightB xss lo hi ca ls xs
            · have HF : Hid (bestL ls.length (rightB xss lo hi ca ls) (b + 1) = none) := by show _ = _; rw [HST.out, hrb]; rfl
              rw [hrb] at H48
              clear hrb HST
              go_wp2_with fail
              refine H48.out.mono ?_
              rintro e w5 ⟨rfl, hb5⟩
              have HB5 := Lib.hid hb5
              clear hb5
              go_wp2_with fail
              go_roundw
              case rel => exact ⟨b + 1, by omega, by go_num, by rw [HF.out]; exact ⟨rfl, rfl⟩, HBA.out.trans (HB5.out.mono HBA.out.size)⟩
              case measure => simp [intOf]; omega
            · have HF : Hid (bestL ls.length (rightB xss lo hi ca ls) (b + 1) = some xs) := by show _ = _; rw [HST.out, hrb]; rfl
              rw [hrb] at H48
              clear hrb HST
              go_wp2_with fail
              refine H48.out.mono ?_
              rintro e w5 ⟨rfl, hb5⟩
              have HB5 := Lib.hid hb5
              clear hb5
              go_wp2_with fail
              go_roundw
              case rel => exact ⟨b + 1, by omega, by go_num, by rw [HF.out]; exact ⟨rfl, Av, cv, rfl, ownsRow_base (HO.out.kept HB5.out) hw0⟩, HBA.out.trans (HB5.out.mono HBA.out.size)⟩
              case measure => simp [intOf]; omega
      | some q =>
        rw [hbl] at hm
        obtain ⟨rfl, Aq, cq, rfl, hoq⟩ := hm
        have HOQ := Lib.hid hoq
        have HST : Hid (bestL ls.length (rightB xss lo hi ca ls) (b + 1) = if lessI (bitsF b 1 (ls.length - 1)) q && rightB xss lo hi ca ls (bitsF b 1 (ls.length - 1)) then some (bitsF b 1 (ls.length - 1)) else some q) := by show _ = _; rw [bestL, hbl]
        clear hbl hoq
        go_wp2_with fail
        rename World => wo
        go_loopw [9, 10] (fun v i wr' => ∃ (k : Nat) (Av : Option Addr) (cv : Nat), 1 ≤ k ∧ k ≤ max 1 ls.length ∧ i = .int .i64 (k : Int) ∧ v = .slice Av (bitsF b 1 (k - 1)).length cv ∧ OwnI wo.heap.size wr' (.slice Av (bitsF b 1 (k - 1)).length cv) (bitsF b 1 (k - 1)) ∧ Below wo.heap.size wo wr') (fun _ i _ => 8 - (intOf i).toNat)
        case atStart => exact ⟨1, none, 0, by omega, by omega, rfl, rfl, OwnI.nil _ _, Below.refl _ _⟩
        case round =>
          obtain ⟨k, Av, cv, hk1, hkn, rfl, rfl, ho, hbk⟩ := hrel
          have HO := Lib.hid ho
          have HBK := Lib.hid hbk
          have hzk := hbk.size
          have HT := Lib.hid (bit_test b (k - 1))
          have HSN := Lib.hid (bitsF_snoc (k - 1) b 1)
          clear ho hbk hif hW
          by_cases h2 : k < ls.length
          · have h2i : (k : Int) < (ls.length : Int) := by omega
            have hw1 : IntKind.i64.wrap ((k : Int) + 1) = (k : Int) + 1 := IntWalk.i64_in _ (by omega)
            have hlen : (bitsF b 1 (k - 1)).length ≤ 1000000 := by have := bitsF_len (k - 1) b 1; omega
            by_cases hbit : b / 2 ^ (k - 1) % 2 = 1
            · have ht : (((b : Int) / 2 ^ (k - 1)).tmod 2 == 1) = true := by rw [HT.out]; exact decide_eq_true hbit
              have HX2 : Hid (bitsF b 1 (k + 1 - 1) = bitsF b 1 (k - 1) ++ [(k : Int)]) := by
                show _ = _
                rw [show k + 1 - 1 = (k - 1) + 1 by omega, HSN.out, if_pos hbit, show 1 + (k - 1) = k by omega]
              clear hbit HT HSN
              generalize bitsF b 1 (k - 1) = xs at *
              go_wp2_with (at_builtin; refine wpList_app_int (.tmp 34) (.tmp 36) rfl rfl wo.heap.size wr _ xs (k : Int) rfl rfl HO hlen hzk ?_; intro As cs w3 HO3 HB3)
              go_roundw
              case rel => exact ⟨k + 1, As, cs, by omega, by omega, by go_num, by rw [HX2.out, List.length_append]; rfl, by rw [HX2.out, List.length_append]; exact HO3.out, HBK.out.trans HB3.out⟩
              case measure => simp [intOf]; omega
            · have ht : (((b : Int) / 2 ^ (k - 1)).tmod 2 == 1) = false := by rw [HT.out]; exact decide_eq_false hbit
              have HX2 : Hid (bitsF b 1 (k + 1 - 1) = bitsF b 1 (k - 1)) := by
                show _ = _
                rw [show k + 1 - 1 = (k - 1) + 1 by omega, HSN.out, if_neg hbit, List.append_nil]
              clear hbit HT HSN
              generalize bitsF b 1 (k - 1) = xs at *
              go_wp2_with fail
              go_roundw
              case rel => exact ⟨k + 1, Av, cv, by omega, by omega, by go_num, by rw [HX2.out], by rw [HX2.out]; exact HO.out, HBK.out⟩
              case measure => simp [intOf]; omega
          · have h2i : ¬ (k : Int) < (ls.length : Int) := by omega
            have hkk : k - 1 = ls.length - 1 := by omega
            have hlen : (bitsF b 1 (k - 1)).length ≤ 10 := by have := bitsF_len (k - 1) b 1; omega
            rw [hkk] at HO hlen ⊢
            clear HT HSN hkk
            generalize bitsF b 1 (ls.length - 1) = xs at *
            have hw2 : IntKind.i64.wrap ((b : Int) + 1) = (b : Int) + 1 := IntWalk.i64_in _ (by omega)
            obtain ⟨hcv1, hcv2, hxs⟩ := isInts_parts HO.out.isInts
            have HXS := Lib.hid hxs
            have HBA : Hid (Below W0.heap.size W0 wr) := HBR.out.trans (HBK.out.mono HBR.out.size)
            have hw0 := HBR.out.size
            clear hxs
            have hoq2 := HOQ.out.kept HBK.out
            obtain ⟨hcq1, hcq2, hqs⟩ := isInts_parts hoq2.isInts
            have HOQ2 := Lib.hid hoq2
            have H50 := Lib.hid (less_c Av Aq xs q cv cq wr HXS.out hqs ⟨hcv1, hcv2⟩ ⟨hcq1, hcq2⟩)
            clear hoq2 hqs HOQ
            cases hls : lessI xs q
            · have HF : Hid (bestL ls.length (rightB xss lo hi ca ls) (b + 1) = some q) := by show _ = _; rw [HST.out, hls]; rfl
              rw [hls] at H50
              clear hls HST
              go_wp2_with fail
              refine H50.out.mono ?_
              rintro e w4 ⟨rfl, m, rfl⟩
              have HB4 : Hid (Below wr.heap.size wr (wr.drewN m)) := below_drewN (Below.refl _ _) m
              go_wp2_with fail
              go_roundw
              case rel => exact ⟨b + 1, by omega, by go_num, by rw [HF.out]; exact ⟨rfl, Aq, cq, rfl, HOQ2.out.kept HB4.out⟩, HBA.out.trans (HB4.out.mono HBA.out.size)⟩
              case measure => simp [intOf]; omega
            · rw [hls] at H50
              go_wp2_with fail
              refine H50.out.mono ?_
              rintro e w4 ⟨rfl, m, rfl⟩
              have HB4 : Hid (Below wr.heap.size wr (wr.drewN m)) := below_drewN (Below.refl _ _) m
              have HBA4 : Hid (Below W0.heap.size W0 (wr.drewN m)) := HBA.out.trans (HB4.out.mono HBA.out.size)
              have H48 := Lib.hid (right_c A A' Av xss ls xs c c' cv lo hi ca (wr.drewN m) (HR.out.step HBA4.out) (HX.out.step HBA4.out) (HXS.out.step HB4.out) hc hc' ⟨hcv1, hcv2⟩ (by omega) HBE.out)
              have d0 := cell_of_ans HBA4.out k0
              have d1 := cell_of_ans HBA4.out k1
              have d2 := cell_of_ans HBA4.out k2
              have d3 := cell_of_ans HBA4.out k3
              cases hrb : rightB xss lo hi ca ls xs
              · have HF : Hid (bestL ls.length (rightB xss lo hi ca ls) (b + 1) = some q) := by show _ = _; rw [HST.out, hls, hrb]; rfl
                rw [hrb] at H48
                clear hrb HST hls
                generalize wr.drewN m = w4 at *
                go_wp2_with fail
                refine H48.out.mono ?_
                rintro e w5 ⟨rfl, hb5⟩
                have HB5 := Lib.hid hb5
                clear hb5
                go_wp2_with fail
                go_roundw
                case rel => exact ⟨b + 1, by omega, by go_num, by rw [HF.out]; exact ⟨rfl, Aq, cq, rfl, (HOQ2.out.kept HB4.out).kept HB5.out⟩, HBA4.out.trans (HB5.out.mono HBA4.out.size)⟩
                case measure => simp [intOf]; omega
              · have HF : Hid (bestL ls.length (rightB xss lo hi ca ls) (b + 1) = some xs) := by show _ = _; rw [HST.out, hls, hrb]; rfl
                rw [hrb] at H48
                clear hrb HST hls
                generalize wr.drewN m = w4 at *
                go_wp2_with fail
                refine H48.out.mono ?_
                rintro e w5 ⟨rfl, hb5⟩
                have HB5 := Lib.hid hb5
                clear hb5
                go_wp2_with fail
                go_roundw
                case rel => exact ⟨b + 1, by omega, by go_num, by rw [HF.out]; exact ⟨rfl, Av, cv, rfl, ownsRow_base ((HO.out.kept HB4.out).kept HB5.out) hw0⟩, HBA4.out.trans (HB5.out.mono HBA4.out.size)⟩
                case measure => simp [intOf]; omega
    · obtain rfl : b = N := by omega
      have h1i : ¬ (b : Int) < (b : Int) := by omega
      cases hbl : bestL ls.length (rightB xss lo hi ca ls) b with
      | none =>
        rw [hbl] at hm
        obtain ⟨rfl, rfl⟩ := hm
        have HF : Hid (bestB xss lo hi ca ls = none) := HBB.out.trans hbl
        go_wp2_with fail
        go_ret2
        rw [HF.out]
        exact ⟨rfl, HB.out.trans (HBR.out.mono HB.out.size)⟩
      | some q =>
        rw [hbl] at hm
        obtain ⟨rfl, Aq, cq, rfl, hoq⟩ := hm
        have HOQ := Lib.hid hoq
        have HF : Hid (bestB xss lo hi ca ls = some q) := HBB.out.trans hbl
        clear hoq
        go_wp2_with fail
        go_ret2
        rw [HF.out]
        exact ⟨Aq, cq, rfl, ownsRow_base HOQ.out HB.out.size, HB.out.trans (HBR.out.mono HB.out.size)⟩
end

section

open Go.RowKit
set_option linter.unusedSimpArgs false
set_option linter.unusedVariables false

def LineO (w : World) (x nd : List Int) (e : Ending) (w' : World) : Prop :=
  ∃ A c A2 c2, e = .returned (.agg #[.slice A x.length c, .slice A2 nd.length c2]) ∧ OwnI w.heap.size w' (.slice A x.length c) x ∧ OwnI w.heap.size w' (.slice A2 nd.length c2) nd ∧ Below w.heap.size w w'
set_option maxRecDepth 100000 in
set_option maxHeartbeats 4000000 in
theorem line35o_c (A An : Option Addr) (x nd : List Int) (c cn : Nat) (w : World) (hx : Ints w.heap.size w A x) (hn : Ints w.heap.size w An nd) (hl : x.length ≤ 1000000) (hl' : nd.length ≤ 1000000) :
    Calls Try.prog 35 #[.agg #[.slice A x.length c, .slice An nd.length cn]] w (LineO w x nd) := by
  have hb0 : Below w.heap.size w ((w.alloc (.cells #[.slice A x.length c, .slice An nd.length cn] 55)).alloc (.cells #[.slice none 0 0, .slice none 0 0] 60)) := ((Below.refl _ _).alloc (Nat.le_refl _) _).alloc (by simp) _
  have k0 : ((w.alloc (.cells #[.slice A x.length c, .slice An nd.length cn] 55)).alloc (.cells #[.slice none 0 0, .slice none 0 0] 60)).cell? ⟨w.heap.size, 0, none⟩ = some (.slice A x.length c) := by go_simp
  have k1 : ((w.alloc (.cells #[.slice A x.length c, .slice An nd.length cn] 55)).alloc (.cells #[.slice none 0 0, .slice none 0 0] 60)).cell? ⟨w.heap.size, 1, none⟩ = some (.slice An nd.length cn) := by go_simp
  have HE : Hid (((w.alloc (.cells #[.slice A x.length c, .slice An nd.length cn] 55)).alloc (.cells #[.slice none 0 0, .slice none 0 0] 60)).heap[w.heap.size + 1]? = some (.cells #[.slice none 0 0, .slice none 0 0] 60)) := by
    show _ = _
    have := World.alloc_heap_new (w.alloc (.cells #[.slice A x.length c, .slice An nd.length cn] 55)) (.cells #[.slice none 0 0, .slice none 0 0] 60)
    rwa [World.size_alloc] at this
  have HZ : Hid (((w.alloc (.cells #[.slice A x.length c, .slice An nd.length cn] 55)).alloc (.cells #[.slice none 0 0, .slice none 0 0] 60)).heap.size = w.heap.size + 1 + 1) := by show _ = _; simp
  have HX := Lib.hid (hx.step hb0)
  have HN := Lib.hid (hn.step hb0)
  have HB := Lib.hid hb0
  clear hb0 hx hn
  go_enter Try.func35, Try.ntmps35
  go_upto_region 1 with fail
  generalize ((w.alloc (.cells #[.slice A x.length c, .slice An nd.length cn] 55)).alloc (.cells #[.slice none 0 0, .slice none 0 0] 60)) = W0 at k0 k1 HX HN HB HE HZ ⊢
  have HT1 : Hid True := trivial
  go_region_held3 (fun w' => w'.cell? ⟨w.heap.size, 0, none⟩ = some (.slice A x.length c) ∧ w'.cell? ⟨w.heap.size, 1, none⟩ = some (.slice An nd.length cn)) (go_keep) (first | (go_at_call 43; have _t := HT1; refine (list43_c A x c _ (HX.out.step (Below.refl _ _).drew) hl).mono ?_; rintro e w1 ⟨A1, c1, rfl, h1, hb⟩; replace hb := below_drew_l hb; replace k0 := cell_of_ans hb k0; replace k1 := cell_of_ans hb k1; have HO1 := Lib.hid h1; have HB1 := Lib.hid hb; clear h1 hb HT1) | (go_at_call 43; refine (list43_c An nd cn _ (HN.out.step HB1.out) hl').mono ?_; rintro e w2 ⟨A2, c2, rfl, h2, hb⟩; replace k0 := cell_of_ans hb k0; replace k1 := cell_of_ans hb k1; have HO2 := Lib.hid h2; have HB2 := Lib.hid hb; obtain ⟨s0, s1, s4⟩ := two HE.out (HB1.out.trans (hb.mono HB1.out.size)); clear h2 hb))
  go_wp2_with fail
  have hz0 := HZ.out
  have hz1 := HB1.out.size
  have hz2 := HB2.out.size
  have hg := only_setCell (u := .slice A2 nd.length c2) (p := ⟨w.heap.size + 1, 1, none⟩) (only_setCell (u := .slice A1 x.length c1) (p := ⟨w.heap.size + 1, 0, none⟩) (World.grownBy.refl w2 (some (w.heap.size + 1))) (.inl rfl)) (.inl rfl)
  have ho1 : OwnI W0.drew.heap.size w1 (.slice A1 x.length c1) x := HO1.out
  rw [World.size_drew] at ho1
  have ho1' := (ho1.kept HB2.out).keptBy hg (by omega)
  have ho2' := HO2.out.keptBy hg (by omega)
  have hq := HB.out.size
  refine bodyPost_ret (v := .agg #[.slice A1 x.length c1, .slice A2 nd.length c2]) (by simp [results, Try.results35, go_sem, s0, s1]) rfl ⟨_, _, _, _, rfl, ownsRow_base ho1' hq, ownsRow_base ho2' (Nat.le_trans hq hz1), ?_⟩
  exact ((((HB.out.trans (HB1.out.mono HB.out.size)).trans (HB2.out.mono (by omega))).setCell (p := ⟨w.heap.size + 1, 0, none⟩) (by dsimp only; omega) _).setCell (p := ⟨w.heap.size + 1, 1, none⟩) (by dsimp only; omega) _)


def flatV (vs : List (Value × Value)) : List Value := vs.flatMap fun p => [p.1, p.2]
theorem flatV_len (vs : List (Value × Value)) : (flatV vs).length = vs.length * 2 := by
  induction vs with
  | nil => rfl
  | cons x xs ih => simp only [flatV, List.flatMap_cons, List.length_append, List.length_cons, List.length_nil] at *; omega
theorem flatV_append (vs us : List (Value × Value)) : flatV (vs ++ us) = flatV vs ++ flatV us := by simp [flatV]
theorem flatV_at : ∀ (vs : List (Value × Value)) (k : Nat) (h : k < vs.length), (flatV vs)[k * 2]? = some (vs[k]).1 ∧ (flatV vs)[k * 2 + 1]? = some (vs[k]).2
  | x :: xs, 0, _ => by simp [flatV]
  | x :: xs, k + 1, h => by
    have := flatV_at xs k (by simpa using h)
    simp only [flatV, List.flatMap_cons, List.getElem_cons_succ] at *
    rw [show (k + 1) * 2 = k * 2 + 2 by omega]
    simpa using this
def NeB (u v : Value) : Prop := u.ownBlock = none ∨ u.ownBlock ≠ v.ownBlock
/-- An own list of lines, each of own lists. -/
def OwnL (base : Nat) (w : World) (v : Value) (k : Nat) (ls : Lines) : Prop :=
  ∃ vs : List (Value × Value), vs.length = k ∧ w.ownsRow base 60 2 v k (flatV vs) ∧ ∀ j (h : j < vs.length), (OwnI base w (vs[j]).1 (lx ls j).1 ∧ NeB (vs[j]).1 v) ∧ (OwnI base w (vs[j]).2 (lx ls j).2 ∧ NeB (vs[j]).2 v)
theorem OwnL.nil (base : Nat) (w : World) (ls : Lines) : OwnL base w (.slice none 0 0) 0 ls := ⟨[], rfl, World.ownsRow_nil _ _ _ _, fun j h => by simp at h⟩
theorem OwnL.lns {base : Nat} {w : World} {A : Option Addr} {n c : Nat} {ls : Lines} (h : OwnL base w (.slice A n c) ls.length ls) : n = ls.length ∧ (ls.length ≤ c ∧ c ≤ 9223372036854775807) ∧ Lns w.heap.size w A ls := by
  obtain ⟨vs, hl, ho, hv⟩ := h
  rcases ho.2 with ⟨e, h0⟩ | ⟨g, cap, cur, e, hb, hg, hn, hm, hs, ht⟩
  · injection e with e1 e2 e3
    subst e1 e2 e3
    exact ⟨h0.symm, by omega, fun hp => by omega⟩
  · injection e with e1 e2 e3
    subst e1 e2 e3
    refine ⟨rfl, ⟨hn, by unfold maxLen at hm; omega⟩, fun hp => ⟨g, 0, rfl, (Array.getElem?_eq_some_iff.1 hg).1, fun k hk => ?_⟩⟩
    obtain ⟨a1, a2⟩ := flatV_at vs k (by omega)
    have b1 := ho.cells (g := g) rfl _ _ a1
    have b2 := ho.cells (g := g) rfl _ _ a2
    rw [add_eq] at b1 b2
    obtain ⟨c1, c2⟩ := hv k (by omega)
    exact ⟨_, _, b1, by rw [Nat.add_assoc]; exact b2, c1.1.isInts, c2.1.isInts⟩
theorem info60 : (Try.prog.info? 60).map (fun i => (i.zero, i.size, i.bytes)) = some (some (.agg #[.slice none 0 0, .slice none 0 0]), 2, 48) := by kernel_rfl
theorem src_line (w : World) (a b : Value) : Src (w.alloc (.cells #[a, b] 60)) 2 (some ⟨w.heap.size, 0, none⟩) 1 (flatV [(a, b)]) := by
  refine ⟨rfl, (fun h => by cases h), fun ad hA j u hu => ?_⟩
  injection hA with hA
  subst hA
  rw [add_eq]
  rcases j with _ | _ | j <;> simp [flatV] at hu
  all_goals
    subst hu
    simp
theorem NeB.new {base : Nat} {w : World} {u v v' : Value} {xs : List Int} {n : Nat} (hu : OwnI base w u xs) (h : NeB u v) (hv : v'.ownBlock = v.ownBlock ∨ v'.ownBlock = some n) (hn : w.heap.size ≤ n) : NeB u v' := by
  unfold NeB at *
  cases e : u.ownBlock with
  | none => exact .inl rfl
  | some k =>
    have a := (World.ownsRow.lt hu k e).2
    rcases hv with hv | hv
    · rw [hv]; rw [e] at h; exact h
    · rw [hv]
      refine .inr fun e' => ?_
      injection e' with e'
      omega
theorem NeB.old {base B : Nat} {w w1 : World} {e : TypeId} {m n : Nat} {vs : List Value} {u v : Value} {xs : List Int} (hv : w.ownsRow B e m v n vs) (hu : OwnI base w1 u xs) (hb : w.heap.size ≤ base) : NeB u v := by
  unfold NeB
  cases e : u.ownBlock with
  | none => exact .inl rfl
  | some k =>
    have a := (World.ownsRow.lt hu k e).1
    refine .inr fun e' => ?_
    have := (hv.lt k e'.symm).2
    omega
theorem OwnL.push {base : Nat} {w w1 w2 : World} {v v' u1 u2 : Value} {n m : Nat} {vs : List (Value × Value)} {ls : Lines} (hl : vs.length = n) (h1 : w.ownsRow base 60 2 v n (flatV vs)) (h2 : ∀ j (h : j < vs.length), (OwnI base w (vs[j]).1 (lx ls j).1 ∧ NeB (vs[j]).1 v) ∧ (OwnI base w (vs[j]).2 (lx ls j).2 ∧ NeB (vs[j]).2 v))
    (hb : Below w.heap.size w w1) (hB : base ≤ w.heap.size) (hu1 : OwnI w.heap.size w1 u1 (lx ls n).1) (hu2 : OwnI w.heap.size w1 u2 (lx ls n).2) (hg : w1.grownBy w2 v.ownBlock) (hv : v'.ownBlock = v.ownBlock ∨ v'.ownBlock = some m) (hm : w1.heap.size ≤ m)
    (ho : w2.ownsRow base 60 2 v' (n + 1) (flatV (vs ++ [(u1, u2)]))) : OwnL base w2 v' (n + 1) ls := by
  subst hl
  have key : ∀ {u : Value} {xs : List Int}, OwnI base w1 u xs → NeB u v → OwnI base w2 u xs ∧ NeB u v' := fun {u xs} hu hn => ⟨World.ownsRow.kept hu hg hn, hn.new hu hv hm⟩
  refine ⟨_, by simp, ho, fun j hj => ?_⟩
  rw [List.length_append] at hj
  simp only [List.length_cons, List.length_nil] at hj
  by_cases e : j < vs.length
  · obtain ⟨⟨a1, a2⟩, b1, b2⟩ := h2 j e
    rw [List.getElem_append_left e]
    exact ⟨key (a1.kept hb) a2, key (b1.kept hb) b2⟩
  · obtain rfl : j = vs.length := by omega
    rw [List.getElem_append_right (Nat.le_refl _)]
    simp only [Nat.sub_self, List.getElem_cons_zero]
    exact ⟨key (ownsRow_base hu1 hB) (NeB.old h1 hu1 (Nat.le_refl _)), key (ownsRow_base hu2 hB) (NeB.old h1 hu2 (Nat.le_refl _))⟩
section
variable {ops : Array Oper} {rest : List Oper} {o : Oper} {a : Act} {Q : Exit → Act → World → Prop}
theorem wpList_app_line (s x : Operand) (hgd : o.guard = none) (ho : o.op = .call { callee := .builtin .append, args := #[s, x], argTypes := #[70, 70] }) (base : Nat) (w w1 : World) (v : Value) (k : Nat) (ls : Lines) (u1 u2 : Value)
    (hv : a.eval s = v) (hx : a.eval x = .slice (some ⟨w1.heap.size, 0, none⟩) 1 1) (hR : Hid (OwnL base w v k ls)) (h1 : Hid (OwnI w.heap.size w1 u1 (lx ls k).1)) (h2 : Hid (OwnI w.heap.size w1 u2 (lx ls k).2)) (hW : Hid (Below w.heap.size w w1)) (hl : k ≤ 1000000) (hb : base ≤ w.heap.size)
    (h : ∀ A c w', Hid (OwnL base w' (.slice A (k + 1) c) (k + 1) ls) → Hid (Below base w w') → wpList Try.prog ops Q rest (a.put o.dst (.slice A (k + 1) c)) w') :
    wpList Try.prog ops Q (o :: rest) a (w1.alloc (.cells #[u1, u2] 60)) := by
  obtain ⟨i0, hi, hz0, hz1, hz2⟩ := info_parts info60
  obtain ⟨vs, hvl, hO, hvv⟩ := hR.out
  have hO1 : (w1.alloc (.cells #[u1, u2] 60)).ownsRow base 60 2 v k (flatV vs) := (hO.kept (only_below hW.out none) (own_ne v)).alloc _
  have hon : ∀ x ∈ flatV [(u1, u2)], x.oneCell' = true := by
    obtain ⟨Aa, ca, rfl⟩ := OwnI.form h1.out
    obtain ⟨Ab, cb, rfl⟩ := OwnI.form h2.out
    intro x hx
    simp [flatV] at hx
    rcases hx with rfl | rfl <;> rfl
  refine wpList_append_src hgd s x 70 ho base 60 i0 _ 2 48 Try.underlying70 hi hz0 hz1 hz2 rfl (by decide) v k (flatV vs) hv hO1 (some ⟨w1.heap.size, 0, none⟩) 1 1 (flatV [(u1, u2)]) hx (src_line w1 _ _) hon (by unfold maxLen; omega) (by omega) (le_alloc hb hW.out) ?_
  intro v' w' e1 e2 e3
  obtain ⟨A, c, rfl⟩ := ownsRow_form e1
  have hb1 : Below w.heap.size w (w1.alloc (.cells #[u1, u2] 60)) := hW.out.alloc hW.out.size _
  refine h A c w' ?_ ((hb1.mono hb).grown e2 (le_alloc hb hW.out) (fun j e => (hO.lt j e).1))
  exact OwnL.push (w1 := w1.alloc (.cells #[u1, u2] 60)) hvl hO hvv hb1 hb (World.ownsRow.alloc h1.out _) (World.ownsRow.alloc h2.out _) e2 e3 (Nat.le_refl _) (by rw [flatV_append]; exact e1)
end
def BlockP (w : World) (ls : Lines) (e : Ending) (w' : World) : Prop :=
  ∃ A c, e = .returned (.slice A ls.length c) ∧ (ls.length ≤ c ∧ c ≤ 9223372036854775807) ∧ Lns w'.heap.size w' A ls ∧ Below w.heap.size w w'
theorem fewB_le {ls : Lines} (h : fewB ls = true) : ls.length ≤ 25 ∧ ∀ k, k < ls.length → (lx ls k).1.length ≤ 16 ∧ (lx ls k).2.length ≤ 16 := by
  simp only [fewB, Bool.and_eq_true, decide_eq_true_eq, allB_iff] at h
  exact ⟨h.1, fun k hk => by simpa using h.2 k hk⟩

set_option maxRecDepth 100000 in
set_option maxHeartbeats 8000000 in
theorem block42_c (A : Option Addr) (ls : Lines) (c : Nat) (w : World) (hx : Lns w.heap.size w A ls) (hf : fewB ls = true) (hc : ls.length ≤ c ∧ c ≤ 9223372036854775807) :
    Calls Try.prog 42 #[.slice A ls.length c] w (BlockP w ls) := by
  obtain ⟨h25, h16⟩ := fewB_le hf
  have HX := Lib.hid hx
  have H16 := Lib.hid h16
  clear hx h16 hf
  go_enter Try.func42, Try.ntmps42
  go_wp2_with fail
  go_loopw [4, 3] (fun i v wr => ∃ (k : Nat) (Av : Option Addr) (cv : Nat), k ≤ ls.length ∧ i = .int .i64 (k : Int) ∧ v = .slice Av k cv ∧ OwnL w.heap.size wr (.slice Av k cv) k ls ∧ Below w.heap.size w wr) (fun i _ _ => ls.length - (intOf i).toNat)
  case atStart => exact ⟨0, none, 0, by omega, rfl, rfl, OwnL.nil _ _ _, Below.refl _ _⟩
  case round =>
    obtain ⟨k, Av, cv, hk, rfl, rfl, hO, hb⟩ := hrel
    have HO := Lib.hid hO
    have HB := Lib.hid hb
    have hz := hb.size
    clear hO hb
    by_cases h1 : k < ls.length
    · obtain ⟨b, off, A1, c1, A2, c2, rfl, j0, j1, q1, q2, hi1, hi2⟩ := (HX.out.step HB.out).at_ h1
      have HI1 := Lib.hid hi1
      have HI2 := Lib.hid hi2
      have hki : (k : Int) < (ls.length : Int) := by omega
      obtain ⟨l1, l2⟩ := H16.out k h1
      have H35 := Lib.hid (line35o_c A1 A2 (lx ls k).1 (lx ls k).2 c1 c2 wr HI1.out HI2.out (by omega) (by omega))
      clear hi1 hi2 HI1 HI2
      go_wp2_with fail
      refine H35.out.mono ?_
      rintro e w1 ⟨A3, c3, A4, c4, rfl, o1, o2, hb⟩
      have HO1 := Lib.hid o1
      have HO2 := Lib.hid o2
      have HB1 := Lib.hid hb
      clear o1 o2 hb H35
      go_wp2_with (at_builtin; refine wpList_app_line (.tmp 11) (.tmp 17) rfl rfl w.heap.size wr w1 _ k ls _ _ rfl rfl HO HO1 HO2 HB1 (by omega) hz ?_; intro A8 c8 w8 HO8 HB8)
      go_roundw
      case rel => exact ⟨k + 1, A8, c8, by omega, by go_num, rfl, HO8.out, HB.out.trans HB8.out⟩
      case measure => simp [intOf]; omega
    · obtain rfl : k = ls.length := by omega
      have hki : ¬ (ls.length : Int) < (ls.length : Int) := by omega
      go_wp2_with fail
      go_ret
      obtain ⟨_, e2, e3⟩ := HO.out.lns
      exact ⟨Av, cv, rfl, e2, e3, HB.out⟩

set_option maxRecDepth 100000 in
set_option maxHeartbeats 8000000 in
theorem blocked_c (A A' : Option Addr) (xss : List (List Int)) (ls : Lines) (c c' : Nat) (lo hi ca : Int) (w : World) (hr : Grd w.heap.size w A xss) (hx : Lns w.heap.size w A' ls) (hc : xss.length ≤ c ∧ c ≤ 9223372036854775807) (hc' : ls.length ≤ c' ∧ c' ≤ 9223372036854775807) :
    Calls Try.prog 40 #[.agg #[.slice A xss.length c, .int .i64 lo, .int .i64 hi, .int .i64 ca], .slice A' ls.length c'] w (Ans w (.int .i64 (blockErr xss lo hi ca ls))) := by
  have hb0 : Below w.heap.size w (w.alloc (.cells #[.slice A xss.length c, .int .i64 lo, .int .i64 hi, .int .i64 ca] 26)) := (Below.refl _ _).alloc (Nat.le_refl _) _
  have k0 : (w.alloc (.cells #[.slice A xss.length c, .int .i64 lo, .int .i64 hi, .int .i64 ca] 26)).cell? ⟨w.heap.size, 0, none⟩ = some (.slice A xss.length c) := by simp
  have k1 : (w.alloc (.cells #[.slice A xss.length c, .int .i64 lo, .int .i64 hi, .int .i64 ca] 26)).cell? ⟨w.heap.size, 1, none⟩ = some (.int .i64 lo) := by simp
  have k2 : (w.alloc (.cells #[.slice A xss.length c, .int .i64 lo, .int .i64 hi, .int .i64 ca] 26)).cell? ⟨w.heap.size, 2, none⟩ = some (.int .i64 hi) := by simp
  have k3 : (w.alloc (.cells #[.slice A xss.length c, .int .i64 lo, .int .i64 hi, .int .i64 ca] 26)).cell? ⟨w.heap.size, 3, none⟩ = some (.int .i64 ca) := by simp
  have HX := Lib.hid (hr.step hb0)
  have HL := Lib.hid (hx.step hb0)
  have HB := Lib.hid hb0
  clear hb0 hr hx
  go_enter Try.func40, Try.ntmps40
  go_wp2_with fail
  generalize (w.alloc (.cells #[.slice A xss.length c, .int .i64 lo, .int .i64 hi, .int .i64 ca] 26)) = W0 at k0 k1 k2 k3 HX HL HB ⊢
  refine (fault2_c A none xss [] c 0 lo hi ca _ HX.out (grd_nil _ _) hc).mono ?_
  rw [ballsErr_nil]
  rintro e w1 ⟨rfl, hb⟩
  replace HX := Lib.hid (HX.out.step hb)
  replace HL := Lib.hid (HL.out.step hb)
  replace k0 := cell_of_ans hb k0
  replace k1 := cell_of_ans hb k1
  replace k2 := cell_of_ans hb k2
  replace k3 := cell_of_ans hb k3
  replace HB := Lib.hid (HB.out.trans (hb.mono HB.out.size))
  clear hb
  by_cases hle : laneErr xss lo hi ca = 0
  · have h0 := (laneOk hle).1
    rw [hle]
    by_cases h20 : ls.length ≤ 20
    · have HV : Hid (blockErr xss lo hi ca ls = if linesB xss ls then 0 else 2) := by show _ = _; unfold blockErr; rw [if_pos hle, if_pos h20]
      have h20i : decide ((20 : Int) < (ls.length : Int)) = false := decide_eq_false (by omega)
      clear hle
      go_wp2_with fail
      go_loopw [6] (fun i wr => ∃ k : Nat, k ≤ ls.length ∧ i = .int .i64 (k : Int) ∧ AllB k (fun k => lineB xss (lx ls k).1 (lx ls k).2) ∧ Below w1.heap.size w1 wr) (fun i _ => ls.length - (intOf i).toNat)
      case atStart => exact ⟨0, by omega, rfl, fun j hj => by omega, Below.refl _ _⟩
      case round =>
        obtain ⟨k, hk, rfl, ha, hbr⟩ := hrel
        have HA := Lib.hid ha
        have HB1 := Lib.hid hbr
        replace k0 := cell_of_ans hbr k0
        replace k1 := cell_of_ans hbr k1
        replace k2 := cell_of_ans hbr k2
        replace k3 := cell_of_ans hbr k3
        replace HX := Lib.hid (HX.out.step hbr)
        replace HL := Lib.hid (HL.out.step hbr)
        replace HB := Lib.hid (HB.out.trans (hbr.mono HB.out.size))
        clear ha hbr
        by_cases h1 : k < ls.length
        · obtain ⟨b, off, A1, c1, A2, c2, rfl, j0, j1, q1, q2, hi1, hi2⟩ := HL.out.at_ h1
          have HI1 := Lib.hid hi1
          have HI2 := Lib.hid hi2
          have hki : (k : Int) < (ls.length : Int) := by omega
          clear hi1 hi2
          go_wp2_with fail
          have hd : Below wr.heap.size wr wr.drew := (Below.refl _ _).drew
          replace HX := Lib.hid (HX.out.step hd)
          replace HI1 := Lib.hid (HI1.out.step hd)
          replace HI2 := Lib.hid (HI2.out.step hd)
          replace HB1 := Lib.hid (HB1.out.trans (hd.mono HB1.out.size))
          replace HB := Lib.hid (HB.out.trans (hd.mono HB.out.size))
          clear hd
          go_region_held3 (fun w' => w'.cell? ⟨w.heap.size, 0, none⟩ = some (.slice A xss.length c) ∧ w'.cell? ⟨w.heap.size, 1, none⟩ = some (.int .i64 lo) ∧ w'.cell? ⟨w.heap.size, 2, none⟩ = some (.int .i64 hi) ∧ w'.cell? ⟨w.heap.size, 3, none⟩ = some (.int .i64 ca) ∧ w'.cell? ⟨b, off + k * 2, none⟩ = some (.slice A1 (lx ls k).1.length c1) ∧ w'.cell? ⟨b, off + k * 2 + 1, none⟩ = some (.slice A2 (lx ls k).2.length c2)) (go_keep) (first | (go_at_call 37; refine (isLine_c A A1 A2 xss (lx ls k).1 (lx ls k).2 c c1 c2 lo hi ca _ HX.out HI1.out HI2.out h0 q1 q2).mono ?_; rintro e w4 ⟨rfl, hb⟩; replace HX := Lib.hid (HX.out.step hb); replace HI1 := Lib.hid (HI1.out.step hb); replace HI2 := Lib.hid (HI2.out.step hb); replace k0 := cell_of_ans (below_drew_l hb) k0; replace k1 := cell_of_ans (below_drew_l hb) k1; replace k2 := cell_of_ans (below_drew_l hb) k2; replace k3 := cell_of_ans (below_drew_l hb) k3; replace j0 := cell_of_ans (below_drew_l hb) j0; replace j1 := cell_of_ans (below_drew_l hb) j1; replace HB1 := Lib.hid (HB1.out.trans (hb.mono HB1.out.size)); replace HB := Lib.hid (HB.out.trans (hb.mono HB.out.size)); clear hb))
          cases hlb : lineB xss (lx ls k).1 (lx ls k).2
          · have HF : Hid (blockErr xss lo hi ca ls = 2) := by show _ = _; rw [HV.out, if_neg]; rw [show linesB xss ls = false from allB_false h1 hlb]; simp
            clear hlb
            go_wp2_with fail
            go_ret
            exact ⟨ret_int HF.out.symm, HB.out⟩
          · have HY := Lib.hid hlb
            clear hlb
            go_wp2_with fail
            go_roundw
            case rel => exact ⟨k + 1, by omega, by go_num, HA.out.succ HY.out, HB1.out⟩
            case measure => simp [intOf]; omega
        · obtain rfl : k = ls.length := by omega
          have hki : ¬ (ls.length : Int) < (ls.length : Int) := by omega
          have HF : Hid (blockErr xss lo hi ca ls = 0) := by show _ = _; rw [HV.out, if_pos]; exact allB_true HA.out
          go_wp2_with fail
          go_ret
          exact ⟨ret_int HF.out.symm, HB.out⟩
    · have HF : Hid (blockErr xss lo hi ca ls = 3) := by show _ = _; unfold blockErr; rw [if_pos hle, if_neg h20]
      have h20i : decide ((20 : Int) < (ls.length : Int)) = true := decide_eq_true (by omega)
      clear hle
      go_wp2_with fail
      go_ret
      exact ⟨ret_int HF.out.symm, HB.out⟩
  · have HF : Hid (blockErr xss lo hi ca ls = laneErr xss lo hi ca) := by show _ = _; unfold blockErr; rw [if_neg hle]
    have hlb : (laneErr xss lo hi ca != 0) = true := by simp [hle]
    clear hle
    go_wp2_with fail
    go_ret
    exact ⟨ret_int HF.out.symm, HB.out⟩
end

section

open Go.RowKit
set_option linter.unusedSimpArgs false
set_option linter.unusedVariables false

section
variable {xss : List (List Int)} {ls : Lines} {lo hi ca : Int} {c c' : Nat} {A A' : Option Addr} {w : World}
def NewI (w : World) (xs : List Int) (e : Ending) (w' : World) : Prop := ∃ A c, e = .returned (.slice A xs.length c) ∧ (xs.length ≤ c ∧ c ≤ 9223372036854775807) ∧ Ints w'.heap.size w' A xs ∧ Below w.heap.size w w'
theorem own_parts {base : Nat} {w : World} {A : Option Addr} {n c : Nat} {xs : List Int} (h : OwnI base w (.slice A n c) xs) : (xs.length ≤ c ∧ c ≤ 9223372036854775807) ∧ Ints w.heap.size w A xs := by
  obtain ⟨h1, h2, h3⟩ := isInts_parts h.isInts
  exact ⟨⟨h1, h2⟩, h3⟩
theorem listI_c (A : Option Addr) (xs : List Int) (c : Nat) (w : World) (hx : Ints w.heap.size w A xs) (hl : xs.length ≤ 1000000) : Calls Try.prog 43 #[.slice A xs.length c] w (NewI w xs) :=
  (list43_c A xs c w hx hl).mono fun e w' ⟨A1, c1, h1, h2, h3⟩ => ⟨A1, c1, h1, (own_parts h2).1, (own_parts h2).2, h3⟩
theorem intsA_c (A A' : Option Addr) (xs ys : List Int) (c c' : Nat) (w : World) (hx : Ints w.heap.size w A xs) (hy : Ints w.heap.size w A' ys) (hc : xs.length ≤ c ∧ c ≤ 9223372036854775807) (hc' : ys.length ≤ c' ∧ c' ≤ 9223372036854775807) :
    Calls Try.prog 30 #[.slice A xs.length c, .slice A' ys.length c'] w (Ans w (.bool (eqB xs ys))) := (ints_c A A' xs ys c c' w hx hy hc hc').mono fun _ _ h => h.ans
theorem intsNil_c (w : World) : Calls Try.prog 30 #[.slice none 0 0, .slice none 0 0] w (Ans w (.bool true)) := by
  have h := intsA_c none none [] [] 0 0 w (fun h => by simp at h) (fun h => by simp at h) ⟨by simp, by omega⟩ ⟨by simp, by omega⟩
  rwa [show eqB [] [] = true from by simp [eqB]] at h
theorem isPlanA_c (A' Ap : Option Addr) (n : Nat) (plan : List Int) (c' cp : Nat) (w : World) (hp : Ints w.heap.size w Ap plan) (hn : n ≤ 1000) (hc' : n ≤ c' ∧ c' ≤ 9223372036854775807) (hcp : plan.length ≤ cp ∧ cp ≤ 9223372036854775807) :
    Calls Try.prog 47 #[.slice A' n c', .slice Ap plan.length cp] w (Ans w (.bool (isPlanB n plan))) := (isPlan_c A' Ap n plan c' cp w hp hn hc' hcp).mono fun _ _ h => h.ans
def PlanS (w : World) (q : List Int) (v : Value) (e : Ending) (w' : World) : Prop := ∃ A c, e = .returned (.tuple #[.slice A q.length c, v]) ∧ (q.length ≤ c ∧ c ≤ 9223372036854775807) ∧ Ints w'.heap.size w' A q ∧ Below w.heap.size w w'
theorem plan_some (A A' : Option Addr) (xss : List (List Int)) (ls : Lines) (c c' : Nat) (lo hi ca : Int) (w : World) (hr : Grd w.heap.size w A xss) (hx : Lns w.heap.size w A' ls) (hc : xss.length ≤ c ∧ c ≤ 9223372036854775807) (hc' : ls.length ≤ c' ∧ c' ≤ 9223372036854775807) (hbe : blockErr xss lo hi ca ls = 0) {q : List Int} (h : planB xss lo hi ca ls = some q) :
    Calls Try.prog 46 #[.agg #[.slice A xss.length c, .int .i64 lo, .int .i64 hi, .int .i64 ca], .slice A' ls.length c'] w (PlanS w q (.int .i64 0)) := by
  have h1 := plan_ok A A' xss ls c c' lo hi ca w hr hx hc hc' hbe
  rw [h] at h1
  exact h1.mono fun e w' ⟨A1, c1, h1, h2, h3⟩ => ⟨A1, c1, h1, (own_parts h2).1, (own_parts h2).2, h3⟩
theorem plan_none_c (A A' : Option Addr) (xss : List (List Int)) (ls : Lines) (c c' : Nat) (lo hi ca : Int) (w : World) (hr : Grd w.heap.size w A xss) (hx : Lns w.heap.size w A' ls) (hc : xss.length ≤ c ∧ c ≤ 9223372036854775807) (hc' : ls.length ≤ c' ∧ c' ≤ 9223372036854775807) (hbe : blockErr xss lo hi ca ls = 0) (h : planB xss lo hi ca ls = none) :
    Calls Try.prog 46 #[.agg #[.slice A xss.length c, .int .i64 lo, .int .i64 hi, .int .i64 ca], .slice A' ls.length c'] w (Ans w (.tuple #[.slice none 0 0, .int .i64 9])) := by
  have h1 := plan_ok A A' xss ls c c' lo hi ca w hr hx hc hc' hbe
  rw [h] at h1
  exact h1
theorem refPlan_some (A A' : Option Addr) (xss : List (List Int)) (ls : Lines) (c c' : Nat) (lo hi ca : Int) (w : World) (hr : Grd w.heap.size w A xss) (hx : Lns w.heap.size w A' ls) (hc : xss.length ≤ c ∧ c ≤ 9223372036854775807) (hc' : ls.length ≤ c' ∧ c' ≤ 9223372036854775807) (hbe : blockErr xss lo hi ca ls = 0) (h7 : ls.length ≤ 7) {q : List Int} (h : planB xss lo hi ca ls = some q) :
    Calls Try.prog 49 #[.agg #[.slice A xss.length c, .int .i64 lo, .int .i64 hi, .int .i64 ca], .slice A' ls.length c'] w (PlanS w q (.bool true)) := by
  have h1 := refPlan_c A A' xss ls c c' lo hi ca w hr hx hc hc' hbe h7
  rw [bestB_eq hbe, show planL ls.length (holdL xss lo hi ca ls) = some q from h] at h1
  exact h1.mono fun e w' ⟨A1, c1, h1, h2, h3⟩ => ⟨A1, c1, h1, (own_parts h2).1, (own_parts h2).2, h3⟩
theorem refPlan_none (A A' : Option Addr) (xss : List (List Int)) (ls : Lines) (c c' : Nat) (lo hi ca : Int) (w : World) (hr : Grd w.heap.size w A xss) (hx : Lns w.heap.size w A' ls) (hc : xss.length ≤ c ∧ c ≤ 9223372036854775807) (hc' : ls.length ≤ c' ∧ c' ≤ 9223372036854775807) (hbe : blockErr xss lo hi ca ls = 0) (h7 : ls.length ≤ 7) (h : planB xss lo hi ca ls = none) :
    Calls Try.prog 49 #[.agg #[.slice A xss.length c, .int .i64 lo, .int .i64 hi, .int .i64 ca], .slice A' ls.length c'] w (Ans w (.tuple #[.slice none 0 0, .bool false])) := by
  have h1 := refPlan_c A A' xss ls c c' lo hi ca w hr hx hc hc' hbe h7
  rw [bestB_eq hbe, show planL ls.length (holdL xss lo hi ca ls) = none from h] at h1
  exact h1
theorem fewA_c (A : Option Addr) (ls : Lines) (c : Nat) (w : World) (h : Lns w.heap.size w A ls) (hc : ls.length ≤ c ∧ c ≤ 9223372036854775807) : Calls Try.prog 33 #[.slice A ls.length c] w (Ans w (.bool (fewB ls))) :=
  (few33_c A ls c w h hc).mono fun e w' ⟨h1, h2⟩ => ⟨h1, by rw [← h2]; exact Below.refl _ _⟩
end

set_option maxRecDepth 100000 in
set_option maxHeartbeats 16000000 in
theorem oilPlans_c (A A' Ap : Option Addr) (xss : List (List Int)) (ls : Lines) (plan : List Int) (c c' cp : Nat) (lo hi ca : Int) (w : World) (hx : Grd w.heap.size w A xss) (hl : Lns w.heap.size w A' ls) (hp : Ints w.heap.size w Ap plan) (hc : xss.length ≤ c ∧ c ≤ 9223372036854775807) (hc' : ls.length ≤ c' ∧ c' ≤ 9223372036854775807) (hcp : plan.length ≤ cp ∧ cp ≤ 9223372036854775807) :
    Calls Try.prog 12 #[.agg #[.slice A xss.length c, .int .i64 lo, .int .i64 hi, .int .i64 ca], .slice A' ls.length c', .slice Ap plan.length cp] w (Ans w (.bool true)) := by
  have hb0 : Below w.heap.size w (w.alloc (.cells #[.slice A xss.length c, .int .i64 lo, .int .i64 hi, .int .i64 ca] 26)) := (Below.refl _ _).alloc (Nat.le_refl _) _
  have k0 : (w.alloc (.cells #[.slice A xss.length c, .int .i64 lo, .int .i64 hi, .int .i64 ca] 26)).cell? ⟨w.heap.size, 0, none⟩ = some (.slice A xss.length c) := by simp
  have k1 : (w.alloc (.cells #[.slice A xss.length c, .int .i64 lo, .int .i64 hi, .int .i64 ca] 26)).cell? ⟨w.heap.size, 1, none⟩ = some (.int .i64 lo) := by simp
  have k2 : (w.alloc (.cells #[.slice A xss.length c, .int .i64 lo, .int .i64 hi, .int .i64 ca] 26)).cell? ⟨w.heap.size, 2, none⟩ = some (.int .i64 hi) := by simp
  have k3 : (w.alloc (.cells #[.slice A xss.length c, .int .i64 lo, .int .i64 hi, .int .i64 ca] 26)).cell? ⟨w.heap.size, 3, none⟩ = some (.int .i64 ca) := by simp
  have HX := Lib.hid (hx.step hb0)
  have HL := Lib.hid (hl.step hb0)
  have HP := Lib.hid (hp.step hb0)
  have HB := Lib.hid hb0
  clear hb0 hx hl hp
  go_enter Try.func12, Try.ntmps12
  go_wp2_with fail
  generalize (w.alloc (.cells #[.slice A xss.length c, .int .i64 lo, .int .i64 hi, .int .i64 ca] 26)) = W0 at k0 k1 k2 k3 HX HL HP HB ⊢
  cases hT : shortB 12 xss && shortB 25 []
  · have HT := Lib.hid hT
    clear hT
    refine (thin_c A none xss [] c 0 lo hi ca _ (Nat.le_refl _) HX.out (grd_nil _ _) hc ⟨by simp, by omega⟩).mono ?_
    rw [HT.out]
    rintro e w1 ⟨rfl, hb⟩
    replace HX := Lib.hid (HX.out.step hb)
    replace HL := Lib.hid (HL.out.step hb)
    replace HP := Lib.hid (HP.out.step hb)
    replace k0 := cell_of_ans hb k0
    replace k1 := cell_of_ans hb k1
    replace k2 := cell_of_ans hb k2
    replace k3 := cell_of_ans hb k3
    replace HB := Lib.hid (HB.out.trans (hb.mono HB.out.size))
    clear hb
    go_wp2_with fail
    refine (awake_c _).mono ?_
    rintro e w9 ⟨rfl, hb⟩
    replace HX := Lib.hid (HX.out.step hb)
    replace HL := Lib.hid (HL.out.step hb)
    replace HP := Lib.hid (HP.out.step hb)
    replace k0 := cell_of_ans hb k0
    replace k1 := cell_of_ans hb k1
    replace k2 := cell_of_ans hb k2
    replace k3 := cell_of_ans hb k3
    replace HB := Lib.hid (HB.out.trans (hb.mono HB.out.size))
    clear hb
    go_wp2_with fail
    go_ret
    exact ⟨rfl, HB.out⟩
  · have HT := Lib.hid hT
    have HS1 : Hid (shortB 12 xss = true) := (Bool.and_eq_true_iff.1 hT).1
    clear hT
    refine (thin_c A none xss [] c 0 lo hi ca _ (Nat.le_refl _) HX.out (grd_nil _ _) hc ⟨by simp, by omega⟩).mono ?_
    rw [HT.out]
    rintro e w1 ⟨rfl, hb⟩
    replace HX := Lib.hid (HX.out.step hb)
    replace HL := Lib.hid (HL.out.step hb)
    replace HP := Lib.hid (HP.out.step hb)
    replace k0 := cell_of_ans hb k0
    replace k1 := cell_of_ans hb k1
    replace k2 := cell_of_ans hb k2
    replace k3 := cell_of_ans hb k3
    replace HB := Lib.hid (HB.out.trans (hb.mono HB.out.size))
    clear hb
    cases hF : fewB ls
    · have HF := Lib.hid hF
      clear hF
      go_wp2_with fail
      refine (fewA_c A' ls c' _ HL.out hc').mono ?_
      rw [HF.out]
      rintro e w2 ⟨rfl, hb⟩
      replace HX := Lib.hid (HX.out.step hb)
      replace HL := Lib.hid (HL.out.step hb)
      replace HP := Lib.hid (HP.out.step hb)
      replace k0 := cell_of_ans hb k0
      replace k1 := cell_of_ans hb k1
      replace k2 := cell_of_ans hb k2
      replace k3 := cell_of_ans hb k3
      replace HB := Lib.hid (HB.out.trans (hb.mono HB.out.size))
      clear hb
      go_wp2_with fail
      refine (awake_c _).mono ?_
      rintro e w9 ⟨rfl, hb⟩
      replace HX := Lib.hid (HX.out.step hb)
      replace HL := Lib.hid (HL.out.step hb)
      replace HP := Lib.hid (HP.out.step hb)
      replace k0 := cell_of_ans hb k0
      replace k1 := cell_of_ans hb k1
      replace k2 := cell_of_ans hb k2
      replace k3 := cell_of_ans hb k3
      replace HB := Lib.hid (HB.out.trans (hb.mono HB.out.size))
      clear hb
      go_wp2_with fail
      go_ret
      exact ⟨rfl, HB.out⟩
    · have HF := Lib.hid hF
      have h25 : ls.length ≤ 25 := (fewB_le hF).1
      clear hF
      go_wp2_with fail
      refine (fewA_c A' ls c' _ HL.out hc').mono ?_
      rw [HF.out]
      rintro e w2 ⟨rfl, hb⟩
      replace HX := Lib.hid (HX.out.step hb)
      replace HL := Lib.hid (HL.out.step hb)
      replace HP := Lib.hid (HP.out.step hb)
      replace k0 := cell_of_ans hb k0
      replace k1 := cell_of_ans hb k1
      replace k2 := cell_of_ans hb k2
      replace k3 := cell_of_ans hb k3
      replace HB := Lib.hid (HB.out.trans (hb.mono HB.out.size))
      clear hb
      by_cases h30 : plan.length ≤ 30
      · have h30i : decide ((30 : Int) < (plan.length : Int)) = false := decide_eq_false (by omega)
        go_wp2_with fail
        refine (blocked_c A A' xss ls c c' lo hi ca _ HX.out HL.out hc hc').mono ?_
        rintro e w3 ⟨rfl, hb⟩
        replace HX := Lib.hid (HX.out.step hb)
        replace HL := Lib.hid (HL.out.step hb)
        replace HP := Lib.hid (HP.out.step hb)
        replace k0 := cell_of_ans hb k0
        replace k1 := cell_of_ans hb k1
        replace k2 := cell_of_ans hb k2
        replace k3 := cell_of_ans hb k3
        replace HB := Lib.hid (HB.out.trans (hb.mono HB.out.size))
        clear hb
        by_cases hbe : blockErr xss lo hi ca ls = 0
        · have HBE := Lib.hid hbe
          have HPE : Hid (provePlan xss lo hi ca ls plan = (isPlanB ls.length plan && rightB xss lo hi ca ls plan)) := by show _ = _; rw [provePlan_eq, decide_eq_true hbe, Bool.true_and]
          rw [hbe]
          clear hbe
          cases hip : isPlanB ls.length plan
          · have HV : Hid (provePlan xss lo hi ca ls plan = false) := by show _ = _; rw [HPE.out, hip]; rfl
            have HIP := Lib.hid hip
            clear hip HPE
            go_wp2_with fail
            refine (lane_c A xss c lo hi ca _ (Nat.le_refl _) HX.out (shortB_big (by omega) HS1.out).1 (shortB_big (by omega) HS1.out).2).mono ?_
            rintro e w4 ⟨A2, c2, rfl, hc2, g2, hb⟩
            replace HX := Lib.hid (HX.out.step hb)
            replace HL := Lib.hid (HL.out.step hb)
            replace HP := Lib.hid (HP.out.step hb)
            replace k0 := cell_of_ans hb k0
            replace k1 := cell_of_ans hb k1
            replace k2 := cell_of_ans hb k2
            replace k3 := cell_of_ans hb k3
            replace HB := Lib.hid (HB.out.trans (hb.mono HB.out.size))
            clear hb
            have Hg2 := Lib.hid g2
            clear g2
            go_wp2_with fail
            refine (block42_c A' ls c' _ HL.out HF.out hc').mono ?_
            rintro e w5 ⟨A3, c3, rfl, hc3, g3, hb⟩
            replace HX := Lib.hid (HX.out.step hb)
            replace HL := Lib.hid (HL.out.step hb)
            replace HP := Lib.hid (HP.out.step hb)
            replace k0 := cell_of_ans hb k0
            replace k1 := cell_of_ans hb k1
            replace k2 := cell_of_ans hb k2
            replace k3 := cell_of_ans hb k3
            replace Hg2 := Lib.hid (Hg2.out.step hb)
            replace HB := Lib.hid (HB.out.trans (hb.mono HB.out.size))
            clear hb
            have Hg3 := Lib.hid g3
            clear g3
            go_wp2_with fail
            refine (listI_c Ap plan cp _ HP.out (by omega)).mono ?_
            rintro e w6 ⟨A4, c4, rfl, hc4, g4, hb⟩
            replace HX := Lib.hid (HX.out.step hb)
            replace HL := Lib.hid (HL.out.step hb)
            replace HP := Lib.hid (HP.out.step hb)
            replace k0 := cell_of_ans hb k0
            replace k1 := cell_of_ans hb k1
            replace k2 := cell_of_ans hb k2
            replace k3 := cell_of_ans hb k3
            replace Hg2 := Lib.hid (Hg2.out.step hb)
            replace Hg3 := Lib.hid (Hg3.out.step hb)
            replace HB := Lib.hid (HB.out.trans (hb.mono HB.out.size))
            clear hb
            have Hg4 := Lib.hid g4
            clear g4
            go_wp2_with fail
            refine (provePlan_c A2 A3 A4 xss ls plan c2 c3 c4 lo hi ca _ Hg2.out Hg3.out Hg4.out hc2 hc3 hc4 (by omega)).mono ?_
            rw [HV.out]
            rintro e w7 ⟨rfl, hb⟩
            replace HX := Lib.hid (HX.out.step hb)
            replace HL := Lib.hid (HL.out.step hb)
            replace HP := Lib.hid (HP.out.step hb)
            replace k0 := cell_of_ans hb k0
            replace k1 := cell_of_ans hb k1
            replace k2 := cell_of_ans hb k2
            replace k3 := cell_of_ans hb k3
            replace Hg2 := Lib.hid (Hg2.out.step hb)
            replace Hg3 := Lib.hid (Hg3.out.step hb)
            replace Hg4 := Lib.hid (Hg4.out.step hb)
            replace HB := Lib.hid (HB.out.trans (hb.mono HB.out.size))
            clear hb
            clear Hg2 Hg3 Hg4
            clear hc2 hc3 hc4
            go_wp2_with fail
            refine (isPlanA_c A' Ap ls.length plan c' cp _ HP.out (by omega) hc' hcp).mono ?_
            rw [HIP.out]
            rintro e w8 ⟨rfl, hb⟩
            replace HX := Lib.hid (HX.out.step hb)
            replace HL := Lib.hid (HL.out.step hb)
            replace HP := Lib.hid (HP.out.step hb)
            replace k0 := cell_of_ans hb k0
            replace k1 := cell_of_ans hb k1
            replace k2 := cell_of_ans hb k2
            replace k3 := cell_of_ans hb k3
            replace HB := Lib.hid (HB.out.trans (hb.mono HB.out.size))
            clear hb
            by_cases h7 : ls.length ≤ 7
            · have h7i : decide ((7 : Int) < (ls.length : Int)) = false := decide_eq_false (by omega)
              cases hpl : planB xss lo hi ca ls with
              | none =>
                have HPL := Lib.hid hpl
                clear hpl
                go_wp2_with fail
                refine (lane_c A xss c lo hi ca _ (Nat.le_refl _) HX.out (shortB_big (by omega) HS1.out).1 (shortB_big (by omega) HS1.out).2).mono ?_
                rintro e w10 ⟨A5, c5, rfl, hc5, g5, hb⟩
                replace HX := Lib.hid (HX.out.step hb)
                replace HL := Lib.hid (HL.out.step hb)
                replace HP := Lib.hid (HP.out.step hb)
                replace k0 := cell_of_ans hb k0
                replace k1 := cell_of_ans hb k1
                replace k2 := cell_of_ans hb k2
                replace k3 := cell_of_ans hb k3
                replace HB := Lib.hid (HB.out.trans (hb.mono HB.out.size))
                clear hb
                have Hg5 := Lib.hid g5
                clear g5
                go_wp2_with fail
                refine (block42_c A' ls c' _ HL.out HF.out hc').mono ?_
                rintro e w11 ⟨A6, c6, rfl, hc6, g6, hb⟩
                replace HX := Lib.hid (HX.out.step hb)
                replace HL := Lib.hid (HL.out.step hb)
                replace HP := Lib.hid (HP.out.step hb)
                replace k0 := cell_of_ans hb k0
                replace k1 := cell_of_ans hb k1
                replace k2 := cell_of_ans hb k2
                replace k3 := cell_of_ans hb k3
                replace Hg5 := Lib.hid (Hg5.out.step hb)
                replace HB := Lib.hid (HB.out.trans (hb.mono HB.out.size))
                clear hb
                have Hg6 := Lib.hid g6
                clear g6
                go_wp2_with fail
                refine (plan_none_c A5 A6 xss ls c5 c6 lo hi ca _ Hg5.out Hg6.out hc5 hc6 HBE.out HPL.out).mono ?_
                rintro e w12 ⟨rfl, hb⟩
                replace HX := Lib.hid (HX.out.step hb)
                replace HL := Lib.hid (HL.out.step hb)
                replace HP := Lib.hid (HP.out.step hb)
                replace k0 := cell_of_ans hb k0
                replace k1 := cell_of_ans hb k1
                replace k2 := cell_of_ans hb k2
                replace k3 := cell_of_ans hb k3
                replace Hg5 := Lib.hid (Hg5.out.step hb)
                replace Hg6 := Lib.hid (Hg6.out.step hb)
                replace HB := Lib.hid (HB.out.trans (hb.mono HB.out.size))
                clear hb
                clear Hg5 Hg6
                clear hc5 hc6
                go_wp2_with fail
                refine (refPlan_none A A' xss ls c c' lo hi ca _ HX.out HL.out hc hc' HBE.out h7 HPL.out).mono ?_
                rintro e w13 ⟨rfl, hb⟩
                replace HX := Lib.hid (HX.out.step hb)
                replace HL := Lib.hid (HL.out.step hb)
                replace HP := Lib.hid (HP.out.step hb)
                replace k0 := cell_of_ans hb k0
                replace k1 := cell_of_ans hb k1
                replace k2 := cell_of_ans hb k2
                replace k3 := cell_of_ans hb k3
                replace HB := Lib.hid (HB.out.trans (hb.mono HB.out.size))
                clear hb
                go_wp2_with fail
                refine (intsNil_c _).mono ?_
                rintro e w14 ⟨rfl, hb⟩
                replace HX := Lib.hid (HX.out.step hb)
                replace HL := Lib.hid (HL.out.step hb)
                replace HP := Lib.hid (HP.out.step hb)
                replace k0 := cell_of_ans hb k0
                replace k1 := cell_of_ans hb k1
                replace k2 := cell_of_ans hb k2
                replace k3 := cell_of_ans hb k3
                replace HB := Lib.hid (HB.out.trans (hb.mono HB.out.size))
                clear hb
                go_wp2_with fail
                refine (awake_c _).mono ?_
                rintro e w15 ⟨rfl, hb⟩
                replace HX := Lib.hid (HX.out.step hb)
                replace HL := Lib.hid (HL.out.step hb)
                replace HP := Lib.hid (HP.out.step hb)
                replace k0 := cell_of_ans hb k0
                replace k1 := cell_of_ans hb k1
                replace k2 := cell_of_ans hb k2
                replace k3 := cell_of_ans hb k3
                replace HB := Lib.hid (HB.out.trans (hb.mono HB.out.size))
                clear hb
                go_wp2_with fail
                go_ret
                exact ⟨rfl, HB.out⟩
              | some q =>
                have HPL := Lib.hid hpl
                clear hpl
                go_wp2_with fail
                refine (lane_c A xss c lo hi ca _ (Nat.le_refl _) HX.out (shortB_big (by omega) HS1.out).1 (shortB_big (by omega) HS1.out).2).mono ?_
                rintro e w10 ⟨A5, c5, rfl, hc5, g5, hb⟩
                replace HX := Lib.hid (HX.out.step hb)
                replace HL := Lib.hid (HL.out.step hb)
                replace HP := Lib.hid (HP.out.step hb)
                replace k0 := cell_of_ans hb k0
                replace k1 := cell_of_ans hb k1
                replace k2 := cell_of_ans hb k2
                replace k3 := cell_of_ans hb k3
                replace HB := Lib.hid (HB.out.trans (hb.mono HB.out.size))
                clear hb
                have Hg5 := Lib.hid g5
                clear g5
                go_wp2_with fail
                refine (block42_c A' ls c' _ HL.out HF.out hc').mono ?_
                rintro e w11 ⟨A6, c6, rfl, hc6, g6, hb⟩
                replace HX := Lib.hid (HX.out.step hb)
                replace HL := Lib.hid (HL.out.step hb)
                replace HP := Lib.hid (HP.out.step hb)
                replace k0 := cell_of_ans hb k0
                replace k1 := cell_of_ans hb k1
                replace k2 := cell_of_ans hb k2
                replace k3 := cell_of_ans hb k3
                replace Hg5 := Lib.hid (Hg5.out.step hb)
                replace HB := Lib.hid (HB.out.trans (hb.mono HB.out.size))
                clear hb
                have Hg6 := Lib.hid g6
                clear g6
                go_wp2_with fail
                refine (plan_some A5 A6 xss ls c5 c6 lo hi ca _ Hg5.out Hg6.out hc5 hc6 HBE.out HPL.out).mono ?_
                rintro e w12 ⟨A7, c7, rfl, hc7, g7, hb⟩
                replace HX := Lib.hid (HX.out.step hb)
                replace HL := Lib.hid (HL.out.step hb)
                replace HP := Lib.hid (HP.out.step hb)
                replace k0 := cell_of_ans hb k0
                replace k1 := cell_of_ans hb k1
                replace k2 := cell_of_ans hb k2
                replace k3 := cell_of_ans hb k3
                replace Hg5 := Lib.hid (Hg5.out.step hb)
                replace Hg6 := Lib.hid (Hg6.out.step hb)
                replace HB := Lib.hid (HB.out.trans (hb.mono HB.out.size))
                clear hb
                have Hg7 := Lib.hid g7
                clear g7
                clear Hg5 Hg6
                clear hc5 hc6
                go_wp2_with fail
                refine (refPlan_some A A' xss ls c c' lo hi ca _ HX.out HL.out hc hc' HBE.out h7 HPL.out).mono ?_
                rintro e w13 ⟨A8, c8, rfl, hc8, g8, hb⟩
                replace HX := Lib.hid (HX.out.step hb)
                replace HL := Lib.hid (HL.out.step hb)
                replace HP := Lib.hid (HP.out.step hb)
                replace k0 := cell_of_ans hb k0
                replace k1 := cell_of_ans hb k1
                replace k2 := cell_of_ans hb k2
                replace k3 := cell_of_ans hb k3
                replace Hg7 := Lib.hid (Hg7.out.step hb)
                replace HB := Lib.hid (HB.out.trans (hb.mono HB.out.size))
                clear hb
                have Hg8 := Lib.hid g8
                clear g8
                have HEQ : Hid (eqB q q = true) := by show _ = _; simp [eqB]
                go_wp2_with fail
                refine (intsA_c A7 A8 q q c7 c8 _ Hg7.out Hg8.out hc7 hc8).mono ?_
                rw [HEQ.out]
                rintro e w14 ⟨rfl, hb⟩
                replace HX := Lib.hid (HX.out.step hb)
                replace HL := Lib.hid (HL.out.step hb)
                replace HP := Lib.hid (HP.out.step hb)
                replace k0 := cell_of_ans hb k0
                replace k1 := cell_of_ans hb k1
                replace k2 := cell_of_ans hb k2
                replace k3 := cell_of_ans hb k3
                replace Hg7 := Lib.hid (Hg7.out.step hb)
                replace Hg8 := Lib.hid (Hg8.out.step hb)
                replace HB := Lib.hid (HB.out.trans (hb.mono HB.out.size))
                clear hb
                go_wp2_with fail
                refine (awake_c _).mono ?_
                rintro e w15 ⟨rfl, hb⟩
                replace HX := Lib.hid (HX.out.step hb)
                replace HL := Lib.hid (HL.out.step hb)
                replace HP := Lib.hid (HP.out.step hb)
                replace k0 := cell_of_ans hb k0
                replace k1 := cell_of_ans hb k1
                replace k2 := cell_of_ans hb k2
                replace k3 := cell_of_ans hb k3
                replace Hg7 := Lib.hid (Hg7.out.step hb)
                replace Hg8 := Lib.hid (Hg8.out.step hb)
                replace HB := Lib.hid (HB.out.trans (hb.mono HB.out.size))
                clear hb
                go_wp2_with fail
                go_ret
                exact ⟨rfl, HB.out⟩
            · have h7i : decide ((7 : Int) < (ls.length : Int)) = true := decide_eq_true (by omega)
              go_wp2_with fail
              refine (awake_c _).mono ?_
              rintro e w9 ⟨rfl, hb⟩
              replace HX := Lib.hid (HX.out.step hb)
              replace HL := Lib.hid (HL.out.step hb)
              replace HP := Lib.hid (HP.out.step hb)
              replace k0 := cell_of_ans hb k0
              replace k1 := cell_of_ans hb k1
              replace k2 := cell_of_ans hb k2
              replace k3 := cell_of_ans hb k3
              replace HB := Lib.hid (HB.out.trans (hb.mono HB.out.size))
              clear hb
              go_wp2_with fail
              go_ret
              exact ⟨rfl, HB.out⟩
          · cases hrb : rightB xss lo hi ca ls plan
            · have HV : Hid (provePlan xss lo hi ca ls plan = false) := by show _ = _; rw [HPE.out, hip, hrb]; rfl
              have HIP := Lib.hid hip
              have HRB := Lib.hid hrb
              clear hip hrb HPE
              go_wp2_with fail
              refine (lane_c A xss c lo hi ca _ (Nat.le_refl _) HX.out (shortB_big (by omega) HS1.out).1 (shortB_big (by omega) HS1.out).2).mono ?_
              rintro e w4 ⟨A2, c2, rfl, hc2, g2, hb⟩
              replace HX := Lib.hid (HX.out.step hb)
              replace HL := Lib.hid (HL.out.step hb)
              replace HP := Lib.hid (HP.out.step hb)
              replace k0 := cell_of_ans hb k0
              replace k1 := cell_of_ans hb k1
              replace k2 := cell_of_ans hb k2
              replace k3 := cell_of_ans hb k3
              replace HB := Lib.hid (HB.out.trans (hb.mono HB.out.size))
              clear hb
              have Hg2 := Lib.hid g2
              clear g2
              go_wp2_with fail
              refine (block42_c A' ls c' _ HL.out HF.out hc').mono ?_
              rintro e w5 ⟨A3, c3, rfl, hc3, g3, hb⟩
              replace HX := Lib.hid (HX.out.step hb)
              replace HL := Lib.hid (HL.out.step hb)
              replace HP := Lib.hid (HP.out.step hb)
              replace k0 := cell_of_ans hb k0
              replace k1 := cell_of_ans hb k1
              replace k2 := cell_of_ans hb k2
              replace k3 := cell_of_ans hb k3
              replace Hg2 := Lib.hid (Hg2.out.step hb)
              replace HB := Lib.hid (HB.out.trans (hb.mono HB.out.size))
              clear hb
              have Hg3 := Lib.hid g3
              clear g3
              go_wp2_with fail
              refine (listI_c Ap plan cp _ HP.out (by omega)).mono ?_
              rintro e w6 ⟨A4, c4, rfl, hc4, g4, hb⟩
              replace HX := Lib.hid (HX.out.step hb)
              replace HL := Lib.hid (HL.out.step hb)
              replace HP := Lib.hid (HP.out.step hb)
              replace k0 := cell_of_ans hb k0
              replace k1 := cell_of_ans hb k1
              replace k2 := cell_of_ans hb k2
              replace k3 := cell_of_ans hb k3
              replace Hg2 := Lib.hid (Hg2.out.step hb)
              replace Hg3 := Lib.hid (Hg3.out.step hb)
              replace HB := Lib.hid (HB.out.trans (hb.mono HB.out.size))
              clear hb
              have Hg4 := Lib.hid g4
              clear g4
              go_wp2_with fail
              refine (provePlan_c A2 A3 A4 xss ls plan c2 c3 c4 lo hi ca _ Hg2.out Hg3.out Hg4.out hc2 hc3 hc4 (by omega)).mono ?_
              rw [HV.out]
              rintro e w7 ⟨rfl, hb⟩
              replace HX := Lib.hid (HX.out.step hb)
              replace HL := Lib.hid (HL.out.step hb)
              replace HP := Lib.hid (HP.out.step hb)
              replace k0 := cell_of_ans hb k0
              replace k1 := cell_of_ans hb k1
              replace k2 := cell_of_ans hb k2
              replace k3 := cell_of_ans hb k3
              replace Hg2 := Lib.hid (Hg2.out.step hb)
              replace Hg3 := Lib.hid (Hg3.out.step hb)
              replace Hg4 := Lib.hid (Hg4.out.step hb)
              replace HB := Lib.hid (HB.out.trans (hb.mono HB.out.size))
              clear hb
              clear Hg2 Hg3 Hg4
              clear hc2 hc3 hc4
              go_wp2_with fail
              refine (isPlanA_c A' Ap ls.length plan c' cp _ HP.out (by omega) hc' hcp).mono ?_
              rw [HIP.out]
              rintro e w8 ⟨rfl, hb⟩
              replace HX := Lib.hid (HX.out.step hb)
              replace HL := Lib.hid (HL.out.step hb)
              replace HP := Lib.hid (HP.out.step hb)
              replace k0 := cell_of_ans hb k0
              replace k1 := cell_of_ans hb k1
              replace k2 := cell_of_ans hb k2
              replace k3 := cell_of_ans hb k3
              replace HB := Lib.hid (HB.out.trans (hb.mono HB.out.size))
              clear hb
              go_wp2_with fail
              refine (right_c A A' Ap xss ls plan c c' cp lo hi ca _ HX.out HL.out HP.out hc hc' hcp (by omega) HBE.out).mono ?_
              rw [HRB.out]
              rintro e w9 ⟨rfl, hb⟩
              replace HX := Lib.hid (HX.out.step hb)
              replace HL := Lib.hid (HL.out.step hb)
              replace HP := Lib.hid (HP.out.step hb)
              replace k0 := cell_of_ans hb k0
              replace k1 := cell_of_ans hb k1
              replace k2 := cell_of_ans hb k2
              replace k3 := cell_of_ans hb k3
              replace HB := Lib.hid (HB.out.trans (hb.mono HB.out.size))
              clear hb
              by_cases h7 : ls.length ≤ 7
              · have h7i : decide ((7 : Int) < (ls.length : Int)) = false := decide_eq_false (by omega)
                cases hpl : planB xss lo hi ca ls with
                | none =>
                  have HPL := Lib.hid hpl
                  clear hpl
                  go_wp2_with fail
                  refine (lane_c A xss c lo hi ca _ (Nat.le_refl _) HX.out (shortB_big (by omega) HS1.out).1 (shortB_big (by omega) HS1.out).2).mono ?_
                  rintro e w10 ⟨A5, c5, rfl, hc5, g5, hb⟩
                  replace HX := Lib.hid (HX.out.step hb)
                  replace HL := Lib.hid (HL.out.step hb)
                  replace HP := Lib.hid (HP.out.step hb)
                  replace k0 := cell_of_ans hb k0
                  replace k1 := cell_of_ans hb k1
                  replace k2 := cell_of_ans hb k2
                  replace k3 := cell_of_ans hb k3
                  replace HB := Lib.hid (HB.out.trans (hb.mono HB.out.size))
                  clear hb
                  have Hg5 := Lib.hid g5
                  clear g5
                  go_wp2_with fail
                  refine (block42_c A' ls c' _ HL.out HF.out hc').mono ?_
                  rintro e w11 ⟨A6, c6, rfl, hc6, g6, hb⟩
                  replace HX := Lib.hid (HX.out.step hb)
                  replace HL := Lib.hid (HL.out.step hb)
                  replace HP := Lib.hid (HP.out.step hb)
                  replace k0 := cell_of_ans hb k0
                  replace k1 := cell_of_ans hb k1
                  replace k2 := cell_of_ans hb k2
                  replace k3 := cell_of_ans hb k3
                  replace Hg5 := Lib.hid (Hg5.out.step hb)
                  replace HB := Lib.hid (HB.out.trans (hb.mono HB.out.size))
                  clear hb
                  have Hg6 := Lib.hid g6
                  clear g6
                  go_wp2_with fail
                  refine (plan_none_c A5 A6 xss ls c5 c6 lo hi ca _ Hg5.out Hg6.out hc5 hc6 HBE.out HPL.out).mono ?_
                  rintro e w12 ⟨rfl, hb⟩
                  replace HX := Lib.hid (HX.out.step hb)
                  replace HL := Lib.hid (HL.out.step hb)
                  replace HP := Lib.hid (HP.out.step hb)
                  replace k0 := cell_of_ans hb k0
                  replace k1 := cell_of_ans hb k1
                  replace k2 := cell_of_ans hb k2
                  replace k3 := cell_of_ans hb k3
                  replace Hg5 := Lib.hid (Hg5.out.step hb)
                  replace Hg6 := Lib.hid (Hg6.out.step hb)
                  replace HB := Lib.hid (HB.out.trans (hb.mono HB.out.size))
                  clear hb
                  clear Hg5 Hg6
                  clear hc5 hc6
                  go_wp2_with fail
                  refine (refPlan_none A A' xss ls c c' lo hi ca _ HX.out HL.out hc hc' HBE.out h7 HPL.out).mono ?_
                  rintro e w13 ⟨rfl, hb⟩
                  replace HX := Lib.hid (HX.out.step hb)
                  replace HL := Lib.hid (HL.out.step hb)
                  replace HP := Lib.hid (HP.out.step hb)
                  replace k0 := cell_of_ans hb k0
                  replace k1 := cell_of_ans hb k1
                  replace k2 := cell_of_ans hb k2
                  replace k3 := cell_of_ans hb k3
                  replace HB := Lib.hid (HB.out.trans (hb.mono HB.out.size))
                  clear hb
                  go_wp2_with fail
                  refine (intsNil_c _).mono ?_
                  rintro e w14 ⟨rfl, hb⟩
                  replace HX := Lib.hid (HX.out.step hb)
                  replace HL := Lib.hid (HL.out.step hb)
                  replace HP := Lib.hid (HP.out.step hb)
                  replace k0 := cell_of_ans hb k0
                  replace k1 := cell_of_ans hb k1
                  replace k2 := cell_of_ans hb k2
                  replace k3 := cell_of_ans hb k3
                  replace HB := Lib.hid (HB.out.trans (hb.mono HB.out.size))
                  clear hb
                  go_wp2_with fail
                  refine (awake_c _).mono ?_
                  rintro e w15 ⟨rfl, hb⟩
                  replace HX := Lib.hid (HX.out.step hb)
                  replace HL := Lib.hid (HL.out.step hb)
                  replace HP := Lib.hid (HP.out.step hb)
                  replace k0 := cell_of_ans hb k0
                  replace k1 := cell_of_ans hb k1
                  replace k2 := cell_of_ans hb k2
                  replace k3 := cell_of_ans hb k3
                  replace HB := Lib.hid (HB.out.trans (hb.mono HB.out.size))
                  clear hb
                  go_wp2_with fail
                  go_ret
                  exact ⟨rfl, HB.out⟩
                | some q =>
                  have HPL := Lib.hid hpl
                  clear hpl
                  go_wp2_with fail
                  refine (lane_c A xss c lo hi ca _ (Nat.le_refl _) HX.out (shortB_big (by omega) HS1.out).1 (shortB_big (by omega) HS1.out).2).mono ?_
                  rintro e w10 ⟨A5, c5, rfl, hc5, g5, hb⟩
                  replace HX := Lib.hid (HX.out.step hb)
                  replace HL := Lib.hid (HL.out.step hb)
                  replace HP := Lib.hid (HP.out.step hb)
                  replace k0 := cell_of_ans hb k0
                  replace k1 := cell_of_ans hb k1
                  replace k2 := cell_of_ans hb k2
                  replace k3 := cell_of_ans hb k3
                  replace HB := Lib.hid (HB.out.trans (hb.mono HB.out.size))
                  clear hb
                  have Hg5 := Lib.hid g5
                  clear g5
                  go_wp2_with fail
                  refine (block42_c A' ls c' _ HL.out HF.out hc').mono ?_
                  rintro e w11 ⟨A6, c6, rfl, hc6, g6, hb⟩
                  replace HX := Lib.hid (HX.out.step hb)
                  replace HL := Lib.hid (HL.out.step hb)
                  replace HP := Lib.hid (HP.out.step hb)
                  replace k0 := cell_of_ans hb k0
                  replace k1 := cell_of_ans hb k1
                  replace k2 := cell_of_ans hb k2
                  replace k3 := cell_of_ans hb k3
                  replace Hg5 := Lib.hid (Hg5.out.step hb)
                  replace HB := Lib.hid (HB.out.trans (hb.mono HB.out.size))
                  clear hb
                  have Hg6 := Lib.hid g6
                  clear g6
                  go_wp2_with fail
                  refine (plan_some A5 A6 xss ls c5 c6 lo hi ca _ Hg5.out Hg6.out hc5 hc6 HBE.out HPL.out).mono ?_
                  rintro e w12 ⟨A7, c7, rfl, hc7, g7, hb⟩
                  replace HX := Lib.hid (HX.out.step hb)
                  replace HL := Lib.hid (HL.out.step hb)
                  replace HP := Lib.hid (HP.out.step hb)
                  replace k0 := cell_of_ans hb k0
                  replace k1 := cell_of_ans hb k1
                  replace k2 := cell_of_ans hb k2
                  replace k3 := cell_of_ans hb k3
                  replace Hg5 := Lib.hid (Hg5.out.step hb)
                  replace Hg6 := Lib.hid (Hg6.out.step hb)
                  replace HB := Lib.hid (HB.out.trans (hb.mono HB.out.size))
                  clear hb
                  have Hg7 := Lib.hid g7
                  clear g7
                  clear Hg5 Hg6
                  clear hc5 hc6
                  go_wp2_with fail
                  refine (refPlan_some A A' xss ls c c' lo hi ca _ HX.out HL.out hc hc' HBE.out h7 HPL.out).mono ?_
                  rintro e w13 ⟨A8, c8, rfl, hc8, g8, hb⟩
                  replace HX := Lib.hid (HX.out.step hb)
                  replace HL := Lib.hid (HL.out.step hb)
                  replace HP := Lib.hid (HP.out.step hb)
                  replace k0 := cell_of_ans hb k0
                  replace k1 := cell_of_ans hb k1
                  replace k2 := cell_of_ans hb k2
                  replace k3 := cell_of_ans hb k3
                  replace Hg7 := Lib.hid (Hg7.out.step hb)
                  replace HB := Lib.hid (HB.out.trans (hb.mono HB.out.size))
                  clear hb
                  have Hg8 := Lib.hid g8
                  clear g8
                  have HEQ : Hid (eqB q q = true) := by show _ = _; simp [eqB]
                  go_wp2_with fail
                  refine (intsA_c A7 A8 q q c7 c8 _ Hg7.out Hg8.out hc7 hc8).mono ?_
                  rw [HEQ.out]
                  rintro e w14 ⟨rfl, hb⟩
                  replace HX := Lib.hid (HX.out.step hb)
                  replace HL := Lib.hid (HL.out.step hb)
                  replace HP := Lib.hid (HP.out.step hb)
                  replace k0 := cell_of_ans hb k0
                  replace k1 := cell_of_ans hb k1
                  replace k2 := cell_of_ans hb k2
                  replace k3 := cell_of_ans hb k3
                  replace Hg7 := Lib.hid (Hg7.out.step hb)
                  replace Hg8 := Lib.hid (Hg8.out.step hb)
                  replace HB := Lib.hid (HB.out.trans (hb.mono HB.out.size))
                  clear hb
                  go_wp2_with fail
                  refine (awake_c _).mono ?_
                  rintro e w15 ⟨rfl, hb⟩
                  replace HX := Lib.hid (HX.out.step hb)
                  replace HL := Lib.hid (HL.out.step hb)
                  replace HP := Lib.hid (HP.out.step hb)
                  replace k0 := cell_of_ans hb k0
                  replace k1 := cell_of_ans hb k1
                  replace k2 := cell_of_ans hb k2
                  replace k3 := cell_of_ans hb k3
                  replace Hg7 := Lib.hid (Hg7.out.step hb)
                  replace Hg8 := Lib.hid (Hg8.out.step hb)
                  replace HB := Lib.hid (HB.out.trans (hb.mono HB.out.size))
                  clear hb
                  go_wp2_with fail
                  go_ret
                  exact ⟨rfl, HB.out⟩
              · have h7i : decide ((7 : Int) < (ls.length : Int)) = true := decide_eq_true (by omega)
                go_wp2_with fail
                refine (awake_c _).mono ?_
                rintro e w9 ⟨rfl, hb⟩
                replace HX := Lib.hid (HX.out.step hb)
                replace HL := Lib.hid (HL.out.step hb)
                replace HP := Lib.hid (HP.out.step hb)
                replace k0 := cell_of_ans hb k0
                replace k1 := cell_of_ans hb k1
                replace k2 := cell_of_ans hb k2
                replace k3 := cell_of_ans hb k3
                replace HB := Lib.hid (HB.out.trans (hb.mono HB.out.size))
                clear hb
                go_wp2_with fail
                go_ret
                exact ⟨rfl, HB.out⟩
            · have HV : Hid (provePlan xss lo hi ca ls plan = true) := by show _ = _; rw [HPE.out, hip, hrb]; rfl
              have HIP := Lib.hid hip
              have HRB := Lib.hid hrb
              clear hip hrb HPE
              go_wp2_with fail
              refine (lane_c A xss c lo hi ca _ (Nat.le_refl _) HX.out (shortB_big (by omega) HS1.out).1 (shortB_big (by omega) HS1.out).2).mono ?_
              rintro e w4 ⟨A2, c2, rfl, hc2, g2, hb⟩
              replace HX := Lib.hid (HX.out.step hb)
              replace HL := Lib.hid (HL.out.step hb)
              replace HP := Lib.hid (HP.out.step hb)
              replace k0 := cell_of_ans hb k0
              replace k1 := cell_of_ans hb k1
              replace k2 := cell_of_ans hb k2
              replace k3 := cell_of_ans hb k3
              replace HB := Lib.hid (HB.out.trans (hb.mono HB.out.size))
              clear hb
              have Hg2 := Lib.hid g2
              clear g2
              go_wp2_with fail
              refine (block42_c A' ls c' _ HL.out HF.out hc').mono ?_
              rintro e w5 ⟨A3, c3, rfl, hc3, g3, hb⟩
              replace HX := Lib.hid (HX.out.step hb)
              replace HL := Lib.hid (HL.out.step hb)
              replace HP := Lib.hid (HP.out.step hb)
              replace k0 := cell_of_ans hb k0
              replace k1 := cell_of_ans hb k1
              replace k2 := cell_of_ans hb k2
              replace k3 := cell_of_ans hb k3
              replace Hg2 := Lib.hid (Hg2.out.step hb)
              replace HB := Lib.hid (HB.out.trans (hb.mono HB.out.size))
              clear hb
              have Hg3 := Lib.hid g3
              clear g3
              go_wp2_with fail
              refine (listI_c Ap plan cp _ HP.out (by omega)).mono ?_
              rintro e w6 ⟨A4, c4, rfl, hc4, g4, hb⟩
              replace HX := Lib.hid (HX.out.step hb)
              replace HL := Lib.hid (HL.out.step hb)
              replace HP := Lib.hid (HP.out.step hb)
              replace k0 := cell_of_ans hb k0
              replace k1 := cell_of_ans hb k1
              replace k2 := cell_of_ans hb k2
              replace k3 := cell_of_ans hb k3
              replace Hg2 := Lib.hid (Hg2.out.step hb)
              replace Hg3 := Lib.hid (Hg3.out.step hb)
              replace HB := Lib.hid (HB.out.trans (hb.mono HB.out.size))
              clear hb
              have Hg4 := Lib.hid g4
              clear g4
              go_wp2_with fail
              refine (provePlan_c A2 A3 A4 xss ls plan c2 c3 c4 lo hi ca _ Hg2.out Hg3.out Hg4.out hc2 hc3 hc4 (by omega)).mono ?_
              rw [HV.out]
              rintro e w7 ⟨rfl, hb⟩
              replace HX := Lib.hid (HX.out.step hb)
              replace HL := Lib.hid (HL.out.step hb)
              replace HP := Lib.hid (HP.out.step hb)
              replace k0 := cell_of_ans hb k0
              replace k1 := cell_of_ans hb k1
              replace k2 := cell_of_ans hb k2
              replace k3 := cell_of_ans hb k3
              replace Hg2 := Lib.hid (Hg2.out.step hb)
              replace Hg3 := Lib.hid (Hg3.out.step hb)
              replace Hg4 := Lib.hid (Hg4.out.step hb)
              replace HB := Lib.hid (HB.out.trans (hb.mono HB.out.size))
              clear hb
              clear Hg2 Hg3 Hg4
              clear hc2 hc3 hc4
              go_wp2_with fail
              refine (isPlanA_c A' Ap ls.length plan c' cp _ HP.out (by omega) hc' hcp).mono ?_
              rw [HIP.out]
              rintro e w8 ⟨rfl, hb⟩
              replace HX := Lib.hid (HX.out.step hb)
              replace HL := Lib.hid (HL.out.step hb)
              replace HP := Lib.hid (HP.out.step hb)
              replace k0 := cell_of_ans hb k0
              replace k1 := cell_of_ans hb k1
              replace k2 := cell_of_ans hb k2
              replace k3 := cell_of_ans hb k3
              replace HB := Lib.hid (HB.out.trans (hb.mono HB.out.size))
              clear hb
              go_wp2_with fail
              refine (right_c A A' Ap xss ls plan c c' cp lo hi ca _ HX.out HL.out HP.out hc hc' hcp (by omega) HBE.out).mono ?_
              rw [HRB.out]
              rintro e w9 ⟨rfl, hb⟩
              replace HX := Lib.hid (HX.out.step hb)
              replace HL := Lib.hid (HL.out.step hb)
              replace HP := Lib.hid (HP.out.step hb)
              replace k0 := cell_of_ans hb k0
              replace k1 := cell_of_ans hb k1
              replace k2 := cell_of_ans hb k2
              replace k3 := cell_of_ans hb k3
              replace HB := Lib.hid (HB.out.trans (hb.mono HB.out.size))
              clear hb
              by_cases h7 : ls.length ≤ 7
              · have h7i : decide ((7 : Int) < (ls.length : Int)) = false := decide_eq_false (by omega)
                cases hpl : planB xss lo hi ca ls with
                | none =>
                  have HPL := Lib.hid hpl
                  clear hpl
                  go_wp2_with fail
                  refine (lane_c A xss c lo hi ca _ (Nat.le_refl _) HX.out (shortB_big (by omega) HS1.out).1 (shortB_big (by omega) HS1.out).2).mono ?_
                  rintro e w10 ⟨A5, c5, rfl, hc5, g5, hb⟩
                  replace HX := Lib.hid (HX.out.step hb)
                  replace HL := Lib.hid (HL.out.step hb)
                  replace HP := Lib.hid (HP.out.step hb)
                  replace k0 := cell_of_ans hb k0
                  replace k1 := cell_of_ans hb k1
                  replace k2 := cell_of_ans hb k2
                  replace k3 := cell_of_ans hb k3
                  replace HB := Lib.hid (HB.out.trans (hb.mono HB.out.size))
                  clear hb
                  have Hg5 := Lib.hid g5
                  clear g5
                  go_wp2_with fail
                  refine (block42_c A' ls c' _ HL.out HF.out hc').mono ?_
                  rintro e w11 ⟨A6, c6, rfl, hc6, g6, hb⟩
                  replace HX := Lib.hid (HX.out.step hb)
                  replace HL := Lib.hid (HL.out.step hb)
                  replace HP := Lib.hid (HP.out.step hb)
                  replace k0 := cell_of_ans hb k0
                  replace k1 := cell_of_ans hb k1
                  replace k2 := cell_of_ans hb k2
                  replace k3 := cell_of_ans hb k3
                  replace Hg5 := Lib.hid (Hg5.out.step hb)
                  replace HB := Lib.hid (HB.out.trans (hb.mono HB.out.size))
                  clear hb
                  have Hg6 := Lib.hid g6
                  clear g6
                  go_wp2_with fail
                  refine (plan_none_c A5 A6 xss ls c5 c6 lo hi ca _ Hg5.out Hg6.out hc5 hc6 HBE.out HPL.out).mono ?_
                  rintro e w12 ⟨rfl, hb⟩
                  replace HX := Lib.hid (HX.out.step hb)
                  replace HL := Lib.hid (HL.out.step hb)
                  replace HP := Lib.hid (HP.out.step hb)
                  replace k0 := cell_of_ans hb k0
                  replace k1 := cell_of_ans hb k1
                  replace k2 := cell_of_ans hb k2
                  replace k3 := cell_of_ans hb k3
                  replace Hg5 := Lib.hid (Hg5.out.step hb)
                  replace Hg6 := Lib.hid (Hg6.out.step hb)
                  replace HB := Lib.hid (HB.out.trans (hb.mono HB.out.size))
                  clear hb
                  clear Hg5 Hg6
                  clear hc5 hc6
                  go_wp2_with fail
                  refine (refPlan_none A A' xss ls c c' lo hi ca _ HX.out HL.out hc hc' HBE.out h7 HPL.out).mono ?_
                  rintro e w13 ⟨rfl, hb⟩
                  replace HX := Lib.hid (HX.out.step hb)
                  replace HL := Lib.hid (HL.out.step hb)
                  replace HP := Lib.hid (HP.out.step hb)
                  replace k0 := cell_of_ans hb k0
                  replace k1 := cell_of_ans hb k1
                  replace k2 := cell_of_ans hb k2
                  replace k3 := cell_of_ans hb k3
                  replace HB := Lib.hid (HB.out.trans (hb.mono HB.out.size))
                  clear hb
                  go_wp2_with fail
                  refine (intsNil_c _).mono ?_
                  rintro e w14 ⟨rfl, hb⟩
                  replace HX := Lib.hid (HX.out.step hb)
                  replace HL := Lib.hid (HL.out.step hb)
                  replace HP := Lib.hid (HP.out.step hb)
                  replace k0 := cell_of_ans hb k0
                  replace k1 := cell_of_ans hb k1
                  replace k2 := cell_of_ans hb k2
                  replace k3 := cell_of_ans hb k3
                  replace HB := Lib.hid (HB.out.trans (hb.mono HB.out.size))
                  clear hb
                  go_wp2_with fail
                  refine (awake_c _).mono ?_
                  rintro e w15 ⟨rfl, hb⟩
                  replace HX := Lib.hid (HX.out.step hb)
                  replace HL := Lib.hid (HL.out.step hb)
                  replace HP := Lib.hid (HP.out.step hb)
                  replace k0 := cell_of_ans hb k0
                  replace k1 := cell_of_ans hb k1
                  replace k2 := cell_of_ans hb k2
                  replace k3 := cell_of_ans hb k3
                  replace HB := Lib.hid (HB.out.trans (hb.mono HB.out.size))
                  clear hb
                  go_wp2_with fail
                  go_ret
                  exact ⟨rfl, HB.out⟩
                | some q =>
                  have HPL := Lib.hid hpl
                  clear hpl
                  go_wp2_with fail
                  refine (lane_c A xss c lo hi ca _ (Nat.le_refl _) HX.out (shortB_big (by omega) HS1.out).1 (shortB_big (by omega) HS1.out).2).mono ?_
                  rintro e w10 ⟨A5, c5, rfl, hc5, g5, hb⟩
                  replace HX := Lib.hid (HX.out.step hb)
                  replace HL := Lib.hid (HL.out.step hb)
                  replace HP := Lib.hid (HP.out.step hb)
                  replace k0 := cell_of_ans hb k0
                  replace k1 := cell_of_ans hb k1
                  replace k2 := cell_of_ans hb k2
                  replace k3 := cell_of_ans hb k3
                  replace HB := Lib.hid (HB.out.trans (hb.mono HB.out.size))
                  clear hb
                  have Hg5 := Lib.hid g5
                  clear g5
                  go_wp2_with fail
                  refine (block42_c A' ls c' _ HL.out HF.out hc').mono ?_
                  rintro e w11 ⟨A6, c6, rfl, hc6, g6, hb⟩
                  replace HX := Lib.hid (HX.out.step hb)
                  replace HL := Lib.hid (HL.out.step hb)
                  replace HP := Lib.hid (HP.out.step hb)
                  replace k0 := cell_of_ans hb k0
                  replace k1 := cell_of_ans hb k1
                  replace k2 := cell_of_ans hb k2
                  replace k3 := cell_of_ans hb k3
                  replace Hg5 := Lib.hid (Hg5.out.step hb)
                  replace HB := Lib.hid (HB.out.trans (hb.mono HB.out.size))
                  clear hb
                  have Hg6 := Lib.hid g6
                  clear g6
                  go_wp2_with fail
                  refine (plan_some A5 A6 xss ls c5 c6 lo hi ca _ Hg5.out Hg6.out hc5 hc6 HBE.out HPL.out).mono ?_
                  rintro e w12 ⟨A7, c7, rfl, hc7, g7, hb⟩
                  replace HX := Lib.hid (HX.out.step hb)
                  replace HL := Lib.hid (HL.out.step hb)
                  replace HP := Lib.hid (HP.out.step hb)
                  replace k0 := cell_of_ans hb k0
                  replace k1 := cell_of_ans hb k1
                  replace k2 := cell_of_ans hb k2
                  replace k3 := cell_of_ans hb k3
                  replace Hg5 := Lib.hid (Hg5.out.step hb)
                  replace Hg6 := Lib.hid (Hg6.out.step hb)
                  replace HB := Lib.hid (HB.out.trans (hb.mono HB.out.size))
                  clear hb
                  have Hg7 := Lib.hid g7
                  clear g7
                  clear Hg5 Hg6
                  clear hc5 hc6
                  go_wp2_with fail
                  refine (refPlan_some A A' xss ls c c' lo hi ca _ HX.out HL.out hc hc' HBE.out h7 HPL.out).mono ?_
                  rintro e w13 ⟨A8, c8, rfl, hc8, g8, hb⟩
                  replace HX := Lib.hid (HX.out.step hb)
                  replace HL := Lib.hid (HL.out.step hb)
                  replace HP := Lib.hid (HP.out.step hb)
                  replace k0 := cell_of_ans hb k0
                  replace k1 := cell_of_ans hb k1
                  replace k2 := cell_of_ans hb k2
                  replace k3 := cell_of_ans hb k3
                  replace Hg7 := Lib.hid (Hg7.out.step hb)
                  replace HB := Lib.hid (HB.out.trans (hb.mono HB.out.size))
                  clear hb
                  have Hg8 := Lib.hid g8
                  clear g8
                  have HEQ : Hid (eqB q q = true) := by show _ = _; simp [eqB]
                  go_wp2_with fail
                  refine (intsA_c A7 A8 q q c7 c8 _ Hg7.out Hg8.out hc7 hc8).mono ?_
                  rw [HEQ.out]
                  rintro e w14 ⟨rfl, hb⟩
                  replace HX := Lib.hid (HX.out.step hb)
                  replace HL := Lib.hid (HL.out.step hb)
                  replace HP := Lib.hid (HP.out.step hb)
                  replace k0 := cell_of_ans hb k0
                  replace k1 := cell_of_ans hb k1
                  replace k2 := cell_of_ans hb k2
                  replace k3 := cell_of_ans hb k3
                  replace Hg7 := Lib.hid (Hg7.out.step hb)
                  replace Hg8 := Lib.hid (Hg8.out.step hb)
                  replace HB := Lib.hid (HB.out.trans (hb.mono HB.out.size))
                  clear hb
                  go_wp2_with fail
                  refine (awake_c _).mono ?_
                  rintro e w15 ⟨rfl, hb⟩
                  replace HX := Lib.hid (HX.out.step hb)
                  replace HL := Lib.hid (HL.out.step hb)
                  replace HP := Lib.hid (HP.out.step hb)
                  replace k0 := cell_of_ans hb k0
                  replace k1 := cell_of_ans hb k1
                  replace k2 := cell_of_ans hb k2
                  replace k3 := cell_of_ans hb k3
                  replace Hg7 := Lib.hid (Hg7.out.step hb)
                  replace Hg8 := Lib.hid (Hg8.out.step hb)
                  replace HB := Lib.hid (HB.out.trans (hb.mono HB.out.size))
                  clear hb
                  go_wp2_with fail
                  go_ret
                  exact ⟨rfl, HB.out⟩
              · have h7i : decide ((7 : Int) < (ls.length : Int)) = true := decide_eq_true (by omega)
                go_wp2_with fail
                refine (awake_c _).mono ?_
                rintro e w9 ⟨rfl, hb⟩
                replace HX := Lib.hid (HX.out.step hb)
                replace HL := Lib.hid (HL.out.step hb)
                replace HP := Lib.hid (HP.out.step hb)
                replace k0 := cell_of_ans hb k0
                replace k1 := cell_of_ans hb k1
                replace k2 := cell_of_ans hb k2
                replace k3 := cell_of_ans hb k3
                replace HB := Lib.hid (HB.out.trans (hb.mono HB.out.size))
                clear hb
                go_wp2_with fail
                go_ret
                exact ⟨rfl, HB.out⟩
        · have HBE := Lib.hid hbe
          have HV : Hid (provePlan xss lo hi ca ls plan = false) := by show _ = _; unfold provePlan; rw [decide_eq_false hbe]; rfl
          have z1 : (blockErr xss lo hi ca ls == 0) = false := by simp [hbe]
          have z2 : (blockErr xss lo hi ca ls == blockErr xss lo hi ca ls) = true := by simp
          clear hbe
          go_wp2_with fail
          refine (lane_c A xss c lo hi ca _ (Nat.le_refl _) HX.out (shortB_big (by omega) HS1.out).1 (shortB_big (by omega) HS1.out).2).mono ?_
          rintro e w4 ⟨A2, c2, rfl, hc2, g2, hb⟩
          replace HX := Lib.hid (HX.out.step hb)
          replace HL := Lib.hid (HL.out.step hb)
          replace HP := Lib.hid (HP.out.step hb)
          replace k0 := cell_of_ans hb k0
          replace k1 := cell_of_ans hb k1
          replace k2 := cell_of_ans hb k2
          replace k3 := cell_of_ans hb k3
          replace HB := Lib.hid (HB.out.trans (hb.mono HB.out.size))
          clear hb
          have Hg2 := Lib.hid g2
          clear g2
          go_wp2_with fail
          refine (block42_c A' ls c' _ HL.out HF.out hc').mono ?_
          rintro e w5 ⟨A3, c3, rfl, hc3, g3, hb⟩
          replace HX := Lib.hid (HX.out.step hb)
          replace HL := Lib.hid (HL.out.step hb)
          replace HP := Lib.hid (HP.out.step hb)
          replace k0 := cell_of_ans hb k0
          replace k1 := cell_of_ans hb k1
          replace k2 := cell_of_ans hb k2
          replace k3 := cell_of_ans hb k3
          replace Hg2 := Lib.hid (Hg2.out.step hb)
          replace HB := Lib.hid (HB.out.trans (hb.mono HB.out.size))
          clear hb
          have Hg3 := Lib.hid g3
          clear g3
          go_wp2_with fail
          refine (listI_c Ap plan cp _ HP.out (by omega)).mono ?_
          rintro e w6 ⟨A4, c4, rfl, hc4, g4, hb⟩
          replace HX := Lib.hid (HX.out.step hb)
          replace HL := Lib.hid (HL.out.step hb)
          replace HP := Lib.hid (HP.out.step hb)
          replace k0 := cell_of_ans hb k0
          replace k1 := cell_of_ans hb k1
          replace k2 := cell_of_ans hb k2
          replace k3 := cell_of_ans hb k3
          replace Hg2 := Lib.hid (Hg2.out.step hb)
          replace Hg3 := Lib.hid (Hg3.out.step hb)
          replace HB := Lib.hid (HB.out.trans (hb.mono HB.out.size))
          clear hb
          have Hg4 := Lib.hid g4
          clear g4
          go_wp2_with fail
          refine (provePlan_c A2 A3 A4 xss ls plan c2 c3 c4 lo hi ca _ Hg2.out Hg3.out Hg4.out hc2 hc3 hc4 (by omega)).mono ?_
          rw [HV.out]
          rintro e w7 ⟨rfl, hb⟩
          replace HX := Lib.hid (HX.out.step hb)
          replace HL := Lib.hid (HL.out.step hb)
          replace HP := Lib.hid (HP.out.step hb)
          replace k0 := cell_of_ans hb k0
          replace k1 := cell_of_ans hb k1
          replace k2 := cell_of_ans hb k2
          replace k3 := cell_of_ans hb k3
          replace Hg2 := Lib.hid (Hg2.out.step hb)
          replace Hg3 := Lib.hid (Hg3.out.step hb)
          replace Hg4 := Lib.hid (Hg4.out.step hb)
          replace HB := Lib.hid (HB.out.trans (hb.mono HB.out.size))
          clear hb
          clear Hg2 Hg3 Hg4
          clear hc2 hc3 hc4
          go_wp2_with fail
          refine (lane_c A xss c lo hi ca _ (Nat.le_refl _) HX.out (shortB_big (by omega) HS1.out).1 (shortB_big (by omega) HS1.out).2).mono ?_
          rintro e w10 ⟨A5, c5, rfl, hc5, g5, hb⟩
          replace HX := Lib.hid (HX.out.step hb)
          replace HL := Lib.hid (HL.out.step hb)
          replace HP := Lib.hid (HP.out.step hb)
          replace k0 := cell_of_ans hb k0
          replace k1 := cell_of_ans hb k1
          replace k2 := cell_of_ans hb k2
          replace k3 := cell_of_ans hb k3
          replace HB := Lib.hid (HB.out.trans (hb.mono HB.out.size))
          clear hb
          have Hg5 := Lib.hid g5
          clear g5
          go_wp2_with fail
          refine (block42_c A' ls c' _ HL.out HF.out hc').mono ?_
          rintro e w11 ⟨A6, c6, rfl, hc6, g6, hb⟩
          replace HX := Lib.hid (HX.out.step hb)
          replace HL := Lib.hid (HL.out.step hb)
          replace HP := Lib.hid (HP.out.step hb)
          replace k0 := cell_of_ans hb k0
          replace k1 := cell_of_ans hb k1
          replace k2 := cell_of_ans hb k2
          replace k3 := cell_of_ans hb k3
          replace Hg5 := Lib.hid (Hg5.out.step hb)
          replace HB := Lib.hid (HB.out.trans (hb.mono HB.out.size))
          clear hb
          have Hg6 := Lib.hid g6
          clear g6
          go_wp2_with fail
          refine (plan_bad A5 A6 xss ls c5 c6 lo hi ca _ Hg5.out Hg6.out hc5 hc6 HBE.out).mono ?_
          rintro e w12 ⟨rfl, hb⟩
          replace HX := Lib.hid (HX.out.step hb)
          replace HL := Lib.hid (HL.out.step hb)
          replace HP := Lib.hid (HP.out.step hb)
          replace k0 := cell_of_ans hb k0
          replace k1 := cell_of_ans hb k1
          replace k2 := cell_of_ans hb k2
          replace k3 := cell_of_ans hb k3
          replace Hg5 := Lib.hid (Hg5.out.step hb)
          replace Hg6 := Lib.hid (Hg6.out.step hb)
          replace HB := Lib.hid (HB.out.trans (hb.mono HB.out.size))
          clear hb
          clear Hg5 Hg6
          clear hc5 hc6
          go_wp2_with fail
          refine (intsNil_c _).mono ?_
          rintro e w14 ⟨rfl, hb⟩
          replace HX := Lib.hid (HX.out.step hb)
          replace HL := Lib.hid (HL.out.step hb)
          replace HP := Lib.hid (HP.out.step hb)
          replace k0 := cell_of_ans hb k0
          replace k1 := cell_of_ans hb k1
          replace k2 := cell_of_ans hb k2
          replace k3 := cell_of_ans hb k3
          replace HB := Lib.hid (HB.out.trans (hb.mono HB.out.size))
          clear hb
          go_wp2_with fail
          refine (awake_c _).mono ?_
          rintro e w15 ⟨rfl, hb⟩
          replace HX := Lib.hid (HX.out.step hb)
          replace HL := Lib.hid (HL.out.step hb)
          replace HP := Lib.hid (HP.out.step hb)
          replace k0 := cell_of_ans hb k0
          replace k1 := cell_of_ans hb k1
          replace k2 := cell_of_ans hb k2
          replace k3 := cell_of_ans hb k3
          replace HB := Lib.hid (HB.out.trans (hb.mono HB.out.size))
          clear hb
          go_wp2_with fail
          go_ret
          exact ⟨rfl, HB.out⟩
      · have h30i : decide ((30 : Int) < (plan.length : Int)) = true := decide_eq_true (by omega)
        go_wp2_with fail
        refine (awake_c _).mono ?_
        rintro e w9 ⟨rfl, hb⟩
        replace HX := Lib.hid (HX.out.step hb)
        replace HL := Lib.hid (HL.out.step hb)
        replace HP := Lib.hid (HP.out.step hb)
        replace k0 := cell_of_ans hb k0
        replace k1 := cell_of_ans hb k1
        replace k2 := cell_of_ans hb k2
        replace k3 := cell_of_ans hb k3
        replace HB := Lib.hid (HB.out.trans (hb.mono HB.out.size))
        clear hb
        go_wp2_with fail
        go_ret
        exact ⟨rfl, HB.out⟩
end
end Go.Proofs.Ytgnonfomlgkpcaa
