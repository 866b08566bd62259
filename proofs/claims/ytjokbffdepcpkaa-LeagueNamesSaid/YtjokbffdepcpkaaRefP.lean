/-
  The reference's Less, RulesOut.
-/
import Derived.Test.YtjokbffdepcpkaaRefO
namespace Go.Proofs.Ytjokbffdepcpkaa
open Go.RowKit
set_option linter.unusedSimpArgs false
set_option linter.unusedVariables false

attribute [local go_sem] Oper.semAt_some
theorem lexB_at : ∀ (a b : List Int) (k : Nat), k < a.length → a.length = b.length → (∀ j, j < k → ix a j = ix b j) → ix a k ≠ ix b k → lexB a b = decide (ix a k < ix b k)
  | [], b, k, h, _, _, _ => by simp at h
  | x :: a, [], k, _, h, _, _ => by simp at h
  | x :: a, y :: b, 0, _, _, _, hne => by
    have : ¬ x = y := by simpa [ix] using hne
    simp [lexB, this, ix]
  | x :: a, y :: b, k + 1, h, hl, he, hne => by
    have e0 : x = y := by simpa [ix] using he 0 (by omega)
    have := lexB_at a b k (by simpa using h) (by simpa using hl) (fun j hj => by simpa [ix] using he (j + 1) (by omega)) (by simpa [ix] using hne)
    rw [lexB, if_pos e0, this]
    simp [ix]
theorem lexB_all : ∀ (a b : List Int), a.length = b.length → (∀ j, j < a.length → ix a j = ix b j) → lexB a b = false
  | [], b, _, _ => by cases b <;> rfl
  | x :: a, [], h, _ => by simp at h
  | x :: a, y :: b, hl, he => by
    have e0 : x = y := by simpa [ix] using he 0 (by simp)
    rw [lexB, if_pos e0]
    exact lexB_all a b (by simpa using hl) (fun j hj => by simpa [ix] using he (j + 1) (by simpa using hj))
set_option maxRecDepth 100000 in
set_option maxHeartbeats 8000000 in
theorem less79_c (Aa Ab : Option Addr) (ca cb : Nat) (a b : List Int) (w : World) (ha : Ints w.heap.size w Aa a) (hb0 : Ints w.heap.size w Ab b) (hla : a.length ≤ 1000) (hlb : b.length ≤ 1000) :
    Calls Try.prog 79 #[.slice Aa a.length ca, .slice Ab b.length cb] w (Ans w (.bool (lessL a b))) := by
  have HA := Lib.hid ha
  have HB0 := Lib.hid hb0
  clear ha hb0
  by_cases hll : a.length = b.length
  · have h2e : ((a.length : Int) == (b.length : Int)) = true := by simp [hll]
    have h2l : ¬ (a.length : Int) < (b.length : Int) := by omega
    have HLL := Lib.hid hll
    have HLS : Hid (lessL a b = lexB a b) := by show _ = _; unfold lessL; rw [if_pos hll]
    rw [HLS.out]
    clear hll HLS
    go_enter Try.func79, Try.ntmps79
    go_wp2_with fail
    go_loopw [5] (fun i wr => ∃ k : Nat, k ≤ a.length ∧ i = .int .i64 k ∧ (∀ j, j < k → ix a j = ix b j) ∧ Below w.heap.size w wr) (fun i _ => a.length - (intOf i).toNat)
    case atStart => exact ⟨0, by omega, rfl, fun j h => by omega, Below.refl _ _⟩
    case round =>
      obtain ⟨k, hk, rfl, he, hb⟩ := hrel
      have HBR := Lib.hid hb
      have HE := Lib.hid he
      clear he
      by_cases h1 : k < a.length
      · have h1i : (k : Int) < (a.length : Int) := by omega
        have h1j : (k : Int) < (b.length : Int) := by have := HLL.out; omega
        obtain ⟨bA, oA, rfl, hbA, d1⟩ := (HA.out.step hb).at_ h1
        obtain ⟨bB, oB, rfl, hbB, d2⟩ := (HB0.out.step hb).at_ (show k < b.length by have := HLL.out; omega)
        have HNE : Hid (ix a k ≠ ix b k → lexB a b = decide (ix a k < ix b k)) := fun h => lexB_at a b k h1 HLL.out HE.out h
        have HEQ : Hid (ix a k = ix b k → ∀ j, j < k + 1 → ix a j = ix b j) := fun h j hj => by
          by_cases e : j = k
          · rw [e]; exact h
          · exact HE.out j (by omega)
        clear hb HE
        obtain ⟨xa, hxa⟩ : ∃ x, ix a k = x := ⟨_, rfl⟩
        obtain ⟨xb, hxb⟩ : ∃ x, ix b k = x := ⟨_, rfl⟩
        rw [hxa] at d1 HNE HEQ
        rw [hxb] at d2 HNE HEQ
        clear hxa hxb
        go_upto_region 4 with fail
        go_quiet (fail)
        have hbq : Below wr.heap.size wr (wr.drewN nq) := below_drewN (Below.refl _ _) nq
        replace d1 := cell_of_ans hbq d1
        replace d2 := cell_of_ans hbq d2
        replace HBR := Lib.hid (HBR.out.trans (hbq.mono HBR.out.size))
        clear hbq
        generalize wr.drewN nq = wq at *
        by_cases hx : xa = xb
        · have e1 : (xa != xb) = false := by simp [hx]
          have HE := Lib.hid (HEQ.out hx)
          clear HNE HEQ
          go_wp2_with fail
          go_roundw
          case rel => exact ⟨k + 1, by omega, by go_num, HE.out, HBR.out⟩
          case measure => simp [intOf]; omega
        · have e1 : (xa != xb) = true := by simp [hx]
          have HL := Lib.hid (HNE.out hx)
          clear HNE HEQ
          go_upto_region 5 with fail
          go_quiet (fail)
          have hbq : Below wq.heap.size wq (wq.drewN nq) := below_drewN (Below.refl _ _) nq
          replace HBR := Lib.hid (HBR.out.trans (hbq.mono HBR.out.size))
          clear hbq
          generalize wq.drewN nq = wp at *
          go_wp2_with fail
          go_ret
          exact ⟨by rw [HL.out]; rfl, HBR.out⟩
      · obtain rfl : k = a.length := by omega
        have h1i : ¬ (a.length : Int) < (a.length : Int) := by omega
        have HL := Lib.hid (lexB_all a b HLL.out HE.out)
        clear hb HE
        go_wp2_with fail
        go_ret
        have h9 : decide (a.length < b.length) = false := decide_eq_false (by have := HLL.out; omega)
        exact ⟨by rw [HL.out]; exact ret_bool h9, HBR.out⟩
  · have h2e : ((a.length : Int) == (b.length : Int)) = false := by simp; omega
    have HLS : Hid (lessL a b = decide (a.length < b.length)) := by show _ = _; unfold lessL; rw [if_neg hll]
    rw [HLS.out]
    clear HLS
    go_enter Try.func79, Try.ntmps79
    go_wp2_with fail
    go_loopw [5] (fun i wr => i = .int .i64 0 ∧ Below w.heap.size w wr) (fun i _ => 1)
    case atStart => exact ⟨rfl, Below.refl _ _⟩
    case round =>
      obtain ⟨rfl, hb⟩ := hrel
      have HBR := Lib.hid hb
      clear hb
      by_cases h0 : (0 : Int) < (a.length : Int)
      · by_cases h3 : (a.length : Int) < (b.length : Int)
        · have h4 : decide (a.length < b.length) = true := decide_eq_true (by omega)
          go_wp2_with fail
          go_ret
          exact ⟨by first | rfl | exact ret_bool h4.symm | exact ret_bool rfl, HBR.out⟩
        · have h4 : decide (a.length < b.length) = false := decide_eq_false (by omega)
          go_wp2_with fail
          go_ret
          exact ⟨by first | rfl | exact ret_bool h4.symm | exact ret_bool rfl, HBR.out⟩
      · by_cases h3 : (a.length : Int) < (b.length : Int)
        · have h4 : decide (a.length < b.length) = true := decide_eq_true (by omega)
          go_wp2_with fail
          go_ret
          exact ⟨by first | rfl | exact ret_bool h4.symm | exact ret_bool rfl, HBR.out⟩
        · exfalso
          omega
/-- Does a list rule a team out, by the reference? -/
def p41 (l : Lg) (tm : Int) (xs : List Int) (i : Nat) : Bool := inB (ix xs i) 0 (l.teams - 1) && (!decide (ix xs i = tm) && (decide (i = 0) || decide (ix xs (i - 1) < ix xs i)))
noncomputable def ref41B (l : Lg) (tm : Int) (xs : List Int) : Bool := allB xs.length (p41 l tm xs) && ruledB (reachF l tm) (sumsF l) (opensL l.games) xs
theorem p41_ge {l : Lg} {tm : Int} {xs : List Int} {n : Nat} (h : AllB n (p41 l tm xs)) : ∀ k, k < n → (k : Int) ≤ ix xs k ∧ ix xs k < l.teams
  | 0, hk => by
    have := h 0 hk
    unfold p41 at this
    rw [Bool.and_eq_true, inB_eq] at this
    omega
  | k + 1, hk => by
    have ih := p41_ge h k (by omega)
    have := h (k + 1) hk
    unfold p41 at this
    simp only [Bool.and_eq_true, inB_eq, Bool.or_eq_true, decide_eq_true_eq] at this
    rw [show k + 1 - 1 = k by omega] at this
    omega
set_option maxRecDepth 100000 in
set_option maxHeartbeats 8000000 in
theorem ref41_c (l : Lg) (A SA : Option Addr) (c sc : Nat) (tm : Int) (xs : List Int) (w : World) (hv : Valid l) (ht : 0 ≤ tm) (hl : Gms w.heap.size w A l.games) (hc : l.games.length ≤ c ∧ c ≤ 9223372036854775807) (hx : Ints w.heap.size w SA xs) (hsc : xs.length ≤ sc ∧ sc ≤ 9223372036854775807) (hlen : xs.length ≤ 1000) :
    Calls Try.prog 41 #[.agg #[.int .i64 l.teams, .slice A l.games.length c], .int .i64 tm, .slice SA xs.length sc] w (Ans w (.bool (ref41B l tm xs))) := by
  have hb : Below w.heap.size w (w.alloc (.cells #[.int .i64 l.teams, .slice A l.games.length c] 24)) := (Below.refl _ _).alloc (Nat.le_refl _) _
  have HB := Lib.hid hb
  have HL := Lib.hid (hl.step hb)
  have HX := Lib.hid (hx.step hb)
  have k0 : (w.alloc (.cells #[.int .i64 l.teams, .slice A l.games.length c] 24)).cell? ⟨w.heap.size, 0, none⟩ = some (.int .i64 l.teams) := by simp
  have k1 : (w.alloc (.cells #[.int .i64 l.teams, .slice A l.games.length c] 24)).cell? ⟨w.heap.size, 1, none⟩ = some (.slice A l.games.length c) := by simp
  have hT2 := hv.t2
  have hT6 := hv.t6
  have hl20 := hv.len
  have HV := Lib.hid hv
  have hwt : IntKind.i64.wrap (l.teams - 1) = l.teams - 1 := IntWalk.i64_in _ (by omega)
  have HNO : Hid (∀ i, i < xs.length → p41 l tm xs i = false → ref41B l tm xs = false) := fun i h1 h2 => by unfold ref41B; rw [allB_false h1 h2, Bool.false_and]
  clear hb hl hx hv
  go_enter Try.func41, Try.ntmps41
  go_wp2_with fail
  generalize (w.alloc (.cells #[.int .i64 l.teams, .slice A l.games.length c] 24)) = x2 at *
  go_loopw [7] (fun i wr => ∃ k : Nat, k ≤ xs.length ∧ i = .int .i64 k ∧ AllB k (p41 l tm xs) ∧ Below x2.heap.size x2 wr) (fun i _ => xs.length - (intOf i).toNat)
  case atStart => exact ⟨0, by omega, rfl, fun j h => by omega, Below.refl _ _⟩
  case round =>
    obtain ⟨k, hk, rfl, hall, hb⟩ := hrel
    have HBR := Lib.hid hb
    have HALL := Lib.hid hall
    have j0 := cell_of_ans hb k0
    have j1 := cell_of_ans hb k1
    clear hall
    by_cases h1 : k < xs.length
    · have h1i : (k : Int) < (xs.length : Int) := by omega
      obtain ⟨bA, oA, rfl, hbA, hcs⟩ := HX.out (by omega)
      have d1 := cell_of_ans hb (hcs k h1)
      have d2 := cell_of_ans hb (hcs (k - 1) (by omega))
      have HNOk := Lib.hid (HNO.out k h1)
      have HYES : Hid (p41 l tm xs k = true → AllB (k + 1) (p41 l tm xs)) := fun h => HALL.out.succ h
      have HP : Hid (p41 l tm xs k = (inB (ix xs k) 0 (l.teams - 1) && (!decide (ix xs k = tm) && (decide (k = 0) || decide (ix xs (k - 1) < ix xs k))))) := rfl
      have hkm : 0 < k → IntKind.i64.wrap ((k : Int) - 1) = ((k - 1 : Nat) : Int) := fun h => by rw [IntWalk.i64_in _ (by omega)]; omega
      clear hb hcs HALL
      obtain ⟨x, hxx⟩ : ∃ x, ix xs k = x := ⟨_, rfl⟩
      obtain ⟨y, hyy⟩ : ∃ x, ix xs (k - 1) = x := ⟨_, rfl⟩
      rw [hxx] at d1 HP
      rw [hyy] at d2 HP
      clear hxx hyy
      have HIN := Lib.hid (fun W => in46_c x 0 (l.teams - 1) W)
      have k46 : True := trivial
      cases hi : inB x 0 (l.teams - 1)
      · rw [hi] at HIN
        have HF := Lib.hid (HNOk.out (by rw [HP.out, hi]; rfl))
        clear HP HYES hkm hi HNOk
        go_upto_region 4 with fail
        go_quiet ((go_at_call 46; exact Calls.quiet_of_same ((HIN.out _).mono fun e w2 h => ⟨h.1, h.2.symm⟩)))
        have hbq : Below wr.heap.size wr (wr.drewN nq) := below_drewN (Below.refl _ _) nq
        replace j0 := cell_of_ans hbq j0
        replace j1 := cell_of_ans hbq j1
        replace HBR := Lib.hid (HBR.out.trans (hbq.mono HBR.out.size))
        clear hbq
        generalize wr.drewN nq = wq at *
        go_wp2_with fail
        go_ret
        exact ⟨by rw [HF.out]; rfl, HB.out.trans (HBR.out.mono HB.out.size)⟩
      · rw [hi] at HIN
        by_cases hx : x = tm
        · have e1 : (x == tm) = true := by simp [hx]
          have HF := Lib.hid (HNOk.out (by rw [HP.out, decide_eq_true hx]; simp))
          clear HP HYES hkm hi hx HNOk
          go_upto_region 4 with fail
          go_quiet ((go_at_call 46; exact Calls.quiet_of_same ((HIN.out _).mono fun e w2 h => ⟨h.1, h.2.symm⟩)))
          have hbq : Below wr.heap.size wr (wr.drewN nq) := below_drewN (Below.refl _ _) nq
          replace j0 := cell_of_ans hbq j0
          replace j1 := cell_of_ans hbq j1
          replace HBR := Lib.hid (HBR.out.trans (hbq.mono HBR.out.size))
          clear hbq
          generalize wr.drewN nq = wq at *
          go_wp2_with fail
          go_ret
          exact ⟨by rw [HF.out]; rfl, HB.out.trans (HBR.out.mono HB.out.size)⟩
        · have e1 : (x == tm) = false := by simp [hx]
          by_cases h0 : k = 0
          · have e2 : ¬ 0 < k := by omega
            have HA := Lib.hid (HYES.out (by rw [HP.out, hi, decide_eq_false hx, decide_eq_true h0]; simp))
            clear HP HYES hkm hi hx HNOk d2 h0
            go_upto_region 4 with fail
            go_quiet ((go_at_call 46; exact Calls.quiet_of_same ((HIN.out _).mono fun e w2 h => ⟨h.1, h.2.symm⟩)))
            have hbq : Below wr.heap.size wr (wr.drewN nq) := below_drewN (Below.refl _ _) nq
            replace j0 := cell_of_ans hbq j0
            replace j1 := cell_of_ans hbq j1
            replace HBR := Lib.hid (HBR.out.trans (hbq.mono HBR.out.size))
            clear hbq
            generalize wr.drewN nq = wq at *
            go_wp2_with fail
            go_roundw
            case rel => exact ⟨k + 1, by omega, by go_num, HA.out, HBR.out⟩
            case measure => simp [intOf]; omega
          · have e2 : 0 < k := by omega
            have e3 := hkm (by omega)
            have h1m : ((k - 1 : Nat) : Int) < (xs.length : Int) := by omega
            by_cases hxy : x ≤ y
            · have HF := Lib.hid (HNOk.out (by rw [HP.out, decide_eq_false h0, decide_eq_false (show ¬ y < x by omega)]; simp))
              clear HP HYES hkm hi hx HNOk
              go_upto_region 4 with fail
              go_quiet ((go_at_call 46; exact Calls.quiet_of_same ((HIN.out _).mono fun e w2 h => ⟨h.1, h.2.symm⟩)))
              have hbq : Below wr.heap.size wr (wr.drewN nq) := below_drewN (Below.refl _ _) nq
              replace j0 := cell_of_ans hbq j0
              replace j1 := cell_of_ans hbq j1
              replace HBR := Lib.hid (HBR.out.trans (hbq.mono HBR.out.size))
              clear hbq
              generalize wr.drewN nq = wq at *
              go_wp2_with fail
              go_ret
              exact ⟨by rw [HF.out]; rfl, HB.out.trans (HBR.out.mono HB.out.size)⟩
            · have HA := Lib.hid (HYES.out (by rw [HP.out, hi, decide_eq_false hx, decide_eq_true (show y < x by omega)]; simp))
              clear HP HYES hkm hi hx HNOk
              go_upto_region 4 with fail
              go_quiet ((go_at_call 46; exact Calls.quiet_of_same ((HIN.out _).mono fun e w2 h => ⟨h.1, h.2.symm⟩)))
              have hbq : Below wr.heap.size wr (wr.drewN nq) := below_drewN (Below.refl _ _) nq
              replace j0 := cell_of_ans hbq j0
              replace j1 := cell_of_ans hbq j1
              replace HBR := Lib.hid (HBR.out.trans (hbq.mono HBR.out.size))
              clear hbq
              generalize wr.drewN nq = wq at *
              go_wp2_with fail
              go_roundw
              case rel => exact ⟨k + 1, by omega, by go_num, HA.out, HBR.out⟩
              case measure => simp [intOf]; omega
    · obtain rfl : k = xs.length := by omega
      have h1i : ¬ (xs.length : Int) < (xs.length : Int) := by omega
      have HRG := Lib.hid (p41_ge HALL.out)
      have h6 : xs.length ≤ 6 := by
        by_cases e : xs.length = 0
        · omega
        · have := HRG.out (xs.length - 1) (by omega)
          omega
      have HREF : Hid (ref41B l tm xs = ruledB (reachF l tm) (sumsF l) (opensL l.games) xs) := by show _ = _; unfold ref41B; rw [allB_true HALL.out, Bool.true_and]
      replace HB := Lib.hid (HB.out.trans (hb.mono HB.out.size))
      replace HL := Lib.hid (HL.out.step hb)
      replace HX := Lib.hid (HX.out.step hb)
      clear k0 k1 hb HBR HALL HNO
      have k0 := j0
      have k1 := j1
      clear j0 j1
      generalize wr = x3 at *
      have HSR := Lib.hid (fun k => sumP_rng (S := xs) (fun t => sumsF_range HV.out t) k)
      go_wp2_with fail
      go_loopw [8, 9] (fun n i wr => ∃ k : Nat, k ≤ xs.length ∧ i = .int .i64 k ∧ n = .int .i64 (sumP (sumsF l) xs k) ∧ Below x3.heap.size x3 wr) (fun _ i _ => xs.length - (intOf i).toNat)
      case atStart => exact ⟨0, by omega, rfl, rfl, Below.refl _ _⟩
      case round =>
        obtain ⟨k, hk, rfl, rfl, hb⟩ := hrel
        have HBR := Lib.hid hb
        have j0 := cell_of_ans hb k0
        have j1 := cell_of_ans hb k1
        have HLr := Lib.hid (HL.out.step hb)
        have HXr := Lib.hid (HX.out.step hb)
        by_cases h1 : k < xs.length
        · have h1i : (k : Int) < (xs.length : Int) := by omega
          obtain ⟨bA, oA, rfl, hbA, d1⟩ := HXr.out.at_ h1
          have hg := HRG.out k h1
          have hsk := HSR.out k
          have hf := sumsF_range HV.out (ix xs k).toNat
          have HSS : Hid (sumP (sumsF l) xs (k + 1) = sumP (sumsF l) xs k + sumsF l (ix xs k).toNat) := rfl
          have HN : Hid (∀ W : World, Below wr.heap.size wr W → Calls Try.prog 35 #[.agg #[.int .i64 l.teams, .slice A l.games.length c], .int .u8 1, .int .i64 (ix xs k), .slice none 0 0] W (Ans W (.int .i64 (sumsF l (ix xs k).toNat)))) := fun W h => by
            have h := number35_1 l A c (ix xs k) none 0 [] W HV.out (HLr.out.step h) hc (fun hp => by simp at hp) ⟨by simp, by omega⟩
            rw [sums1_is l (by omega)] at h
            exact h
          clear hb hg
          generalize sumsF l (ix xs k).toNat = fk at *
          generalize ix xs k = x at *
          generalize sumP (sumsF l) xs k = sk at *
          have hw : IntKind.i64.wrap (sk + fk) = sk + fk := IntWalk.i64_in _ (by omega)
          go_upto_region 10 with fail
          refine wp_region_noPanic ?_
          have hS : (fun W' : World => Below wr.heap.size wr W') wr.drew := (Below.refl _ _).drew
          refine wp_region_any (by kernel_rfl) (wpAny_of_T (S := fun W' : World => Below wr.heap.size wr W') (m := 9) _ _ _ _ ?_)
          refine' T_take (i := 0) (v := _) rfl (by kernel_rfl) (by kernel_rfl) (by kernel_rfl) (by kernel_rfl) (fun _ _ _ h => h) (by kernel_rfl) hS ?_ ?_
          rotate_left 1
          · intro Wv hW
            replace j0 := cell_of_ans hW j0
            replace j1 := cell_of_ans hW j1
            replace d1 := cell_of_ans hW d1
            go_simp
            first | done | with_reducible rfl | omega
          try simp only [Act.put, List.setIfInBounds_toArray, List.set_cons_zero, List.set_cons_succ]
          refine' T_take (i := 1) (v := _) rfl (by kernel_rfl) (by kernel_rfl) (by kernel_rfl) (by kernel_rfl) (fun _ _ _ h => h) (by kernel_rfl) hS ?_ ?_
          rotate_left 1
          · intro Wv hW
            replace j0 := cell_of_ans hW j0
            replace j1 := cell_of_ans hW j1
            replace d1 := cell_of_ans hW d1
            go_simp
            first | done | with_reducible rfl | omega
          try simp only [Act.put, List.setIfInBounds_toArray, List.set_cons_zero, List.set_cons_succ]
          refine' T_take (i := 2) (v := _) rfl (by kernel_rfl) (by kernel_rfl) (by kernel_rfl) (by kernel_rfl) (fun _ _ _ h => h) (by kernel_rfl) hS ?_ ?_
          rotate_left 1
          · intro Wv hW
            replace j0 := cell_of_ans hW j0
            replace j1 := cell_of_ans hW j1
            replace d1 := cell_of_ans hW d1
            go_simp
            first | done | with_reducible rfl | omega
          try simp only [Act.put, List.setIfInBounds_toArray, List.set_cons_zero, List.set_cons_succ]
          refine' T_take (i := 3) (v := _) rfl (by kernel_rfl) (by kernel_rfl) (by kernel_rfl) (by kernel_rfl) (fun _ _ _ h => h) (by kernel_rfl) hS ?_ ?_
          rotate_left 1
          · intro Wv hW
            replace j0 := cell_of_ans hW j0
            replace j1 := cell_of_ans hW j1
            replace d1 := cell_of_ans hW d1
            go_simp
            first | done | with_reducible rfl | omega
          try simp only [Act.put, List.setIfInBounds_toArray, List.set_cons_zero, List.set_cons_succ]
          refine' T_take (i := 4) (v := _) rfl (by kernel_rfl) (by kernel_rfl) (by kernel_rfl) (by kernel_rfl) (fun _ _ _ h => h) (by kernel_rfl) hS ?_ ?_
          rotate_left 1
          · intro Wv hW
            replace j0 := cell_of_ans hW j0
            replace j1 := cell_of_ans hW j1
            replace d1 := cell_of_ans hW d1
            go_simp
            first | done | with_reducible rfl | omega
          try simp only [Act.put, List.setIfInBounds_toArray, List.set_cons_zero, List.set_cons_succ]
          refine' T_take (i := 5) (v := _) rfl (by kernel_rfl) (by kernel_rfl) (by kernel_rfl) (by kernel_rfl) (fun _ _ _ h => h) (by kernel_rfl) hS ?_ ?_
          rotate_left 1
          · intro Wv hW
            replace j0 := cell_of_ans hW j0
            replace j1 := cell_of_ans hW j1
            replace d1 := cell_of_ans hW d1
            go_simp
            first | done | with_reducible rfl | omega
          try simp only [Act.put, List.setIfInBounds_toArray, List.set_cons_zero, List.set_cons_succ]
          refine T_ready (rs := [6]) (by kernel_rfl) (by simp) ?_
          refine TReady.cons rfl (fun K hK => ?_) TReady.nil
          try go_simp
          refine ((HN.out _ hS)).mono ?_
          rintro e v1 ⟨rfl, hb⟩
          have hS2 : Below wr.heap.size wr v1 := below_cat hb hS
          try go_simp
          refine hK.out _ _ (fun _ => hS2) (fun _ => ?_)
          clear hK K hS hb
          replace hS := hS2
          clear hS2
          try simp only [Act.put, List.setIfInBounds_toArray, List.set_cons_zero, List.set_cons_succ]
          refine' T_take (i := 7) (v := _) rfl (by kernel_rfl) (by kernel_rfl) (by kernel_rfl) (by kernel_rfl) (fun _ _ _ h => h) (by kernel_rfl) hS ?_ ?_
          rotate_left 1
          · intro Wv hW
            replace j0 := cell_of_ans hW j0
            replace j1 := cell_of_ans hW j1
            replace d1 := cell_of_ans hW d1
            go_simp
            first | done | with_reducible rfl | omega
          try simp only [Act.put, List.setIfInBounds_toArray, List.set_cons_zero, List.set_cons_succ]
          refine' T_take (i := 8) (v := _) rfl (by kernel_rfl) (by kernel_rfl) (by kernel_rfl) (by kernel_rfl) (fun _ _ _ h => h) (by kernel_rfl) hS ?_ ?_
          rotate_left 1
          · intro Wv hW
            replace j0 := cell_of_ans hW j0
            replace j1 := cell_of_ans hW j1
            replace d1 := cell_of_ans hW d1
            go_simp
            first | done | with_reducible rfl | omega
          try simp only [Act.put, List.setIfInBounds_toArray, List.set_cons_zero, List.set_cons_succ]
          refine T_done (by kernel_rfl) ?_ _
          refine NoPanic.normal ?_
          try go_simp
          have HBF := Lib.hid (HBR.out.trans (hS.mono HBR.out.size))
          clear hS
          go_wp2_with fail
          go_roundw
          case rel => exact ⟨k + 1, by omega, by go_num, by rw [HSS.out], HBF.out⟩
          case measure => simp [intOf]; omega
        · obtain rfl : k = xs.length := by omega
          have h1i : ¬ (xs.length : Int) < (xs.length : Int) := by omega
          replace HB := Lib.hid (HB.out.trans (hb.mono HB.out.size))
          replace HL := HLr
          replace HX := HXr
          replace k0 := j0
          replace k1 := j1
          have hs6 := HSR.out xs.length
          have HNE : Hid (needK (sumsF l) (opensL l.games) xs (opensL l.games).length = sumP (sumsF l) xs xs.length + 2 * (opP (bothG xs) l.games l.games.length : Int)) := by show _ = _; unfold needK; rw [List.take_length, opP_all]
          clear hb HBR HLr HXr j0 j1 HSR HRG
          generalize sumP (sumsF l) xs xs.length = sk at *
          generalize wr = x4 at *
          go_wp2_with fail
          go_loopw [8, 10] (fun n i wr => ∃ k : Nat, k ≤ l.games.length ∧ i = .int .i64 k ∧ n = .int .i64 (sk + 2 * (opP (bothG xs) l.games k : Int)) ∧ Below x4.heap.size x4 wr) (fun _ i _ => l.games.length - (intOf i).toNat)
          case atStart => exact ⟨0, by omega, rfl, by simp [opP], Below.refl _ _⟩
          case round =>
            obtain ⟨k, hk, rfl, rfl, hb⟩ := hrel
            have HBR := Lib.hid hb
            have j0 := cell_of_ans hb k0
            have j1 := cell_of_ans hb k1
            have HLr := Lib.hid (HL.out.step hb)
            have HXr := Lib.hid (HX.out.step hb)
            by_cases h1 : k < l.games.length
            · have h1i : (k : Int) < (l.games.length : Int) := by omega
              obtain ⟨b, off, rfl, hb0, c1, c2, c3, c4, c5⟩ := HLr.out.at_ h1
              have HOS := Lib.hid (opP_succ (p := bothG xs) h1)
              have hop := opP_le (p := bothG xs) (gs := l.games) (k := k)
              generalize opP (bothG xs) l.games k = o0 at *
              have hw2 : IntKind.i64.wrap (sk + 2 * (o0 : Int) + 2) = sk + 2 * (o0 : Int) + 2 := IntWalk.i64_in _ (by omega)
              obtain ⟨gg, hgg⟩ : ∃ gg, gg = gmx l.games k := ⟨_, rfl⟩
              rw [← hgg] at c1 c2 c3 c4 c5 HOS
              clear hgg hb
              obtain ⟨ga, gb, gpa, gpb, gop⟩ := gg
              dsimp only at c1 c2 c3 c4 c5 HOS
              have hba : Below wr.heap.size wr (wr.alloc (.cells #[.int .i64 ga, .int .i64 gb, .int .i64 gpa, .int .i64 gpb, .bool gop] 70)) := (Below.refl _ _).alloc (Nat.le_refl _) _
              have v0 : (wr.alloc (.cells #[.int .i64 ga, .int .i64 gb, .int .i64 gpa, .int .i64 gpb, .bool gop] 70)).cell? ⟨wr.heap.size, 0, none⟩ = some (.int .i64 ga) := by simp
              have v1 : (wr.alloc (.cells #[.int .i64 ga, .int .i64 gb, .int .i64 gpa, .int .i64 gpb, .bool gop] 70)).cell? ⟨wr.heap.size, 1, none⟩ = some (.int .i64 gb) := by simp
              have v4 : (wr.alloc (.cells #[.int .i64 ga, .int .i64 gb, .int .i64 gpa, .int .i64 gpb, .bool gop] 70)).cell? ⟨wr.heap.size, 4, none⟩ = some (.bool gop) := by simp
              have HBZ : Hid (Below x4.heap.size x4 (wr.alloc (.cells #[.int .i64 ga, .int .i64 gb, .int .i64 gpa, .int .i64 gpb, .bool gop] 70))) := HBR.out.trans (hba.mono HBR.out.size)
              have HHA := Lib.hid (has68_c SA xs sc ga (wr.alloc (.cells #[.int .i64 ga, .int .i64 gb, .int .i64 gpa, .int .i64 gpb, .bool gop] 70)) (HXr.out.step hba) hsc)
              have HHB := Lib.hid (has68_c SA xs sc gb (wr.alloc (.cells #[.int .i64 ga, .int .i64 gb, .int .i64 gpa, .int .i64 gpb, .bool gop] 70)) (HXr.out.step hba) hsc)
              clear hba HBR HLr HXr
              cases gop
              · have HO2 : Hid (opP (bothG xs) l.games (k + 1) = o0) := by show _ = _; rw [HOS.out]; simp
                clear HOS HHA HHB
                go_wp2_with fail
                generalize (wr.alloc (.cells #[.int .i64 ga, .int .i64 gb, .int .i64 gpa, .int .i64 gpb, .bool false] 70)) = wx at *
                go_roundw
                case rel => exact ⟨k + 1, by omega, by go_num, by rw [HO2.out], HBZ.out⟩
                case measure => simp [intOf]; omega
              · cases hga : hasI xs ga
                · have HO2 : Hid (opP (bothG xs) l.games (k + 1) = o0) := by show _ = _; rw [HOS.out]; simp [bothG, hga]
                  rw [hga] at HHA
                  clear HOS HHB hga
                  go_wp2_with fail
                  refine HHA.out.mono ?_
                  rintro e w8 ⟨rfl, rfl⟩
                  go_wp2_with fail
                  generalize (wr.alloc (.cells #[.int .i64 ga, .int .i64 gb, .int .i64 gpa, .int .i64 gpb, .bool true] 70)) = wx at *
                  go_roundw
                  case rel => exact ⟨k + 1, by omega, by go_num, by rw [HO2.out], HBZ.out⟩
                  case measure => simp [intOf]; omega
                · cases hgb : hasI xs gb
                  · have HO2 : Hid (opP (bothG xs) l.games (k + 1) = o0) := by show _ = _; rw [HOS.out]; simp [bothG, hga, hgb]
                    rw [hga] at HHA
                    rw [hgb] at HHB
                    clear HOS hga hgb
                    go_wp2_with fail
                    refine HHA.out.mono ?_
                    rintro e w8 ⟨rfl, rfl⟩
                    go_wp2_with fail
                    refine HHB.out.mono ?_
                    rintro e w8 ⟨rfl, rfl⟩
                    go_wp2_with fail
                    generalize (wr.alloc (.cells #[.int .i64 ga, .int .i64 gb, .int .i64 gpa, .int .i64 gpb, .bool true] 70)) = wx at *
                    go_roundw
                    case rel => exact ⟨k + 1, by omega, by go_num, by rw [HO2.out], HBZ.out⟩
                    case measure => simp [intOf]; omega
                  · have HO2 : Hid (opP (bothG xs) l.games (k + 1) = o0 + 1) := by show _ = _; rw [HOS.out]; simp [bothG, hga, hgb]
                    rw [hga] at HHA
                    rw [hgb] at HHB
                    clear HOS hga hgb
                    go_wp2_with fail
                    refine HHA.out.mono ?_
                    rintro e w8 ⟨rfl, rfl⟩
                    go_wp2_with fail
                    refine HHB.out.mono ?_
                    rintro e w8 ⟨rfl, rfl⟩
                    go_wp2_with fail
                    generalize (wr.alloc (.cells #[.int .i64 ga, .int .i64 gb, .int .i64 gpa, .int .i64 gpb, .bool true] 70)) = wx at *
                    go_roundw
                    case rel => exact ⟨k + 1, by omega, by go_num, by rw [HO2.out]; congr 1; omega, HBZ.out⟩
                    case measure => simp [intOf]; omega
            · obtain rfl : k = l.games.length := by omega
              have h1i : ¬ (l.games.length : Int) < (l.games.length : Int) := by omega
              replace HB := Lib.hid (HB.out.trans (hb.mono HB.out.size))
              replace HL := HLr
              have HRE := Lib.hid (fun (W : World) (h : Gms W.heap.size W A l.games) => reach78_c l A c tm W HV.out ht h hc)
              have hrk := reachK_rng HV.out (tm := tm) (Nat.le_refl (opensL l.games).length)
              rw [show reachK l tm (opensL l.games).length = reachF l tm from rfl] at hrk
              have HRU : Hid (ruledB (reachF l tm) (sumsF l) (opensL l.games) xs = (decide (0 < xs.length) && decide (reachF l tm * (xs.length : Int) < sk + 2 * (opP (bothG xs) l.games l.games.length : Int)))) := by show _ = _; unfold ruledB; rw [HNE.out]
              clear hb HBR HLr HNE
              by_cases h0 : 0 < xs.length
              · have h0i : (0 : Int) < (xs.length : Int) := by omega
                have hmul : IntKind.i64.wrap (reachF l tm * (xs.length : Int)) = reachF l tm * (xs.length : Int) := IntWalk.i64_in _ (by
                  have a1 : 0 ≤ reachF l tm * (xs.length : Int) := Int.mul_nonneg hrk.1 (by omega)
                  have a2 : reachF l tm * (xs.length : Int) ≤ 60040 * (xs.length : Int) := Int.mul_le_mul_of_nonneg_right hrk.2 (by omega)
                  omega)
                go_wp2_with fail
                refine (HRE.out _ HL.out).mono ?_
                rintro e y1 ⟨rfl, hb⟩
                have HBF := Lib.hid (HB.out.trans (hb.mono HB.out.size))
                clear hb
                go_wp2_with fail
                go_ret
                exact ⟨by rw [HREF.out, HRU.out, decide_eq_true h0, Bool.true_and]; rfl, HBF.out⟩
              · have h0i : ¬ (0 : Int) < (xs.length : Int) := by omega
                go_wp2_with fail
                go_ret
                exact ⟨by rw [HREF.out, HRU.out, decide_eq_false h0, Bool.false_and]; rfl, HB.out⟩
end Go.Proofs.Ytjokbffdepcpkaa
