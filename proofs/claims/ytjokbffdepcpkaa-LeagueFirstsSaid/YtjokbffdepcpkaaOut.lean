/-
  RulesOut: does a list rule a team out?
-/
import Derived.Test.YtjokbffdepcpkaaCompact
import Derived.Test.YtjokbffdepcpkaaPE
namespace Go.Proofs.Ytjokbffdepcpkaa
open Go.RowKit
set_option linter.unusedSimpArgs false
set_option linter.unusedVariables false

attribute [local go_sem] Oper.semAt_some
theorem enters74 : Enters 74 := fun _ _ => enters_of Try.func74 (by kernel_rfl) rfl _ _
noncomputable def noAdjB (xs : List Int) : Bool := allB (xs.length - 1) fun k => decide (ix xs (k + 1) ≠ ix xs k)
theorem noAdjB_iff {xs : List Int} : noAdjB xs = true ↔ noAdj xs xs.length := by
  unfold noAdjB noAdj
  rw [allB_iff]
  refine ⟨fun h j h1 h2 => ?_, fun h k hk => ?_⟩
  · have := h (j - 1) (by omega)
    rw [decide_eq_true_eq, show j - 1 + 1 = j by omega] at this
    exact this
  · rw [decide_eq_true_eq]
    exact h (k + 1) (by omega) (by omega)
theorem noAdjB_false {xs : List Int} (h : ¬ noAdj xs xs.length) : noAdjB xs = false := Bool.eq_false_iff.2 fun e => h (noAdjB_iff.1 e)
/-- Teams of a league, others than one, each more than the one ahead of it. -/
noncomputable def listB (l : Lg) (tm : Int) (xs : List Int) : Bool := decide (askedL l tm = 0) && (allB xs.length (fun k => inB (ix xs k) 0 (l.teams - 1)) && (!hasI xs tm && (sortedB xs && noAdjB xs)))
noncomputable def outB (l : Lg) (tm : Int) (xs : List Int) : Bool := listB l tm xs && ruledB (reachF l tm) (sumsF l) (opensL l.games) xs
theorem strict_ge {xs : List Int} (h1 : sortedB xs = true) (h2 : noAdj xs xs.length) (h0 : ∀ k, k < xs.length → 0 ≤ ix xs k) : ∀ k, k < xs.length → (k : Int) ≤ ix xs k
  | 0, h => h0 0 h
  | k + 1, h => by
    have a := strict_ge h1 h2 h0 k (by omega)
    have b := allB_iff.1 h1 k (by omega)
    rw [decide_eq_true_eq] at b
    have c := h2 (k + 1) (by omega) h
    rw [show k + 1 - 1 = k by omega] at c
    omega
set_option maxRecDepth 100000 in
set_option maxHeartbeats 8000000 in
theorem rulesOut38_c (l : Lg) (tm : Int) (A SA : Option Addr) (c sc : Nat) (xs : List Int) (w : World) (hl : Gms w.heap.size w A l.games) (hc : l.games.length ≤ c ∧ c ≤ 9223372036854775807) (hx : Ints w.heap.size w SA xs) (hsc : xs.length ≤ sc ∧ sc ≤ 9223372036854775807) (hlen : xs.length ≤ 1000) :
    Calls Try.prog 38 #[.agg #[.int .i64 l.teams, .slice A l.games.length c], .int .i64 tm, .slice SA xs.length sc] w (Ans w (.bool (outB l tm xs))) := by
  have HL := Lib.hid hl
  have HX := Lib.hid hx
  clear hl hx
  have HB := Lib.hid (Below.refl w.heap.size w)
  have hb : Below w.heap.size w (w.alloc (.cells #[.int .i64 l.teams, .slice A l.games.length c] 32)) := (Below.refl _ _).alloc (Nat.le_refl _) _
  have k0 : (w.alloc (.cells #[.int .i64 l.teams, .slice A l.games.length c] 32)).cell? ⟨w.heap.size, 0, none⟩ = some (.int .i64 l.teams) := by simp
  have k1 : (w.alloc (.cells #[.int .i64 l.teams, .slice A l.games.length c] 32)).cell? ⟨w.heap.size, 1, none⟩ = some (.slice A l.games.length c) := by simp
  replace HL := Lib.hid (HL.out.step hb)
  replace HX := Lib.hid (HX.out.step hb)
  replace HB := Lib.hid (HB.out.trans (hb.mono HB.out.size))
  clear hb
  have HAS := Lib.hid (fun (W : World) (h : Gms W.heap.size W A l.games) => asked69_c l tm A c W h hc)
  by_cases h1 : askedL l tm = 0
  rotate_left 1
  · have HC : Hid (outB l tm xs = false) := by show _ = _; unfold outB listB; simp [h1]
    have q1 : (askedL l tm != 0) = true := by simp [h1]
    rw [HC.out]
    clear h1 HC
    generalize askedL l tm = fl at *
    go_enter Try.func38, Try.ntmps38
    go_wp2_with fail
    generalize (w.alloc (.cells #[.int .i64 l.teams, .slice A l.games.length c] 32)) = x1 at *
    refine (HAS.out _ HL.out).mono ?_
    rintro e x1 ⟨rfl, hb⟩
    replace HL := Lib.hid (HL.out.step hb)
    replace HX := Lib.hid (HX.out.step hb)
    replace k0 := cell_of_ans hb k0
    replace k1 := cell_of_ans hb k1
    replace HB := Lib.hid (HB.out.trans (hb.mono HB.out.size))
    clear hb
    go_wp2_with fail
    go_ret
    exact ⟨rfl, HB.out⟩
  · obtain ⟨hv, p, rfl, hp⟩ := asked_zero h1
    have hT2 := hv.t2
    have hT6 := hv.t6
    have HAL := Lib.hid (fun (W : World) (h : Ints W.heap.size W SA xs) => allI (B := W.heap.size) SA sc 74 #[.agg #[.int .i64 l.teams, .slice A l.games.length c]] #[] xs (fun k => inB (ix xs k) 0 (l.teams - 1)) W enters74 (Nat.le_refl _) (by omega) h (fun k _ W _ => team74_c l.teams (ix xs k) A l.games.length c W hT2 hT6))
    have HCT := Lib.hid (fun (W : World) (h : Ints W.heap.size W SA xs) => contains75 SA sc xs (p : Int) W h hsc)
    have HSO := Lib.hid (fun (W : World) (h : Ints W.heap.size W SA xs) => sorted76_c SA sc xs W (Nat.le_refl _) h hlen)
    have HCL := Lib.hid (fun (W : World) (h : Ints W.heap.size W SA xs) => clone62_c SA xs sc W h (Nat.le_refl _) hlen)
    have HCM := Lib.hid (fun (A2 : Option Addr) (c2 base : Nat) (W : World) ho hb => compact77_c xs A2 c2 base W ho hb hlen)
    rw [h1] at HAS
    cases ha : (allB xs.length (fun k => inB (ix xs k) 0 (l.teams - 1)))
    · have HC : Hid (outB l (p : Int) xs = false) := by show _ = _; unfold outB listB; rw [ha]; simp
      rw [ha] at HAL
      rw [HC.out]
      clear h1 HC ha HCT HSO HCL HCM hv
      go_enter Try.func38, Try.ntmps38
      go_wp2_with fail
      generalize (w.alloc (.cells #[.int .i64 l.teams, .slice A l.games.length c] 32)) = x1 at *
      refine (HAS.out _ HL.out).mono ?_
      rintro e x2 ⟨rfl, hb⟩
      replace HL := Lib.hid (HL.out.step hb)
      replace HX := Lib.hid (HX.out.step hb)
      replace k0 := cell_of_ans hb k0
      replace k1 := cell_of_ans hb k1
      replace HB := Lib.hid (HB.out.trans (hb.mono HB.out.size))
      clear hb
      go_wp2_with fail
      refine (HAL.out _ HX.out).mono ?_
      rintro e x3 ⟨rfl, hb⟩
      replace HL := Lib.hid (HL.out.step hb)
      replace HX := Lib.hid (HX.out.step hb)
      replace k0 := cell_of_ans hb k0
      replace k1 := cell_of_ans hb k1
      replace HB := Lib.hid (HB.out.trans (hb.mono HB.out.size))
      clear hb
      go_wp2_with fail
      go_ret
      exact ⟨rfl, HB.out⟩
    · rw [ha] at HAL
      cases hh : hasI xs (p : Int)
      rotate_left 1
      · have HC : Hid (outB l (p : Int) xs = false) := by show _ = _; unfold outB listB; rw [hh]; simp
        rw [hh] at HCT
        rw [HC.out]
        clear h1 HC ha hh HSO HCL HCM hv
        go_enter Try.func38, Try.ntmps38
        go_wp2_with fail
        generalize (w.alloc (.cells #[.int .i64 l.teams, .slice A l.games.length c] 32)) = x1 at *
        refine (HAS.out _ HL.out).mono ?_
        rintro e x4 ⟨rfl, hb⟩
        replace HL := Lib.hid (HL.out.step hb)
        replace HX := Lib.hid (HX.out.step hb)
        replace k0 := cell_of_ans hb k0
        replace k1 := cell_of_ans hb k1
        replace HB := Lib.hid (HB.out.trans (hb.mono HB.out.size))
        clear hb
        go_wp2_with fail
        refine (HAL.out _ HX.out).mono ?_
        rintro e x5 ⟨rfl, hb⟩
        replace HL := Lib.hid (HL.out.step hb)
        replace HX := Lib.hid (HX.out.step hb)
        replace k0 := cell_of_ans hb k0
        replace k1 := cell_of_ans hb k1
        replace HB := Lib.hid (HB.out.trans (hb.mono HB.out.size))
        clear hb
        go_wp2_with fail
        refine ((HCT.out _ HX.out).mono (fun _ _ h => h.ans)).mono ?_
        rintro e x6 ⟨rfl, hb⟩
        replace HL := Lib.hid (HL.out.step hb)
        replace HX := Lib.hid (HX.out.step hb)
        replace k0 := cell_of_ans hb k0
        replace k1 := cell_of_ans hb k1
        replace HB := Lib.hid (HB.out.trans (hb.mono HB.out.size))
        clear hb
        go_wp2_with fail
        go_ret
        exact ⟨rfl, HB.out⟩
      · rw [hh] at HCT
        cases hs : sortedB xs
        · have HC : Hid (outB l (p : Int) xs = false) := by show _ = _; unfold outB listB; rw [hs]; simp
          rw [hs] at HSO
          rw [HC.out]
          clear h1 HC ha hh hs HCL HCM hv
          go_enter Try.func38, Try.ntmps38
          go_wp2_with fail
          generalize (w.alloc (.cells #[.int .i64 l.teams, .slice A l.games.length c] 32)) = x1 at *
          refine (HAS.out _ HL.out).mono ?_
          rintro e x7 ⟨rfl, hb⟩
          replace HL := Lib.hid (HL.out.step hb)
          replace HX := Lib.hid (HX.out.step hb)
          replace k0 := cell_of_ans hb k0
          replace k1 := cell_of_ans hb k1
          replace HB := Lib.hid (HB.out.trans (hb.mono HB.out.size))
          clear hb
          go_wp2_with fail
          refine (HAL.out _ HX.out).mono ?_
          rintro e x8 ⟨rfl, hb⟩
          replace HL := Lib.hid (HL.out.step hb)
          replace HX := Lib.hid (HX.out.step hb)
          replace k0 := cell_of_ans hb k0
          replace k1 := cell_of_ans hb k1
          replace HB := Lib.hid (HB.out.trans (hb.mono HB.out.size))
          clear hb
          go_wp2_with fail
          refine ((HCT.out _ HX.out).mono (fun _ _ h => h.ans)).mono ?_
          rintro e x9 ⟨rfl, hb⟩
          replace HL := Lib.hid (HL.out.step hb)
          replace HX := Lib.hid (HX.out.step hb)
          replace k0 := cell_of_ans hb k0
          replace k1 := cell_of_ans hb k1
          replace HB := Lib.hid (HB.out.trans (hb.mono HB.out.size))
          clear hb
          go_wp2_with fail
          refine (HSO.out _ HX.out).mono ?_
          rintro e x10 ⟨rfl, hb⟩
          replace HL := Lib.hid (HL.out.step hb)
          replace HX := Lib.hid (HX.out.step hb)
          replace k0 := cell_of_ans hb k0
          replace k1 := cell_of_ans hb k1
          replace HB := Lib.hid (HB.out.trans (hb.mono HB.out.size))
          clear hb
          go_wp2_with fail
          go_ret
          exact ⟨rfl, HB.out⟩
        · rw [hs] at HSO
          by_cases hn : noAdj xs xs.length
          rotate_left 1
          · have HC : Hid (outB l (p : Int) xs = false) := by show _ = _; unfold outB listB; rw [noAdjB_false hn]; simp
            rw [HC.out]
            have HNN := Lib.hid hn
            clear h1 HC ha hh hs hn hv
            go_enter Try.func38, Try.ntmps38
            go_wp2_with fail
            generalize (w.alloc (.cells #[.int .i64 l.teams, .slice A l.games.length c] 32)) = x1 at *
            refine (HAS.out _ HL.out).mono ?_
            rintro e x11 ⟨rfl, hb⟩
            replace HL := Lib.hid (HL.out.step hb)
            replace HX := Lib.hid (HX.out.step hb)
            replace k0 := cell_of_ans hb k0
            replace k1 := cell_of_ans hb k1
            replace HB := Lib.hid (HB.out.trans (hb.mono HB.out.size))
            clear hb
            go_wp2_with fail
            refine (HAL.out _ HX.out).mono ?_
            rintro e x12 ⟨rfl, hb⟩
            replace HL := Lib.hid (HL.out.step hb)
            replace HX := Lib.hid (HX.out.step hb)
            replace k0 := cell_of_ans hb k0
            replace k1 := cell_of_ans hb k1
            replace HB := Lib.hid (HB.out.trans (hb.mono HB.out.size))
            clear hb
            go_wp2_with fail
            refine ((HCT.out _ HX.out).mono (fun _ _ h => h.ans)).mono ?_
            rintro e x13 ⟨rfl, hb⟩
            replace HL := Lib.hid (HL.out.step hb)
            replace HX := Lib.hid (HX.out.step hb)
            replace k0 := cell_of_ans hb k0
            replace k1 := cell_of_ans hb k1
            replace HB := Lib.hid (HB.out.trans (hb.mono HB.out.size))
            clear hb
            go_wp2_with fail
            refine (HSO.out _ HX.out).mono ?_
            rintro e x14 ⟨rfl, hb⟩
            replace HL := Lib.hid (HL.out.step hb)
            replace HX := Lib.hid (HX.out.step hb)
            replace k0 := cell_of_ans hb k0
            replace k1 := cell_of_ans hb k1
            replace HB := Lib.hid (HB.out.trans (hb.mono HB.out.size))
            clear hb
            go_wp2_with fail
            refine (HCL.out _ HX.out).mono ?_
            rintro e y1 ⟨A2, c2, rfl, ho2, hb⟩
            have hzy := hb.size
            have HO2 := Lib.hid ho2
            have HX0 := Lib.hid HX.out
            clear ho2
            have HBY := Lib.hid hb
            clear hb
            go_wp2_with fail
            refine (HCM.out A2 c2 x14.heap.size _ HO2.out hzy).mono ?_
            rintro e y2 ⟨A3, n3, c3, rfl, hn3, hn4, hb2⟩
            have hb : Below x14.heap.size x14 y2 := HBY.out.trans hb2
            clear hb2 HO2 HX0 HBY hzy
            replace HL := Lib.hid (HL.out.step hb)
            replace HX := Lib.hid (HX.out.step hb)
            replace k0 := cell_of_ans hb k0
            replace k1 := cell_of_ans hb k1
            replace HB := Lib.hid (HB.out.trans (hb.mono HB.out.size))
            clear hb
            have q9 : ((n3 : Int) != (xs.length : Int)) = true := by have : ¬ n3 = xs.length := fun e => HNN.out (hn4.1 e); simp [bne]; omega
            clear hn4
            go_wp2_with fail
            go_ret
            exact ⟨rfl, HB.out⟩
          · have HRG : Hid (∀ k, k < xs.length → 0 ≤ ix xs k ∧ ix xs k < 6) := fun k hk => by have := (inB_eq _ _ _).1 (allB_iff.1 ha k hk); omega
            have h6 : xs.length ≤ 6 := by
              by_cases e : xs.length = 0
              · omega
              · have a := strict_ge hs hn (fun k hk => (HRG.out k hk).1) (xs.length - 1) (by omega)
                have b := HRG.out (xs.length - 1) (by omega)
                omega
            have HNN := Lib.hid hn
            have HC : Hid (outB l (p : Int) xs = ruledB (reachF l (p : Int)) (sumsF l) (opensL l.games) xs) := by show _ = _; unfold outB listB; rw [noAdjB_iff.2 hn, ha, hh, hs, decide_eq_true h1]; rfl
            have HRC := Lib.hid (fun (W : World) (h : Gms W.heap.size W A l.games) => race70_c l p A c W hv hp h hc)
            have HRU := Lib.hid (fun (q : Nat) (OA : Option Addr) (oc : Nat) (W : World) hr hg hs => ruled71_c q (p : Int) (reachF l (p : Int)) (sumsF l) OA SA oc sc (opensL l.games) xs (.slice none 0 0) W hr hg hs hsc h6 HRG.out (fun k => sumsF_range hv k) (reachK_rng hv (Nat.le_refl _)) (by have := opens_len l.games; have := hv.len; omega))
            rw [HC.out]
            clear h1 HC ha hh hs hn hv
            go_enter Try.func38, Try.ntmps38
            go_wp2_with fail
            generalize (w.alloc (.cells #[.int .i64 l.teams, .slice A l.games.length c] 32)) = x1 at *
            refine (HAS.out _ HL.out).mono ?_
            rintro e x15 ⟨rfl, hb⟩
            replace HL := Lib.hid (HL.out.step hb)
            replace HX := Lib.hid (HX.out.step hb)
            replace k0 := cell_of_ans hb k0
            replace k1 := cell_of_ans hb k1
            replace HB := Lib.hid (HB.out.trans (hb.mono HB.out.size))
            clear hb
            go_wp2_with fail
            refine (HAL.out _ HX.out).mono ?_
            rintro e x16 ⟨rfl, hb⟩
            replace HL := Lib.hid (HL.out.step hb)
            replace HX := Lib.hid (HX.out.step hb)
            replace k0 := cell_of_ans hb k0
            replace k1 := cell_of_ans hb k1
            replace HB := Lib.hid (HB.out.trans (hb.mono HB.out.size))
            clear hb
            go_wp2_with fail
            refine ((HCT.out _ HX.out).mono (fun _ _ h => h.ans)).mono ?_
            rintro e x17 ⟨rfl, hb⟩
            replace HL := Lib.hid (HL.out.step hb)
            replace HX := Lib.hid (HX.out.step hb)
            replace k0 := cell_of_ans hb k0
            replace k1 := cell_of_ans hb k1
            replace HB := Lib.hid (HB.out.trans (hb.mono HB.out.size))
            clear hb
            go_wp2_with fail
            refine (HSO.out _ HX.out).mono ?_
            rintro e x18 ⟨rfl, hb⟩
            replace HL := Lib.hid (HL.out.step hb)
            replace HX := Lib.hid (HX.out.step hb)
            replace k0 := cell_of_ans hb k0
            replace k1 := cell_of_ans hb k1
            replace HB := Lib.hid (HB.out.trans (hb.mono HB.out.size))
            clear hb
            go_wp2_with fail
            refine (HCL.out _ HX.out).mono ?_
            rintro e y1 ⟨A2, c2, rfl, ho2, hb⟩
            have hzy := hb.size
            have HO2 := Lib.hid ho2
            have HX0 := Lib.hid HX.out
            clear ho2
            have HBY := Lib.hid hb
            clear hb
            go_wp2_with fail
            refine (HCM.out A2 c2 x18.heap.size _ HO2.out hzy).mono ?_
            rintro e y2 ⟨A3, n3, c3, rfl, hn3, hn4, hb2⟩
            have hb : Below x18.heap.size x18 y2 := HBY.out.trans hb2
            clear hb2 HO2 HX0 HBY hzy
            replace HL := Lib.hid (HL.out.step hb)
            replace HX := Lib.hid (HX.out.step hb)
            replace k0 := cell_of_ans hb k0
            replace k1 := cell_of_ans hb k1
            replace HB := Lib.hid (HB.out.trans (hb.mono HB.out.size))
            clear hb
            have q9 : ((n3 : Int) != (xs.length : Int)) = false := by have e : n3 = xs.length := hn4.2 HNN.out; simp [e]
            clear hn4
            go_wp2_with fail
            refine (HRC.out _ HL.out).mono ?_
            rintro e y3 ⟨q, OA, oc, rfl, hq, hra, how, hoc, hb⟩
            have HRA := Lib.hid hra
            have HOW := Lib.hid how
            clear hra how
            replace HL := Lib.hid (HL.out.step hb)
            replace HX := Lib.hid (HX.out.step hb)
            replace k0 := cell_of_ans hb k0
            replace k1 := cell_of_ans hb k1
            replace HB := Lib.hid (HB.out.trans (hb.mono HB.out.size))
            clear hb
            have hgo := HOW.out.parts
            clear HOW
            go_wp2_with fail
            refine (HRU.out q OA oc _ HRA.out hgo.2.2 HX.out).mono ?_
            rintro e x19 ⟨rfl, hb⟩
            replace HL := Lib.hid (HL.out.step hb)
            replace HX := Lib.hid (HX.out.step hb)
            replace k0 := cell_of_ans hb k0
            replace k1 := cell_of_ans hb k1
            replace HB := Lib.hid (HB.out.trans (hb.mono HB.out.size))
            clear hb
            go_wp2_with fail
            go_ret
            exact ⟨rfl, HB.out⟩
end Go.Proofs.Ytjokbffdepcpkaa
