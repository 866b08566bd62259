/-
  The walk of RackHits.
-/
import Derived.Test.YtpekajnjjhibjaaF1
import Derived.Test.YtpekajnjjhibjaaF2
import Derived.Test.YtpekajnjjhibjaaMoreM
import Derived.Test.YtpekajnjjhibjaaAwk
namespace Go.Proofs.Ytpekajnjjhibjaa
open Go.RowKit
set_option linter.unusedSimpArgs false
set_option linter.unusedVariables false

attribute [local go_sem] Oper.semAt_some
theorem fallen_left {r : Rk} {xs : List Int} {b : Nat → Int} {c : Nat → Bool} (h : pinErr r xs = 0) : minusL xs (natsI (listS (felledS r (pinS r xs) b c))) = natsI (listS (leftS r (pinS r xs) b c)) := by
  have e := pins_list h
  have hs := pinS_lt (r := r) (xs := xs)
  generalize pinS r xs = s at *
  subst e
  rw [minus_sets hs (felledS_lt hs)]
  refine congrArg (fun z => natsI (listS z)) (Nat.eq_of_testBit_eq fun p => ?_)
  rw [Bool.eq_iff_iff, mem_bitsP, mem_leftS hs]
  exact ⟨fun h => h.2, fun h => ⟨bit_lt hs h.1, h⟩⟩
theorem truth_parts {r : Rk} {xs ys : List Int} {ball : List Rg} {bs : List Bool} (h : thrErr r xs ball = 0) (ht : truthB r ball ys bs = true) : ys.length = r.rows.toNat ∧ bs.length = r.links.length ∧ ∀ k, k < ys.length → -1000 ≤ ix ys k ∧ ix ys k ≤ 1000 := by
  obtain ⟨h1, h2, h3, h4, h5⟩ := thr_parts h
  rw [truthB, Bool.and_eq_true, Bool.and_eq_true, Bool.and_eq_true, decide_eq_true_eq, decide_eq_true_eq, overB, allB_iff] at ht
  obtain ⟨⟨e1, e2⟩, e3, _⟩ := ht
  refine ⟨by omega, e2, fun k hk => ?_⟩
  have h6 := e3 k hk
  have h7 := h5 k (by omega)
  simp only [inB_eq] at h6
  omega
set_option maxRecDepth 100000 in
set_option maxHeartbeats 16000000 in
theorem hits10_c (r : Rk) (A xA Ab yA sA : Option Addr) (c cx cb cy cs : Nat) (xs ys : List Int) (ball : List Rg) (bs : List Bool) (w : World) (hl : Lks w.heap.size w A r.links) (hc : r.links.length ≤ c ∧ c ≤ 9223372036854775807) (hx : Ints w.heap.size w xA xs) (hcx : xs.length ≤ cx ∧ cx ≤ 9223372036854775807) (hball : Rgs w.heap.size w Ab ball) (hcb : ball.length ≤ cb ∧ cb ≤ 9223372036854775807) (hy : Ints w.heap.size w yA ys) (hcy : ys.length ≤ cy ∧ cy ≤ 9223372036854775807) (hcs : Bls w.heap.size w sA bs) (hcs2 : bs.length ≤ cs ∧ cs ≤ 9223372036854775807) :
    Calls Try.prog 10 #[.agg #[.int .i64 r.rows, .int .i64 r.mid, .int .i64 r.gap, .int .i64 r.reach, .slice A r.links.length c], .slice xA xs.length cx, .slice Ab ball.length cb, .slice yA ys.length cy, .slice sA bs.length cs] w (Ans w (.bool true)) := by
  have HB := Lib.hid (Below.refl w.heap.size w)
  have HL := Lib.hid hl
  have HX := Lib.hid hx
  have HBa := Lib.hid hball
  have HY := Lib.hid hy
  have HC := Lib.hid hcs
  clear hl hx hball hy hcs
  have hb : Below w.heap.size w (w.alloc (.cells #[.int .i64 r.rows, .int .i64 r.mid, .int .i64 r.gap, .int .i64 r.reach, .slice A r.links.length c] 24)) := (Below.refl _ _).alloc (Nat.le_refl _) _
  replace HL := Lib.hid (HL.out.step hb)
  replace HX := Lib.hid (HX.out.step hb)
  replace HBa := Lib.hid (HBa.out.step hb)
  replace HY := Lib.hid (HY.out.step hb)
  replace HC := Lib.hid (HC.out.step hb)
  replace HB := Lib.hid (HB.out.trans (hb.mono HB.out.size))
  clear hb
  have k0 : (w.alloc (.cells #[.int .i64 r.rows, .int .i64 r.mid, .int .i64 r.gap, .int .i64 r.reach, .slice A r.links.length c] 24)).cell? ⟨w.heap.size, 0, none⟩ = some (.int .i64 r.rows) := by simp
  have k1 : (w.alloc (.cells #[.int .i64 r.rows, .int .i64 r.mid, .int .i64 r.gap, .int .i64 r.reach, .slice A r.links.length c] 24)).cell? ⟨w.heap.size, 1, none⟩ = some (.int .i64 r.mid) := by simp
  have k2 : (w.alloc (.cells #[.int .i64 r.rows, .int .i64 r.mid, .int .i64 r.gap, .int .i64 r.reach, .slice A r.links.length c] 24)).cell? ⟨w.heap.size, 2, none⟩ = some (.int .i64 r.gap) := by simp
  have k3 : (w.alloc (.cells #[.int .i64 r.rows, .int .i64 r.mid, .int .i64 r.gap, .int .i64 r.reach, .slice A r.links.length c] 24)).cell? ⟨w.heap.size, 3, none⟩ = some (.int .i64 r.reach) := by simp
  have k4 : (w.alloc (.cells #[.int .i64 r.rows, .int .i64 r.mid, .int .i64 r.gap, .int .i64 r.reach, .slice A r.links.length c] 24)).cell? ⟨w.heap.size, 4, none⟩ = some (.slice A r.links.length c) := by simp
  cases ht : thinB r.links.length xs.length ball.length
  · have HTH := Lib.hid (fun W => (show Calls Try.prog 23 #[.agg #[.int .i64 r.rows, .int .i64 r.mid, .int .i64 r.gap, .int .i64 r.reach, .slice A r.links.length c], .slice xA xs.length cx, .slice Ab ball.length cb] W (Ans W (.bool false)) from by have h := thin23_c r A xA Ab c xs.length cx ball.length cb W; rwa [ht] at h))
    clear ht
    go_enter Try.func10, Try.ntmps10
    go_wp2_with fail
    generalize (w.alloc (.cells #[.int .i64 r.rows, .int .i64 r.mid, .int .i64 r.gap, .int .i64 r.reach, .slice A r.links.length c] 24)) = x1 at *
    refine (HTH.out _).mono ?_
    rintro e w2 ⟨rfl, hb⟩
    replace HL := Lib.hid (HL.out.step hb)
    replace HX := Lib.hid (HX.out.step hb)
    replace HBa := Lib.hid (HBa.out.step hb)
    replace HY := Lib.hid (HY.out.step hb)
    replace HC := Lib.hid (HC.out.step hb)
    replace k0 := cell_of_ans hb k0
    replace k1 := cell_of_ans hb k1
    replace k2 := cell_of_ans hb k2
    replace k3 := cell_of_ans hb k3
    replace k4 := cell_of_ans hb k4
    replace HB := Lib.hid (HB.out.trans (hb.mono HB.out.size))
    clear hb
    clear HTH
    go_wp2_with fail
    refine (awake16_c _).mono ?_
    rintro e wz ⟨rfl, hb⟩
    replace HL := Lib.hid (HL.out.step hb)
    replace HX := Lib.hid (HX.out.step hb)
    replace HBa := Lib.hid (HBa.out.step hb)
    replace HY := Lib.hid (HY.out.step hb)
    replace HC := Lib.hid (HC.out.step hb)
    replace k0 := cell_of_ans hb k0
    replace k1 := cell_of_ans hb k1
    replace k2 := cell_of_ans hb k2
    replace k3 := cell_of_ans hb k3
    replace k4 := cell_of_ans hb k4
    replace HB := Lib.hid (HB.out.trans (hb.mono HB.out.size))
    clear hb
    go_wp2_with fail
    go_ret
    exact ⟨rfl, HB.out⟩
  · have HTH := Lib.hid (fun W => (show Calls Try.prog 23 #[.agg #[.int .i64 r.rows, .int .i64 r.mid, .int .i64 r.gap, .int .i64 r.reach, .slice A r.links.length c], .slice xA xs.length cx, .slice Ab ball.length cb] W (Ans W (.bool true)) from by have h := thin23_c r A xA Ab c xs.length cx ball.length cb W; rwa [ht] at h))
    rw [thinB, Bool.and_eq_true, Bool.and_eq_true, decide_eq_true_eq, decide_eq_true_eq, decide_eq_true_eq] at ht
    obtain ⟨hl16, hx15, hb8⟩ := ht
    have hlen : r.links.length ≤ 1000000 := by omega
    have hxl : xs.length ≤ 1000000 := by omega
    have hbl : ball.length ≤ 1000000 := by omega
    by_cases h1 : ys.length ≤ 12
    · by_cases h2 : bs.length ≤ 20
      · have hyl : ys.length ≤ 1000000 := by omega
        have hsl : bs.length ≤ 1000000 := by omega
        have h1i : (ys.length : Int) ≤ 12 := by omega
        have h2i : (bs.length : Int) ≤ 20 := by omega
        have HHit := Lib.hid (fun (A4 xA4 Ab4 yA sA : Option Addr) (c4 cx4 cb4 cy cs : Nat) (W : World) h1 h2 h3 h4 h5 h6 h7 h8 h9 h10 => hit_c r A4 xA4 Ab4 yA sA c4 cx4 cb4 cy cs xs ys ball bs W h1 h2 h3 h4 h5 h6 h7 h8 h9 h10)
        have HTR := Lib.hid (fun W h1 h2 h3 => thrownAt33_c r A xA Ab c cx cb xs ball W h1 hc h2 hcx h3 hcb)
        by_cases e0 : thrErr r xs ball = 0
        · rw [e0] at HTR
          have HIT := Lib.hid (fun W h1 h2 h3 h4 => isTruth44_c r A Ab yA sA c cb cy cs ys ball bs W h1 hc h2 hcb h3 hcy h4 hcs2)
          cases tb : truthB r ball ys bs
          · rw [tb] at HIT
            have her : hitErr r xs ball ys bs = 2 := by rw [hitErr, if_pos e0, tb]; rfl
            have hle : hitL r xs ball ys bs = [] := by rw [hitL, if_neg (by rw [her]; decide)]
            rw [her, hle] at HHit
            clear her hle tb e0
            go_enter Try.func10, Try.ntmps10
            go_wp2_with fail
            generalize (w.alloc (.cells #[.int .i64 r.rows, .int .i64 r.mid, .int .i64 r.gap, .int .i64 r.reach, .slice A r.links.length c] 24)) = x1 at *
            refine (HTH.out _).mono ?_
            rintro e w2 ⟨rfl, hb⟩
            replace HL := Lib.hid (HL.out.step hb)
            replace HX := Lib.hid (HX.out.step hb)
            replace HBa := Lib.hid (HBa.out.step hb)
            replace HY := Lib.hid (HY.out.step hb)
            replace HC := Lib.hid (HC.out.step hb)
            replace k0 := cell_of_ans hb k0
            replace k1 := cell_of_ans hb k1
            replace k2 := cell_of_ans hb k2
            replace k3 := cell_of_ans hb k3
            replace k4 := cell_of_ans hb k4
            replace HB := Lib.hid (HB.out.trans (hb.mono HB.out.size))
            clear hb
            clear HTH
            go_wp2_with fail
            refine (rack18_c r A c _ HL.out hc hlen).mono ?_
            rintro e w4 ⟨A4, c4, rfl, ⟨hl4, hc4⟩, hb⟩
            replace HL := Lib.hid (HL.out.step hb)
            replace HX := Lib.hid (HX.out.step hb)
            replace HBa := Lib.hid (HBa.out.step hb)
            replace HY := Lib.hid (HY.out.step hb)
            replace HC := Lib.hid (HC.out.step hb)
            replace k0 := cell_of_ans hb k0
            replace k1 := cell_of_ans hb k1
            replace k2 := cell_of_ans hb k2
            replace k3 := cell_of_ans hb k3
            replace k4 := cell_of_ans hb k4
            replace HB := Lib.hid (HB.out.trans (hb.mono HB.out.size))
            clear hb
            have Hhl4 := Lib.hid hl4
            clear hl4
            go_wp2_with fail
            refine (list_c xA xs cx _ HX.out hxl).mono ?_
            rintro e w5 ⟨B4, d4, rfl, ho4, hb⟩
            obtain ⟨hd4, he4, hi4⟩ := isInts_parts (ownsRow_isInts ho4)
            clear ho4
            replace HL := Lib.hid (HL.out.step hb)
            replace HX := Lib.hid (HX.out.step hb)
            replace HBa := Lib.hid (HBa.out.step hb)
            replace HY := Lib.hid (HY.out.step hb)
            replace HC := Lib.hid (HC.out.step hb)
            replace k0 := cell_of_ans hb k0
            replace k1 := cell_of_ans hb k1
            replace k2 := cell_of_ans hb k2
            replace k3 := cell_of_ans hb k3
            replace k4 := cell_of_ans hb k4
            replace Hhl4 := Lib.hid (Hhl4.out.step hb)
            replace HB := Lib.hid (HB.out.trans (hb.mono HB.out.size))
            clear hb
            have Hhi4 := Lib.hid hi4
            clear hi4
            go_wp2_with fail
            refine (ball20_c Ab cb ball _ HBa.out hcb hbl).mono ?_
            rintro e w6 ⟨G4, g4, rfl, ⟨hg4, hh4, hj4⟩, hb⟩
            replace HL := Lib.hid (HL.out.step hb)
            replace HX := Lib.hid (HX.out.step hb)
            replace HBa := Lib.hid (HBa.out.step hb)
            replace HY := Lib.hid (HY.out.step hb)
            replace HC := Lib.hid (HC.out.step hb)
            replace k0 := cell_of_ans hb k0
            replace k1 := cell_of_ans hb k1
            replace k2 := cell_of_ans hb k2
            replace k3 := cell_of_ans hb k3
            replace k4 := cell_of_ans hb k4
            replace Hhl4 := Lib.hid (Hhl4.out.step hb)
            replace Hhi4 := Lib.hid (Hhi4.out.step hb)
            replace HB := Lib.hid (HB.out.trans (hb.mono HB.out.size))
            clear hb
            have Hhg4 := Lib.hid hg4
            clear hg4
            go_wp2_with fail
            refine (list_c yA ys cy _ HY.out hyl).mono ?_
            rintro e w7 ⟨B5, d5, rfl, ho5, hb⟩
            obtain ⟨hd5, he5, hi5⟩ := isInts_parts (ownsRow_isInts ho5)
            clear ho5
            replace HL := Lib.hid (HL.out.step hb)
            replace HX := Lib.hid (HX.out.step hb)
            replace HBa := Lib.hid (HBa.out.step hb)
            replace HY := Lib.hid (HY.out.step hb)
            replace HC := Lib.hid (HC.out.step hb)
            replace k0 := cell_of_ans hb k0
            replace k1 := cell_of_ans hb k1
            replace k2 := cell_of_ans hb k2
            replace k3 := cell_of_ans hb k3
            replace k4 := cell_of_ans hb k4
            replace Hhl4 := Lib.hid (Hhl4.out.step hb)
            replace Hhi4 := Lib.hid (Hhi4.out.step hb)
            replace Hhg4 := Lib.hid (Hhg4.out.step hb)
            replace HB := Lib.hid (HB.out.trans (hb.mono HB.out.size))
            clear hb
            have Hhi5 := Lib.hid hi5
            clear hi5
            go_wp2_with (at_builtin; refine wpList_copyB (.tmp 39) rfl rfl _ sA bs _ cs rfl rfl HC hsl ?_; intro sB ds w8 HOB HB8)
            have hb := HB8.out
            clear HB8
            replace HL := Lib.hid (HL.out.step hb)
            replace HX := Lib.hid (HX.out.step hb)
            replace HBa := Lib.hid (HBa.out.step hb)
            replace HY := Lib.hid (HY.out.step hb)
            replace HC := Lib.hid (HC.out.step hb)
            replace k0 := cell_of_ans hb k0
            replace k1 := cell_of_ans hb k1
            replace k2 := cell_of_ans hb k2
            replace k3 := cell_of_ans hb k3
            replace k4 := cell_of_ans hb k4
            replace Hhl4 := Lib.hid (Hhl4.out.step hb)
            replace Hhi4 := Lib.hid (Hhi4.out.step hb)
            replace Hhg4 := Lib.hid (Hhg4.out.step hb)
            replace Hhi5 := Lib.hid (Hhi5.out.step hb)
            replace HB := Lib.hid (HB.out.trans (hb.mono HB.out.size))
            clear hb
            obtain ⟨hds1, hds2, hbs⟩ := HOB.out.parts
            have HSB := Lib.hid hbs
            clear hbs HOB
            refine (HHit.out _ _ _ _ _ _ _ _ _ _ _ Hhl4.out hc4 Hhi4.out ⟨hd4, he4⟩ Hhg4.out ⟨hh4, hj4⟩ Hhi5.out ⟨hd5, he5⟩ HSB.out ⟨hds1, hds2⟩).mono ?_
            rintro e w9 ⟨lA, cl, rfl, ho, hb⟩
            replace HL := Lib.hid (HL.out.step hb)
            replace HX := Lib.hid (HX.out.step hb)
            replace HBa := Lib.hid (HBa.out.step hb)
            replace HY := Lib.hid (HY.out.step hb)
            replace HC := Lib.hid (HC.out.step hb)
            replace k0 := cell_of_ans hb k0
            replace k1 := cell_of_ans hb k1
            replace k2 := cell_of_ans hb k2
            replace k3 := cell_of_ans hb k3
            replace k4 := cell_of_ans hb k4
            replace Hhl4 := Lib.hid (Hhl4.out.step hb)
            replace Hhi4 := Lib.hid (Hhi4.out.step hb)
            replace Hhg4 := Lib.hid (Hhg4.out.step hb)
            replace Hhi5 := Lib.hid (Hhi5.out.step hb)
            replace HSB := Lib.hid (HSB.out.step hb)
            replace HB := Lib.hid (HB.out.trans (hb.mono HB.out.size))
            clear hb
            clear ho
            clear Hhl4 Hhi4 Hhg4 Hhi5 HSB
            go_wp2_with fail
            refine (HTR.out _ HL.out HX.out HBa.out).mono ?_
            rintro e w10 ⟨rfl, hb⟩
            replace HL := Lib.hid (HL.out.step hb)
            replace HX := Lib.hid (HX.out.step hb)
            replace HBa := Lib.hid (HBa.out.step hb)
            replace HY := Lib.hid (HY.out.step hb)
            replace HC := Lib.hid (HC.out.step hb)
            replace k0 := cell_of_ans hb k0
            replace k1 := cell_of_ans hb k1
            replace k2 := cell_of_ans hb k2
            replace k3 := cell_of_ans hb k3
            replace k4 := cell_of_ans hb k4
            replace HB := Lib.hid (HB.out.trans (hb.mono HB.out.size))
            clear hb
            go_wp2_with fail
            refine (HIT.out _ HL.out HBa.out HY.out HC.out).mono ?_
            rintro e w11 ⟨rfl, hb⟩
            replace HL := Lib.hid (HL.out.step hb)
            replace HX := Lib.hid (HX.out.step hb)
            replace HBa := Lib.hid (HBa.out.step hb)
            replace HY := Lib.hid (HY.out.step hb)
            replace HC := Lib.hid (HC.out.step hb)
            replace k0 := cell_of_ans hb k0
            replace k1 := cell_of_ans hb k1
            replace k2 := cell_of_ans hb k2
            replace k3 := cell_of_ans hb k3
            replace k4 := cell_of_ans hb k4
            replace HB := Lib.hid (HB.out.trans (hb.mono HB.out.size))
            clear hb
            go_wp2_with fail
            refine (awake16_c _).mono ?_
            rintro e wz ⟨rfl, hb⟩
            replace HL := Lib.hid (HL.out.step hb)
            replace HX := Lib.hid (HX.out.step hb)
            replace HBa := Lib.hid (HBa.out.step hb)
            replace HY := Lib.hid (HY.out.step hb)
            replace HC := Lib.hid (HC.out.step hb)
            replace k0 := cell_of_ans hb k0
            replace k1 := cell_of_ans hb k1
            replace k2 := cell_of_ans hb k2
            replace k3 := cell_of_ans hb k3
            replace k4 := cell_of_ans hb k4
            replace HB := Lib.hid (HB.out.trans (hb.mono HB.out.size))
            clear hb
            go_wp2_with fail
            go_ret
            exact ⟨rfl, HB.out⟩
          · rw [tb] at HIT
            have her : hitErr r xs ball ys bs = 0 := by rw [hitErr, if_pos e0, tb]; rfl
            have hpe := (thr_parts e0).1
            have hle : hitL r xs ball ys bs = natsI (listS (leftS r (pinS r xs) (ix ys) (bx bs))) := by rw [hitL, if_pos her]
            obtain ⟨p1, p2, p3⟩ := truth_parts e0 tb
            have HFA := Lib.hid (fun W h1 h2 h3 h4 => fallen46_c r A xA yA sA c cx cy cs xs ys bs W h1 hc h2 hcx h3 hcy h4 hcs2 hpe p1 p3 p2)
            have HLE := Lib.hid (fallen_left (b := ix ys) (c := bx bs) hpe)
            rw [her, hle] at HHit
            clear her hle tb e0 p1 p2 p3 hpe
            generalize natsI (listS (leftS r (pinS r xs) (ix ys) (bx bs))) = le at *
            generalize natsI (listS (felledS r (pinS r xs) (ix ys) (bx bs))) = fl at *
            go_enter Try.func10, Try.ntmps10
            go_wp2_with fail
            generalize (w.alloc (.cells #[.int .i64 r.rows, .int .i64 r.mid, .int .i64 r.gap, .int .i64 r.reach, .slice A r.links.length c] 24)) = x1 at *
            refine (HTH.out _).mono ?_
            rintro e w2 ⟨rfl, hb⟩
            replace HL := Lib.hid (HL.out.step hb)
            replace HX := Lib.hid (HX.out.step hb)
            replace HBa := Lib.hid (HBa.out.step hb)
            replace HY := Lib.hid (HY.out.step hb)
            replace HC := Lib.hid (HC.out.step hb)
            replace k0 := cell_of_ans hb k0
            replace k1 := cell_of_ans hb k1
            replace k2 := cell_of_ans hb k2
            replace k3 := cell_of_ans hb k3
            replace k4 := cell_of_ans hb k4
            replace HB := Lib.hid (HB.out.trans (hb.mono HB.out.size))
            clear hb
            clear HTH
            go_wp2_with fail
            refine (rack18_c r A c _ HL.out hc hlen).mono ?_
            rintro e w4 ⟨A4, c4, rfl, ⟨hl4, hc4⟩, hb⟩
            replace HL := Lib.hid (HL.out.step hb)
            replace HX := Lib.hid (HX.out.step hb)
            replace HBa := Lib.hid (HBa.out.step hb)
            replace HY := Lib.hid (HY.out.step hb)
            replace HC := Lib.hid (HC.out.step hb)
            replace k0 := cell_of_ans hb k0
            replace k1 := cell_of_ans hb k1
            replace k2 := cell_of_ans hb k2
            replace k3 := cell_of_ans hb k3
            replace k4 := cell_of_ans hb k4
            replace HB := Lib.hid (HB.out.trans (hb.mono HB.out.size))
            clear hb
            have Hhl4 := Lib.hid hl4
            clear hl4
            go_wp2_with fail
            refine (list_c xA xs cx _ HX.out hxl).mono ?_
            rintro e w5 ⟨B4, d4, rfl, ho4, hb⟩
            obtain ⟨hd4, he4, hi4⟩ := isInts_parts (ownsRow_isInts ho4)
            clear ho4
            replace HL := Lib.hid (HL.out.step hb)
            replace HX := Lib.hid (HX.out.step hb)
            replace HBa := Lib.hid (HBa.out.step hb)
            replace HY := Lib.hid (HY.out.step hb)
            replace HC := Lib.hid (HC.out.step hb)
            replace k0 := cell_of_ans hb k0
            replace k1 := cell_of_ans hb k1
            replace k2 := cell_of_ans hb k2
            replace k3 := cell_of_ans hb k3
            replace k4 := cell_of_ans hb k4
            replace Hhl4 := Lib.hid (Hhl4.out.step hb)
            replace HB := Lib.hid (HB.out.trans (hb.mono HB.out.size))
            clear hb
            have Hhi4 := Lib.hid hi4
            clear hi4
            go_wp2_with fail
            refine (ball20_c Ab cb ball _ HBa.out hcb hbl).mono ?_
            rintro e w6 ⟨G4, g4, rfl, ⟨hg4, hh4, hj4⟩, hb⟩
            replace HL := Lib.hid (HL.out.step hb)
            replace HX := Lib.hid (HX.out.step hb)
            replace HBa := Lib.hid (HBa.out.step hb)
            replace HY := Lib.hid (HY.out.step hb)
            replace HC := Lib.hid (HC.out.step hb)
            replace k0 := cell_of_ans hb k0
            replace k1 := cell_of_ans hb k1
            replace k2 := cell_of_ans hb k2
            replace k3 := cell_of_ans hb k3
            replace k4 := cell_of_ans hb k4
            replace Hhl4 := Lib.hid (Hhl4.out.step hb)
            replace Hhi4 := Lib.hid (Hhi4.out.step hb)
            replace HB := Lib.hid (HB.out.trans (hb.mono HB.out.size))
            clear hb
            have Hhg4 := Lib.hid hg4
            clear hg4
            go_wp2_with fail
            refine (list_c yA ys cy _ HY.out hyl).mono ?_
            rintro e w7 ⟨B5, d5, rfl, ho5, hb⟩
            obtain ⟨hd5, he5, hi5⟩ := isInts_parts (ownsRow_isInts ho5)
            clear ho5
            replace HL := Lib.hid (HL.out.step hb)
            replace HX := Lib.hid (HX.out.step hb)
            replace HBa := Lib.hid (HBa.out.step hb)
            replace HY := Lib.hid (HY.out.step hb)
            replace HC := Lib.hid (HC.out.step hb)
            replace k0 := cell_of_ans hb k0
            replace k1 := cell_of_ans hb k1
            replace k2 := cell_of_ans hb k2
            replace k3 := cell_of_ans hb k3
            replace k4 := cell_of_ans hb k4
            replace Hhl4 := Lib.hid (Hhl4.out.step hb)
            replace Hhi4 := Lib.hid (Hhi4.out.step hb)
            replace Hhg4 := Lib.hid (Hhg4.out.step hb)
            replace HB := Lib.hid (HB.out.trans (hb.mono HB.out.size))
            clear hb
            have Hhi5 := Lib.hid hi5
            clear hi5
            go_wp2_with (at_builtin; refine wpList_copyB (.tmp 39) rfl rfl _ sA bs _ cs rfl rfl HC hsl ?_; intro sB ds w8 HOB HB8)
            have hb := HB8.out
            clear HB8
            replace HL := Lib.hid (HL.out.step hb)
            replace HX := Lib.hid (HX.out.step hb)
            replace HBa := Lib.hid (HBa.out.step hb)
            replace HY := Lib.hid (HY.out.step hb)
            replace HC := Lib.hid (HC.out.step hb)
            replace k0 := cell_of_ans hb k0
            replace k1 := cell_of_ans hb k1
            replace k2 := cell_of_ans hb k2
            replace k3 := cell_of_ans hb k3
            replace k4 := cell_of_ans hb k4
            replace Hhl4 := Lib.hid (Hhl4.out.step hb)
            replace Hhi4 := Lib.hid (Hhi4.out.step hb)
            replace Hhg4 := Lib.hid (Hhg4.out.step hb)
            replace Hhi5 := Lib.hid (Hhi5.out.step hb)
            replace HB := Lib.hid (HB.out.trans (hb.mono HB.out.size))
            clear hb
            obtain ⟨hds1, hds2, hbs⟩ := HOB.out.parts
            have HSB := Lib.hid hbs
            clear hbs HOB
            refine (HHit.out _ _ _ _ _ _ _ _ _ _ _ Hhl4.out hc4 Hhi4.out ⟨hd4, he4⟩ Hhg4.out ⟨hh4, hj4⟩ Hhi5.out ⟨hd5, he5⟩ HSB.out ⟨hds1, hds2⟩).mono ?_
            rintro e w9 ⟨lA, cl, rfl, ho, hb⟩
            replace HL := Lib.hid (HL.out.step hb)
            replace HX := Lib.hid (HX.out.step hb)
            replace HBa := Lib.hid (HBa.out.step hb)
            replace HY := Lib.hid (HY.out.step hb)
            replace HC := Lib.hid (HC.out.step hb)
            replace k0 := cell_of_ans hb k0
            replace k1 := cell_of_ans hb k1
            replace k2 := cell_of_ans hb k2
            replace k3 := cell_of_ans hb k3
            replace k4 := cell_of_ans hb k4
            replace Hhl4 := Lib.hid (Hhl4.out.step hb)
            replace Hhi4 := Lib.hid (Hhi4.out.step hb)
            replace Hhg4 := Lib.hid (Hhg4.out.step hb)
            replace Hhi5 := Lib.hid (Hhi5.out.step hb)
            replace HSB := Lib.hid (HSB.out.step hb)
            replace HB := Lib.hid (HB.out.trans (hb.mono HB.out.size))
            clear hb
            obtain ⟨hcl1, hcl2, hle⟩ := isInts_parts (ownsRow_isInts ho)
            have Hle := Lib.hid hle
            clear ho hle
            clear Hhl4 Hhi4 Hhg4 Hhi5 HSB
            go_wp2_with fail
            refine (HTR.out _ HL.out HX.out HBa.out).mono ?_
            rintro e w10 ⟨rfl, hb⟩
            replace HL := Lib.hid (HL.out.step hb)
            replace HX := Lib.hid (HX.out.step hb)
            replace HBa := Lib.hid (HBa.out.step hb)
            replace HY := Lib.hid (HY.out.step hb)
            replace HC := Lib.hid (HC.out.step hb)
            replace k0 := cell_of_ans hb k0
            replace k1 := cell_of_ans hb k1
            replace k2 := cell_of_ans hb k2
            replace k3 := cell_of_ans hb k3
            replace k4 := cell_of_ans hb k4
            replace Hle := Lib.hid (Hle.out.step hb)
            replace HB := Lib.hid (HB.out.trans (hb.mono HB.out.size))
            clear hb
            go_wp2_with fail
            refine (HIT.out _ HL.out HBa.out HY.out HC.out).mono ?_
            rintro e w11 ⟨rfl, hb⟩
            replace HL := Lib.hid (HL.out.step hb)
            replace HX := Lib.hid (HX.out.step hb)
            replace HBa := Lib.hid (HBa.out.step hb)
            replace HY := Lib.hid (HY.out.step hb)
            replace HC := Lib.hid (HC.out.step hb)
            replace k0 := cell_of_ans hb k0
            replace k1 := cell_of_ans hb k1
            replace k2 := cell_of_ans hb k2
            replace k3 := cell_of_ans hb k3
            replace k4 := cell_of_ans hb k4
            replace Hle := Lib.hid (Hle.out.step hb)
            replace HB := Lib.hid (HB.out.trans (hb.mono HB.out.size))
            clear hb
            go_wp2_with fail
            refine (HFA.out _ HL.out HX.out HY.out HC.out).mono ?_
            rintro e w12 ⟨fA, cf, rfl, ho, hb⟩
            obtain ⟨hcf1, hcf2, hfe⟩ := isInts_parts (ownsRow_isInts ho)
            replace HL := Lib.hid (HL.out.step hb)
            replace HX := Lib.hid (HX.out.step hb)
            replace HBa := Lib.hid (HBa.out.step hb)
            replace HY := Lib.hid (HY.out.step hb)
            replace HC := Lib.hid (HC.out.step hb)
            replace k0 := cell_of_ans hb k0
            replace k1 := cell_of_ans hb k1
            replace k2 := cell_of_ans hb k2
            replace k3 := cell_of_ans hb k3
            replace k4 := cell_of_ans hb k4
            replace Hle := Lib.hid (Hle.out.step hb)
            replace HB := Lib.hid (HB.out.trans (hb.mono HB.out.size))
            clear hb
            have Hfe := Lib.hid hfe
            clear ho hfe
            go_wp2_with fail
            refine (left45_c _ _ xs fl cx cf _ HX.out hcx hxl Hfe.out ⟨hcf1, hcf2⟩).mono ?_
            rw [HLE.out]
            rintro e w13 ⟨mA, cm, rfl, ho, hb⟩
            obtain ⟨hcm1, hcm2, hmm⟩ := isInts_parts (ownsRow_isInts ho)
            replace HL := Lib.hid (HL.out.step hb)
            replace HX := Lib.hid (HX.out.step hb)
            replace HBa := Lib.hid (HBa.out.step hb)
            replace HY := Lib.hid (HY.out.step hb)
            replace HC := Lib.hid (HC.out.step hb)
            replace k0 := cell_of_ans hb k0
            replace k1 := cell_of_ans hb k1
            replace k2 := cell_of_ans hb k2
            replace k3 := cell_of_ans hb k3
            replace k4 := cell_of_ans hb k4
            replace Hle := Lib.hid (Hle.out.step hb)
            replace Hfe := Lib.hid (Hfe.out.step hb)
            replace HB := Lib.hid (HB.out.trans (hb.mono HB.out.size))
            clear hb
            have Hmm := Lib.hid hmm
            clear ho hmm
            go_wp2_with fail
            refine ((ints_c _ _ le le cl cm _ Hle.out Hmm.out ⟨hcl1, hcl2⟩ ⟨hcm1, hcm2⟩).mono (fun e w9 h => h.ans)).mono ?_
            rw [show eqB le le = true from decide_eq_true rfl]
            rintro e w14 ⟨rfl, hb⟩
            replace HL := Lib.hid (HL.out.step hb)
            replace HX := Lib.hid (HX.out.step hb)
            replace HBa := Lib.hid (HBa.out.step hb)
            replace HY := Lib.hid (HY.out.step hb)
            replace HC := Lib.hid (HC.out.step hb)
            replace k0 := cell_of_ans hb k0
            replace k1 := cell_of_ans hb k1
            replace k2 := cell_of_ans hb k2
            replace k3 := cell_of_ans hb k3
            replace k4 := cell_of_ans hb k4
            replace Hle := Lib.hid (Hle.out.step hb)
            replace Hfe := Lib.hid (Hfe.out.step hb)
            replace Hmm := Lib.hid (Hmm.out.step hb)
            replace HB := Lib.hid (HB.out.trans (hb.mono HB.out.size))
            clear hb
            go_wp2_with fail
            refine (awake16_c _).mono ?_
            rintro e wz ⟨rfl, hb⟩
            replace HL := Lib.hid (HL.out.step hb)
            replace HX := Lib.hid (HX.out.step hb)
            replace HBa := Lib.hid (HBa.out.step hb)
            replace HY := Lib.hid (HY.out.step hb)
            replace HC := Lib.hid (HC.out.step hb)
            replace k0 := cell_of_ans hb k0
            replace k1 := cell_of_ans hb k1
            replace k2 := cell_of_ans hb k2
            replace k3 := cell_of_ans hb k3
            replace k4 := cell_of_ans hb k4
            replace Hle := Lib.hid (Hle.out.step hb)
            replace Hfe := Lib.hid (Hfe.out.step hb)
            replace Hmm := Lib.hid (Hmm.out.step hb)
            replace HB := Lib.hid (HB.out.trans (hb.mono HB.out.size))
            clear hb
            go_wp2_with fail
            go_ret
            exact ⟨rfl, HB.out⟩
        · have her : hitErr r xs ball ys bs = thrErr r xs ball := by rw [hitErr, if_neg e0]
          have hle : hitL r xs ball ys bs = [] := by rw [hitL, if_neg (by rw [her]; exact e0)]
          rw [her, hle] at HHit
          clear her hle
          have q1 : (thrErr r xs ball == 0) = false := by simp [e0]
          have q2 : (thrErr r xs ball != 0) = true := by simp [e0]
          clear e0
          generalize thrErr r xs ball = te at *
          go_enter Try.func10, Try.ntmps10
          go_wp2_with fail
          generalize (w.alloc (.cells #[.int .i64 r.rows, .int .i64 r.mid, .int .i64 r.gap, .int .i64 r.reach, .slice A r.links.length c] 24)) = x1 at *
          refine (HTH.out _).mono ?_
          rintro e w2 ⟨rfl, hb⟩
          replace HL := Lib.hid (HL.out.step hb)
          replace HX := Lib.hid (HX.out.step hb)
          replace HBa := Lib.hid (HBa.out.step hb)
          replace HY := Lib.hid (HY.out.step hb)
          replace HC := Lib.hid (HC.out.step hb)
          replace k0 := cell_of_ans hb k0
          replace k1 := cell_of_ans hb k1
          replace k2 := cell_of_ans hb k2
          replace k3 := cell_of_ans hb k3
          replace k4 := cell_of_ans hb k4
          replace HB := Lib.hid (HB.out.trans (hb.mono HB.out.size))
          clear hb
          clear HTH
          go_wp2_with fail
          refine (rack18_c r A c _ HL.out hc hlen).mono ?_
          rintro e w4 ⟨A4, c4, rfl, ⟨hl4, hc4⟩, hb⟩
          replace HL := Lib.hid (HL.out.step hb)
          replace HX := Lib.hid (HX.out.step hb)
          replace HBa := Lib.hid (HBa.out.step hb)
          replace HY := Lib.hid (HY.out.step hb)
          replace HC := Lib.hid (HC.out.step hb)
          replace k0 := cell_of_ans hb k0
          replace k1 := cell_of_ans hb k1
          replace k2 := cell_of_ans hb k2
          replace k3 := cell_of_ans hb k3
          replace k4 := cell_of_ans hb k4
          replace HB := Lib.hid (HB.out.trans (hb.mono HB.out.size))
          clear hb
          have Hhl4 := Lib.hid hl4
          clear hl4
          go_wp2_with fail
          refine (list_c xA xs cx _ HX.out hxl).mono ?_
          rintro e w5 ⟨B4, d4, rfl, ho4, hb⟩
          obtain ⟨hd4, he4, hi4⟩ := isInts_parts (ownsRow_isInts ho4)
          clear ho4
          replace HL := Lib.hid (HL.out.step hb)
          replace HX := Lib.hid (HX.out.step hb)
          replace HBa := Lib.hid (HBa.out.step hb)
          replace HY := Lib.hid (HY.out.step hb)
          replace HC := Lib.hid (HC.out.step hb)
          replace k0 := cell_of_ans hb k0
          replace k1 := cell_of_ans hb k1
          replace k2 := cell_of_ans hb k2
          replace k3 := cell_of_ans hb k3
          replace k4 := cell_of_ans hb k4
          replace Hhl4 := Lib.hid (Hhl4.out.step hb)
          replace HB := Lib.hid (HB.out.trans (hb.mono HB.out.size))
          clear hb
          have Hhi4 := Lib.hid hi4
          clear hi4
          go_wp2_with fail
          refine (ball20_c Ab cb ball _ HBa.out hcb hbl).mono ?_
          rintro e w6 ⟨G4, g4, rfl, ⟨hg4, hh4, hj4⟩, hb⟩
          replace HL := Lib.hid (HL.out.step hb)
          replace HX := Lib.hid (HX.out.step hb)
          replace HBa := Lib.hid (HBa.out.step hb)
          replace HY := Lib.hid (HY.out.step hb)
          replace HC := Lib.hid (HC.out.step hb)
          replace k0 := cell_of_ans hb k0
          replace k1 := cell_of_ans hb k1
          replace k2 := cell_of_ans hb k2
          replace k3 := cell_of_ans hb k3
          replace k4 := cell_of_ans hb k4
          replace Hhl4 := Lib.hid (Hhl4.out.step hb)
          replace Hhi4 := Lib.hid (Hhi4.out.step hb)
          replace HB := Lib.hid (HB.out.trans (hb.mono HB.out.size))
          clear hb
          have Hhg4 := Lib.hid hg4
          clear hg4
          go_wp2_with fail
          refine (list_c yA ys cy _ HY.out hyl).mono ?_
          rintro e w7 ⟨B5, d5, rfl, ho5, hb⟩
          obtain ⟨hd5, he5, hi5⟩ := isInts_parts (ownsRow_isInts ho5)
          clear ho5
          replace HL := Lib.hid (HL.out.step hb)
          replace HX := Lib.hid (HX.out.step hb)
          replace HBa := Lib.hid (HBa.out.step hb)
          replace HY := Lib.hid (HY.out.step hb)
          replace HC := Lib.hid (HC.out.step hb)
          replace k0 := cell_of_ans hb k0
          replace k1 := cell_of_ans hb k1
          replace k2 := cell_of_ans hb k2
          replace k3 := cell_of_ans hb k3
          replace k4 := cell_of_ans hb k4
          replace Hhl4 := Lib.hid (Hhl4.out.step hb)
          replace Hhi4 := Lib.hid (Hhi4.out.step hb)
          replace Hhg4 := Lib.hid (Hhg4.out.step hb)
          replace HB := Lib.hid (HB.out.trans (hb.mono HB.out.size))
          clear hb
          have Hhi5 := Lib.hid hi5
          clear hi5
          go_wp2_with (at_builtin; refine wpList_copyB (.tmp 39) rfl rfl _ sA bs _ cs rfl rfl HC hsl ?_; intro sB ds w8 HOB HB8)
          have hb := HB8.out
          clear HB8
          replace HL := Lib.hid (HL.out.step hb)
          replace HX := Lib.hid (HX.out.step hb)
          replace HBa := Lib.hid (HBa.out.step hb)
          replace HY := Lib.hid (HY.out.step hb)
          replace HC := Lib.hid (HC.out.step hb)
          replace k0 := cell_of_ans hb k0
          replace k1 := cell_of_ans hb k1
          replace k2 := cell_of_ans hb k2
          replace k3 := cell_of_ans hb k3
          replace k4 := cell_of_ans hb k4
          replace Hhl4 := Lib.hid (Hhl4.out.step hb)
          replace Hhi4 := Lib.hid (Hhi4.out.step hb)
          replace Hhg4 := Lib.hid (Hhg4.out.step hb)
          replace Hhi5 := Lib.hid (Hhi5.out.step hb)
          replace HB := Lib.hid (HB.out.trans (hb.mono HB.out.size))
          clear hb
          obtain ⟨hds1, hds2, hbs⟩ := HOB.out.parts
          have HSB := Lib.hid hbs
          clear hbs HOB
          refine (HHit.out _ _ _ _ _ _ _ _ _ _ _ Hhl4.out hc4 Hhi4.out ⟨hd4, he4⟩ Hhg4.out ⟨hh4, hj4⟩ Hhi5.out ⟨hd5, he5⟩ HSB.out ⟨hds1, hds2⟩).mono ?_
          rintro e w9 ⟨lA, cl, rfl, ho, hb⟩
          replace HL := Lib.hid (HL.out.step hb)
          replace HX := Lib.hid (HX.out.step hb)
          replace HBa := Lib.hid (HBa.out.step hb)
          replace HY := Lib.hid (HY.out.step hb)
          replace HC := Lib.hid (HC.out.step hb)
          replace k0 := cell_of_ans hb k0
          replace k1 := cell_of_ans hb k1
          replace k2 := cell_of_ans hb k2
          replace k3 := cell_of_ans hb k3
          replace k4 := cell_of_ans hb k4
          replace Hhl4 := Lib.hid (Hhl4.out.step hb)
          replace Hhi4 := Lib.hid (Hhi4.out.step hb)
          replace Hhg4 := Lib.hid (Hhg4.out.step hb)
          replace Hhi5 := Lib.hid (Hhi5.out.step hb)
          replace HSB := Lib.hid (HSB.out.step hb)
          replace HB := Lib.hid (HB.out.trans (hb.mono HB.out.size))
          clear hb
          clear ho
          clear Hhl4 Hhi4 Hhg4 Hhi5 HSB
          go_wp2_with fail
          refine (HTR.out _ HL.out HX.out HBa.out).mono ?_
          rintro e w10 ⟨rfl, hb⟩
          replace HL := Lib.hid (HL.out.step hb)
          replace HX := Lib.hid (HX.out.step hb)
          replace HBa := Lib.hid (HBa.out.step hb)
          replace HY := Lib.hid (HY.out.step hb)
          replace HC := Lib.hid (HC.out.step hb)
          replace k0 := cell_of_ans hb k0
          replace k1 := cell_of_ans hb k1
          replace k2 := cell_of_ans hb k2
          replace k3 := cell_of_ans hb k3
          replace k4 := cell_of_ans hb k4
          replace HB := Lib.hid (HB.out.trans (hb.mono HB.out.size))
          clear hb
          go_wp2_with fail
          refine (awake16_c _).mono ?_
          rintro e wz ⟨rfl, hb⟩
          replace HL := Lib.hid (HL.out.step hb)
          replace HX := Lib.hid (HX.out.step hb)
          replace HBa := Lib.hid (HBa.out.step hb)
          replace HY := Lib.hid (HY.out.step hb)
          replace HC := Lib.hid (HC.out.step hb)
          replace k0 := cell_of_ans hb k0
          replace k1 := cell_of_ans hb k1
          replace k2 := cell_of_ans hb k2
          replace k3 := cell_of_ans hb k3
          replace k4 := cell_of_ans hb k4
          replace HB := Lib.hid (HB.out.trans (hb.mono HB.out.size))
          clear hb
          go_wp2_with fail
          go_ret
          exact ⟨rfl, HB.out⟩
      · have h2i : (20 : Int) < (bs.length : Int) := by omega
        have h1i : (ys.length : Int) ≤ 12 := by omega
        go_enter Try.func10, Try.ntmps10
        go_wp2_with fail
        generalize (w.alloc (.cells #[.int .i64 r.rows, .int .i64 r.mid, .int .i64 r.gap, .int .i64 r.reach, .slice A r.links.length c] 24)) = x1 at *
        refine (HTH.out _).mono ?_
        rintro e w2 ⟨rfl, hb⟩
        replace HL := Lib.hid (HL.out.step hb)
        replace HX := Lib.hid (HX.out.step hb)
        replace HBa := Lib.hid (HBa.out.step hb)
        replace HY := Lib.hid (HY.out.step hb)
        replace HC := Lib.hid (HC.out.step hb)
        replace k0 := cell_of_ans hb k0
        replace k1 := cell_of_ans hb k1
        replace k2 := cell_of_ans hb k2
        replace k3 := cell_of_ans hb k3
        replace k4 := cell_of_ans hb k4
        replace HB := Lib.hid (HB.out.trans (hb.mono HB.out.size))
        clear hb
        clear HTH
        go_wp2_with fail
        refine (awake16_c _).mono ?_
        rintro e wz ⟨rfl, hb⟩
        replace HL := Lib.hid (HL.out.step hb)
        replace HX := Lib.hid (HX.out.step hb)
        replace HBa := Lib.hid (HBa.out.step hb)
        replace HY := Lib.hid (HY.out.step hb)
        replace HC := Lib.hid (HC.out.step hb)
        replace k0 := cell_of_ans hb k0
        replace k1 := cell_of_ans hb k1
        replace k2 := cell_of_ans hb k2
        replace k3 := cell_of_ans hb k3
        replace k4 := cell_of_ans hb k4
        replace HB := Lib.hid (HB.out.trans (hb.mono HB.out.size))
        clear hb
        go_wp2_with fail
        go_ret
        exact ⟨rfl, HB.out⟩
    · have h1i : (12 : Int) < (ys.length : Int) := by omega
      go_enter Try.func10, Try.ntmps10
      go_wp2_with fail
      generalize (w.alloc (.cells #[.int .i64 r.rows, .int .i64 r.mid, .int .i64 r.gap, .int .i64 r.reach, .slice A r.links.length c] 24)) = x1 at *
      refine (HTH.out _).mono ?_
      rintro e w2 ⟨rfl, hb⟩
      replace HL := Lib.hid (HL.out.step hb)
      replace HX := Lib.hid (HX.out.step hb)
      replace HBa := Lib.hid (HBa.out.step hb)
      replace HY := Lib.hid (HY.out.step hb)
      replace HC := Lib.hid (HC.out.step hb)
      replace k0 := cell_of_ans hb k0
      replace k1 := cell_of_ans hb k1
      replace k2 := cell_of_ans hb k2
      replace k3 := cell_of_ans hb k3
      replace k4 := cell_of_ans hb k4
      replace HB := Lib.hid (HB.out.trans (hb.mono HB.out.size))
      clear hb
      clear HTH
      go_wp2_with fail
      refine (awake16_c _).mono ?_
      rintro e wz ⟨rfl, hb⟩
      replace HL := Lib.hid (HL.out.step hb)
      replace HX := Lib.hid (HX.out.step hb)
      replace HBa := Lib.hid (HBa.out.step hb)
      replace HY := Lib.hid (HY.out.step hb)
      replace HC := Lib.hid (HC.out.step hb)
      replace k0 := cell_of_ans hb k0
      replace k1 := cell_of_ans hb k1
      replace k2 := cell_of_ans hb k2
      replace k3 := cell_of_ans hb k3
      replace k4 := cell_of_ans hb k4
      replace HB := Lib.hid (HB.out.trans (hb.mono HB.out.size))
      clear hb
      go_wp2_with fail
      go_ret
      exact ⟨rfl, HB.out⟩
end Go.Proofs.Ytpekajnjjhibjaa
