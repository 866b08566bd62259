/-
  The walk of RackTruth.
-/
import Derived.Test.YtpekajnjjhibjaaLawsM
import Derived.Test.YtpekajnjjhibjaaAwk
namespace Go.Proofs.Ytpekajnjjhibjaa
open Go.RowKit
set_option linter.unusedSimpArgs false
set_option linter.unusedVariables false

attribute [local go_sem] Oper.semAt_some

set_option maxRecDepth 100000 in
set_option maxHeartbeats 16000000 in
theorem truth13_c (r : Rk) (A xA Ab Aw : Option Addr) (c cx cb cw : Nat) (xs ws : List Int) (ball : List Rg) (w : World) (hl : Lks w.heap.size w A r.links) (hc : r.links.length ≤ c ∧ c ≤ 9223372036854775807) (hx : Ints w.heap.size w xA xs) (hcx : xs.length ≤ cx ∧ cx ≤ 9223372036854775807) (hball : Rgs w.heap.size w Ab ball) (hcb : ball.length ≤ cb ∧ cb ≤ 9223372036854775807) (hws : Wds w.heap.size w Aw ws) (hcw : ws.length ≤ cw ∧ cw ≤ 9223372036854775807) :
    Calls Try.prog 13 #[.agg #[.int .i64 r.rows, .int .i64 r.mid, .int .i64 r.gap, .int .i64 r.reach, .slice A r.links.length c], .slice xA xs.length cx, .slice Ab ball.length cb, .slice Aw ws.length cw] w (Ans w (.bool true)) := by
  have HB := Lib.hid (Below.refl w.heap.size w)
  have HL := Lib.hid hl
  have HX := Lib.hid hx
  have HBa := Lib.hid hball
  have HWs := Lib.hid hws
  clear hl hx hball hws
  have hb : Below w.heap.size w (w.alloc (.cells #[.int .i64 r.rows, .int .i64 r.mid, .int .i64 r.gap, .int .i64 r.reach, .slice A r.links.length c] 24)) := (Below.refl _ _).alloc (Nat.le_refl _) _
  replace HL := Lib.hid (HL.out.step hb)
  replace HX := Lib.hid (HX.out.step hb)
  replace HBa := Lib.hid (HBa.out.step hb)
  replace HWs := Lib.hid (HWs.out.step hb)
  replace HB := Lib.hid (HB.out.trans (hb.mono HB.out.size))
  clear hb
  have k0 : (w.alloc (.cells #[.int .i64 r.rows, .int .i64 r.mid, .int .i64 r.gap, .int .i64 r.reach, .slice A r.links.length c] 24)).cell? ⟨w.heap.size, 0, none⟩ = some (.int .i64 r.rows) := by simp
  have k1 : (w.alloc (.cells #[.int .i64 r.rows, .int .i64 r.mid, .int .i64 r.gap, .int .i64 r.reach, .slice A r.links.length c] 24)).cell? ⟨w.heap.size, 1, none⟩ = some (.int .i64 r.mid) := by simp
  have k2 : (w.alloc (.cells #[.int .i64 r.rows, .int .i64 r.mid, .int .i64 r.gap, .int .i64 r.reach, .slice A r.links.length c] 24)).cell? ⟨w.heap.size, 2, none⟩ = some (.int .i64 r.gap) := by simp
  have k3 : (w.alloc (.cells #[.int .i64 r.rows, .int .i64 r.mid, .int .i64 r.gap, .int .i64 r.reach, .slice A r.links.length c] 24)).cell? ⟨w.heap.size, 3, none⟩ = some (.int .i64 r.reach) := by simp
  have k4 : (w.alloc (.cells #[.int .i64 r.rows, .int .i64 r.mid, .int .i64 r.gap, .int .i64 r.reach, .slice A r.links.length c] 24)).cell? ⟨w.heap.size, 4, none⟩ = some (.slice A r.links.length c) := by simp
  cases hrd : readyB r xs ball
  · go_enter Try.func13, Try.ntmps13
    go_wp2_with fail
    generalize (w.alloc (.cells #[.int .i64 r.rows, .int .i64 r.mid, .int .i64 r.gap, .int .i64 r.reach, .slice A r.links.length c] 24)) = x1 at *
    refine (ready15_c r A xA Ab c cx cb xs ball _ HL.out hc HX.out hcx HBa.out hcb).mono ?_
    rw [hrd]
    rintro e w2 ⟨rfl, hb⟩
    replace HL := Lib.hid (HL.out.step hb)
    replace HX := Lib.hid (HX.out.step hb)
    replace HBa := Lib.hid (HBa.out.step hb)
    replace HWs := Lib.hid (HWs.out.step hb)
    replace k0 := cell_of_ans hb k0
    replace k1 := cell_of_ans hb k1
    replace k2 := cell_of_ans hb k2
    replace k3 := cell_of_ans hb k3
    replace k4 := cell_of_ans hb k4
    replace HB := Lib.hid (HB.out.trans (hb.mono HB.out.size))
    clear hb
    clear hrd
    go_wp2_with fail
    refine (awake16_c _).mono ?_
    rintro e wz ⟨rfl, hb⟩
    replace HL := Lib.hid (HL.out.step hb)
    replace HX := Lib.hid (HX.out.step hb)
    replace HBa := Lib.hid (HBa.out.step hb)
    replace HWs := Lib.hid (HWs.out.step hb)
    replace k0 := cell_of_ans hb k0
    replace k1 := cell_of_ans hb k1
    replace k2 := cell_of_ans hb k2
    replace k3 := cell_of_ans hb k3
    replace k4 := cell_of_ans hb k4
    replace HB := Lib.hid (HB.out.trans (hb.mono HB.out.size))
    clear hb
    go_wp2_with fail
    go_ret
    exact ⟨rfl, HB.out⟩
  · have hrd2 := hrd
    rw [readyB, Bool.and_eq_true, decide_eq_true_eq] at hrd2
    obtain ⟨hth, he⟩ := hrd2
    rw [thinB, Bool.and_eq_true, Bool.and_eq_true, decide_eq_true_eq, decide_eq_true_eq, decide_eq_true_eq] at hth
    obtain ⟨hl16, hx15, hb8⟩ := hth
    have hlen : r.links.length ≤ 1000000 := by omega
    have hxl : xs.length ≤ 1000000 := by omega
    have hbl : ball.length ≤ 1000000 := by omega
    have hrg := (thr_parts he).2.2.2.2
    have HP1 := Lib.hid (hit_ok (ws := ws) he)
    have HP2 := Lib.hid (truth_in (ws := ws) he)
    have HP3 := Lib.hid (truth_len (ws := ws) he)
    have HP4 := Lib.hid (truth_can (ws := ws) he)
    have HP5 := Lib.hid (truth_sure (ws := ws) he)
    have HP6 := Lib.hid (truth_may (ws := ws) he)
    have hLl : (hitL r xs ball (pickB ball ws) (pickC r.links ws)).length ≤ 1000000 := by
      rw [hit_list he, natsI_len]
      have := many_le (pickS r xs ball ws)
      unfold many at this
      omega
    have hHit := fun (A4 xA4 Ab4 yA sA : Option Addr) (c4 cx4 cb4 cy cs : Nat) (W : World) h1 h2 h3 h4 h5 h6 h7 h8 h9 h10 => hit_c r A4 xA4 Ab4 yA sA c4 cx4 cb4 cy cs xs (pickB ball ws) ball (pickC r.links ws) W h1 h2 h3 h4 h5 h6 h7 h8 h9 h10
    have hFal := fun (A4 xA4 Ab4 : Option Addr) (c4 cx4 cb4 : Nat) (W : World) h1 h2 h3 h4 h5 h6 => falls17_c r A4 xA4 Ab4 c4 cx4 cb4 xs ball W h1 h2 h3 h4 h5 h6
    have hLef := fun (A4 xA4 Ab4 : Option Addr) (c4 cx4 cb4 : Nat) (W : World) h1 h2 h3 h4 h5 h6 => left21_c r A4 xA4 Ab4 c4 cx4 cb4 xs ball W h1 h2 h3 h4 h5 h6
    have HHit := Lib.hid hHit
    have HFal := Lib.hid hFal
    have HLef := Lib.hid hLef
    clear hHit hFal hLef
    rw [HP1.out] at HHit
    rw [he] at HFal HLef
    have HCan := Lib.hid (fun (A4 xA4 Ab4 lA : Option Addr) (c4 cx4 cb4 cl : Nat) (W : World) h1 h2 h3 h4 h5 h6 h7 h8 => (show Calls Try.prog 32 #[.agg #[.int .i64 r.rows, .int .i64 r.mid, .int .i64 r.gap, .int .i64 r.reach, .slice A4 r.links.length c4], .slice xA4 xs.length cx4, .slice Ab4 ball.length cb4, .slice lA (hitL r xs ball (pickB ball ws) (pickC r.links ws)).length cl] W (Ans W (.bool true)) from by
      have h := canLeave_c r A4 xA4 Ab4 lA c4 cx4 cb4 cl xs (hitL r xs ball (pickB ball ws) (pickC r.links ws)) ball W h1 h2 h3 h4 h5 h6 h7 h8
      rwa [HP4.out] at h))
    clear HP1 HP4 he
    obtain ⟨yb, hyb⟩ : ∃ y, y = pickB ball ws := ⟨_, rfl⟩
    obtain ⟨yc, hyc⟩ : ∃ y, y = pickC r.links ws := ⟨_, rfl⟩
    have HPK := Lib.hid (fun W h1 h2 h3 => picked49_c r A Ab Aw c cb cw ball ws W h1 hc h2 hcb h3 hcw (fun k hk => ⟨(hrg k hk).1, (hrg k hk).2.1, (hrg k hk).2.2.1⟩) hl16 hb8)
    rw [← hyb, ← hyc] at HP2 HP3 HP5 HP6 hLl HHit HCan HPK
    clear hyb hyc hrg
    generalize hitL r xs ball yb yc = le at *
    generalize sureL r xs ball = sl at *
    generalize mayL r xs ball = ml at *
    generalize leftV r xs ball = lv at *
    obtain ⟨lo, hi⟩ := lv
    dsimp only at HP3 HLef
    go_enter Try.func13, Try.ntmps13
    go_wp2_with fail
    generalize (w.alloc (.cells #[.int .i64 r.rows, .int .i64 r.mid, .int .i64 r.gap, .int .i64 r.reach, .slice A r.links.length c] 24)) = x1 at *
    refine (ready15_c r A xA Ab c cx cb xs ball _ HL.out hc HX.out hcx HBa.out hcb).mono ?_
    rw [hrd]
    rintro e w2 ⟨rfl, hb⟩
    replace HL := Lib.hid (HL.out.step hb)
    replace HX := Lib.hid (HX.out.step hb)
    replace HBa := Lib.hid (HBa.out.step hb)
    replace HWs := Lib.hid (HWs.out.step hb)
    replace k0 := cell_of_ans hb k0
    replace k1 := cell_of_ans hb k1
    replace k2 := cell_of_ans hb k2
    replace k3 := cell_of_ans hb k3
    replace k4 := cell_of_ans hb k4
    replace HB := Lib.hid (HB.out.trans (hb.mono HB.out.size))
    clear hb
    clear hrd
    go_wp2_with fail
    refine (HPK.out _ HL.out HBa.out HWs.out).mono ?_
    rintro e w3 ⟨yA, cy, sA, cs, rfl, ⟨hy, hcy⟩, ⟨hs, hcs⟩, hb⟩
    replace HL := Lib.hid (HL.out.step hb)
    replace HX := Lib.hid (HX.out.step hb)
    replace HBa := Lib.hid (HBa.out.step hb)
    replace HWs := Lib.hid (HWs.out.step hb)
    replace k0 := cell_of_ans hb k0
    replace k1 := cell_of_ans hb k1
    replace k2 := cell_of_ans hb k2
    replace k3 := cell_of_ans hb k3
    replace k4 := cell_of_ans hb k4
    replace HB := Lib.hid (HB.out.trans (hb.mono HB.out.size))
    clear hb
    have Hhy := Lib.hid hy
    clear hy
    have Hhs := Lib.hid hs
    clear hs
    go_wp2_with fail
    refine (rack18_c r A c _ HL.out hc hlen).mono ?_
    rintro e w4 ⟨A4, c4, rfl, ⟨hl4, hc4⟩, hb⟩
    replace HL := Lib.hid (HL.out.step hb)
    replace HX := Lib.hid (HX.out.step hb)
    replace HBa := Lib.hid (HBa.out.step hb)
    replace HWs := Lib.hid (HWs.out.step hb)
    replace k0 := cell_of_ans hb k0
    replace k1 := cell_of_ans hb k1
    replace k2 := cell_of_ans hb k2
    replace k3 := cell_of_ans hb k3
    replace k4 := cell_of_ans hb k4
    replace Hhy := Lib.hid (Hhy.out.step hb)
    replace Hhs := Lib.hid (Hhs.out.step hb)
    replace HB := Lib.hid (HB.out.trans (hb.mono HB.out.size))
    clear hb
    have Hhl4 := Lib.hid hl4
    clear hl4
    go_wp2_with fail
    refine (list_c xA xs cx _ HX.out hxl).mono ?_
    rintro e w5 ⟨B4, d4, rfl, ho4, hb⟩
    obtain ⟨hd4, he4, hi4⟩ := isInts_parts (ownsRow_isInts ho4)
    clear ho4
    replace HL := Lib.hid (HL.out.step hb)
    replace HX := Lib.hid (HX.out.step hb)
    replace HBa := Lib.hid (HBa.out.step hb)
    replace HWs := Lib.hid (HWs.out.step hb)
    replace k0 := cell_of_ans hb k0
    replace k1 := cell_of_ans hb k1
    replace k2 := cell_of_ans hb k2
    replace k3 := cell_of_ans hb k3
    replace k4 := cell_of_ans hb k4
    replace Hhy := Lib.hid (Hhy.out.step hb)
    replace Hhs := Lib.hid (Hhs.out.step hb)
    replace Hhl4 := Lib.hid (Hhl4.out.step hb)
    replace HB := Lib.hid (HB.out.trans (hb.mono HB.out.size))
    clear hb
    have Hhi4 := Lib.hid hi4
    clear hi4
    go_wp2_with fail
    refine (ball20_c Ab cb ball _ HBa.out hcb hbl).mono ?_
    rintro e w6 ⟨G4, g4, rfl, ⟨hg4, hh4, hj4⟩, hb⟩
    replace HL := Lib.hid (HL.out.step hb)
    replace HX := Lib.hid (HX.out.step hb)
    replace HBa := Lib.hid (HBa.out.step hb)
    replace HWs := Lib.hid (HWs.out.step hb)
    replace k0 := cell_of_ans hb k0
    replace k1 := cell_of_ans hb k1
    replace k2 := cell_of_ans hb k2
    replace k3 := cell_of_ans hb k3
    replace k4 := cell_of_ans hb k4
    replace Hhy := Lib.hid (Hhy.out.step hb)
    replace Hhs := Lib.hid (Hhs.out.step hb)
    replace Hhl4 := Lib.hid (Hhl4.out.step hb)
    replace Hhi4 := Lib.hid (Hhi4.out.step hb)
    replace HB := Lib.hid (HB.out.trans (hb.mono HB.out.size))
    clear hb
    have Hhg4 := Lib.hid hg4
    clear hg4
    go_wp2_with fail
    refine (HHit.out _ _ _ _ _ _ _ _ _ _ _ Hhl4.out hc4 Hhi4.out ⟨hd4, he4⟩ Hhg4.out ⟨hh4, hj4⟩ Hhy.out hcy Hhs.out hcs).mono ?_
    rintro e w7 ⟨lA, cl, rfl, ho, hb⟩
    replace HL := Lib.hid (HL.out.step hb)
    replace HX := Lib.hid (HX.out.step hb)
    replace HBa := Lib.hid (HBa.out.step hb)
    replace HWs := Lib.hid (HWs.out.step hb)
    replace k0 := cell_of_ans hb k0
    replace k1 := cell_of_ans hb k1
    replace k2 := cell_of_ans hb k2
    replace k3 := cell_of_ans hb k3
    replace k4 := cell_of_ans hb k4
    replace Hhy := Lib.hid (Hhy.out.step hb)
    replace Hhs := Lib.hid (Hhs.out.step hb)
    replace Hhl4 := Lib.hid (Hhl4.out.step hb)
    replace Hhi4 := Lib.hid (Hhi4.out.step hb)
    replace Hhg4 := Lib.hid (Hhg4.out.step hb)
    replace HB := Lib.hid (HB.out.trans (hb.mono HB.out.size))
    clear hb
    obtain ⟨hcl1, hcl2, hle⟩ := isInts_parts (ownsRow_isInts ho)
    have Hle := Lib.hid hle
    clear ho hle
    clear Hhl4 Hhi4 Hhg4
    go_wp2_with fail
    refine (rack18_c r A c _ HL.out hc hlen).mono ?_
    rintro e w8 ⟨A5, c5, rfl, ⟨hl5, hc5⟩, hb⟩
    replace HL := Lib.hid (HL.out.step hb)
    replace HX := Lib.hid (HX.out.step hb)
    replace HBa := Lib.hid (HBa.out.step hb)
    replace HWs := Lib.hid (HWs.out.step hb)
    replace k0 := cell_of_ans hb k0
    replace k1 := cell_of_ans hb k1
    replace k2 := cell_of_ans hb k2
    replace k3 := cell_of_ans hb k3
    replace k4 := cell_of_ans hb k4
    replace Hhy := Lib.hid (Hhy.out.step hb)
    replace Hhs := Lib.hid (Hhs.out.step hb)
    replace Hle := Lib.hid (Hle.out.step hb)
    replace HB := Lib.hid (HB.out.trans (hb.mono HB.out.size))
    clear hb
    have Hhl5 := Lib.hid hl5
    clear hl5
    go_wp2_with fail
    refine (list_c xA xs cx _ HX.out hxl).mono ?_
    rintro e w9 ⟨B5, d5, rfl, ho5, hb⟩
    obtain ⟨hd5, he5, hi5⟩ := isInts_parts (ownsRow_isInts ho5)
    clear ho5
    replace HL := Lib.hid (HL.out.step hb)
    replace HX := Lib.hid (HX.out.step hb)
    replace HBa := Lib.hid (HBa.out.step hb)
    replace HWs := Lib.hid (HWs.out.step hb)
    replace k0 := cell_of_ans hb k0
    replace k1 := cell_of_ans hb k1
    replace k2 := cell_of_ans hb k2
    replace k3 := cell_of_ans hb k3
    replace k4 := cell_of_ans hb k4
    replace Hhy := Lib.hid (Hhy.out.step hb)
    replace Hhs := Lib.hid (Hhs.out.step hb)
    replace Hle := Lib.hid (Hle.out.step hb)
    replace Hhl5 := Lib.hid (Hhl5.out.step hb)
    replace HB := Lib.hid (HB.out.trans (hb.mono HB.out.size))
    clear hb
    have Hhi5 := Lib.hid hi5
    clear hi5
    go_wp2_with fail
    refine (ball20_c Ab cb ball _ HBa.out hcb hbl).mono ?_
    rintro e w10 ⟨G5, g5, rfl, ⟨hg5, hh5, hj5⟩, hb⟩
    replace HL := Lib.hid (HL.out.step hb)
    replace HX := Lib.hid (HX.out.step hb)
    replace HBa := Lib.hid (HBa.out.step hb)
    replace HWs := Lib.hid (HWs.out.step hb)
    replace k0 := cell_of_ans hb k0
    replace k1 := cell_of_ans hb k1
    replace k2 := cell_of_ans hb k2
    replace k3 := cell_of_ans hb k3
    replace k4 := cell_of_ans hb k4
    replace Hhy := Lib.hid (Hhy.out.step hb)
    replace Hhs := Lib.hid (Hhs.out.step hb)
    replace Hle := Lib.hid (Hle.out.step hb)
    replace Hhl5 := Lib.hid (Hhl5.out.step hb)
    replace Hhi5 := Lib.hid (Hhi5.out.step hb)
    replace HB := Lib.hid (HB.out.trans (hb.mono HB.out.size))
    clear hb
    have Hhg5 := Lib.hid hg5
    clear hg5
    go_wp2_with fail
    refine (HFal.out _ _ _ _ _ _ _ Hhl5.out hc5 Hhi5.out ⟨hd5, he5⟩ Hhg5.out ⟨hh5, hj5⟩).mono ?_
    rintro e w11 ⟨sA2, cs2, mA, cm, rfl, ⟨hsl, hsl2⟩, ⟨hml, hml2⟩, hb⟩
    replace HL := Lib.hid (HL.out.step hb)
    replace HX := Lib.hid (HX.out.step hb)
    replace HBa := Lib.hid (HBa.out.step hb)
    replace HWs := Lib.hid (HWs.out.step hb)
    replace k0 := cell_of_ans hb k0
    replace k1 := cell_of_ans hb k1
    replace k2 := cell_of_ans hb k2
    replace k3 := cell_of_ans hb k3
    replace k4 := cell_of_ans hb k4
    replace Hhy := Lib.hid (Hhy.out.step hb)
    replace Hhs := Lib.hid (Hhs.out.step hb)
    replace Hle := Lib.hid (Hle.out.step hb)
    replace Hhl5 := Lib.hid (Hhl5.out.step hb)
    replace Hhi5 := Lib.hid (Hhi5.out.step hb)
    replace Hhg5 := Lib.hid (Hhg5.out.step hb)
    replace HB := Lib.hid (HB.out.trans (hb.mono HB.out.size))
    clear hb
    have Hhsl := Lib.hid hsl
    clear hsl
    have Hhml := Lib.hid hml
    clear hml
    clear Hhl5 Hhi5 Hhg5
    go_wp2_with fail
    refine (rack18_c r A c _ HL.out hc hlen).mono ?_
    rintro e w12 ⟨A6, c6, rfl, ⟨hl6, hc6⟩, hb⟩
    replace HL := Lib.hid (HL.out.step hb)
    replace HX := Lib.hid (HX.out.step hb)
    replace HBa := Lib.hid (HBa.out.step hb)
    replace HWs := Lib.hid (HWs.out.step hb)
    replace k0 := cell_of_ans hb k0
    replace k1 := cell_of_ans hb k1
    replace k2 := cell_of_ans hb k2
    replace k3 := cell_of_ans hb k3
    replace k4 := cell_of_ans hb k4
    replace Hhy := Lib.hid (Hhy.out.step hb)
    replace Hhs := Lib.hid (Hhs.out.step hb)
    replace Hle := Lib.hid (Hle.out.step hb)
    replace Hhsl := Lib.hid (Hhsl.out.step hb)
    replace Hhml := Lib.hid (Hhml.out.step hb)
    replace HB := Lib.hid (HB.out.trans (hb.mono HB.out.size))
    clear hb
    have Hhl6 := Lib.hid hl6
    clear hl6
    go_wp2_with fail
    refine (list_c xA xs cx _ HX.out hxl).mono ?_
    rintro e w13 ⟨B6, d6, rfl, ho6, hb⟩
    obtain ⟨hd6, he6, hi6⟩ := isInts_parts (ownsRow_isInts ho6)
    clear ho6
    replace HL := Lib.hid (HL.out.step hb)
    replace HX := Lib.hid (HX.out.step hb)
    replace HBa := Lib.hid (HBa.out.step hb)
    replace HWs := Lib.hid (HWs.out.step hb)
    replace k0 := cell_of_ans hb k0
    replace k1 := cell_of_ans hb k1
    replace k2 := cell_of_ans hb k2
    replace k3 := cell_of_ans hb k3
    replace k4 := cell_of_ans hb k4
    replace Hhy := Lib.hid (Hhy.out.step hb)
    replace Hhs := Lib.hid (Hhs.out.step hb)
    replace Hle := Lib.hid (Hle.out.step hb)
    replace Hhsl := Lib.hid (Hhsl.out.step hb)
    replace Hhml := Lib.hid (Hhml.out.step hb)
    replace Hhl6 := Lib.hid (Hhl6.out.step hb)
    replace HB := Lib.hid (HB.out.trans (hb.mono HB.out.size))
    clear hb
    have Hhi6 := Lib.hid hi6
    clear hi6
    go_wp2_with fail
    refine (ball20_c Ab cb ball _ HBa.out hcb hbl).mono ?_
    rintro e w14 ⟨G6, g6, rfl, ⟨hg6, hh6, hj6⟩, hb⟩
    replace HL := Lib.hid (HL.out.step hb)
    replace HX := Lib.hid (HX.out.step hb)
    replace HBa := Lib.hid (HBa.out.step hb)
    replace HWs := Lib.hid (HWs.out.step hb)
    replace k0 := cell_of_ans hb k0
    replace k1 := cell_of_ans hb k1
    replace k2 := cell_of_ans hb k2
    replace k3 := cell_of_ans hb k3
    replace k4 := cell_of_ans hb k4
    replace Hhy := Lib.hid (Hhy.out.step hb)
    replace Hhs := Lib.hid (Hhs.out.step hb)
    replace Hle := Lib.hid (Hle.out.step hb)
    replace Hhsl := Lib.hid (Hhsl.out.step hb)
    replace Hhml := Lib.hid (Hhml.out.step hb)
    replace Hhl6 := Lib.hid (Hhl6.out.step hb)
    replace Hhi6 := Lib.hid (Hhi6.out.step hb)
    replace HB := Lib.hid (HB.out.trans (hb.mono HB.out.size))
    clear hb
    have Hhg6 := Lib.hid hg6
    clear hg6
    go_wp2_with fail
    refine (HLef.out _ _ _ _ _ _ _ Hhl6.out hc6 Hhi6.out ⟨hd6, he6⟩ Hhg6.out ⟨hh6, hj6⟩).mono ?_
    rintro e w15 ⟨rfl, hb⟩
    replace HL := Lib.hid (HL.out.step hb)
    replace HX := Lib.hid (HX.out.step hb)
    replace HBa := Lib.hid (HBa.out.step hb)
    replace HWs := Lib.hid (HWs.out.step hb)
    replace k0 := cell_of_ans hb k0
    replace k1 := cell_of_ans hb k1
    replace k2 := cell_of_ans hb k2
    replace k3 := cell_of_ans hb k3
    replace k4 := cell_of_ans hb k4
    replace Hhy := Lib.hid (Hhy.out.step hb)
    replace Hhs := Lib.hid (Hhs.out.step hb)
    replace Hle := Lib.hid (Hle.out.step hb)
    replace Hhsl := Lib.hid (Hhsl.out.step hb)
    replace Hhml := Lib.hid (Hhml.out.step hb)
    replace Hhl6 := Lib.hid (Hhl6.out.step hb)
    replace Hhi6 := Lib.hid (Hhi6.out.step hb)
    replace Hhg6 := Lib.hid (Hhg6.out.step hb)
    replace HB := Lib.hid (HB.out.trans (hb.mono HB.out.size))
    clear hb
    clear Hhl6 Hhi6 Hhg6
    have ltk0 := World.block_lt_of_cell? _ _ k0
    dsimp only at ltk0
    go_upto_region 7 with fail
    have hb : Below w15.heap.size w15 (w15.alloc (.cells #[.int .i64 (lo : Int), .int .i64 (hi : Int)] 44)) := (Below.refl _ _).alloc (Nat.le_refl _) _
    replace HL := Lib.hid (HL.out.step hb)
    replace HX := Lib.hid (HX.out.step hb)
    replace HBa := Lib.hid (HBa.out.step hb)
    replace HWs := Lib.hid (HWs.out.step hb)
    replace k0 := cell_of_ans hb k0
    replace k1 := cell_of_ans hb k1
    replace k2 := cell_of_ans hb k2
    replace k3 := cell_of_ans hb k3
    replace k4 := cell_of_ans hb k4
    replace Hhy := Lib.hid (Hhy.out.step hb)
    replace Hhs := Lib.hid (Hhs.out.step hb)
    replace Hle := Lib.hid (Hle.out.step hb)
    replace Hhsl := Lib.hid (Hhsl.out.step hb)
    replace Hhml := Lib.hid (Hhml.out.step hb)
    replace HB := Lib.hid (HB.out.trans (hb.mono HB.out.size))
    clear hb
    have n0 : (w15.alloc (.cells #[.int .i64 (lo : Int), .int .i64 (hi : Int)] 44)).cell? ⟨w15.heap.size, 0, none⟩ = some (.int .i64 (lo : Int)) := by simp
    have n1 : (w15.alloc (.cells #[.int .i64 (lo : Int), .int .i64 (hi : Int)] 44)).cell? ⟨w15.heap.size, 1, none⟩ = some (.int .i64 (hi : Int)) := by simp
    generalize (w15.alloc (.cells #[.int .i64 (lo : Int), .int .i64 (hi : Int)] 44)) = w16 at *
    generalize w15.heap.size = nq at *
    obtain ⟨hp31, hp32⟩ := HP3.out
    have e1 : decide ((le.length : Int) < (lo : Int)) = false := by simp; omega
    have e2 : decide ((hi : Int) < (le.length : Int)) = false := by simp; omega
    have e3 : decide (le.length < lo) = false := by simp; omega
    have e4 : decide (hi < le.length) = false := by simp; omega
    clear hp31 hp32
    go_wp2_with (go_at_call 22; refine (within22_c _ _ le xs cl cx _ Hle.out ⟨hcl1, hcl2⟩ HX.out hcx).mono ?_; rw [HP2.out]; rintro e w17 ⟨rfl, rfl⟩)
    refine (rack18_c r A c _ HL.out hc hlen).mono ?_
    rintro e w18 ⟨A7, c7, rfl, ⟨hl7, hc7⟩, hb⟩
    replace HL := Lib.hid (HL.out.step hb)
    replace HX := Lib.hid (HX.out.step hb)
    replace HBa := Lib.hid (HBa.out.step hb)
    replace HWs := Lib.hid (HWs.out.step hb)
    replace k0 := cell_of_ans hb k0
    replace k1 := cell_of_ans hb k1
    replace k2 := cell_of_ans hb k2
    replace k3 := cell_of_ans hb k3
    replace k4 := cell_of_ans hb k4
    replace Hhy := Lib.hid (Hhy.out.step hb)
    replace Hhs := Lib.hid (Hhs.out.step hb)
    replace Hle := Lib.hid (Hle.out.step hb)
    replace Hhsl := Lib.hid (Hhsl.out.step hb)
    replace Hhml := Lib.hid (Hhml.out.step hb)
    replace n0 := cell_of_ans hb n0
    replace n1 := cell_of_ans hb n1
    replace HB := Lib.hid (HB.out.trans (hb.mono HB.out.size))
    clear hb
    have Hhl7 := Lib.hid hl7
    clear hl7
    go_wp2_with fail
    refine (list_c xA xs cx _ HX.out hxl).mono ?_
    rintro e w19 ⟨B7, d7, rfl, ho7, hb⟩
    obtain ⟨hd7, he7, hi7⟩ := isInts_parts (ownsRow_isInts ho7)
    clear ho7
    replace HL := Lib.hid (HL.out.step hb)
    replace HX := Lib.hid (HX.out.step hb)
    replace HBa := Lib.hid (HBa.out.step hb)
    replace HWs := Lib.hid (HWs.out.step hb)
    replace k0 := cell_of_ans hb k0
    replace k1 := cell_of_ans hb k1
    replace k2 := cell_of_ans hb k2
    replace k3 := cell_of_ans hb k3
    replace k4 := cell_of_ans hb k4
    replace Hhy := Lib.hid (Hhy.out.step hb)
    replace Hhs := Lib.hid (Hhs.out.step hb)
    replace Hle := Lib.hid (Hle.out.step hb)
    replace Hhsl := Lib.hid (Hhsl.out.step hb)
    replace Hhml := Lib.hid (Hhml.out.step hb)
    replace n0 := cell_of_ans hb n0
    replace n1 := cell_of_ans hb n1
    replace Hhl7 := Lib.hid (Hhl7.out.step hb)
    replace HB := Lib.hid (HB.out.trans (hb.mono HB.out.size))
    clear hb
    have Hhi7 := Lib.hid hi7
    clear hi7
    go_wp2_with fail
    refine (ball20_c Ab cb ball _ HBa.out hcb hbl).mono ?_
    rintro e w20 ⟨G7, g7, rfl, ⟨hg7, hh7, hj7⟩, hb⟩
    replace HL := Lib.hid (HL.out.step hb)
    replace HX := Lib.hid (HX.out.step hb)
    replace HBa := Lib.hid (HBa.out.step hb)
    replace HWs := Lib.hid (HWs.out.step hb)
    replace k0 := cell_of_ans hb k0
    replace k1 := cell_of_ans hb k1
    replace k2 := cell_of_ans hb k2
    replace k3 := cell_of_ans hb k3
    replace k4 := cell_of_ans hb k4
    replace Hhy := Lib.hid (Hhy.out.step hb)
    replace Hhs := Lib.hid (Hhs.out.step hb)
    replace Hle := Lib.hid (Hle.out.step hb)
    replace Hhsl := Lib.hid (Hhsl.out.step hb)
    replace Hhml := Lib.hid (Hhml.out.step hb)
    replace n0 := cell_of_ans hb n0
    replace n1 := cell_of_ans hb n1
    replace Hhl7 := Lib.hid (Hhl7.out.step hb)
    replace Hhi7 := Lib.hid (Hhi7.out.step hb)
    replace HB := Lib.hid (HB.out.trans (hb.mono HB.out.size))
    clear hb
    have Hhg7 := Lib.hid hg7
    clear hg7
    go_wp2_with fail
    refine (list_c lA le cl _ Hle.out hLl).mono ?_
    rintro e w21 ⟨B8, d8, rfl, ho8, hb⟩
    obtain ⟨hd8, he8, hi8⟩ := isInts_parts (ownsRow_isInts ho8)
    clear ho8
    replace HL := Lib.hid (HL.out.step hb)
    replace HX := Lib.hid (HX.out.step hb)
    replace HBa := Lib.hid (HBa.out.step hb)
    replace HWs := Lib.hid (HWs.out.step hb)
    replace k0 := cell_of_ans hb k0
    replace k1 := cell_of_ans hb k1
    replace k2 := cell_of_ans hb k2
    replace k3 := cell_of_ans hb k3
    replace k4 := cell_of_ans hb k4
    replace Hhy := Lib.hid (Hhy.out.step hb)
    replace Hhs := Lib.hid (Hhs.out.step hb)
    replace Hle := Lib.hid (Hle.out.step hb)
    replace Hhsl := Lib.hid (Hhsl.out.step hb)
    replace Hhml := Lib.hid (Hhml.out.step hb)
    replace n0 := cell_of_ans hb n0
    replace n1 := cell_of_ans hb n1
    replace Hhl7 := Lib.hid (Hhl7.out.step hb)
    replace Hhi7 := Lib.hid (Hhi7.out.step hb)
    replace Hhg7 := Lib.hid (Hhg7.out.step hb)
    replace HB := Lib.hid (HB.out.trans (hb.mono HB.out.size))
    clear hb
    have Hhi8 := Lib.hid hi8
    clear hi8
    go_wp2_with fail
    refine (HCan.out _ _ _ _ _ _ _ _ _ Hhl7.out hc7 Hhi7.out ⟨hd7, he7⟩ Hhg7.out ⟨hh7, hj7⟩ Hhi8.out ⟨hd8, he8⟩).mono ?_
    rintro e w22 ⟨rfl, hb⟩
    replace HL := Lib.hid (HL.out.step hb)
    replace HX := Lib.hid (HX.out.step hb)
    replace HBa := Lib.hid (HBa.out.step hb)
    replace HWs := Lib.hid (HWs.out.step hb)
    replace k0 := cell_of_ans hb k0
    replace k1 := cell_of_ans hb k1
    replace k2 := cell_of_ans hb k2
    replace k3 := cell_of_ans hb k3
    replace k4 := cell_of_ans hb k4
    replace Hhy := Lib.hid (Hhy.out.step hb)
    replace Hhs := Lib.hid (Hhs.out.step hb)
    replace Hle := Lib.hid (Hle.out.step hb)
    replace Hhsl := Lib.hid (Hhsl.out.step hb)
    replace Hhml := Lib.hid (Hhml.out.step hb)
    replace n0 := cell_of_ans hb n0
    replace n1 := cell_of_ans hb n1
    replace Hhl7 := Lib.hid (Hhl7.out.step hb)
    replace Hhi7 := Lib.hid (Hhi7.out.step hb)
    replace Hhg7 := Lib.hid (Hhg7.out.step hb)
    replace Hhi8 := Lib.hid (Hhi8.out.step hb)
    replace HB := Lib.hid (HB.out.trans (hb.mono HB.out.size))
    clear hb
    clear Hhl7 Hhi7 Hhg7 Hhi8
    go_wp2_with fail
    refine (left45_c _ _ xs le cx cl _ HX.out hcx hxl Hle.out ⟨hcl1, hcl2⟩).mono ?_
    rintro e w23 ⟨fA, cf, rfl, ho, hb⟩
    obtain ⟨hcf1, hcf2, hfe⟩ := isInts_parts (ownsRow_isInts ho)
    replace HL := Lib.hid (HL.out.step hb)
    replace HX := Lib.hid (HX.out.step hb)
    replace HBa := Lib.hid (HBa.out.step hb)
    replace HWs := Lib.hid (HWs.out.step hb)
    replace k0 := cell_of_ans hb k0
    replace k1 := cell_of_ans hb k1
    replace k2 := cell_of_ans hb k2
    replace k3 := cell_of_ans hb k3
    replace k4 := cell_of_ans hb k4
    replace Hhy := Lib.hid (Hhy.out.step hb)
    replace Hhs := Lib.hid (Hhs.out.step hb)
    replace Hle := Lib.hid (Hle.out.step hb)
    replace Hhsl := Lib.hid (Hhsl.out.step hb)
    replace Hhml := Lib.hid (Hhml.out.step hb)
    replace n0 := cell_of_ans hb n0
    replace n1 := cell_of_ans hb n1
    replace HB := Lib.hid (HB.out.trans (hb.mono HB.out.size))
    clear hb
    have Hfe := Lib.hid hfe
    clear ho hfe
    generalize minusL xs le = fl at *
    have HT1 : Hid True := trivial
    go_wp2_with (first | (go_at_call 22; have _t := HT1; refine (within22_c _ _ sl fl cs2 cf _ Hhsl.out hsl2 Hfe.out ⟨hcf1, hcf2⟩).mono ?_; rw [HP5.out]; rintro e w24 ⟨rfl, rfl⟩; clear HT1) | (go_at_call 22; refine (within22_c _ _ fl ml cf cm _ Hfe.out ⟨hcf1, hcf2⟩ Hhml.out hml2).mono ?_; rw [HP6.out]; rintro e w25 ⟨rfl, rfl⟩))
    refine (awake16_c _).mono ?_
    rintro e w26 ⟨rfl, hb⟩
    replace HL := Lib.hid (HL.out.step hb)
    replace HX := Lib.hid (HX.out.step hb)
    replace HBa := Lib.hid (HBa.out.step hb)
    replace HWs := Lib.hid (HWs.out.step hb)
    replace k0 := cell_of_ans hb k0
    replace k1 := cell_of_ans hb k1
    replace k2 := cell_of_ans hb k2
    replace k3 := cell_of_ans hb k3
    replace k4 := cell_of_ans hb k4
    replace Hhy := Lib.hid (Hhy.out.step hb)
    replace Hhs := Lib.hid (Hhs.out.step hb)
    replace Hle := Lib.hid (Hle.out.step hb)
    replace Hhsl := Lib.hid (Hhsl.out.step hb)
    replace Hhml := Lib.hid (Hhml.out.step hb)
    replace n0 := cell_of_ans hb n0
    replace n1 := cell_of_ans hb n1
    replace Hfe := Lib.hid (Hfe.out.step hb)
    replace HB := Lib.hid (HB.out.trans (hb.mono HB.out.size))
    clear hb
    go_wp2_with fail
    go_ret
    exact ⟨rfl, HB.out⟩
end Go.Proofs.Ytpekajnjjhibjaa
