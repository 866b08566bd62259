/-
  The walk of RackMore.
-/
import Derived.Test.YtpekajnjjhibjaaMoreM
import Derived.Test.YtpekajnjjhibjaaAwk
namespace Go.Proofs.Ytpekajnjjhibjaa
open Go.RowKit
set_option linter.unusedSimpArgs false
set_option linter.unusedVariables false

attribute [local go_sem] Oper.semAt_some

set_option maxRecDepth 100000 in
set_option maxHeartbeats 16000000 in
theorem more12_c (r : Rk) (A xA Ab Aw : Option Addr) (c cx cb cw bi : Nat) (xs ws : List Int) (ball : List Rg) (w : World) (hl : Lks w.heap.size w A r.links) (hc : r.links.length ≤ c ∧ c ≤ 9223372036854775807) (hx : Ints w.heap.size w xA xs) (hcx : xs.length ≤ cx ∧ cx ≤ 9223372036854775807) (hball : Rgs w.heap.size w Ab ball) (hcb : ball.length ≤ cb ∧ cb ≤ 9223372036854775807) (hws : Wds w.heap.size w Aw ws) (hcw : ws.length ≤ cw ∧ cw ≤ 9223372036854775807) (hbi : bi < 65536) :
    Calls Try.prog 12 #[.agg #[.int .i64 r.rows, .int .i64 r.mid, .int .i64 r.gap, .int .i64 r.reach, .slice A r.links.length c], .slice xA xs.length cx, .slice Ab ball.length cb, .slice Aw ws.length cw, .int .u16 (bi : Int)] w (Ans w (.bool true)) := by
  have HB := Lib.hid (Below.refl w.heap.size w)
  have HL := Lib.hid hl
  have HX := Lib.hid hx
  have HBa := Lib.hid hball
  have HWs := Lib.hid hws
  clear hl hx hball hws
  have hb : Below w.heap.size w (w.alloc (.cells #[.int .i64 r.rows, .int .i64 r.mid, .int .i64 r.gap, .int .i64 r.reach, .slice A r.links.length c] 24)) := (Below.refl _ _).alloc (Nat.le_refl _) _
  replace HL := Lib.hid (HL.out.step hb)
  replace HX := Lib.hid (HX.out.step hb)
  replace HBa := Lib.hid (HBa.out.step hb)
  replace HWs := Lib.hid (HWs.out.step hb)
  replace HB := Lib.hid (HB.out.trans (hb.mono HB.out.size))
  clear hb
  have k0 : (w.alloc (.cells #[.int .i64 r.rows, .int .i64 r.mid, .int .i64 r.gap, .int .i64 r.reach, .slice A r.links.length c] 24)).cell? ⟨w.heap.size, 0, none⟩ = some (.int .i64 r.rows) := by simp
  have k1 : (w.alloc (.cells #[.int .i64 r.rows, .int .i64 r.mid, .int .i64 r.gap, .int .i64 r.reach, .slice A r.links.length c] 24)).cell? ⟨w.heap.size, 1, none⟩ = some (.int .i64 r.mid) := by simp
  have k2 : (w.alloc (.cells #[.int .i64 r.rows, .int .i64 r.mid, .int .i64 r.gap, .int .i64 r.reach, .slice A r.links.length c] 24)).cell? ⟨w.heap.size, 2, none⟩ = some (.int .i64 r.gap) := by simp
  have k3 : (w.alloc (.cells #[.int .i64 r.rows, .int .i64 r.mid, .int .i64 r.gap, .int .i64 r.reach, .slice A r.links.length c] 24)).cell? ⟨w.heap.size, 3, none⟩ = some (.int .i64 r.reach) := by simp
  have k4 : (w.alloc (.cells #[.int .i64 r.rows, .int .i64 r.mid, .int .i64 r.gap, .int .i64 r.reach, .slice A r.links.length c] 24)).cell? ⟨w.heap.size, 4, none⟩ = some (.slice A r.links.length c) := by simp
  cases hrd : readyB r xs ball
  · go_enter Try.func12, Try.ntmps12
    go_wp2_with fail
    generalize (w.alloc (.cells #[.int .i64 r.rows, .int .i64 r.mid, .int .i64 r.gap, .int .i64 r.reach, .slice A r.links.length c] 24)) = x1 at *
    refine (ready15_c r A xA Ab c cx cb xs ball _ HL.out hc HX.out hcx HBa.out hcb).mono ?_
    rw [hrd]
    rintro e w2 ⟨rfl, hb⟩
    replace HL := Lib.hid (HL.out.step hb)
    replace HX := Lib.hid (HX.out.step hb)
    replace HBa := Lib.hid (HBa.out.step hb)
    replace HWs := Lib.hid (HWs.out.step hb)
    replace k0 := cell_of_ans hb k0
    replace k1 := cell_of_ans hb k1
    replace k2 := cell_of_ans hb k2
    replace k3 := cell_of_ans hb k3
    replace k4 := cell_of_ans hb k4
    replace HB := Lib.hid (HB.out.trans (hb.mono HB.out.size))
    clear hb
    clear hrd
    go_wp2_with fail
    refine (awake16_c _).mono ?_
    rintro e wz ⟨rfl, hb⟩
    replace HL := Lib.hid (HL.out.step hb)
    replace HX := Lib.hid (HX.out.step hb)
    replace HBa := Lib.hid (HBa.out.step hb)
    replace HWs := Lib.hid (HWs.out.step hb)
    replace k0 := cell_of_ans hb k0
    replace k1 := cell_of_ans hb k1
    replace k2 := cell_of_ans hb k2
    replace k3 := cell_of_ans hb k3
    replace k4 := cell_of_ans hb k4
    replace HB := Lib.hid (HB.out.trans (hb.mono HB.out.size))
    clear hb
    go_wp2_with fail
    go_ret
    exact ⟨rfl, HB.out⟩
  · have hrd2 := hrd
    rw [readyB, Bool.and_eq_true, decide_eq_true_eq] at hrd2
    obtain ⟨hth, he⟩ := hrd2
    rw [thinB, Bool.and_eq_true, Bool.and_eq_true, decide_eq_true_eq, decide_eq_true_eq, decide_eq_true_eq] at hth
    obtain ⟨hl16, hx15, hb8⟩ := hth
    have hlen : r.links.length ≤ 1000000 := by omega
    have hxl : xs.length ≤ 1000000 := by omega
    have hbl : ball.length ≤ 1000000 := by omega
    have hrg := (thr_parts he).2.2.2.2
    have he2 := few_thr bi he
    have HP1 := Lib.hid (hit_ok (ws := ws) he)
    have HP2 := Lib.hid (hit_ok (ws := ws) he2)
    have HP3 := Lib.hid (more_in (ws := ws) bi he)
    have hyl : (pickB ball ws).length ≤ 1000000 := by rw [pickB_len]; exact hbl
    have hsl : (pickC r.links ws).length ≤ 1000000 := by rw [pickC_len]; exact hlen
    have hfl := fewT_len xs bi
    have HHit := Lib.hid (fun (A4 xA4 Ab4 yA sA : Option Addr) (c4 cx4 cb4 cy cs : Nat) (W : World) h1 h2 h3 h4 h5 h6 h7 h8 h9 h10 => hit_c r A4 xA4 Ab4 yA sA c4 cx4 cb4 cy cs xs (pickB ball ws) ball (pickC r.links ws) W h1 h2 h3 h4 h5 h6 h7 h8 h9 h10)
    have HHif := Lib.hid (fun (A4 xA4 Ab4 yA sA : Option Addr) (c4 cx4 cb4 cy cs : Nat) (W : World) h1 h2 h3 h4 h5 h6 h7 h8 h9 h10 => hit_c r A4 xA4 Ab4 yA sA c4 cx4 cb4 cy cs (fewT xs bi xs.length) (pickB ball ws) ball (pickC r.links ws) W h1 h2 h3 h4 h5 h6 h7 h8 h9 h10)
    rw [HP1.out] at HHit
    rw [HP2.out] at HHif
    clear HP1 HP2 he he2
    obtain ⟨yb, hyb⟩ : ∃ y, y = pickB ball ws := ⟨_, rfl⟩
    obtain ⟨yc, hyc⟩ : ∃ y, y = pickC r.links ws := ⟨_, rfl⟩
    have HPK := Lib.hid (fun W h1 h2 h3 => picked49_c r A Ab Aw c cb cw ball ws W h1 hc h2 hcb h3 hcw (fun k hk => ⟨(hrg k hk).1, (hrg k hk).2.1, (hrg k hk).2.2.1⟩) hl16 hb8)
    rw [← hyb, ← hyc] at HP3 HHit HHif HPK
    rw [← hyb] at hyl
    rw [← hyc] at hsl
    clear hyb hyc hrg
    generalize hitL r xs ball yb yc = le at *
    generalize hitL r (fewT xs bi xs.length) ball yb yc = lf at *
    go_enter Try.func12, Try.ntmps12
    go_wp2_with fail
    generalize (w.alloc (.cells #[.int .i64 r.rows, .int .i64 r.mid, .int .i64 r.gap, .int .i64 r.reach, .slice A r.links.length c] 24)) = x1 at *
    refine (ready15_c r A xA Ab c cx cb xs ball _ HL.out hc HX.out hcx HBa.out hcb).mono ?_
    rw [hrd]
    rintro e w2 ⟨rfl, hb⟩
    replace HL := Lib.hid (HL.out.step hb)
    replace HX := Lib.hid (HX.out.step hb)
    replace HBa := Lib.hid (HBa.out.step hb)
    replace HWs := Lib.hid (HWs.out.step hb)
    replace k0 := cell_of_ans hb k0
    replace k1 := cell_of_ans hb k1
    replace k2 := cell_of_ans hb k2
    replace k3 := cell_of_ans hb k3
    replace k4 := cell_of_ans hb k4
    replace HB := Lib.hid (HB.out.trans (hb.mono HB.out.size))
    clear hb
    clear hrd
    go_wp2_with fail
    go_loopw [11, 12] (fun o i wr => ∃ k : Nat, k ≤ xs.length ∧ i = .int .i64 k ∧ OwnI w2.heap.size wr o (fewT xs bi k) ∧ Below w2.heap.size w2 wr) (fun _ i _ => xs.length - (intOf i).toNat)
    case atStart => exact ⟨0, by omega, rfl, OwnI.nil _ _, Below.refl _ _⟩
    case round =>
      obtain ⟨k, hk, rfl, ho, hb⟩ := hrel
      have HO := Lib.hid ho
      have HBr := Lib.hid hb
      obtain ⟨Ao, co, rfl⟩ := ho.form
      clear ho
      by_cases h1 : k < xs.length
      · have hwr : w2.heap.size ≤ wr.heap.size := hb.size
        have hk15 : k < 15 := by omega
        have hbt := bit_test bi k
        have hfk := hfl k
        have hb16 : (bi : Int) / 2 ^ k ≤ 65535 := by
          have : (bi : Int) / 2 ^ k = ((bi / 2 ^ k : Nat) : Int) := by simp
          rw [this]
          have := Nat.div_le_self bi (2 ^ k)
          omega
        have HT : Hid (fewT xs bi (k + 1) = if bi.testBit k then fewT xs bi k ++ [ix xs k] else fewT xs bi k) := rfl
        have HX2 := Lib.hid (HX.out.below hb)
        obtain ⟨b, off, rfl, _, hcell⟩ := HX2.out.at_ h1
        clear hb
        generalize fewT xs bi k = os at *
        generalize ix xs k = x at *
        cases e1 : bi.testBit k
        · rw [e1] at HT hbt
          go_wp2_with fail
          go_roundw
          case rel => exact ⟨k + 1, by omega, by go_num, by rw [HT.out]; exact HO.out, HBr.out⟩
          case measure => simp [intOf]; omega
        · rw [e1] at HT hbt
          go_wp2_with (at_builtin; refine wpList_app_int (.tmp 37) (.tmp 42) rfl rfl w2.heap.size _ _ os x rfl rfl HO (by omega) hwr ?_; intro A2 c2 wn HO2 HB2)
          go_roundw
          case rel => exact ⟨k + 1, by omega, by go_num, by rw [HT.out]; exact HO2.out, HBr.out.trans HB2.out⟩
          case measure => simp [intOf]; omega
      · obtain rfl : k = xs.length := by omega
        have hfw := hfl xs.length
        clear hfl
        generalize fewT xs bi xs.length = fw at *
        have hb := HBr.out
        clear HBr
        replace HL := Lib.hid (HL.out.step hb)
        replace HX := Lib.hid (HX.out.step hb)
        replace HBa := Lib.hid (HBa.out.step hb)
        replace HWs := Lib.hid (HWs.out.step hb)
        replace k0 := cell_of_ans hb k0
        replace k1 := cell_of_ans hb k1
        replace k2 := cell_of_ans hb k2
        replace k3 := cell_of_ans hb k3
        replace k4 := cell_of_ans hb k4
        replace HB := Lib.hid (HB.out.trans (hb.mono HB.out.size))
        clear hb
        obtain ⟨hcf1, hcf2, hff⟩ := isInts_parts HO.out.isInts
        have HF := Lib.hid hff
        clear hff HO
        have hfl : fw.length ≤ 1000000 := by omega
        go_wp2_with fail
        refine (HPK.out _ HL.out HBa.out HWs.out).mono ?_
        rintro e w3 ⟨yA, cy, sA, cs, rfl, ⟨hy, hcy⟩, ⟨hs, hcs⟩, hb⟩
        replace HL := Lib.hid (HL.out.step hb)
        replace HX := Lib.hid (HX.out.step hb)
        replace HBa := Lib.hid (HBa.out.step hb)
        replace HWs := Lib.hid (HWs.out.step hb)
        replace k0 := cell_of_ans hb k0
        replace k1 := cell_of_ans hb k1
        replace k2 := cell_of_ans hb k2
        replace k3 := cell_of_ans hb k3
        replace k4 := cell_of_ans hb k4
        replace HF := Lib.hid (HF.out.step hb)
        replace HB := Lib.hid (HB.out.trans (hb.mono HB.out.size))
        clear hb
        have Hhy := Lib.hid hy
        clear hy
        have Hhs := Lib.hid hs
        clear hs
        go_wp2_with fail
        refine (rack18_c r A c _ HL.out hc hlen).mono ?_
        rintro e w4 ⟨A4, c4, rfl, ⟨hl4, hc4⟩, hb⟩
        replace HL := Lib.hid (HL.out.step hb)
        replace HX := Lib.hid (HX.out.step hb)
        replace HBa := Lib.hid (HBa.out.step hb)
        replace HWs := Lib.hid (HWs.out.step hb)
        replace k0 := cell_of_ans hb k0
        replace k1 := cell_of_ans hb k1
        replace k2 := cell_of_ans hb k2
        replace k3 := cell_of_ans hb k3
        replace k4 := cell_of_ans hb k4
        replace HF := Lib.hid (HF.out.step hb)
        replace Hhy := Lib.hid (Hhy.out.step hb)
        replace Hhs := Lib.hid (Hhs.out.step hb)
        replace HB := Lib.hid (HB.out.trans (hb.mono HB.out.size))
        clear hb
        have Hhl4 := Lib.hid hl4
        clear hl4
        go_wp2_with fail
        refine (list_c xA xs cx _ HX.out hxl).mono ?_
        rintro e w5 ⟨B4, d4, rfl, ho4, hb⟩
        obtain ⟨hd4, he4, hi4⟩ := isInts_parts (ownsRow_isInts ho4)
        clear ho4
        replace HL := Lib.hid (HL.out.step hb)
        replace HX := Lib.hid (HX.out.step hb)
        replace HBa := Lib.hid (HBa.out.step hb)
        replace HWs := Lib.hid (HWs.out.step hb)
        replace k0 := cell_of_ans hb k0
        replace k1 := cell_of_ans hb k1
        replace k2 := cell_of_ans hb k2
        replace k3 := cell_of_ans hb k3
        replace k4 := cell_of_ans hb k4
        replace HF := Lib.hid (HF.out.step hb)
        replace Hhy := Lib.hid (Hhy.out.step hb)
        replace Hhs := Lib.hid (Hhs.out.step hb)
        replace Hhl4 := Lib.hid (Hhl4.out.step hb)
        replace HB := Lib.hid (HB.out.trans (hb.mono HB.out.size))
        clear hb
        have Hhi4 := Lib.hid hi4
        clear hi4
        go_wp2_with fail
        refine (ball20_c Ab cb ball _ HBa.out hcb hbl).mono ?_
        rintro e w6 ⟨G4, g4, rfl, ⟨hg4, hh4, hj4⟩, hb⟩
        replace HL := Lib.hid (HL.out.step hb)
        replace HX := Lib.hid (HX.out.step hb)
        replace HBa := Lib.hid (HBa.out.step hb)
        replace HWs := Lib.hid (HWs.out.step hb)
        replace k0 := cell_of_ans hb k0
        replace k1 := cell_of_ans hb k1
        replace k2 := cell_of_ans hb k2
        replace k3 := cell_of_ans hb k3
        replace k4 := cell_of_ans hb k4
        replace HF := Lib.hid (HF.out.step hb)
        replace Hhy := Lib.hid (Hhy.out.step hb)
        replace Hhs := Lib.hid (Hhs.out.step hb)
        replace Hhl4 := Lib.hid (Hhl4.out.step hb)
        replace Hhi4 := Lib.hid (Hhi4.out.step hb)
        replace HB := Lib.hid (HB.out.trans (hb.mono HB.out.size))
        clear hb
        have Hhg4 := Lib.hid hg4
        clear hg4
        go_wp2_with fail
        refine (list_c yA yb cy _ Hhy.out hyl).mono ?_
        rintro e w7 ⟨B5, d5, rfl, ho5, hb⟩
        obtain ⟨hd5, he5, hi5⟩ := isInts_parts (ownsRow_isInts ho5)
        clear ho5
        replace HL := Lib.hid (HL.out.step hb)
        replace HX := Lib.hid (HX.out.step hb)
        replace HBa := Lib.hid (HBa.out.step hb)
        replace HWs := Lib.hid (HWs.out.step hb)
        replace k0 := cell_of_ans hb k0
        replace k1 := cell_of_ans hb k1
        replace k2 := cell_of_ans hb k2
        replace k3 := cell_of_ans hb k3
        replace k4 := cell_of_ans hb k4
        replace HF := Lib.hid (HF.out.step hb)
        replace Hhy := Lib.hid (Hhy.out.step hb)
        replace Hhs := Lib.hid (Hhs.out.step hb)
        replace Hhl4 := Lib.hid (Hhl4.out.step hb)
        replace Hhi4 := Lib.hid (Hhi4.out.step hb)
        replace Hhg4 := Lib.hid (Hhg4.out.step hb)
        replace HB := Lib.hid (HB.out.trans (hb.mono HB.out.size))
        clear hb
        have Hhi5 := Lib.hid hi5
        clear hi5
        go_wp2_with (at_builtin; refine wpList_copyB (.tmp 60) rfl rfl _ sA yc _ cs rfl rfl Hhs hsl ?_; intro sB ds w8 HOB HB8)
        have hb := HB8.out
        clear HB8
        replace HL := Lib.hid (HL.out.step hb)
        replace HX := Lib.hid (HX.out.step hb)
        replace HBa := Lib.hid (HBa.out.step hb)
        replace HWs := Lib.hid (HWs.out.step hb)
        replace k0 := cell_of_ans hb k0
        replace k1 := cell_of_ans hb k1
        replace k2 := cell_of_ans hb k2
        replace k3 := cell_of_ans hb k3
        replace k4 := cell_of_ans hb k4
        replace HF := Lib.hid (HF.out.step hb)
        replace Hhy := Lib.hid (Hhy.out.step hb)
        replace Hhs := Lib.hid (Hhs.out.step hb)
        replace Hhl4 := Lib.hid (Hhl4.out.step hb)
        replace Hhi4 := Lib.hid (Hhi4.out.step hb)
        replace Hhg4 := Lib.hid (Hhg4.out.step hb)
        replace Hhi5 := Lib.hid (Hhi5.out.step hb)
        replace HB := Lib.hid (HB.out.trans (hb.mono HB.out.size))
        clear hb
        obtain ⟨hds1, hds2, hbs⟩ := HOB.out.parts
        have HSB := Lib.hid hbs
        clear hbs HOB
        refine (HHit.out _ _ _ _ _ _ _ _ _ _ _ Hhl4.out hc4 Hhi4.out ⟨hd4, he4⟩ Hhg4.out ⟨hh4, hj4⟩ Hhi5.out ⟨hd5, he5⟩ HSB.out ⟨hds1, hds2⟩).mono ?_
        rintro e w9 ⟨lA, cl, rfl, ho, hb⟩
        replace HL := Lib.hid (HL.out.step hb)
        replace HX := Lib.hid (HX.out.step hb)
        replace HBa := Lib.hid (HBa.out.step hb)
        replace HWs := Lib.hid (HWs.out.step hb)
        replace k0 := cell_of_ans hb k0
        replace k1 := cell_of_ans hb k1
        replace k2 := cell_of_ans hb k2
        replace k3 := cell_of_ans hb k3
        replace k4 := cell_of_ans hb k4
        replace HF := Lib.hid (HF.out.step hb)
        replace Hhy := Lib.hid (Hhy.out.step hb)
        replace Hhs := Lib.hid (Hhs.out.step hb)
        replace Hhl4 := Lib.hid (Hhl4.out.step hb)
        replace Hhi4 := Lib.hid (Hhi4.out.step hb)
        replace Hhg4 := Lib.hid (Hhg4.out.step hb)
        replace Hhi5 := Lib.hid (Hhi5.out.step hb)
        replace HSB := Lib.hid (HSB.out.step hb)
        replace HB := Lib.hid (HB.out.trans (hb.mono HB.out.size))
        clear hb
        obtain ⟨hcl1, hcl2, hle⟩ := isInts_parts (ownsRow_isInts ho)
        have Hle := Lib.hid hle
        clear ho hle
        clear Hhl4 Hhi4 Hhg4 Hhi5 HSB
        go_wp2_with fail
        refine (rack18_c r A c _ HL.out hc hlen).mono ?_
        rintro e w10 ⟨A6, c6, rfl, ⟨hl6, hc6⟩, hb⟩
        replace HL := Lib.hid (HL.out.step hb)
        replace HX := Lib.hid (HX.out.step hb)
        replace HBa := Lib.hid (HBa.out.step hb)
        replace HWs := Lib.hid (HWs.out.step hb)
        replace k0 := cell_of_ans hb k0
        replace k1 := cell_of_ans hb k1
        replace k2 := cell_of_ans hb k2
        replace k3 := cell_of_ans hb k3
        replace k4 := cell_of_ans hb k4
        replace HF := Lib.hid (HF.out.step hb)
        replace Hhy := Lib.hid (Hhy.out.step hb)
        replace Hhs := Lib.hid (Hhs.out.step hb)
        replace Hle := Lib.hid (Hle.out.step hb)
        replace HB := Lib.hid (HB.out.trans (hb.mono HB.out.size))
        clear hb
        have Hhl6 := Lib.hid hl6
        clear hl6
        go_wp2_with fail
        refine (list_c Ao fw co _ HF.out hfl).mono ?_
        rintro e w11 ⟨B6, d6, rfl, ho6, hb⟩
        obtain ⟨hd6, he6, hi6⟩ := isInts_parts (ownsRow_isInts ho6)
        clear ho6
        replace HL := Lib.hid (HL.out.step hb)
        replace HX := Lib.hid (HX.out.step hb)
        replace HBa := Lib.hid (HBa.out.step hb)
        replace HWs := Lib.hid (HWs.out.step hb)
        replace k0 := cell_of_ans hb k0
        replace k1 := cell_of_ans hb k1
        replace k2 := cell_of_ans hb k2
        replace k3 := cell_of_ans hb k3
        replace k4 := cell_of_ans hb k4
        replace HF := Lib.hid (HF.out.step hb)
        replace Hhy := Lib.hid (Hhy.out.step hb)
        replace Hhs := Lib.hid (Hhs.out.step hb)
        replace Hle := Lib.hid (Hle.out.step hb)
        replace Hhl6 := Lib.hid (Hhl6.out.step hb)
        replace HB := Lib.hid (HB.out.trans (hb.mono HB.out.size))
        clear hb
        have Hhi6 := Lib.hid hi6
        clear hi6
        go_wp2_with fail
        refine (ball20_c Ab cb ball _ HBa.out hcb hbl).mono ?_
        rintro e w12 ⟨G6, g6, rfl, ⟨hg6, hh6, hj6⟩, hb⟩
        replace HL := Lib.hid (HL.out.step hb)
        replace HX := Lib.hid (HX.out.step hb)
        replace HBa := Lib.hid (HBa.out.step hb)
        replace HWs := Lib.hid (HWs.out.step hb)
        replace k0 := cell_of_ans hb k0
        replace k1 := cell_of_ans hb k1
        replace k2 := cell_of_ans hb k2
        replace k3 := cell_of_ans hb k3
        replace k4 := cell_of_ans hb k4
        replace HF := Lib.hid (HF.out.step hb)
        replace Hhy := Lib.hid (Hhy.out.step hb)
        replace Hhs := Lib.hid (Hhs.out.step hb)
        replace Hle := Lib.hid (Hle.out.step hb)
        replace Hhl6 := Lib.hid (Hhl6.out.step hb)
        replace Hhi6 := Lib.hid (Hhi6.out.step hb)
        replace HB := Lib.hid (HB.out.trans (hb.mono HB.out.size))
        clear hb
        have Hhg6 := Lib.hid hg6
        clear hg6
        go_wp2_with fail
        refine (HHif.out _ _ _ _ _ _ _ _ _ _ _ Hhl6.out hc6 Hhi6.out ⟨hd6, he6⟩ Hhg6.out ⟨hh6, hj6⟩ Hhy.out hcy Hhs.out hcs).mono ?_
        rintro e w13 ⟨fA, cf, rfl, ho, hb⟩
        replace HL := Lib.hid (HL.out.step hb)
        replace HX := Lib.hid (HX.out.step hb)
        replace HBa := Lib.hid (HBa.out.step hb)
        replace HWs := Lib.hid (HWs.out.step hb)
        replace k0 := cell_of_ans hb k0
        replace k1 := cell_of_ans hb k1
        replace k2 := cell_of_ans hb k2
        replace k3 := cell_of_ans hb k3
        replace k4 := cell_of_ans hb k4
        replace HF := Lib.hid (HF.out.step hb)
        replace Hhy := Lib.hid (Hhy.out.step hb)
        replace Hhs := Lib.hid (Hhs.out.step hb)
        replace Hle := Lib.hid (Hle.out.step hb)
        replace Hhl6 := Lib.hid (Hhl6.out.step hb)
        replace Hhi6 := Lib.hid (Hhi6.out.step hb)
        replace Hhg6 := Lib.hid (Hhg6.out.step hb)
        replace HB := Lib.hid (HB.out.trans (hb.mono HB.out.size))
        clear hb
        obtain ⟨hcg1, hcg2, hlf⟩ := isInts_parts (ownsRow_isInts ho)
        have Hlf := Lib.hid hlf
        clear ho hlf
        clear Hhl6 Hhi6 Hhg6
        go_wp2_with fail
        refine (left45_c _ _ fw lf co cf _ HF.out ⟨hcf1, hcf2⟩ hfl Hlf.out ⟨hcg1, hcg2⟩).mono ?_
        rintro e w14 ⟨mA, cm, rfl, ho, hb⟩
        obtain ⟨hcm1, hcm2, hmm⟩ := isInts_parts (ownsRow_isInts ho)
        replace HL := Lib.hid (HL.out.step hb)
        replace HX := Lib.hid (HX.out.step hb)
        replace HBa := Lib.hid (HBa.out.step hb)
        replace HWs := Lib.hid (HWs.out.step hb)
        replace k0 := cell_of_ans hb k0
        replace k1 := cell_of_ans hb k1
        replace k2 := cell_of_ans hb k2
        replace k3 := cell_of_ans hb k3
        replace k4 := cell_of_ans hb k4
        replace HF := Lib.hid (HF.out.step hb)
        replace Hhy := Lib.hid (Hhy.out.step hb)
        replace Hhs := Lib.hid (Hhs.out.step hb)
        replace Hle := Lib.hid (Hle.out.step hb)
        replace Hlf := Lib.hid (Hlf.out.step hb)
        replace HB := Lib.hid (HB.out.trans (hb.mono HB.out.size))
        clear hb
        have Hmm := Lib.hid hmm
        clear ho hmm
        go_wp2_with fail
        refine (left45_c _ _ xs le cx cl _ HX.out hcx hxl Hle.out ⟨hcl1, hcl2⟩).mono ?_
        rintro e w15 ⟨nA, cn, rfl, ho, hb⟩
        obtain ⟨hcn1, hcn2, hnn⟩ := isInts_parts (ownsRow_isInts ho)
        replace HL := Lib.hid (HL.out.step hb)
        replace HX := Lib.hid (HX.out.step hb)
        replace HBa := Lib.hid (HBa.out.step hb)
        replace HWs := Lib.hid (HWs.out.step hb)
        replace k0 := cell_of_ans hb k0
        replace k1 := cell_of_ans hb k1
        replace k2 := cell_of_ans hb k2
        replace k3 := cell_of_ans hb k3
        replace k4 := cell_of_ans hb k4
        replace HF := Lib.hid (HF.out.step hb)
        replace Hhy := Lib.hid (Hhy.out.step hb)
        replace Hhs := Lib.hid (Hhs.out.step hb)
        replace Hle := Lib.hid (Hle.out.step hb)
        replace Hlf := Lib.hid (Hlf.out.step hb)
        replace Hmm := Lib.hid (Hmm.out.step hb)
        replace HB := Lib.hid (HB.out.trans (hb.mono HB.out.size))
        clear hb
        have Hnn := Lib.hid hnn
        clear ho hnn
        go_wp2_with fail
        refine (within22_c _ _ (minusL fw lf) (minusL xs le) cm cn _ Hmm.out ⟨hcm1, hcm2⟩ Hnn.out ⟨hcn1, hcn2⟩).mono ?_
        rw [HP3.out]
        rintro e w16 ⟨rfl, rfl⟩
        go_wp2_with fail
        refine (awake16_c _).mono ?_
        rintro e w17 ⟨rfl, hb⟩
        replace HL := Lib.hid (HL.out.step hb)
        replace HX := Lib.hid (HX.out.step hb)
        replace HBa := Lib.hid (HBa.out.step hb)
        replace HWs := Lib.hid (HWs.out.step hb)
        replace k0 := cell_of_ans hb k0
        replace k1 := cell_of_ans hb k1
        replace k2 := cell_of_ans hb k2
        replace k3 := cell_of_ans hb k3
        replace k4 := cell_of_ans hb k4
        replace HF := Lib.hid (HF.out.step hb)
        replace Hhy := Lib.hid (Hhy.out.step hb)
        replace Hhs := Lib.hid (Hhs.out.step hb)
        replace Hle := Lib.hid (Hle.out.step hb)
        replace Hlf := Lib.hid (Hlf.out.step hb)
        replace Hmm := Lib.hid (Hmm.out.step hb)
        replace Hnn := Lib.hid (Hnn.out.step hb)
        replace HB := Lib.hid (HB.out.trans (hb.mono HB.out.size))
        clear hb
        go_wp2_with fail
        go_ret
        exact ⟨rfl, HB.out⟩
end Go.Proofs.Ytpekajnjjhibjaa
