/-
  The walk of the statement TopCounted.
-/
import Derived.Test.YtenpiinkbfancaaCountW
import Derived.Test.YtenpiinkbfancaaAppS
import Derived.Test.YtenpiinkbfancaaSnF
namespace Go.Proofs.Ytenpiinkbfancaa.Sn
open Go.RowKit
set_option linter.unusedSimpArgs false
set_option linter.unusedVariables false

attribute [local go_sem] Oper.semAt_some
/-- All facts of the ranges of what was told. -/
def RngT (ns : List Int) (m : Nat) (r : List (Int × Int)) : Prop := r.length = 2 * m ∧ ∀ f, f < m → ∀ b, b ≤ 1 → (px r (2 * f + b)).1 ≤ behR (trueG ns m) f b ∧ behR (trueG ns m) f b ≤ (px r (2 * f + b)).2
set_option maxRecDepth 100000 in
set_option maxHeartbeats 16000000 in
theorem counted3_c (htold : ∀ w, Calls Try.prog 8 #[] w (Ans w (.bool true))) (A : Option Addr) (ws : List Wd) (c : Nat) (frn : Int) (An : Option Addr) (ns : List Int) (cn bi : Nat) (w : World) (hw : Wds w.heap.size w A ws) (hc : ws.length ≤ c ∧ c ≤ 9223372036854775807) (hn : U16s w.heap.size w An ns) (hcn : ns.length ≤ cn ∧ cn ≤ 9223372036854775807) (hbi : bi < 256) :
    Calls Try.prog 3 #[.agg #[.int .i64 frn, .slice A ws.length c], .slice An ns.length cn, .int .u8 (bi : Int)] w (Ans w (.bool true)) := by
  have hb0 : Below w.heap.size w (w.alloc (.cells #[.int .i64 frn, .slice A ws.length c] 24)) := (Below.refl _ _).alloc (Nat.le_refl _) _
  have k0 : (w.alloc (.cells #[.int .i64 frn, .slice A ws.length c] 24)).cell? ⟨w.heap.size, 0, none⟩ = some (.int .i64 frn) := by simp
  have k1 : (w.alloc (.cells #[.int .i64 frn, .slice A ws.length c] 24)).cell? ⟨w.heap.size, 1, none⟩ = some (.slice A ws.length c) := by simp
  have HB := Lib.hid hb0
  have HW := Lib.hid (hw.step hb0)
  have HN := Lib.hid (hn.step hb0)
  have HWK := Lib.hid htold
  have HTh := Lib.hid (fun W => thin_c A none ws [] c 0 frn W)
  have HFa := Lib.hid (fun W h => fault_c A ws c frn W h hc)
  clear hb0 hw hn htold
  go_enter Try.func3, Try.ntmps3
  go_wp2_with fail
  generalize (w.alloc (.cells #[.int .i64 frn, .slice A ws.length c] 24)) = W0 at *
  cases hth : thinB ws []
  · rw [hth] at HTh
    clear hth
    refine (HTh.out _).mono ?_
    rintro e y1 ⟨rfl, hb⟩
    replace HW := Lib.hid (HW.out.step hb)
    replace HN := Lib.hid (HN.out.step hb)
    replace k0 := cell_of_ans hb k0
    replace k1 := cell_of_ans hb k1
    replace HB := Lib.hid (HB.out.trans (hb.mono HB.out.size))
    clear hb
    go_wp2_with fail
    refine (HWK.out _).mono ?_
    rintro e y2 ⟨rfl, hb⟩
    replace HW := Lib.hid (HW.out.step hb)
    replace HN := Lib.hid (HN.out.step hb)
    replace k0 := cell_of_ans hb k0
    replace k1 := cell_of_ans hb k1
    replace HB := Lib.hid (HB.out.trans (hb.mono HB.out.size))
    clear hb
    go_wp2_with fail
    go_ret
    exact ⟨rfl, HB.out⟩
  rw [hth] at HTh
  clear hth
  refine (HTh.out _).mono ?_
  rintro e y3 ⟨rfl, hb⟩
  replace HW := Lib.hid (HW.out.step hb)
  replace HN := Lib.hid (HN.out.step hb)
  replace k0 := cell_of_ans hb k0
  replace k1 := cell_of_ans hb k1
  replace HB := Lib.hid (HB.out.trans (hb.mono HB.out.size))
  clear hb
  by_cases hle : laneErr frn ws = 0
  rotate_left 1
  · have hle2 : (laneErr frn ws != 0) = true := by simpa using hle
    clear hle
    go_wp2_with fail
    refine (HFa.out _ HW.out).mono ?_
    rintro e y4 ⟨rfl, hb⟩
    replace HW := Lib.hid (HW.out.step hb)
    replace HN := Lib.hid (HN.out.step hb)
    replace k0 := cell_of_ans hb k0
    replace k1 := cell_of_ans hb k1
    replace HB := Lib.hid (HB.out.trans (hb.mono HB.out.size))
    clear hb
    go_wp2_with fail
    refine (HWK.out _).mono ?_
    rintro e y5 ⟨rfl, hb⟩
    replace HW := Lib.hid (HW.out.step hb)
    replace HN := Lib.hid (HN.out.step hb)
    replace k0 := cell_of_ans hb k0
    replace k1 := cell_of_ans hb k1
    replace HB := Lib.hid (HB.out.trans (hb.mono HB.out.size))
    clear hb
    go_wp2_with fail
    go_ret
    exact ⟨rfl, HB.out⟩
  rw [hle] at HFa
  obtain ⟨h30, hf1, hf5, hok⟩ := laneOk hle
  obtain ⟨m, rfl⟩ : ∃ m : Nat, frn = (m : Int) := ⟨frn.toNat, by omega⟩
  have HLE := Lib.hid hle
  have HOK := Lib.hid hok
  have hm5 : m ≤ 5 := by omega
  clear hle hok
  go_wp2_with fail
  refine (HFa.out _ HW.out).mono ?_
  rintro e y6 ⟨rfl, hb⟩
  replace HW := Lib.hid (HW.out.step hb)
  replace HN := Lib.hid (HN.out.step hb)
  replace k0 := cell_of_ans hb k0
  replace k1 := cell_of_ans hb k1
  replace HB := Lib.hid (HB.out.trans (hb.mono HB.out.size))
  clear hb
  have HOO : Hid (∀ j, j ≤ 3 → bi.testBit j = true → offT (chTo bi 4) j = true) := fun j hj h => by rw [chTo_off _ _ (by omega)]; exact h
  obtain ⟨zs, hzs⟩ : ∃ zs : List Wd, zs = toldL (trueG ns m) ns bi ws := ⟨_, rfl⟩
  have HZS := Lib.hid hzs
  have HLZ : Hid (laneErr (m : Int) zs = 0) := by show _ = _; rw [hzs]; exact told_lane HLE.out
  have HEX : Hid (explB (m : Int) zs (offT (chTo bi 4)) = true) := by show _ = _; rw [hzs]; exact told_expl HLE.out HOO.out
  have HRT : Hid (RngT ns m (rangesL zs (offT (chTo bi 4)) m)) := by
    rw [hzs]
    refine ⟨rangesL_len _ _ _, fun f hf b hb => ?_⟩
    have := stood_rg (ns := ns) HLE.out HOO.out (i := 2 * f + b) (by omega)
    rwa [show (2 * f + b) / 2 = f by omega, show (2 * f + b) % 2 = b by omega] at this
  have HCT : Hid (cntLo zs (offT (chTo bi 4)) m ≤ cntT ns m m ∧ cntT ns m m ≤ cntHi zs (offT (chTo bi 4)) m) := by rw [hzs]; exact cnt_in HLE.out HOO.out m (Nat.le_refl _)
  have hzl0 : zs.length = ws.length := by rw [hzs, toldL_len]
  have hzl : zs.length ≤ 1000000 := by omega
  clear hzs hzl0 HOO HTh HFa
  go_wp2_with fail
  refine (true_c An ns cn m _ HN.out hcn (by omega)).mono ?_
  rintro e y7 ⟨Ag, cg, vg, rfl, hR, hb⟩
  replace HW := Lib.hid (HW.out.step hb)
  replace HN := Lib.hid (HN.out.step hb)
  replace k0 := cell_of_ans hb k0
  replace k1 := cell_of_ans hb k1
  replace HB := Lib.hid (HB.out.trans (hb.mono HB.out.size))
  clear hb
  obtain ⟨hcg1, hcg2, hgr⟩ := grd_of hR.grd
  have HGR := Lib.hid hgr
  clear hR hgr
  have HTC : Hid (∀ W, Wds W.heap.size W A ws → Grd W.heap.size W Ag (trueG ns m) → U16s W.heap.size W An ns → Calls Try.prog 10 #[.agg #[.int .i64 (m : Int), .slice A ws.length c], .slice Ag (trueG ns m).length cg, .slice An ns.length cn, .int .u8 (bi : Int)] W (LanePost 123 W (m : Int) zs)) := fun W h1 h2 h3 => by
    rw [HZS.out]
    exact told_c A Ag An ws (trueG ns m) ns c cg cn bi m (m : Int) W h1 h2 h3 hc ⟨hcg1, hcg2⟩ hcn (by omega) hbi (trueG_len ns m) HOK.out true_vals true_bd
  go_wp2_with fail
  refine (HTC.out _ HW.out HGR.out HN.out).mono ?_
  rintro e y8 ⟨Az, cz, rfl, hO, hb⟩
  replace HW := Lib.hid (HW.out.step hb)
  replace HN := Lib.hid (HN.out.step hb)
  replace k0 := cell_of_ans hb k0
  replace k1 := cell_of_ans hb k1
  replace HGR := Lib.hid (HGR.out.step hb)
  replace HB := Lib.hid (HB.out.trans (hb.mono HB.out.size))
  clear hb
  obtain ⟨hcz1, hcz2, hO⟩ := hO.wds
  have HZ := Lib.hid hO
  clear hO HTC
  have hcz : zs.length ≤ cz ∧ cz ≤ 9223372036854775807 := ⟨hcz1, hcz2⟩
  go_upto_region 5 with fail
  have hb : Below y8.heap.size y8 (y8.alloc (.cells #[.int .i64 (m : Int), .slice Az zs.length cz] 24)) := (Below.refl _ _).alloc (Nat.le_refl _) _
  have z0 : (y8.alloc (.cells #[.int .i64 (m : Int), .slice Az zs.length cz] 24)).cell? ⟨y8.heap.size, 0, none⟩ = some (.int .i64 (m : Int)) := by simp
  have z1 : (y8.alloc (.cells #[.int .i64 (m : Int), .slice Az zs.length cz] 24)).cell? ⟨y8.heap.size, 1, none⟩ = some (.slice Az zs.length cz) := by simp
  replace HW := Lib.hid (HW.out.step hb)
  replace HN := Lib.hid (HN.out.step hb)
  replace k0 := cell_of_ans hb k0
  replace k1 := cell_of_ans hb k1
  replace HGR := Lib.hid (HGR.out.step hb)
  replace HZ := Lib.hid (HZ.out.step hb)
  replace HB := Lib.hid (HB.out.trans (hb.mono HB.out.size))
  clear hb
  generalize (y8.alloc (.cells #[.int .i64 (m : Int), .slice Az zs.length cz] 24)) = y9 at *
  generalize y8.heap.size = qy9 at *
  go_wp2_with fail
  refine (lane_c Az zs cz (m : Int) _ HZ.out hcz hzl).mono ?_
  rintro e y11 ⟨Al10, cl10, rfl, hO10, hb⟩
  replace HW := Lib.hid (HW.out.step hb)
  replace HN := Lib.hid (HN.out.step hb)
  replace k0 := cell_of_ans hb k0
  replace k1 := cell_of_ans hb k1
  replace HGR := Lib.hid (HGR.out.step hb)
  replace HZ := Lib.hid (HZ.out.step hb)
  replace z0 := cell_of_ans hb z0
  replace z1 := cell_of_ans hb z1
  replace HB := Lib.hid (HB.out.trans (hb.mono HB.out.size))
  clear hb
  obtain ⟨hq10, hqq10, hO10⟩ := hO10.wds
  have HL10 := Lib.hid hO10
  clear hO10
  go_wp2_with fail
  refine (chosen_c bi hbi _).mono ?_
  rintro e y12 ⟨AcA, ccA, rfl, hO, hb⟩
  replace HW := Lib.hid (HW.out.step hb)
  replace HN := Lib.hid (HN.out.step hb)
  replace k0 := cell_of_ans hb k0
  replace k1 := cell_of_ans hb k1
  replace HGR := Lib.hid (HGR.out.step hb)
  replace HZ := Lib.hid (HZ.out.step hb)
  replace z0 := cell_of_ans hb z0
  replace z1 := cell_of_ans hb z1
  replace HL10 := Lib.hid (HL10.out.step hb)
  replace HB := Lib.hid (HB.out.trans (hb.mono HB.out.size))
  clear hb
  obtain ⟨hcA, hccA, hO⟩ := isInts_parts (ownsRow_isInts hO)
  have HCA := Lib.hid hO
  clear hO
  have hlA := chTo_len (bi) 4
  have HRA := Lib.hid (chTo_rise bi)
  have hfl : (chTo bi 4).length ≤ 1000 := by omega
  generalize chTo bi 4 = fa at *
  have HEZ := Lib.hid (ex_zero HLZ.out HRA.out HEX.out)
  go_wp2_with fail
  refine (ranges_ok Al10 AcA zs fa cl10 ccA (m : Int) _ HL10.out HCA.out ⟨hq10, hqq10⟩ ⟨hcA, hccA⟩ HEZ.out).mono ?_
  rintro e y13 ⟨Ar, cr, rfl, hcr, hR, hb⟩
  replace HW := Lib.hid (HW.out.step hb)
  replace HN := Lib.hid (HN.out.step hb)
  replace k0 := cell_of_ans hb k0
  replace k1 := cell_of_ans hb k1
  replace HGR := Lib.hid (HGR.out.step hb)
  replace HZ := Lib.hid (HZ.out.step hb)
  replace z0 := cell_of_ans hb z0
  replace z1 := cell_of_ans hb z1
  replace HL10 := Lib.hid (HL10.out.step hb)
  replace HCA := Lib.hid (HCA.out.step hb)
  replace HB := Lib.hid (HB.out.trans (hb.mono HB.out.size))
  clear hb
  clear HL10
  have HG := Lib.hid hR
  clear hR
  rw [Int.toNat_natCast] at *
  obtain ⟨hrl, hrr⟩ := HRT.out
  have HRR := Lib.hid hrr
  clear hrr HRT
  generalize rangesL zs (offT fa) m = r at *
  generalize cntLo zs (offT fa) m = lo at *
  generalize cntHi zs (offT fa) m = hi at *
  have HRL := Lib.hid hrl
  have hr10 : r.length ≤ 10 := by omega
  clear hrl HEZ HRA HEX HLZ
  go_upto_region 6 with fail
  have hb : Below y13.heap.size y13 (y13.alloc (.cells #[.int .i64 lo, .int .i64 hi] 34)) := (Below.refl _ _).alloc (Nat.le_refl _) _
  have u0 : (y13.alloc (.cells #[.int .i64 lo, .int .i64 hi] 34)).cell? ⟨y13.heap.size, 0, none⟩ = some (.int .i64 lo) := by simp
  have u1 : (y13.alloc (.cells #[.int .i64 lo, .int .i64 hi] 34)).cell? ⟨y13.heap.size, 1, none⟩ = some (.int .i64 hi) := by simp
  replace HW := Lib.hid (HW.out.step hb)
  replace HN := Lib.hid (HN.out.step hb)
  replace k0 := cell_of_ans hb k0
  replace k1 := cell_of_ans hb k1
  replace HGR := Lib.hid (HGR.out.step hb)
  replace HZ := Lib.hid (HZ.out.step hb)
  replace z0 := cell_of_ans hb z0
  replace z1 := cell_of_ans hb z1
  replace HCA := Lib.hid (HCA.out.step hb)
  replace HG := Lib.hid (HG.out.step hb)
  replace HB := Lib.hid (HB.out.trans (hb.mono HB.out.size))
  clear hb
  generalize (y13.alloc (.cells #[.int .i64 lo, .int .i64 hi] 34)) = y14 at *
  generalize y13.heap.size = qy14 at *
  clear HZ z0 z1 HCA
  have hgl := trueG_len ns m
  obtain ⟨lo2, hi2, hcu⟩ := counted (ns := ns) hm5
  have HLH := Lib.hid (And.intro hcu.least hcu.most)
  have HRD := Lib.hid (read_game hcu)
  have HSN := Lib.hid (span_game hcu)
  clear hcu
  have HGF := Lib.hid (gmF (ns := ns) hm5)
  generalize hgm : trueG ns m = gm at *
  have HGM := Lib.hid hgm
  clear hgm
  go_wp2_with fail
  have HGL := Lib.hid hgl
  clear hgl
  go_loopw [14, 12, 13, 15] (fun iv sv cv kv wr => ∃ f : Nat, f ≤ m ∧ iv = .int .i64 (f : Int) ∧ OwnN y14.heap.size wr sv (gm.take f).flatten ∧ cv = .int .i64 (cntT ns m f) ∧ Below y14.heap.size y14 wr) (fun iv _ _ _ _ => m - (intOf iv).toNat)
  case atStart => exact ⟨0, by omega, rfl, OwnN.nil _ _, rfl, Below.refl _ _⟩
  case round =>
    obtain ⟨f, hf, rfl, hO, rfl, hbw⟩ := hrel
    have HO := Lib.hid hO
    have HBW := Lib.hid hbw
    clear hO
    by_cases h1 : f < m
    · have h1i : (f : Int) < (gm.length : Int) := by have := HGL.out; omega
      obtain ⟨b1, o1, Ar1, cr1, hA1, hb1, hc1, hr1, hr2, hrow⟩ := (HGR.out.below hbw).at_ (k := f) (by have := HGL.out; omega)
      subst hA1
      obtain ⟨hrl2, hrs⟩ := HGF.out.row f h1
      have hval := HGF.out.val f h1
      have HCNT := Lib.hid (HGF.out.cnt f h1)
      have HFLAT := Lib.hid (HGF.out.flat f h1)
      have hcb := cntT_bd (ns := ns) (m := m) f hf
      have HTS := Lib.hid (fun k (h : k < (rx gm f).length) => take_sum_succ h)
      have hfl2 := HGF.out.len f hf
      generalize (gm.take f).flatten = sf at *
      generalize rx gm f = row at *
      have HROW := Lib.hid hrow
      have HRS := Lib.hid hrs
      have HVAL := Lib.hid hval
      have HC1 := Lib.hid hc1
      obtain ⟨Asv, csv, rfl⟩ := HO.out.form
      have HSF : Hid (sf.length = sf.length) := rfl
      have HRN : Hid (row.length = row.length) := rfl
      have hsr : sf.length + row.length ≤ 1000000 := by omega
      generalize hct : cntT ns m f = ct at *
      clear hct hrow hrs hval
      go_wp2_with (at_builtin; refine wpList_appS (.tmp 57) (.tmp 61) rfl rfl y14.heap.size _ _ sf row sf.length row.length cr1 y14.heap.size Ar1 rfl rfl HO HSF HROW HRN hsr HBW.out.size ?_; intro A8 c8 w8 HO8 HB8)
      have hc8 := (HB8.out.cell (p := ⟨b1, o1 + f, none⟩) hb1).trans HC1.out
      have HROW8 := Lib.hid (HROW.out.below HB8.out)
      clear hc1 HROW HC1 HO
      go_loopw [15, 13] (fun kv cv wx => ∃ k : Nat, k ≤ row.length ∧ kv = .int .i64 (k : Int) ∧ cv = .int .i64 (ct + (row.take k).sum) ∧ wx = w8) (fun kv _ _ => row.length - (intOf kv).toNat)
      case atStart => exact ⟨0, by omega, rfl, by simp, rfl⟩
      case round =>
        obtain ⟨k, hk, rfl, rfl, rfl⟩ := hrel
        by_cases h2 : k < row.length
        · have h2i : (k : Int) < (row.length : Int) := by omega
          obtain ⟨b2, o2, hA2, hb2, hc2⟩ := HROW8.out.at_ h2
          subst hA2
          have hts := HTS.out k h2
          have hv := HVAL.out k h2
          have hs1 := HRS.out k
          have hwa : IntKind.i64.wrap (ct + (row.take k).sum + ix row k) = ct + (row.take k).sum + ix row k := IntWalk.i64_in _ (by omega)
          have hww : IntKind.i64.wrap ((k : Int) + 1) = (k : Int) + 1 := IntWalk.i64_in _ (by omega)
          have HTK := Lib.hid hts
          clear hts hv hs1
          generalize (row.take k).sum = sk at *
          go_wp2_with fail
          go_roundw
          case rel => exact ⟨k + 1, by omega, by go_num, by rw [HTK.out]; simp [Int.add_assoc], by trivial⟩
          case measure => simp [intOf]; omega
        · obtain rfl : k = row.length := by omega
          have h2i : ¬ (row.length : Int) < (row.length : Int) := by omega
          have hww : IntKind.i64.wrap ((f : Int) + 1) = (f : Int) + 1 := IntWalk.i64_in _ (by omega)
          go_wp2_with fail
          go_roundw
          case rel => exact ⟨f + 1, by omega, by go_num, by rw [HFLAT.out]; exact HO8.out, by rw [HCNT.out], HBW.out.trans HB8.out⟩
          case measure => simp [intOf]; omega
    · obtain rfl : m = f := by omega
      have h1i : ¬ (m : Int) < (gm.length : Int) := by have := HGL.out; omega
      have hall := HGF.out.all
      rw [hall] at HO
      obtain ⟨xs, hxs⟩ : ∃ xs, xs = gm.flatten := ⟨_, rfl⟩
      have hxl := HGF.out.len m (Nat.le_refl _)
      rw [hall] at hxl
      rw [← hxs] at HO HRD HSN hxl
      obtain ⟨Asv, csv, rfl⟩ := HO.out.form
      obtain ⟨-, hcs1, hcs2, hxi⟩ := ints_parts HO.out.isInts
      have HXI := Lib.hid hxi
      have hcbd := cntT_bd (ns := ns) (m := m) m (Nat.le_refl _)
      obtain ⟨hct1, hct2⟩ := HCT.out
      obtain ⟨hlh1, hlh2⟩ := HLH.out
      clear hxi hall hxs h1 HLH HCT HO
      have hw1 : IntKind.i64.wrap ((m : Int) + 1) = (m : Int) + 1 := IntWalk.i64_in _ (by omega)
      have hb := hbw
  
      clear hbw HBW
      replace HW := Lib.hid (HW.out.step hb)
      replace HN := Lib.hid (HN.out.step hb)
      replace k0 := cell_of_ans hb k0
      replace k1 := cell_of_ans hb k1
      replace HGR := Lib.hid (HGR.out.step hb)
      replace HG := Lib.hid (HG.out.step hb)
      replace u0 := cell_of_ans hb u0
      replace u1 := cell_of_ans hb u1
      replace HB := Lib.hid (HB.out.trans (hb.mono HB.out.size))
      clear hb
      go_upto_region 17 with fail
      have hb : Below wr.heap.size wr (wr.alloc (.cells #[.int .i64 ((m : Int) + 1), .int .i64 10, .int .i64 2, .int .i64 10] 45)) := (Below.refl _ _).alloc (Nat.le_refl _) _
      have p0 : (wr.alloc (.cells #[.int .i64 ((m : Int) + 1), .int .i64 10, .int .i64 2, .int .i64 10] 45)).cell? ⟨wr.heap.size, 0, none⟩ = some (.int .i64 ((m : Int) + 1)) := by simp
      have p1 : (wr.alloc (.cells #[.int .i64 ((m : Int) + 1), .int .i64 10, .int .i64 2, .int .i64 10] 45)).cell? ⟨wr.heap.size, 1, none⟩ = some (.int .i64 10) := by simp
      have p2 : (wr.alloc (.cells #[.int .i64 ((m : Int) + 1), .int .i64 10, .int .i64 2, .int .i64 10] 45)).cell? ⟨wr.heap.size, 2, none⟩ = some (.int .i64 2) := by simp
      have p3 : (wr.alloc (.cells #[.int .i64 ((m : Int) + 1), .int .i64 10, .int .i64 2, .int .i64 10] 45)).cell? ⟨wr.heap.size, 3, none⟩ = some (.int .i64 10) := by simp
      replace HW := Lib.hid (HW.out.step hb)
      replace HN := Lib.hid (HN.out.step hb)
      replace k0 := cell_of_ans hb k0
      replace k1 := cell_of_ans hb k1
      replace HGR := Lib.hid (HGR.out.step hb)
      replace HG := Lib.hid (HG.out.step hb)
      replace u0 := cell_of_ans hb u0
      replace u1 := cell_of_ans hb u1
      replace HXI := Lib.hid (HXI.out.step hb)
      replace HB := Lib.hid (HB.out.trans (hb.mono HB.out.size))
      clear hb
      generalize (wr.alloc (.cells #[.int .i64 ((m : Int) + 1), .int .i64 10, .int .i64 2, .int .i64 10] 45)) = y15 at *
      generalize wr.heap.size = qy15 at *
      go_wp2_with fail
      refine (law15_c ((m : Int) + 1) 10 2 10 _).mono ?_
      rintro e y16 ⟨rfl, hb⟩
      replace HW := Lib.hid (HW.out.step hb)
      replace HN := Lib.hid (HN.out.step hb)
      replace k0 := cell_of_ans hb k0
      replace k1 := cell_of_ans hb k1
      replace HGR := Lib.hid (HGR.out.step hb)
      replace HG := Lib.hid (HG.out.step hb)
      replace u0 := cell_of_ans hb u0
      replace u1 := cell_of_ans hb u1
      replace HXI := Lib.hid (HXI.out.step hb)
      replace p0 := cell_of_ans hb p0
      replace p1 := cell_of_ans hb p1
      replace p2 := cell_of_ans hb p2
      replace p3 := cell_of_ans hb p3
      replace HB := Lib.hid (HB.out.trans (hb.mono HB.out.size))
      clear hb
      have HNL : Hid (OwnN y16.heap.size y16 (.slice none 0 0) []) := OwnN.nil _ _
      go_wp2_with (at_builtin; refine wpList_appS (.const (.slice none 0 0)) (.tmp 88) rfl rfl y16.heap.size _ _ [] xs 0 xs.length csv y16.heap.size Asv rfl rfl HNL (Lib.hid rfl) HXI (Lib.hid rfl) (by omega) (Nat.le_refl _) ?_; intro Ay17 cy17 y17 HOy17 HBy17)
      replace HOy17 : Hid (OwnN y16.heap.size y17 (.slice Ay17 (0 + xs.length) cy17) xs) := HOy17
      try rw [Nat.zero_add] at HOy17
      try simp only [Nat.zero_add]
      have hb := HBy17.out
      clear HBy17 HNL
      replace HW := Lib.hid (HW.out.step hb)
      replace HN := Lib.hid (HN.out.step hb)
      replace k0 := cell_of_ans hb k0
      replace k1 := cell_of_ans hb k1
      replace HGR := Lib.hid (HGR.out.step hb)
      replace HG := Lib.hid (HG.out.step hb)
      replace u0 := cell_of_ans hb u0
      replace u1 := cell_of_ans hb u1
      replace HXI := Lib.hid (HXI.out.step hb)
      replace p0 := cell_of_ans hb p0
      replace p1 := cell_of_ans hb p1
      replace p2 := cell_of_ans hb p2
      replace p3 := cell_of_ans hb p3
      replace HB := Lib.hid (HB.out.trans (hb.mono HB.out.size))
      clear hb
      obtain ⟨-, -, -, hiy17⟩ := ints_parts HOy17.out.isInts
      have HIy17 := Lib.hid hiy17
      clear hiy17 HOy17
      refine (HRD.out Ay17 cy17 _ HIy17.out).mono ?_
      rintro e y18 ⟨Af, cf, Azz, zl, czz, rfl, hcf1, hcf2, hgf, hb⟩
      replace HW := Lib.hid (HW.out.step hb)
      replace HN := Lib.hid (HN.out.step hb)
      replace k0 := cell_of_ans hb k0
      replace k1 := cell_of_ans hb k1
      replace HGR := Lib.hid (HGR.out.step hb)
      replace HG := Lib.hid (HG.out.step hb)
      replace u0 := cell_of_ans hb u0
      replace u1 := cell_of_ans hb u1
      replace HXI := Lib.hid (HXI.out.step hb)
      replace p0 := cell_of_ans hb p0
      replace p1 := cell_of_ans hb p1
      replace p2 := cell_of_ans hb p2
      replace p3 := cell_of_ans hb p3
      replace HB := Lib.hid (HB.out.trans (hb.mono HB.out.size))
      clear hb
      clear HIy17
      have HFR := Lib.hid hgf
      clear hgf
      go_upto_region 18 with fail
      have hb : Below y18.heap.size y18 (y18.alloc (.cells #[.slice Af gm.length cf, .slice Azz zl czz, .int .i64 10, .bool false] 47)) := (Below.refl _ _).alloc (Nat.le_refl _) _
      have v0 : (y18.alloc (.cells #[.slice Af gm.length cf, .slice Azz zl czz, .int .i64 10, .bool false] 47)).cell? ⟨y18.heap.size, 0, none⟩ = some (.slice Af gm.length cf) := by simp
      have v1 : (y18.alloc (.cells #[.slice Af gm.length cf, .slice Azz zl czz, .int .i64 10, .bool false] 47)).cell? ⟨y18.heap.size, 1, none⟩ = some (.slice Azz zl czz) := by simp
      have v2 : (y18.alloc (.cells #[.slice Af gm.length cf, .slice Azz zl czz, .int .i64 10, .bool false] 47)).cell? ⟨y18.heap.size, 2, none⟩ = some (.int .i64 10) := by simp
      have v3 : (y18.alloc (.cells #[.slice Af gm.length cf, .slice Azz zl czz, .int .i64 10, .bool false] 47)).cell? ⟨y18.heap.size, 3, none⟩ = some (.bool false) := by simp
      replace HW := Lib.hid (HW.out.step hb)
      replace HN := Lib.hid (HN.out.step hb)
      replace k0 := cell_of_ans hb k0
      replace k1 := cell_of_ans hb k1
      replace HGR := Lib.hid (HGR.out.step hb)
      replace HG := Lib.hid (HG.out.step hb)
      replace u0 := cell_of_ans hb u0
      replace u1 := cell_of_ans hb u1
      replace HXI := Lib.hid (HXI.out.step hb)
      replace p0 := cell_of_ans hb p0
      replace p1 := cell_of_ans hb p1
      replace p2 := cell_of_ans hb p2
      replace p3 := cell_of_ans hb p3
      replace HFR := Lib.hid (HFR.out.step hb)
      replace HB := Lib.hid (HB.out.trans (hb.mono HB.out.size))
      clear hb
      generalize (y18.alloc (.cells #[.slice Af gm.length cf, .slice Azz zl czz, .int .i64 10, .bool false] 47)) = y19 at *
      generalize y18.heap.size = qy19 at *
      go_wp2_with fail
      refine (law15_c ((m : Int) + 1) 10 2 10 _).mono ?_
      rintro e y20 ⟨rfl, hb⟩
      replace HW := Lib.hid (HW.out.step hb)
      replace HN := Lib.hid (HN.out.step hb)
      replace k0 := cell_of_ans hb k0
      replace k1 := cell_of_ans hb k1
      replace HGR := Lib.hid (HGR.out.step hb)
      replace HG := Lib.hid (HG.out.step hb)
      replace u0 := cell_of_ans hb u0
      replace u1 := cell_of_ans hb u1
      replace HXI := Lib.hid (HXI.out.step hb)
      replace p0 := cell_of_ans hb p0
      replace p1 := cell_of_ans hb p1
      replace p2 := cell_of_ans hb p2
      replace p3 := cell_of_ans hb p3
      replace HFR := Lib.hid (HFR.out.step hb)
      replace v0 := cell_of_ans hb v0
      replace v1 := cell_of_ans hb v1
      replace v2 := cell_of_ans hb v2
      replace v3 := cell_of_ans hb v3
      replace HB := Lib.hid (HB.out.trans (hb.mono HB.out.size))
      clear hb
      have HNL : Hid (OwnN y20.heap.size y20 (.slice none 0 0) []) := OwnN.nil _ _
      go_wp2_with (at_builtin; refine wpList_appS (.const (.slice none 0 0)) (.tmp 96) rfl rfl y20.heap.size _ _ [] xs 0 xs.length csv y20.heap.size Asv rfl rfl HNL (Lib.hid rfl) HXI (Lib.hid rfl) (by omega) (Nat.le_refl _) ?_; intro Ay21 cy21 y21 HOy21 HBy21)
      replace HOy21 : Hid (OwnN y20.heap.size y21 (.slice Ay21 (0 + xs.length) cy21) xs) := HOy21
      try rw [Nat.zero_add] at HOy21
      try simp only [Nat.zero_add]
      have hb := HBy21.out
      clear HBy21 HNL
      replace HW := Lib.hid (HW.out.step hb)
      replace HN := Lib.hid (HN.out.step hb)
      replace k0 := cell_of_ans hb k0
      replace k1 := cell_of_ans hb k1
      replace HGR := Lib.hid (HGR.out.step hb)
      replace HG := Lib.hid (HG.out.step hb)
      replace u0 := cell_of_ans hb u0
      replace u1 := cell_of_ans hb u1
      replace HXI := Lib.hid (HXI.out.step hb)
      replace p0 := cell_of_ans hb p0
      replace p1 := cell_of_ans hb p1
      replace p2 := cell_of_ans hb p2
      replace p3 := cell_of_ans hb p3
      replace HFR := Lib.hid (HFR.out.step hb)
      replace v0 := cell_of_ans hb v0
      replace v1 := cell_of_ans hb v1
      replace v2 := cell_of_ans hb v2
      replace v3 := cell_of_ans hb v3
      replace HB := Lib.hid (HB.out.trans (hb.mono HB.out.size))
      clear hb
      obtain ⟨-, -, -, hiy21⟩ := ints_parts HOy21.out.isInts
      have HIy21 := Lib.hid hiy21
      clear hiy21 HOy21
      refine (HSN.out Ay21 cy21 _ HIy21.out).mono ?_
      rintro e y22 ⟨rfl, hb⟩
      replace HW := Lib.hid (HW.out.step hb)
      replace HN := Lib.hid (HN.out.step hb)
      replace k0 := cell_of_ans hb k0
      replace k1 := cell_of_ans hb k1
      replace HGR := Lib.hid (HGR.out.step hb)
      replace HG := Lib.hid (HG.out.step hb)
      replace u0 := cell_of_ans hb u0
      replace u1 := cell_of_ans hb u1
      replace HXI := Lib.hid (HXI.out.step hb)
      replace p0 := cell_of_ans hb p0
      replace p1 := cell_of_ans hb p1
      replace p2 := cell_of_ans hb p2
      replace p3 := cell_of_ans hb p3
      replace HFR := Lib.hid (HFR.out.step hb)
      replace v0 := cell_of_ans hb v0
      replace v1 := cell_of_ans hb v1
      replace v2 := cell_of_ans hb v2
      replace v3 := cell_of_ans hb v3
      replace HB := Lib.hid (HB.out.trans (hb.mono HB.out.size))
      clear hb
      clear HIy21
      go_upto_region 19 with fail
      have hb : Below y22.heap.size y22 (y22.alloc (.cells #[.int .i64 lo2, .int .i64 hi2] 52)) := (Below.refl _ _).alloc (Nat.le_refl _) _
      have s0 : (y22.alloc (.cells #[.int .i64 lo2, .int .i64 hi2] 52)).cell? ⟨y22.heap.size, 0, none⟩ = some (.int .i64 lo2) := by simp
      have s1 : (y22.alloc (.cells #[.int .i64 lo2, .int .i64 hi2] 52)).cell? ⟨y22.heap.size, 1, none⟩ = some (.int .i64 hi2) := by simp
      replace HW := Lib.hid (HW.out.step hb)
      replace HN := Lib.hid (HN.out.step hb)
      replace k0 := cell_of_ans hb k0
      replace k1 := cell_of_ans hb k1
      replace HGR := Lib.hid (HGR.out.step hb)
      replace HG := Lib.hid (HG.out.step hb)
      replace u0 := cell_of_ans hb u0
      replace u1 := cell_of_ans hb u1
      replace HXI := Lib.hid (HXI.out.step hb)
      replace p0 := cell_of_ans hb p0
      replace p1 := cell_of_ans hb p1
      replace p2 := cell_of_ans hb p2
      replace p3 := cell_of_ans hb p3
      replace HFR := Lib.hid (HFR.out.step hb)
      replace v0 := cell_of_ans hb v0
      replace v1 := cell_of_ans hb v1
      replace v2 := cell_of_ans hb v2
      replace v3 := cell_of_ans hb v3
      replace HB := Lib.hid (HB.out.trans (hb.mono HB.out.size))
      clear hb
      generalize (y22.alloc (.cells #[.int .i64 lo2, .int .i64 hi2] 52)) = y23 at *
      generalize y22.heap.size = qy23 at *
      have hm2 : IntKind.i64.wrap (2 * (m : Int)) = 2 * (m : Int) := IntWalk.i64_in _ (by omega)
      have hlm : ((r.length : Int) != 2 * (m : Int)) = false := bne_eq_false_iff_eq.2 (by have := HRL.out; omega)
      have hgm2 : ((gm.length : Int) != (m : Int)) = false := bne_eq_false_iff_eq.2 (by have := HGL.out; omega)
      clear HRD HSN
      go_wp2_with fail
      clear HW HN HXI k1 p0 p1 p2 p3 v1
      clear hlm hm2 hw1
      go_loopw [21, 22, 23] (fun iv sv kv wr => ∃ i : Nat, i ≤ m ∧ iv = .int .i64 (i : Int) ∧ Below y23.heap.size y23 wr) (fun iv _ _ _ => m - (intOf iv).toNat)
      case atStart => exact ⟨0, by omega, rfl, Below.refl _ _⟩
      case round =>
        obtain ⟨i, hi0, rfl, hbw⟩ := hrel
        have HWR := Lib.hid hbw
        by_cases h1 : i < m
        · have h1i : (i : Int) < (gm.length : Int) := by have := HGL.out; omega
          obtain ⟨b1, o1, Ar1, cr1, hA1, hb1, hc1, hr1, hr2, hrow⟩ := HGR.out.at_ (k := i) (by have := HGL.out; omega)
          obtain ⟨b2, o2, Ar2, cr2, hA2, hb2, hc2, hr3, hr4, hrow2⟩ := HFR.out.at_ (k := i) (by have := HGL.out; omega)
          obtain ⟨b3, o3, hA3, hb3, hc3⟩ := HG.out (by have := HRL.out; omega)
          subst hA1 hA2 hA3
          obtain ⟨hrl2, hrs⟩ := HGF.out.row i h1
          have hval := HGF.out.val i h1
          have HBE := Lib.hid (HGF.out.beh i h1)
          have HRI := Lib.hid (HRR.out i h1)
          have HTS := Lib.hid (fun k (h : k < (rx gm i).length) => take_sum_succ h)
          have HTL := Lib.hid (fun k (h : ¬ k < (rx gm i).length) => (show ((rx gm i).take (k + 1)).sum = ((rx gm i).take k).sum by rw [List.take_of_length_le (by omega), List.take_of_length_le (by omega)]))
          have HROW := Lib.hid hrow
          have HROW2 := Lib.hid hrow2
          have HC3 := Lib.hid hc3
          have HIL : Hid (2 * i + 1 < r.length) := by show _ < _; have := HRL.out; omega
          clear hrow hrow2 hc3
          generalize hbe0 : behR gm i = be at *
          generalize rx gm i = row at *
          have HRS := Lib.hid hrs
          have HVAL := Lib.hid hval
          have HC1 := Lib.hid hc1
          have HC2 := Lib.hid hc2
          have HV0 := Lib.hid v0
          replace hc1 := cell_of_ans hbw hc1
          replace hc2 := cell_of_ans hbw hc2
          replace v0 := cell_of_ans hbw v0
          clear hrs hval hbe0
          go_wp2_with fail
          go_quiet (fail)
          go_wp2_with fail
          clear hc1 hc2 v0 hbw
          go_loopw [23, 22] (fun kv sv wx => ∃ k : Nat, k ≤ 2 ∧ kv = .int .i64 (k : Int) ∧ sv = .int .i64 (10 - (row.take k).sum) ∧ Below y23.heap.size y23 wx) (fun kv _ _ => 2 - (intOf kv).toNat)
          case atStart => exact ⟨0, by omega, rfl, by simp, below_drewN HWR.out _⟩
          case round =>
            obtain ⟨k, hk, rfl, rfl, hbx⟩ := hrel
            have HWX := Lib.hid hbx
            clear HWR
            have hc1 := cell_of_ans hbx HC1.out
            have hc2 := cell_of_ans hbx HC2.out
            have v0 := cell_of_ans hbx HV0.out
            by_cases h2 : k < 2
            · have h2i : (k : Int) < 2 := by omega
              obtain ⟨j, hj⟩ : ∃ j, j = 2 * i + k := ⟨_, rfl⟩
              have hjr : j < r.length := by have := HIL.out; omega
              have hjri : (j : Int) < (r.length : Int) := by omega
              have hw5 : IntKind.i64.wrap (2 * (i : Int)) = 2 * (i : Int) := IntWalk.i64_in _ (by omega)
              have hw6 : IntKind.i64.wrap (2 * (i : Int) + (k : Int)) = (j : Int) := by rw [IntWalk.i64_in _ (by omega)]; omega
              have hw7 : IntKind.i64.wrap ((k : Int) + 1) = (k : Int) + 1 := IntWalk.i64_in _ (by omega)
              obtain ⟨g1, g2⟩ := HC3.out j hjr
              replace g1 := cell_of_ans hbx g1
              replace g2 := cell_of_ans hbx g2
              obtain ⟨r1, r2⟩ := HRI.out k (by omega)
              rw [← hj] at r1 r2
              have hbk := HBE.out k (by omega)
              rw [hbk] at r1 r2
              generalize px r j = pj at *
              obtain ⟨pl, ph⟩ := pj
              dsimp only at g1 g2 r1 r2
              have hs0 := HRS.out k
              have hs1 := HRS.out (k + 1)
              by_cases h3 : k < row.length
              · have h3i : (k : Int) < (row.length : Int) := by omega
                obtain ⟨b4, o4, hA4, hb4, hx1⟩ := HROW.out.at_ h3
                obtain ⟨b5, o5, hA5, hb5, hx2⟩ := HROW2.out.at_ h3
                subst hA4 hA5
                replace hx1 := cell_of_ans hbx hx1
                replace hx2 := cell_of_ans hbx hx2
                have hts := HTS.out k h3
                have HTK := Lib.hid hts
                have hv := HVAL.out k h3
                have hwa : IntKind.i64.wrap (10 - (row.take k).sum - ix row k) = 10 - (row.take k).sum - ix row k := IntWalk.i64_in _ (by omega)
                have t1 : decide (10 - (row.take k).sum - ix row k < pl) = false := decide_eq_false (by omega)
                have t2 : decide (10 - (row.take k).sum - ix row k > ph) = false := decide_eq_false (by omega)
                have t3 : decide (ph < 10 - (row.take k).sum - ix row k) = false := decide_eq_false (by omega)
                have HJ := Lib.hid hj
                clear hts hv r1 r2 hs0 hs1 hbk hj
                generalize ix row k = xk at *
                generalize (row.take k).sum = sk at *
                go_wp2_with fail
                go_quiet (fail)
                go_wp2_with fail
                go_roundw
                case rel => exact ⟨k + 1, by omega, by go_num, by rw [HTK.out]; simp; omega, below_drewN HWX.out _⟩
                case measure => simp [intOf]; omega
              · have h3i : ¬ (k : Int) < (row.length : Int) := by omega
                have HTK := Lib.hid (HTL.out k h3)
                rw [HTK.out] at r1 r2
                have t1 : decide (10 - (row.take k).sum < pl) = false := decide_eq_false (by omega)
                have t2 : decide (10 - (row.take k).sum > ph) = false := decide_eq_false (by omega)
                have t3 : decide (ph < 10 - (row.take k).sum) = false := decide_eq_false (by omega)
                have HJ := Lib.hid hj
                clear r1 r2 hs0 hs1 hbk hj
                generalize (row.take k).sum = sk at *
                go_wp2_with fail
                go_roundw
                case rel => exact ⟨k + 1, by omega, by go_num, by rw [HTK.out], HWX.out⟩
                case measure => simp [intOf]; omega
            · have h2i : ¬ (k : Int) < 2 := by omega
              have hw7 : IntKind.i64.wrap ((i : Int) + 1) = (i : Int) + 1 := IntWalk.i64_in _ (by omega)
              go_wp2_with fail
              go_roundw
              case rel => exact ⟨i + 1, by omega, by go_num, HWX.out⟩
              case measure => simp [intOf]; omega
        · obtain rfl : m = i := by omega
          have h1i : ¬ (m : Int) < (gm.length : Int) := by have := HGL.out; omega
          replace k0 := cell_of_ans hbw k0
          replace u0 := cell_of_ans hbw u0
          replace u1 := cell_of_ans hbw u1
          replace s0 := cell_of_ans hbw s0
          replace s1 := cell_of_ans hbw s1
          have hw1 : IntKind.i64.wrap ((m : Int) + 1) = (m : Int) + 1 := IntWalk.i64_in _ (by omega)
          have hw2 : IntKind.i64.wrap (30 * ((m : Int) + 1)) = 30 * ((m : Int) + 1) := IntWalk.i64_in _ (by omega)
          generalize cntT ns m m = ct at *
          have t1 : decide (lo ≤ ct) = true := decide_eq_true hct1
          have t2 : decide (ct ≤ hi) = true := decide_eq_true hct2
          have t3 : decide (lo2 ≥ ct) = true := decide_eq_true hlh1
          have t3' : decide (ct ≤ lo2) = true := decide_eq_true hlh1
          have t4 : decide (lo2 ≥ lo) = true := decide_eq_true (by omega)
          have t4' : decide (lo ≤ lo2) = true := decide_eq_true (by omega)
          have t5 : decide (hi2 ≤ 30 * ((m : Int) + 1)) = true := decide_eq_true hlh2
          have hb := hbw
          replace HB := Lib.hid (HB.out.trans (hb.mono HB.out.size))
          clear hct1 hct2 hlh1 hlh2 h1 hb
          go_wp2_with fail
          refine (HWK.out _).mono ?_
          rintro e w9 ⟨rfl, hb⟩
          go_wp2_with fail
          go_ret
          exact ⟨rfl, HB.out.trans (hb.mono HB.out.size)⟩
      
end Go.Proofs.Ytenpiinkbfancaa.Sn
