/-
  The walk of the law SeenBehind.
-/
import Derived.Test.YtadjkinpimmhkaaFewerW
namespace Go.Proofs.Ytadjkinpimmhkaa
open Go.RowKit
set_option linter.unusedSimpArgs false
set_option linter.unusedVariables false

theorem ranges_9 {m : Nat} {ws : List Wd} {ts : List Int} (A At : Option Addr) (c ct : Nat) (w : World) (hw : Wds w.heap.size w A ws) (ht : Ints w.heap.size w At ts) (hc : ws.length ≤ c ∧ c ≤ 9223372036854775807) (hct : ts.length ≤ ct ∧ ct ≤ 9223372036854775807) (h : laneErr (m : Int) ws = 0) (hr : riseB ts = true) (hx : explB (m : Int) ws (offT ts) = false) :
    Calls Try.prog 26 #[.agg #[.int .i64 (m : Int), .slice A ws.length c], .slice At ts.length ct] w (Ans w (.tuple #[.slice none 0 0, .agg #[.int .i64 0, .int .i64 0], .int .i64 9])) := by
  have he : exErr (m : Int) ws ts = 9 := by simp [exErr, ask_zero h hr, hx]
  have h1 := ranges_bad A At ws ts c ct (m : Int) w hw ht hc hct (by rw [he]; decide)
  rwa [he] at h1
/-- Has anybody told of the ball 1 of a frame, in the first j words? -/
def toldB (ws : List Wd) (f : Int) (j : Nat) : Bool := (ws.take j).any fun x => decide (x.fr = f) && decide (x.ba = 1)
theorem told_succ {ws : List Wd} {f : Int} {j : Nat} (h : j < ws.length) : toldB ws f (j + 1) = (toldB ws f j || (decide ((wx ws j).fr = f) && decide ((wx ws j).ba = 1))) := by
  unfold toldB
  rw [take_succ_wx h, List.any_append]
  simp
theorem behind_m {m : Nat} {ws : List Wd} {o : Nat → Bool} (hok : ∀ k, k < ws.length → wordB (m : Int) (wx ws k) = true) (hx : explB (m : Int) ws o = true) {f : Nat} (hf : f < m) :
    (px (rangesL ws o m) (2 * f + 1)).1 ≤ (px (rangesL ws o m) (2 * f)).1 ∧ (px (rangesL ws o m) (2 * f + 1)).2 ≤ (px (rangesL ws o m) (2 * f)).2 ∧ (toldB ws (f : Int) ws.length = false → (px (rangesL ws o m) (2 * f + 1)).1 = 0) := by
  obtain ⟨a1, a2⟩ := rangesL_at ws o m f hf
  rw [a1, a2]
  have h0 := expl_games hx hf
  have l1 : 0 < (fsts (gamesL ws (f : Int) o)).length := by simpa [fsts] using h0
  have l2 : 0 < (snds (gamesL ws (f : Int) o)).length := by simpa [snds] using h0
  have hbd : ∀ p ∈ gamesL ws (f : Int) o, p.1 ≤ 10 ∧ p.2 ≤ p.1 := fun p hp => by
    unfold gamesL gamesTo at hp
    exact upTo_bds (List.mem_filter.1 hp).1
  refine ⟨?_, ?_, fun ht => ?_⟩
  · have h1 := loS_mem l1
    simp only [fsts, List.mem_map] at h1
    obtain ⟨p, hp, e⟩ := h1
    have h2 : loS (snds (gamesL ws (f : Int) o)) ≤ (p.2 : Int) := loS_le (by simp only [snds, List.mem_map]; exact ⟨p, hp, rfl⟩)
    have h3 := (hbd p hp).2
    dsimp only [fsts]
    rw [← e]
    omega
  · have h1 := hiS_mem l2
    simp only [snds, List.mem_map] at h1
    obtain ⟨p, hp, e⟩ := h1
    have h2 : (p.1 : Int) ≤ hiS (fsts (gamesL ws (f : Int) o)) := hiS_le (by simp only [fsts, List.mem_map]; exact ⟨p, hp, rfl⟩)
    have h3 := (hbd p hp).2
    dsimp only [snds]
    rw [← e]
    omega
  · obtain ⟨p, hp⟩ := List.exists_mem_of_length_pos h0
    have h1 : ((p.1, 0) : Nat × Nat) ∈ gamesL ws (f : Int) o := by
      have hb := hbd p hp
      unfold gamesL gamesTo at hp ⊢
      rw [List.mem_filter] at hp ⊢
      refine ⟨upTo_mem hb.1 (by omega), ?_⟩
      have h2 := hp.2
      unfold okB at h2 ⊢
      rw [allB_iff] at h2 ⊢
      intro k hk
      have h3 : okW (f : Int) o (wx ws k) p.1 p.2 = true := h2 k hk
      show okW (f : Int) o (wx ws k) p.1 0 = true
      by_cases hfr : (wx ws k).fr = (f : Int)
      · have hw := hok k hk
        simp only [wordB, Bool.and_eq_true, inB_eq, decide_eq_true_eq] at hw
        have hnt : ¬ (wx ws k).ba = 1 := fun hb1 => by
          have : toldB ws (f : Int) ws.length = true := by
            unfold toldB
            rw [List.take_length, List.any_eq_true]
            exact ⟨wx ws k, by rw [wx_lt hk]; exact List.getElem_mem _, by simp [hfr, hb1]⟩
          rw [this] at ht
          cases ht
        have hb0 : (wx ws k).ba = 0 := by omega
        unfold okW at h3 ⊢
        simpa [fitsB, standB, hb0] using h3
      · simp [okW, hfr]
    have h2 : loS (snds (gamesL ws (f : Int) o)) ≤ ((0 : Nat) : Int) := loS_le (by simp only [snds, List.mem_map]; exact ⟨_, h1, rfl⟩)
    have h3 := (lo_bd (snds_bd ws (f : Int) o)).1
    dsimp only at h2 ⊢
    omega

set_option maxRecDepth 100000 in
set_option maxHeartbeats 16000000 in
theorem seenBehind_c (A : Option Addr) (ws : List Wd) (c : Nat) (frn : Int) (bi : Nat) (w : World) (hw : Wds w.heap.size w A ws) (hc : ws.length ≤ c ∧ c ≤ 9223372036854775807) (hbi : bi < 256) :
    Calls Try.prog 7 #[.agg #[.int .i64 frn, .slice A ws.length c], .int .u8 (bi : Int)] w (Ans w (.bool true)) := by
  have hb0 : Below w.heap.size w (w.alloc (.cells #[.int .i64 frn, .slice A ws.length c] 24)) := (Below.refl _ _).alloc (Nat.le_refl _) _
  have k0 : (w.alloc (.cells #[.int .i64 frn, .slice A ws.length c] 24)).cell? ⟨w.heap.size, 0, none⟩ = some (.int .i64 frn) := by simp
  have k1 : (w.alloc (.cells #[.int .i64 frn, .slice A ws.length c] 24)).cell? ⟨w.heap.size, 1, none⟩ = some (.slice A ws.length c) := by simp
  have HB := Lib.hid hb0
  have HW := Lib.hid (hw.step hb0)
  have HWK := Lib.hid wakes_c
  clear hb0 hw
  go_enter Try.func7, Try.ntmps7
  go_wp2_with fail
  generalize (w.alloc (.cells #[.int .i64 frn, .slice A ws.length c] 24)) = W0 at *
  have HRd := Lib.hid (ready_c A ws c frn W0 HW.out hc)
  cases hrd : decide (laneErr frn ws = 0)
  · rw [hrd] at HRd
    clear hrd
    refine (HRd.out).mono ?_
    rintro e y1 ⟨rfl, hb⟩
    replace HW := Lib.hid (HW.out.step hb)
    replace k0 := cell_of_ans hb k0
    replace k1 := cell_of_ans hb k1
    replace HB := Lib.hid (HB.out.trans (hb.mono HB.out.size))
    clear hb
    go_wp2_with fail
    refine (HWK.out _).mono ?_
    rintro e y2 ⟨rfl, hb⟩
    replace HW := Lib.hid (HW.out.step hb)
    replace k0 := cell_of_ans hb k0
    replace k1 := cell_of_ans hb k1
    replace HB := Lib.hid (HB.out.trans (hb.mono HB.out.size))
    clear hb
    go_wp2_with fail
    go_ret
    exact ⟨rfl, HB.out⟩
  · rw [hrd] at HRd
    have hle : laneErr frn ws = 0 := of_decide_eq_true hrd
    obtain ⟨h30, hf1, hf5, hok⟩ := laneOk hle
    obtain ⟨m, rfl⟩ : ∃ m : Nat, frn = (m : Int) := ⟨frn.toNat, by omega⟩
    have HLE := Lib.hid hle
    have HOK := Lib.hid hok
    have hm5 : m ≤ 5 := by omega
    clear hrd hle hok
    refine (HRd.out).mono ?_
    rintro e y3 ⟨rfl, hb⟩
    replace HW := Lib.hid (HW.out.step hb)
    replace k0 := cell_of_ans hb k0
    replace k1 := cell_of_ans hb k1
    replace HB := Lib.hid (HB.out.trans (hb.mono HB.out.size))
    clear hb
    go_wp2_with fail
    refine (chosen_c bi hbi _).mono ?_
    rintro e y4 ⟨AcA, ccA, rfl, hO, hb⟩
    replace HW := Lib.hid (HW.out.step hb)
    replace k0 := cell_of_ans hb k0
    replace k1 := cell_of_ans hb k1
    replace HB := Lib.hid (HB.out.trans (hb.mono HB.out.size))
    clear hb
    obtain ⟨hcA, hccA, hO⟩ := isInts_parts (ownsRow_isInts hO)
    have HCA := Lib.hid hO
    clear hO
    have hlA := chTo_len (bi) 4
    have HRA := Lib.hid (chTo_rise bi)
    generalize chTo bi 4 = fa at *
    go_wp2_with fail
    refine (lane_c A ws c (m : Int) _ HW.out hc (by omega)).mono ?_
    rintro e y6 ⟨Al5, cl5, rfl, hO5, hb⟩
    replace HW := Lib.hid (HW.out.step hb)
    replace k0 := cell_of_ans hb k0
    replace k1 := cell_of_ans hb k1
    replace HCA := Lib.hid (HCA.out.step hb)
    replace HB := Lib.hid (HB.out.trans (hb.mono HB.out.size))
    clear hb
    obtain ⟨hq5, hqq5, hO5⟩ := hO5.wds
    have HL5 := Lib.hid hO5
    clear hO5
    go_wp2_with fail
    refine (list_c AcA fa ccA _ HCA.out (Nat.le_refl _) (by omega)).mono ?_
    rintro e y8 ⟨At7, ct7, rfl, hO7, hb⟩
    replace HW := Lib.hid (HW.out.step hb)
    replace k0 := cell_of_ans hb k0
    replace k1 := cell_of_ans hb k1
    replace HCA := Lib.hid (HCA.out.step hb)
    replace HL5 := Lib.hid (HL5.out.step hb)
    replace HB := Lib.hid (HB.out.trans (hb.mono HB.out.size))
    clear hb
    obtain ⟨hq7, hqq7, hO7⟩ := isInts_parts (ownsRow_isInts hO7)
    have HT7 := Lib.hid hO7
    clear hO7
    cases hxa : explB (m : Int) ws (offT fa)
    · go_wp2_with fail
      refine (ranges_9 Al5 At7 cl5 ct7 _ HL5.out HT7.out ⟨hq5, hqq5⟩ ⟨hq7, hqq7⟩ HLE.out HRA.out hxa).mono ?_
      rintro e y9 ⟨rfl, hb⟩
      replace HW := Lib.hid (HW.out.step hb)
      replace k0 := cell_of_ans hb k0
      replace k1 := cell_of_ans hb k1
      replace HCA := Lib.hid (HCA.out.step hb)
      replace HL5 := Lib.hid (HL5.out.step hb)
      replace HT7 := Lib.hid (HT7.out.step hb)
      replace HB := Lib.hid (HB.out.trans (hb.mono HB.out.size))
      clear hb
      clear HL5 HT7
      clear hxa
      go_upto_region 5 with fail
      have hb : Below y9.heap.size y9 (y9.alloc (.cells #[.int .i64 0, .int .i64 0] 41)) := (Below.refl _ _).alloc (Nat.le_refl _) _
      have u0 : (y9.alloc (.cells #[.int .i64 0, .int .i64 0] 41)).cell? ⟨y9.heap.size, 0, none⟩ = some (.int .i64 0) := by simp
      have u1 : (y9.alloc (.cells #[.int .i64 0, .int .i64 0] 41)).cell? ⟨y9.heap.size, 1, none⟩ = some (.int .i64 0) := by simp
      replace HW := Lib.hid (HW.out.step hb)
      replace k0 := cell_of_ans hb k0
      replace k1 := cell_of_ans hb k1
      replace HCA := Lib.hid (HCA.out.step hb)
      replace HB := Lib.hid (HB.out.trans (hb.mono HB.out.size))
      clear hb
      generalize (y9.alloc (.cells #[.int .i64 0, .int .i64 0] 41)) = y10 at *
      generalize y9.heap.size = qy10 at *
      go_wp2_with fail
      refine (HWK.out _).mono ?_
      rintro e y11 ⟨rfl, hb⟩
      replace HW := Lib.hid (HW.out.step hb)
      replace k0 := cell_of_ans hb k0
      replace k1 := cell_of_ans hb k1
      replace HCA := Lib.hid (HCA.out.step hb)
      replace u0 := cell_of_ans hb u0
      replace u1 := cell_of_ans hb u1
      replace HB := Lib.hid (HB.out.trans (hb.mono HB.out.size))
      clear hb
      go_wp2_with fail
      go_ret
      exact ⟨rfl, HB.out⟩
    have HEA := Lib.hid (ex_zero HLE.out HRA.out hxa)
    have HBM := Lib.hid (fun f (hf : f < m) => behind_m HOK.out hxa hf)
    clear hxa
    go_wp2_with fail
    refine (ranges_ok Al5 At7 ws fa cl5 ct7 (m : Int) _ HL5.out HT7.out ⟨hq5, hqq5⟩ ⟨hq7, hqq7⟩ HEA.out).mono ?_
    rintro e y12 ⟨ArA, crA, rfl, hcrA, hR, hb⟩
    replace HW := Lib.hid (HW.out.step hb)
    replace k0 := cell_of_ans hb k0
    replace k1 := cell_of_ans hb k1
    replace HCA := Lib.hid (HCA.out.step hb)
    replace HL5 := Lib.hid (HL5.out.step hb)
    replace HT7 := Lib.hid (HT7.out.step hb)
    replace HB := Lib.hid (HB.out.trans (hb.mono HB.out.size))
    clear hb
    clear HL5 HT7
    have HG := Lib.hid hR
    clear hR
    rw [Int.toNat_natCast] at *
    have HLR := Lib.hid (rangesL_len ws (offT fa) m)
    generalize rangesL ws (offT fa) m = ra at *
    generalize cntLo ws (offT fa) m = la at *
    generalize cntHi ws (offT fa) m = ha at *
    go_upto_region 5 with fail
    have hb : Below y12.heap.size y12 (y12.alloc (.cells #[.int .i64 la, .int .i64 ha] 41)) := (Below.refl _ _).alloc (Nat.le_refl _) _
    have u0 : (y12.alloc (.cells #[.int .i64 la, .int .i64 ha] 41)).cell? ⟨y12.heap.size, 0, none⟩ = some (.int .i64 la) := by simp
    have u1 : (y12.alloc (.cells #[.int .i64 la, .int .i64 ha] 41)).cell? ⟨y12.heap.size, 1, none⟩ = some (.int .i64 ha) := by simp
    replace HW := Lib.hid (HW.out.step hb)
    replace k0 := cell_of_ans hb k0
    replace k1 := cell_of_ans hb k1
    replace HCA := Lib.hid (HCA.out.step hb)
    replace HG := Lib.hid (HG.out.step hb)
    replace HB := Lib.hid (HB.out.trans (hb.mono HB.out.size))
    clear hb
    generalize (y12.alloc (.cells #[.int .i64 la, .int .i64 ha] 41)) = y13 at *
    generalize y12.heap.size = qy13 at *
    have z1 : IntKind.i64.wrap (2 * (m : Int)) = 2 * (m : Int) := IntWalk.i64_in _ (by omega)
    have hlne : ((ra.length : Int) != 2 * (m : Int)) = false := by have := HLR.out; simp; omega
    go_wp2_with fail
    clear z1 hlne
    go_loopw [9] (fun i wr => ∃ k : Nat, k ≤ m ∧ i = .int .i64 k ∧ Below y13.heap.size y13 wr) (fun i _ => m - (intOf i).toNat)
    case atStart => exact ⟨0, by omega, rfl, Below.refl _ _⟩
    case round =>
      obtain ⟨k, hk, rfl, hbr⟩ := hrel
      have HBr := Lib.hid hbr
      have q0 := cell_of_ans hbr k0
      have q1 := cell_of_ans hbr k1
      have HWr := Lib.hid (HW.out.step hbr)
      have HGr := Lib.hid (HG.out.step hbr)
      have hzr := hbr.size
      clear hbr
      by_cases h1 : k < m
      · have h1i : (k : Int) < (m : Int) := by omega
        obtain ⟨hm1, hm2, hm3⟩ := HBM.out k h1
        have HM3 := Lib.hid hm3
        have HMk := Lib.hid (And.intro hm1 hm2)
        clear hm1 hm2 hm3
        go_wp2_with fail
        go_loop [11, 10] (fun i v => ∃ j : Nat, j ≤ ws.length ∧ i = .int .i64 j ∧ v = .bool (toldB ws (k : Int) j)) (fun i _ => ws.length - (intOf i).toNat)
        case atStart => exact ⟨0, by omega, rfl, rfl⟩
        case round =>
          obtain ⟨j, hj, rfl, rfl⟩ := hrel
          by_cases h2 : j < ws.length
          · obtain ⟨b, off, rfl, _, c1, c2, c3, c4, c5⟩ := HWr.out.at_ h2
            have h2i : (j : Int) < (ws.length : Int) := by omega
            have HS := Lib.hid (told_succ (f := (k : Int)) h2)
            generalize wx ws j = x at *
            obtain ⟨xf, xb, xt, xl, xh⟩ := x
            dsimp only at c1 c2 c3 c4 c5 HS
            cases ht : toldB ws (k : Int) j
            · cases hf : (xf == (k : Int))
              · have HN : Hid (toldB ws (k : Int) (j + 1) = false) := by show _ = _; rw [HS.out, ht]; simp at hf; simp [hf]
                go_wp2_with fail
                go_round
                case rel => exact ⟨j + 1, by omega, by go_num, by rw [HN.out]⟩
                case measure => simp [intOf]; omega
              · cases hb1 : (xb == 1)
                · have HN : Hid (toldB ws (k : Int) (j + 1) = false) := by show _ = _; rw [HS.out, ht]; simp at hb1; simp [hb1]
                  go_wp2_with fail
                  go_round
                  case rel => exact ⟨j + 1, by omega, by go_num, by rw [HN.out]⟩
                  case measure => simp [intOf]; omega
                · have HN : Hid (toldB ws (k : Int) (j + 1) = true) := by show _ = _; rw [HS.out, ht]; simp at hb1 hf; simp [hb1, hf]
                  go_wp2_with fail
                  go_round
                  case rel => exact ⟨j + 1, by omega, by go_num, by rw [HN.out]⟩
                  case measure => simp [intOf]; omega
            · have HN : Hid (toldB ws (k : Int) (j + 1) = true) := by show _ = _; rw [HS.out, ht]; rfl
              go_wp2_with fail
              go_round
              case rel => exact ⟨j + 1, by omega, by go_num, by rw [HN.out]⟩
              case measure => simp [intOf]; omega
          · have h2i : ¬ (j : Int) < (ws.length : Int) := by omega
            obtain rfl : j = ws.length := by omega
            obtain ⟨b1, o1, rfl, hb1, hc1⟩ := HGr.out (by have := HLR.out; omega)
            obtain ⟨k2, hk2⟩ : ∃ n : Nat, n = 2 * k := ⟨_, rfl⟩
            obtain ⟨k3, hk3⟩ : ∃ n : Nat, n = 2 * k + 1 := ⟨_, rfl⟩
            have z1 : IntKind.i64.wrap (2 * (k : Int)) = (k2 : Int) := by rw [hk2, show (2 * (k : Int)) = ((2 * k : Nat) : Int) by omega]; exact IntWalk.i64_in _ (by omega)
            have z2 : IntKind.i64.wrap ((k2 : Int) + 1) = (k3 : Int) := by rw [show ((k2 : Int) + 1) = (k3 : Int) by omega]; exact IntWalk.i64_in _ (by omega)
            have i2 : (k2 : Int) < (ra.length : Int) := by have := HLR.out; omega
            have i3 : (k3 : Int) < (ra.length : Int) := by have := HLR.out; omega
            obtain ⟨c1, c2⟩ := hc1 k2 (by omega)
            obtain ⟨c3, c4⟩ := hc1 k3 (by omega)
            rw [← hk3, ← hk2] at HMk
            rw [← hk3] at HM3
            obtain ⟨m1, m2⟩ := HMk.out
            have m3 := HM3.out
            generalize px ra k2 = pa at *
            generalize px ra k3 = pb at *
            have HD : Hid (decide (pa.1 < pb.1) = false ∧ decide (pa.2 < pb.2) = false) := ⟨decide_eq_false (by omega), decide_eq_false (by omega)⟩
            have HM4 := Lib.hid m3
            clear hk2 hk3 hc1 m1 m2 m3
            generalize pa.1 = a1 at *
            generalize pa.2 = a2 at *
            generalize pb.1 = b3 at *
            generalize pb.2 = b4 at *
            cases htd : toldB ws (k : Int) ws.length
            · have hz0 : (b3 != 0) = false := by have := HM4.out htd; simp [this]
              clear htd
              go_wp2_with fail
              go_region_held3 (fun w' => w'.cell? ⟨b1, o1 + k2 * 2, none⟩ = some (.int .i64 a1) ∧ w'.cell? ⟨b1, o1 + k2 * 2 + 1, none⟩ = some (.int .i64 a2) ∧ w'.cell? ⟨b1, o1 + k3 * 2, none⟩ = some (.int .i64 b3) ∧ w'.cell? ⟨b1, o1 + k3 * 2 + 1, none⟩ = some (.int .i64 b4)) (go_keep) (first | fail)
              all_goals
                obtain ⟨d1, d2⟩ := HD.out
                go_wp2_with fail
                go_roundw
                case rel => exact ⟨k + 1, by omega, by go_num, ((HBr.out.alloc hzr _).alloc (by simp; omega) _).drew⟩
                case measure => simp [intOf]; omega
            · clear HM4
              clear htd
              go_wp2_with fail
              go_region_held3 (fun w' => w'.cell? ⟨b1, o1 + k2 * 2, none⟩ = some (.int .i64 a1) ∧ w'.cell? ⟨b1, o1 + k2 * 2 + 1, none⟩ = some (.int .i64 a2) ∧ w'.cell? ⟨b1, o1 + k3 * 2, none⟩ = some (.int .i64 b3) ∧ w'.cell? ⟨b1, o1 + k3 * 2 + 1, none⟩ = some (.int .i64 b4)) (go_keep) (first | fail)
              all_goals
                obtain ⟨d1, d2⟩ := HD.out
                go_wp2_with fail
                go_roundw
                case rel => exact ⟨k + 1, by omega, by go_num, ((HBr.out.alloc hzr _).alloc (by simp; omega) _).drew⟩
                case measure => simp [intOf]; omega
      · have h1i : ¬ (k : Int) < (m : Int) := by omega
        go_wp2_with fail
        refine (HWK.out _).mono ?_
        rintro e w9 ⟨rfl, hb⟩
        go_wp2_with fail
        go_ret
        exact ⟨rfl, (HB.out.trans (HBr.out.mono HB.out.size)).trans (hb.mono (Nat.le_trans HB.out.size hzr))⟩
end Go.Proofs.Ytadjkinpimmhkaa
