/-
  The walk of the law SeenAll.
-/
import Derived.Test.YtadjkinpimmhkaaFewerW
import Derived.Test.YtadjkinpimmhkaaAllM
namespace Go.Proofs.Ytadjkinpimmhkaa
open Go.RowKit
set_option linter.unusedSimpArgs false
set_option linter.unusedVariables false

theorem lane0_c (m : Int) (w : World) : Calls Try.prog 20 #[.agg #[.int .i64 m, .slice none 0 0]] w (fun e w' => ∃ A c, e = .returned (.agg #[.int .i64 m, .slice A 0 c]) ∧ (0 ≤ c ∧ c ≤ 9223372036854775807) ∧ Wds w'.heap.size w' A [] ∧ Below w.heap.size w w') := by
  have h := lane_c none [] 0 m w (wds_nil _ _) (by decide) (by decide)
  refine h.mono ?_
  rintro e w' ⟨A, c, rfl, hO, hb⟩
  obtain ⟨h1, h2, h3⟩ := hO.wds
  exact ⟨A, c, rfl, ⟨h1, h2⟩, h3, hb⟩
theorem ints_nil (w : World) : Ints w.heap.size w none [] := fun hp => by simp at hp
theorem ex_nil {m : Nat} (h1 : 1 ≤ m) (h5 : m ≤ 5) : exErr (m : Int) [] [] = 0 := ex_zero (lane_nil h1 h5) (by decide +kernel) (expl_nil m _)
theorem ranges0_c {m : Nat} (h1 : 1 ≤ m) (h5 : m ≤ 5) (A : Option Addr) (c : Nat) (w : World) (hw : Wds w.heap.size w A []) (hc : 0 ≤ c ∧ c ≤ 9223372036854775807) :
    Calls Try.prog 26 #[.agg #[.int .i64 (m : Int), .slice A 0 c], .slice none 0 0] w (fun e w' => ∃ Ar n cr, e = .returned (.tuple #[.slice Ar n cr, .agg #[.int .i64 0, .int .i64 (10 * (m : Int))], .int .i64 0]) ∧ Below w.heap.size w w') := by
  have h := ranges_ok A none [] [] c 0 (m : Int) w hw (ints_nil w) hc (by decide) (ex_nil h1 h5)
  rw [Int.toNat_natCast, (cnt_nil (offT []) m).1, (cnt_nil (offT []) m).2] at h
  refine h.mono ?_
  rintro e w' ⟨Ar, cr, rfl, _, _, hb⟩
  exact ⟨Ar, _, cr, rfl, hb⟩
theorem many0_c {m : Nat} (h1 : 1 ≤ m) (h5 : m ≤ 5) (A : Option Addr) (c : Nat) (w : World) (hw : Wds w.heap.size w A []) (hc : 0 ≤ c ∧ c ≤ 9223372036854775807) :
    Calls Try.prog 30 #[.agg #[.int .i64 (m : Int), .slice A 0 c], .slice none 0 0] w (Ans w (.tuple #[.int .i64 ((66 ^ m : Nat) : Int), .int .i64 0])) := by
  have h := many_ok A none [] [] c 0 (m : Int) w hw (ints_nil w) hc (by decide) (ex_nil h1 h5)
  rw [Int.toNat_natCast, many_nil] at h
  exact h
theorem manyU {m : Nat} {ws : List Wd} {ts : List Int} (A At : Option Addr) (c ct : Nat) (w : World) (hw : Wds w.heap.size w A ws) (ht : Ints w.heap.size w At ts) (hc : ws.length ≤ c ∧ c ≤ 9223372036854775807) (hct : ts.length ≤ ct ∧ ct ≤ 9223372036854775807) (h : laneErr (m : Int) ws = 0) (hr : riseB ts = true) :
    Calls Try.prog 30 #[.agg #[.int .i64 (m : Int), .slice A ws.length c], .slice At ts.length ct] w (Ans w (.tuple #[.int .i64 (manyP ws (offT ts) m : Nat), .int .i64 (if 0 < manyP ws (offT ts) m then 0 else 9)])) := by
  have hd := manyP_explB ws (offT ts) m
  cases hx : explB (m : Int) ws (offT ts)
  · have he : exErr (m : Int) ws ts = 9 := by simp [exErr, ask_zero h hr, hx]
    have h1 := many_bad A At ws ts c ct (m : Int) w hw ht hc hct (by rw [he]; decide)
    rw [he] at h1
    rw [hx] at hd
    have h0 : manyP ws (offT ts) m = 0 := by have := of_decide_eq_false hd; omega
    rw [h0]
    exact h1
  · have h1 := many_ok A At ws ts c ct (m : Int) w hw ht hc hct (ex_zero h hr hx)
    rw [hx] at hd
    rw [if_pos (of_decide_eq_true hd)]
    rw [Int.toNat_natCast] at h1
    exact h1
set_option maxRecDepth 100000 in
theorem neq41 {m : Nat} (h1 : 1 ≤ m) (h5 : m ≤ 5) : ∀ W, (binOp .neq 41 (.agg #[.int .i64 0, .int .i64 (10 * (m : Int))]) (.agg #[.int .i64 0, .int .i64 (10 * (m : Int))])).run Try.prog W = .ok (.bool false) W := by
  have e1 : ∀ W, (binOp .neq 41 (.agg #[.int .i64 0, .int .i64 10]) (.agg #[.int .i64 0, .int .i64 10])).run Try.prog W = .ok (.bool false) W := fun W => by kernel_rfl
  have e2 : ∀ W, (binOp .neq 41 (.agg #[.int .i64 0, .int .i64 20]) (.agg #[.int .i64 0, .int .i64 20])).run Try.prog W = .ok (.bool false) W := fun W => by kernel_rfl
  have e3 : ∀ W, (binOp .neq 41 (.agg #[.int .i64 0, .int .i64 30]) (.agg #[.int .i64 0, .int .i64 30])).run Try.prog W = .ok (.bool false) W := fun W => by kernel_rfl
  have e4 : ∀ W, (binOp .neq 41 (.agg #[.int .i64 0, .int .i64 40]) (.agg #[.int .i64 0, .int .i64 40])).run Try.prog W = .ok (.bool false) W := fun W => by kernel_rfl
  have e5 : ∀ W, (binOp .neq 41 (.agg #[.int .i64 0, .int .i64 50]) (.agg #[.int .i64 0, .int .i64 50])).run Try.prog W = .ok (.bool false) W := fun W => by kernel_rfl
  rcases (by omega : m = 1 ∨ m = 2 ∨ m = 3 ∨ m = 4 ∨ m = 5) with rfl | rfl | rfl | rfl | rfl
  · rw [show (10 * ((1 : Nat) : Int)) = 10 from rfl]; exact e1
  · rw [show (10 * ((2 : Nat) : Int)) = 20 from rfl]; exact e2
  · rw [show (10 * ((3 : Nat) : Int)) = 30 from rfl]; exact e3
  · rw [show (10 * ((4 : Nat) : Int)) = 40 from rfl]; exact e4
  · rw [show (10 * ((5 : Nat) : Int)) = 50 from rfl]; exact e5
def Bel (y w : World) : Prop := Below y.heap.size y w
theorem Bel.step {y w w' : World} (h : Bel y w) (hb : Below w.heap.size w w') : Bel y w' := Below.trans h (hb.mono (Below.size h))
theorem many_one {ws : List Wd} (k : Nat) (o : Nat → Bool) : manyP (onlyL ws (k : Int)) o 1 = (gamesL ws (k : Int) o).length := by
  show 1 * (gamesL (onlyL ws (k : Int)) ((0 : Nat) : Int) o).length = _
  rw [Nat.one_mul]
  exact congrArg List.length (only_games (m := 1) k o)
theorem manyO {m : Nat} {ws : List Wd} {ts : List Int} (k : Nat) (hl : ws.length ≤ 30) (hok : ∀ k, k < ws.length → wordB (m : Int) (wx ws k) = true) (A At : Option Addr) (c ct : Nat) (w : World) (hw : Wds w.heap.size w A (onlyL ws (k : Int))) (ht : Ints w.heap.size w At ts) (hc : (onlyL ws (k : Int)).length ≤ c ∧ c ≤ 9223372036854775807) (hct : ts.length ≤ ct ∧ ct ≤ 9223372036854775807) (hr : riseB ts = true) :
    Calls Try.prog 30 #[.agg #[.int .i64 1, .slice A (onlyL ws (k : Int)).length c], .slice At ts.length ct] w (Ans w (.tuple #[.int .i64 ((gamesL ws (k : Int) (offT ts)).length : Nat), .int .i64 (if 0 < (gamesL ws (k : Int) (offT ts)).length then 0 else 9)])) := by
  have h := manyU (m := 1) (ws := onlyL ws (k : Int)) (ts := ts) A At c ct w hw ht hc hct (only_lane hl hok k) hr
  rw [many_one] at h
  exact h

set_option maxRecDepth 100000 in
set_option maxHeartbeats 16000000 in
theorem seenAll_c (A : Option Addr) (ws : List Wd) (c : Nat) (frn : Int) (bi : Nat) (w : World) (hw : Wds w.heap.size w A ws) (hc : ws.length ≤ c ∧ c ≤ 9223372036854775807) (hbi : bi < 256) :
    Calls Try.prog 5 #[.agg #[.int .i64 frn, .slice A ws.length c], .int .u8 (bi : Int)] w (Ans w (.bool true)) := by
  have hb0 : Below w.heap.size w (w.alloc (.cells #[.int .i64 frn, .slice A ws.length c] 24)) := (Below.refl _ _).alloc (Nat.le_refl _) _
  have k0 : (w.alloc (.cells #[.int .i64 frn, .slice A ws.length c] 24)).cell? ⟨w.heap.size, 0, none⟩ = some (.int .i64 frn) := by simp
  have k1 : (w.alloc (.cells #[.int .i64 frn, .slice A ws.length c] 24)).cell? ⟨w.heap.size, 1, none⟩ = some (.slice A ws.length c) := by simp
  have HB := Lib.hid hb0
  have HW := Lib.hid (hw.step hb0)
  have HWK := Lib.hid wakes_c
  clear hb0 hw
  go_enter Try.func5, Try.ntmps5
  go_wp2_with fail
  generalize (w.alloc (.cells #[.int .i64 frn, .slice A ws.length c] 24)) = W0 at *
  have HRd := Lib.hid (ready_c A ws c frn W0 HW.out hc)
  cases hrd : decide (laneErr frn ws = 0)
  · rw [hrd] at HRd
    clear hrd
    refine (HRd.out).mono ?_
    rintro e y1 ⟨rfl, hb⟩
    replace HW := Lib.hid (HW.out.step hb)
    replace k0 := cell_of_ans hb k0
    replace k1 := cell_of_ans hb k1
    replace HB := Lib.hid (HB.out.trans (hb.mono HB.out.size))
    clear hb
    go_wp2_with fail
    refine (HWK.out _).mono ?_
    rintro e y2 ⟨rfl, hb⟩
    replace HW := Lib.hid (HW.out.step hb)
    replace k0 := cell_of_ans hb k0
    replace k1 := cell_of_ans hb k1
    replace HB := Lib.hid (HB.out.trans (hb.mono HB.out.size))
    clear hb
    go_wp2_with fail
    go_ret
    exact ⟨rfl, HB.out⟩
  · rw [hrd] at HRd
    have hle : laneErr frn ws = 0 := of_decide_eq_true hrd
    obtain ⟨h30, hf1, hf5, hok⟩ := laneOk hle
    obtain ⟨m, rfl⟩ : ∃ m : Nat, frn = (m : Int) := ⟨frn.toNat, by omega⟩
    have HLE := Lib.hid hle
    have HOK := Lib.hid hok
    have hm5 : m ≤ 5 := by omega
    clear hrd hle hok
    refine (HRd.out).mono ?_
    rintro e y3 ⟨rfl, hb⟩
    replace HW := Lib.hid (HW.out.step hb)
    replace k0 := cell_of_ans hb k0
    replace k1 := cell_of_ans hb k1
    replace HB := Lib.hid (HB.out.trans (hb.mono HB.out.size))
    clear hb
    have hm1 : 1 ≤ m := by omega
    go_wp2_with fail
    refine (lane0_c (m : Int) _).mono ?_
    rintro e y4 ⟨A0, c0, rfl, hc0, hL0, hb⟩
    replace HW := Lib.hid (HW.out.step hb)
    replace k0 := cell_of_ans hb k0
    replace k1 := cell_of_ans hb k1
    replace HB := Lib.hid (HB.out.trans (hb.mono HB.out.size))
    clear hb
    have HL0 := Lib.hid hL0
    clear hL0
    go_wp2_with fail
    refine (ranges0_c hm1 hm5 A0 c0 _ HL0.out hc0).mono ?_
    rintro e y5 ⟨Ar, nr, cr, rfl, hb⟩
    replace HW := Lib.hid (HW.out.step hb)
    replace k0 := cell_of_ans hb k0
    replace k1 := cell_of_ans hb k1
    replace HL0 := Lib.hid (HL0.out.step hb)
    replace HB := Lib.hid (HB.out.trans (hb.mono HB.out.size))
    clear hb
    clear HL0
    go_upto_region 4 with fail
    have hb : Below y5.heap.size y5 (y5.alloc (.cells #[.int .i64 0, .int .i64 (10 * (m : Int))] 41)) := (Below.refl _ _).alloc (Nat.le_refl _) _
    have u0 : (y5.alloc (.cells #[.int .i64 0, .int .i64 (10 * (m : Int))] 41)).cell? ⟨y5.heap.size, 0, none⟩ = some (.int .i64 0) := by simp
    have u1 : (y5.alloc (.cells #[.int .i64 0, .int .i64 (10 * (m : Int))] 41)).cell? ⟨y5.heap.size, 1, none⟩ = some (.int .i64 (10 * (m : Int))) := by simp
    replace HW := Lib.hid (HW.out.step hb)
    replace k0 := cell_of_ans hb k0
    replace k1 := cell_of_ans hb k1
    replace HB := Lib.hid (HB.out.trans (hb.mono HB.out.size))
    clear hb
    generalize (y5.alloc (.cells #[.int .i64 0, .int .i64 (10 * (m : Int))] 41)) = y6 at *
    generalize y5.heap.size = qy6 at *
    go_wp2_with fail
    refine (lane0_c (m : Int) _).mono ?_
    rintro e y7 ⟨A1, c1, rfl, hc1, hL1, hb⟩
    replace HW := Lib.hid (HW.out.step hb)
    replace k0 := cell_of_ans hb k0
    replace k1 := cell_of_ans hb k1
    replace u0 := cell_of_ans hb u0
    replace u1 := cell_of_ans hb u1
    replace HB := Lib.hid (HB.out.trans (hb.mono HB.out.size))
    clear hb
    have HL1 := Lib.hid hL1
    clear hL1
    go_wp2_with fail
    refine (many0_c hm1 hm5 A1 c1 _ HL1.out hc1).mono ?_
    rintro e y8 ⟨rfl, hb⟩
    replace HW := Lib.hid (HW.out.step hb)
    replace k0 := cell_of_ans hb k0
    replace k1 := cell_of_ans hb k1
    replace u0 := cell_of_ans hb u0
    replace u1 := cell_of_ans hb u1
    replace HL1 := Lib.hid (HL1.out.step hb)
    replace HB := Lib.hid (HB.out.trans (hb.mono HB.out.size))
    clear hb
    clear HL1
    have HP66 : Hid (∀ k, k ≤ 5 → 66 ^ k ≤ 1252332576) := fun k hk => Nat.le_trans (Nat.pow_le_pow_right (by omega) hk) (by decide)
    generalize hdue : 66 ^ m = due at *
    have HDU := Lib.hid hdue
    clear hdue
    go_wp2_with fail
    go_loop [11, 10] (fun i v => ∃ k : Nat, k ≤ m ∧ i = .int .i64 k ∧ v = .int .i64 ((66 ^ k : Nat) : Int)) (fun i _ => m - (intOf i).toNat)
    case atStart => exact ⟨0, by omega, rfl, rfl⟩
    case round =>
      obtain ⟨k, hk, rfl, rfl⟩ := hrel
      by_cases h1 : k < m
      · have h1i : (k : Int) < (m : Int) := by omega
        have HS : Hid (66 ^ (k + 1) = 66 ^ k * 66) := Nat.pow_succ ..
        have hpb := HP66.out (k + 1) (by omega)
        rw [HS.out] at hpb
        generalize 66 ^ k = pk at *
        have z1 : IntKind.i64.wrap ((pk : Int) * 66) = (pk : Int) * 66 := IntWalk.i64_in _ (by omega)
        go_wp2_with fail
        go_round
        case rel => exact ⟨k + 1, by omega, by go_num, by rw [HS.out, Int.natCast_mul]; rfl⟩
        case measure => simp [intOf]; omega
      · have h1i : ¬ (k : Int) < (m : Int) := by omega
        have hkm : m = k := by omega
        subst hkm
        rw [HDU.out]
        have z1 : IntKind.i64.wrap (10 * (m : Int)) = 10 * (m : Int) := IntWalk.i64_in _ (by omega)
        have hnq := neq41 hm1 hm5
        have hdd : ((due : Int) != (due : Int)) = false := by simp
        clear HP66
        go_wp2_with fail
        refine (chosen_c bi hbi _).mono ?_
        rintro e y9 ⟨AcA, ccA, rfl, hO, hb⟩
        replace HW := Lib.hid (HW.out.step hb)
        replace k0 := cell_of_ans hb k0
        replace k1 := cell_of_ans hb k1
        replace u0 := cell_of_ans hb u0
        replace u1 := cell_of_ans hb u1
        replace HB := Lib.hid (HB.out.trans (hb.mono HB.out.size))
        clear hb
        obtain ⟨hcA, hccA, hO⟩ := isInts_parts (ownsRow_isInts hO)
        have HCA := Lib.hid hO
        clear hO
        have hlA := chTo_len (bi) 4
        have HRA := Lib.hid (chTo_rise bi)
        generalize chTo bi 4 = fa at *
        go_wp2_with fail
        refine (lane_c A ws c (m : Int) _ HW.out hc (by omega)).mono ?_
        rintro e y11 ⟨Al10, cl10, rfl, hO10, hb⟩
        replace HW := Lib.hid (HW.out.step hb)
        replace k0 := cell_of_ans hb k0
        replace k1 := cell_of_ans hb k1
        replace u0 := cell_of_ans hb u0
        replace u1 := cell_of_ans hb u1
        replace HCA := Lib.hid (HCA.out.step hb)
        replace HB := Lib.hid (HB.out.trans (hb.mono HB.out.size))
        clear hb
        obtain ⟨hq10, hqq10, hO10⟩ := hO10.wds
        have HL10 := Lib.hid hO10
        clear hO10
        go_wp2_with fail
        refine (list_c AcA fa ccA _ HCA.out (Nat.le_refl _) (by omega)).mono ?_
        rintro e y13 ⟨At12, ct12, rfl, hO12, hb⟩
        replace HW := Lib.hid (HW.out.step hb)
        replace k0 := cell_of_ans hb k0
        replace k1 := cell_of_ans hb k1
        replace u0 := cell_of_ans hb u0
        replace u1 := cell_of_ans hb u1
        replace HCA := Lib.hid (HCA.out.step hb)
        replace HL10 := Lib.hid (HL10.out.step hb)
        replace HB := Lib.hid (HB.out.trans (hb.mono HB.out.size))
        clear hb
        obtain ⟨hq12, hqq12, hO12⟩ := isInts_parts (ownsRow_isInts hO12)
        have HT12 := Lib.hid hO12
        clear hO12
        go_wp2_with fail
        refine (manyU Al10 At12 cl10 ct12 _ HL10.out HT12.out ⟨hq10, hqq10⟩ ⟨hq12, hqq12⟩ HLE.out HRA.out).mono ?_
        rintro e y14 ⟨rfl, hb⟩
        replace HW := Lib.hid (HW.out.step hb)
        replace k0 := cell_of_ans hb k0
        replace k1 := cell_of_ans hb k1
        replace u0 := cell_of_ans hb u0
        replace u1 := cell_of_ans hb u1
        replace HCA := Lib.hid (HCA.out.step hb)
        replace HL10 := Lib.hid (HL10.out.step hb)
        replace HT12 := Lib.hid (HT12.out.step hb)
        replace HB := Lib.hid (HB.out.trans (hb.mono HB.out.size))
        clear hb
        clear HL10 HT12
        have HMB := Lib.hid (fun k (hk : k ≤ 5) => manyP_bd ws (offT fa) hk)
        generalize hwh : manyP ws (offT fa) m = wh at *
        have HWH := Lib.hid hwh
        clear hwh
        generalize herr : (if 0 < wh then (0 : Int) else 9) = er at *
        have HER := Lib.hid herr
        clear herr
        go_wp2_with fail
        go_loopw [16, 15] (fun i v wr => ∃ k : Nat, k ≤ m ∧ i = .int .i64 k ∧ v = .int .i64 (manyP ws (offT fa) k : Nat) ∧ Bel y14 wr) (fun i _ _ => m - (intOf i).toNat)
        case atStart => exact ⟨0, by omega, rfl, rfl, Below.refl _ _⟩
        case round =>
          obtain ⟨k, hk, rfl, rfl, hbr⟩ := hrel
          have HBY := Lib.hid hbr
          have hb : Below y14.heap.size y14 wr := hbr
          replace HW := Lib.hid (HW.out.step hb)
          replace k0 := cell_of_ans hb k0
          replace k1 := cell_of_ans hb k1
          replace u0 := cell_of_ans hb u0
          replace u1 := cell_of_ans hb u1
          replace HCA := Lib.hid (HCA.out.step hb)
          replace HB := Lib.hid (HB.out.trans (hb.mono HB.out.size))
          clear hb
          clear hbr
          by_cases h1 : k < m
          · have h1i : (k : Int) < (m : Int) := by omega
            have HS : Hid (manyP ws (offT fa) (k + 1) = manyP ws (offT fa) k * (gamesL ws (k : Int) (offT fa)).length) := rfl
            have hol := only_len ws (k : Int)
            go_wp2_with fail
            refine (only_c A ws c (m : Int) (k : Int) _ HW.out hc (by omega)).mono ?_
            rintro e y15 ⟨A2, c2, rfl, hO, hb⟩
            replace HW := Lib.hid (HW.out.step hb)
            replace k0 := cell_of_ans hb k0
            replace k1 := cell_of_ans hb k1
            replace u0 := cell_of_ans hb u0
            replace u1 := cell_of_ans hb u1
            replace HCA := Lib.hid (HCA.out.step hb)
            replace HBY := Lib.hid (HBY.out.step hb)
            replace HB := Lib.hid (HB.out.trans (hb.mono HB.out.size))
            clear hb
            obtain ⟨e1, e2, hO⟩ := hO.wds
            have HL2 := Lib.hid hO
            clear hO
            go_wp2_with fail
            refine (lane_c A2 (onlyL ws (k : Int)) c2 1 _ HL2.out ⟨e1, e2⟩ (by omega)).mono ?_
            rintro e y16 ⟨A3, c3, rfl, hO, hb⟩
            replace HW := Lib.hid (HW.out.step hb)
            replace k0 := cell_of_ans hb k0
            replace k1 := cell_of_ans hb k1
            replace u0 := cell_of_ans hb u0
            replace u1 := cell_of_ans hb u1
            replace HCA := Lib.hid (HCA.out.step hb)
            replace HBY := Lib.hid (HBY.out.step hb)
            replace HL2 := Lib.hid (HL2.out.step hb)
            replace HB := Lib.hid (HB.out.trans (hb.mono HB.out.size))
            clear hb
            obtain ⟨e3, e4, hO⟩ := hO.wds
            have HL3 := Lib.hid hO
            clear hO
            go_wp2_with fail
            refine (list_c AcA fa ccA _ HCA.out (Nat.le_refl _) (by omega)).mono ?_
            rintro e y18 ⟨At17, ct17, rfl, hO17, hb⟩
            replace HW := Lib.hid (HW.out.step hb)
            replace k0 := cell_of_ans hb k0
            replace k1 := cell_of_ans hb k1
            replace u0 := cell_of_ans hb u0
            replace u1 := cell_of_ans hb u1
            replace HCA := Lib.hid (HCA.out.step hb)
            replace HBY := Lib.hid (HBY.out.step hb)
            replace HL2 := Lib.hid (HL2.out.step hb)
            replace HL3 := Lib.hid (HL3.out.step hb)
            replace HB := Lib.hid (HB.out.trans (hb.mono HB.out.size))
            clear hb
            obtain ⟨hq17, hqq17, hO17⟩ := isInts_parts (ownsRow_isInts hO17)
            have HT17 := Lib.hid hO17
            clear hO17
            go_wp2_with fail
            refine (manyO k h30 HOK.out A3 At17 c3 ct17 _ HL3.out HT17.out ⟨e3, e4⟩ ⟨hq17, hqq17⟩ HRA.out).mono ?_
            rintro e y19 ⟨rfl, hb⟩
            replace HW := Lib.hid (HW.out.step hb)
            replace k0 := cell_of_ans hb k0
            replace k1 := cell_of_ans hb k1
            replace u0 := cell_of_ans hb u0
            replace u1 := cell_of_ans hb u1
            replace HCA := Lib.hid (HCA.out.step hb)
            replace HBY := Lib.hid (HBY.out.step hb)
            replace HL2 := Lib.hid (HL2.out.step hb)
            replace HL3 := Lib.hid (HL3.out.step hb)
            replace HT17 := Lib.hid (HT17.out.step hb)
            replace HB := Lib.hid (HB.out.trans (hb.mono HB.out.size))
            clear hb
            clear HL2 HL3 HT17
            have hpb := HMB.out k (by omega)
            have hpb2 := HMB.out (k + 1) (by omega)
            rw [HS.out] at hpb2
            generalize (gamesL ws (k : Int) (offT fa)).length = gl at *
            generalize manyP ws (offT fa) k = pk at *
            have hq0 : (0 : Int) ≤ (pk : Int) * (gl : Int) := by rw [← Int.natCast_mul]; omega
            have hq1 : (pk : Int) * (gl : Int) ≤ 2706784157 := by rw [← Int.natCast_mul]; omega
            have z9 : IntKind.i64.wrap ((pk : Int) * (gl : Int)) = (pk : Int) * (gl : Int) := IntWalk.i64_in _ (by omega)
            clear hpb hpb2
            by_cases hgl : 0 < gl
            · rw [if_pos hgl]
              clear hgl
              go_wp2_with fail
              go_roundw
              case rel => exact ⟨k + 1, by omega, by go_num, by rw [HS.out, Int.natCast_mul], HBY.out⟩
              case measure => simp [intOf]; omega
            · rw [if_neg hgl]
              clear hgl
              go_wp2_with fail
              go_roundw
              case rel => exact ⟨k + 1, by omega, by go_num, by rw [HS.out, Int.natCast_mul], HBY.out⟩
              case measure => simp [intOf]; omega
          · have h1i : ¬ (k : Int) < (m : Int) := by omega
            have hkm : m = k := by omega
            subst hkm
            rw [HWH.out]
            by_cases hwp : 0 < wh
            · rw [if_pos hwp] at HER
              obtain rfl := HER.out.symm
              have hww : ((wh : Int) == (wh : Int)) = true := by simp
              clear hwp
              go_wp2_with fail
              refine (HWK.out _).mono ?_
              rintro e y20 ⟨rfl, hb⟩
              replace HW := Lib.hid (HW.out.step hb)
              replace k0 := cell_of_ans hb k0
              replace k1 := cell_of_ans hb k1
              replace u0 := cell_of_ans hb u0
              replace u1 := cell_of_ans hb u1
              replace HCA := Lib.hid (HCA.out.step hb)
              replace HBY := Lib.hid (HBY.out.step hb)
              replace HB := Lib.hid (HB.out.trans (hb.mono HB.out.size))
              clear hb
              go_wp2_with fail
              go_ret
              exact ⟨rfl, HB.out⟩
            · rw [if_neg hwp] at HER
              obtain rfl := HER.out.symm
              obtain rfl : wh = 0 := by omega
              clear hwp
              go_wp2_with fail
              refine (HWK.out _).mono ?_
              rintro e y21 ⟨rfl, hb⟩
              replace HW := Lib.hid (HW.out.step hb)
              replace k0 := cell_of_ans hb k0
              replace k1 := cell_of_ans hb k1
              replace u0 := cell_of_ans hb u0
              replace u1 := cell_of_ans hb u1
              replace HCA := Lib.hid (HCA.out.step hb)
              replace HBY := Lib.hid (HBY.out.step hb)
              replace HB := Lib.hid (HB.out.trans (hb.mono HB.out.size))
              clear hb
              go_wp2_with fail
              go_ret
              exact ⟨rfl, HB.out⟩
end Go.Proofs.Ytadjkinpimmhkaa
