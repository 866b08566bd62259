/-
  The walk of RackKinds.
-/
import Derived.Test.YtpekajnjjhibjaaG2
import Derived.Test.YtpekajnjjhibjaaEq75
import Derived.Test.YtpekajnjjhibjaaAwk
namespace Go.Proofs.Ytpekajnjjhibjaa
open Go.RowKit
set_option linter.unusedSimpArgs false
set_option linter.unusedVariables false

attribute [local go_sem] Oper.semAt_some
set_option maxRecDepth 100000 in
set_option maxHeartbeats 16000000 in
theorem kinds8_c (r : Rk) (A xA : Option Addr) (c cx : Nat) (xs : List Int) (w : World) (hl : Lks w.heap.size w A r.links) (hc : r.links.length ≤ c ∧ c ≤ 9223372036854775807) (hx : Ints w.heap.size w xA xs) (hcx : xs.length ≤ cx ∧ cx ≤ 9223372036854775807) :
    Calls Try.prog 8 #[.agg #[.int .i64 r.rows, .int .i64 r.mid, .int .i64 r.gap, .int .i64 r.reach, .slice A r.links.length c], .slice xA xs.length cx] w (Ans w (.bool true)) := by
  have HL0 := Lib.hid hl
  have HX0 := Lib.hid hx
  have HB := Lib.hid (Below.refl w.heap.size w)
  have HL := Lib.hid hl
  have HX := Lib.hid hx
  clear hl hx
  have hb : Below w.heap.size w (w.alloc (.cells #[.int .i64 r.rows, .int .i64 r.mid, .int .i64 r.gap, .int .i64 r.reach, .slice A r.links.length c] 24)) := (Below.refl _ _).alloc (Nat.le_refl _) _
  replace HL := Lib.hid (HL.out.step hb)
  replace HX := Lib.hid (HX.out.step hb)
  replace HB := Lib.hid (HB.out.trans (hb.mono HB.out.size))
  clear hb
  have k0 : (w.alloc (.cells #[.int .i64 r.rows, .int .i64 r.mid, .int .i64 r.gap, .int .i64 r.reach, .slice A r.links.length c] 24)).cell? ⟨w.heap.size, 0, none⟩ = some (.int .i64 r.rows) := by simp
  have k1 : (w.alloc (.cells #[.int .i64 r.rows, .int .i64 r.mid, .int .i64 r.gap, .int .i64 r.reach, .slice A r.links.length c] 24)).cell? ⟨w.heap.size, 1, none⟩ = some (.int .i64 r.mid) := by simp
  have k2 : (w.alloc (.cells #[.int .i64 r.rows, .int .i64 r.mid, .int .i64 r.gap, .int .i64 r.reach, .slice A r.links.length c] 24)).cell? ⟨w.heap.size, 2, none⟩ = some (.int .i64 r.gap) := by simp
  have k3 : (w.alloc (.cells #[.int .i64 r.rows, .int .i64 r.mid, .int .i64 r.gap, .int .i64 r.reach, .slice A r.links.length c] 24)).cell? ⟨w.heap.size, 3, none⟩ = some (.int .i64 r.reach) := by simp
  have k4 : (w.alloc (.cells #[.int .i64 r.rows, .int .i64 r.mid, .int .i64 r.gap, .int .i64 r.reach, .slice A r.links.length c] 24)).cell? ⟨w.heap.size, 4, none⟩ = some (.slice A r.links.length c) := by simp
  cases ht : thinB r.links.length xs.length 0
  · have HTH := Lib.hid (fun W => (show Calls Try.prog 23 #[.agg #[.int .i64 r.rows, .int .i64 r.mid, .int .i64 r.gap, .int .i64 r.reach, .slice A r.links.length c], .slice xA xs.length cx, .slice none 0 0] W (Ans W (.bool false)) from by have h := thin23_c r A xA none c xs.length cx 0 0 W; rwa [ht] at h))
    clear ht
    go_enter Try.func8, Try.ntmps8
    go_wp2_with fail
    generalize (w.alloc (.cells #[.int .i64 r.rows, .int .i64 r.mid, .int .i64 r.gap, .int .i64 r.reach, .slice A r.links.length c] 24)) = x1 at *
    refine (HTH.out _).mono ?_
    rintro e x1 ⟨rfl, hb⟩
    replace HL := Lib.hid (HL.out.step hb)
    replace HX := Lib.hid (HX.out.step hb)
    replace k0 := cell_of_ans hb k0
    replace k1 := cell_of_ans hb k1
    replace k2 := cell_of_ans hb k2
    replace k3 := cell_of_ans hb k3
    replace k4 := cell_of_ans hb k4
    replace HB := Lib.hid (HB.out.trans (hb.mono HB.out.size))
    clear hb
    clear HTH
    go_wp2_with fail
    refine (awake16_c _).mono ?_
    rintro e wz ⟨rfl, hb⟩
    replace HL := Lib.hid (HL.out.step hb)
    replace HX := Lib.hid (HX.out.step hb)
    replace k0 := cell_of_ans hb k0
    replace k1 := cell_of_ans hb k1
    replace k2 := cell_of_ans hb k2
    replace k3 := cell_of_ans hb k3
    replace k4 := cell_of_ans hb k4
    replace HB := Lib.hid (HB.out.trans (hb.mono HB.out.size))
    clear hb
    go_wp2_with fail
    go_ret
    exact ⟨rfl, HB.out⟩
  have HTH := Lib.hid (fun W => (show Calls Try.prog 23 #[.agg #[.int .i64 r.rows, .int .i64 r.mid, .int .i64 r.gap, .int .i64 r.reach, .slice A r.links.length c], .slice xA xs.length cx, .slice none 0 0] W (Ans W (.bool true)) from by have h := thin23_c r A xA none c xs.length cx 0 0 W; rwa [ht] at h))
  rw [thinB, Bool.and_eq_true, Bool.and_eq_true, decide_eq_true_eq, decide_eq_true_eq, decide_eq_true_eq] at ht
  obtain ⟨hl16, hx15, -⟩ := ht
  have hlen : r.links.length ≤ 1000000 := by omega
  have hxl : xs.length ≤ 1000000 := by omega
  have HCH := Lib.hid (fun (A4 : Option Addr) (c4 : Nat) (W : World) h1 h2 => checkRack_c r A4 c4 W h1 h2)
  have HKI := Lib.hid (fun (A4 xA4 : Option Addr) (c4 cx4 : Nat) (W : World) h1 h2 h3 h4 => Kind_c r A4 xA4 c4 cx4 xs W h1 h2 h3 h4)
  have HCE := Lib.hid (fun (A4 : Option Addr) (c4 : Nat) (W : World) h1 h2 => census_c r A4 c4 W h1 h2)
  have HFT := Lib.hid (fun W h1 => fault39_c r A c W h1 hc)
  by_cases her : rackErr r = 0
  rotate_left 1
  · have hpe : pinErr r xs = rackErr r := by rw [pinErr, if_neg her]
    have hkv : kindV r xs = 0 := by rw [kindV, if_neg (by rw [hpe]; exact her)]
    have hcv : ∀ j, cenV r j = 0 := fun j => by rw [cenV, if_neg her]
    rw [hpe, hkv] at HKI
    simp only [hcv] at HCE
    clear hpe hkv hcv
    have q2 : (rackErr r != 0) = true := by simp [her]
    have q3 : (rackErr r == rackErr r) = true := by simp
    have q4 : (rackErr r != rackErr r) = false := by simp
    clear her
    have e75 := eq75 0 0 0 0 0
    generalize rackErr r = te at *
    go_enter Try.func8, Try.ntmps8
    go_wp2_with fail
    generalize (w.alloc (.cells #[.int .i64 r.rows, .int .i64 r.mid, .int .i64 r.gap, .int .i64 r.reach, .slice A r.links.length c] 24)) = x1 at *
    refine (HTH.out _).mono ?_
    rintro e x2 ⟨rfl, hb⟩
    replace HL := Lib.hid (HL.out.step hb)
    replace HX := Lib.hid (HX.out.step hb)
    replace k0 := cell_of_ans hb k0
    replace k1 := cell_of_ans hb k1
    replace k2 := cell_of_ans hb k2
    replace k3 := cell_of_ans hb k3
    replace k4 := cell_of_ans hb k4
    replace HB := Lib.hid (HB.out.trans (hb.mono HB.out.size))
    clear hb
    clear HTH
    go_wp2_with fail
    refine (rack18_c r A c _ HL.out hc hlen).mono ?_
    rintro e w2 ⟨A3, c3, rfl, ⟨hl3, hc3⟩, hb⟩
    replace HL := Lib.hid (HL.out.step hb)
    replace HX := Lib.hid (HX.out.step hb)
    replace k0 := cell_of_ans hb k0
    replace k1 := cell_of_ans hb k1
    replace k2 := cell_of_ans hb k2
    replace k3 := cell_of_ans hb k3
    replace k4 := cell_of_ans hb k4
    replace HB := Lib.hid (HB.out.trans (hb.mono HB.out.size))
    clear hb
    have Hhl3 := Lib.hid hl3
    clear hl3
    go_wp2_with fail
    refine (HCH.out _ _ _ Hhl3.out hc3).mono ?_
    rintro e w3 ⟨rfl, hb⟩
    replace HL := Lib.hid (HL.out.step hb)
    replace HX := Lib.hid (HX.out.step hb)
    replace k0 := cell_of_ans hb k0
    replace k1 := cell_of_ans hb k1
    replace k2 := cell_of_ans hb k2
    replace k3 := cell_of_ans hb k3
    replace k4 := cell_of_ans hb k4
    replace Hhl3 := Lib.hid (Hhl3.out.step hb)
    replace HB := Lib.hid (HB.out.trans (hb.mono HB.out.size))
    clear hb
    clear Hhl3
    go_wp2_with fail
    refine (rack18_c r A c _ HL.out hc hlen).mono ?_
    rintro e w4 ⟨A4, c4, rfl, ⟨hl4, hc4⟩, hb⟩
    replace HL := Lib.hid (HL.out.step hb)
    replace HX := Lib.hid (HX.out.step hb)
    replace k0 := cell_of_ans hb k0
    replace k1 := cell_of_ans hb k1
    replace k2 := cell_of_ans hb k2
    replace k3 := cell_of_ans hb k3
    replace k4 := cell_of_ans hb k4
    replace HB := Lib.hid (HB.out.trans (hb.mono HB.out.size))
    clear hb
    have Hhl4 := Lib.hid hl4
    clear hl4
    go_wp2_with fail
    refine (list_c xA xs cx _ HX.out hxl).mono ?_
    rintro e w5 ⟨B4, d4, rfl, ho4, hb⟩
    obtain ⟨hd4, he4, hi4⟩ := isInts_parts (ownsRow_isInts ho4)
    clear ho4
    replace HL := Lib.hid (HL.out.step hb)
    replace HX := Lib.hid (HX.out.step hb)
    replace k0 := cell_of_ans hb k0
    replace k1 := cell_of_ans hb k1
    replace k2 := cell_of_ans hb k2
    replace k3 := cell_of_ans hb k3
    replace k4 := cell_of_ans hb k4
    replace Hhl4 := Lib.hid (Hhl4.out.step hb)
    replace HB := Lib.hid (HB.out.trans (hb.mono HB.out.size))
    clear hb
    have Hhi4 := Lib.hid hi4
    clear hi4
    go_wp2_with fail
    refine (HKI.out _ _ _ _ _ Hhl4.out hc4 Hhi4.out ⟨hd4, he4⟩).mono ?_
    rintro e w6 ⟨rfl, hb⟩
    replace HL := Lib.hid (HL.out.step hb)
    replace HX := Lib.hid (HX.out.step hb)
    replace k0 := cell_of_ans hb k0
    replace k1 := cell_of_ans hb k1
    replace k2 := cell_of_ans hb k2
    replace k3 := cell_of_ans hb k3
    replace k4 := cell_of_ans hb k4
    replace Hhl4 := Lib.hid (Hhl4.out.step hb)
    replace Hhi4 := Lib.hid (Hhi4.out.step hb)
    replace HB := Lib.hid (HB.out.trans (hb.mono HB.out.size))
    clear hb
    clear Hhl4 Hhi4
    go_wp2_with fail
    refine (rack18_c r A c _ HL.out hc hlen).mono ?_
    rintro e w7 ⟨A5, c5, rfl, ⟨hl5, hc5⟩, hb⟩
    replace HL := Lib.hid (HL.out.step hb)
    replace HX := Lib.hid (HX.out.step hb)
    replace k0 := cell_of_ans hb k0
    replace k1 := cell_of_ans hb k1
    replace k2 := cell_of_ans hb k2
    replace k3 := cell_of_ans hb k3
    replace k4 := cell_of_ans hb k4
    replace HB := Lib.hid (HB.out.trans (hb.mono HB.out.size))
    clear hb
    have Hhl5 := Lib.hid hl5
    clear hl5
    go_wp2_with fail
    refine (HCE.out _ _ _ Hhl5.out hc5).mono ?_
    rintro e w8 ⟨rfl, hb⟩
    replace HL := Lib.hid (HL.out.step hb)
    replace HX := Lib.hid (HX.out.step hb)
    replace k0 := cell_of_ans hb k0
    replace k1 := cell_of_ans hb k1
    replace k2 := cell_of_ans hb k2
    replace k3 := cell_of_ans hb k3
    replace k4 := cell_of_ans hb k4
    replace Hhl5 := Lib.hid (Hhl5.out.step hb)
    replace HB := Lib.hid (HB.out.trans (hb.mono HB.out.size))
    clear hb
    clear Hhl5
    have ltk0 := World.block_lt_of_cell? _ _ k0
    dsimp only at ltk0
    go_upto_region 6 with fail
    have hb : Below w8.heap.size w8 (w8.alloc (.cells #[.int .i64 0, .int .i64 0, .int .i64 0, .int .i64 0, .int .i64 0] 75)) := (Below.refl _ _).alloc (Nat.le_refl _) _
    replace HL := Lib.hid (HL.out.step hb)
    replace HX := Lib.hid (HX.out.step hb)
    replace k0 := cell_of_ans hb k0
    replace k1 := cell_of_ans hb k1
    replace k2 := cell_of_ans hb k2
    replace k3 := cell_of_ans hb k3
    replace k4 := cell_of_ans hb k4
    replace HB := Lib.hid (HB.out.trans (hb.mono HB.out.size))
    clear hb
    have e0 : (w8.alloc (.cells #[.int .i64 0, .int .i64 0, .int .i64 0, .int .i64 0, .int .i64 0] 75)).cell? ⟨w8.heap.size, 0, none⟩ = some (.int .i64 0) := by simp
    have e1 : (w8.alloc (.cells #[.int .i64 0, .int .i64 0, .int .i64 0, .int .i64 0, .int .i64 0] 75)).cell? ⟨w8.heap.size, 1, none⟩ = some (.int .i64 0) := by simp
    have e2 : (w8.alloc (.cells #[.int .i64 0, .int .i64 0, .int .i64 0, .int .i64 0, .int .i64 0] 75)).cell? ⟨w8.heap.size, 2, none⟩ = some (.int .i64 0) := by simp
    have e3 : (w8.alloc (.cells #[.int .i64 0, .int .i64 0, .int .i64 0, .int .i64 0, .int .i64 0] 75)).cell? ⟨w8.heap.size, 3, none⟩ = some (.int .i64 0) := by simp
    have e4 : (w8.alloc (.cells #[.int .i64 0, .int .i64 0, .int .i64 0, .int .i64 0, .int .i64 0] 75)).cell? ⟨w8.heap.size, 4, none⟩ = some (.int .i64 0) := by simp
    generalize (w8.alloc (.cells #[.int .i64 0, .int .i64 0, .int .i64 0, .int .i64 0, .int .i64 0] 75)) = w9 at *
    generalize w8.heap.size = nq at *
    go_wp2_with fail
    refine (HFT.out _ HL.out).mono ?_
    rintro e w10 ⟨rfl, hb⟩
    replace HL := Lib.hid (HL.out.step hb)
    replace HX := Lib.hid (HX.out.step hb)
    replace k0 := cell_of_ans hb k0
    replace k1 := cell_of_ans hb k1
    replace k2 := cell_of_ans hb k2
    replace k3 := cell_of_ans hb k3
    replace k4 := cell_of_ans hb k4
    replace e0 := cell_of_ans hb e0
    replace e1 := cell_of_ans hb e1
    replace e2 := cell_of_ans hb e2
    replace e3 := cell_of_ans hb e3
    replace e4 := cell_of_ans hb e4
    replace HB := Lib.hid (HB.out.trans (hb.mono HB.out.size))
    clear hb
    go_wp2_with fail
    refine (awake16_c _).mono ?_
    rintro e wz ⟨rfl, hb⟩
    replace HL := Lib.hid (HL.out.step hb)
    replace HX := Lib.hid (HX.out.step hb)
    replace k0 := cell_of_ans hb k0
    replace k1 := cell_of_ans hb k1
    replace k2 := cell_of_ans hb k2
    replace k3 := cell_of_ans hb k3
    replace k4 := cell_of_ans hb k4
    replace e0 := cell_of_ans hb e0
    replace e1 := cell_of_ans hb e1
    replace e2 := cell_of_ans hb e2
    replace e3 := cell_of_ans hb e3
    replace e4 := cell_of_ans hb e4
    replace HB := Lib.hid (HB.out.trans (hb.mono HB.out.size))
    clear hb
    go_wp2_with fail
    go_ret
    exact ⟨rfl, HB.out⟩
  have hr := rackOk her
  have hpn := pn_le hr.rows1 hr.rows4
  have hcv : ∀ j, cenV r j = cenI (2 ^ pn r.rows) j := fun j => by rw [cenV, if_pos her]
  simp only [hcv] at HCE
  rw [her] at HCH HCE HFT
  have hpe0 : pinErr r xs = 0 ∨ pinErr r xs ≠ 0 := by omega
  have HPI := Lib.hid (fun W => pins40_c r.rows r.mid r.gap r.reach A r.links.length c W hr.rows1 hr.rows4)
  have HPN := Lib.hid (fun W h1 h2 => pinned26_c r A xA c cx xs W h1 hc h2 hcx)
  have hp2 : 2 ^ pn r.rows ≤ 1024 := Nat.le_trans (Nat.pow_le_pow_right (by omega) hpn.2) (by decide)
  have HOF := Lib.hid (fun (bi : Nat) (W : World) (h : bi < 2 ^ pn r.rows) => (show Calls Try.prog 42 #[.agg #[.int .i64 r.rows, .int .i64 r.mid, .int .i64 r.gap, .int .i64 r.reach, .slice A r.links.length c], .int .i64 (bi : Int)] W (NewO W (natsI (listS bi))) from by
    have h1 := of42_c r A c bi W hr (by omega)
    rwa [ofT_list hpn.2 h] at h1))
  have HK4 := Lib.hid (fun (bi : Nat) (xA4 : Option Addr) (cx4 : Nat) (W : World) (h : bi < 2 ^ 10) h1 h2 => kind41_c r A xA4 c cx4 bi W hr h h1 h2)
  have HKV : Hid (pinErr r xs = 0 → xs = natsI (listS (pinS r xs)) ∧ kindV r xs = kindS (pinS r xs) ∧ pinS r xs < 2 ^ 10) := fun h => ⟨pins_list h, by rw [kindV, if_pos h], pinS_lt⟩
  have HKW : Hid (pinErr r xs ≠ 0 → kindV r xs = 0) := fun h => by rw [kindV, if_neg h]
  have HE : Hid (((2 : Int) ^ pn r.rows) = ((2 ^ pn r.rows : Nat) : Int)) := by show _ = _; simp
  obtain ⟨m, hm⟩ : ∃ m, m = 2 ^ pn r.rows := ⟨_, rfl⟩
  rw [← hm] at hp2 hcv HCE HOF HE
  clear hm hcv her
  have hsh : IntKind.i64.wrap ((2 : Int) ^ pn r.rows) = (m : Int) := by
    rw [HE.out]
    exact IntWalk.i64_in _ (by omega)
  clear HE hr
  go_enter Try.func8, Try.ntmps8
  go_wp2_with fail
  generalize (w.alloc (.cells #[.int .i64 r.rows, .int .i64 r.mid, .int .i64 r.gap, .int .i64 r.reach, .slice A r.links.length c] 24)) = x1 at *
  refine (HTH.out _).mono ?_
  rintro e x3 ⟨rfl, hb⟩
  replace HL := Lib.hid (HL.out.step hb)
  replace HX := Lib.hid (HX.out.step hb)
  replace k0 := cell_of_ans hb k0
  replace k1 := cell_of_ans hb k1
  replace k2 := cell_of_ans hb k2
  replace k3 := cell_of_ans hb k3
  replace k4 := cell_of_ans hb k4
  replace HB := Lib.hid (HB.out.trans (hb.mono HB.out.size))
  clear hb
  clear HTH
  go_wp2_with fail
  refine (rack18_c r A c _ HL.out hc hlen).mono ?_
  rintro e w2 ⟨A3, c3, rfl, ⟨hl3, hc3⟩, hb⟩
  replace HL := Lib.hid (HL.out.step hb)
  replace HX := Lib.hid (HX.out.step hb)
  replace k0 := cell_of_ans hb k0
  replace k1 := cell_of_ans hb k1
  replace k2 := cell_of_ans hb k2
  replace k3 := cell_of_ans hb k3
  replace k4 := cell_of_ans hb k4
  replace HB := Lib.hid (HB.out.trans (hb.mono HB.out.size))
  clear hb
  have Hhl3 := Lib.hid hl3
  clear hl3
  go_wp2_with fail
  refine (HCH.out _ _ _ Hhl3.out hc3).mono ?_
  rintro e w3 ⟨rfl, hb⟩
  replace HL := Lib.hid (HL.out.step hb)
  replace HX := Lib.hid (HX.out.step hb)
  replace k0 := cell_of_ans hb k0
  replace k1 := cell_of_ans hb k1
  replace k2 := cell_of_ans hb k2
  replace k3 := cell_of_ans hb k3
  replace k4 := cell_of_ans hb k4
  replace Hhl3 := Lib.hid (Hhl3.out.step hb)
  replace HB := Lib.hid (HB.out.trans (hb.mono HB.out.size))
  clear hb
  clear Hhl3
  go_wp2_with fail
  refine (rack18_c r A c _ HL.out hc hlen).mono ?_
  rintro e w4 ⟨A4, c4, rfl, ⟨hl4, hc4⟩, hb⟩
  replace HL := Lib.hid (HL.out.step hb)
  replace HX := Lib.hid (HX.out.step hb)
  replace k0 := cell_of_ans hb k0
  replace k1 := cell_of_ans hb k1
  replace k2 := cell_of_ans hb k2
  replace k3 := cell_of_ans hb k3
  replace k4 := cell_of_ans hb k4
  replace HB := Lib.hid (HB.out.trans (hb.mono HB.out.size))
  clear hb
  have Hhl4 := Lib.hid hl4
  clear hl4
  go_wp2_with fail
  refine (list_c xA xs cx _ HX.out hxl).mono ?_
  rintro e w5 ⟨B4, d4, rfl, ho4, hb⟩
  obtain ⟨hd4, he4, hi4⟩ := isInts_parts (ownsRow_isInts ho4)
  clear ho4
  replace HL := Lib.hid (HL.out.step hb)
  replace HX := Lib.hid (HX.out.step hb)
  replace k0 := cell_of_ans hb k0
  replace k1 := cell_of_ans hb k1
  replace k2 := cell_of_ans hb k2
  replace k3 := cell_of_ans hb k3
  replace k4 := cell_of_ans hb k4
  replace Hhl4 := Lib.hid (Hhl4.out.step hb)
  replace HB := Lib.hid (HB.out.trans (hb.mono HB.out.size))
  clear hb
  have Hhi4 := Lib.hid hi4
  clear hi4
  go_wp2_with fail
  refine (HKI.out _ _ _ _ _ Hhl4.out hc4 Hhi4.out ⟨hd4, he4⟩).mono ?_
  rintro e w6 ⟨rfl, hb⟩
  replace HL := Lib.hid (HL.out.step hb)
  replace HX := Lib.hid (HX.out.step hb)
  replace k0 := cell_of_ans hb k0
  replace k1 := cell_of_ans hb k1
  replace k2 := cell_of_ans hb k2
  replace k3 := cell_of_ans hb k3
  replace k4 := cell_of_ans hb k4
  replace Hhl4 := Lib.hid (Hhl4.out.step hb)
  replace Hhi4 := Lib.hid (Hhi4.out.step hb)
  replace HB := Lib.hid (HB.out.trans (hb.mono HB.out.size))
  clear hb
  clear Hhl4 Hhi4
  go_wp2_with fail
  refine (rack18_c r A c _ HL.out hc hlen).mono ?_
  rintro e w7 ⟨A5, c5, rfl, ⟨hl5, hc5⟩, hb⟩
  replace HL := Lib.hid (HL.out.step hb)
  replace HX := Lib.hid (HX.out.step hb)
  replace k0 := cell_of_ans hb k0
  replace k1 := cell_of_ans hb k1
  replace k2 := cell_of_ans hb k2
  replace k3 := cell_of_ans hb k3
  replace k4 := cell_of_ans hb k4
  replace HB := Lib.hid (HB.out.trans (hb.mono HB.out.size))
  clear hb
  have Hhl5 := Lib.hid hl5
  clear hl5
  go_wp2_with fail
  refine (HCE.out _ _ _ Hhl5.out hc5).mono ?_
  rintro e w8 ⟨rfl, hb⟩
  replace HL := Lib.hid (HL.out.step hb)
  replace HX := Lib.hid (HX.out.step hb)
  replace k0 := cell_of_ans hb k0
  replace k1 := cell_of_ans hb k1
  replace k2 := cell_of_ans hb k2
  replace k3 := cell_of_ans hb k3
  replace k4 := cell_of_ans hb k4
  replace Hhl5 := Lib.hid (Hhl5.out.step hb)
  replace HB := Lib.hid (HB.out.trans (hb.mono HB.out.size))
  clear hb
  clear Hhl5
  have ltk0 := World.block_lt_of_cell? _ _ k0
  dsimp only at ltk0
  go_upto_region 6 with fail
  have hb : Below w8.heap.size w8 (w8.alloc (.cells #[.int .i64 (cenI m 0), .int .i64 (cenI m 1), .int .i64 (cenI m 2), .int .i64 (cenI m 3), .int .i64 (cenI m 4)] 75)) := (Below.refl _ _).alloc (Nat.le_refl _) _
  replace HL := Lib.hid (HL.out.step hb)
  replace HX := Lib.hid (HX.out.step hb)
  replace k0 := cell_of_ans hb k0
  replace k1 := cell_of_ans hb k1
  replace k2 := cell_of_ans hb k2
  replace k3 := cell_of_ans hb k3
  replace k4 := cell_of_ans hb k4
  replace HB := Lib.hid (HB.out.trans (hb.mono HB.out.size))
  clear hb
  have e0 : (w8.alloc (.cells #[.int .i64 (cenI m 0), .int .i64 (cenI m 1), .int .i64 (cenI m 2), .int .i64 (cenI m 3), .int .i64 (cenI m 4)] 75)).cell? ⟨w8.heap.size, 0, none⟩ = some (.int .i64 (cenI m 0)) := by simp
  have e1 : (w8.alloc (.cells #[.int .i64 (cenI m 0), .int .i64 (cenI m 1), .int .i64 (cenI m 2), .int .i64 (cenI m 3), .int .i64 (cenI m 4)] 75)).cell? ⟨w8.heap.size, 1, none⟩ = some (.int .i64 (cenI m 1)) := by simp
  have e2 : (w8.alloc (.cells #[.int .i64 (cenI m 0), .int .i64 (cenI m 1), .int .i64 (cenI m 2), .int .i64 (cenI m 3), .int .i64 (cenI m 4)] 75)).cell? ⟨w8.heap.size, 2, none⟩ = some (.int .i64 (cenI m 2)) := by simp
  have e3 : (w8.alloc (.cells #[.int .i64 (cenI m 0), .int .i64 (cenI m 1), .int .i64 (cenI m 2), .int .i64 (cenI m 3), .int .i64 (cenI m 4)] 75)).cell? ⟨w8.heap.size, 3, none⟩ = some (.int .i64 (cenI m 3)) := by simp
  have e4 : (w8.alloc (.cells #[.int .i64 (cenI m 0), .int .i64 (cenI m 1), .int .i64 (cenI m 2), .int .i64 (cenI m 3), .int .i64 (cenI m 4)] 75)).cell? ⟨w8.heap.size, 4, none⟩ = some (.int .i64 (cenI m 4)) := by simp
  generalize (w8.alloc (.cells #[.int .i64 (cenI m 0), .int .i64 (cenI m 1), .int .i64 (cenI m 2), .int .i64 (cenI m 3), .int .i64 (cenI m 4)] 75)) = w9 at *
  generalize w8.heap.size = nq at *
  go_wp2_with fail
  refine (HFT.out _ HL.out).mono ?_
  rintro e w10 ⟨rfl, hb⟩
  replace HL := Lib.hid (HL.out.step hb)
  replace HX := Lib.hid (HX.out.step hb)
  replace k0 := cell_of_ans hb k0
  replace k1 := cell_of_ans hb k1
  replace k2 := cell_of_ans hb k2
  replace k3 := cell_of_ans hb k3
  replace k4 := cell_of_ans hb k4
  replace e0 := cell_of_ans hb e0
  replace e1 := cell_of_ans hb e1
  replace e2 := cell_of_ans hb e2
  replace e3 := cell_of_ans hb e3
  replace e4 := cell_of_ans hb e4
  replace HB := Lib.hid (HB.out.trans (hb.mono HB.out.size))
  clear hb
  clear HCH HKI HCE HFT
  go_upto_region 11 with fail
  have lte0 := World.block_lt_of_cell? _ _ e0
  dsimp only at lte0
  have hb : Below w10.heap.size w10 (w10.alloc (.cells #[.int .i64 0, .int .i64 0, .int .i64 0, .int .i64 0, .int .i64 0] 75)) := (Below.refl _ _).alloc (Nat.le_refl _) _
  replace HL := Lib.hid (HL.out.step hb)
  replace HX := Lib.hid (HX.out.step hb)
  replace k0 := cell_of_ans hb k0
  replace k1 := cell_of_ans hb k1
  replace k2 := cell_of_ans hb k2
  replace k3 := cell_of_ans hb k3
  replace k4 := cell_of_ans hb k4
  replace e0 := cell_of_ans hb e0
  replace e1 := cell_of_ans hb e1
  replace e2 := cell_of_ans hb e2
  replace e3 := cell_of_ans hb e3
  replace e4 := cell_of_ans hb e4
  replace HB := Lib.hid (HB.out.trans (hb.mono HB.out.size))
  clear hb
  have HQ : Hid (AtC (w10.alloc (.cells #[.int .i64 0, .int .i64 0, .int .i64 0, .int .i64 0, .int .i64 0] 75)) w10.heap.size (cenI 0)) := by show AtC _ _ _; unfold AtC; exact World.alloc_heap_new _ _
  generalize hx11 : (w10.alloc (.cells #[.int .i64 0, .int .i64 0, .int .i64 0, .int .i64 0, .int .i64 0] 75)) = x11 at *
  generalize hqq : w10.heap.size = q at *
  clear hx11 hqq
  have hltk : w.heap.size < q := by omega
  go_wp2_with fail
  go_loopw [11] (fun i wr => ∃ k : Nat, k ≤ m ∧ i = .int .i64 k ∧ AtC wr q (cenI k) ∧ x11.grownBy wr (some q)) (fun i _ => m - (intOf i).toNat)
  case atStart => exact ⟨0, by omega, rfl, HQ.out, World.grownBy.refl _ _⟩
  case round =>
    clear HQ
    obtain ⟨k, hk, rfl, h5, hg⟩ := hrel
    have H5 := Lib.hid h5
    have HG := Lib.hid hg
    have hqlt : q < wr.heap.size := h5.lt
    have HBR : Hid (Below w.heap.size w wr) := HB.out.grown hg HB.out.size (fun k e => by injection e with e; omega)
    replace k0 := hg.cell k0 (by simp; omega)
    replace k1 := hg.cell k1 (by simp; omega)
    replace k2 := hg.cell k2 (by simp; omega)
    replace k3 := hg.cell k3 (by simp; omega)
    replace k4 := hg.cell k4 (by simp; omega)
    replace e0 := hg.cell e0 (by simp; omega)
    replace e1 := hg.cell e1 (by simp; omega)
    replace e2 := hg.cell e2 (by simp; omega)
    replace e3 := hg.cell e3 (by simp; omega)
    replace e4 := hg.cell e4 (by simp; omega)
    clear h5 hg
    go_wp2_with fail
    refine (HPI.out _).mono ?_
    rintro e w2 ⟨rfl, hb⟩
    replace H5 := Lib.hid (H5.out.step hb)
    replace HG : Hid (x11.grownBy w2 (some q)) := HG.out.trans (only_below hb _)
    replace HBR := Lib.hid (HBR.out.trans (hb.mono HBR.out.size))
    replace k0 := cell_of_ans hb k0
    replace k1 := cell_of_ans hb k1
    replace k2 := cell_of_ans hb k2
    replace k3 := cell_of_ans hb k3
    replace k4 := cell_of_ans hb k4
    replace e0 := cell_of_ans hb e0
    replace e1 := cell_of_ans hb e1
    replace e2 := cell_of_ans hb e2
    replace e3 := cell_of_ans hb e3
    replace e4 := cell_of_ans hb e4
    replace hqlt : q < w2.heap.size := Nat.lt_of_lt_of_le hqlt hb.size
    clear hb
    by_cases h1 : k < m
    · have h1i : (k : Int) < (m : Int) := by omega
      have hwk : IntKind.i64.wrap ((k : Int) + 1) = (k : Int) + 1 := IntWalk.i64_in _ (by omega)
      have hkl := kindS_le k
      have HC := Lib.hid H5.out.count
      obtain ⟨-, zc, zf⟩ := H5.out.cells
      have zk := zc (kindS k) (by omega)
      have hcl := cenF_le k (kindS k)
      have hwc : IntKind.i64.wrap (cenI k (kindS k) + 1) = cenI k (kindS k) + 1 := IntWalk.i64_in _ (by unfold cenI; omega)
      have hki : (kindS k : Int) < 5 := by omega
      have HKK := Lib.hid (fun (xA4 : Option Addr) (cx4 : Nat) (W : World) h1 h2 => HK4.out k xA4 cx4 W (by omega) h1 h2)
      have HOK := Lib.hid (fun W => HOF.out k W h1)
      have HCI : Hid (∀ W' : World, AtC W' q (cenI k) → W'.frozen? ⟨q, kindS k, none⟩ = false ∧ AtC (W'.setCell ⟨q, kindS k, none⟩ (.int .i64 (cenI k (kindS k) + 1))) q (cenI (k + 1))) := fun W' h => ⟨h.cells.2.2 _, h.count⟩
      clear zc zf hcl HC e0 e1 e2 e3 e4 HL HX HPN HKV HKW HPI HK4 HOF
      generalize natsI (listS k) = xk at *
      generalize kindS k = kd at *
      generalize hcv : cenI k kd = cv at *
      clear hcv
      go_upto_region 14 with fail
      refine wp_region_noPanic ?_
      have hS : (fun W' : World => Below w2.heap.size w2 W') w2.drew := (Below.refl _ _).drew
      refine wp_region_any (by kernel_rfl) (wpAny_of_T (S := fun W' : World => Below w2.heap.size w2 W') (m := 9) _ _ _ _ ?_)
      refine' T_take (i := 0) (v := _) rfl (by kernel_rfl) (by kernel_rfl) (by kernel_rfl) (by kernel_rfl) (fun _ _ _ h => h) (by kernel_rfl) hS ?_ ?_
      rotate_left 1
      · intro Wv hW
        replace k0 := cell_of_ans hW k0
        replace k1 := cell_of_ans hW k1
        replace k2 := cell_of_ans hW k2
        replace k3 := cell_of_ans hW k3
        replace k4 := cell_of_ans hW k4
        replace zk := cell_of_ans hW zk
        go_simp
        first | done | with_reducible rfl | omega
      try simp only [Act.put, List.setIfInBounds_toArray, List.set_cons_zero, List.set_cons_succ]
      refine' T_take (i := 1) (v := _) rfl (by kernel_rfl) (by kernel_rfl) (by kernel_rfl) (by kernel_rfl) (fun _ _ _ h => h) (by kernel_rfl) hS ?_ ?_
      rotate_left 1
      · intro Wv hW
        replace k0 := cell_of_ans hW k0
        replace k1 := cell_of_ans hW k1
        replace k2 := cell_of_ans hW k2
        replace k3 := cell_of_ans hW k3
        replace k4 := cell_of_ans hW k4
        replace zk := cell_of_ans hW zk
        go_simp
        first | done | with_reducible rfl | omega
      try simp only [Act.put, List.setIfInBounds_toArray, List.set_cons_zero, List.set_cons_succ]
      refine' T_take (i := 2) (v := _) rfl (by kernel_rfl) (by kernel_rfl) (by kernel_rfl) (by kernel_rfl) (fun _ _ _ h => h) (by kernel_rfl) hS ?_ ?_
      rotate_left 1
      · intro Wv hW
        replace k0 := cell_of_ans hW k0
        replace k1 := cell_of_ans hW k1
        replace k2 := cell_of_ans hW k2
        replace k3 := cell_of_ans hW k3
        replace k4 := cell_of_ans hW k4
        replace zk := cell_of_ans hW zk
        go_simp
        first | done | with_reducible rfl | omega
      try simp only [Act.put, List.setIfInBounds_toArray, List.set_cons_zero, List.set_cons_succ]
      refine T_ready (rs := [3]) (by kernel_rfl) (by simp) ?_
      refine TReady.cons rfl (fun K hK => ?_) TReady.nil
      try go_simp
      refine (HOK.out _).mono ?_
      rintro e v1 ⟨oA, oc, rfl, ho, hb⟩
      have hS2 : Below w2.heap.size w2 v1 := below_cat hb hS
      obtain ⟨ho1, ho2, ho3⟩ := isInts_parts (ownsRow_isInts ho)
      have HI := Lib.hid ho3
      clear ho ho3
      try go_simp
      refine hK.out _ _ (fun _ => hS2) (fun _ => ?_)
      clear hK K hS hb
      replace hS := hS2
      clear hS2
      try simp only [Act.put, List.setIfInBounds_toArray, List.set_cons_zero, List.set_cons_succ]
      refine T_ready (rs := [4]) (by kernel_rfl) (by simp) ?_
      refine TReady.cons rfl (fun K hK => ?_) TReady.nil
      try go_simp
      refine (HKK.out _ _ _ HI.out ⟨ho1, ho2⟩).mono ?_
      rintro e v2 ⟨rfl, hb⟩
      have hS2 : Below w2.heap.size w2 v2 := below_cat hb hS
      try go_simp
      refine hK.out _ _ (fun _ => hS2) (fun _ => ?_)
      clear hK K hS hb
      replace hS := hS2
      clear hS2
      try simp only [Act.put, List.setIfInBounds_toArray, List.set_cons_zero, List.set_cons_succ]
      refine' T_take (i := 5) (v := _) rfl (by kernel_rfl) (by kernel_rfl) (by kernel_rfl) (by kernel_rfl) (fun _ _ _ h => h) (by kernel_rfl) hS ?_ ?_
      rotate_left 1
      · intro Wv hW
        replace k0 := cell_of_ans hW k0
        replace k1 := cell_of_ans hW k1
        replace k2 := cell_of_ans hW k2
        replace k3 := cell_of_ans hW k3
        replace k4 := cell_of_ans hW k4
        replace zk := cell_of_ans hW zk
        go_simp
        first | done | with_reducible rfl | omega
      try simp only [Act.put, List.setIfInBounds_toArray, List.set_cons_zero, List.set_cons_succ]
      refine' T_take (i := 6) (v := _) rfl (by kernel_rfl) (by kernel_rfl) (by kernel_rfl) (by kernel_rfl) (fun _ _ _ h => h) (by kernel_rfl) hS ?_ ?_
      rotate_left 1
      · intro Wv hW
        replace k0 := cell_of_ans hW k0
        replace k1 := cell_of_ans hW k1
        replace k2 := cell_of_ans hW k2
        replace k3 := cell_of_ans hW k3
        replace k4 := cell_of_ans hW k4
        replace zk := cell_of_ans hW zk
        go_simp
        first | done | with_reducible rfl | omega
      try simp only [Act.put, List.setIfInBounds_toArray, List.set_cons_zero, List.set_cons_succ]
      refine' T_take (i := 7) (v := _) rfl (by kernel_rfl) (by kernel_rfl) (by kernel_rfl) (by kernel_rfl) (fun _ _ _ h => h) (by kernel_rfl) hS ?_ ?_
      rotate_left 1
      · intro Wv hW
        replace k0 := cell_of_ans hW k0
        replace k1 := cell_of_ans hW k1
        replace k2 := cell_of_ans hW k2
        replace k3 := cell_of_ans hW k3
        replace k4 := cell_of_ans hW k4
        replace zk := cell_of_ans hW zk
        go_simp
        first | done | with_reducible rfl | omega
      try simp only [Act.put, List.setIfInBounds_toArray, List.set_cons_zero, List.set_cons_succ]
      refine' T_take (i := 8) (v := _) rfl (by kernel_rfl) (by kernel_rfl) (by kernel_rfl) (by kernel_rfl) (fun _ _ _ h => h) (by kernel_rfl) hS ?_ ?_
      rotate_left 1
      · intro Wv hW
        replace k0 := cell_of_ans hW k0
        replace k1 := cell_of_ans hW k1
        replace k2 := cell_of_ans hW k2
        replace k3 := cell_of_ans hW k3
        replace k4 := cell_of_ans hW k4
        replace zk := cell_of_ans hW zk
        go_simp
        first | done | with_reducible rfl | omega
      try simp only [Act.put, List.setIfInBounds_toArray, List.set_cons_zero, List.set_cons_succ]
      refine T_ready (rs := [9]) (by kernel_rfl) (by simp) ?_
      refine TReady.cons rfl (fun K hK => ?_) TReady.nil
      have zk2 := cell_of_ans hS zk
      obtain ⟨e2, HCN⟩ := HCI.out _ (H5.out.step hS)
      have HCN2 := Lib.hid HCN
      clear HCN
      try go_simp
      refine hK.out _ _ (fun h => absurd h (by decide)) (fun _ => ?_)
      clear hK K
      try simp only [Act.put, List.setIfInBounds_toArray, List.set_cons_zero, List.set_cons_succ]
      refine T_done (by kernel_rfl) ?_ _
      refine NoPanic.normal ?_
      try go_simp
      have HG2 : Hid (x11.grownBy v2 (some q)) := HG.out.trans (only_below hS _)
      clear hS
      go_wp2_with fail
      go_roundw
      case rel => exact ⟨k + 1, by omega, by go_num, HCN2.out, HG2.out.trans (only_setCell (World.grownBy.refl _ _) (.inl rfl) _)⟩
      case measure => simp [intOf]; omega
    · obtain rfl : k = m := by omega
      have h1i : ¬ (k : Int) < (k : Int) := by omega
      obtain ⟨⟨z0, z1, z2, z3, z4⟩, -, -⟩ := H5.out.cells
      have ne := ne75 (cenI k 0) (cenI k 1) (cenI k 2) (cenI k 3) (cenI k 4)
      skip
      replace HL : Hid (Lks w2.heap.size w2 A r.links) := (HL0.out.below HBR.out).more HBR.out.size
      replace HX : Hid (Ints w2.heap.size w2 xA xs) := (HX0.out.below HBR.out).more HBR.out.size
      generalize cenI k 0 = n0 at *
      generalize cenI k 1 = n1 at *
      generalize cenI k 2 = n2 at *
      generalize cenI k 3 = n3 at *
      generalize cenI k 4 = n4 at *
      clear HOF HG
      have HB := HBR
      clear HBR
      rcases hpe0 with he | he
      · obtain ⟨hxe, hkv, hs10⟩ := HKV.out he
        rw [he] at HPN
        skip
        simp only [he, hkv]
        have HK5 := Lib.hid (fun (W : World) h1 => (show Calls Try.prog 41 #[.agg #[.int .i64 r.rows, .int .i64 r.mid, .int .i64 r.gap, .int .i64 r.reach, .slice A r.links.length c], .slice xA xs.length cx] W (Ans W (.int .u8 (kindS (pinS r xs) : Int))) from by have h := HK4.out (pinS r xs) xA cx W hs10 (by rw [← hxe]; exact h1) (by rw [← hxe]; exact hcx); rwa [← hxe] at h))
        clear hxe hkv he HKV HKW HK4
        generalize kindS (pinS r xs) = kd at *
        have hkk : ((kd : Int) == (kd : Int)) = true := by simp
        go_wp2_with fail
        refine (HPN.out _ HL.out HX.out).mono ?_
        rintro e y1 ⟨rfl, hb⟩
        replace k0 := cell_of_ans hb k0
        replace k1 := cell_of_ans hb k1
        replace k2 := cell_of_ans hb k2
        replace k3 := cell_of_ans hb k3
        replace k4 := cell_of_ans hb k4
        replace HL := Lib.hid (HL.out.step hb)
        replace HX := Lib.hid (HX.out.step hb)
        replace HB := Lib.hid (HB.out.trans (hb.mono HB.out.size))
        clear hb
        go_wp2_with fail
        refine (HK5.out _ HX.out).mono ?_
        rintro e y2 ⟨rfl, hb⟩
        replace k0 := cell_of_ans hb k0
        replace k1 := cell_of_ans hb k1
        replace k2 := cell_of_ans hb k2
        replace k3 := cell_of_ans hb k3
        replace k4 := cell_of_ans hb k4
        replace HL := Lib.hid (HL.out.step hb)
        replace HX := Lib.hid (HX.out.step hb)
        replace HB := Lib.hid (HB.out.trans (hb.mono HB.out.size))
        clear hb
        go_wp2_with fail
        refine (awake16_c _).mono ?_
        rintro e y3 ⟨rfl, hb⟩
        replace k0 := cell_of_ans hb k0
        replace k1 := cell_of_ans hb k1
        replace k2 := cell_of_ans hb k2
        replace k3 := cell_of_ans hb k3
        replace k4 := cell_of_ans hb k4
        replace HL := Lib.hid (HL.out.step hb)
        replace HX := Lib.hid (HX.out.step hb)
        replace HB := Lib.hid (HB.out.trans (hb.mono HB.out.size))
        clear hb
        go_wp2_with fail
        go_ret
        exact ⟨rfl, HB.out⟩
      · have hkv := HKW.out he
        simp only [hkv]
        have q1 : (pinErr r xs == 0) = false := by simp [he]
        have q2 : (pinErr r xs != 0) = true := by simp [he]
        have q3 : (pinErr r xs == pinErr r xs) = true := by simp
        clear hkv he HKV HKW HK4
        generalize pinErr r xs = te at *
        go_wp2_with fail
        refine (HPN.out _ HL.out HX.out).mono ?_
        rintro e y1 ⟨rfl, hb⟩
        replace k0 := cell_of_ans hb k0
        replace k1 := cell_of_ans hb k1
        replace k2 := cell_of_ans hb k2
        replace k3 := cell_of_ans hb k3
        replace k4 := cell_of_ans hb k4
        replace HL := Lib.hid (HL.out.step hb)
        replace HX := Lib.hid (HX.out.step hb)
        replace HB := Lib.hid (HB.out.trans (hb.mono HB.out.size))
        clear hb
        go_wp2_with fail
        refine (awake16_c _).mono ?_
        rintro e y3 ⟨rfl, hb⟩
        replace k0 := cell_of_ans hb k0
        replace k1 := cell_of_ans hb k1
        replace k2 := cell_of_ans hb k2
        replace k3 := cell_of_ans hb k3
        replace k4 := cell_of_ans hb k4
        replace HL := Lib.hid (HL.out.step hb)
        replace HX := Lib.hid (HX.out.step hb)
        replace HB := Lib.hid (HB.out.trans (hb.mono HB.out.size))
        clear hb
        go_wp2_with fail
        go_ret
        exact ⟨rfl, HB.out⟩
end Go.Proofs.Ytpekajnjjhibjaa
