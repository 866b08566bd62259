/-
  The walk of the law SeenOrder.
-/
import Derived.Test.YtadjkinpimmhkaaFewerW
import Derived.Test.YtadjkinpimmhkaaNarrow
import Derived.Test.YtadjkinpimmhkaaRegW
import Derived.Test.YtadjkinpimmhkaaLeast
namespace Go.Proofs.Ytadjkinpimmhkaa
open Go.RowKit
set_option linter.unusedSimpArgs false
set_option linter.unusedVariables false

theorem wx_drop {ws : List Wd} {t k : Nat} : wx (ws.drop t) k = wx ws (t + k) := by
  unfold wx
  rw [List.getD_eq_getElem?_getD, List.getD_eq_getElem?_getD, List.getElem?_drop]
theorem wx_take {ws : List Wd} {n k : Nat} (h : k < n) : wx (ws.take n) k = wx ws k := by
  unfold wx
  rw [List.getD_eq_getElem?_getD, List.getD_eq_getElem?_getD, List.getElem?_take, if_pos h]
theorem wds_drop {B b off t : Nat} {w : World} {ws : List Wd} (h : Wds B w (some ⟨b, off, none⟩) ws) : Wds B w (some ⟨b, off + t * 5, none⟩) (ws.drop t) := fun hp => by
  rw [List.length_drop] at hp
  obtain ⟨b', off', e, hb, hc⟩ := h (by omega)
  injection e with e
  injection e with e1 e2
  subst e1 e2
  refine ⟨b, off + t * 5, rfl, hb, fun k hk => ?_⟩
  rw [List.length_drop] at hk
  have h1 := hc (t + k) (by omega)
  rw [wx_drop, show off + t * 5 + k * 5 = off + (t + k) * 5 by omega]
  exact h1
theorem wds_take {B n : Nat} {w : World} {A : Option Addr} {ws : List Wd} (h : Wds B w A ws) : Wds B w A (ws.take n) := fun hp => by
  rw [List.length_take] at hp
  obtain ⟨b, off, e, hb, hc⟩ := h (by omega)
  refine ⟨b, off, e, hb, fun k hk => ?_⟩
  rw [List.length_take] at hk
  rw [wx_take (by omega)]
  exact hc k (by omega)
theorem order_mem {ws : List Wd} {t : Nat} (x : Wd) : x ∈ ws.drop t ++ ws.take (t + 1) ↔ x ∈ ws := by
  rw [List.mem_append]
  constructor
  · rintro (h | h)
    · exact List.mem_of_mem_drop h
    · exact List.mem_of_mem_take h
  · intro h
    rw [← List.take_append_drop t ws] at h
    rcases List.mem_append.1 h with h | h
    · refine .inr ?_
      rw [List.take_add]
      exact List.mem_append_left _ h
    · exact .inl h
def BelO (y w : World) : Prop := Below y.heap.size y w

set_option maxRecDepth 100000 in
set_option maxHeartbeats 32000000 in
theorem seenOrder_c (A : Option Addr) (ws : List Wd) (c : Nat) (frn : Int) (bi pl : Nat) (w : World) (hw : Wds w.heap.size w A ws) (hc : ws.length ≤ c ∧ c ≤ 9223372036854775807) (hbi : bi < 256) (hpl : pl < 256) :
    Calls Try.prog 13 #[.agg #[.int .i64 frn, .slice A ws.length c], .int .u8 (bi : Int), .int .u8 (pl : Int)] w (Ans w (.bool true)) := by
  have hb0 : Below w.heap.size w (w.alloc (.cells #[.int .i64 frn, .slice A ws.length c] 24)) := (Below.refl _ _).alloc (Nat.le_refl _) _
  have k0 : (w.alloc (.cells #[.int .i64 frn, .slice A ws.length c] 24)).cell? ⟨w.heap.size, 0, none⟩ = some (.int .i64 frn) := by simp
  have k1 : (w.alloc (.cells #[.int .i64 frn, .slice A ws.length c] 24)).cell? ⟨w.heap.size, 1, none⟩ = some (.slice A ws.length c) := by simp
  have HB := Lib.hid hb0
  have HW := Lib.hid (hw.step hb0)
  have HWK := Lib.hid wakes_c
  clear hb0 hw
  go_enter Try.func13, Try.ntmps13
  go_wp2_with fail
  generalize (w.alloc (.cells #[.int .i64 frn, .slice A ws.length c] 24)) = W0 at *
  have HRd := Lib.hid (ready_c A ws c frn W0 HW.out hc)
  cases hrd : decide (laneErr frn ws = 0)
  · rw [hrd] at HRd
    clear hrd
    refine (HRd.out).mono ?_
    rintro e y1 ⟨rfl, hb⟩
    replace HW := Lib.hid (HW.out.step hb)
    replace k0 := cell_of_ans hb k0
    replace k1 := cell_of_ans hb k1
    replace HB := Lib.hid (HB.out.trans (hb.mono HB.out.size))
    clear hb
    go_wp2_with fail
    refine (HWK.out _).mono ?_
    rintro e y2 ⟨rfl, hb⟩
    replace HW := Lib.hid (HW.out.step hb)
    replace k0 := cell_of_ans hb k0
    replace k1 := cell_of_ans hb k1
    replace HB := Lib.hid (HB.out.trans (hb.mono HB.out.size))
    clear hb
    go_wp2_with fail
    go_ret
    exact ⟨rfl, HB.out⟩
  · rw [hrd] at HRd
    have hle : laneErr frn ws = 0 := of_decide_eq_true hrd
    obtain ⟨h30, hf1, hf5, hok⟩ := laneOk hle
    obtain ⟨m, rfl⟩ : ∃ m : Nat, frn = (m : Int) := ⟨frn.toNat, by omega⟩
    have HLE := Lib.hid hle
    have HOK := Lib.hid hok
    have hm5 : m ≤ 5 := by omega
    have hm1 : 1 ≤ m := by omega
    clear hrd hle hok
    refine (HRd.out).mono ?_
    rintro e y3 ⟨rfl, hb⟩
    replace HW := Lib.hid (HW.out.step hb)
    replace k0 := cell_of_ans hb k0
    replace k1 := cell_of_ans hb k1
    replace HB := Lib.hid (HB.out.trans (hb.mono HB.out.size))
    clear hb
    by_cases h0 : ws.length = 0
    · have h0b : ((ws.length : Int) == 0) = true := by simp [h0]
      have HH0 := Lib.hid h0
      clear h0
      go_wp2_with fail
      refine (HWK.out _).mono ?_
      rintro e y4 ⟨rfl, hb⟩
      replace HW := Lib.hid (HW.out.step hb)
      replace k0 := cell_of_ans hb k0
      replace k1 := cell_of_ans hb k1
      replace HB := Lib.hid (HB.out.trans (hb.mono HB.out.size))
      clear hb
      go_wp2_with fail
      go_ret
      exact ⟨rfl, HB.out⟩
    have h0b : ((ws.length : Int) == 0) = false := beq_eq_false_iff_ne.2 (by omega)
    by_cases h29 : (ws.length : Int) > 29
    · go_wp2_with fail
      refine (HWK.out _).mono ?_
      rintro e y5 ⟨rfl, hb⟩
      replace HW := Lib.hid (HW.out.step hb)
      replace k0 := cell_of_ans hb k0
      replace k1 := cell_of_ans hb k1
      replace HB := Lib.hid (HB.out.trans (hb.mono HB.out.size))
      clear hb
      go_wp2_with fail
      go_ret
      exact ⟨rfl, HB.out⟩
    have h29b : decide ((29 : Int) < (ws.length : Int)) = false := decide_eq_false (by omega)
    have hrp : 0 < (ws.length : Int) := by omega
    have hrpn : 0 < ws.length := by omega
    have hk1 := Int.emod_nonneg (pl : Int) (b := (ws.length : Int)) (by omega)
    have hk2 := Int.emod_lt_of_pos (pl : Int) (b := (ws.length : Int)) (by omega)
    obtain ⟨kk, hkk⟩ : ∃ kk : Nat, (pl : Int) % (ws.length : Int) = (kk : Int) := ⟨((pl : Int) % (ws.length : Int)).toNat, by omega⟩
    have hkr : (kk : Int) < (ws.length : Int) := by omega
    have hkrn : kk < ws.length := by omega
    have hzn : ¬ ((ws.length : Int) = 0) := by omega
    clear hk1 hk2
    go_upto_region 4 with fail
    rw [hkk]
    obtain ⟨zs, hzs⟩ : ∃ zs : List Wd, zs = ws.drop kk ++ ws.take (kk + 1) := ⟨_, rfl⟩
    have HZS := Lib.hid hzs
    have HMEM : Hid (∀ x, x ∈ ws ↔ x ∈ zs) := fun x => by rw [hzs]; exact (order_mem x).symm
    have hzl0 : zs.length = ws.length - kk + (kk + 1) := by rw [hzs, List.length_append, List.length_drop, List.length_take]; omega
    have HZL := Lib.hid hzl0
    have HLZ : Hid (laneErr (m : Int) zs = 0) := lane_mk hm1 hm5 (by omega) fun x hx => lane_word HLE.out x ((HMEM.out x).2 hx)
    have HEX : Hid (explB (m : Int) zs = explB (m : Int) ws) := expl_eq fun x => (HMEM.out x).symm
    have hzl : zs.length ≤ 1000000 := by omega
    obtain ⟨bq, oq, hA, -, -⟩ := HW.out hrpn
    subst hA
    have hcd : ¬ (c = kk) := by omega
    have hcd2 : ¬ ((c : Int) = (kk : Int)) := by omega
    have hkc : kk ≤ c := by omega
    have hkl : kk ≤ ws.length := by omega
    have hkc1 : kk + 1 ≤ c := by omega
    have hki1 : 0 ≤ (kk : Int) + 1 := by omega
    have hki2 : (kk : Int) + 1 ≤ (c : Int) := by omega
    have hkw : IntKind.i64.wrap ((kk : Int) + 1) = (kk : Int) + 1 := IntWalk.i64_in _ (by omega)
    obtain ⟨ds, hds⟩ : ∃ ds : List Wd, ds = ws.drop kk := ⟨_, rfl⟩
    obtain ⟨tks, htks⟩ : ∃ tks : List Wd, tks = ws.take (kk + 1) := ⟨_, rfl⟩
    have HDS := Lib.hid hds
    have HTK := Lib.hid htks
    have HDL : Hid (ds.length = ws.length - kk) := by show _ = _; rw [hds, List.length_drop]
    have HTKL : Hid (tks.length = kk + 1) := by show _ = _; rw [htks, List.length_take]; omega
    rw [← hds, ← htks] at HZS
    clear hzs hzl0 hkk hds htks
    generalize hwr : y3 = wr at HW k0 k1 HB ⊢
    clear hwr
    go_cut [8] (fun s8 wx => ∃ gq : Nat, s8 = .pointer (some ⟨gq, 0, none⟩) ∧ LaneAt wx.heap.size wx gq (m : Int) zs ∧ Below wr.heap.size wr wx)
    case first =>
      try clear HB
      try clear HOK
      try clear HLE
      try clear HWK
      try clear HMEM
      try clear HLZ
      try clear HEX
      refine wp_region_noPanic ?_
      have hS : (fun w' : World => Below wr.heap.size wr w') wr.drew := (Below.refl _ _).drew
      refine wp_region_any (by kernel_rfl) (wpAny_of_T (S := fun w' : World => Below wr.heap.size wr w') (m := 17) _ _ _ _ ?_)
      have HL : Hid (LSt wr wr.drew none none none) := LSt.start hS
      change wpAnyT _ _ _ _ _ _ _ _ _ wr.drew
      generalize hwv0 : wr.drew = wv0 at *
      clear hwv0
      refine' T_take (i := 0) (v := _) rfl (by kernel_rfl) (by kernel_rfl) (by kernel_rfl) (by kernel_rfl) (fun _ _ _ h => h) (by rfl) hS ?_ ?_
      rotate_left 1
      · intro Wv hW
        have l0 := cell_of_ans hW k0
        have l1 := cell_of_ans hW k1
        go_simp
        first | done | with_reducible rfl
      try simp only [Act.put, List.setIfInBounds_toArray, List.set_cons_zero, List.set_cons_succ]
      refine' T_take (i := 1) (v := _) rfl (by kernel_rfl) (by kernel_rfl) (by kernel_rfl) (by kernel_rfl) (fun _ _ _ h => h) (by rfl) hS ?_ ?_
      rotate_left 1
      · intro Wv hW
        have l0 := cell_of_ans hW k0
        have l1 := cell_of_ans hW k1
        go_simp
        first | done | with_reducible rfl
      try simp only [Act.put, List.setIfInBounds_toArray, List.set_cons_zero, List.set_cons_succ]
      refine' T_take (i := 3) (v := _) rfl (by kernel_rfl) (by kernel_rfl) (by kernel_rfl) (by kernel_rfl) (fun _ _ _ h => h) (by rfl) hS ?_ ?_
      rotate_left 1
      · intro Wv hW
        have l0 := cell_of_ans hW k0
        have l1 := cell_of_ans hW k1
        go_simp
        first | done | with_reducible rfl
      try simp only [Act.put, List.setIfInBounds_toArray, List.set_cons_zero, List.set_cons_succ]
      refine' T_take (i := 4) (v := _) rfl (by kernel_rfl) (by kernel_rfl) (by kernel_rfl) (by kernel_rfl) (fun _ _ _ h => h) (by rfl) hS ?_ ?_
      rotate_left 1
      · intro Wv hW
        have l0 := cell_of_ans hW k0
        have l1 := cell_of_ans hW k1
        go_simp
        first | done | with_reducible rfl
      try simp only [Act.put, List.setIfInBounds_toArray, List.set_cons_zero, List.set_cons_succ]
      refine' T_take (i := 5) (v := _) rfl (by kernel_rfl) (by kernel_rfl) (by kernel_rfl) (by kernel_rfl) (fun _ _ _ h => h) (by rfl) hS ?_ ?_
      rotate_left 1
      · intro Wv hW
        have l0 := cell_of_ans hW k0
        have l1 := cell_of_ans hW k1
        go_simp
        first | done | with_reducible rfl
      try simp only [Act.put, List.setIfInBounds_toArray, List.set_cons_zero, List.set_cons_succ]
      refine' T_take (i := 6) (v := _) rfl (by kernel_rfl) (by kernel_rfl) (by kernel_rfl) (by kernel_rfl) (fun _ _ _ h => h) (by rfl) hS ?_ ?_
      rotate_left 1
      · intro Wv hW
        have l0 := cell_of_ans hW k0
        have l1 := cell_of_ans hW k1
        go_simp
        first | done | with_reducible rfl
      try simp only [Act.put, List.setIfInBounds_toArray, List.set_cons_zero, List.set_cons_succ]
      refine' T_take (i := 8) (v := _) rfl (by kernel_rfl) (by kernel_rfl) (by kernel_rfl) (by kernel_rfl) (fun _ _ _ h => h) (by rfl) hS ?_ ?_
      rotate_left 1
      · intro Wv hW
        have l0 := cell_of_ans hW k0
        have l1 := cell_of_ans hW k1
        go_simp
        first | done | with_reducible rfl
      try simp only [Act.put, List.setIfInBounds_toArray, List.set_cons_zero, List.set_cons_succ]
      refine' T_take (i := 9) (v := _) rfl (by kernel_rfl) (by kernel_rfl) (by kernel_rfl) (by kernel_rfl) (fun _ _ _ h => h) (by rfl) hS ?_ ?_
      rotate_left 1
      · intro Wv hW
        have l0 := cell_of_ans hW k0
        have l1 := cell_of_ans hW k1
        go_simp
        first | done | with_reducible rfl
      try simp only [Act.put, List.setIfInBounds_toArray, List.set_cons_zero, List.set_cons_succ]
      refine' T_take (i := 10) (v := _) rfl (by kernel_rfl) (by kernel_rfl) (by kernel_rfl) (by kernel_rfl) (fun _ _ _ h => h) (by rfl) hS ?_ ?_
      rotate_left 1
      · intro Wv hW
        have l0 := cell_of_ans hW k0
        have l1 := cell_of_ans hW k1
        go_simp
        first | done | with_reducible rfl
      try simp only [Act.put, List.setIfInBounds_toArray, List.set_cons_zero, List.set_cons_succ]
      refine' T_take (i := 11) (v := _) rfl (by kernel_rfl) (by kernel_rfl) (by kernel_rfl) (by kernel_rfl) (fun _ _ _ h => h) (by rfl) hS ?_ ?_
      rotate_left 1
      · intro Wv hW
        have l0 := cell_of_ans hW k0
        have l1 := cell_of_ans hW k1
        go_simp
        first | done | with_reducible rfl
      try simp only [Act.put, List.setIfInBounds_toArray, List.set_cons_zero, List.set_cons_succ]
      refine' T_take (i := 12) (v := _) rfl (by kernel_rfl) (by kernel_rfl) (by kernel_rfl) (by kernel_rfl) (fun _ _ _ h => h) (by rfl) hS ?_ ?_
      rotate_left 1
      · intro Wv hW
        have l0 := cell_of_ans hW k0
        have l1 := cell_of_ans hW k1
        go_simp
        first | done | with_reducible rfl
      try simp only [Act.put, List.setIfInBounds_toArray, List.set_cons_zero, List.set_cons_succ]
      refine T_ready (rs := [2, 15]) (by kernel_rfl) (by simp) ?_
      refine TReady.cons rfl (fun K hK => ?_) (TReady.cons rfl (fun K hK => ?_) TReady.nil)
      · try go_simp
        replace HL := Lib.hid HL.out.allocE
        refine hK.out _ _ (fun _ => HL.out.b) (fun hS => ?_)
        replace hS := hS (by decide)
        clear hK K
        try simp only [Act.put, List.setIfInBounds_toArray, List.set_cons_zero, List.set_cons_succ]
        generalize hwv1 : (wv0).alloc (.cells #[] 56) = wv1 at *
        generalize hwq1 : (wv0).heap.size = wq1 at *
        clear hwv1 hwq1
        refine T_ready (rs := [7, 15]) (by kernel_rfl) (by simp) ?_
        refine TReady.cons rfl (fun K hK => ?_) (TReady.cons rfl (fun K hK => ?_) TReady.nil)
        · refine step_words (.tmp 46) (.tmp 50) rfl rfl wr _ _ [] ds ds _ _ (some ⟨bq, oq + kk * 5, none⟩) (ws.length - kk) (c - kk) HDL.out.symm (by simp) rfl rfl HL (by have h9 := Wds.src (wds_drop (t := kk) (HW.out.step HL.out.b)); rw [← HDS.out, HDL.out] at h9; exact h9) (by decide) (by rw [HDL.out]; omega) ?_
          intro Aw2 cw2 wv2 HL2
          clear HL
          have HL := HL2
          clear HL2
          refine hK.out _ _ (fun _ => HL.out.b) (fun hS => ?_)
          replace hS := hS (by decide)
          clear hK K
          try simp only [Act.put, List.setIfInBounds_toArray, List.set_cons_zero, List.set_cons_succ]
          refine T_ready (rs := [13, 15]) (by kernel_rfl) (by simp) ?_
          refine TReady.cons rfl (fun K hK => ?_) (TReady.cons rfl (fun K hK => ?_) TReady.nil)
          · refine step_words (.tmp 51) (.tmp 56) rfl rfl wr _ _ ds tks zs _ _ (some ⟨bq, oq, none⟩) (kk + 1) c HTKL.out.symm HZS.out rfl rfl HL (by have h9 := Wds.src (wds_take (n := kk + 1) (HW.out.step HL.out.b)); rw [← HTK.out, HTKL.out] at h9; exact h9) (by rw [HDL.out]; omega) (by rw [HTKL.out]; omega) ?_
            intro Aw3 cw3 wv3 HL2
            clear HL
            have HL := HL2
            clear HL2
            refine hK.out _ _ (fun _ => HL.out.b) (fun hS => ?_)
            replace hS := hS (by decide)
            clear hK K
            try simp only [Act.put, List.setIfInBounds_toArray, List.set_cons_zero, List.set_cons_succ]
            refine' T_take (i := 14) (v := _) rfl (by kernel_rfl) (by kernel_rfl) (by kernel_rfl) (by kernel_rfl) (fun _ _ _ h => h) (by rfl) hS ?_ ?_
            rotate_left 1
            · intro Wv hW
              have l0 := cell_of_ans hW k0
              have l1 := cell_of_ans hW k1
              go_simp
              first | done | with_reducible rfl
            try simp only [Act.put, List.setIfInBounds_toArray, List.set_cons_zero, List.set_cons_succ]
            refine T_ready (rs := [15]) (by kernel_rfl) (by simp) ?_
            refine TReady.cons rfl (fun K hK => ?_) TReady.nil
            try go_simp
            replace HL := Lib.hid HL.out.allocG
            refine hK.out _ _ (fun _ => HL.out.b) (fun hS => ?_)
            replace hS := hS (by decide)
            clear hK K
            try simp only [Act.put, List.setIfInBounds_toArray, List.set_cons_zero, List.set_cons_succ]
            generalize hwv4 : (wv3).alloc (.cells #[.int .i64 0, .slice none 0 0] 24) = wv4 at *
            generalize hwq4 : (wv3).heap.size = wq4 at *
            clear hwv4 hwq4
            refine T_ready (rs := [16]) (by kernel_rfl) (by simp) ?_
            refine TReady.cons rfl (fun K hK => ?_) TReady.nil
            have z9 := HL.out.cells
            have z0 := z9.1
            have z1 := z9.2.1
            have z2 := z9.2.2.1
            have z3 := z9.2.2.2
            clear z9
            try go_simp
            have z9 := HL.out.fin (m : Int) rfl
            have HLA := z9.1
            have HBB := z9.2
            clear z9
            refine hK.out _ _ (fun _ => HBB) (fun hS => ?_)
            clear hK K hS
            try simp only [Act.put, List.setIfInBounds_toArray, List.set_cons_zero, List.set_cons_succ]
            refine T_done (by kernel_rfl) ?_ _
            refine NoPanic.normal ?_
            go_wp2_with fail
            go_meet
            exact ⟨_, rfl, HLA, HBB⟩
          · try go_simp
            replace HL := Lib.hid HL.out.allocG
            refine hK.out _ _ (fun _ => HL.out.b) (fun hS => ?_)
            replace hS := hS (by decide)
            clear hK K
            try simp only [Act.put, List.setIfInBounds_toArray, List.set_cons_zero, List.set_cons_succ]
            generalize hwv6 : (wv2).alloc (.cells #[.int .i64 0, .slice none 0 0] 24) = wv6 at *
            generalize hwq6 : (wv2).heap.size = wq6 at *
            clear hwv6 hwq6
            refine T_ready (rs := [13]) (by kernel_rfl) (by simp) ?_
            refine TReady.cons rfl (fun K hK => ?_) TReady.nil
            refine step_words (.tmp 51) (.tmp 56) rfl rfl wr _ _ ds tks zs _ _ (some ⟨bq, oq, none⟩) (kk + 1) c HTKL.out.symm HZS.out rfl rfl HL (by have h9 := Wds.src (wds_take (n := kk + 1) (HW.out.step HL.out.b)); rw [← HTK.out, HTKL.out] at h9; exact h9) (by rw [HDL.out]; omega) (by rw [HTKL.out]; omega) ?_
            intro Aw7 cw7 wv7 HL2
            clear HL
            have HL := HL2
            clear HL2
            refine hK.out _ _ (fun _ => HL.out.b) (fun hS => ?_)
            replace hS := hS (by decide)
            clear hK K
            try simp only [Act.put, List.setIfInBounds_toArray, List.set_cons_zero, List.set_cons_succ]
            refine' T_take (i := 14) (v := _) rfl (by kernel_rfl) (by kernel_rfl) (by kernel_rfl) (by kernel_rfl) (fun _ _ _ h => h) (by rfl) hS ?_ ?_
            rotate_left 1
            · intro Wv hW
              have l0 := cell_of_ans hW k0
              have l1 := cell_of_ans hW k1
              go_simp
              first | done | with_reducible rfl
            try simp only [Act.put, List.setIfInBounds_toArray, List.set_cons_zero, List.set_cons_succ]
            refine T_ready (rs := [16]) (by kernel_rfl) (by simp) ?_
            refine TReady.cons rfl (fun K hK => ?_) TReady.nil
            have z9 := HL.out.cells
            have z0 := z9.1
            have z1 := z9.2.1
            have z2 := z9.2.2.1
            have z3 := z9.2.2.2
            clear z9
            try go_simp
            have z9 := HL.out.fin (m : Int) rfl
            have HLA := z9.1
            have HBB := z9.2
            clear z9
            refine hK.out _ _ (fun _ => HBB) (fun hS => ?_)
            clear hK K hS
            try simp only [Act.put, List.setIfInBounds_toArray, List.set_cons_zero, List.set_cons_succ]
            refine T_done (by kernel_rfl) ?_ _
            refine NoPanic.normal ?_
            go_wp2_with fail
            go_meet
            exact ⟨_, rfl, HLA, HBB⟩
        · try go_simp
          replace HL := Lib.hid HL.out.allocG
          refine hK.out _ _ (fun _ => HL.out.b) (fun hS => ?_)
          replace hS := hS (by decide)
          clear hK K
          try simp only [Act.put, List.setIfInBounds_toArray, List.set_cons_zero, List.set_cons_succ]
          generalize hwv9 : (wv1).alloc (.cells #[.int .i64 0, .slice none 0 0] 24) = wv9 at *
          generalize hwq9 : (wv1).heap.size = wq9 at *
          clear hwv9 hwq9
          refine T_ready (rs := [7]) (by kernel_rfl) (by simp) ?_
          refine TReady.cons rfl (fun K hK => ?_) TReady.nil
          refine step_words (.tmp 46) (.tmp 50) rfl rfl wr _ _ [] ds ds _ _ (some ⟨bq, oq + kk * 5, none⟩) (ws.length - kk) (c - kk) HDL.out.symm (by simp) rfl rfl HL (by have h9 := Wds.src (wds_drop (t := kk) (HW.out.step HL.out.b)); rw [← HDS.out, HDL.out] at h9; exact h9) (by decide) (by rw [HDL.out]; omega) ?_
          intro Aw10 cw10 wv10 HL2
          clear HL
          have HL := HL2
          clear HL2
          refine hK.out _ _ (fun _ => HL.out.b) (fun hS => ?_)
          replace hS := hS (by decide)
          clear hK K
          try simp only [Act.put, List.setIfInBounds_toArray, List.set_cons_zero, List.set_cons_succ]
          refine T_ready (rs := [13]) (by kernel_rfl) (by simp) ?_
          refine TReady.cons rfl (fun K hK => ?_) TReady.nil
          refine step_words (.tmp 51) (.tmp 56) rfl rfl wr _ _ ds tks zs _ _ (some ⟨bq, oq, none⟩) (kk + 1) c HTKL.out.symm HZS.out rfl rfl HL (by have h9 := Wds.src (wds_take (n := kk + 1) (HW.out.step HL.out.b)); rw [← HTK.out, HTKL.out] at h9; exact h9) (by rw [HDL.out]; omega) (by rw [HTKL.out]; omega) ?_
          intro Aw11 cw11 wv11 HL2
          clear HL
          have HL := HL2
          clear HL2
          refine hK.out _ _ (fun _ => HL.out.b) (fun hS => ?_)
          replace hS := hS (by decide)
          clear hK K
          try simp only [Act.put, List.setIfInBounds_toArray, List.set_cons_zero, List.set_cons_succ]
          refine' T_take (i := 14) (v := _) rfl (by kernel_rfl) (by kernel_rfl) (by kernel_rfl) (by kernel_rfl) (fun _ _ _ h => h) (by rfl) hS ?_ ?_
          rotate_left 1
          · intro Wv hW
            have l0 := cell_of_ans hW k0
            have l1 := cell_of_ans hW k1
            go_simp
            first | done | with_reducible rfl
          try simp only [Act.put, List.setIfInBounds_toArray, List.set_cons_zero, List.set_cons_succ]
          refine T_ready (rs := [16]) (by kernel_rfl) (by simp) ?_
          refine TReady.cons rfl (fun K hK => ?_) TReady.nil
          have z9 := HL.out.cells
          have z0 := z9.1
          have z1 := z9.2.1
          have z2 := z9.2.2.1
          have z3 := z9.2.2.2
          clear z9
          try go_simp
          have z9 := HL.out.fin (m : Int) rfl
          have HLA := z9.1
          have HBB := z9.2
          clear z9
          refine hK.out _ _ (fun _ => HBB) (fun hS => ?_)
          clear hK K hS
          try simp only [Act.put, List.setIfInBounds_toArray, List.set_cons_zero, List.set_cons_succ]
          refine T_done (by kernel_rfl) ?_ _
          refine NoPanic.normal ?_
          go_wp2_with fail
          go_meet
          exact ⟨_, rfl, HLA, HBB⟩
      · try go_simp
        replace HL := Lib.hid HL.out.allocG
        refine hK.out _ _ (fun _ => HL.out.b) (fun hS => ?_)
        replace hS := hS (by decide)
        clear hK K
        try simp only [Act.put, List.setIfInBounds_toArray, List.set_cons_zero, List.set_cons_succ]
        generalize hwv13 : (wv0).alloc (.cells #[.int .i64 0, .slice none 0 0] 24) = wv13 at *
        generalize hwq13 : (wv0).heap.size = wq13 at *
        clear hwv13 hwq13
        refine T_ready (rs := [2]) (by kernel_rfl) (by simp) ?_
        refine TReady.cons rfl (fun K hK => ?_) TReady.nil
        try go_simp
        replace HL := Lib.hid HL.out.allocE
        refine hK.out _ _ (fun _ => HL.out.b) (fun hS => ?_)
        replace hS := hS (by decide)
        clear hK K
        try simp only [Act.put, List.setIfInBounds_toArray, List.set_cons_zero, List.set_cons_succ]
        generalize hwv14 : (wv13).alloc (.cells #[] 56) = wv14 at *
        generalize hwq14 : (wv13).heap.size = wq14 at *
        clear hwv14 hwq14
        refine T_ready (rs := [7]) (by kernel_rfl) (by simp) ?_
        refine TReady.cons rfl (fun K hK => ?_) TReady.nil
        refine step_words (.tmp 46) (.tmp 50) rfl rfl wr _ _ [] ds ds _ _ (some ⟨bq, oq + kk * 5, none⟩) (ws.length - kk) (c - kk) HDL.out.symm (by simp) rfl rfl HL (by have h9 := Wds.src (wds_drop (t := kk) (HW.out.step HL.out.b)); rw [← HDS.out, HDL.out] at h9; exact h9) (by decide) (by rw [HDL.out]; omega) ?_
        intro Aw15 cw15 wv15 HL2
        clear HL
        have HL := HL2
        clear HL2
        refine hK.out _ _ (fun _ => HL.out.b) (fun hS => ?_)
        replace hS := hS (by decide)
        clear hK K
        try simp only [Act.put, List.setIfInBounds_toArray, List.set_cons_zero, List.set_cons_succ]
        refine T_ready (rs := [13]) (by kernel_rfl) (by simp) ?_
        refine TReady.cons rfl (fun K hK => ?_) TReady.nil
        refine step_words (.tmp 51) (.tmp 56) rfl rfl wr _ _ ds tks zs _ _ (some ⟨bq, oq, none⟩) (kk + 1) c HTKL.out.symm HZS.out rfl rfl HL (by have h9 := Wds.src (wds_take (n := kk + 1) (HW.out.step HL.out.b)); rw [← HTK.out, HTKL.out] at h9; exact h9) (by rw [HDL.out]; omega) (by rw [HTKL.out]; omega) ?_
        intro Aw16 cw16 wv16 HL2
        clear HL
        have HL := HL2
        clear HL2
        refine hK.out _ _ (fun _ => HL.out.b) (fun hS => ?_)
        replace hS := hS (by decide)
        clear hK K
        try simp only [Act.put, List.setIfInBounds_toArray, List.set_cons_zero, List.set_cons_succ]
        refine' T_take (i := 14) (v := _) rfl (by kernel_rfl) (by kernel_rfl) (by kernel_rfl) (by kernel_rfl) (fun _ _ _ h => h) (by rfl) hS ?_ ?_
        rotate_left 1
        · intro Wv hW
          have l0 := cell_of_ans hW k0
          have l1 := cell_of_ans hW k1
          go_simp
          first | done | with_reducible rfl
        try simp only [Act.put, List.setIfInBounds_toArray, List.set_cons_zero, List.set_cons_succ]
        refine T_ready (rs := [16]) (by kernel_rfl) (by simp) ?_
        refine TReady.cons rfl (fun K hK => ?_) TReady.nil
        have z9 := HL.out.cells
        have z0 := z9.1
        have z1 := z9.2.1
        have z2 := z9.2.2.1
        have z3 := z9.2.2.2
        clear z9
        try go_simp
        have z9 := HL.out.fin (m : Int) rfl
        have HLA := z9.1
        have HBB := z9.2
        clear z9
        refine hK.out _ _ (fun _ => HBB) (fun hS => ?_)
        clear hK K hS
        try simp only [Act.put, List.setIfInBounds_toArray, List.set_cons_zero, List.set_cons_succ]
        refine T_done (by kernel_rfl) ?_ _
        refine NoPanic.normal ?_
        go_wp2_with fail
        go_meet
        exact ⟨_, rfl, HLA, HBB⟩
    case rest =>
      obtain ⟨gq, rfl, ⟨Az, cz, z0, z1, hcz, hz⟩, hb⟩ := hcut
      obtain ⟨wd, rfl⟩ : ∃ wd : World, wd = wc := ⟨_, rfl⟩
      have HZ := Lib.hid hz
      clear hz
      replace HW := Lib.hid (HW.out.step hb)
      replace k0 := cell_of_ans hb k0
      replace k1 := cell_of_ans hb k1
      replace HB := Lib.hid (HB.out.trans (hb.mono HB.out.size))
      clear hb
      go_wp2_with fail
      refine (chosen_c bi hbi _).mono ?_
      rintro e y6 ⟨AcA, ccA, rfl, hO, hb⟩
      replace HW := Lib.hid (HW.out.step hb)
      replace k0 := cell_of_ans hb k0
      replace k1 := cell_of_ans hb k1
      replace HZ := Lib.hid (HZ.out.step hb)
      replace z0 := cell_of_ans hb z0
      replace z1 := cell_of_ans hb z1
      replace HB := Lib.hid (HB.out.trans (hb.mono HB.out.size))
      clear hb
      obtain ⟨hcA, hccA, hO⟩ := isInts_parts (ownsRow_isInts hO)
      have HCA := Lib.hid hO
      clear hO
      have hlA := chTo_len (bi) 4
      have HRA := Lib.hid (chTo_rise bi)
      have hfl : (chTo bi 4).length ≤ 1000 := by omega
      generalize chTo bi 4 = fa at *
      go_wp2_with fail
      refine (lane_c (some ⟨bq, oq, none⟩) ws c (m : Int) _ HW.out hc (by omega)).mono ?_
      rintro e y8 ⟨Al7, cl7, rfl, hO7, hb⟩
      replace HW := Lib.hid (HW.out.step hb)
      replace k0 := cell_of_ans hb k0
      replace k1 := cell_of_ans hb k1
      replace HZ := Lib.hid (HZ.out.step hb)
      replace z0 := cell_of_ans hb z0
      replace z1 := cell_of_ans hb z1
      replace HCA := Lib.hid (HCA.out.step hb)
      replace HB := Lib.hid (HB.out.trans (hb.mono HB.out.size))
      clear hb
      obtain ⟨hq7, hqq7, hO7⟩ := hO7.wds
      have HL7 := Lib.hid hO7
      clear hO7
      go_wp2_with fail
      refine (list_c AcA fa ccA _ HCA.out (Nat.le_refl _) (by omega)).mono ?_
      rintro e y10 ⟨At9, ct9, rfl, hO9, hb⟩
      replace HW := Lib.hid (HW.out.step hb)
      replace k0 := cell_of_ans hb k0
      replace k1 := cell_of_ans hb k1
      replace HZ := Lib.hid (HZ.out.step hb)
      replace z0 := cell_of_ans hb z0
      replace z1 := cell_of_ans hb z1
      replace HCA := Lib.hid (HCA.out.step hb)
      replace HL7 := Lib.hid (HL7.out.step hb)
      replace HB := Lib.hid (HB.out.trans (hb.mono HB.out.size))
      clear hb
      obtain ⟨hq9, hqq9, hO9⟩ := isInts_parts (ownsRow_isInts hO9)
      have HT9 := Lib.hid hO9
      clear hO9
      go_wp2_with fail
      refine (explains_z (ws := ws) Al7 At9 cl7 ct9 _ HL7.out HT9.out ⟨hq7, hqq7⟩ ⟨hq9, hqq9⟩ HLE.out HRA.out).mono ?_
      rintro e y11 ⟨rfl, hb⟩
      replace HW := Lib.hid (HW.out.step hb)
      replace k0 := cell_of_ans hb k0
      replace k1 := cell_of_ans hb k1
      replace HZ := Lib.hid (HZ.out.step hb)
      replace z0 := cell_of_ans hb z0
      replace z1 := cell_of_ans hb z1
      replace HCA := Lib.hid (HCA.out.step hb)
      replace HL7 := Lib.hid (HL7.out.step hb)
      replace HT9 := Lib.hid (HT9.out.step hb)
      replace HB := Lib.hid (HB.out.trans (hb.mono HB.out.size))
      clear hb
      clear HL7 HT9
      go_wp2_with fail
      refine (lane_c Az zs cz (m : Int) _ HZ.out hcz hzl).mono ?_
      rintro e y13 ⟨Al12, cl12, rfl, hO12, hb⟩
      replace HW := Lib.hid (HW.out.step hb)
      replace k0 := cell_of_ans hb k0
      replace k1 := cell_of_ans hb k1
      replace HZ := Lib.hid (HZ.out.step hb)
      replace z0 := cell_of_ans hb z0
      replace z1 := cell_of_ans hb z1
      replace HCA := Lib.hid (HCA.out.step hb)
      replace HB := Lib.hid (HB.out.trans (hb.mono HB.out.size))
      clear hb
      obtain ⟨hq12, hqq12, hO12⟩ := hO12.wds
      have HL12 := Lib.hid hO12
      clear hO12
      go_wp2_with fail
      refine (list_c AcA fa ccA _ HCA.out (Nat.le_refl _) (by omega)).mono ?_
      rintro e y15 ⟨At14, ct14, rfl, hO14, hb⟩
      replace HW := Lib.hid (HW.out.step hb)
      replace k0 := cell_of_ans hb k0
      replace k1 := cell_of_ans hb k1
      replace HZ := Lib.hid (HZ.out.step hb)
      replace z0 := cell_of_ans hb z0
      replace z1 := cell_of_ans hb z1
      replace HCA := Lib.hid (HCA.out.step hb)
      replace HL12 := Lib.hid (HL12.out.step hb)
      replace HB := Lib.hid (HB.out.trans (hb.mono HB.out.size))
      clear hb
      obtain ⟨hq14, hqq14, hO14⟩ := isInts_parts (ownsRow_isInts hO14)
      have HT14 := Lib.hid hO14
      clear hO14
      go_wp2_with fail
      refine (explains_z (ws := zs) Al12 At14 cl12 ct14 _ HL12.out HT14.out ⟨hq12, hqq12⟩ ⟨hq14, hqq14⟩ HLZ.out HRA.out).mono ?_
      rintro e y16 ⟨rfl, hb⟩
      replace HW := Lib.hid (HW.out.step hb)
      replace k0 := cell_of_ans hb k0
      replace k1 := cell_of_ans hb k1
      replace HZ := Lib.hid (HZ.out.step hb)
      replace z0 := cell_of_ans hb z0
      replace z1 := cell_of_ans hb z1
      replace HCA := Lib.hid (HCA.out.step hb)
      replace HL12 := Lib.hid (HL12.out.step hb)
      replace HT14 := Lib.hid (HT14.out.step hb)
      replace HB := Lib.hid (HB.out.trans (hb.mono HB.out.size))
      clear hb
      clear HL12 HT14
      rw [HEX.out]
      go_wp2_with fail
      refine (lane_c (some ⟨bq, oq, none⟩) ws c (m : Int) _ HW.out hc (by omega)).mono ?_
      rintro e y18 ⟨Al17, cl17, rfl, hO17, hb⟩
      replace HW := Lib.hid (HW.out.step hb)
      replace k0 := cell_of_ans hb k0
      replace k1 := cell_of_ans hb k1
      replace HZ := Lib.hid (HZ.out.step hb)
      replace z0 := cell_of_ans hb z0
      replace z1 := cell_of_ans hb z1
      replace HCA := Lib.hid (HCA.out.step hb)
      replace HB := Lib.hid (HB.out.trans (hb.mono HB.out.size))
      clear hb
      obtain ⟨hq17, hqq17, hO17⟩ := hO17.wds
      have HL17 := Lib.hid hO17
      clear hO17
      go_wp2_with fail
      refine (least_ok Al17 ws cl17 (m : Int) _ HL17.out ⟨hq17, hqq17⟩ HLE.out).mono ?_
      rintro e y19 ⟨AX, cX, rfl, hO, hb⟩
      replace HW := Lib.hid (HW.out.step hb)
      replace k0 := cell_of_ans hb k0
      replace k1 := cell_of_ans hb k1
      replace HZ := Lib.hid (HZ.out.step hb)
      replace z0 := cell_of_ans hb z0
      replace z1 := cell_of_ans hb z1
      replace HCA := Lib.hid (HCA.out.step hb)
      replace HL17 := Lib.hid (HL17.out.step hb)
      replace HB := Lib.hid (HB.out.trans (hb.mono HB.out.size))
      clear hb
      clear HL17
      obtain ⟨hxX1, hxX2, hO⟩ := isInts_parts (ownsRow_isInts hO)
      have HX := Lib.hid hO
      clear hO
      go_wp2_with fail
      refine (lane_c Az zs cz (m : Int) _ HZ.out hcz hzl).mono ?_
      rintro e y21 ⟨Al20, cl20, rfl, hO20, hb⟩
      replace HW := Lib.hid (HW.out.step hb)
      replace k0 := cell_of_ans hb k0
      replace k1 := cell_of_ans hb k1
      replace HZ := Lib.hid (HZ.out.step hb)
      replace z0 := cell_of_ans hb z0
      replace z1 := cell_of_ans hb z1
      replace HCA := Lib.hid (HCA.out.step hb)
      replace HX := Lib.hid (HX.out.step hb)
      replace HB := Lib.hid (HB.out.trans (hb.mono HB.out.size))
      clear hb
      obtain ⟨hq20, hqq20, hO20⟩ := hO20.wds
      have HL20 := Lib.hid hO20
      clear hO20
      have HLQ := Lib.hid (least_ok Al20 zs cl20 (m : Int) _ HL20.out ⟨hq20, hqq20⟩ HLZ.out)
      rw [HEX.out] at HLQ
      go_wp2_with fail
      refine (HLQ.out).mono ?_
      rintro e y22 ⟨AY, cY, rfl, hO, hb⟩
      replace HW := Lib.hid (HW.out.step hb)
      replace k0 := cell_of_ans hb k0
      replace k1 := cell_of_ans hb k1
      replace HZ := Lib.hid (HZ.out.step hb)
      replace z0 := cell_of_ans hb z0
      replace z1 := cell_of_ans hb z1
      replace HCA := Lib.hid (HCA.out.step hb)
      replace HX := Lib.hid (HX.out.step hb)
      replace HL20 := Lib.hid (HL20.out.step hb)
      replace HB := Lib.hid (HB.out.trans (hb.mono HB.out.size))
      clear hb
      clear HL20
      obtain ⟨hxY1, hxY2, hO⟩ := isInts_parts (ownsRow_isInts hO)
      have HY := Lib.hid hO
      clear hO
      go_wp2_with fail
      refine (lane_c (some ⟨bq, oq, none⟩) ws c (m : Int) _ HW.out hc (by omega)).mono ?_
      rintro e y24 ⟨Al23, cl23, rfl, hO23, hb⟩
      replace HW := Lib.hid (HW.out.step hb)
      replace k0 := cell_of_ans hb k0
      replace k1 := cell_of_ans hb k1
      replace HZ := Lib.hid (HZ.out.step hb)
      replace z0 := cell_of_ans hb z0
      replace z1 := cell_of_ans hb z1
      replace HCA := Lib.hid (HCA.out.step hb)
      replace HX := Lib.hid (HX.out.step hb)
      replace HY := Lib.hid (HY.out.step hb)
      replace HB := Lib.hid (HB.out.trans (hb.mono HB.out.size))
      clear hb
      obtain ⟨hq23, hqq23, hO23⟩ := hO23.wds
      have HL23 := Lib.hid hO23
      clear hO23
      go_wp2_with fail
      refine (blame_ok Al23 ws cl23 (m : Int) _ HL23.out ⟨hq23, hqq23⟩ HLE.out).mono ?_
      rintro e y25 ⟨rfl, hb⟩
      replace HW := Lib.hid (HW.out.step hb)
      replace k0 := cell_of_ans hb k0
      replace k1 := cell_of_ans hb k1
      replace HZ := Lib.hid (HZ.out.step hb)
      replace z0 := cell_of_ans hb z0
      replace z1 := cell_of_ans hb z1
      replace HCA := Lib.hid (HCA.out.step hb)
      replace HX := Lib.hid (HX.out.step hb)
      replace HY := Lib.hid (HY.out.step hb)
      replace HL23 := Lib.hid (HL23.out.step hb)
      replace HB := Lib.hid (HB.out.trans (hb.mono HB.out.size))
      clear hb
      clear HL23
      go_wp2_with fail
      refine (lane_c Az zs cz (m : Int) _ HZ.out hcz hzl).mono ?_
      rintro e y27 ⟨Al26, cl26, rfl, hO26, hb⟩
      replace HW := Lib.hid (HW.out.step hb)
      replace k0 := cell_of_ans hb k0
      replace k1 := cell_of_ans hb k1
      replace HZ := Lib.hid (HZ.out.step hb)
      replace z0 := cell_of_ans hb z0
      replace z1 := cell_of_ans hb z1
      replace HCA := Lib.hid (HCA.out.step hb)
      replace HX := Lib.hid (HX.out.step hb)
      replace HY := Lib.hid (HY.out.step hb)
      replace HB := Lib.hid (HB.out.trans (hb.mono HB.out.size))
      clear hb
      obtain ⟨hq26, hqq26, hO26⟩ := hO26.wds
      have HL26 := Lib.hid hO26
      clear hO26
      have HBQ := Lib.hid (blame_ok Al26 zs cl26 (m : Int) _ HL26.out ⟨hq26, hqq26⟩ HLZ.out)
      rw [HEX.out] at HBQ
      go_wp2_with fail
      refine (HBQ.out).mono ?_
      rintro e y28 ⟨rfl, hb⟩
      replace HW := Lib.hid (HW.out.step hb)
      replace k0 := cell_of_ans hb k0
      replace k1 := cell_of_ans hb k1
      replace HZ := Lib.hid (HZ.out.step hb)
      replace z0 := cell_of_ans hb z0
      replace z1 := cell_of_ans hb z1
      replace HCA := Lib.hid (HCA.out.step hb)
      replace HX := Lib.hid (HX.out.step hb)
      replace HY := Lib.hid (HY.out.step hb)
      replace HL26 := Lib.hid (HL26.out.step hb)
      replace HB := Lib.hid (HB.out.trans (hb.mono HB.out.size))
      clear hb
      clear HL26
      skip
      generalize leastL (explB (m : Int) ws) = xs at *
      generalize blameV (explB (m : Int) ws) = bv at *
      generalize blameE (explB (m : Int) ws) = be at *
      have e1 : (bv != bv) = false := bne_self_eq_false _
      have e2 : (be != be) = false := bne_self_eq_false _
      have HXX : Hid (explB (m : Int) ws (offT fa) = true → exErr (m : Int) ws fa = 0) := fun h => ex_zero HLE.out HRA.out h
      have HZZ : Hid (explB (m : Int) ws (offT fa) = true → exErr (m : Int) zs fa = 0) := fun h => ex_zero HLZ.out HRA.out (by rw [HEX.out]; exact h)
      have HN1 : Hid (Nar m ws zs (offT fa)) := nar_sub (fun x hx => (HMEM.out x).2 hx) _
      have HN2 : Hid (Nar m zs ws (offT fa)) := nar_sub (fun x hx => (HMEM.out x).1 hx) _
      cases hxx : explB (m : Int) ws (offT fa)
      · clear hxx HXX HZZ
        go_wp2_with fail
        refine ((ints_c AX AY xs xs cX cY _ HX.out HY.out ⟨hxX1, hxX2⟩ ⟨hxY1, hxY2⟩).mono fun _ _ h => Qt.ans h).mono ?_
        rintro e y29 ⟨rfl, hb⟩
        replace HW := Lib.hid (HW.out.step hb)
        replace k0 := cell_of_ans hb k0
        replace k1 := cell_of_ans hb k1
        replace HZ := Lib.hid (HZ.out.step hb)
        replace z0 := cell_of_ans hb z0
        replace z1 := cell_of_ans hb z1
        replace HCA := Lib.hid (HCA.out.step hb)
        replace HX := Lib.hid (HX.out.step hb)
        replace HY := Lib.hid (HY.out.step hb)
        replace HB := Lib.hid (HB.out.trans (hb.mono HB.out.size))
        clear hb
        clear HX HY
        have heq : eqB xs xs = true := by simp [eqB]
        rw [heq]
        clear heq
        go_wp2_with fail
        refine (HWK.out _).mono ?_
        rintro e y30 ⟨rfl, hb⟩
        replace HW := Lib.hid (HW.out.step hb)
        replace k0 := cell_of_ans hb k0
        replace k1 := cell_of_ans hb k1
        replace HZ := Lib.hid (HZ.out.step hb)
        replace z0 := cell_of_ans hb z0
        replace z1 := cell_of_ans hb z1
        replace HCA := Lib.hid (HCA.out.step hb)
        replace HB := Lib.hid (HB.out.trans (hb.mono HB.out.size))
        clear hb
        go_wp2_with fail
        go_ret
        exact ⟨rfl, HB.out⟩
      · have HEW := Lib.hid (HXX.out hxx)
        have HEZ := Lib.hid (HZZ.out hxx)
        clear HXX HZZ hxx
        go_wp2_with fail
        refine ((ints_c AX AY xs xs cX cY _ HX.out HY.out ⟨hxX1, hxX2⟩ ⟨hxY1, hxY2⟩).mono fun _ _ h => Qt.ans h).mono ?_
        rintro e y31 ⟨rfl, hb⟩
        replace HW := Lib.hid (HW.out.step hb)
        replace k0 := cell_of_ans hb k0
        replace k1 := cell_of_ans hb k1
        replace HZ := Lib.hid (HZ.out.step hb)
        replace z0 := cell_of_ans hb z0
        replace z1 := cell_of_ans hb z1
        replace HCA := Lib.hid (HCA.out.step hb)
        replace HX := Lib.hid (HX.out.step hb)
        replace HY := Lib.hid (HY.out.step hb)
        replace HB := Lib.hid (HB.out.trans (hb.mono HB.out.size))
        clear hb
        clear HX HY
        have heq : eqB xs xs = true := by simp [eqB]
        rw [heq]
        clear heq
        go_wp2_with fail
        refine (narrower_c (some ⟨bq, oq, none⟩) Az AcA ws zs fa c cz ccA m _ HW.out HZ.out HCA.out hc hcz ⟨hcA, hccA⟩ hfl HEW.out HEZ.out HN1.out).mono ?_
        rintro e y32 ⟨rfl, hb⟩
        replace HW := Lib.hid (HW.out.step hb)
        replace k0 := cell_of_ans hb k0
        replace k1 := cell_of_ans hb k1
        replace HZ := Lib.hid (HZ.out.step hb)
        replace z0 := cell_of_ans hb z0
        replace z1 := cell_of_ans hb z1
        replace HCA := Lib.hid (HCA.out.step hb)
        replace HB := Lib.hid (HB.out.trans (hb.mono HB.out.size))
        clear hb
        go_wp2_with fail
        refine (narrower_c Az (some ⟨bq, oq, none⟩) AcA zs ws fa cz c ccA m _ HZ.out HW.out HCA.out hcz hc ⟨hcA, hccA⟩ hfl HEZ.out HEW.out HN2.out).mono ?_
        rintro e y33 ⟨rfl, hb⟩
        replace HW := Lib.hid (HW.out.step hb)
        replace k0 := cell_of_ans hb k0
        replace k1 := cell_of_ans hb k1
        replace HZ := Lib.hid (HZ.out.step hb)
        replace z0 := cell_of_ans hb z0
        replace z1 := cell_of_ans hb z1
        replace HCA := Lib.hid (HCA.out.step hb)
        replace HB := Lib.hid (HB.out.trans (hb.mono HB.out.size))
        clear hb
        go_wp2_with fail
        refine (HWK.out _).mono ?_
        rintro e y34 ⟨rfl, hb⟩
        replace HW := Lib.hid (HW.out.step hb)
        replace k0 := cell_of_ans hb k0
        replace k1 := cell_of_ans hb k1
        replace HZ := Lib.hid (HZ.out.step hb)
        replace z0 := cell_of_ans hb z0
        replace z1 := cell_of_ans hb z1
        replace HCA := Lib.hid (HCA.out.step hb)
        replace HB := Lib.hid (HB.out.trans (hb.mono HB.out.size))
        clear hb
        go_wp2_with fail
        go_ret
        exact ⟨rfl, HB.out⟩
end Go.Proofs.Ytadjkinpimmhkaa
