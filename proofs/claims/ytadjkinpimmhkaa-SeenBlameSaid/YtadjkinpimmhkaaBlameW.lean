/-
  The walk of the law SeenBlame.
-/
import Derived.Test.YtadjkinpimmhkaaFewerW
import Derived.Test.YtadjkinpimmhkaaTruthM
import Derived.Test.YtadjkinpimmhkaaLeast
import Derived.Test.YtadjkinpimmhkaaRegW
import Derived.Test.YtadjkinpimmhkaaExd
namespace Go.Proofs.Ytadjkinpimmhkaa
open Go.RowKit
set_option linter.unusedSimpArgs false
set_option linter.unusedVariables false

theorem shl_one (k : Nat) (hk : k < 4) : IntKind.u8.wrap (2 ^ k) = ((1 <<< k : Nat) : Int) := by
  rcases (by omega : k = 0 ∨ k = 1 ∨ k = 2 ∨ k = 3) with rfl | rfl | rfl | rfl <;> decide
theorem ints_one1 (w : World) (x : Int) : Ints (w.alloc (.cells #[.int .i64 x] 3)).heap.size (w.alloc (.cells #[.int .i64 x] 3)) (some ⟨w.heap.size, 0, none⟩) [x] := fun _ => ⟨w.heap.size, 0, rfl, by simp, fun k hk => by
  obtain rfl : k = 0 := by simpa using hk
  simp [ix]⟩
theorem rise_one {k : Nat} (hk : k < 4) : riseB [(k : Int)] = true := by
  rcases (by omega : k = 0 ∨ k = 1 ∨ k = 2 ∨ k = 3) with rfl | rfl | rfl | rfl <;> decide +kernel
def BelB (y w : World) : Prop := Below y.heap.size y w
def G24 (w : World) (g : Nat) : Prop := w.heap[g]? = some (.cells #[.int .i64 0, .slice none 0 0] 24 (0, 0))
theorem G24.step {w w' : World} {g : Nat} (h : G24 w g) (hb : Below w.heap.size w w') : G24 w' g := (hb.block g (lt_of_get h)).trans h
theorem G24.cells {w : World} {g : Nat} (h : G24 w g) : w.cell? ⟨g, 0, none⟩ = some (.int .i64 0) ∧ w.cell? ⟨g, 1, none⟩ = some (.slice none 0 0) ∧ w.frozen? ⟨g, 0, none⟩ = false ∧ w.frozen? ⟨g, 1, none⟩ = false := by
  unfold G24 at h
  simp [World.cell?, World.frozen?, h]
theorem lane_fin {w0 w : World} {g c n : Nat} {A : Option Addr} {fr : Int} {ws : List Wd} {e : TypeId} {base : Nat} (h : G24 w g) (hg : w0.heap.size ≤ g) (hO : OwnW e base w (.slice A n c) ws) (hn : n = ws.length) (hne : (Value.slice A n c).ownBlock ≠ some g) (hb : Below w0.heap.size w0 w) :
    LaneAt ((w.setCell ⟨g, 0, none⟩ (.int .i64 fr)).setCell ⟨g, 1, none⟩ (.slice A n c)).heap.size ((w.setCell ⟨g, 0, none⟩ (.int .i64 fr)).setCell ⟨g, 1, none⟩ (.slice A n c)) g fr ws ∧ Below w0.heap.size w0 ((w.setCell ⟨g, 0, none⟩ (.int .i64 fr)).setCell ⟨g, 1, none⟩ (.slice A n c)) := by
  subst hn
  have h2 := h
  unfold G24 at h2
  have hS : w.grownBy ((w.setCell ⟨g, 0, none⟩ (.int .i64 fr)).setCell ⟨g, 1, none⟩ (.slice A ws.length c)) (some g) := only_setCell (only_setCell (World.grownBy.refl w (some g)) (.inl rfl) _) (.inl rfl) _
  have hO2 : OwnW e base ((w.setCell ⟨g, 0, none⟩ (.int .i64 fr)).setCell ⟨g, 1, none⟩ (.slice A ws.length c)) (.slice A ws.length c) ws := World.ownsRow.kept hO hS (.inr hne)
  obtain ⟨o1, o2, o3⟩ := hO2.wds
  refine ⟨⟨A, c, ?_, ?_, ⟨o1, o2⟩, o3⟩, (hb.setCell hg _).setCell hg _⟩
  · simp [World.cell?, World.setCell, Array.getElem?_modify, h2]
  · simp [World.cell?, World.setCell, Array.getElem?_modify, h2]

set_option maxRecDepth 100000 in
set_option maxHeartbeats 32000000 in
theorem seenBlame_c (A : Option Addr) (ws : List Wd) (c : Nat) (frn : Int) (An : Option Addr) (ns : List Int) (cn pl : Nat) (w : World) (hw : Wds w.heap.size w A ws) (hc : ws.length ≤ c ∧ c ≤ 9223372036854775807) (hn : U16s w.heap.size w An ns) (hcn : ns.length ≤ cn ∧ cn ≤ 9223372036854775807) (hpl : pl < 256) :
    Calls Try.prog 10 #[.agg #[.int .i64 frn, .slice A ws.length c], .slice An ns.length cn, .int .u8 (pl : Int)] w (Ans w (.bool true)) := by
  have hb0 : Below w.heap.size w (w.alloc (.cells #[.int .i64 frn, .slice A ws.length c] 24)) := (Below.refl _ _).alloc (Nat.le_refl _) _
  have k0 : (w.alloc (.cells #[.int .i64 frn, .slice A ws.length c] 24)).cell? ⟨w.heap.size, 0, none⟩ = some (.int .i64 frn) := by simp
  have k1 : (w.alloc (.cells #[.int .i64 frn, .slice A ws.length c] 24)).cell? ⟨w.heap.size, 1, none⟩ = some (.slice A ws.length c) := by simp
  have HB := Lib.hid hb0
  have HW := Lib.hid (hw.step hb0)
  have HWK := Lib.hid wakes_c
  have HN := Lib.hid (hn.step hb0)
  clear hn
  clear hb0 hw
  go_enter Try.func10, Try.ntmps10
  go_wp2_with fail
  generalize (w.alloc (.cells #[.int .i64 frn, .slice A ws.length c] 24)) = W0 at *
  have HRd := Lib.hid (ready_c A ws c frn W0 HW.out hc)
  cases hrd : decide (laneErr frn ws = 0)
  · rw [hrd] at HRd
    clear hrd
    refine (HRd.out).mono ?_
    rintro e y1 ⟨rfl, hb⟩
    replace HW := Lib.hid (HW.out.step hb)
    replace HN := Lib.hid (HN.out.step hb)
    replace k0 := cell_of_ans hb k0
    replace k1 := cell_of_ans hb k1
    replace HB := Lib.hid (HB.out.trans (hb.mono HB.out.size))
    clear hb
    go_wp2_with fail
    refine (HWK.out _).mono ?_
    rintro e y2 ⟨rfl, hb⟩
    replace HW := Lib.hid (HW.out.step hb)
    replace HN := Lib.hid (HN.out.step hb)
    replace k0 := cell_of_ans hb k0
    replace k1 := cell_of_ans hb k1
    replace HB := Lib.hid (HB.out.trans (hb.mono HB.out.size))
    clear hb
    go_wp2_with fail
    go_ret
    exact ⟨rfl, HB.out⟩
  · rw [hrd] at HRd
    have hle : laneErr frn ws = 0 := of_decide_eq_true hrd
    obtain ⟨h30, hf1, hf5, hok⟩ := laneOk hle
    obtain ⟨m, rfl⟩ : ∃ m : Nat, frn = (m : Int) := ⟨frn.toNat, by omega⟩
    have HLE := Lib.hid hle
    have HOK := Lib.hid hok
    have hm5 : m ≤ 5 := by omega
    clear hrd hle hok
    refine (HRd.out).mono ?_
    rintro e y3 ⟨rfl, hb⟩
    replace HW := Lib.hid (HW.out.step hb)
    replace HN := Lib.hid (HN.out.step hb)
    replace k0 := cell_of_ans hb k0
    replace k1 := cell_of_ans hb k1
    replace HB := Lib.hid (HB.out.trans (hb.mono HB.out.size))
    clear hb
    obtain ⟨kk, hkk⟩ : ∃ kk : Nat, kk = pl % 4 := ⟨_, rfl⟩
    have hk4 : kk < 4 := by omega
    have q6 : (pl : Int).tmod 4 = (kk : Int) := by rw [hkk, Int.tmod_eq_emod_of_nonneg (by omega)]; omega
    have q7 : (pl : Int) % 4 = (kk : Int) := by omega
    have q8 : IntKind.i64.wrap (pl : Int) = (pl : Int) := IntWalk.i64_in _ (by omega)
    have q9 : IntKind.u64.wrap (kk : Int) = (kk : Int) := by simp only [IntKind.wrap, IntKind.bits, IntKind.signed]; simp; omega
    have q10 : IntKind.i64.wrap (kk : Int) = (kk : Int) := IntWalk.i64_in _ (by omega)
    clear hkk
    go_upto_region 4 with fail
    have hqs := shl_one kk hk4
    have hbt : 1 <<< kk < 256 := by rcases (by omega : kk = 0 ∨ kk = 1 ∨ kk = 2 ∨ kk = 3) with e | e | e | e <;> rw [e] <;> decide
    have HOO : Hid (∀ j, j ≤ 3 → (1 <<< kk).testBit j = true → offT [(kk : Int)] j = true) := fun j hj h => off_one hk4 hj h
    generalize 1 <<< kk = bt at *
    obtain ⟨zs, hzs⟩ : ∃ zs : List Wd, zs = toldL (trueG ns m) ns bt ws := ⟨_, rfl⟩
    have HZS := Lib.hid hzs
    have HLZ : Hid (laneErr (m : Int) zs = 0) := by show _ = _; rw [hzs]; exact told_lane HLE.out
    have HEX : Hid (explB (m : Int) zs (offT [(kk : Int)]) = true) := by show _ = _; rw [hzs]; exact told_expl HLE.out HOO.out
    have hzl0 : zs.length = ws.length := by rw [hzs, toldL_len]
    have HZL := Lib.hid hzl0
    have hzl : zs.length ≤ 1000000 := by omega
    clear hzs hzl0 HOO
    generalize hwr : y3 = wr at HW HN k0 k1 HB ⊢
    clear hwr
    have HC4 : Hid (∀ W, Below wr.heap.size wr W → Calls Try.prog 40 #[.int .i64 (m : Int), .slice An ns.length cn] W (OwnRows W (trueG ns m))) := fun W h => true_c An ns cn m W (HN.out.step h) hcn (by omega)
    have HC9 : Hid (∀ W, Below wr.heap.size wr W → ∀ At ct, Grd W.heap.size W At (trueG ns m) → (trueG ns m).length ≤ ct ∧ ct ≤ 9223372036854775807 → Calls Try.prog 39 #[.agg #[.int .i64 (m : Int), .slice A ws.length c], .slice At (trueG ns m).length ct, .slice An ns.length cn, .int .u8 (bt : Int)] W (LanePost 56 W (m : Int) zs)) := fun W h At ct hg hct => by
      rw [HZS.out]
      exact told_c A At An ws (trueG ns m) ns c ct cn bt m (m : Int) W (HW.out.step h) hg (HN.out.step h) hc hct hcn (by omega) hbt (trueG_len ns m) HOK.out true_vals true_bd
    go_cut [8] (fun s8 wx => ∃ gq : Nat, s8 = .pointer (some ⟨gq, 0, none⟩) ∧ LaneAt wx.heap.size wx gq (m : Int) zs ∧ Below wr.heap.size wr wx)
    case first =>
      try clear HB
      try clear HOK
      try clear HLE
      try clear HWK
      try clear HLZ
      try clear HEX
      refine wp_region_noPanic ?_
      have hS : (fun w' : World => Below wr.heap.size wr w') wr.drew := (Below.refl _ _).drew
      refine wp_region_any (by kernel_rfl) (wpAny_of_T (S := fun w' : World => Below wr.heap.size wr w') (m := 12) _ _ _ _ ?_)
      have HX : Hid (Below wr.heap.size wr wr.drew) := hS
      change wpAnyT _ _ _ _ _ _ _ _ _ wr.drew
      generalize hwv0 : wr.drew = wv0 at *
      clear hwv0
      refine' T_take (i := 0) (v := _) rfl (by kernel_rfl) (by kernel_rfl) (by kernel_rfl) (by kernel_rfl) (fun _ _ _ h => h) (by rfl) hS ?_ ?_
      rotate_left 1
      · intro Wv hW
        have l0 := cell_of_ans hW k0
        have l1 := cell_of_ans hW k1
        go_simp
        first | done | with_reducible rfl
      try simp only [Act.put, List.setIfInBounds_toArray, List.set_cons_zero, List.set_cons_succ]
      refine' T_take (i := 1) (v := _) rfl (by kernel_rfl) (by kernel_rfl) (by kernel_rfl) (by kernel_rfl) (fun _ _ _ h => h) (by rfl) hS ?_ ?_
      rotate_left 1
      · intro Wv hW
        have l0 := cell_of_ans hW k0
        have l1 := cell_of_ans hW k1
        go_simp
        first | done | with_reducible rfl
      try simp only [Act.put, List.setIfInBounds_toArray, List.set_cons_zero, List.set_cons_succ]
      refine' T_take (i := 2) (v := _) rfl (by kernel_rfl) (by kernel_rfl) (by kernel_rfl) (by kernel_rfl) (fun _ _ _ h => h) (by rfl) hS ?_ ?_
      rotate_left 1
      · intro Wv hW
        have l0 := cell_of_ans hW k0
        have l1 := cell_of_ans hW k1
        go_simp
        first | done | with_reducible rfl
      try simp only [Act.put, List.setIfInBounds_toArray, List.set_cons_zero, List.set_cons_succ]
      refine' T_take (i := 3) (v := _) rfl (by kernel_rfl) (by kernel_rfl) (by kernel_rfl) (by kernel_rfl) (fun _ _ _ h => h) (by rfl) hS ?_ ?_
      rotate_left 1
      · intro Wv hW
        have l0 := cell_of_ans hW k0
        have l1 := cell_of_ans hW k1
        go_simp
        first | done | with_reducible rfl
      try simp only [Act.put, List.setIfInBounds_toArray, List.set_cons_zero, List.set_cons_succ]
      refine' T_take (i := 5) (v := _) rfl (by kernel_rfl) (by kernel_rfl) (by kernel_rfl) (by kernel_rfl) (fun _ _ _ h => h) (by rfl) hS ?_ ?_
      rotate_left 1
      · intro Wv hW
        have l0 := cell_of_ans hW k0
        have l1 := cell_of_ans hW k1
        go_simp
        first | done | with_reducible rfl
      try simp only [Act.put, List.setIfInBounds_toArray, List.set_cons_zero, List.set_cons_succ]
      refine' T_take (i := 6) (v := _) rfl (by kernel_rfl) (by kernel_rfl) (by kernel_rfl) (by kernel_rfl) (fun _ _ _ h => h) (by rfl) hS ?_ ?_
      rotate_left 1
      · intro Wv hW
        have l0 := cell_of_ans hW k0
        have l1 := cell_of_ans hW k1
        go_simp
        first | done | with_reducible rfl
      try simp only [Act.put, List.setIfInBounds_toArray, List.set_cons_zero, List.set_cons_succ]
      refine' T_take (i := 7) (v := _) rfl (by kernel_rfl) (by kernel_rfl) (by kernel_rfl) (by kernel_rfl) (fun _ _ _ h => h) (by rfl) hS ?_ ?_
      rotate_left 1
      · intro Wv hW
        have l0 := cell_of_ans hW k0
        have l1 := cell_of_ans hW k1
        go_simp
        first | done | with_reducible rfl
      try simp only [Act.put, List.setIfInBounds_toArray, List.set_cons_zero, List.set_cons_succ]
      refine' T_take (i := 8) (v := _) rfl (by kernel_rfl) (by kernel_rfl) (by kernel_rfl) (by kernel_rfl) (fun _ _ _ h => h) (by rfl) hS ?_ ?_
      rotate_left 1
      · intro Wv hW
        have l0 := cell_of_ans hW k0
        have l1 := cell_of_ans hW k1
        go_simp
        first | done | with_reducible rfl
      try simp only [Act.put, List.setIfInBounds_toArray, List.set_cons_zero, List.set_cons_succ]
      refine T_ready (rs := [4, 10]) (by kernel_rfl) (by simp) ?_
      refine TReady.cons rfl (fun K hK => ?_) (TReady.cons rfl (fun K hK => ?_) TReady.nil)
      · try go_simp
        refine (HC4.out _ HX.out).mono ?_
        rintro e wv1 ⟨At, ct, vs, rfl, hR, hb⟩
        obtain ⟨hct1, hct2, hgr⟩ := grd_of hR.grd
        have HGR := Lib.hid hgr
        clear hR hgr
        replace HX := Lib.hid (HX.out.trans (hb.mono HX.out.size))
        clear hb
        try go_simp
        refine hK.out _ _ (fun _ => HX.out) (fun hS => ?_)
        replace hS := hS (by decide)
        clear hK K
        try simp only [Act.put, List.setIfInBounds_toArray, List.set_cons_zero, List.set_cons_succ]
        refine T_ready (rs := [9, 10]) (by kernel_rfl) (by simp) ?_
        refine TReady.cons rfl (fun K hK => ?_) (TReady.cons rfl (fun K hK => ?_) TReady.nil)
        · try go_simp
          refine (HC9.out _ HX.out At ct HGR.out ⟨hct1, hct2⟩).mono ?_
          rintro e wv2 ⟨Az, cz, rfl, hO, hb⟩
          have hsz2 := hb.size
          replace HX := Lib.hid (HX.out.trans (hb.mono HX.out.size))
          replace HGR := Lib.hid (HGR.out.step hb)
          clear hb
          have HOZ := Lib.hid hO
          clear hO
          try go_simp
          refine hK.out _ _ (fun _ => HX.out) (fun hS => ?_)
          replace hS := hS (by decide)
          clear hK K
          try simp only [Act.put, List.setIfInBounds_toArray, List.set_cons_zero, List.set_cons_succ]
          refine T_ready (rs := [10]) (by kernel_rfl) (by simp) ?_
          refine TReady.cons rfl (fun K hK => ?_) TReady.nil
          try go_simp
          have hb : Below wv2.heap.size wv2 (wv2.alloc (.cells #[.int .i64 0, .slice none 0 0] 24)) := (Below.refl _ _).alloc (Nat.le_refl _) _
          have hgq : G24 (wv2.alloc (.cells #[.int .i64 0, .slice none 0 0] 24)) wv2.heap.size := World.alloc_heap_new _ _
          have hgw := HX.out.size
          have HNE : Hid ((Value.slice Az zs.length cz).ownBlock ≠ some wv2.heap.size) := fun e => by have := (World.ownsRow.lt HOZ.out _ e).2; omega
          replace HOZ := Lib.hid (show OwnW _ _ _ _ _ from World.ownsRow.alloc HOZ.out (.cells #[.int .i64 0, .slice none 0 0] 24))
          replace HX := Lib.hid (HX.out.trans (hb.mono HX.out.size))
          replace HGR := Lib.hid (HGR.out.step hb)
          clear hb
          have HGQ := Lib.hid hgq
          clear hgq
          refine hK.out _ _ (fun _ => HX.out) (fun hS => ?_)
          replace hS := hS (by decide)
          clear hK K
          try simp only [Act.put, List.setIfInBounds_toArray, List.set_cons_zero, List.set_cons_succ]
          generalize hgqq : wv2.heap.size = gq at *
          clear hgqq
          generalize (wv2.alloc (.cells #[.int .i64 0, .slice none 0 0] 24)) = wv3 at *
          refine T_ready (rs := [11]) (by kernel_rfl) (by simp) ?_
          refine TReady.cons rfl (fun K hK => ?_) TReady.nil
          obtain ⟨z0, z1, z2, z3⟩ := HGQ.out.cells
          try go_simp
          have z9 := lane_fin (fr := (m : Int)) HGQ.out hgw HOZ.out rfl HNE.out HX.out
          have HLA := z9.1
          have HBB := z9.2
          clear z9
          refine hK.out _ _ (fun _ => HBB) (fun hS => ?_)
          clear hK K hS
          try simp only [Act.put, List.setIfInBounds_toArray, List.set_cons_zero, List.set_cons_succ]
          refine T_done (by kernel_rfl) ?_ _
          refine NoPanic.normal ?_
          go_wp2_with fail
          go_meet
          exact ⟨_, rfl, HLA, HBB⟩
        · try go_simp
          have hb : Below wv1.heap.size wv1 (wv1.alloc (.cells #[.int .i64 0, .slice none 0 0] 24)) := (Below.refl _ _).alloc (Nat.le_refl _) _
          have hgq : G24 (wv1.alloc (.cells #[.int .i64 0, .slice none 0 0] 24)) wv1.heap.size := World.alloc_heap_new _ _
          have hgw := HX.out.size
          replace HX := Lib.hid (HX.out.trans (hb.mono HX.out.size))
          replace HGR := Lib.hid (HGR.out.step hb)
          clear hb
          have HGQ := Lib.hid hgq
          clear hgq
          refine hK.out _ _ (fun _ => HX.out) (fun hS => ?_)
          replace hS := hS (by decide)
          clear hK K
          try simp only [Act.put, List.setIfInBounds_toArray, List.set_cons_zero, List.set_cons_succ]
          generalize hgqq : wv1.heap.size = gq at *
          clear hgqq
          generalize (wv1.alloc (.cells #[.int .i64 0, .slice none 0 0] 24)) = wv4 at *
          refine T_ready (rs := [9]) (by kernel_rfl) (by simp) ?_
          refine TReady.cons rfl (fun K hK => ?_) TReady.nil
          try go_simp
          refine (HC9.out _ HX.out At ct HGR.out ⟨hct1, hct2⟩).mono ?_
          rintro e wv5 ⟨Az, cz, rfl, hO, hb⟩
          have hsz5 := hb.size
          have HNE : Hid ((Value.slice Az zs.length cz).ownBlock ≠ some gq) := fun e => by have := (World.ownsRow.lt hO _ e).1; have := lt_of_get HGQ.out; omega
          replace HX := Lib.hid (HX.out.trans (hb.mono HX.out.size))
          replace HGR := Lib.hid (HGR.out.step hb)
          replace HGQ := Lib.hid (HGQ.out.step hb)
          clear hb
          have HOZ := Lib.hid hO
          clear hO
          try go_simp
          refine hK.out _ _ (fun _ => HX.out) (fun hS => ?_)
          replace hS := hS (by decide)
          clear hK K
          try simp only [Act.put, List.setIfInBounds_toArray, List.set_cons_zero, List.set_cons_succ]
          refine T_ready (rs := [11]) (by kernel_rfl) (by simp) ?_
          refine TReady.cons rfl (fun K hK => ?_) TReady.nil
          obtain ⟨z0, z1, z2, z3⟩ := HGQ.out.cells
          try go_simp
          have z9 := lane_fin (fr := (m : Int)) HGQ.out hgw HOZ.out rfl HNE.out HX.out
          have HLA := z9.1
          have HBB := z9.2
          clear z9
          refine hK.out _ _ (fun _ => HBB) (fun hS => ?_)
          clear hK K hS
          try simp only [Act.put, List.setIfInBounds_toArray, List.set_cons_zero, List.set_cons_succ]
          refine T_done (by kernel_rfl) ?_ _
          refine NoPanic.normal ?_
          go_wp2_with fail
          go_meet
          exact ⟨_, rfl, HLA, HBB⟩
      · try go_simp
        have hb : Below wv0.heap.size wv0 (wv0.alloc (.cells #[.int .i64 0, .slice none 0 0] 24)) := (Below.refl _ _).alloc (Nat.le_refl _) _
        have hgq : G24 (wv0.alloc (.cells #[.int .i64 0, .slice none 0 0] 24)) wv0.heap.size := World.alloc_heap_new _ _
        have hgw := HX.out.size
        replace HX := Lib.hid (HX.out.trans (hb.mono HX.out.size))
        clear hb
        have HGQ := Lib.hid hgq
        clear hgq
        refine hK.out _ _ (fun _ => HX.out) (fun hS => ?_)
        replace hS := hS (by decide)
        clear hK K
        try simp only [Act.put, List.setIfInBounds_toArray, List.set_cons_zero, List.set_cons_succ]
        generalize hgqq : wv0.heap.size = gq at *
        clear hgqq
        generalize (wv0.alloc (.cells #[.int .i64 0, .slice none 0 0] 24)) = wv6 at *
        refine T_ready (rs := [4]) (by kernel_rfl) (by simp) ?_
        refine TReady.cons rfl (fun K hK => ?_) TReady.nil
        try go_simp
        refine (HC4.out _ HX.out).mono ?_
        rintro e wv7 ⟨At, ct, vs, rfl, hR, hb⟩
        obtain ⟨hct1, hct2, hgr⟩ := grd_of hR.grd
        have HGR := Lib.hid hgr
        clear hR hgr
        replace HX := Lib.hid (HX.out.trans (hb.mono HX.out.size))
        replace HGQ := Lib.hid (HGQ.out.step hb)
        clear hb
        try go_simp
        refine hK.out _ _ (fun _ => HX.out) (fun hS => ?_)
        replace hS := hS (by decide)
        clear hK K
        try simp only [Act.put, List.setIfInBounds_toArray, List.set_cons_zero, List.set_cons_succ]
        refine T_ready (rs := [9]) (by kernel_rfl) (by simp) ?_
        refine TReady.cons rfl (fun K hK => ?_) TReady.nil
        try go_simp
        refine (HC9.out _ HX.out At ct HGR.out ⟨hct1, hct2⟩).mono ?_
        rintro e wv8 ⟨Az, cz, rfl, hO, hb⟩
        have hsz8 := hb.size
        have HNE : Hid ((Value.slice Az zs.length cz).ownBlock ≠ some gq) := fun e => by have := (World.ownsRow.lt hO _ e).1; have := lt_of_get HGQ.out; omega
        replace HX := Lib.hid (HX.out.trans (hb.mono HX.out.size))
        replace HGQ := Lib.hid (HGQ.out.step hb)
        replace HGR := Lib.hid (HGR.out.step hb)
        clear hb
        have HOZ := Lib.hid hO
        clear hO
        try go_simp
        refine hK.out _ _ (fun _ => HX.out) (fun hS => ?_)
        replace hS := hS (by decide)
        clear hK K
        try simp only [Act.put, List.setIfInBounds_toArray, List.set_cons_zero, List.set_cons_succ]
        refine T_ready (rs := [11]) (by kernel_rfl) (by simp) ?_
        refine TReady.cons rfl (fun K hK => ?_) TReady.nil
        obtain ⟨z0, z1, z2, z3⟩ := HGQ.out.cells
        try go_simp
        have z9 := lane_fin (fr := (m : Int)) HGQ.out hgw HOZ.out rfl HNE.out HX.out
        have HLA := z9.1
        have HBB := z9.2
        clear z9
        refine hK.out _ _ (fun _ => HBB) (fun hS => ?_)
        clear hK K hS
        try simp only [Act.put, List.setIfInBounds_toArray, List.set_cons_zero, List.set_cons_succ]
        refine T_done (by kernel_rfl) ?_ _
        refine NoPanic.normal ?_
        go_wp2_with fail
        go_meet
        exact ⟨_, rfl, HLA, HBB⟩
    case rest =>
      obtain ⟨gq, rfl, ⟨Az, cz, z0, z1, hcz, hz⟩, hb⟩ := hcut
      obtain ⟨wd, rfl⟩ : ∃ wd : World, wd = wc := ⟨_, rfl⟩
      have HZ := Lib.hid hz
      clear hz
      replace HW := Lib.hid (HW.out.step hb)
      replace HN := Lib.hid (HN.out.step hb)
      replace k0 := cell_of_ans hb k0
      replace k1 := cell_of_ans hb k1
      replace HB := Lib.hid (HB.out.trans (hb.mono HB.out.size))
      clear hb
      clear HN
      go_wp2_with fail
      refine (lane_c Az zs cz (m : Int) _ HZ.out hcz hzl).mono ?_
      rintro e y5 ⟨Al4, cl4, rfl, hO4, hb⟩
      replace HW := Lib.hid (HW.out.step hb)
      replace k0 := cell_of_ans hb k0
      replace k1 := cell_of_ans hb k1
      replace HZ := Lib.hid (HZ.out.step hb)
      replace z0 := cell_of_ans hb z0
      replace z1 := cell_of_ans hb z1
      replace HB := Lib.hid (HB.out.trans (hb.mono HB.out.size))
      clear hb
      obtain ⟨hq4, hqq4, hO4⟩ := hO4.wds
      have HL4 := Lib.hid hO4
      clear hO4
      have HWH : Hid (blameOk (explB (m : Int) zs) = true → blameV (explB (m : Int) zs) = (kk : Int)) := fun h => blame_who hk4 HEX.out h
      have HBE : Hid (blameE (explB (m : Int) zs) = if blameOk (explB (m : Int) zs) then 0 else 7) := rfl
      go_wp2_with fail
      refine (blame_ok Al4 zs cl4 (m : Int) _ HL4.out ⟨hq4, hqq4⟩ HLZ.out).mono ?_
      rintro e y6 ⟨rfl, hb⟩
      replace HW := Lib.hid (HW.out.step hb)
      replace k0 := cell_of_ans hb k0
      replace k1 := cell_of_ans hb k1
      replace HZ := Lib.hid (HZ.out.step hb)
      replace z0 := cell_of_ans hb z0
      replace z1 := cell_of_ans hb z1
      replace HL4 := Lib.hid (HL4.out.step hb)
      replace HB := Lib.hid (HB.out.trans (hb.mono HB.out.size))
      clear hb
      clear HL4
      cases hbo : blameOk (explB (m : Int) zs)
      · have he : blameE (explB (m : Int) zs) = 7 := by rw [HBE.out, hbo]; rfl
        rw [he]
        generalize blameV (explB (m : Int) zs) = bv at *
        clear he hbo HBE HWH
        go_wp2_with fail
        refine (HWK.out _).mono ?_
        rintro e y7 ⟨rfl, hb⟩
        replace HW := Lib.hid (HW.out.step hb)
        replace k0 := cell_of_ans hb k0
        replace k1 := cell_of_ans hb k1
        replace HZ := Lib.hid (HZ.out.step hb)
        replace z0 := cell_of_ans hb z0
        replace z1 := cell_of_ans hb z1
        replace HB := Lib.hid (HB.out.trans (hb.mono HB.out.size))
        clear hb
        go_wp2_with fail
        go_ret
        exact ⟨rfl, HB.out⟩
      · have he : blameE (explB (m : Int) zs) = 0 := by rw [HBE.out, hbo]; rfl
        have hv := HWH.out hbo
        rw [he, hv]
        have hvk : ((kk : Int) == (kk : Int)) = true := by simp
        clear he hv hbo HBE HWH
        go_wp2_with fail
        refine (lane_c Az zs cz (m : Int) _ HZ.out hcz hzl).mono ?_
        rintro e y9 ⟨Al8, cl8, rfl, hO8, hb⟩
        replace HW := Lib.hid (HW.out.step hb)
        replace k0 := cell_of_ans hb k0
        replace k1 := cell_of_ans hb k1
        replace HZ := Lib.hid (HZ.out.step hb)
        replace z0 := cell_of_ans hb z0
        replace z1 := cell_of_ans hb z1
        replace HB := Lib.hid (HB.out.trans (hb.mono HB.out.size))
        clear hb
        obtain ⟨hq8, hqq8, hO8⟩ := hO8.wds
        have HL8 := Lib.hid hO8
        clear hO8
        go_wp2_with fail
        have HI1 := Lib.hid (ints_one1 y9 (kk : Int))
        have hb : Below y9.heap.size y9 (y9.alloc (.cells #[.int .i64 (kk : Int)] 3)) := (Below.refl _ _).alloc (Nat.le_refl _) _
        replace HW := Lib.hid (HW.out.step hb)
        replace k0 := cell_of_ans hb k0
        replace k1 := cell_of_ans hb k1
        replace HZ := Lib.hid (HZ.out.step hb)
        replace z0 := cell_of_ans hb z0
        replace z1 := cell_of_ans hb z1
        replace HL8 := Lib.hid (HL8.out.step hb)
        replace HB := Lib.hid (HB.out.trans (hb.mono HB.out.size))
        clear hb
        generalize (y9.alloc (.cells #[.int .i64 (kk : Int)] 3)) = y10 at *
        generalize y9.heap.size = q1 at *
        refine (explains_z (ws := zs) (ts := [(kk : Int)]) Al8 (some ⟨q1, 0, none⟩) cl8 1 _ HL8.out HI1.out ⟨hq8, hqq8⟩ ⟨by simp, by omega⟩ HLZ.out (rise_one hk4)).mono ?_
        rintro e y11 ⟨rfl, hb⟩
        replace HW := Lib.hid (HW.out.step hb)
        replace k0 := cell_of_ans hb k0
        replace k1 := cell_of_ans hb k1
        replace HZ := Lib.hid (HZ.out.step hb)
        replace z0 := cell_of_ans hb z0
        replace z1 := cell_of_ans hb z1
        replace HL8 := Lib.hid (HL8.out.step hb)
        replace HB := Lib.hid (HB.out.trans (hb.mono HB.out.size))
        clear hb
        clear HL8
        rw [HEX.out]
        go_wp2_with fail
        refine (HWK.out _).mono ?_
        rintro e y12 ⟨rfl, hb⟩
        replace HW := Lib.hid (HW.out.step hb)
        replace k0 := cell_of_ans hb k0
        replace k1 := cell_of_ans hb k1
        replace HZ := Lib.hid (HZ.out.step hb)
        replace z0 := cell_of_ans hb z0
        replace z1 := cell_of_ans hb z1
        replace HB := Lib.hid (HB.out.trans (hb.mono HB.out.size))
        clear hb
        go_wp2_with fail
        go_ret
        exact ⟨rfl, HB.out⟩
end Go.Proofs.Ytadjkinpimmhkaa
