/-
  The walk of LeagueTruth.
-/
import Derived.Test.YtjokbffdepcpkaaTruthF
namespace Go.Proofs.Ytjokbffdepcpkaa
open Go.RowKit
set_option linter.unusedSimpArgs false
set_option linter.unusedVariables false

attribute [local go_sem] Oper.semAt_some
/-- Is one of the first k so? -/
def exB (f : Nat → Bool) : Nat → Bool
  | 0 => false
  | k + 1 => exB f k || f k
theorem exB_true {f : Nat → Bool} : ∀ n k, k < n → f k = true → exB f n = true
  | 0, k, h, _ => by omega
  | n + 1, k, h, e => by
    rw [exB]
    by_cases hk : k = n
    · subst hk; rw [e, Bool.or_true]
    · rw [exB_true n k (by omega) e, Bool.true_or]
/-- What is told of a team, with a list of points. -/
structure TmG (l : Lg) (ps : List Int) (T t : Nat) : Prop where
  ask : askedL l (t : Int) = 0
  can : canL l (t : Int) = canB l t
  sure : sureL l (t : Int) = sureB l t
  yes : canB l t = true → reasonL l (t : Int) = [] ∧ reasonE l (t : Int) = 7
  no : canB l t = false → reasonE l (t : Int) = 0 ∧ exB (fun j => decide (ix ps t < ix ps (ix (reasonL l (t : Int)) j).toNat)) (reasonL l (t : Int)).length = true
  rng : ∀ j, j < (reasonL l (t : Int)).length → 0 ≤ ix (reasonL l (t : Int)) j ∧ ix (reasonL l (t : Int)) j < T
  len : (reasonL l (t : Int)).length ≤ 6
  sc : sureB l t = true → canB l t = true
  fc : firstB ps t = true → canB l t = true
  sf : sureB l t = true → firstB ps t = true
theorem tmG {l : Lg} {os : List Int} {T t : Nat} (hT : l.teams = (T : Int)) (h : TmF l os t) (ht : t < T) (ha : askedL l (t : Int) = 0) : TmG l ((List.range T).map (aftF l os)) T t := by
  have hTN : l.teams.toNat = T := by omega
  have e : ∀ k, k < T → ix ((List.range T).map (aftF l os)) k = aftF l os k := fun k hk => ix_mapR _ hk
  have hlen : ((List.range T).map (aftF l os)).length = T := by simp
  have hr : ∀ j, j < (reasonL l (t : Int)).length → 0 ≤ ix (reasonL l (t : Int)) j ∧ ix (reasonL l (t : Int)) j < T := fun j hj => by
    cases hc : canB l t
    · have := (h.no hc).2.1 (ix (reasonL l (t : Int)) j) (by rw [ix_lt hj]; exact List.getElem_mem hj)
      omega
    · rw [(h.yes hc).1] at hj; simp at hj
  have hf : firstB ((List.range T).map (aftF l os)) t = true ↔ ∀ u, u < T → aftF l os u ≤ aftF l os t := by
    unfold firstB
    rw [hlen, allB_iff]
    refine ⟨fun hh u hu => ?_, fun hh u hu => ?_⟩
    · have := hh u hu
      rwa [decide_eq_true_eq, e u hu, e t ht] at this
    · rw [decide_eq_true_eq, e u hu, e t ht]; exact hh u hu
  refine ⟨ha, h.can, h.sure, h.yes, fun hc => ?_, hr, ?_, h.sc, fun hh => h.fc (by rw [hTN]; exact hf.1 hh), fun hs => hf.2 (by rw [← hTN]; exact h.sf hs)⟩
  · obtain ⟨h1, h2, ⟨x, hx, hlt⟩, h4⟩ := h.no hc
    refine ⟨h1, ?_⟩
    obtain ⟨j, hj, ej⟩ := List.getElem_of_mem hx
    refine exB_true _ j hj ?_
    have := hr j hj
    rw [decide_eq_true_eq, e t ht, e _ (by omega), ix_lt hj, ej]
    exact hlt
  · cases hc : canB l t
    · exact (h.no hc).2.2.2
    · rw [(h.yes hc).1]; simp
set_option maxRecDepth 100000 in
set_option maxHeartbeats 16000000 in
theorem truth10_c (l : Lg) (A Aw : Option Addr) (c cw : Nat) (ws : List Int) (w : World) (hl : Gms w.heap.size w A l.games) (hc : l.games.length ≤ c ∧ c ≤ 9223372036854775807) (hws : Wds w.heap.size w Aw ws) (hcw : ws.length ≤ cw ∧ cw ≤ 9223372036854775807) :
    Calls Try.prog 10 #[.agg #[.int .i64 l.teams, .slice A l.games.length c], .slice Aw ws.length cw] w (Ans w (.bool true)) := by
  have hb : Below w.heap.size w (w.alloc (.cells #[.int .i64 l.teams, .slice A l.games.length c] 24)) := (Below.refl _ _).alloc (Nat.le_refl _) _
  have HB := Lib.hid hb
  have HL := Lib.hid (hl.step hb)
  have HW := Lib.hid (hws.step hb)
  have HRD := Lib.hid (fun (W : World) (h : Gms W.heap.size W A l.games) => ready34_c l A c W h hc)
  have k0 : (w.alloc (.cells #[.int .i64 l.teams, .slice A l.games.length c] 24)).cell? ⟨w.heap.size, 0, none⟩ = some (.int .i64 l.teams) := by simp
  have k1 : (w.alloc (.cells #[.int .i64 l.teams, .slice A l.games.length c] 24)).cell? ⟨w.heap.size, 1, none⟩ = some (.slice A l.games.length c) := by simp
  clear hb hl hws
  cases hrd : (thinG l.games.length && decide (faultL l = 0))
  · rw [hrd] at HRD
    clear hrd
    go_enter Try.func10, Try.ntmps10
    go_wp2_with fail
    generalize (w.alloc (.cells #[.int .i64 l.teams, .slice A l.games.length c] 24)) = x1 at *
    refine (HRD.out _ HL.out).mono ?_
    rintro e x2 ⟨rfl, hb⟩
    replace HB := Lib.hid (HB.out.trans (hb.mono HB.out.size))
    clear hb
    go_wp2_with fail
    refine (awake16_c _).mono ?_
    rintro e x3 ⟨rfl, hb⟩
    replace HB := Lib.hid (HB.out.trans (hb.mono HB.out.size))
    clear hb
    go_wp2_with fail
    go_ret
    exact ⟨rfl, HB.out⟩
  · rw [hrd] at HRD
    rw [Bool.and_eq_true, decide_eq_true_eq] at hrd
    have hv := valid_iff.1 hrd.2
    have hn : l.games.length ≤ 1000 := by have := hv.len; omega
    have HLG := Lib.hid (fun (W : World) (h : Gms W.heap.size W A l.games) => league18_c l A c W h hc hn)
    have HEN := Lib.hid (fun (W : World) (h : Gms W.heap.size W A l.games) (h2 : Wds W.heap.size W Aw ws) => ended36_c l A Aw c cw ws W h hc hn h2 hcw)
    have hol := opens_len l.games
    have hro := endL_rng ws (opensL l.games).length
    have hro2 : ∀ k, k < (endL ws (opensL l.games).length).length → 1 ≤ ix (endL ws (opensL l.games).length) k ∧ ix (endL ws (opensL l.games).length) k ≤ 3 := fun k hk => hro k (by rwa [endL_len] at hk)
    obtain ⟨ha1, ha2⟩ := af_ok hv (outs_ok (endL_len ws (opensL l.games).length) hro2)
    have HAF := Lib.hid (fun (A1 A2 : Option Addr) (c1 c2 : Nat) (W : World) (h1 : Gms W.heap.size W A1 l.games) h2 (h3 : Byts W.heap.size W A2 (endL ws (opensL l.games).length)) h4 => after25_c l A1 A2 c1 c2 (endL ws (opensL l.games).length) W h1 h2 h3 h4 (by rw [endL_len]; omega))
    rw [ha1, ha2] at HAF
    have hT2 := hv.t2
    have hT6 := hv.t6
    obtain ⟨T, hT⟩ : ∃ T : Nat, l.teams.toNat = T := ⟨_, rfl⟩
    have HTI : Hid (l.teams = (T : Int)) := by show _ = _; omega
    have HTM := Lib.hid (fun (t : Nat) (ht : (t : Int) < l.teams) => tmF hv (endL_len ws (opensL l.games).length) hro2 ht)
    have HRO2 := Lib.hid hro2
    rw [hT] at HAF
    have HCA := Lib.hid (fun (t : Int) (A1 : Option Addr) (c1 : Nat) (W : World) (h : Gms W.heap.size W A1 l.games) h2 => can43_c l t A1 c1 W h h2)
    have HSU := Lib.hid (fun (t : Int) (A1 : Option Addr) (c1 : Nat) (W : World) (h : Gms W.heap.size W A1 l.games) h2 => sure44_c l t A1 c1 W h h2)
    have HRE := Lib.hid (fun (t : Int) (A1 : Option Addr) (c1 : Nat) (W : World) (h : Gms W.heap.size W A1 l.games) h2 => reason37_c l t A1 c1 W h h2)
    have HAK := Lib.hid (fun (t : Nat) (ht : (t : Int) < l.teams) => asked_ok hv ht)
    have hl20 := hv.len
    have HTG := Lib.hid (fun (t : Nat) (ht : t < T) => tmG HTI.out (HTM.out t (by have := HTI.out; omega)) ht (HAK.out t (by have := HTI.out; omega)))
    have HLN : Hid (((List.range T).map (aftF l (endL ws (opensL l.games).length))).length = T) := by show _ = _; simp
    have q0 : ((((List.range T).map (aftF l (endL ws (opensL l.games).length))).length : Int) != l.teams) = false := by simp [bne]; have := HTI.out; omega
    have hTp : 2 ≤ T ∧ T ≤ 6 := by omega
    clear hrd hv ha1 ha2 hro hro2 hT HTM HAK hT2 hT6
    generalize endL ws (opensL l.games).length = os at *
    generalize (List.range T).map (aftF l os) = ps at *
    go_enter Try.func10, Try.ntmps10
    go_wp2_with fail
    generalize (w.alloc (.cells #[.int .i64 l.teams, .slice A l.games.length c] 24)) = x0 at *
    refine (HRD.out _ HL.out).mono ?_
    rintro e x1 ⟨rfl, hb⟩
    replace HB := Lib.hid (HB.out.trans (hb.mono HB.out.size))
    replace HL := Lib.hid (HL.out.step hb)
    replace HW := Lib.hid (HW.out.step hb)
    replace k0 := cell_of_ans hb k0
    replace k1 := cell_of_ans hb k1
    clear hb
    go_upto_region 3 with fail
    refine wp_region_noPanic ?_
    have hS : (fun W' : World => Below x1.heap.size x1 W') x1.drew := (Below.refl _ _).drew
    refine wp_region_any (by kernel_rfl) (wpAny_of_T (S := fun W' : World => Below x1.heap.size x1 W') (m := 11) _ _ _ _ ?_)
    refine' T_take (i := 0) (v := _) rfl (by kernel_rfl) (by kernel_rfl) (by kernel_rfl) (by kernel_rfl) (fun _ _ _ h => h) (by kernel_rfl) hS ?_ ?_
    rotate_left 1
    · intro Wv hW
      have g0 := cell_of_ans hW k0
      have g1 := cell_of_ans hW k1
      go_simp
      first | done | with_reducible rfl | omega
    try simp only [Act.put, List.setIfInBounds_toArray, List.set_cons_zero, List.set_cons_succ]
    refine' T_take (i := 2) (v := _) rfl (by kernel_rfl) (by kernel_rfl) (by kernel_rfl) (by kernel_rfl) (fun _ _ _ h => h) (by kernel_rfl) hS ?_ ?_
    rotate_left 1
    · intro Wv hW
      have g0 := cell_of_ans hW k0
      have g1 := cell_of_ans hW k1
      go_simp
      first | done | with_reducible rfl | omega
    try simp only [Act.put, List.setIfInBounds_toArray, List.set_cons_zero, List.set_cons_succ]
    refine' T_take (i := 3) (v := _) rfl (by kernel_rfl) (by kernel_rfl) (by kernel_rfl) (by kernel_rfl) (fun _ _ _ h => h) (by kernel_rfl) hS ?_ ?_
    rotate_left 1
    · intro Wv hW
      have g0 := cell_of_ans hW k0
      have g1 := cell_of_ans hW k1
      go_simp
      first | done | with_reducible rfl | omega
    try simp only [Act.put, List.setIfInBounds_toArray, List.set_cons_zero, List.set_cons_succ]
    refine T_ready (rs := [1]) (by kernel_rfl) (by simp) ?_
    refine TReady.cons rfl (fun K hK => ?_) TReady.nil
    try go_simp
    refine (HLG.out _ (HL.out.step hS)).mono ?_
    rintro e y1 ⟨A1, c1, rfl, ⟨hg1, hc11, hc12⟩, hb⟩
    have HG1 := Lib.hid hg1
    have hS2 : Below x1.heap.size x1 y1 := hS.trans (hb.mono hS.size)
    clear hb hg1
    try go_simp
    refine hK.out _ _ (fun _ => hS2) (fun _ => ?_)
    clear hK K hS
    have hS := hS2
    clear hS2
    try simp only [Act.put, List.setIfInBounds_toArray, List.set_cons_zero, List.set_cons_succ]
    refine T_ready (rs := [4]) (by kernel_rfl) (by simp) ?_
    refine TReady.cons rfl (fun K hK => ?_) TReady.nil
    try go_simp
    refine (HEN.out _ (HL.out.step hS) (HW.out.step hS)).mono ?_
    rintro e y2 ⟨A2, c2, rfl, ho2, hb⟩
    obtain ⟨hb1, hb2, hby⟩ := ho2.parts (fun k hk => by have := HRO2.out k hk; omega)
    have HBY := Lib.hid hby
    replace HG1 := Lib.hid (HG1.out.step hb)
    have hS2 : Below x1.heap.size x1 y2 := hS.trans (hb.mono hS.size)
    clear hb hby ho2
    try go_simp
    refine hK.out _ _ (fun _ => hS2) (fun _ => ?_)
    clear hK K hS
    have hS := hS2
    clear hS2
    try simp only [Act.put, List.setIfInBounds_toArray, List.set_cons_zero, List.set_cons_succ]
    refine T_ready (rs := [5]) (by kernel_rfl) (by simp) ?_
    refine TReady.cons rfl (fun K hK => ?_) TReady.nil
    try go_simp
    refine (HAF.out A1 A2 c1 c2 y2 HG1.out ⟨hc11, hc12⟩ HBY.out ⟨hb1, hb2⟩).mono ?_
    rintro e y3 ⟨A3, c3, rfl, ⟨hi3, hc31, hc32⟩, hb⟩
    have HI3 := Lib.hid hi3
    have hS2 : Below x1.heap.size x1 y3 := hS.trans (hb.mono hS.size)
    clear hb hi3
    try go_simp
    refine hK.out _ _ (fun _ => hS2) (fun _ => ?_)
    clear hK K hS
    have hS := hS2
    clear hS2
    try simp only [Act.put, List.setIfInBounds_toArray, List.set_cons_zero, List.set_cons_succ]
    refine' T_take (i := 6) (v := _) rfl (by kernel_rfl) (by kernel_rfl) (by kernel_rfl) (by kernel_rfl) (fun _ _ _ h => h) (by kernel_rfl) hS ?_ ?_
    rotate_left 1
    · intro Wv hW
      have g0 := cell_of_ans hW k0
      have g1 := cell_of_ans hW k1
      go_simp
      first | done | with_reducible rfl | omega
    try simp only [Act.put, List.setIfInBounds_toArray, List.set_cons_zero, List.set_cons_succ]
    refine' T_take (i := 7) (v := _) rfl (by kernel_rfl) (by kernel_rfl) (by kernel_rfl) (by kernel_rfl) (fun _ _ _ h => h) (by kernel_rfl) hS ?_ ?_
    rotate_left 1
    · intro Wv hW
      have g0 := cell_of_ans hW k0
      have g1 := cell_of_ans hW k1
      go_simp
      first | done | with_reducible rfl | omega
    try simp only [Act.put, List.setIfInBounds_toArray, List.set_cons_zero, List.set_cons_succ]
    refine' T_take (i := 8) (v := _) rfl (by kernel_rfl) (by kernel_rfl) (by kernel_rfl) (by kernel_rfl) (fun _ _ _ h => h) (by kernel_rfl) hS ?_ ?_
    rotate_left 1
    · intro Wv hW
      have g0 := cell_of_ans hW k0
      have g1 := cell_of_ans hW k1
      go_simp
      first | done | with_reducible rfl | omega
    try simp only [Act.put, List.setIfInBounds_toArray, List.set_cons_zero, List.set_cons_succ]
    refine' T_take (i := 9) (v := _) rfl (by kernel_rfl) (by kernel_rfl) (by kernel_rfl) (by kernel_rfl) (fun _ _ _ h => h) (by kernel_rfl) hS ?_ ?_
    rotate_left 1
    · intro Wv hW
      have g0 := cell_of_ans hW k0
      have g1 := cell_of_ans hW k1
      go_simp
      first | done | with_reducible rfl | omega
    try simp only [Act.put, List.setIfInBounds_toArray, List.set_cons_zero, List.set_cons_succ]
    refine' T_take (i := 10) (v := _) rfl (by kernel_rfl) (by kernel_rfl) (by kernel_rfl) (by kernel_rfl) (fun _ _ _ h => h) (by kernel_rfl) hS ?_ ?_
    rotate_left 1
    · intro Wv hW
      have g0 := cell_of_ans hW k0
      have g1 := cell_of_ans hW k1
      go_simp
      first | done | with_reducible rfl | omega
    try simp only [Act.put, List.setIfInBounds_toArray, List.set_cons_zero, List.set_cons_succ]
    refine T_done (by kernel_rfl) ?_ _
    refine NoPanic.normal ?_
    try go_simp
    replace k0 := cell_of_ans hS k0
    replace k1 := cell_of_ans hS k1
    replace HB := Lib.hid (HB.out.trans (hS.mono HB.out.size))
    replace HL := Lib.hid (HL.out.step hS)
    clear hS HG1 HBY HW
    have hps0 := HLN.out
    obtain ⟨b3, o3, rfl, hb3, hc3⟩ := HI3.out (by omega)
    have HC3 := Lib.hid hc3
    clear hc3 hb3 hps0
    go_wp2_with fail
    go_loopw [7] (fun i wr => ∃ t : Nat, t ≤ T ∧ i = .int .i64 t ∧ Below y3.heap.size y3 wr) (fun i _ => T - (intOf i).toNat)
    case atStart => exact ⟨0, by omega, rfl, Below.refl _ _⟩
    case round =>
      obtain ⟨t, ht, rfl, hb⟩ := hrel
      generalize wr = wt at *
      replace k0 := cell_of_ans hb k0
      replace k1 := cell_of_ans hb k1
      replace HL := Lib.hid (HL.out.step hb)
      replace HI3 := Lib.hid (HI3.out.step hb)
      replace HB := Lib.hid (HB.out.trans (hb.mono HB.out.size))
      have HBR := Lib.hid hb
      clear hb
      by_cases h1 : t < T
      · have hti : (t : Int) < l.teams := by have := HTI.out; omega
        have hta : (t : Int) < (ps.length : Int) := by have := HLN.out; omega
        have HG := Lib.hid (HTG.out t h1)
        have HAS : Hid (askedL l (t : Int) = 0) := HG.out.ask
        have HFI := Lib.hid (fun (c3 : Nat) (W : World) (h : Ints W.heap.size W (some ⟨b3, o3, none⟩) ps) hc => first45_c (some ⟨b3, o3, none⟩) ps c3 t W h hc (by have := HLN.out; omega))
        clear HTG
        cases hca : canB l t
        · have hsu : sureB l t = false := by cases h : sureB l t; rfl; have := HG.out.sc h; rw [hca] at this; cases this
          have hfi : firstB ps t = false := by cases h : firstB ps t; rfl; have := HG.out.fc h; rw [hca] at this; cases this
          have HCAN : Hid (canB l t = false) := hca
          have HSUR : Hid (sureB l t = false) := hsu
          have HFIR : Hid (firstB ps t = false) := hfi
          have HER : Hid (reasonE l (t : Int) = 0) := (HG.out.no hca).1
          have HNO := Lib.hid (HG.out.no hca).2
          clear hca hsu hfi
          go_wp2_with fail
          refine (HLG.out _ HL.out).mono ?_
          rintro e x1 ⟨A4, c4, rfl, ⟨hg4, hc41, hc42⟩, hb⟩
          replace HL := Lib.hid (HL.out.step hb)
          replace HI3 := Lib.hid (HI3.out.step hb)
          replace k0 := cell_of_ans hb k0
          replace k1 := cell_of_ans hb k1
          replace HBR := Lib.hid (HBR.out.trans (hb.mono HBR.out.size))
          replace HB := Lib.hid (HB.out.trans (hb.mono HB.out.size))
          clear hb
          have Hhg4 := Lib.hid hg4
          clear hg4
          go_wp2_with fail
          refine (HCA.out (t : Int) A4 c4 _ Hhg4.out ⟨hc41, hc42⟩).mono ?_
          rw [HG.out.can, HCAN.out, HAS.out]
          rintro e x2 ⟨rfl, hb⟩
          replace HL := Lib.hid (HL.out.step hb)
          replace HI3 := Lib.hid (HI3.out.step hb)
          replace k0 := cell_of_ans hb k0
          replace k1 := cell_of_ans hb k1
          replace HBR := Lib.hid (HBR.out.trans (hb.mono HBR.out.size))
          replace Hhg4 := Lib.hid (Hhg4.out.step hb)
          replace HB := Lib.hid (HB.out.trans (hb.mono HB.out.size))
          clear hb
          clear Hhg4
          go_wp2_with fail
          refine (HLG.out _ HL.out).mono ?_
          rintro e x3 ⟨A5, c5, rfl, ⟨hg5, hc51, hc52⟩, hb⟩
          replace HL := Lib.hid (HL.out.step hb)
          replace HI3 := Lib.hid (HI3.out.step hb)
          replace k0 := cell_of_ans hb k0
          replace k1 := cell_of_ans hb k1
          replace HBR := Lib.hid (HBR.out.trans (hb.mono HBR.out.size))
          replace HB := Lib.hid (HB.out.trans (hb.mono HB.out.size))
          clear hb
          have Hhg5 := Lib.hid hg5
          clear hg5
          go_wp2_with fail
          refine (HSU.out (t : Int) A5 c5 _ Hhg5.out ⟨hc51, hc52⟩).mono ?_
          rw [HG.out.sure, HSUR.out, HAS.out]
          rintro e x4 ⟨rfl, hb⟩
          replace HL := Lib.hid (HL.out.step hb)
          replace HI3 := Lib.hid (HI3.out.step hb)
          replace k0 := cell_of_ans hb k0
          replace k1 := cell_of_ans hb k1
          replace HBR := Lib.hid (HBR.out.trans (hb.mono HBR.out.size))
          replace Hhg5 := Lib.hid (Hhg5.out.step hb)
          replace HB := Lib.hid (HB.out.trans (hb.mono HB.out.size))
          clear hb
          clear Hhg5
          go_wp2_with fail
          refine (HLG.out _ HL.out).mono ?_
          rintro e x5 ⟨A6, c6, rfl, ⟨hg6, hc61, hc62⟩, hb⟩
          replace HL := Lib.hid (HL.out.step hb)
          replace HI3 := Lib.hid (HI3.out.step hb)
          replace k0 := cell_of_ans hb k0
          replace k1 := cell_of_ans hb k1
          replace HBR := Lib.hid (HBR.out.trans (hb.mono HBR.out.size))
          replace HB := Lib.hid (HB.out.trans (hb.mono HB.out.size))
          clear hb
          have Hhg6 := Lib.hid hg6
          clear hg6
          go_wp2_with fail
          refine (HRE.out (t : Int) A6 c6 _ Hhg6.out ⟨hc61, hc62⟩).mono ?_
          rw [HER.out]
          rintro e x6 ⟨A7, c7, rfl, ⟨hi7, hc71, hc72⟩, hb⟩
          replace HL := Lib.hid (HL.out.step hb)
          replace HI3 := Lib.hid (HI3.out.step hb)
          replace k0 := cell_of_ans hb k0
          replace k1 := cell_of_ans hb k1
          replace HBR := Lib.hid (HBR.out.trans (hb.mono HBR.out.size))
          replace Hhg6 := Lib.hid (Hhg6.out.step hb)
          replace HB := Lib.hid (HB.out.trans (hb.mono HB.out.size))
          clear hb
          have Hhi7 := Lib.hid hi7
          clear hi7
          clear Hhg6
          go_wp2_with fail
          refine (HFI.out c3 _ HI3.out ⟨hc31, hc32⟩).mono ?_
          rw [HFIR.out]
          rintro e x7 ⟨rfl, hb⟩
          replace HL := Lib.hid (HL.out.step hb)
          replace HI3 := Lib.hid (HI3.out.step hb)
          replace k0 := cell_of_ans hb k0
          replace k1 := cell_of_ans hb k1
          replace HBR := Lib.hid (HBR.out.trans (hb.mono HBR.out.size))
          replace Hhi7 := Lib.hid (Hhi7.out.step hb)
          replace HB := Lib.hid (HB.out.trans (hb.mono HB.out.size))
          clear hb
          have HRG := Lib.hid HG.out.rng
          have hrl := HG.out.len
          clear HG HFI HRE HSU HCA HLG HFIR HCAN HSUR HER HAS
          generalize reasonL l (t : Int) = rs at *
          go_wp2_with fail
          go_loopw [15, 16] (fun b i wr => ∃ j : Nat, j ≤ rs.length ∧ i = .int .i64 j ∧ b = .bool (exB (fun j => decide (ix ps t < ix ps (ix rs j).toNat)) j) ∧ Below x7.heap.size x7 wr) (fun _ i _ => rs.length - (intOf i).toNat)
          case atStart => exact ⟨0, by omega, rfl, rfl, Below.refl _ _⟩
          case round =>
            obtain ⟨j, hj, rfl, rfl, hb⟩ := hrel
            replace k0 := cell_of_ans hb k0
            replace k1 := cell_of_ans hb k1
            replace Hhi7 := Lib.hid (Hhi7.out.step hb)
            have hxw : Below y3.heap.size y3 wr := HBR.out.trans (hb.mono HBR.out.size)
            have HXW := Lib.hid hb
            clear hb HL HI3 HB
            by_cases hj1 : j < rs.length
            · have hji : (j : Int) < (rs.length : Int) := by omega
              obtain ⟨b7, o7, rfl, hb7, d7⟩ := Hhi7.out.at_ hj1
              obtain ⟨u0, uT⟩ := HRG.out j hj1
              have HEX : Hid (exB (fun j => decide (ix ps t < ix ps (ix rs j).toNat)) (j + 1) = (exB (fun j => decide (ix ps t < ix ps (ix rs j).toNat)) j || decide (ix ps t < ix ps (ix rs j).toNat))) := rfl
              obtain ⟨u, hu⟩ : ∃ u : Nat, ix rs j = (u : Int) := ⟨(ix rs j).toNat, by omega⟩
              rw [hu, Int.toNat_natCast] at HEX
              rw [hu] at d7 u0 uT
              have d3t := cell_of_ans hxw (HC3.out t (by have := HLN.out; omega))
              have d3u := cell_of_ans hxw (HC3.out u (by have := HLN.out; omega))
              have hua : (u : Int) < (ps.length : Int) := by have := HLN.out; omega
              have hwt : IntKind.i64.wrap (l.teams - 1) = l.teams - 1 := IntWalk.i64_in _ (by have := HTI.out; omega)
              have HIN : Hid (∀ W, Calls Try.prog 46 #[.int .i64 (u : Int), .int .i64 0, .int .i64 (l.teams - 1)] W (Same W (.bool true))) := fun W => by
                have h := in46_c (u : Int) 0 (l.teams - 1) W
                rwa [show inB (u : Int) 0 (l.teams - 1) = true from by rw [inB_eq]; have := HTI.out; omega] at h
              clear hxw hu u0 HRG HNO Hhi7
              generalize exB (fun j => decide (ix ps t < ix ps (ix rs j).toNat)) j = ex0 at *
              generalize ix ps t = pt at *
              generalize ix ps u = pu at *
              go_upto_region 18 with fail
              go_quiet ((go_at_call 46; exact Calls.quiet_of_same ((HIN.out _).mono fun e w2 h => ⟨h.1, h.2.symm⟩)))
              have hbq : Below wr.heap.size wr (wr.drewN nq) := below_drewN (Below.refl _ _) nq
              replace k0 := cell_of_ans hbq k0
              replace k1 := cell_of_ans hbq k1
              replace d7 := cell_of_ans hbq d7
              replace d3t := cell_of_ans hbq d3t
              replace d3u := cell_of_ans hbq d3u
              replace HXW := Lib.hid (HXW.out.trans (hbq.mono HXW.out.size))
              clear hbq
              generalize wr.drewN nq = wq at *
              cases ex0
              · by_cases hpu : pt < pu
                · go_upto_region 20 with fail
                  go_quiet (fail)
                  have hbq : Below wq.heap.size wq (wq.drewN nq) := below_drewN (Below.refl _ _) nq
                  replace k0 := cell_of_ans hbq k0
                  replace k1 := cell_of_ans hbq k1
                  replace d7 := cell_of_ans hbq d7
                  replace d3t := cell_of_ans hbq d3t
                  replace d3u := cell_of_ans hbq d3u
                  replace HXW := Lib.hid (HXW.out.trans (hbq.mono HXW.out.size))
                  clear hbq
                  generalize wq.drewN nq = wr at *
                  go_wp2_with fail
                  go_roundw
                  case rel => exact ⟨j + 1, by omega, by go_num, by rw [HEX.out, decide_eq_true hpu]; first | done | rfl, HXW.out⟩
                  case measure => simp [intOf]; omega
                · go_upto_region 20 with fail
                  go_quiet (fail)
                  have hbq : Below wq.heap.size wq (wq.drewN nq) := below_drewN (Below.refl _ _) nq
                  replace k0 := cell_of_ans hbq k0
                  replace k1 := cell_of_ans hbq k1
                  replace d7 := cell_of_ans hbq d7
                  replace d3t := cell_of_ans hbq d3t
                  replace d3u := cell_of_ans hbq d3u
                  replace HXW := Lib.hid (HXW.out.trans (hbq.mono HXW.out.size))
                  clear hbq
                  generalize wq.drewN nq = wr at *
                  go_wp2_with fail
                  go_roundw
                  case rel => exact ⟨j + 1, by omega, by go_num, by rw [HEX.out, decide_eq_false hpu]; first | done | rfl, HXW.out⟩
                  case measure => simp [intOf]; omega
              · go_upto_region 20 with fail
                go_quiet (fail)
                have hbq : Below wq.heap.size wq (wq.drewN nq) := below_drewN (Below.refl _ _) nq
                replace k0 := cell_of_ans hbq k0
                replace k1 := cell_of_ans hbq k1
                replace d7 := cell_of_ans hbq d7
                replace d3t := cell_of_ans hbq d3t
                replace d3u := cell_of_ans hbq d3u
                replace HXW := Lib.hid (HXW.out.trans (hbq.mono HXW.out.size))
                clear hbq
                generalize wq.drewN nq = wr at *
                go_wp2_with fail
                go_roundw
                case rel => exact ⟨j + 1, by omega, by go_num, by rw [HEX.out, Bool.true_or]; first | done | rfl, HXW.out⟩
                case measure => simp [intOf]; omega
            · obtain rfl : j = rs.length := by omega
              have hji : ¬ (rs.length : Int) < (rs.length : Int) := by omega
              have HBF : Hid (Below y3.heap.size y3 wr) := hxw
              clear hxw HRG
              rw [HNO.out]
              clear HNO
              go_wp2_with fail
              go_roundw
              case rel => exact ⟨t + 1, by omega, by go_num, HBF.out⟩
              case measure => simp [intOf]; omega
        · cases hsu : sureB l t
          · cases hfi : firstB ps t
            · have HCAN : Hid (canB l t = true) := hca
              have HSUR : Hid (sureB l t = false) := hsu
              have HFIR : Hid (firstB ps t = false) := hfi
              have HER : Hid (reasonE l (t : Int) = 7) := (HG.out.yes hca).2
              clear hca hsu hfi
              go_wp2_with fail
              refine (HLG.out _ HL.out).mono ?_
              rintro e x8 ⟨A4, c4, rfl, ⟨hg4, hc41, hc42⟩, hb⟩
              replace HL := Lib.hid (HL.out.step hb)
              replace HI3 := Lib.hid (HI3.out.step hb)
              replace k0 := cell_of_ans hb k0
              replace k1 := cell_of_ans hb k1
              replace HBR := Lib.hid (HBR.out.trans (hb.mono HBR.out.size))
              replace HB := Lib.hid (HB.out.trans (hb.mono HB.out.size))
              clear hb
              have Hhg4 := Lib.hid hg4
              clear hg4
              go_wp2_with fail
              refine (HCA.out (t : Int) A4 c4 _ Hhg4.out ⟨hc41, hc42⟩).mono ?_
              rw [HG.out.can, HCAN.out, HAS.out]
              rintro e x9 ⟨rfl, hb⟩
              replace HL := Lib.hid (HL.out.step hb)
              replace HI3 := Lib.hid (HI3.out.step hb)
              replace k0 := cell_of_ans hb k0
              replace k1 := cell_of_ans hb k1
              replace HBR := Lib.hid (HBR.out.trans (hb.mono HBR.out.size))
              replace Hhg4 := Lib.hid (Hhg4.out.step hb)
              replace HB := Lib.hid (HB.out.trans (hb.mono HB.out.size))
              clear hb
              clear Hhg4
              go_wp2_with fail
              refine (HLG.out _ HL.out).mono ?_
              rintro e x10 ⟨A5, c5, rfl, ⟨hg5, hc51, hc52⟩, hb⟩
              replace HL := Lib.hid (HL.out.step hb)
              replace HI3 := Lib.hid (HI3.out.step hb)
              replace k0 := cell_of_ans hb k0
              replace k1 := cell_of_ans hb k1
              replace HBR := Lib.hid (HBR.out.trans (hb.mono HBR.out.size))
              replace HB := Lib.hid (HB.out.trans (hb.mono HB.out.size))
              clear hb
              have Hhg5 := Lib.hid hg5
              clear hg5
              go_wp2_with fail
              refine (HSU.out (t : Int) A5 c5 _ Hhg5.out ⟨hc51, hc52⟩).mono ?_
              rw [HG.out.sure, HSUR.out, HAS.out]
              rintro e x11 ⟨rfl, hb⟩
              replace HL := Lib.hid (HL.out.step hb)
              replace HI3 := Lib.hid (HI3.out.step hb)
              replace k0 := cell_of_ans hb k0
              replace k1 := cell_of_ans hb k1
              replace HBR := Lib.hid (HBR.out.trans (hb.mono HBR.out.size))
              replace Hhg5 := Lib.hid (Hhg5.out.step hb)
              replace HB := Lib.hid (HB.out.trans (hb.mono HB.out.size))
              clear hb
              clear Hhg5
              go_wp2_with fail
              refine (HLG.out _ HL.out).mono ?_
              rintro e x12 ⟨A6, c6, rfl, ⟨hg6, hc61, hc62⟩, hb⟩
              replace HL := Lib.hid (HL.out.step hb)
              replace HI3 := Lib.hid (HI3.out.step hb)
              replace k0 := cell_of_ans hb k0
              replace k1 := cell_of_ans hb k1
              replace HBR := Lib.hid (HBR.out.trans (hb.mono HBR.out.size))
              replace HB := Lib.hid (HB.out.trans (hb.mono HB.out.size))
              clear hb
              have Hhg6 := Lib.hid hg6
              clear hg6
              go_wp2_with fail
              refine (HRE.out (t : Int) A6 c6 _ Hhg6.out ⟨hc61, hc62⟩).mono ?_
              rw [HER.out]
              rintro e x13 ⟨A7, c7, rfl, ⟨hi7, hc71, hc72⟩, hb⟩
              replace HL := Lib.hid (HL.out.step hb)
              replace HI3 := Lib.hid (HI3.out.step hb)
              replace k0 := cell_of_ans hb k0
              replace k1 := cell_of_ans hb k1
              replace HBR := Lib.hid (HBR.out.trans (hb.mono HBR.out.size))
              replace Hhg6 := Lib.hid (Hhg6.out.step hb)
              replace HB := Lib.hid (HB.out.trans (hb.mono HB.out.size))
              clear hb
              have Hhi7 := Lib.hid hi7
              clear hi7
              clear Hhg6
              go_wp2_with fail
              refine (HFI.out c3 _ HI3.out ⟨hc31, hc32⟩).mono ?_
              rw [HFIR.out]
              rintro e x14 ⟨rfl, hb⟩
              replace HL := Lib.hid (HL.out.step hb)
              replace HI3 := Lib.hid (HI3.out.step hb)
              replace k0 := cell_of_ans hb k0
              replace k1 := cell_of_ans hb k1
              replace HBR := Lib.hid (HBR.out.trans (hb.mono HBR.out.size))
              replace Hhi7 := Lib.hid (Hhi7.out.step hb)
              replace HB := Lib.hid (HB.out.trans (hb.mono HB.out.size))
              clear hb
              have HRG := Lib.hid HG.out.rng
              have hrl := HG.out.len
              clear HG HFI HRE HSU HCA HLG HFIR HCAN HSUR HER HAS
              generalize reasonL l (t : Int) = rs at *
              go_wp2_with fail
              go_loopw [15, 16] (fun b i wr => ∃ j : Nat, j ≤ rs.length ∧ i = .int .i64 j ∧ b = .bool (exB (fun j => decide (ix ps t < ix ps (ix rs j).toNat)) j) ∧ Below x14.heap.size x14 wr) (fun _ i _ => rs.length - (intOf i).toNat)
              case atStart => exact ⟨0, by omega, rfl, rfl, Below.refl _ _⟩
              case round =>
                obtain ⟨j, hj, rfl, rfl, hb⟩ := hrel
                replace k0 := cell_of_ans hb k0
                replace k1 := cell_of_ans hb k1
                replace Hhi7 := Lib.hid (Hhi7.out.step hb)
                have hxw : Below y3.heap.size y3 wr := HBR.out.trans (hb.mono HBR.out.size)
                have HXW := Lib.hid hb
                clear hb HL HI3 HB
                by_cases hj1 : j < rs.length
                · have hji : (j : Int) < (rs.length : Int) := by omega
                  obtain ⟨b7, o7, rfl, hb7, d7⟩ := Hhi7.out.at_ hj1
                  obtain ⟨u0, uT⟩ := HRG.out j hj1
                  have HEX : Hid (exB (fun j => decide (ix ps t < ix ps (ix rs j).toNat)) (j + 1) = (exB (fun j => decide (ix ps t < ix ps (ix rs j).toNat)) j || decide (ix ps t < ix ps (ix rs j).toNat))) := rfl
                  obtain ⟨u, hu⟩ : ∃ u : Nat, ix rs j = (u : Int) := ⟨(ix rs j).toNat, by omega⟩
                  rw [hu, Int.toNat_natCast] at HEX
                  rw [hu] at d7 u0 uT
                  have d3t := cell_of_ans hxw (HC3.out t (by have := HLN.out; omega))
                  have d3u := cell_of_ans hxw (HC3.out u (by have := HLN.out; omega))
                  have hua : (u : Int) < (ps.length : Int) := by have := HLN.out; omega
                  have hwt : IntKind.i64.wrap (l.teams - 1) = l.teams - 1 := IntWalk.i64_in _ (by have := HTI.out; omega)
                  have HIN : Hid (∀ W, Calls Try.prog 46 #[.int .i64 (u : Int), .int .i64 0, .int .i64 (l.teams - 1)] W (Same W (.bool true))) := fun W => by
                    have h := in46_c (u : Int) 0 (l.teams - 1) W
                    rwa [show inB (u : Int) 0 (l.teams - 1) = true from by rw [inB_eq]; have := HTI.out; omega] at h
                  clear hxw hu u0 HRG Hhi7
                  generalize exB (fun j => decide (ix ps t < ix ps (ix rs j).toNat)) j = ex0 at *
                  generalize ix ps t = pt at *
                  generalize ix ps u = pu at *
                  go_upto_region 18 with fail
                  go_quiet ((go_at_call 46; exact Calls.quiet_of_same ((HIN.out _).mono fun e w2 h => ⟨h.1, h.2.symm⟩)))
                  have hbq : Below wr.heap.size wr (wr.drewN nq) := below_drewN (Below.refl _ _) nq
                  replace k0 := cell_of_ans hbq k0
                  replace k1 := cell_of_ans hbq k1
                  replace d7 := cell_of_ans hbq d7
                  replace d3t := cell_of_ans hbq d3t
                  replace d3u := cell_of_ans hbq d3u
                  replace HXW := Lib.hid (HXW.out.trans (hbq.mono HXW.out.size))
                  clear hbq
                  generalize wr.drewN nq = wq at *
                  cases ex0
                  · by_cases hpu : pt < pu
                    · go_upto_region 20 with fail
                      go_quiet (fail)
                      have hbq : Below wq.heap.size wq (wq.drewN nq) := below_drewN (Below.refl _ _) nq
                      replace k0 := cell_of_ans hbq k0
                      replace k1 := cell_of_ans hbq k1
                      replace d7 := cell_of_ans hbq d7
                      replace d3t := cell_of_ans hbq d3t
                      replace d3u := cell_of_ans hbq d3u
                      replace HXW := Lib.hid (HXW.out.trans (hbq.mono HXW.out.size))
                      clear hbq
                      generalize wq.drewN nq = wr at *
                      go_wp2_with fail
                      go_roundw
                      case rel => exact ⟨j + 1, by omega, by go_num, by rw [HEX.out, decide_eq_true hpu]; first | done | rfl, HXW.out⟩
                      case measure => simp [intOf]; omega
                    · go_upto_region 20 with fail
                      go_quiet (fail)
                      have hbq : Below wq.heap.size wq (wq.drewN nq) := below_drewN (Below.refl _ _) nq
                      replace k0 := cell_of_ans hbq k0
                      replace k1 := cell_of_ans hbq k1
                      replace d7 := cell_of_ans hbq d7
                      replace d3t := cell_of_ans hbq d3t
                      replace d3u := cell_of_ans hbq d3u
                      replace HXW := Lib.hid (HXW.out.trans (hbq.mono HXW.out.size))
                      clear hbq
                      generalize wq.drewN nq = wr at *
                      go_wp2_with fail
                      go_roundw
                      case rel => exact ⟨j + 1, by omega, by go_num, by rw [HEX.out, decide_eq_false hpu]; first | done | rfl, HXW.out⟩
                      case measure => simp [intOf]; omega
                  · go_upto_region 20 with fail
                    go_quiet (fail)
                    have hbq : Below wq.heap.size wq (wq.drewN nq) := below_drewN (Below.refl _ _) nq
                    replace k0 := cell_of_ans hbq k0
                    replace k1 := cell_of_ans hbq k1
                    replace d7 := cell_of_ans hbq d7
                    replace d3t := cell_of_ans hbq d3t
                    replace d3u := cell_of_ans hbq d3u
                    replace HXW := Lib.hid (HXW.out.trans (hbq.mono HXW.out.size))
                    clear hbq
                    generalize wq.drewN nq = wr at *
                    go_wp2_with fail
                    go_roundw
                    case rel => exact ⟨j + 1, by omega, by go_num, by rw [HEX.out, Bool.true_or]; first | done | rfl, HXW.out⟩
                    case measure => simp [intOf]; omega
                · obtain rfl : j = rs.length := by omega
                  have hji : ¬ (rs.length : Int) < (rs.length : Int) := by omega
                  have HBF : Hid (Below y3.heap.size y3 wr) := hxw
                  clear hxw HRG
                  generalize exB (fun j => decide (ix ps t < ix ps (ix rs j).toNat)) rs.length = ex0 at *
                  go_wp2_with fail
                  go_roundw
                  case rel => exact ⟨t + 1, by omega, by go_num, HBF.out⟩
                  case measure => simp [intOf]; omega
            · have HCAN : Hid (canB l t = true) := hca
              have HSUR : Hid (sureB l t = false) := hsu
              have HFIR : Hid (firstB ps t = true) := hfi
              have HER : Hid (reasonE l (t : Int) = 7) := (HG.out.yes hca).2
              clear hca hsu hfi
              go_wp2_with fail
              refine (HLG.out _ HL.out).mono ?_
              rintro e x15 ⟨A4, c4, rfl, ⟨hg4, hc41, hc42⟩, hb⟩
              replace HL := Lib.hid (HL.out.step hb)
              replace HI3 := Lib.hid (HI3.out.step hb)
              replace k0 := cell_of_ans hb k0
              replace k1 := cell_of_ans hb k1
              replace HBR := Lib.hid (HBR.out.trans (hb.mono HBR.out.size))
              replace HB := Lib.hid (HB.out.trans (hb.mono HB.out.size))
              clear hb
              have Hhg4 := Lib.hid hg4
              clear hg4
              go_wp2_with fail
              refine (HCA.out (t : Int) A4 c4 _ Hhg4.out ⟨hc41, hc42⟩).mono ?_
              rw [HG.out.can, HCAN.out, HAS.out]
              rintro e x16 ⟨rfl, hb⟩
              replace HL := Lib.hid (HL.out.step hb)
              replace HI3 := Lib.hid (HI3.out.step hb)
              replace k0 := cell_of_ans hb k0
              replace k1 := cell_of_ans hb k1
              replace HBR := Lib.hid (HBR.out.trans (hb.mono HBR.out.size))
              replace Hhg4 := Lib.hid (Hhg4.out.step hb)
              replace HB := Lib.hid (HB.out.trans (hb.mono HB.out.size))
              clear hb
              clear Hhg4
              go_wp2_with fail
              refine (HLG.out _ HL.out).mono ?_
              rintro e x17 ⟨A5, c5, rfl, ⟨hg5, hc51, hc52⟩, hb⟩
              replace HL := Lib.hid (HL.out.step hb)
              replace HI3 := Lib.hid (HI3.out.step hb)
              replace k0 := cell_of_ans hb k0
              replace k1 := cell_of_ans hb k1
              replace HBR := Lib.hid (HBR.out.trans (hb.mono HBR.out.size))
              replace HB := Lib.hid (HB.out.trans (hb.mono HB.out.size))
              clear hb
              have Hhg5 := Lib.hid hg5
              clear hg5
              go_wp2_with fail
              refine (HSU.out (t : Int) A5 c5 _ Hhg5.out ⟨hc51, hc52⟩).mono ?_
              rw [HG.out.sure, HSUR.out, HAS.out]
              rintro e x18 ⟨rfl, hb⟩
              replace HL := Lib.hid (HL.out.step hb)
              replace HI3 := Lib.hid (HI3.out.step hb)
              replace k0 := cell_of_ans hb k0
              replace k1 := cell_of_ans hb k1
              replace HBR := Lib.hid (HBR.out.trans (hb.mono HBR.out.size))
              replace Hhg5 := Lib.hid (Hhg5.out.step hb)
              replace HB := Lib.hid (HB.out.trans (hb.mono HB.out.size))
              clear hb
              clear Hhg5
              go_wp2_with fail
              refine (HLG.out _ HL.out).mono ?_
              rintro e x19 ⟨A6, c6, rfl, ⟨hg6, hc61, hc62⟩, hb⟩
              replace HL := Lib.hid (HL.out.step hb)
              replace HI3 := Lib.hid (HI3.out.step hb)
              replace k0 := cell_of_ans hb k0
              replace k1 := cell_of_ans hb k1
              replace HBR := Lib.hid (HBR.out.trans (hb.mono HBR.out.size))
              replace HB := Lib.hid (HB.out.trans (hb.mono HB.out.size))
              clear hb
              have Hhg6 := Lib.hid hg6
              clear hg6
              go_wp2_with fail
              refine (HRE.out (t : Int) A6 c6 _ Hhg6.out ⟨hc61, hc62⟩).mono ?_
              rw [HER.out]
              rintro e x20 ⟨A7, c7, rfl, ⟨hi7, hc71, hc72⟩, hb⟩
              replace HL := Lib.hid (HL.out.step hb)
              replace HI3 := Lib.hid (HI3.out.step hb)
              replace k0 := cell_of_ans hb k0
              replace k1 := cell_of_ans hb k1
              replace HBR := Lib.hid (HBR.out.trans (hb.mono HBR.out.size))
              replace Hhg6 := Lib.hid (Hhg6.out.step hb)
              replace HB := Lib.hid (HB.out.trans (hb.mono HB.out.size))
              clear hb
              have Hhi7 := Lib.hid hi7
              clear hi7
              clear Hhg6
              go_wp2_with fail
              refine (HFI.out c3 _ HI3.out ⟨hc31, hc32⟩).mono ?_
              rw [HFIR.out]
              rintro e x21 ⟨rfl, hb⟩
              replace HL := Lib.hid (HL.out.step hb)
              replace HI3 := Lib.hid (HI3.out.step hb)
              replace k0 := cell_of_ans hb k0
              replace k1 := cell_of_ans hb k1
              replace HBR := Lib.hid (HBR.out.trans (hb.mono HBR.out.size))
              replace Hhi7 := Lib.hid (Hhi7.out.step hb)
              replace HB := Lib.hid (HB.out.trans (hb.mono HB.out.size))
              clear hb
              have HRG := Lib.hid HG.out.rng
              have hrl := HG.out.len
              clear HG HFI HRE HSU HCA HLG HFIR HCAN HSUR HER HAS
              generalize reasonL l (t : Int) = rs at *
              go_wp2_with fail
              go_loopw [15, 16] (fun b i wr => ∃ j : Nat, j ≤ rs.length ∧ i = .int .i64 j ∧ b = .bool (exB (fun j => decide (ix ps t < ix ps (ix rs j).toNat)) j) ∧ Below x21.heap.size x21 wr) (fun _ i _ => rs.length - (intOf i).toNat)
              case atStart => exact ⟨0, by omega, rfl, rfl, Below.refl _ _⟩
              case round =>
                obtain ⟨j, hj, rfl, rfl, hb⟩ := hrel
                replace k0 := cell_of_ans hb k0
                replace k1 := cell_of_ans hb k1
                replace Hhi7 := Lib.hid (Hhi7.out.step hb)
                have hxw : Below y3.heap.size y3 wr := HBR.out.trans (hb.mono HBR.out.size)
                have HXW := Lib.hid hb
                clear hb HL HI3 HB
                by_cases hj1 : j < rs.length
                · have hji : (j : Int) < (rs.length : Int) := by omega
                  obtain ⟨b7, o7, rfl, hb7, d7⟩ := Hhi7.out.at_ hj1
                  obtain ⟨u0, uT⟩ := HRG.out j hj1
                  have HEX : Hid (exB (fun j => decide (ix ps t < ix ps (ix rs j).toNat)) (j + 1) = (exB (fun j => decide (ix ps t < ix ps (ix rs j).toNat)) j || decide (ix ps t < ix ps (ix rs j).toNat))) := rfl
                  obtain ⟨u, hu⟩ : ∃ u : Nat, ix rs j = (u : Int) := ⟨(ix rs j).toNat, by omega⟩
                  rw [hu, Int.toNat_natCast] at HEX
                  rw [hu] at d7 u0 uT
                  have d3t := cell_of_ans hxw (HC3.out t (by have := HLN.out; omega))
                  have d3u := cell_of_ans hxw (HC3.out u (by have := HLN.out; omega))
                  have hua : (u : Int) < (ps.length : Int) := by have := HLN.out; omega
                  have hwt : IntKind.i64.wrap (l.teams - 1) = l.teams - 1 := IntWalk.i64_in _ (by have := HTI.out; omega)
                  have HIN : Hid (∀ W, Calls Try.prog 46 #[.int .i64 (u : Int), .int .i64 0, .int .i64 (l.teams - 1)] W (Same W (.bool true))) := fun W => by
                    have h := in46_c (u : Int) 0 (l.teams - 1) W
                    rwa [show inB (u : Int) 0 (l.teams - 1) = true from by rw [inB_eq]; have := HTI.out; omega] at h
                  clear hxw hu u0 HRG Hhi7
                  generalize exB (fun j => decide (ix ps t < ix ps (ix rs j).toNat)) j = ex0 at *
                  generalize ix ps t = pt at *
                  generalize ix ps u = pu at *
                  go_upto_region 18 with fail
                  go_quiet ((go_at_call 46; exact Calls.quiet_of_same ((HIN.out _).mono fun e w2 h => ⟨h.1, h.2.symm⟩)))
                  have hbq : Below wr.heap.size wr (wr.drewN nq) := below_drewN (Below.refl _ _) nq
                  replace k0 := cell_of_ans hbq k0
                  replace k1 := cell_of_ans hbq k1
                  replace d7 := cell_of_ans hbq d7
                  replace d3t := cell_of_ans hbq d3t
                  replace d3u := cell_of_ans hbq d3u
                  replace HXW := Lib.hid (HXW.out.trans (hbq.mono HXW.out.size))
                  clear hbq
                  generalize wr.drewN nq = wq at *
                  cases ex0
                  · by_cases hpu : pt < pu
                    · go_upto_region 20 with fail
                      go_quiet (fail)
                      have hbq : Below wq.heap.size wq (wq.drewN nq) := below_drewN (Below.refl _ _) nq
                      replace k0 := cell_of_ans hbq k0
                      replace k1 := cell_of_ans hbq k1
                      replace d7 := cell_of_ans hbq d7
                      replace d3t := cell_of_ans hbq d3t
                      replace d3u := cell_of_ans hbq d3u
                      replace HXW := Lib.hid (HXW.out.trans (hbq.mono HXW.out.size))
                      clear hbq
                      generalize wq.drewN nq = wr at *
                      go_wp2_with fail
                      go_roundw
                      case rel => exact ⟨j + 1, by omega, by go_num, by rw [HEX.out, decide_eq_true hpu]; first | done | rfl, HXW.out⟩
                      case measure => simp [intOf]; omega
                    · go_upto_region 20 with fail
                      go_quiet (fail)
                      have hbq : Below wq.heap.size wq (wq.drewN nq) := below_drewN (Below.refl _ _) nq
                      replace k0 := cell_of_ans hbq k0
                      replace k1 := cell_of_ans hbq k1
                      replace d7 := cell_of_ans hbq d7
                      replace d3t := cell_of_ans hbq d3t
                      replace d3u := cell_of_ans hbq d3u
                      replace HXW := Lib.hid (HXW.out.trans (hbq.mono HXW.out.size))
                      clear hbq
                      generalize wq.drewN nq = wr at *
                      go_wp2_with fail
                      go_roundw
                      case rel => exact ⟨j + 1, by omega, by go_num, by rw [HEX.out, decide_eq_false hpu]; first | done | rfl, HXW.out⟩
                      case measure => simp [intOf]; omega
                  · go_upto_region 20 with fail
                    go_quiet (fail)
                    have hbq : Below wq.heap.size wq (wq.drewN nq) := below_drewN (Below.refl _ _) nq
                    replace k0 := cell_of_ans hbq k0
                    replace k1 := cell_of_ans hbq k1
                    replace d7 := cell_of_ans hbq d7
                    replace d3t := cell_of_ans hbq d3t
                    replace d3u := cell_of_ans hbq d3u
                    replace HXW := Lib.hid (HXW.out.trans (hbq.mono HXW.out.size))
                    clear hbq
                    generalize wq.drewN nq = wr at *
                    go_wp2_with fail
                    go_roundw
                    case rel => exact ⟨j + 1, by omega, by go_num, by rw [HEX.out, Bool.true_or]; first | done | rfl, HXW.out⟩
                    case measure => simp [intOf]; omega
                · obtain rfl : j = rs.length := by omega
                  have hji : ¬ (rs.length : Int) < (rs.length : Int) := by omega
                  have HBF : Hid (Below y3.heap.size y3 wr) := hxw
                  clear hxw HRG
                  generalize exB (fun j => decide (ix ps t < ix ps (ix rs j).toNat)) rs.length = ex0 at *
                  go_wp2_with fail
                  go_roundw
                  case rel => exact ⟨t + 1, by omega, by go_num, HBF.out⟩
                  case measure => simp [intOf]; omega
          · have hfi : firstB ps t = true := HG.out.sf hsu
            have HCAN : Hid (canB l t = true) := hca
            have HSUR : Hid (sureB l t = true) := hsu
            have HFIR : Hid (firstB ps t = true) := hfi
            have HER : Hid (reasonE l (t : Int) = 7) := (HG.out.yes hca).2
            clear hca hsu hfi
            go_wp2_with fail
            refine (HLG.out _ HL.out).mono ?_
            rintro e x22 ⟨A4, c4, rfl, ⟨hg4, hc41, hc42⟩, hb⟩
            replace HL := Lib.hid (HL.out.step hb)
            replace HI3 := Lib.hid (HI3.out.step hb)
            replace k0 := cell_of_ans hb k0
            replace k1 := cell_of_ans hb k1
            replace HBR := Lib.hid (HBR.out.trans (hb.mono HBR.out.size))
            replace HB := Lib.hid (HB.out.trans (hb.mono HB.out.size))
            clear hb
            have Hhg4 := Lib.hid hg4
            clear hg4
            go_wp2_with fail
            refine (HCA.out (t : Int) A4 c4 _ Hhg4.out ⟨hc41, hc42⟩).mono ?_
            rw [HG.out.can, HCAN.out, HAS.out]
            rintro e x23 ⟨rfl, hb⟩
            replace HL := Lib.hid (HL.out.step hb)
            replace HI3 := Lib.hid (HI3.out.step hb)
            replace k0 := cell_of_ans hb k0
            replace k1 := cell_of_ans hb k1
            replace HBR := Lib.hid (HBR.out.trans (hb.mono HBR.out.size))
            replace Hhg4 := Lib.hid (Hhg4.out.step hb)
            replace HB := Lib.hid (HB.out.trans (hb.mono HB.out.size))
            clear hb
            clear Hhg4
            go_wp2_with fail
            refine (HLG.out _ HL.out).mono ?_
            rintro e x24 ⟨A5, c5, rfl, ⟨hg5, hc51, hc52⟩, hb⟩
            replace HL := Lib.hid (HL.out.step hb)
            replace HI3 := Lib.hid (HI3.out.step hb)
            replace k0 := cell_of_ans hb k0
            replace k1 := cell_of_ans hb k1
            replace HBR := Lib.hid (HBR.out.trans (hb.mono HBR.out.size))
            replace HB := Lib.hid (HB.out.trans (hb.mono HB.out.size))
            clear hb
            have Hhg5 := Lib.hid hg5
            clear hg5
            go_wp2_with fail
            refine (HSU.out (t : Int) A5 c5 _ Hhg5.out ⟨hc51, hc52⟩).mono ?_
            rw [HG.out.sure, HSUR.out, HAS.out]
            rintro e x25 ⟨rfl, hb⟩
            replace HL := Lib.hid (HL.out.step hb)
            replace HI3 := Lib.hid (HI3.out.step hb)
            replace k0 := cell_of_ans hb k0
            replace k1 := cell_of_ans hb k1
            replace HBR := Lib.hid (HBR.out.trans (hb.mono HBR.out.size))
            replace Hhg5 := Lib.hid (Hhg5.out.step hb)
            replace HB := Lib.hid (HB.out.trans (hb.mono HB.out.size))
            clear hb
            clear Hhg5
            go_wp2_with fail
            refine (HLG.out _ HL.out).mono ?_
            rintro e x26 ⟨A6, c6, rfl, ⟨hg6, hc61, hc62⟩, hb⟩
            replace HL := Lib.hid (HL.out.step hb)
            replace HI3 := Lib.hid (HI3.out.step hb)
            replace k0 := cell_of_ans hb k0
            replace k1 := cell_of_ans hb k1
            replace HBR := Lib.hid (HBR.out.trans (hb.mono HBR.out.size))
            replace HB := Lib.hid (HB.out.trans (hb.mono HB.out.size))
            clear hb
            have Hhg6 := Lib.hid hg6
            clear hg6
            go_wp2_with fail
            refine (HRE.out (t : Int) A6 c6 _ Hhg6.out ⟨hc61, hc62⟩).mono ?_
            rw [HER.out]
            rintro e x27 ⟨A7, c7, rfl, ⟨hi7, hc71, hc72⟩, hb⟩
            replace HL := Lib.hid (HL.out.step hb)
            replace HI3 := Lib.hid (HI3.out.step hb)
            replace k0 := cell_of_ans hb k0
            replace k1 := cell_of_ans hb k1
            replace HBR := Lib.hid (HBR.out.trans (hb.mono HBR.out.size))
            replace Hhg6 := Lib.hid (Hhg6.out.step hb)
            replace HB := Lib.hid (HB.out.trans (hb.mono HB.out.size))
            clear hb
            have Hhi7 := Lib.hid hi7
            clear hi7
            clear Hhg6
            go_wp2_with fail
            refine (HFI.out c3 _ HI3.out ⟨hc31, hc32⟩).mono ?_
            rw [HFIR.out]
            rintro e x28 ⟨rfl, hb⟩
            replace HL := Lib.hid (HL.out.step hb)
            replace HI3 := Lib.hid (HI3.out.step hb)
            replace k0 := cell_of_ans hb k0
            replace k1 := cell_of_ans hb k1
            replace HBR := Lib.hid (HBR.out.trans (hb.mono HBR.out.size))
            replace Hhi7 := Lib.hid (Hhi7.out.step hb)
            replace HB := Lib.hid (HB.out.trans (hb.mono HB.out.size))
            clear hb
            have HRG := Lib.hid HG.out.rng
            have hrl := HG.out.len
            clear HG HFI HRE HSU HCA HLG HFIR HCAN HSUR HER HAS
            generalize reasonL l (t : Int) = rs at *
            go_wp2_with fail
            go_loopw [15, 16] (fun b i wr => ∃ j : Nat, j ≤ rs.length ∧ i = .int .i64 j ∧ b = .bool (exB (fun j => decide (ix ps t < ix ps (ix rs j).toNat)) j) ∧ Below x28.heap.size x28 wr) (fun _ i _ => rs.length - (intOf i).toNat)
            case atStart => exact ⟨0, by omega, rfl, rfl, Below.refl _ _⟩
            case round =>
              obtain ⟨j, hj, rfl, rfl, hb⟩ := hrel
              replace k0 := cell_of_ans hb k0
              replace k1 := cell_of_ans hb k1
              replace Hhi7 := Lib.hid (Hhi7.out.step hb)
              have hxw : Below y3.heap.size y3 wr := HBR.out.trans (hb.mono HBR.out.size)
              have HXW := Lib.hid hb
              clear hb HL HI3 HB
              by_cases hj1 : j < rs.length
              · have hji : (j : Int) < (rs.length : Int) := by omega
                obtain ⟨b7, o7, rfl, hb7, d7⟩ := Hhi7.out.at_ hj1
                obtain ⟨u0, uT⟩ := HRG.out j hj1
                have HEX : Hid (exB (fun j => decide (ix ps t < ix ps (ix rs j).toNat)) (j + 1) = (exB (fun j => decide (ix ps t < ix ps (ix rs j).toNat)) j || decide (ix ps t < ix ps (ix rs j).toNat))) := rfl
                obtain ⟨u, hu⟩ : ∃ u : Nat, ix rs j = (u : Int) := ⟨(ix rs j).toNat, by omega⟩
                rw [hu, Int.toNat_natCast] at HEX
                rw [hu] at d7 u0 uT
                have d3t := cell_of_ans hxw (HC3.out t (by have := HLN.out; omega))
                have d3u := cell_of_ans hxw (HC3.out u (by have := HLN.out; omega))
                have hua : (u : Int) < (ps.length : Int) := by have := HLN.out; omega
                have hwt : IntKind.i64.wrap (l.teams - 1) = l.teams - 1 := IntWalk.i64_in _ (by have := HTI.out; omega)
                have HIN : Hid (∀ W, Calls Try.prog 46 #[.int .i64 (u : Int), .int .i64 0, .int .i64 (l.teams - 1)] W (Same W (.bool true))) := fun W => by
                  have h := in46_c (u : Int) 0 (l.teams - 1) W
                  rwa [show inB (u : Int) 0 (l.teams - 1) = true from by rw [inB_eq]; have := HTI.out; omega] at h
                clear hxw hu u0 HRG Hhi7
                generalize exB (fun j => decide (ix ps t < ix ps (ix rs j).toNat)) j = ex0 at *
                generalize ix ps t = pt at *
                generalize ix ps u = pu at *
                go_upto_region 18 with fail
                go_quiet ((go_at_call 46; exact Calls.quiet_of_same ((HIN.out _).mono fun e w2 h => ⟨h.1, h.2.symm⟩)))
                have hbq : Below wr.heap.size wr (wr.drewN nq) := below_drewN (Below.refl _ _) nq
                replace k0 := cell_of_ans hbq k0
                replace k1 := cell_of_ans hbq k1
                replace d7 := cell_of_ans hbq d7
                replace d3t := cell_of_ans hbq d3t
                replace d3u := cell_of_ans hbq d3u
                replace HXW := Lib.hid (HXW.out.trans (hbq.mono HXW.out.size))
                clear hbq
                generalize wr.drewN nq = wq at *
                cases ex0
                · by_cases hpu : pt < pu
                  · go_upto_region 20 with fail
                    go_quiet (fail)
                    have hbq : Below wq.heap.size wq (wq.drewN nq) := below_drewN (Below.refl _ _) nq
                    replace k0 := cell_of_ans hbq k0
                    replace k1 := cell_of_ans hbq k1
                    replace d7 := cell_of_ans hbq d7
                    replace d3t := cell_of_ans hbq d3t
                    replace d3u := cell_of_ans hbq d3u
                    replace HXW := Lib.hid (HXW.out.trans (hbq.mono HXW.out.size))
                    clear hbq
                    generalize wq.drewN nq = wr at *
                    go_wp2_with fail
                    go_roundw
                    case rel => exact ⟨j + 1, by omega, by go_num, by rw [HEX.out, decide_eq_true hpu]; first | done | rfl, HXW.out⟩
                    case measure => simp [intOf]; omega
                  · go_upto_region 20 with fail
                    go_quiet (fail)
                    have hbq : Below wq.heap.size wq (wq.drewN nq) := below_drewN (Below.refl _ _) nq
                    replace k0 := cell_of_ans hbq k0
                    replace k1 := cell_of_ans hbq k1
                    replace d7 := cell_of_ans hbq d7
                    replace d3t := cell_of_ans hbq d3t
                    replace d3u := cell_of_ans hbq d3u
                    replace HXW := Lib.hid (HXW.out.trans (hbq.mono HXW.out.size))
                    clear hbq
                    generalize wq.drewN nq = wr at *
                    go_wp2_with fail
                    go_roundw
                    case rel => exact ⟨j + 1, by omega, by go_num, by rw [HEX.out, decide_eq_false hpu]; first | done | rfl, HXW.out⟩
                    case measure => simp [intOf]; omega
                · go_upto_region 20 with fail
                  go_quiet (fail)
                  have hbq : Below wq.heap.size wq (wq.drewN nq) := below_drewN (Below.refl _ _) nq
                  replace k0 := cell_of_ans hbq k0
                  replace k1 := cell_of_ans hbq k1
                  replace d7 := cell_of_ans hbq d7
                  replace d3t := cell_of_ans hbq d3t
                  replace d3u := cell_of_ans hbq d3u
                  replace HXW := Lib.hid (HXW.out.trans (hbq.mono HXW.out.size))
                  clear hbq
                  generalize wq.drewN nq = wr at *
                  go_wp2_with fail
                  go_roundw
                  case rel => exact ⟨j + 1, by omega, by go_num, by rw [HEX.out, Bool.true_or]; first | done | rfl, HXW.out⟩
                  case measure => simp [intOf]; omega
              · obtain rfl : j = rs.length := by omega
                have hji : ¬ (rs.length : Int) < (rs.length : Int) := by omega
                have HBF : Hid (Below y3.heap.size y3 wr) := hxw
                clear hxw HRG
                generalize exB (fun j => decide (ix ps t < ix ps (ix rs j).toNat)) rs.length = ex0 at *
                go_wp2_with fail
                go_roundw
                case rel => exact ⟨t + 1, by omega, by go_num, HBF.out⟩
                case measure => simp [intOf]; omega
      · obtain rfl : t = T := by omega
        have hti : ¬ (t : Int) < l.teams := by have := HTI.out; omega
        go_wp2_with fail
        refine (awake16_c _).mono ?_
        rintro e z1 ⟨rfl, hb⟩
        have HBF : Hid (Below w.heap.size w z1) := HB.out.trans (hb.mono HB.out.size)
        clear hb
        go_wp2_with fail
        go_ret
        exact ⟨rfl, HBF.out⟩
end Go.Proofs.Ytjokbffdepcpkaa
