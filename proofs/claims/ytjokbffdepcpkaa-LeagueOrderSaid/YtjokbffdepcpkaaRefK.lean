/-
  The reference's Rank.
-/
import Derived.Test.YtjokbffdepcpkaaRefF
import Derived.Test.YtjokbffdepcpkaaRefA
namespace Go.Proofs.Ytjokbffdepcpkaa
open Go.RowKit
set_option linter.unusedSimpArgs false
set_option linter.unusedVariables false

attribute [local go_sem] Oper.semAt_some
theorem whole_succ (k : Nat) : wholeL (k + 1) = wholeL k ++ [(k : Int)] := by
  unfold wholeL
  rw [List.range_succ, List.map_append]
  rfl
theorem whole_len (k : Nat) : (wholeL k).length = k := by simp [wholeL]
set_option maxRecDepth 100000 in
set_option maxHeartbeats 8000000 in
theorem rank24_c (l : Lg) (A Au : Option Addr) (c cu : Nat) (rules : List Int) (w : World) (hv : Valid l) (he : rankErr l rules = 0) (hl : Gms w.heap.size w A l.games) (hc : l.games.length ≤ c ∧ c ≤ 9223372036854775807) (hu : Byts w.heap.size w Au rules) (hcu : rules.length ≤ cu ∧ cu ≤ 9223372036854775807) (hr6 : rules.length ≤ 6) (hcode : ∀ k, k < rules.length → Code4 (ix rules k)) :
    Calls Try.prog 24 #[.agg #[.int .i64 l.teams, .slice A l.games.length c], .slice Au rules.length cu] w (ListP w (rankL l rules)) := by
  have hT2 := hv.t2
  have hT6 := hv.t6
  have HFA := Lib.hid (fun (code : Int) h4 (Ag : Option Addr) (cg : Nat) (grp : List Int) (W : World) hg hgr hcg hlen => fall58_c l A c code h4 Ag cg grp W hv hg hc hgr hcg hlen)
  obtain ⟨n, hn⟩ : ∃ n : Nat, l.teams = (n : Int) := ⟨l.teams.toNat, by omega⟩
  have HRK : Hid (rankL l rules = (List.range n).map fun t : Nat => rankV n l.games rules rules.length (t : Int)) := by show _ = _; unfold rankL; rw [if_pos he, hn]; rfl
  have HOK : Hid (∀ g ∈ l.games, GmOk n g) := fun g hg => by have := hv.mem hg; rwa [hn] at this
  rw [hn] at HFA hT2 hT6 ⊢
  have hb : Below w.heap.size w (w.alloc (.cells #[.int .i64 (n : Int), .slice A l.games.length c] 24)) := (Below.refl _ _).alloc (Nat.le_refl _) _
  have HB := Lib.hid hb
  have HL := Lib.hid (hl.step hb)
  have HU := Lib.hid (hu.step hb)
  have k0 : (w.alloc (.cells #[.int .i64 (n : Int), .slice A l.games.length c] 24)).cell? ⟨w.heap.size, 0, none⟩ = some (.int .i64 (n : Int)) := by simp
  have k1 : (w.alloc (.cells #[.int .i64 (n : Int), .slice A l.games.length c] 24)).cell? ⟨w.heap.size, 1, none⟩ = some (.slice A l.games.length c) := by simp
  have hmk : ∀ W, (Instr.makeSlice 34 (.int .i64 (n : Int)) (.int .i64 (n : Int))).run Try.prog W = .ok (.slice (some ⟨W.heap.size, 0, none⟩) n n) (W.alloc (.cells (madeCells #[.int .i64 0] n) 3)) :=
    fun W => run_make_row' 34 3 (.int .i64 0) 8 (by kernel_rfl) infoInt rfl .i64 .i64 n (by omega) (by omega) W
  have hz0 : w.heap.size ≤ (w.alloc (.cells #[.int .i64 (n : Int), .slice A l.games.length c] 24)).heap.size := by simp
  have HCD := Lib.hid hcode
  clear hb hl hu hv he hn hcode
  go_enter Try.func24, Try.ntmps24
  go_wp2_with fail
  generalize (w.alloc (.cells #[.int .i64 (n : Int), .slice A l.games.length c] 24)) = x1 at *
  go_loopw [5, 6] (fun g i wr => ∃ (k : Nat) (A1 : Option Addr) (c1 : Nat), k ≤ n ∧ i = .int .i64 k ∧ g = .slice A1 (wholeL k).length c1 ∧ OwnI x1.heap.size wr (.slice A1 (wholeL k).length c1) (wholeL k) ∧ Below x1.heap.size x1 wr) (fun _ i _ => n - (intOf i).toNat)
  case atStart => exact ⟨0, none, 0, by omega, rfl, rfl, OwnI.nil _ _, Below.refl _ _⟩
  case round =>
    obtain ⟨k, A1, c1, hk, rfl, rfl, hO, hb⟩ := hrel
    have HO := Lib.hid hO
    have HBR := Lib.hid hb
    have j0 := cell_of_ans hb k0
    clear hO hb
    by_cases hk1 : k < n
    · have hk1i : (k : Int) < (n : Int) := by omega
      have hlk : (wholeL k).length ≤ 1000000 := by rw [whole_len]; omega
      have HWS : Hid (wholeL (k + 1) = wholeL k ++ [(k : Int)]) := whole_succ k
      have hll : (wholeL k ++ [(k : Int)]).length = (wholeL k).length + 1 := by simp
      have hxz : x1.heap.size ≤ wr.heap.size := HBR.out.size
      generalize wholeL k = wk at *
      go_wp2_with (at_builtin; refine wpList_app_int (.tmp 21) (.tmp 23) rfl rfl x1.heap.size wr _ wk (k : Int) rfl rfl HO hlk hxz ?_; intro A9 c9 w9 HO9 HB9)
      go_roundw
      case rel => exact ⟨k + 1, A9, c9, by omega, by go_num, by rw [HWS.out, hll], by rw [HWS.out, hll]; exact HO9.out, HBR.out.trans HB9.out⟩
      case measure => simp [intOf]; omega
    · have ekn : n = k := by omega
      have hk1i : ¬ (k : Int) < (n : Int) := by omega
      have hlit := Rs.lit (base := x1.heap.size) (lo := x1.heap.size) (e := 34) (w := wr) HBR.out.size rdI (rdI_own HO.out).1 (rdI_own HO.out).2
      have HRS0 : Hid (Rs RdI 34 x1.heap.size x1.heap.size (wr.alloc (.cells #[.slice A1 (wholeL k).length c1] 34)) (.slice (some ⟨wr.heap.size, 0, none⟩) (groupsK n l.games rules 0).length 1) (groupsK n l.games rules 0)) := by
        rw [ekn]; exact hlit
      have hb5 : Below wr.heap.size wr (wr.alloc (.cells #[.slice A1 (wholeL k).length c1] 34)) := (Below.refl _ _).alloc (Nat.le_refl _) _
      have HB5 : Hid (Below x1.heap.size x1 (wr.alloc (.cells #[.slice A1 (wholeL k).length c1] 34))) := HBR.out.trans (hb5.mono HBR.out.size)
      clear hb5 hlit HO HBR ekn
      go_wp2_with fail
      generalize (wr.alloc (.cells #[.slice A1 (wholeL k).length c1] 34)) = w5 at *
      generalize wr.heap.size = gz at *
      clear hk hk1 hk1i j0
      go_loopw [7, 8] (fun g i wr => ∃ (kk : Nat) (A1 : Option Addr) (c1 : Nat), kk ≤ rules.length ∧ i = .int .i64 kk ∧ g = .slice A1 (groupsK n l.games rules kk).length c1 ∧ Rs RdI 34 x1.heap.size x1.heap.size wr (.slice A1 (groupsK n l.games rules kk).length c1) (groupsK n l.games rules kk) ∧ Below x1.heap.size x1 wr) (fun _ i _ => rules.length - (intOf i).toNat)
      case atStart => exact ⟨0, _, 1, by omega, rfl, rfl, HRS0.out, HB5.out⟩
      case round =>
        clear HRS0 HB5
        obtain ⟨kk, A1, c1, hkk, rfl, rfl, hrs, hb⟩ := hrel
        have HG := Lib.hid hrs
        have HBR := Lib.hid hb
        have j0 := cell_of_ans hb k0
        have j1 := cell_of_ans hb k1
        have hzr := hb.size
        clear hrs
        by_cases hk2 : kk < rules.length
        · have hk2i : (kk : Int) < (rules.length : Int) := by omega
          obtain ⟨b, off, rfl, hbl, c0, c1', c2'⟩ := HU.out.at_ hk2
          replace c0 := cell_of_ans hb c0
          have hcd := HCD.out kk hk2
          have HGS : Hid (groupsK n l.games rules (kk + 1) = (groupsK n l.games rules kk).flatMap (fallG l.games rules kk)) := rfl
          have hgl := groups_len (rules := rules) (gs := l.games) (n := n) (by omega) HOK.out kk
          have hgl1 := (groups_len (rules := rules) (gs := l.games) (n := n) (by omega) HOK.out (kk + 1)).1
          rw [HGS.out] at hgl1
          clear hb
          generalize groupsK n l.games rules kk = G at *
          generalize hx : ix rules kk = x at *
          go_wp2_with fail
          generalize wr = wt at *
          go_loopw [9, 10] (fun o j wr => ∃ (jj : Nat) (A2 : Option Addr) (c2 : Nat), jj ≤ G.length ∧ j = .int .i64 jj ∧ o = .slice A2 (partG l.games rules kk G jj).length c2 ∧ Rs RdI 34 wt.heap.size wt.heap.size wr (.slice A2 (partG l.games rules kk G jj).length c2) (partG l.games rules kk G jj) ∧ Below wt.heap.size wt wr) (fun _ j _ => G.length - (intOf j).toNat)
          case atStart => exact ⟨0, none, 0, by omega, rfl, rfl, Rs.nil, Below.refl _ _⟩
          case round =>
            obtain ⟨jj, A2, c2, hjj, rfl, rfl, hrs, hb⟩ := hrel
            have HRS := Lib.hid hrs
            clear hrs
            by_cases hj1 : jj < G.length
            · have hj1i : (jj : Int) < (G.length : Int) := by omega
              have HPS := Lib.hid (partG_succ (gs := l.games) (rules := rules) (k := kk) hj1)
              have hpl := partG_len (gs := l.games) (rules := rules) (k := kk) (G := G) (j := jj + 1)
              rw [HPS.out, List.length_append] at hpl
              obtain ⟨gg, cg1, ug, eg, -, -, hgg, cz, hrd⟩ := HG.out.at_ hj1
              obtain ⟨Ag, cg, rfl, hg1, hg2, hg3⟩ := hrd
              injection eg with eg1 eg2 eg3
              subst eg1
              have hgx := hgl.2 _ (List.getElem_mem hj1)
              have HGI := Lib.hid hg3
              clear hg3 eg2 eg3
              have HFX : Hid (fallG l.games rules kk G[jj] = fallL (numF l x G[jj]) G[jj].length G[jj]) := by rw [← hx]; exact rfl
              rw [HFX.out] at HPS hpl
              generalize G[jj] = grp at *
              have ltq := World.block_lt_of_cell? _ _ j0
              have ltd := World.block_lt_of_cell? _ _ c0
              have ltg := World.block_lt_of_cell? _ _ cz
              dsimp only at ltq
              have cz2 := cell_of_ans hb cz
              have q0 := cell_of_ans hb j0
              have q1 := cell_of_ans hb j1
              have d0 := cell_of_ans hb c0
              have hwt := hb.size
              have HGIr := Lib.hid (HGI.out.below hb)
              have HLr : Hid (Gms x1.heap.size wr A l.games) := HL.out.below (HBR.out.trans (hb.mono hzr))
              have HFB := Lib.hid (fun (W : World) (h : Below wr.heap.size wr W) => HFA.out x hcd Ag cg grp W ((HLr.out.below (h.mono (by omega))).more (by have := h.size; omega)) ((HGIr.out.below (h.mono hwt)).more (by have := h.size; omega)) ⟨hg1, hg2⟩ (by omega))
              have hpl6 : (partG l.games rules kk G jj).length + (fallL (numF l x grp) grp.length grp).length ≤ 1000000 := by omega
              have HBw := Lib.hid hb
              clear hb hpl
              generalize fallL (numF l x grp) grp.length grp = fl at *
              go_upto_region 14 with fail
              have HSB : Hid (Below wr.heap.size wr wr.drew) := (Below.refl _ _).drew
              refine wp_region_noPanic ?_
              have hS : (fun W' : World => Below wt.heap.size wr W') wr.drew := (Below.refl _ _).drew
              refine wp_region_any (by kernel_rfl) (wpAny_of_T (S := fun W' : World => Below wt.heap.size wr W') (m := 13) _ _ _ _ ?_)
              refine' T_take (i := 0) (v := _) rfl (by kernel_rfl) (by kernel_rfl) (by kernel_rfl) (by kernel_rfl) (fun _ _ _ h => h) (by kernel_rfl) hS ?_ ?_
              rotate_left 1
              · intro Wv hW
                replace q0 := (hW.cell (p := ⟨w.heap.size, 0, none⟩) ltq).trans q0
                replace q1 := (hW.cell (p := ⟨w.heap.size, 1, none⟩) ltq).trans q1
                replace d0 := (hW.cell ltd).trans d0
                replace cz2 := (hW.cell ltg).trans cz2
                go_simp
                first | done | with_reducible rfl | omega
              try simp only [Act.put, List.setIfInBounds_toArray, List.set_cons_zero, List.set_cons_succ]
              refine' T_take (i := 1) (v := _) rfl (by kernel_rfl) (by kernel_rfl) (by kernel_rfl) (by kernel_rfl) (fun _ _ _ h => h) (by kernel_rfl) hS ?_ ?_
              rotate_left 1
              · intro Wv hW
                replace q0 := (hW.cell (p := ⟨w.heap.size, 0, none⟩) ltq).trans q0
                replace q1 := (hW.cell (p := ⟨w.heap.size, 1, none⟩) ltq).trans q1
                replace d0 := (hW.cell ltd).trans d0
                replace cz2 := (hW.cell ltg).trans cz2
                go_simp
                first | done | with_reducible rfl | omega
              try simp only [Act.put, List.setIfInBounds_toArray, List.set_cons_zero, List.set_cons_succ]
              refine' T_take (i := 2) (v := _) rfl (by kernel_rfl) (by kernel_rfl) (by kernel_rfl) (by kernel_rfl) (fun _ _ _ h => h) (by kernel_rfl) hS ?_ ?_
              rotate_left 1
              · intro Wv hW
                replace q0 := (hW.cell (p := ⟨w.heap.size, 0, none⟩) ltq).trans q0
                replace q1 := (hW.cell (p := ⟨w.heap.size, 1, none⟩) ltq).trans q1
                replace d0 := (hW.cell ltd).trans d0
                replace cz2 := (hW.cell ltg).trans cz2
                go_simp
                first | done | with_reducible rfl | omega
              try simp only [Act.put, List.setIfInBounds_toArray, List.set_cons_zero, List.set_cons_succ]
              refine' T_take (i := 3) (v := _) rfl (by kernel_rfl) (by kernel_rfl) (by kernel_rfl) (by kernel_rfl) (fun _ _ _ h => h) (by kernel_rfl) hS ?_ ?_
              rotate_left 1
              · intro Wv hW
                replace q0 := (hW.cell (p := ⟨w.heap.size, 0, none⟩) ltq).trans q0
                replace q1 := (hW.cell (p := ⟨w.heap.size, 1, none⟩) ltq).trans q1
                replace d0 := (hW.cell ltd).trans d0
                replace cz2 := (hW.cell ltg).trans cz2
                go_simp
                first | done | with_reducible rfl | omega
              try simp only [Act.put, List.setIfInBounds_toArray, List.set_cons_zero, List.set_cons_succ]
              refine' T_take (i := 4) (v := _) rfl (by kernel_rfl) (by kernel_rfl) (by kernel_rfl) (by kernel_rfl) (fun _ _ _ h => h) (by kernel_rfl) hS ?_ ?_
              rotate_left 1
              · intro Wv hW
                replace q0 := (hW.cell (p := ⟨w.heap.size, 0, none⟩) ltq).trans q0
                replace q1 := (hW.cell (p := ⟨w.heap.size, 1, none⟩) ltq).trans q1
                replace d0 := (hW.cell ltd).trans d0
                replace cz2 := (hW.cell ltg).trans cz2
                go_simp
                first | done | with_reducible rfl | omega
              try simp only [Act.put, List.setIfInBounds_toArray, List.set_cons_zero, List.set_cons_succ]
              refine' T_take (i := 5) (v := _) rfl (by kernel_rfl) (by kernel_rfl) (by kernel_rfl) (by kernel_rfl) (fun _ _ _ h => h) (by kernel_rfl) hS ?_ ?_
              rotate_left 1
              · intro Wv hW
                replace q0 := (hW.cell (p := ⟨w.heap.size, 0, none⟩) ltq).trans q0
                replace q1 := (hW.cell (p := ⟨w.heap.size, 1, none⟩) ltq).trans q1
                replace d0 := (hW.cell ltd).trans d0
                replace cz2 := (hW.cell ltg).trans cz2
                go_simp
                first | done | with_reducible rfl | omega
              try simp only [Act.put, List.setIfInBounds_toArray, List.set_cons_zero, List.set_cons_succ]
              refine' T_take (i := 6) (v := _) rfl (by kernel_rfl) (by kernel_rfl) (by kernel_rfl) (by kernel_rfl) (fun _ _ _ h => h) (by kernel_rfl) hS ?_ ?_
              rotate_left 1
              · intro Wv hW
                replace q0 := (hW.cell (p := ⟨w.heap.size, 0, none⟩) ltq).trans q0
                replace q1 := (hW.cell (p := ⟨w.heap.size, 1, none⟩) ltq).trans q1
                replace d0 := (hW.cell ltd).trans d0
                replace cz2 := (hW.cell ltg).trans cz2
                go_simp
                first | done | with_reducible rfl | omega
              try simp only [Act.put, List.setIfInBounds_toArray, List.set_cons_zero, List.set_cons_succ]
              refine' T_take (i := 7) (v := _) rfl (by kernel_rfl) (by kernel_rfl) (by kernel_rfl) (by kernel_rfl) (fun _ _ _ h => h) (by kernel_rfl) hS ?_ ?_
              rotate_left 1
              · intro Wv hW
                replace q0 := (hW.cell (p := ⟨w.heap.size, 0, none⟩) ltq).trans q0
                replace q1 := (hW.cell (p := ⟨w.heap.size, 1, none⟩) ltq).trans q1
                replace d0 := (hW.cell ltd).trans d0
                replace cz2 := (hW.cell ltg).trans cz2
                go_simp
                first | done | with_reducible rfl | omega
              try simp only [Act.put, List.setIfInBounds_toArray, List.set_cons_zero, List.set_cons_succ]
              refine' T_take (i := 8) (v := _) rfl (by kernel_rfl) (by kernel_rfl) (by kernel_rfl) (by kernel_rfl) (fun _ _ _ h => h) (by kernel_rfl) hS ?_ ?_
              rotate_left 1
              · intro Wv hW
                replace q0 := (hW.cell (p := ⟨w.heap.size, 0, none⟩) ltq).trans q0
                replace q1 := (hW.cell (p := ⟨w.heap.size, 1, none⟩) ltq).trans q1
                replace d0 := (hW.cell ltd).trans d0
                replace cz2 := (hW.cell ltg).trans cz2
                go_simp
                first | done | with_reducible rfl | omega
              try simp only [Act.put, List.setIfInBounds_toArray, List.set_cons_zero, List.set_cons_succ]
              refine' T_take (i := 9) (v := _) rfl (by kernel_rfl) (by kernel_rfl) (by kernel_rfl) (by kernel_rfl) (fun _ _ _ h => h) (by kernel_rfl) hS ?_ ?_
              rotate_left 1
              · intro Wv hW
                replace q0 := (hW.cell (p := ⟨w.heap.size, 0, none⟩) ltq).trans q0
                replace q1 := (hW.cell (p := ⟨w.heap.size, 1, none⟩) ltq).trans q1
                replace d0 := (hW.cell ltd).trans d0
                replace cz2 := (hW.cell ltg).trans cz2
                go_simp
                first | done | with_reducible rfl | omega
              try simp only [Act.put, List.setIfInBounds_toArray, List.set_cons_zero, List.set_cons_succ]
              refine T_ready (rs := [10]) (by kernel_rfl) (by simp) ?_
              refine TReady.cons rfl (fun K hK => ?_) TReady.nil
              try go_simp
              refine (HFB.out _ HSB.out).mono ?_
              rintro e y2 ⟨FA, fc, rfl, hrf, hb⟩
              have HRF := Lib.hid (hrf.low (show wr.heap.size ≤ _ from HSB.out.size))
              have hS2 : Below wt.heap.size wr y2 := hS.trans (hb.mono (Nat.le_trans hwt HSB.out.size))
              replace HSB : Hid (Below wr.heap.size wr y2) := HSB.out.trans (hb.mono HSB.out.size)
              clear hb hrf
              try go_simp
              refine hK.out _ _ (fun _ => hS2) (fun _ => ?_)
              clear hK K hS
              have hS := hS2
              clear hS2
              try simp only [Act.put, List.setIfInBounds_toArray, List.set_cons_zero, List.set_cons_succ]
              refine T_ready (rs := [11]) (by kernel_rfl) (by simp) ?_
              refine TReady.cons rfl (fun K hK => ?_) TReady.nil
              refine step_appRs rdI sty93 (.tmp 39) (.tmp 49) rfl rfl (w0 := wr) rfl rfl HRS HSB hwt HRF (Nat.le_refl _) hwt hpl6 ?_
              intro A8 c8 t9 HR8 HB8
              refine hK.out _ _ (fun _ => HB8.out) (fun _ => ?_)
              clear hK K hS
              have hS := HB8.out
              try simp only [Act.put, List.setIfInBounds_toArray, List.set_cons_zero, List.set_cons_succ]
              refine' T_take (i := 12) (v := _) rfl (by kernel_rfl) (by kernel_rfl) (by kernel_rfl) (by kernel_rfl) (fun _ _ _ h => h) (by kernel_rfl) hS ?_ ?_
              rotate_left 1
              · intro Wv hW
                replace q0 := (hW.cell (p := ⟨w.heap.size, 0, none⟩) ltq).trans q0
                replace q1 := (hW.cell (p := ⟨w.heap.size, 1, none⟩) ltq).trans q1
                replace d0 := (hW.cell ltd).trans d0
                replace cz2 := (hW.cell ltg).trans cz2
                go_simp
                first | done | with_reducible rfl | omega
              try simp only [Act.put, List.setIfInBounds_toArray, List.set_cons_zero, List.set_cons_succ]
              refine T_done (by kernel_rfl) ?_ _
              refine NoPanic.normal ?_
              try go_simp
              go_wp2_with fail
              go_roundw
              case rel => exact ⟨jj + 1, A8, c8, by omega, by go_num, by rw [HPS.out, List.length_append], by rw [HPS.out, List.length_append]; exact HR8.out, HBw.out.trans HB8.out⟩
              case measure => simp [intOf]; omega
            · obtain rfl : jj = G.length := by omega
              have hj1i : ¬ (G.length : Int) < (G.length : Int) := by omega
              have eP : partG l.games rules kk G G.length = groupsK n l.games rules (kk + 1) := by rw [HGS.out]; unfold partG; rw [List.take_length]
              rw [eP] at HRS
              simp only [eP]
              have HBw := Lib.hid hb
              clear hb
              go_wp2_with fail
              go_roundw
              case rel => exact ⟨kk + 1, A2, c2, by omega, by go_num, rfl, (HRS.out.low hzr).lowBase hzr, HBR.out.trans (HBw.out.mono hzr)⟩
              case measure => simp [intOf]; omega
        · obtain rfl : kk = rules.length := by omega
          have hk2i : ¬ (rules.length : Int) < (rules.length : Int) := by omega
          have hgl := groups_len (rules := rules) (gs := l.games) (n := n) (by omega) HOK.out rules.length
          unfold rankV at HRK
          have hrep := Lib.hid (rep_k (n := n) (gs := l.games) (rules := rules) (by omega) HOK.out rules.length)
          clear hb HFA HL HU
          generalize groupsK n l.games rules rules.length = G at *
          have HND : Hid (G.flatten.Nodup) := hrep.out.perm.nodup_iff.2 (whole_nodup n)
          have HPM : Hid (∀ x, x ∈ G.flatten ↔ 0 ≤ x ∧ x < (n : Int)) := fun x => by rw [hrep.out.perm.mem_iff]; exact mem_whole
          have HGL : Hid (G.flatten.length = n) := by show _ = _; rw [hrep.out.perm.length_eq]; simp [wholeL]
          clear hrep
          have hb6 : Below wr.heap.size wr (wr.alloc (.cells (madeCells #[.int .i64 0] n) 3)) := (Below.refl _ _).alloc (Nat.le_refl _) _
          have hD6 : DnI (wr.alloc (.cells (madeCells #[.int .i64 0] n) 3)) wr.heap.size (fillR G []) n := (dnI_new wr n).congr (fun k _ => by simp [fillR])
          go_wp2_with fail
          generalize (wr.alloc (.cells (madeCells #[.int .i64 0] n) 3)) = w6 at *
          obtain ⟨rb, hrb⟩ : ∃ rb, rb = wr.heap.size := ⟨_, rfl⟩
          have HRB := Lib.hid hrb
          rw [← hrb] at hD6
          simp only [← hrb]
          clear hrb
          have HB6 := Lib.hid hb6
          clear hb6
          generalize wr = wg at *
          go_loopw [12, 13] (fun rk i wr => ∃ j : Nat, j ≤ G.length ∧ i = .int .i64 j ∧ rk = .int .i64 (1 + ((G.take j).flatten.length : Int)) ∧ DnI wr rb (fillR G (G.take j).flatten) n ∧ Below wg.heap.size wg wr) (fun _ i _ => G.length - (intOf i).toNat)
          case atStart => exact ⟨0, by omega, rfl, rfl, hD6, HB6.out⟩
          case round =>
            clear hD6
            obtain ⟨j, hj, rfl, rfl, hD, hb⟩ := hrel
            by_cases hj1 : j < G.length
            · have hj1i : (j : Int) < (G.length : Int) := by omega
              obtain ⟨gg, cg1, ug, eg, -, -, hgg, cz, hrd⟩ := HG.out.at_ hj1
              obtain ⟨Ag, cg, rfl, hg1, hg2, hg3⟩ := hrd
              injection eg with eg1 eg2 eg3
              subst eg1
              have HGI := Lib.hid hg3
              have HRA := Lib.hid (fun t h => rankG_at G 1 j hj1 t HND.out h)
              have HMG : Hid (∀ x ∈ G[j], 0 ≤ x ∧ x < (n : Int)) := fun x hx => (HPM.out x).1 (List.mem_flatten.2 ⟨_, List.getElem_mem hj1, hx⟩)
              have HTS : Hid ((G.take (j + 1)).flatten = (G.take j).flatten ++ G[j]) := by
                show _ = _
                rw [List.take_succ_eq_append_getElem hj1, List.flatten_append]
                simp
              have hfl : (G.take (j + 1)).flatten.length ≤ n := by
                have h1 := HGL.out
                have h2 : G.flatten = (G.take (j + 1)).flatten ++ (G.drop (j + 1)).flatten := by rw [← List.flatten_append, List.take_append_drop]
                rw [h2, List.length_append] at h1
                omega
              rw [HTS.out, List.length_append] at hfl
              have HDj := Lib.hid hD
              have HBj := Lib.hid hb
              clear hg3 eg2 eg3 hD hb
              generalize G[j] = grp at *
              generalize (G.take j).flatten = Lj at *
              go_wp2_with fail
              generalize wr = wt at *
              go_loopw [14] (fun i wr => ∃ m : Nat, m ≤ grp.length ∧ i = .int .i64 m ∧ DnI wr rb (fillR G (Lj ++ grp.take m)) n ∧ Below wg.heap.size wg wr) (fun i _ => grp.length - (intOf i).toNat)
              case atStart => exact ⟨0, by omega, rfl, by simpa using HDj.out, HBj.out⟩
              case round =>
                obtain ⟨m, hm, rfl, hD, hb⟩ := hrel
                have cz2 := cell_of_ans hb cz
                by_cases hm1 : m < grp.length
                · have hm1i : (m : Int) < (grp.length : Int) := by omega
                  obtain ⟨b, off, rfl, hbl, d0⟩ := HGI.out.at_ hm1
                  replace d0 := cell_of_ans hb d0
                  have hmem : ix grp m ∈ grp := by rw [ix_lt hm1]; exact List.getElem_mem hm1
                  have hrng := HMG.out _ hmem
                  have hra := HRA.out _ hmem
                  have HTK : Hid (grp.take (m + 1) = grp.take m ++ [ix grp m]) := by show _ = _; rw [List.take_succ_eq_append_getElem hm1, ← ix_lt hm1]
                  obtain ⟨p, hp⟩ : ∃ p : Nat, ix grp m = (p : Int) := ⟨(ix grp m).toNat, by omega⟩
                  rw [hp] at d0 hrng hra HTK
                  have hpn : p < n := by omega
                  have hpi : (p : Int) < (n : Int) := by omega
                  obtain ⟨e0, e1⟩ := hD.cell hpn
                  have HD := Lib.hid hD
                  have HBm := Lib.hid hb
                  have HFA2 := Lib.hid (fun k => fillR_add (G := G) (L := Lj ++ grp.take m) hra k)
                  clear hD hb hmem hp hra
                  go_wp2_with fail
                  go_roundw
                  case rel => exact ⟨m + 1, by omega, by go_num, (HD.out.set p _).congr (fun k _ => by rw [HFA2.out, HTK.out, List.append_assoc]), HBm.out.setCell (by have := HRB.out; dsimp only; omega) _⟩
                  case measure => simp [intOf]; omega
                · obtain rfl : m = grp.length := by omega
                  have hm1i : ¬ (grp.length : Int) < (grp.length : Int) := by omega
                  have HD := Lib.hid hD
                  have HBm := Lib.hid hb
                  have hw17 : IntKind.i64.wrap (1 + (Lj.length : Int) + (grp.length : Int)) = 1 + (Lj.length : Int) + (grp.length : Int) := IntWalk.i64_in _ (by omega)
                  clear hD hb
                  go_wp2_with fail
                  go_roundw
                  case rel => exact ⟨j + 1, by omega, by go_num, by rw [HTS.out, List.length_append]; simp; omega, by rw [HTS.out]; simpa using HD.out, HBm.out⟩
                  case measure => simp [intOf]; omega
            · obtain rfl : j = G.length := by omega
              have hj1i : ¬ (G.length : Int) < (G.length : Int) := by omega
              rw [List.take_length] at hD
              have hO := (hD.own (base := rb) (Nat.le_refl _) (by omega)).isInts
              have eL : ((List.range n).map (fillR G G.flatten)) = rankL l rules := by
                rw [HRK.out]
                exact List.map_congr_left fun k hk => by unfold fillR; rw [if_pos ((HPM.out k).2 ⟨by omega, by have := List.mem_range.1 hk; omega⟩)]
              rw [eL] at hO
              have hlen : (rankL l rules).length = n := by rw [← eL]; simp
              have hp := isInts_parts hO
              have HPI := Lib.hid hp
              have HBE : Hid (Below w.heap.size w wr) := (HB.out.trans (HBR.out.mono HB.out.size)).trans (hb.mono (Nat.le_trans HB.out.size hzr))
              have HLN := Lib.hid hlen
              clear hO hD hb hp eL hlen
              go_wp2_with fail
              go_ret
              exact ⟨_, n, by rw [HLN.out]; rfl, ⟨HPI.out.2.2, HPI.out.1, HPI.out.2.1⟩, HBE.out⟩
end Go.Proofs.Ytjokbffdepcpkaa
