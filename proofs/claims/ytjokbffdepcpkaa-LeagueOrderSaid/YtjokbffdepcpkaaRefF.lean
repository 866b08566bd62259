/-
  The reference's Fall.
-/
import Derived.Test.YtjokbffdepcpkaaRefN
namespace Go.Proofs.Ytjokbffdepcpkaa
open Go.RowKit
set_option linter.unusedSimpArgs false
set_option linter.unusedVariables false

attribute [local go_sem] Oper.semAt_some
theorem fallL_len {f : Int → Int} : ∀ m l, (fallL f m l).length ≤ m
  | 0, _ => by simp [fallL]
  | m + 1, l => by
    rw [fallL]
    split
    · simp
    · have := fallL_len (f := f) m (behindL f l)
      simp
      omega
theorem fallR_len {f : Int → Int} {l : List Int} {n : Int} {out : List (List Int)} (h : FallR f l n out) : out.length ≤ l.length := by
  have h1 := fallL_len (f := f) l.length l
  unfold FallR at h
  rw [← h, List.length_append] at h1
  omega
set_option maxRecDepth 100000 in
set_option maxHeartbeats 8000000 in
theorem fall58_c (l : Lg) (A : Option Addr) (c : Nat) (code : Int) (h4 : Code4 code) (Ag : Option Addr) (cg : Nat) (grp : List Int) (w : World) (hv : Valid l) (hl : Gms w.heap.size w A l.games) (hc : l.games.length ≤ c ∧ c ≤ 9223372036854775807) (hgr : Ints w.heap.size w Ag grp) (hcg : grp.length ≤ cg ∧ cg ≤ 9223372036854775807) (hlen : grp.length ≤ 1000) :
    Calls Try.prog 58 #[.agg #[.int .i64 l.teams, .slice A l.games.length c], .int .u8 code, .slice Ag grp.length cg] w (NewR w (fallL (numF l code grp) grp.length grp)) := by
  have hb : Below w.heap.size w (w.alloc (.cells #[.int .i64 l.teams, .slice A l.games.length c] 24)) := (Below.refl _ _).alloc (Nat.le_refl _) _
  have HB := Lib.hid hb
  have k0 : (w.alloc (.cells #[.int .i64 l.teams, .slice A l.games.length c] 24)).cell? ⟨w.heap.size, 0, none⟩ = some (.int .i64 l.teams) := by simp
  have k1 : (w.alloc (.cells #[.int .i64 l.teams, .slice A l.games.length c] 24)).cell? ⟨w.heap.size, 1, none⟩ = some (.slice A l.games.length c) := by simp
  have HN : Hid (∀ (t : Int) (W : World), Below (w.alloc (.cells #[.int .i64 l.teams, .slice A l.games.length c] 24)).heap.size (w.alloc (.cells #[.int .i64 l.teams, .slice A l.games.length c] 24)) W → Calls Try.prog 35 #[.agg #[.int .i64 l.teams, .slice A l.games.length c], .int .u8 code, .int .i64 t, .slice Ag grp.length cg] W (Ans W (.int .i64 (numF l code grp t)))) := fun t W hb' => number35_c l A c code h4 t Ag cg grp W hv ((hl.step hb).step hb') hc ((hgr.step hb).step hb') hcg
  have HF0 := Lib.hid (fun t => numF_rng hv code grp t)
  have HGR := Lib.hid (hgr.step hb)
  clear hb hl hgr hv
  generalize numF l code grp = f at *
  go_enter Try.func58, Try.ntmps58
  go_wp2_with fail
  generalize (w.alloc (.cells #[.int .i64 l.teams, .slice A l.games.length c] 24)) = x1 at *
  go_loopw [7, 8] (fun o nv wr => ∃ (out : List (List Int)) (n : Int) (A1 : Option Addr) (c1 : Nat), o = .slice A1 out.length c1 ∧ Rs RdI 34 x1.heap.size x1.heap.size wr (.slice A1 out.length c1) out ∧ nv = .int .i64 n ∧ FallR f grp n out ∧ -1 ≤ n ∧ n ≤ 60000 ∧ Below x1.heap.size x1 wr) (fun _ nv _ => (intOf nv + 1).toNat)
  case atStart => exact ⟨[], 60000, none, 0, rfl, Rs.nil, rfl, fallR_start (fun t _ => (HF0.out t).2), by omega, by omega, Below.refl _ _⟩
  case round =>
    obtain ⟨out, n, A1, c1, rfl, hrs, rfl, hfr, hn1, hn2, hb⟩ := hrel
    have HRS := Lib.hid hrs
    have hol := fallR_len hfr
    have HFR := Lib.hid hfr
    have HBR := Lib.hid hb
    clear hrs hfr
    by_cases h0 : 0 ≤ n
    · by_cases hg0 : 0 < grp.length
      · have hg0i : (0 : Int) < (grp.length : Int) := by omega
        have j0 := cell_of_ans hb k0
        have j1 := cell_of_ans hb k1
        clear hb
        go_wp2_with fail
        generalize wr = wt at *
        go_loopw [10, 11] (fun be i wr => ∃ k : Nat, k ≤ grp.length ∧ i = .int .i64 k ∧ be = .int .i64 (bestR f grp n k) ∧ Below wt.heap.size wt wr) (fun _ i _ => grp.length - (intOf i).toNat)
        case atStart => exact ⟨0, by omega, rfl, rfl, Below.refl _ _⟩
        case round =>
          obtain ⟨k, hk, rfl, rfl, hb⟩ := hrel
          by_cases hk1 : k < grp.length
          · have hk1i : (k : Int) < (grp.length : Int) := by omega
            obtain ⟨b, off, rfl, hbl, d0⟩ := HGR.out.at_ hk1
            have hbx : Below x1.heap.size x1 wr := HBR.out.trans (hb.mono HBR.out.size)
            replace d0 := cell_of_ans hbx d0
            have i0 := cell_of_ans hb j0
            have i1 := cell_of_ans hb j1
            have HB2 := Lib.hid hb
            have HBS : Hid (bestR f grp n (k + 1) = if f (ix grp k) ≤ n then max (bestR f grp n k) (f (ix grp k)) else bestR f grp n k) := rfl
            have HNK := Lib.hid (fun (W : World) (h : Below wr.heap.size wr W) => HN.out (ix grp k) W (hbx.trans (h.mono hbx.size)))
            clear hb hbx
            generalize ix grp k = x at *
            generalize bestR f grp n k = be at *
            generalize f x = fx at *
            go_upto_region 10 with fail
            refine wp_region_noPanic ?_
            have hS : (fun W' : World => Below wr.heap.size wr W') wr.drew := (Below.refl _ _).drew
            refine wp_region_any (by kernel_rfl) (wpAny_of_T (S := fun W' : World => Below wr.heap.size wr W') (m := 9) _ _ _ _ ?_)
            refine' T_take (i := 0) (v := _) rfl (by kernel_rfl) (by kernel_rfl) (by kernel_rfl) (by kernel_rfl) (fun _ _ _ h => h) (by kernel_rfl) hS ?_ ?_
            rotate_left 1
            · intro Wv hW
              replace i0 := cell_of_ans hW i0
              replace i1 := cell_of_ans hW i1
              replace d0 := cell_of_ans hW d0
              go_simp
              first | done | with_reducible rfl | omega
            try simp only [Act.put, List.setIfInBounds_toArray, List.set_cons_zero, List.set_cons_succ]
            refine' T_take (i := 1) (v := _) rfl (by kernel_rfl) (by kernel_rfl) (by kernel_rfl) (by kernel_rfl) (fun _ _ _ h => h) (by kernel_rfl) hS ?_ ?_
            rotate_left 1
            · intro Wv hW
              replace i0 := cell_of_ans hW i0
              replace i1 := cell_of_ans hW i1
              replace d0 := cell_of_ans hW d0
              go_simp
              first | done | with_reducible rfl | omega
            try simp only [Act.put, List.setIfInBounds_toArray, List.set_cons_zero, List.set_cons_succ]
            refine' T_take (i := 2) (v := _) rfl (by kernel_rfl) (by kernel_rfl) (by kernel_rfl) (by kernel_rfl) (fun _ _ _ h => h) (by kernel_rfl) hS ?_ ?_
            rotate_left 1
            · intro Wv hW
              replace i0 := cell_of_ans hW i0
              replace i1 := cell_of_ans hW i1
              replace d0 := cell_of_ans hW d0
              go_simp
              first | done | with_reducible rfl | omega
            try simp only [Act.put, List.setIfInBounds_toArray, List.set_cons_zero, List.set_cons_succ]
            refine' T_take (i := 3) (v := _) rfl (by kernel_rfl) (by kernel_rfl) (by kernel_rfl) (by kernel_rfl) (fun _ _ _ h => h) (by kernel_rfl) hS ?_ ?_
            rotate_left 1
            · intro Wv hW
              replace i0 := cell_of_ans hW i0
              replace i1 := cell_of_ans hW i1
              replace d0 := cell_of_ans hW d0
              go_simp
              first | done | with_reducible rfl | omega
            try simp only [Act.put, List.setIfInBounds_toArray, List.set_cons_zero, List.set_cons_succ]
            refine' T_take (i := 4) (v := _) rfl (by kernel_rfl) (by kernel_rfl) (by kernel_rfl) (by kernel_rfl) (fun _ _ _ h => h) (by kernel_rfl) hS ?_ ?_
            rotate_left 1
            · intro Wv hW
              replace i0 := cell_of_ans hW i0
              replace i1 := cell_of_ans hW i1
              replace d0 := cell_of_ans hW d0
              go_simp
              first | done | with_reducible rfl | omega
            try simp only [Act.put, List.setIfInBounds_toArray, List.set_cons_zero, List.set_cons_succ]
            refine' T_take (i := 5) (v := _) rfl (by kernel_rfl) (by kernel_rfl) (by kernel_rfl) (by kernel_rfl) (fun _ _ _ h => h) (by kernel_rfl) hS ?_ ?_
            rotate_left 1
            · intro Wv hW
              replace i0 := cell_of_ans hW i0
              replace i1 := cell_of_ans hW i1
              replace d0 := cell_of_ans hW d0
              go_simp
              first | done | with_reducible rfl | omega
            try simp only [Act.put, List.setIfInBounds_toArray, List.set_cons_zero, List.set_cons_succ]
            refine' T_take (i := 6) (v := _) rfl (by kernel_rfl) (by kernel_rfl) (by kernel_rfl) (by kernel_rfl) (fun _ _ _ h => h) (by kernel_rfl) hS ?_ ?_
            rotate_left 1
            · intro Wv hW
              replace i0 := cell_of_ans hW i0
              replace i1 := cell_of_ans hW i1
              replace d0 := cell_of_ans hW d0
              go_simp
              first | done | with_reducible rfl | omega
            try simp only [Act.put, List.setIfInBounds_toArray, List.set_cons_zero, List.set_cons_succ]
            refine T_ready (rs := [7]) (by kernel_rfl) (by simp) ?_
            refine TReady.cons rfl (fun K hK => ?_) TReady.nil
            try go_simp
            refine (HNK.out _ hS).mono ?_
            rintro e w5 ⟨rfl, hb⟩
            have hS2 : Below wr.heap.size wr w5 := below_cat hb hS
            try go_simp
            refine hK.out _ _ (fun _ => hS2) (fun _ => ?_)
            clear hK K hS hb
            replace hS := hS2
            clear hS2
            try simp only [Act.put, List.setIfInBounds_toArray, List.set_cons_zero, List.set_cons_succ]
            refine' T_take (i := 8) (v := _) rfl (by kernel_rfl) (by kernel_rfl) (by kernel_rfl) (by kernel_rfl) (fun _ _ _ h => h) (by kernel_rfl) hS ?_ ?_
            rotate_left 1
            · intro Wv hW
              replace i0 := cell_of_ans hW i0
              replace i1 := cell_of_ans hW i1
              replace d0 := cell_of_ans hW d0
              go_simp
              first | done | with_reducible rfl | omega
            try simp only [Act.put, List.setIfInBounds_toArray, List.set_cons_zero, List.set_cons_succ]
            refine T_done (by kernel_rfl) ?_ _
            refine NoPanic.normal ?_
            try go_simp
            have HBW := Lib.hid (HB2.out.trans (hS.mono HB2.out.size))
            clear hS i0 i1 d0
            by_cases hx : fx ≤ n
            · have HS : Hid (bestR f grp n (k + 1) = max be fx) := by show _ = _; rw [HBS.out, if_pos hx]
              rcases Int.lt_trichotomy be fx with gl | gl | gl
              · have gl2 : ¬ fx < be := by omega
                go_wp2_with fail
                go_roundw
                case rel => exact ⟨k + 1, by omega, by go_num, by rw [HS.out]; congr 1; omega, HBW.out⟩
                case measure => simp [intOf]; omega
              · have gl1 : ¬ be < fx := by omega
                have gl2 : ¬ fx < be := by omega
                go_wp2_with fail
                go_roundw
                case rel => exact ⟨k + 1, by omega, by go_num, by rw [HS.out]; congr 1; omega, HBW.out⟩
                case measure => simp [intOf]; omega
              · have gl2 : ¬ be < fx := by omega
                go_wp2_with fail
                go_roundw
                case rel => exact ⟨k + 1, by omega, by go_num, by rw [HS.out]; congr 1; omega, HBW.out⟩
                case measure => simp [intOf]; omega
            · have HS : Hid (bestR f grp n (k + 1) = be) := by show _ = _; rw [HBS.out, if_neg hx]
              go_wp2_with fail
              go_roundw
              case rel => exact ⟨k + 1, by omega, by go_num, by rw [HS.out], HBW.out⟩
              case measure => simp [intOf]; omega
          · obtain rfl : k = grp.length := by omega
            have hk1i : ¬ (grp.length : Int) < (grp.length : Int) := by omega
            have hba := bestR_all (f := f) (l := grp) (n := n)
            obtain ⟨B, hB⟩ : ∃ B, bestR f grp n grp.length = B := ⟨_, rfl⟩
            have HBV : Hid (bestV f (lowL f grp n) = B) := by show _ = _; rw [← hba, hB]
            rw [hB]
            have HBX := Lib.hid hb
            clear hba hB hb
            by_cases hB0 : B < 0
            · have HE : Hid (out = fallL f grp.length grp) := fallR_done HFR.out (low_none (fun t => (HF0.out t).1) (by rw [HBV.out]; exact hB0))
              have HBF : Hid (Below w.heap.size w wr) := (HB.out.trans (HBR.out.mono HB.out.size)).trans (HBX.out.mono (Nat.le_trans HB.out.size HBR.out.size))
              have HRW := Lib.hid (((HRS.out.kept rdI HBX.out).low HB.out.size).lowBase HB.out.size)
              go_wp2_with fail
              go_ret
              rw [← HE.out]
              exact ⟨A1, c1, rfl, HRW.out, HBF.out⟩
            · have hBn : B ≤ n := by
                have := low_best_le (fun t => (HF0.out t).1) (l := grp) (n := n) (fun e => by
                  have h := HBV.out
                  rw [e] at h
                  have : bestV f [] = -1 := rfl
                  omega)
                rw [HBV.out] at this
                exact this
              have hwB : IntKind.i64.wrap (B - 1) = B - 1 := IntWalk.i64_in _ (by omega)
              go_wp2_with fail
              generalize wr = wl at *
              go_loopw [9, 13] (fun g i wr => ∃ (k : Nat) (A3 : Option Addr) (c3 : Nat), k ≤ grp.length ∧ i = .int .i64 k ∧ g = .slice A3 ((grp.take k).filter fun t => decide (f t = B)).length c3 ∧ OwnI wl.heap.size wr (.slice A3 ((grp.take k).filter fun t => decide (f t = B)).length c3) ((grp.take k).filter fun t => decide (f t = B)) ∧ Below wl.heap.size wl wr) (fun _ i _ => grp.length - (intOf i).toNat)
              case atStart => exact ⟨0, none, 0, by omega, rfl, rfl, OwnI.nil _ _, Below.refl _ _⟩
              case round =>
                obtain ⟨k, A3, c3, hk, rfl, rfl, hO, hb⟩ := hrel
                have HO := Lib.hid hO
                clear hO
                by_cases hk1 : k < grp.length
                · have hk1i : (k : Int) < (grp.length : Int) := by omega
                  obtain ⟨b, off, rfl, hbl, d0⟩ := HGR.out.at_ hk1
                  have hbt : Below wt.heap.size wt wr := HBX.out.trans (hb.mono HBX.out.size)
                  have hbx : Below x1.heap.size x1 wr := HBR.out.trans (hbt.mono HBR.out.size)
                  replace d0 := cell_of_ans hbx d0
                  have i0 := cell_of_ans hbt j0
                  have i1 := cell_of_ans hbt j1
                  have HB2 := Lib.hid hb
                  have HNK := Lib.hid (fun (W : World) (h : Below wr.heap.size wr W) => HN.out (ix grp k) W (hbx.trans (h.mono hbx.size)))
                  have HAY := Lib.hid (fun h => (ahead_take (f := f) (m := B) hk1 h).1)
                  have HAN := Lib.hid (fun h => (behind_take (f := f) (m := B) hk1 h).1)
                  have hlk : ((grp.take k).filter fun t => decide (f t = B)).length ≤ 1000000 := by
                    have a1 := List.length_filter_le (fun t => decide (f t = B)) (grp.take k)
                    rw [List.length_take] at a1
                    omega
                  clear hb hbx hbt
                  generalize ix grp k = x at *
                  generalize ((grp.take k).filter fun t => decide (f t = B)) = aK at *
                  generalize f x = fx at *
                  go_upto_region 18 with fail
                  refine wp_region_noPanic ?_
                  have hS : (fun W' : World => Below wr.heap.size wr W') wr.drew := (Below.refl _ _).drew
                  refine wp_region_any (by kernel_rfl) (wpAny_of_T (S := fun W' : World => Below wr.heap.size wr W') (m := 10) _ _ _ _ ?_)
                  refine' T_take (i := 0) (v := _) rfl (by kernel_rfl) (by kernel_rfl) (by kernel_rfl) (by kernel_rfl) (fun _ _ _ h => h) (by kernel_rfl) hS ?_ ?_
                  rotate_left 1
                  · intro Wv hW
                    replace i0 := cell_of_ans hW i0
                    replace i1 := cell_of_ans hW i1
                    replace d0 := cell_of_ans hW d0
                    go_simp
                    first | done | with_reducible rfl | omega
                  try simp only [Act.put, List.setIfInBounds_toArray, List.set_cons_zero, List.set_cons_succ]
                  refine' T_take (i := 1) (v := _) rfl (by kernel_rfl) (by kernel_rfl) (by kernel_rfl) (by kernel_rfl) (fun _ _ _ h => h) (by kernel_rfl) hS ?_ ?_
                  rotate_left 1
                  · intro Wv hW
                    replace i0 := cell_of_ans hW i0
                    replace i1 := cell_of_ans hW i1
                    replace d0 := cell_of_ans hW d0
                    go_simp
                    first | done | with_reducible rfl | omega
                  try simp only [Act.put, List.setIfInBounds_toArray, List.set_cons_zero, List.set_cons_succ]
                  refine' T_take (i := 2) (v := _) rfl (by kernel_rfl) (by kernel_rfl) (by kernel_rfl) (by kernel_rfl) (fun _ _ _ h => h) (by kernel_rfl) hS ?_ ?_
                  rotate_left 1
                  · intro Wv hW
                    replace i0 := cell_of_ans hW i0
                    replace i1 := cell_of_ans hW i1
                    replace d0 := cell_of_ans hW d0
                    go_simp
                    first | done | with_reducible rfl | omega
                  try simp only [Act.put, List.setIfInBounds_toArray, List.set_cons_zero, List.set_cons_succ]
                  refine' T_take (i := 3) (v := _) rfl (by kernel_rfl) (by kernel_rfl) (by kernel_rfl) (by kernel_rfl) (fun _ _ _ h => h) (by kernel_rfl) hS ?_ ?_
                  rotate_left 1
                  · intro Wv hW
                    replace i0 := cell_of_ans hW i0
                    replace i1 := cell_of_ans hW i1
                    replace d0 := cell_of_ans hW d0
                    go_simp
                    first | done | with_reducible rfl | omega
                  try simp only [Act.put, List.setIfInBounds_toArray, List.set_cons_zero, List.set_cons_succ]
                  refine' T_take (i := 4) (v := _) rfl (by kernel_rfl) (by kernel_rfl) (by kernel_rfl) (by kernel_rfl) (fun _ _ _ h => h) (by kernel_rfl) hS ?_ ?_
                  rotate_left 1
                  · intro Wv hW
                    replace i0 := cell_of_ans hW i0
                    replace i1 := cell_of_ans hW i1
                    replace d0 := cell_of_ans hW d0
                    go_simp
                    first | done | with_reducible rfl | omega
                  try simp only [Act.put, List.setIfInBounds_toArray, List.set_cons_zero, List.set_cons_succ]
                  refine' T_take (i := 5) (v := _) rfl (by kernel_rfl) (by kernel_rfl) (by kernel_rfl) (by kernel_rfl) (fun _ _ _ h => h) (by kernel_rfl) hS ?_ ?_
                  rotate_left 1
                  · intro Wv hW
                    replace i0 := cell_of_ans hW i0
                    replace i1 := cell_of_ans hW i1
                    replace d0 := cell_of_ans hW d0
                    go_simp
                    first | done | with_reducible rfl | omega
                  try simp only [Act.put, List.setIfInBounds_toArray, List.set_cons_zero, List.set_cons_succ]
                  refine' T_take (i := 6) (v := _) rfl (by kernel_rfl) (by kernel_rfl) (by kernel_rfl) (by kernel_rfl) (fun _ _ _ h => h) (by kernel_rfl) hS ?_ ?_
                  rotate_left 1
                  · intro Wv hW
                    replace i0 := cell_of_ans hW i0
                    replace i1 := cell_of_ans hW i1
                    replace d0 := cell_of_ans hW d0
                    go_simp
                    first | done | with_reducible rfl | omega
                  try simp only [Act.put, List.setIfInBounds_toArray, List.set_cons_zero, List.set_cons_succ]
                  refine' T_take (i := 8) (v := _) rfl (by kernel_rfl) (by kernel_rfl) (by kernel_rfl) (by kernel_rfl) (fun _ _ _ h => h) (by kernel_rfl) hS ?_ ?_
                  rotate_left 1
                  · intro Wv hW
                    replace i0 := cell_of_ans hW i0
                    replace i1 := cell_of_ans hW i1
                    replace d0 := cell_of_ans hW d0
                    go_simp
                    first | done | with_reducible rfl | omega
                  try simp only [Act.put, List.setIfInBounds_toArray, List.set_cons_zero, List.set_cons_succ]
                  refine T_ready (rs := [7]) (by kernel_rfl) (by simp) ?_
                  refine TReady.cons rfl (fun K hK => ?_) TReady.nil
                  try go_simp
                  refine (HNK.out _ hS).mono ?_
                  rintro e w5 ⟨rfl, hb⟩
                  have hS2 : Below wr.heap.size wr w5 := below_cat hb hS
                  try go_simp
                  refine hK.out _ _ (fun _ => hS2) (fun _ => ?_)
                  clear hK K hS hb
                  replace hS := hS2
                  clear hS2
                  try simp only [Act.put, List.setIfInBounds_toArray, List.set_cons_zero, List.set_cons_succ]
                  refine' T_take (i := 9) (v := _) rfl (by kernel_rfl) (by kernel_rfl) (by kernel_rfl) (by kernel_rfl) (fun _ _ _ h => h) (by kernel_rfl) hS ?_ ?_
                  rotate_left 1
                  · intro Wv hW
                    replace i0 := cell_of_ans hW i0
                    replace i1 := cell_of_ans hW i1
                    replace d0 := cell_of_ans hW d0
                    go_simp
                    first | done | with_reducible rfl | omega
                  try simp only [Act.put, List.setIfInBounds_toArray, List.set_cons_zero, List.set_cons_succ]
                  refine T_done (by kernel_rfl) ?_ _
                  refine NoPanic.normal ?_
                  try go_simp
                  have HBW := Lib.hid (HB2.out.trans (hS.mono HB2.out.size))
                  have HO5 := Lib.hid (HO.out.kept hS)
                  replace d0 := cell_of_ans hS d0
                  have hw5 : wl.heap.size ≤ w5.heap.size := Nat.le_trans HB2.out.size hS.size
                  clear hS i0 i1
                  by_cases hx : fx = B
                  · have e1 : (fx == B) = true := by simp [hx]
                    have HS := Lib.hid (HAY.out hx)
                    have hll : (aK ++ [x]).length = aK.length + 1 := by simp
                    clear hx HAY HAN
                    go_wp2_with (at_builtin; refine wpList_app_int (.tmp 62) (.tmp 67) rfl rfl wl.heap.size w5 _ aK x rfl rfl HO5 hlk hw5 ?_; intro A9 c9 w9 HO9 HB9)
                    go_roundw
                    case rel => exact ⟨k + 1, A9, c9, by omega, by go_num, by rw [HS.out, hll], by rw [HS.out, hll]; exact HO9.out, HBW.out.trans HB9.out⟩
                    case measure => simp [intOf]; omega
                  · have e1 : (fx == B) = false := by simp [hx]
                    have HS := Lib.hid (HAN.out hx)
                    clear hx HAY HAN
                    go_wp2_with fail
                    go_roundw
                    case rel => exact ⟨k + 1, A3, c3, by omega, by go_num, by rw [HS.out], by rw [HS.out]; exact HO5.out, HBW.out⟩
                    case measure => simp [intOf]; omega
                · obtain rfl : k = grp.length := by omega
                  have hk1i : ¬ (grp.length : Int) < (grp.length : Int) := by omega
                  rw [List.take_length] at HO
                  simp only [List.take_length]
                  have HF2 : Hid (FallR f grp (B - 1) (out ++ [grp.filter fun t => decide (f t = B)])) := fallR_next (fun t => (HF0.out t).1) HFR.out HBV.out (by omega)
                  generalize (grp.filter fun t => decide (f t = B)) = aL at *
                  have hbt : Below wt.heap.size wt wr := HBX.out.trans (hb.mono HBX.out.size)
                  have hwl : wt.heap.size ≤ wl.heap.size := HBX.out.size
                  have HX1 : Hid (Below wt.heap.size wt (wr.alloc (.cells #[.slice A3 aL.length c3] 34))) := hbt.alloc hbt.size _
                  have HRS2 : Hid (Rs RdI 34 wt.heap.size wt.heap.size (wr.alloc (.cells #[.slice A3 aL.length c3] 34)) (.slice (some ⟨wr.heap.size, 0, none⟩) [aL].length 1) [aL]) :=
                    Rs.lit hbt.size rdI (rdI_own HO.out).1 (fun b hb => Nat.le_trans hwl ((rdI_own HO.out).2 b hb))
                  have hw2t : x1.heap.size ≤ wt.heap.size := HBR.out.size
                  have hpl3 : out.length + [aL].length ≤ 1000000 := by simp; omega
                  have hl9 : out.length + [aL].length = (out ++ [aL]).length := by simp
                  clear hb hbt
                  go_wp2_with (at_builtin; refine wpList_appRs2 rdI sty93 (.tmp 69) (.tmp 71) rfl rfl (w0 := wt) rfl rfl HRS HX1 hw2t HRS2 (Nat.le_refl _) hw2t hpl3 ?_; intro A9 c9 w9 HR9 HB9 hown9)
                  go_roundw
                  case rel =>
                    rw [hl9] at HR9
                    exact ⟨out ++ [aL], B - 1, A9, c9, by simp, HR9.out, by go_num, HF2.out, by omega, by omega, HBR.out.trans HB9.out⟩
                  case measure => simp [intOf]; omega
      · have hl0 : grp = [] := List.eq_nil_of_length_eq_zero (by omega)
        have HE : Hid (out = fallL f grp.length grp) := fallR_done HFR.out (by rw [hl0]; rfl)
        have hg0i : ¬ (0 : Int) < (grp.length : Int) := by omega
        have HBF : Hid (Below w.heap.size w wr) := HB.out.trans (HBR.out.mono HB.out.size)
        have HRW := Lib.hid ((HRS.out.low HB.out.size).lowBase HB.out.size)
        clear hl0 hb
        go_wp2_with fail
        go_ret
        rw [← HE.out]
        exact ⟨A1, c1, rfl, HRW.out, HBF.out⟩
    · have HE : Hid (out = fallL f grp.length grp) := fallR_done HFR.out (low_neg (fun t => (HF0.out t).1) (by omega))
      have HBF : Hid (Below w.heap.size w wr) := HB.out.trans (HBR.out.mono HB.out.size)
      have HRW := Lib.hid ((HRS.out.low HB.out.size).lowBase HB.out.size)
      clear hb
      go_wp2_with fail
      go_ret
      rw [← HE.out]
      exact ⟨A1, c1, rfl, HRW.out, HBF.out⟩
end Go.Proofs.Ytjokbffdepcpkaa
