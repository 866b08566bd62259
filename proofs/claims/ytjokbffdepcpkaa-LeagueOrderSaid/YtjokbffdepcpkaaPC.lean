/-
  Rank. The box of a race; race. Does a list of teams rule a team out: ruledOut. Is a list of numbers sorted. The laws' helpers: listed, word. Worlds of which a few blocks have changed; a number appended to an own list, where the list lies behind it. The recursive closure of Reason: all lists of so many teams, the least one first. Why a team cannot be first: the shortest list of teams that rules it out.
-/
import Derived.Test.YtjokbffdepcpkaaPB
import Derived.Test.YtjokbffdepcpkaaPA
import Derived.Maps.AppendAt
import Derived.Deep.DeepAppendRoom
namespace Go.Proofs.Ytjokbffdepcpkaa
section

open Go.RowKit
set_option linter.unusedSimpArgs false
set_option linter.unusedVariables false

attribute [local go_sem] Oper.semAt_some
noncomputable def rankErr (l : Lg) (rules : List Int) : Int := if faultL l = 0 then (if 6 < rules.length then 3 else if allB rules.length (fun k => inB (ix rules k) 1 4) = true then 0 else 2) else faultL l
noncomputable def rankL (l : Lg) (rules : List Int) : List Int := if rankErr l rules = 0 then (List.range l.teams.toNat).map fun t : Nat => rankV l.teams.toNat l.games rules rules.length (t : Int) else []
theorem groups_len {n : Nat} {gs : List Gm} {rules : List Int} (hn : 0 < n) (hgs : ∀ g ∈ gs, GmOk n g) (k : Nat) : (groupsK n gs rules k).length ≤ n ∧ ∀ g ∈ groupsK n gs rules k, g.length ≤ n := by
  have h := rep_k (rules := rules) hn hgs k
  have e : (groupsK n gs rules k).flatten.length = n := by rw [h.perm.length_eq]; simp [wholeL]
  have hne := h.ne
  generalize groupsK n gs rules k = G at *
  have h2 : ∀ G : List (List Int), (∀ g ∈ G, g ≠ []) → G.length ≤ G.flatten.length ∧ ∀ g ∈ G, g.length ≤ G.flatten.length := by
    intro G
    induction G with
    | nil => intro _; simp
    | cons g G ih =>
      intro h
      have := ih (fun x hx => h x (by simp [hx]))
      have hg := List.length_pos_iff.2 (h g (by simp))
      rw [List.flatten_cons, List.length_append, List.length_cons]
      refine ⟨by omega, fun x hx => ?_⟩
      rcases List.mem_cons.1 hx with rfl | hx
      · omega
      · have := this.2 x hx
        omega
  rw [← e]
  exact h2 G hne
theorem rankG_at : ∀ (G : List (List Int)) (r : Int) (j : Nat) (hj : j < G.length) (t : Int), G.flatten.Nodup → t ∈ G[j] → rankG t G r = r + ((G.take j).flatten.length : Int)
  | g :: G, r, 0, _, t, _, h => by
    rw [rankG, if_pos (by simpa using h)]
    simp
  | g :: G, r, j + 1, hj, t, hn, h => by
    rw [List.flatten_cons, List.nodup_append] at hn
    have hj' : j < G.length := by simpa using hj
    have h' : t ∈ G[j] := by simpa using h
    have hm : t ∈ G.flatten := List.mem_flatten.2 ⟨G[j], List.getElem_mem _, h'⟩
    have hng : t ∉ g := fun hg => hn.2.2 t hg t hm rfl
    rw [rankG, if_neg hng, rankG_at G _ j hj' t hn.2.1 h']
    simp
    omega
/-- The ranks of those in L; else nought. -/
def fillR (G : List (List Int)) (L : List Int) (t : Nat) : Int := if (t : Int) ∈ L then rankG (t : Int) G 1 else 0
theorem fillR_add {G : List (List Int)} {L : List Int} {p : Nat} {v : Int} (h : rankG (p : Int) G 1 = v) (k : Nat) : updI' (fillR G L) p v k = fillR G (L ++ [(p : Int)]) k := by
  unfold updI' fillR
  by_cases e : k = p
  · subst e; rw [if_pos rfl, if_pos (by simp), h]
  · rw [if_neg e]
    have : ((k : Int) ∈ L ++ [(p : Int)]) = ((k : Int) ∈ L) := by
      simp only [List.mem_append, List.mem_singleton, eq_iff_iff]
      exact ⟨fun h => h.resolve_right (by omega), .inl⟩
    simp only [this]
/-- The groups out of the first j groups. -/
def partG (gs : List Gm) (rules : List Int) (k : Nat) (G : List (List Int)) (j : Nat) : List (List Int) := (G.take j).flatMap (fallG gs rules k)
theorem partG_succ {gs : List Gm} {rules : List Int} {k : Nat} {G : List (List Int)} {j : Nat} (h : j < G.length) : partG gs rules k G (j + 1) = partG gs rules k G j ++ fallG gs rules k G[j] := by
  unfold partG
  rw [List.take_succ_eq_append_getElem h, List.flatMap_append]
  simp
theorem partG_len {gs : List Gm} {rules : List Int} {k : Nat} {G : List (List Int)} {j : Nat} : (partG gs rules k G j).length ≤ (G.flatMap (fallG gs rules k)).length := by
  have : G.flatMap (fallG gs rules k) = partG gs rules k G j ++ (G.drop j).flatMap (fallG gs rules k) := by
    unfold partG
    rw [← List.flatMap_append, List.take_append_drop]
  rw [this, List.length_append]
  omega
set_option maxRecDepth 100000 in
set_option maxHeartbeats 8000000 in
theorem rank19_c (l : Lg) (A Au : Option Addr) (c cu : Nat) (rules : List Int) (w : World) (hl : Gms w.heap.size w A l.games) (hc : l.games.length ≤ c ∧ c ≤ 9223372036854775807) (hu : Byts w.heap.size w Au rules) (hcu : rules.length ≤ cu ∧ cu ≤ 9223372036854775807) (hr0 : rules.length ≤ 1000) :
    Calls Try.prog 19 #[.agg #[.int .i64 l.teams, .slice A l.games.length c], .slice Au rules.length cu] w (ListE w (rankL l rules) (rankErr l rules)) := by
  have HL := Lib.hid hl
  have HU := Lib.hid hu
  clear hl hu
  have hb : Below w.heap.size w (w.alloc (.cells #[.int .i64 l.teams, .slice A l.games.length c] 32)) := (Below.refl _ _).alloc (Nat.le_refl _) _
  have HB := Lib.hid hb
  replace HL := Lib.hid (HL.out.step hb)
  replace HU := Lib.hid (HU.out.step hb)
  clear hb
  have k0 : (w.alloc (.cells #[.int .i64 l.teams, .slice A l.games.length c] 32)).cell? ⟨w.heap.size, 0, none⟩ = some (.int .i64 l.teams) := by simp
  have k1 : (w.alloc (.cells #[.int .i64 l.teams, .slice A l.games.length c] 32)).cell? ⟨w.heap.size, 1, none⟩ = some (.slice A l.games.length c) := by simp
  have HC := Lib.hid (fun (W : World) (h : Gms W.heap.size W A l.games) => check17_c l A c W h hc)
  by_cases h1 : faultL l = 0
  rotate_left 1
  · have HF : Hid (rankErr l rules = faultL l) := by show _ = _; unfold rankErr; rw [if_neg h1]
    have HLE : Hid (rankL l rules = []) := by show _ = _; unfold rankL; rw [HF.out, if_neg h1]
    have q1 : (faultL l != 0) = true := by simp [h1]
    clear h1
    generalize faultL l = fl at *
    go_enter Try.func19, Try.ntmps19
    go_wp2_with fail
    generalize (w.alloc (.cells #[.int .i64 l.teams, .slice A l.games.length c] 32)) = x1 at *
    refine (HC.out _ HL.out).mono ?_
    rintro e w2 ⟨rfl, hb⟩
    replace HL := Lib.hid (HL.out.step hb)
    replace HU := Lib.hid (HU.out.step hb)
    replace k0 := cell_of_ans hb k0
    replace k1 := cell_of_ans hb k1
    replace HB := Lib.hid (HB.out.trans (hb.mono HB.out.size))
    clear hb
    go_wp2_with fail
    refine bodyPost_ret (results_tmp2 rfl _ _ _) rfl ?_
    exact ⟨none, 0, by rw [HLE.out, HF.out]; rfl, by rw [HLE.out]; exact ⟨fun h => by simp at h, by simp, by simp⟩, HB.out⟩
  · have hv := valid_iff.1 h1
    have HV := Lib.hid hv
    have hT2 := hv.t2
    have hT6 := hv.t6
    by_cases h2 : 6 < rules.length
    · have HF : Hid (rankErr l rules = 3) := by show _ = _; unfold rankErr; rw [if_pos h1, if_pos h2]
      have HLE : Hid (rankL l rules = []) := by show _ = _; unfold rankL; rw [HF.out, if_neg (by decide)]
      have q2 : (6 : Int) < (rules.length : Int) := by omega
      clear h2 hv
      go_enter Try.func19, Try.ntmps19
      go_wp2_with fail
      generalize (w.alloc (.cells #[.int .i64 l.teams, .slice A l.games.length c] 32)) = x1 at *
      refine (HC.out _ HL.out).mono ?_
      rw [h1]
      rintro e w2 ⟨rfl, hb⟩
      replace HL := Lib.hid (HL.out.step hb)
      replace HU := Lib.hid (HU.out.step hb)
      replace k0 := cell_of_ans hb k0
      replace k1 := cell_of_ans hb k1
      replace HB := Lib.hid (HB.out.trans (hb.mono HB.out.size))
      clear hb
      go_wp2_with fail
      refine bodyPost_ret (results_tmp2 rfl _ _ _) rfl ?_
      exact ⟨none, 0, by rw [HLE.out, HF.out]; rfl, by rw [HLE.out]; exact ⟨fun h => by simp at h, by simp, by simp⟩, HB.out⟩
    · have q2 : ¬ (6 : Int) < (rules.length : Int) := by omega
      have HAL := Lib.hid (fun (W : World) (h : Byts W.heap.size W Au rules) => allU (B := W.heap.size) Au cu 54 #[] #[] rules (fun k => inB (ix rules k) 1 4) W enters54 (Nat.le_refl _) (by omega) h (fun k _ W _ => in54_c (ix rules k) W))
      have h6 : rules.length ≤ 6 := by omega
      have HFF : Hid (rankErr l rules = if allB rules.length (fun k => inB (ix rules k) 1 4) = true then 0 else 2) := by show _ = _; unfold rankErr; rw [if_pos h1, if_neg h2]
      clear h2
      cases h3 : allB rules.length (fun k => inB (ix rules k) 1 4)
      all_goals simp only [h3] at HAL HFF
      · have HF : Hid (rankErr l rules = 2) := by show _ = _; rw [HFF.out]; rfl
        have HLE : Hid (rankL l rules = []) := by show _ = _; unfold rankL; rw [HF.out, if_neg (by decide)]
        clear hv h3
        go_enter Try.func19, Try.ntmps19
        go_wp2_with fail
        generalize (w.alloc (.cells #[.int .i64 l.teams, .slice A l.games.length c] 32)) = x1 at *
        refine (HC.out _ HL.out).mono ?_
        rw [h1]
        rintro e w2 ⟨rfl, hb⟩
        replace HL := Lib.hid (HL.out.step hb)
        replace HU := Lib.hid (HU.out.step hb)
        replace k0 := cell_of_ans hb k0
        replace k1 := cell_of_ans hb k1
        replace HB := Lib.hid (HB.out.trans (hb.mono HB.out.size))
        clear hb
        go_wp2_with fail
        refine (HAL.out _ HU.out).mono ?_
        rintro e w3 ⟨rfl, hb⟩
        replace HL := Lib.hid (HL.out.step hb)
        replace HU := Lib.hid (HU.out.step hb)
        replace k0 := cell_of_ans hb k0
        replace k1 := cell_of_ans hb k1
        replace HB := Lib.hid (HB.out.trans (hb.mono HB.out.size))
        clear hb
        go_wp2_with fail
        refine bodyPost_ret (results_tmp2 rfl _ _ _) rfl ?_
        exact ⟨none, 0, by rw [HLE.out, HF.out]; rfl, by rw [HLE.out]; exact ⟨fun h => by simp at h, by simp, by simp⟩, HB.out⟩
      · have HF : Hid (rankErr l rules = 0) := by show _ = _; rw [HFF.out]; rfl
        obtain ⟨n, hn⟩ : ∃ n : Nat, l.teams = (n : Int) := ⟨l.teams.toNat, by omega⟩
        have HLE : Hid (rankL l rules = (List.range n).map fun t : Nat => rankV n l.games rules rules.length (t : Int)) := by show _ = _; unfold rankL; rw [HF.out, if_pos rfl, hn]; rfl
        have hcode : ∀ k, k < rules.length → Code4 (ix rules k) := fun k hk => by
          have := allB_iff.1 h3 k hk
          simp only [inB, Bool.and_eq_true, decide_eq_true_eq] at this
          unfold Code4
          omega
        have HFA := Lib.hid (fun (code : Int) h4 (Ag : Option Addr) (cg : Nat) (grp : List Int) (W : World) hg hgr hcg hlen => fall55_c l A c code h4 Ag cg grp W hv hg hgr hcg hlen)
        have hn2 : 2 ≤ n ∧ n ≤ 6 := by omega
        have hmk : ∀ W, (Instr.makeSlice 34 (.int .i64 (n : Int)) (.int .i64 (n : Int))).run Try.prog W = .ok (.slice (some ⟨W.heap.size, 0, none⟩) n n) (W.alloc (.cells (madeCells #[.int .i64 0] n) 3)) := by
          exact fun W => run_make_row' 34 3 (.int .i64 0) 8 (by kernel_rfl) infoInt rfl .i64 .i64 n (by omega) (by omega) W
        clear h3 hv
        rw [hn] at k0 k1 HC HFA HL HU HB ⊢
        go_enter Try.func19, Try.ntmps19
        go_wp2_with fail
        generalize (w.alloc (.cells #[.int .i64 (n : Int), .slice A l.games.length c] 32)) = x1 at *
        refine (HC.out _ HL.out).mono ?_
        rw [h1]
        rintro e w2 ⟨rfl, hb⟩
        replace HL := Lib.hid (HL.out.step hb)
        replace HU := Lib.hid (HU.out.step hb)
        replace k0 := cell_of_ans hb k0
        replace k1 := cell_of_ans hb k1
        replace HB := Lib.hid (HB.out.trans (hb.mono HB.out.size))
        clear hb
        go_wp2_with fail
        refine (HAL.out _ HU.out).mono ?_
        rintro e w3 ⟨rfl, hb⟩
        replace HL := Lib.hid (HL.out.step hb)
        replace HU := Lib.hid (HU.out.step hb)
        replace k0 := cell_of_ans hb k0
        replace k1 := cell_of_ans hb k1
        replace HB := Lib.hid (HB.out.trans (hb.mono HB.out.size))
        clear hb
        have ltk0 := World.block_lt_of_cell? _ _ k0
        dsimp only at ltk0
        have hb : Below w3.heap.size w3 ((w3.alloc (.cells #[.int .i64 (n : Int), .slice A l.games.length c] 92)).alloc (.cells (madeCells #[.int .i64 0] n) 3)) := ((Below.refl _ _).alloc (Nat.le_refl _) _).alloc (by simp) _
        have j0 : ((w3.alloc (.cells #[.int .i64 (n : Int), .slice A l.games.length c] 92)).alloc (.cells (madeCells #[.int .i64 0] n) 3)).cell? ⟨w3.heap.size, 0, none⟩ = some (.int .i64 (n : Int)) := by go_simp
        have j1 : ((w3.alloc (.cells #[.int .i64 (n : Int), .slice A l.games.length c] 92)).alloc (.cells (madeCells #[.int .i64 0] n) 3)).cell? ⟨w3.heap.size, 1, none⟩ = some (.slice A l.games.length c) := by go_simp
        have hD : DnI ((w3.alloc (.cells #[.int .i64 (n : Int), .slice A l.games.length c] 92)).alloc (.cells (madeCells #[.int .i64 0] n) 3)) (w3.heap.size + 1) (fun _ => 0) n := by
          have := dnI_new (w3.alloc (.cells #[.int .i64 (n : Int), .slice A l.games.length c] 92)) n
          simpa using this
        have hz4 : ((w3.alloc (.cells #[.int .i64 (n : Int), .slice A l.games.length c] 92)).alloc (.cells (madeCells #[.int .i64 0] n) 3)).heap.size = w3.heap.size + 2 := by simp
        have hz3 := HB.out.size
        go_wp2_with fail
        generalize ((w3.alloc (.cells #[.int .i64 (n : Int), .slice A l.games.length c] 92)).alloc (.cells (madeCells #[.int .i64 0] n) 3)) = w4 at *
        have HB4 := Lib.hid hb
        have HNN := Lib.hid hn
        clear hb
        go_loopw [43] (fun i wr => ∃ k : Nat, k ≤ n ∧ i = .int .i64 k ∧ DnI wr (w3.heap.size + 1) (fun j => if j < k then (j : Int) else 0) n ∧ Below w3.heap.size w3 wr ∧ wr.heap.size = w3.heap.size + 2 ∧ wr.cell? ⟨w3.heap.size, 0, none⟩ = some (.int .i64 (n : Int)) ∧ wr.cell? ⟨w3.heap.size, 1, none⟩ = some (.slice A l.games.length c)) (fun i _ => n - (intOf i).toNat)
        case atStart => exact ⟨0, by omega, rfl, by simpa using hD, HB4.out, hz4, j0, j1⟩
        case round =>
          clear j0 j1 hz4 hD HB4
          obtain ⟨k, hk, rfl, hDk, hb, hzr, j0, j1⟩ := hrel
          by_cases hk1 : k < n
          · have hki : (k : Int) < (n : Int) := by omega
            obtain ⟨d0, d1⟩ := hDk.cell hk1
            have HBk := Lib.hid hb
            have HDk := Lib.hid hDk
            have HJ0 := Lib.hid j0
            have HJ1 := Lib.hid j1
            clear hb hDk
            go_wp2_with fail
            go_roundw
            case rel =>
              have hne : ∀ z, (wr.setCell ⟨w3.heap.size + 1, k, none⟩ (.int .i64 (k : Int))).cell? ⟨w3.heap.size, z, none⟩ = wr.cell? ⟨w3.heap.size, z, none⟩ := fun z => by
                have := Below.heap_setCell wr ⟨w3.heap.size + 1, k, none⟩ (.int .i64 (k : Int)) w3.heap.size (show w3.heap.size ≠ w3.heap.size + 1 by omega)
                simp only [World.cell?, this]
              refine ⟨k + 1, by omega, by go_num, (HDk.out.set k (k : Int)).congr (fun j hj => ?_), HBk.out.setCell (by dsimp only; omega) _, by simpa [World.setCell] using hzr, (hne 0).trans HJ0.out, (hne 1).trans HJ1.out⟩
              unfold updI'
              by_cases e : j = k
              · subst e; simp
              · rw [if_neg e]; simp only [show (j < k + 1) = (j < k) by simp; omega]
            case measure => simp [intOf]; omega
          · have ekn : n = k := by omega
            subst ekn
            have hki : ¬ (n : Int) < (n : Int) := by omega
            have eW : ((List.range n).map fun j => if j < n then (j : Int) else 0) = wholeL n := by
              unfold wholeL
              exact List.map_congr_left fun j hj => by rw [if_pos (List.mem_range.1 hj)]; rfl
            have hO := hDk.own (base := w3.heap.size) (by omega) (by omega)
            rw [eW] at hO
            have hwl : (wholeL n).length = n := by simp [wholeL]
            have hlit := Rs.lit (base := w3.heap.size) (lo := w3.heap.size) (e := 34) (w := wr) (by omega) rdI (rdI_own hO).1 (rdI_own hO).2
            rw [hwl] at hlit
            have HRS0 : Hid (Rs RdI 34 w3.heap.size w3.heap.size (wr.alloc (.cells #[.slice (some ⟨w3.heap.size + 1, 0, none⟩) n n] 34)) (.slice (some ⟨wr.heap.size, 0, none⟩) (groupsK n l.games rules 0).length 1) (groupsK n l.games rules 0)) := hlit
            have hb5 : Below wr.heap.size wr (wr.alloc (.cells #[.slice (some ⟨w3.heap.size + 1, 0, none⟩) n n] 34)) := (Below.refl _ _).alloc (Nat.le_refl _) _
            have HB5 : Hid (Below w3.heap.size w3 (wr.alloc (.cells #[.slice (some ⟨w3.heap.size + 1, 0, none⟩) n n] 34))) := hb.trans (hb5.mono (by omega))
            have HBa := Lib.hid hb5
            have hzr5 : (wr.alloc (.cells #[.slice (some ⟨w3.heap.size + 1, 0, none⟩) n n] 34)).heap.size = w3.heap.size + 3 := by simp; omega
            replace j0 := cell_of_ans hb5 j0
            replace j1 := cell_of_ans hb5 j1
            clear hb hb5 hlit hO hDk eW
            go_wp2_with fail
            simp only [hzr] at *
            generalize (wr.alloc (.cells #[.slice (some ⟨w3.heap.size + 1, 0, none⟩) n n] 34)) = w5 at *
            go_loopw [10, 55] (fun g i wr => ∃ (kk : Nat) (A1 : Option Addr) (c1 : Nat), kk ≤ rules.length ∧ i = .int .i64 kk ∧ g = .slice A1 (groupsK n l.games rules kk).length c1 ∧ Rs RdI 34 w3.heap.size w3.heap.size wr (.slice A1 (groupsK n l.games rules kk).length c1) (groupsK n l.games rules kk) ∧ Below w5.heap.size w5 wr) (fun _ i _ => rules.length - (intOf i).toNat)
            case atStart => exact ⟨0, _, 1, by omega, rfl, rfl, HRS0.out, Below.refl _ _⟩
            case round =>
              clear HRS0
              obtain ⟨kk, A1, c1, hkk, rfl, rfl, hrs, hb⟩ := hrel
              have HG := Lib.hid hrs
              have HBR := Lib.hid hb
              clear hrs
              by_cases hk2 : kk < rules.length
              · have hk2i : (kk : Int) < (rules.length : Int) := by omega
                have HB3r : Hid (Below w3.heap.size w3 wr) := HB5.out.trans (hb.mono (by omega))
                obtain ⟨b, off, rfl, hbl, d0, d1, d2⟩ := HU.out.at_ hk2
                replace d0 := cell_of_ans HB3r.out d0
                have hcd := hcode kk hk2
                have i0 := cell_of_ans hb j0
                have i1 := cell_of_ans hb j1
                have HGS : Hid (groupsK n l.games rules (kk + 1) = (groupsK n l.games rules kk).flatMap (fallG l.games rules kk)) := rfl
                have hgl := groups_len (rules := rules) (gs := l.games) (n := n) (by omega) (fun g hg => by have := HV.out.mem hg; rwa [HNN.out] at this) kk
                have hgl1 := (groups_len (rules := rules) (gs := l.games) (n := n) (by omega) (fun g hg => by have := HV.out.mem hg; rwa [HNN.out] at this) (kk + 1)).1
                rw [HGS.out] at hgl1
                have hzw : w3.heap.size ≤ wr.heap.size := by have := hb.size; omega
                clear hb
                generalize groupsK n l.games rules kk = G at *
                generalize hx : ix rules kk = x at *
                go_wp2_with fail
                generalize wr = wt at *
                go_loopw [13, 61] (fun o j wr => ∃ (jj : Nat) (A2 : Option Addr) (c2 : Nat), jj ≤ G.length ∧ j = .int .i64 jj ∧ o = .slice A2 (partG l.games rules kk G jj).length c2 ∧ Rs RdI 34 wt.heap.size wt.heap.size wr (.slice A2 (partG l.games rules kk G jj).length c2) (partG l.games rules kk G jj) ∧ Below wt.heap.size wt wr) (fun _ j _ => G.length - (intOf j).toNat)
                case atStart => exact ⟨0, none, 0, by omega, rfl, rfl, Rs.nil, Below.refl _ _⟩
                case round =>
                  obtain ⟨jj, A2, c2, hjj, rfl, rfl, hrs, hb⟩ := hrel
                  have HRS := Lib.hid hrs
                  clear hrs
                  by_cases hj1 : jj < G.length
                  · have hj1i : (jj : Int) < (G.length : Int) := by omega
                    have HPS := Lib.hid (partG_succ (gs := l.games) (rules := rules) (k := kk) hj1)
                    have hpl := partG_len (gs := l.games) (rules := rules) (k := kk) (G := G) (j := jj + 1)
                    rw [HPS.out, List.length_append] at hpl
                    obtain ⟨gg, cg1, ug, eg, -, -, hgg, cz, hrd⟩ := HG.out.at_ hj1
                    obtain ⟨Ag, cg, rfl, hg1, hg2, hg3⟩ := hrd
                    injection eg with eg1 eg2 eg3
                    subst eg1
                    have hgx := hgl.2 _ (List.getElem_mem hj1)
                    have HGI := Lib.hid hg3
                    clear hg3 eg2 eg3
                    have HFX : Hid (fallG l.games rules kk G[jj] = fallL (numF l x G[jj]) G[jj].length G[jj]) := by rw [← hx]; exact rfl
                    rw [HFX.out] at HPS hpl
                    generalize G[jj] = grp at *
                    have cz2 := cell_of_ans hb cz
                    have q0 := cell_of_ans hb i0
                    have q1 := cell_of_ans hb i1
                    have hwt := hb.size
                    have HGIr := Lib.hid (HGI.out.below hb)
                    have HLr : Hid (Gms w3.heap.size wr A l.games) := HL.out.below (HB3r.out.trans (hb.mono hzw))
                    have HFB := Lib.hid (fun (W : World) (h : Below wr.heap.size wr W) => HFA.out x hcd Ag cg grp W ((HLr.out.below (h.mono (by omega))).more (by have := h.size; omega)) ((HGIr.out.below (h.mono hwt)).more (by have := h.size; omega)) ⟨hg1, hg2⟩ (by omega))
                    have ltg := World.block_lt_of_cell? _ _ cz2
                    have ltq := World.block_lt_of_cell? _ _ q0
                    dsimp only at ltg ltq
                    have hpl6 : (partG l.games rules kk G jj).length + (fallL (numF l x grp) grp.length grp).length ≤ 1000000 := by omega
                    have HBw := Lib.hid hb
                    clear hb hpl
                    generalize fallL (numF l x grp) grp.length grp = fl at *
                    go_upto_region 23 with fail
                    have ltqt := World.block_lt_of_cell? _ _ i0
                    dsimp only at ltqt
                    have HSB : Hid (Below wr.heap.size wr wr.drew) := (Below.refl _ _).drew
                    refine wp_region_noPanic ?_
                    have hS : (fun W' : World => Below wt.heap.size wr W') wr.drew := (Below.refl _ _).drew
                    refine wp_region_any (by kernel_rfl) (wpAny_of_T (S := fun W' : World => Below wt.heap.size wr W') (m := 8) _ _ _ _ ?_)
                    refine' T_take (i := 0) (v := _) rfl (by kernel_rfl) (by kernel_rfl) (by kernel_rfl) (by kernel_rfl) (fun _ _ _ h => h) (by kernel_rfl) hS ?_ ?_
                    rotate_left 1
                    · intro Wv hW
                      replace q0 := (hW.cell (p := ⟨w3.heap.size, 0, none⟩) ltqt).trans q0
                      replace q1 := (hW.cell (p := ⟨w3.heap.size, 1, none⟩) ltqt).trans q1
                      go_simp
                      first | done | with_reducible rfl | omega
                    try simp only [Act.put, List.setIfInBounds_toArray, List.set_cons_zero, List.set_cons_succ]
                    refine' T_take (i := 1) (v := _) rfl (by kernel_rfl) (by kernel_rfl) (by kernel_rfl) (by kernel_rfl) (fun _ _ _ h => h) (by kernel_rfl) hS ?_ ?_
                    rotate_left 1
                    · intro Wv hW
                      replace q0 := (hW.cell (p := ⟨w3.heap.size, 0, none⟩) ltqt).trans q0
                      replace q1 := (hW.cell (p := ⟨w3.heap.size, 1, none⟩) ltqt).trans q1
                      go_simp
                      first | done | with_reducible rfl | omega
                    try simp only [Act.put, List.setIfInBounds_toArray, List.set_cons_zero, List.set_cons_succ]
                    refine' T_take (i := 2) (v := _) rfl (by kernel_rfl) (by kernel_rfl) (by kernel_rfl) (by kernel_rfl) (fun _ _ _ h => h) (by kernel_rfl) hS ?_ ?_
                    rotate_left 1
                    · intro Wv hW
                      replace q0 := (hW.cell (p := ⟨w3.heap.size, 0, none⟩) ltqt).trans q0
                      replace q1 := (hW.cell (p := ⟨w3.heap.size, 1, none⟩) ltqt).trans q1
                      go_simp
                      first | done | with_reducible rfl | omega
                    try simp only [Act.put, List.setIfInBounds_toArray, List.set_cons_zero, List.set_cons_succ]
                    refine' T_take (i := 4) (v := _) rfl (by kernel_rfl) (by kernel_rfl) (by kernel_rfl) (by kernel_rfl) (fun _ _ _ h => h) (by kernel_rfl) hS ?_ ?_
                    rotate_left 1
                    · intro Wv hW
                      replace q0 := (hW.cell (p := ⟨w3.heap.size, 0, none⟩) ltqt).trans q0
                      replace q1 := (hW.cell (p := ⟨w3.heap.size, 1, none⟩) ltqt).trans q1
                      go_simp
                      first | done | with_reducible rfl | omega
                    try simp only [Act.put, List.setIfInBounds_toArray, List.set_cons_zero, List.set_cons_succ]
                    refine T_ready (rs := [3]) (by kernel_rfl) (by simp) ?_
                    refine TReady.cons rfl (fun K hK => ?_) TReady.nil
                    try go_simp
                    refine (rule56_c x hcd _).mono ?_
                    rintro e y1 ⟨rfl, hb⟩
                    have hS2 : Below wt.heap.size wr y1 := hS.trans (hb.mono (Nat.le_trans hwt HSB.out.size))
                    replace HSB : Hid (Below wr.heap.size wr y1) := HSB.out.trans (hb.mono HSB.out.size)
                    clear hb
                    try go_simp
                    refine hK.out _ _ (fun _ => hS2) (fun _ => ?_)
                    clear hK K hS
                    have hS := hS2
                    clear hS2
                    try simp only [Act.put, List.setIfInBounds_toArray, List.set_cons_zero, List.set_cons_succ]
                    refine T_ready (rs := [5]) (by kernel_rfl) (by simp) ?_
                    refine TReady.cons rfl (fun K hK => ?_) TReady.nil
                    try go_simp
                    refine (HFB.out _ HSB.out).mono ?_
                    rintro e y2 ⟨FA, fc, rfl, hrf, hb⟩
                    have HRF := Lib.hid (hrf.low (show wr.heap.size ≤ _ from HSB.out.size))
                    have hS2 : Below wt.heap.size wr y2 := hS.trans (hb.mono (Nat.le_trans hwt HSB.out.size))
                    replace HSB : Hid (Below wr.heap.size wr y2) := HSB.out.trans (hb.mono HSB.out.size)
                    clear hb hrf
                    try go_simp
                    refine hK.out _ _ (fun _ => hS2) (fun _ => ?_)
                    clear hK K hS
                    have hS := hS2
                    clear hS2
                    try simp only [Act.put, List.setIfInBounds_toArray, List.set_cons_zero, List.set_cons_succ]
                    refine T_ready (rs := [6]) (by kernel_rfl) (by simp) ?_
                    refine TReady.cons rfl (fun K hK => ?_) TReady.nil
                    refine step_appRs rdI sty93 (.tmp 65) (.tmp 70) rfl rfl (w0 := wr) rfl rfl HRS HSB hwt HRF (Nat.le_refl _) hwt hpl6 ?_
                    intro A8 c8 t9 HR8 HB8
                    refine hK.out _ _ (fun _ => HB8.out) (fun _ => ?_)
                    clear hK K hS
                    have hS := HB8.out
                    try simp only [Act.put, List.setIfInBounds_toArray, List.set_cons_zero, List.set_cons_succ]
                    refine' T_take (i := 7) (v := _) rfl (by kernel_rfl) (by kernel_rfl) (by kernel_rfl) (by kernel_rfl) (fun _ _ _ h => h) (by kernel_rfl) hS ?_ ?_
                    rotate_left 1
                    · intro Wv hW
                      replace q0 := (hW.cell (p := ⟨w3.heap.size, 0, none⟩) ltqt).trans q0
                      replace q1 := (hW.cell (p := ⟨w3.heap.size, 1, none⟩) ltqt).trans q1
                      go_simp
                      first | done | with_reducible rfl | omega
                    try simp only [Act.put, List.setIfInBounds_toArray, List.set_cons_zero, List.set_cons_succ]
                    refine T_done (by kernel_rfl) ?_ _
                    refine NoPanic.normal ?_
                    try go_simp
                    go_wp2_with fail
                    go_roundw
                    case rel => exact ⟨jj + 1, A8, c8, by omega, by go_num, by rw [HPS.out, List.length_append], by rw [HPS.out, List.length_append]; exact HR8.out, HBw.out.trans HB8.out⟩
                    case measure => simp [intOf]; omega
                  · obtain rfl : jj = G.length := by omega
                    have hj1i : ¬ (G.length : Int) < (G.length : Int) := by omega
                    have eP : partG l.games rules kk G G.length = groupsK n l.games rules (kk + 1) := by rw [HGS.out]; unfold partG; rw [List.take_length]
                    rw [eP] at HRS
                    simp only [eP]
                    have HBw := Lib.hid hb
                    clear hb
                    go_wp2_with fail
                    go_roundw
                    case rel => exact ⟨kk + 1, A2, c2, by omega, by go_num, rfl, (HRS.out.low hzw).lowBase hzw, HBR.out.trans (HBw.out.mono (by have := HBR.out.size; omega))⟩
                    case measure => simp [intOf]; omega
              · obtain rfl : kk = rules.length := by omega
                have hk2i : ¬ (rules.length : Int) < (rules.length : Int) := by omega
                have HB3r : Hid (Below w3.heap.size w3 wr) := HB5.out.trans (hb.mono (by omega))
                have HRK := Lib.hid HLE.out
                have ltw := World.block_lt_of_cell? _ _ k0
                dsimp only at ltw
                replace k0 := cell_of_ans HB3r.out k0
                have hzw : w3.heap.size ≤ wr.heap.size := by have := hb.size; omega
                have hgl := groups_len (rules := rules) (gs := l.games) (n := n) (by omega) (fun g hg => by have := HV.out.mem hg; rwa [HNN.out] at this) rules.length
                clear hb
                unfold rankV at HRK
                have hrep := Lib.hid (rep_k (n := n) (gs := l.games) (rules := rules) (by omega) (fun g hg => by have := HV.out.mem hg; rwa [HNN.out] at this) rules.length)
                generalize groupsK n l.games rules rules.length = G at *
                have HND : Hid (G.flatten.Nodup) := hrep.out.perm.nodup_iff.2 (whole_nodup n)
                have HPM : Hid (∀ x, x ∈ G.flatten ↔ 0 ≤ x ∧ x < (n : Int)) := fun x => by rw [hrep.out.perm.mem_iff]; exact mem_whole
                have HGL : Hid (G.flatten.length = n) := by show _ = _; rw [hrep.out.perm.length_eq]; simp [wholeL]
                clear hrep
                have hb6 : Below wr.heap.size wr (wr.alloc (.cells (madeCells #[.int .i64 0] n) 3)) := (Below.refl _ _).alloc (Nat.le_refl _) _
                have hD6 : DnI (wr.alloc (.cells (madeCells #[.int .i64 0] n) 3)) wr.heap.size (fillR G []) n := (dnI_new wr n).congr (fun k _ => by simp [fillR])
                have hz6 : (wr.alloc (.cells (madeCells #[.int .i64 0] n) 3)).heap.size = wr.heap.size + 1 := by simp
                go_wp2_with fail
                generalize (wr.alloc (.cells (madeCells #[.int .i64 0] n) 3)) = w6 at *
                obtain ⟨rb, hrb⟩ : ∃ rb, rb = wr.heap.size := ⟨_, rfl⟩
                have HRB := Lib.hid hrb
                rw [← hrb] at hD6 hz6
                simp only [← hrb]
                clear hrb
                have HB6 := Lib.hid hb6
                clear hb6
                generalize wr = wg at *
                go_loopw [17, 80] (fun rk i wr => ∃ j : Nat, j ≤ G.length ∧ i = .int .i64 j ∧ rk = .int .i64 (1 + ((G.take j).flatten.length : Int)) ∧ DnI wr rb (fillR G (G.take j).flatten) n ∧ Below wg.heap.size wg wr) (fun _ i _ => G.length - (intOf i).toNat)
                case atStart => exact ⟨0, by omega, rfl, rfl, hD6, HB6.out⟩
                case round =>
                  clear hD6
                  obtain ⟨j, hj, rfl, rfl, hD, hb⟩ := hrel
                  by_cases hj1 : j < G.length
                  · have hj1i : (j : Int) < (G.length : Int) := by omega
                    obtain ⟨gg, cg1, ug, eg, -, -, hgg, cz, hrd⟩ := HG.out.at_ hj1
                    obtain ⟨Ag, cg, rfl, hg1, hg2, hg3⟩ := hrd
                    injection eg with eg1 eg2 eg3
                    subst eg1
                    have HGI := Lib.hid hg3
                    have HRA := Lib.hid (fun t h => rankG_at G 1 j hj1 t HND.out h)
                    have HMG : Hid (∀ x ∈ G[j], 0 ≤ x ∧ x < (n : Int)) := fun x hx => (HPM.out x).1 (List.mem_flatten.2 ⟨_, List.getElem_mem hj1, hx⟩)
                    have HTS : Hid ((G.take (j + 1)).flatten = (G.take j).flatten ++ G[j]) := by
                      show _ = _
                      rw [List.take_succ_eq_append_getElem hj1, List.flatten_append]
                      simp
                    have hfl : (G.take (j + 1)).flatten.length ≤ n := by
                      have h1 := HGL.out
                      have h2 : G.flatten = (G.take (j + 1)).flatten ++ (G.drop (j + 1)).flatten := by rw [← List.flatten_append, List.take_append_drop]
                      rw [h2, List.length_append] at h1
                      omega
                    rw [HTS.out, List.length_append] at hfl
                    have cz2 := cell_of_ans hb cz
                    have HDj := Lib.hid hD
                    have HBj := Lib.hid hb
                    clear hg3 eg2 eg3 hD hb
                    generalize G[j] = grp at *
                    generalize (G.take j).flatten = Lj at *
                    go_wp2_with fail
                    generalize wr = wt at *
                    go_loopw [86] (fun i wr => ∃ m : Nat, m ≤ grp.length ∧ i = .int .i64 m ∧ DnI wr rb (fillR G (Lj ++ grp.take m)) n ∧ Below wg.heap.size wg wr) (fun i _ => grp.length - (intOf i).toNat)
                    case atStart => exact ⟨0, by omega, rfl, by simpa using HDj.out, HBj.out⟩
                    case round =>
                      obtain ⟨m, hm, rfl, hD, hb⟩ := hrel
                      by_cases hm1 : m < grp.length
                      · have hm1i : (m : Int) < (grp.length : Int) := by omega
                        obtain ⟨b, off, rfl, hbl, d0⟩ := HGI.out.at_ hm1
                        replace d0 := cell_of_ans hb d0
                        have hmem : ix grp m ∈ grp := by rw [ix_lt hm1]; exact List.getElem_mem hm1
                        have hrng := HMG.out _ hmem
                        have hra := HRA.out _ hmem
                        have HTK : Hid (grp.take (m + 1) = grp.take m ++ [ix grp m]) := by show _ = _; rw [List.take_succ_eq_append_getElem hm1, ← ix_lt hm1]
                        obtain ⟨p, hp⟩ : ∃ p : Nat, ix grp m = (p : Int) := ⟨(ix grp m).toNat, by omega⟩
                        rw [hp] at d0 hrng hra HTK
                        have hpn : p < n := by omega
                        have hpi : (p : Int) < (n : Int) := by omega
                        obtain ⟨e0, e1⟩ := hD.cell hpn
                        have HD := Lib.hid hD
                        have HBm := Lib.hid hb
                        have HFA2 := Lib.hid (fun k => fillR_add (G := G) (L := Lj ++ grp.take m) hra k)
                        clear hD hb hmem hp hra
                        go_wp2_with fail
                        go_roundw
                        case rel => exact ⟨m + 1, by omega, by go_num, (HD.out.set p _).congr (fun k _ => by rw [HFA2.out, HTK.out, List.append_assoc]), HBm.out.setCell (by have := HRB.out; dsimp only; omega) _⟩
                        case measure => simp [intOf]; omega
                      · obtain rfl : m = grp.length := by omega
                        have hm1i : ¬ (grp.length : Int) < (grp.length : Int) := by omega
                        have HD := Lib.hid hD
                        have HBm := Lib.hid hb
                        have hw17 : IntKind.i64.wrap (1 + (Lj.length : Int) + (grp.length : Int)) = 1 + (Lj.length : Int) + (grp.length : Int) := IntWalk.i64_in _ (by omega)
                        clear hD hb
                        go_wp2_with fail
                        go_roundw
                        case rel => exact ⟨j + 1, by omega, by go_num, by rw [HTS.out, List.length_append]; simp; omega, by rw [HTS.out]; simpa using HD.out, HBm.out⟩
                        case measure => simp [intOf]; omega
                  · obtain rfl : j = G.length := by omega
                    have hj1i : ¬ (G.length : Int) < (G.length : Int) := by omega
                    rw [List.take_length] at hD
                    have hO := (hD.own (base := rb) (Nat.le_refl _) (by omega)).isInts
                    have eL : ((List.range n).map (fillR G G.flatten)) = rankL l rules := by
                      rw [HRK.out]
                      exact List.map_congr_left fun k hk => by unfold fillR; rw [if_pos ((HPM.out k).2 ⟨by omega, by have := List.mem_range.1 hk; omega⟩)]
                    rw [eL] at hO
                    have hlen : (rankL l rules).length = n := by rw [← eL]; simp
                    have hp := isInts_parts hO
                    have HPI := Lib.hid hp
                    have HBE : Hid (Below w.heap.size w wr) := (HB.out.trans (HB3r.out.mono HB.out.size)).trans (hb.mono (by have := HB.out.size; omega))
                    have HLN := Lib.hid hlen
                    clear hO hD hb hp eL hlen
                    go_wp2_with fail
                    refine bodyPost_ret (results_tmp2 rfl _ _ _) rfl ?_
                    exact ⟨_, n, by rw [HLN.out, HF.out]; rfl, ⟨HPI.out.2.2, HPI.out.1, HPI.out.2.1⟩, HBE.out⟩
end

section

open Go.RowKit
set_option linter.unusedSimpArgs false
set_option linter.unusedVariables false

attribute [local go_sem] Oper.semAt_some
/-- A race's box: the team, what it can reach, what all have, the open games, what was given. -/
def RaceAt (W : World) (q : Nat) (tm rc : Int) (f : Nat → Int) (O Gv : Value) : Prop := W.heap[q]? = some (.cells #[.int .i64 tm, .int .i64 rc, .int .i64 (f 0), .int .i64 (f 1), .int .i64 (f 2), .int .i64 (f 3), .int .i64 (f 4), .int .i64 (f 5), O, Gv] 123)
section
variable {W W' : World} {q : Nat} {tm rc : Int} {f : Nat → Int} {O Gv : Value}
theorem RaceAt.lt (h : RaceAt W q tm rc f O Gv) : q < W.heap.size := (Array.getElem?_eq_some_iff.1 h).1
theorem RaceAt.step (h : RaceAt W q tm rc f O Gv) (hb : Below W.heap.size W W') : RaceAt W' q tm rc f O Gv := (hb.block q h.lt).trans h
theorem RaceAt.low {B : Nat} (h : RaceAt W q tm rc f O Gv) (hb : Below B W W') (hq : q < B) : RaceAt W' q tm rc f O Gv := (hb.block q hq).trans h
theorem RaceAt.cells (h : RaceAt W q tm rc f O Gv) : W.cell? ⟨q, 0, none⟩ = some (.int .i64 tm) ∧ W.cell? ⟨q, 1, none⟩ = some (.int .i64 rc) ∧ W.cell? ⟨q, 8, none⟩ = some O ∧ W.cell? ⟨q, 9, none⟩ = some Gv ∧ W.frozen? ⟨q, 1, none⟩ = false ∧ W.frozen? ⟨q, 9, none⟩ = false := by
  unfold RaceAt at h
  simp [World.cell?, World.frozen?, h]
theorem RaceAt.sums (h : RaceAt W q tm rc f O Gv) {k : Nat} (hk : k < 6) : W.cell? ⟨q, 2 + k, none⟩ = some (.int .i64 (f k)) := by
  unfold RaceAt at h
  have : k = 0 ∨ k = 1 ∨ k = 2 ∨ k = 3 ∨ k = 4 ∨ k = 5 := by omega
  rcases this with rfl | rfl | rfl | rfl | rfl | rfl <;> simp [World.cell?, h]
theorem RaceAt.setR (h : RaceAt W q tm rc f O Gv) (v : Int) : RaceAt (W.setCell ⟨q, 1, none⟩ (.int .i64 v)) q tm v f O Gv := by
  unfold RaceAt at h ⊢
  simp [World.setCell, Array.getElem?_modify, h]
theorem RaceAt.setG (h : RaceAt W q tm rc f O Gv) (v : Value) : RaceAt (W.setCell ⟨q, 9, none⟩ v) q tm rc f O v := by
  unfold RaceAt at h ⊢
  simp [World.setCell, Array.getElem?_modify, h]
end
/-- Is a team in a game? -/
def inG (tm : Int) (g : Gm) : Bool := decide (g.a = tm) || decide (g.b = tm)
def reachK (l : Lg) (tm : Int) (k : Nat) : Int := sumsF l tm.toNat + 2 * ((opensL l.games).take k).countP (inG tm)
def reachF (l : Lg) (tm : Int) : Int := reachK l tm (opensL l.games).length
theorem reachK_succ {l : Lg} {tm : Int} {k : Nat} (hk : k < (opensL l.games).length) : reachK l tm (k + 1) = if inG tm (gmx (opensL l.games) k) = true then reachK l tm k + 2 else reachK l tm k := by
  unfold reachK
  rw [List.take_succ_eq_append_getElem hk, List.countP_append, ← gmx_lt hk]
  split
  · next h => simp [h]; omega
  · next h => simp [h]
theorem reachK_rng {l : Lg} (hv : Valid l) {tm : Int} {k : Nat} (hk : k ≤ (opensL l.games).length) : 0 ≤ reachK l tm k ∧ reachK l tm k ≤ 60040 := by
  have h1 := sumsF_range hv tm.toNat
  have h2 := List.countP_le_length (p := inG tm) (l := (opensL l.games).take k)
  have h3 := opens_len l.games
  have h4 := hv.len
  rw [List.length_take] at h2
  unfold reachK
  omega
theorem grown_set (W : World) (q o : Nat) (v : Value) : W.grownBy (W.setCell ⟨q, o, none⟩ v) (some q) := ⟨rfl, rfl, rfl, by simp [World.setCell], fun i hi hne => Below.heap_setCell W ⟨q, o, none⟩ v i (fun e => hne (by simp [e]))⟩
/-- What race answers: a new box. -/
def RaceP (l : Lg) (p : Nat) (w : World) (e : Ending) (w' : World) : Prop := ∃ q OA oc, e = .returned (.pointer (some ⟨q, 0, none⟩)) ∧ w.heap.size ≤ q ∧ RaceAt w' q (p : Int) (reachF l (p : Int)) (sumsF l) (.slice OA (opensL l.games).length oc) (.slice none 0 0) ∧ OwnM 85 w.heap.size w' (.slice OA (opensL l.games).length oc) (opensL l.games) ∧ (Value.slice OA (opensL l.games).length oc).ownBlock ≠ some q ∧ Below w.heap.size w w'
set_option maxRecDepth 100000 in
set_option maxHeartbeats 8000000 in
theorem race70_c (l : Lg) (p : Nat) (A : Option Addr) (c : Nat) (w : World) (hv : Valid l) (hp : (p : Int) < l.teams) (hl : Gms w.heap.size w A l.games) (hc : l.games.length ≤ c ∧ c ≤ 9223372036854775807) :
    Calls Try.prog 70 #[.agg #[.int .i64 l.teams, .slice A l.games.length c], .int .i64 (p : Int)] w (RaceP l p w) := by
  have HL := Lib.hid hl
  have hp6 : p < 6 := by have := hv.t6; omega
  have HSU := Lib.hid (fun (W : World) (h : Gms W.heap.size W A l.games) => sums61_c l A c W h hc hv)
  have HOP := Lib.hid (fun (W : World) (h : Gms W.heap.size W A l.games) => open59_c l A c W h hc (by have := hv.len; omega))
  have HV := Lib.hid hv
  have hb : Below w.heap.size w (w.alloc (.cells #[.int .i64 l.teams, .slice A l.games.length c] 32)) := (Below.refl _ _).alloc (Nat.le_refl _) _
  have HB := Lib.hid hb
  replace HL := Lib.hid (HL.out.step hb)
  clear hb hl hv
  have k0 : (w.alloc (.cells #[.int .i64 l.teams, .slice A l.games.length c] 32)).cell? ⟨w.heap.size, 0, none⟩ = some (.int .i64 l.teams) := by simp
  have k1 : (w.alloc (.cells #[.int .i64 l.teams, .slice A l.games.length c] 32)).cell? ⟨w.heap.size, 1, none⟩ = some (.slice A l.games.length c) := by simp
  go_enter Try.func70, Try.ntmps70
  go_wp2_with fail
  generalize (w.alloc (.cells #[.int .i64 l.teams, .slice A l.games.length c] 32)) = x1 at *
  refine wp_region_noPanic ?_
  have hS : (fun W' : World => Below x1.heap.size x1 W') x1.drew := (Below.refl _ _).drew
  refine wp_region_any (by kernel_rfl) (wpAny_of_T (S := fun W' : World => Below x1.heap.size x1 W') (m := 8) _ _ _ _ ?_)
  refine' T_take (i := 0) (v := _) rfl (by kernel_rfl) (by kernel_rfl) (by kernel_rfl) (by kernel_rfl) (fun _ _ _ h => h) (by kernel_rfl) hS ?_ ?_
  rotate_left 1
  · intro Wv hW
    replace k0 := cell_of_ans hW k0
    replace k1 := cell_of_ans hW k1
    go_simp
    first | done | with_reducible rfl | omega
  try simp only [Act.put, List.setIfInBounds_toArray, List.set_cons_zero, List.set_cons_succ]
  refine' T_take (i := 1) (v := _) rfl (by kernel_rfl) (by kernel_rfl) (by kernel_rfl) (by kernel_rfl) (fun _ _ _ h => h) (by kernel_rfl) hS ?_ ?_
  rotate_left 1
  · intro Wv hW
    replace k0 := cell_of_ans hW k0
    replace k1 := cell_of_ans hW k1
    go_simp
    first | done | with_reducible rfl | omega
  try simp only [Act.put, List.setIfInBounds_toArray, List.set_cons_zero, List.set_cons_succ]
  refine' T_take (i := 3) (v := _) rfl (by kernel_rfl) (by kernel_rfl) (by kernel_rfl) (by kernel_rfl) (fun _ _ _ h => h) (by kernel_rfl) hS ?_ ?_
  rotate_left 1
  · intro Wv hW
    replace k0 := cell_of_ans hW k0
    replace k1 := cell_of_ans hW k1
    go_simp
    first | done | with_reducible rfl | omega
  try simp only [Act.put, List.setIfInBounds_toArray, List.set_cons_zero, List.set_cons_succ]
  refine T_ready (rs := [2]) (by kernel_rfl) (by simp) ?_
  refine TReady.cons rfl (fun K hK => ?_) TReady.nil
  try go_simp
  refine (HSU.out _ (HL.out.step hS)).mono ?_
  rintro e y1 ⟨rfl, hb⟩
  unfold six
  have hS2 : Below x1.heap.size x1 y1 := hS.trans (hb.mono hS.size)
  clear hb
  try go_simp
  refine hK.out _ _ (fun _ => hS2) (fun _ => ?_)
  clear hK K hS
  have hS := hS2
  clear hS2
  try simp only [Act.put, List.setIfInBounds_toArray, List.set_cons_zero, List.set_cons_succ]
  refine T_ready (rs := [4]) (by kernel_rfl) (by simp) ?_
  refine TReady.cons rfl (fun K hK => ?_) TReady.nil
  try go_simp
  refine (HOP.out _ (HL.out.step hS)).mono ?_
  rintro e y2 ⟨OA, oc, rfl, hof, hb⟩
  have HOF := Lib.hid (World.ownsRow.lt hof)
  have HOM := Lib.hid hof
  have HZ := Lib.hid hS.size
  have HZ2 : Hid (x1.heap.size ≤ y2.heap.size) := Nat.le_trans hS.size hb.size
  have hS2 : Below x1.heap.size x1 y2 := hS.trans (hb.mono hS.size)
  clear hb hof
  try go_simp
  refine hK.out _ _ (fun _ => hS2) (fun _ => ?_)
  clear hK K hS
  have hS := hS2
  clear hS2
  try simp only [Act.put, List.setIfInBounds_toArray, List.set_cons_zero, List.set_cons_succ]
  refine' T_take (i := 5) (v := _) rfl (by kernel_rfl) (by kernel_rfl) (by kernel_rfl) (by kernel_rfl) (fun _ _ _ h => h) (by kernel_rfl) hS ?_ ?_
  rotate_left 1
  · intro Wv hW
    replace k0 := cell_of_ans hW k0
    replace k1 := cell_of_ans hW k1
    go_simp
    first | done | with_reducible rfl | omega
  try simp only [Act.put, List.setIfInBounds_toArray, List.set_cons_zero, List.set_cons_succ]
  refine T_ready (rs := [6]) (by kernel_rfl) (by simp) ?_
  refine TReady.cons rfl (fun K hK => ?_) TReady.nil
  try go_simp
  refine hK.out _ _ (fun _ => hS.alloc hS.size _) (fun _ => ?_)
  clear hK K
  replace hS := hS.alloc hS.size (.cells #[.int .i64 (p : Int), .int .i64 0, .int .i64 (sumsF l 0), .int .i64 (sumsF l 1), .int .i64 (sumsF l 2), .int .i64 (sumsF l 3), .int .i64 (sumsF l 4), .int .i64 (sumsF l 5), .slice OA (opensL l.games).length oc, .slice none 0 0] 123)
  try simp only [Act.put, List.setIfInBounds_toArray, List.set_cons_zero, List.set_cons_succ]
  refine' T_take (i := 7) (v := _) rfl (by kernel_rfl) (by kernel_rfl) (by kernel_rfl) (by kernel_rfl) (fun _ _ _ h => h) (by kernel_rfl) hS ?_ ?_
  rotate_left 1
  · intro Wv hW
    replace k0 := cell_of_ans hW k0
    replace k1 := cell_of_ans hW k1
    go_simp
    first | done | with_reducible rfl | omega
  try simp only [Act.put, List.setIfInBounds_toArray, List.set_cons_zero, List.set_cons_succ]
  refine T_done (by kernel_rfl) ?_ _
  refine NoPanic.normal ?_
  try go_simp
  have hr : RaceAt (y2.alloc (.cells #[.int .i64 (p : Int), .int .i64 0, .int .i64 (sumsF l 0), .int .i64 (sumsF l 1), .int .i64 (sumsF l 2), .int .i64 (sumsF l 3), .int .i64 (sumsF l 4), .int .i64 (sumsF l 5), .slice OA (opensL l.games).length oc, .slice none 0 0] 123)) y2.heap.size (p : Int) 0 (sumsF l) (.slice OA (opensL l.games).length oc) (.slice none 0 0) := World.alloc_heap_new _ _
  have HOW : Hid (OwnM 85 w.heap.size (y2.alloc (.cells #[.int .i64 (p : Int), .int .i64 0, .int .i64 (sumsF l 0), .int .i64 (sumsF l 1), .int .i64 (sumsF l 2), .int .i64 (sumsF l 3), .int .i64 (sumsF l 4), .int .i64 (sumsF l 5), .slice OA (opensL l.games).length oc, .slice none 0 0] 123)) (.slice OA (opensL l.games).length oc) (opensL l.games)) := World.ownsRow.alloc (ownsRow_base HOM.out (by have := HZ.out; have := HB.out.size; omega)) _
  have HNE : Hid ((Value.slice OA (opensL l.games).length oc).ownBlock ≠ some y2.heap.size) := fun e => by have := (HOF.out _ e).2; omega
  have HBE : Hid (Below w.heap.size w (y2.alloc (.cells #[.int .i64 (p : Int), .int .i64 0, .int .i64 (sumsF l 0), .int .i64 (sumsF l 1), .int .i64 (sumsF l 2), .int .i64 (sumsF l 3), .int .i64 (sumsF l 4), .int .i64 (sumsF l 5), .slice OA (opensL l.games).length oc, .slice none 0 0] 123))) := HB.out.trans (hS.mono HB.out.size)
  have hq1 : w.heap.size ≤ y2.heap.size := by have := HB.out.size; have := HZ2.out; omega
  obtain ⟨-, -, hgm⟩ := HOW.out.parts
  clear hS HOM HOF k0 k1 HL HSU HOP
  generalize (y2.alloc (.cells #[.int .i64 (p : Int), .int .i64 0, .int .i64 (sumsF l 0), .int .i64 (sumsF l 1), .int .i64 (sumsF l 2), .int .i64 (sumsF l 3), .int .i64 (sumsF l 4), .int .i64 (sumsF l 5), .slice OA (opensL l.games).length oc, .slice none 0 0] 123)) = w3 at *
  generalize y2.heap.size = q at *
  obtain ⟨r0, r1, r8, r9, z1, z9⟩ := hr.cells
  have rs := hr.sums hp6
  have hql := hr.lt
  have hw0 : w.heap.size ≤ q := hq1
  have hol := opens_len l.games
  have hv20 := HV.out.len
  have HR := Lib.hid hr
  clear hgm
  go_wp2_with fail
  clear r0 r1 r8 r9 z1 z9 rs
  go_loopw [29] (fun i wr => ∃ k : Nat, k ≤ (opensL l.games).length ∧ i = .int .i64 k ∧ RaceAt wr q (p : Int) (reachK l (p : Int) k) (sumsF l) (.slice OA (opensL l.games).length oc) (.slice none 0 0) ∧ OwnM 85 w.heap.size wr (.slice OA (opensL l.games).length oc) (opensL l.games) ∧ Below w.heap.size w wr) (fun i _ => (opensL l.games).length - (intOf i).toNat)
  case atStart => exact ⟨0, by omega, rfl, by have := HR.out.setR (sumsF l p); simpa [reachK] using this, World.ownsRow.kept HOW.out (grown_set _ _ _ _) (.inr HNE.out), HBE.out.setCell (by dsimp only; omega) _⟩
  case round =>
    clear hr HR HOW HBE hql
    obtain ⟨k, hk, rfl, hr, ho, hb⟩ := hrel
    obtain ⟨-, -, hgm⟩ := ho.parts
    by_cases hk1 : k < (opensL l.games).length
    · have hki : (k : Int) < ((opensL l.games).length : Int) := by omega
      obtain ⟨b, off, rfl, hb0, c1, c2, c3, c4, c5⟩ := hgm.at_ hk1
      have HRS := Lib.hid (reachK_succ (l := l) (tm := (p : Int)) hk1)
      have hrr := reachK_rng HV.out (tm := (p : Int)) hk
      have HHR := Lib.hid hr
      have HHO := Lib.hid ho
      have HHB := Lib.hid hb
      have hzw := hb.size
      clear hr ho hb hgm
      unfold inG at HRS
      obtain ⟨gg, hgg⟩ : ∃ gg, gg = gmx (opensL l.games) k := ⟨_, rfl⟩
      rw [← hgg] at c1 c2 c3 c4 c5 HRS
      clear hgg
      obtain ⟨ga, gb, gpa, gpb, gop⟩ := gg
      dsimp only at c1 c2 c3 c4 c5
      generalize reachK l (p : Int) k = rk at *
      have hba : Below wr.heap.size wr (wr.alloc (.cells #[.int .i64 ga, .int .i64 gb, .int .i64 gpa, .int .i64 gpb, .bool gop] 85)) := (Below.refl _ _).alloc (Nat.le_refl _) _
      have v0 : (wr.alloc (.cells #[.int .i64 ga, .int .i64 gb, .int .i64 gpa, .int .i64 gpb, .bool gop] 85)).cell? ⟨wr.heap.size, 0, none⟩ = some (.int .i64 ga) := by simp
      have v1 : (wr.alloc (.cells #[.int .i64 ga, .int .i64 gb, .int .i64 gpa, .int .i64 gpb, .bool gop] 85)).cell? ⟨wr.heap.size, 1, none⟩ = some (.int .i64 gb) := by simp
      have HA1 := Lib.hid (HHR.out.step hba)
      have HA2 : Hid (OwnM 85 w.heap.size (wr.alloc (.cells #[.int .i64 ga, .int .i64 gb, .int .i64 gpa, .int .i64 gpb, .bool gop] 85)) _ (opensL l.games)) := HHO.out.kept hba
      have HA3 : Hid (Below w.heap.size w (wr.alloc (.cells #[.int .i64 ga, .int .i64 gb, .int .i64 gpa, .int .i64 gpb, .bool gop] 85))) := HHB.out.trans (hba.mono hzw)
      go_upto_region 6 with fail
      clear hba c1 c2 c3 c4 c5
      generalize (wr.alloc (.cells #[.int .i64 ga, .int .i64 gb, .int .i64 gpa, .int .i64 gpb, .bool gop] 85)) = wa at *
      generalize wr.heap.size = gq at *
      obtain ⟨r0, r1, r8, r9, z1, z9⟩ := HA1.out.cells
      have hw2 : IntKind.i64.wrap (rk + 2) = rk + 2 := IntWalk.i64_in _ (by omega)
      have HA4 := Lib.hid (HA1.out.setR (rk + 2))
      have HA5 : Hid (OwnM 85 w.heap.size (wa.setCell ⟨q, 1, none⟩ (.int .i64 (rk + 2))) _ (opensL l.games)) := World.ownsRow.kept HA2.out (grown_set _ _ _ _) (.inr HNE.out)
      have HA6 := Lib.hid (HA3.out.setCell (show w.heap.size ≤ (⟨q, 1, none⟩ : Addr).block from hw0) (.int .i64 (rk + 2)))
      by_cases ea : ga = (p : Int)
      · have e1 : (ga == (p : Int)) = true := by simp [ea]
        have HN : Hid (reachK l (p : Int) (k + 1) = rk + 2) := by show _ = _; rw [HRS.out]; simp [ea]
        clear ea
        go_wp2_with fail
        go_roundw
        case rel => exact ⟨k + 1, by omega, by go_num, by rw [HN.out]; exact HA4.out, HA5.out, HA6.out⟩
        case measure => simp [intOf]; omega
      · have e1 : (ga == (p : Int)) = false := by simp [ea]
        by_cases eb : gb = (p : Int)
        · have e2 : (gb == (p : Int)) = true := by simp [eb]
          have HN : Hid (reachK l (p : Int) (k + 1) = rk + 2) := by show _ = _; rw [HRS.out]; simp [eb]
          clear ea eb
          go_wp2_with fail
          go_roundw
          case rel => exact ⟨k + 1, by omega, by go_num, by rw [HN.out]; exact HA4.out, HA5.out, HA6.out⟩
          case measure => simp [intOf]; omega
        · have e2 : (gb == (p : Int)) = false := by simp [eb]
          have HN : Hid (reachK l (p : Int) (k + 1) = rk) := by show _ = _; rw [HRS.out]; simp [ea, eb]
          clear ea eb
          go_wp2_with fail
          go_roundw
          case rel => exact ⟨k + 1, by omega, by go_num, by rw [HN.out]; exact HA1.out, HA2.out, HA3.out⟩
          case measure => simp [intOf]; omega
    · obtain rfl : k = (opensL l.games).length := by omega
      have hki : ¬ ((opensL l.games).length : Int) < ((opensL l.games).length : Int) := by omega
      have HHR := Lib.hid hr
      have HHO := Lib.hid ho
      have HHB := Lib.hid hb
      clear hr ho hb hgm
      go_wp2_with fail
      go_ret
      exact ⟨q, OA, oc, rfl, hw0, HHR.out, HHO.out, HNE.out, HHB.out⟩
end

section

open Go.RowKit
set_option linter.unusedSimpArgs false
set_option linter.unusedVariables false

attribute [local go_sem] Oper.semAt_some
/-- What the first k of a list's teams have. -/
def sumP (f : Nat → Int) (S : List Int) : Nat → Int
  | 0 => 0
  | k + 1 => sumP f S k + f (ix S k).toNat
theorem sumP_rng {f : Nat → Int} {S : List Int} (hf : ∀ k, 0 ≤ f k ∧ f k ≤ 60000) : ∀ k, 0 ≤ sumP f S k ∧ sumP f S k ≤ 60000 * k
  | 0 => by simp [sumP]
  | k + 1 => by
    have := sumP_rng (S := S) hf k
    have := hf (ix S k).toNat
    simp only [sumP]
    omega
/-- Are both teams of a game in a list? -/
def bothG (S : List Int) (g : Gm) : Bool := hasI S g.a && hasI S g.b
def needK (f : Nat → Int) (gs : List Gm) (S : List Int) (k : Nat) : Int := sumP f S S.length + 2 * (gs.take k).countP (bothG S)
theorem needK_succ {f : Nat → Int} {gs : List Gm} {S : List Int} {k : Nat} (hk : k < gs.length) : needK f gs S (k + 1) = if bothG S (gmx gs k) = true then needK f gs S k + 2 else needK f gs S k := by
  unfold needK
  rw [List.take_succ_eq_append_getElem hk, List.countP_append, ← gmx_lt hk]
  split
  · next h => simp [h]; omega
  · next h => simp [h]
theorem needK_rng {f : Nat → Int} {gs : List Gm} {S : List Int} {k : Nat} (hf : ∀ k, 0 ≤ f k ∧ f k ≤ 60000) (hS : S.length ≤ 6) (hg : gs.length ≤ 20) : 0 ≤ needK f gs S k ∧ needK f gs S k ≤ 360040 := by
  have h1 := sumP_rng (S := S) hf S.length
  have h2 := List.countP_le_length (p := bothG S) (l := gs.take k)
  rw [List.length_take] at h2
  unfold needK
  omega
/-- Does a list of teams rule out a team that can reach rc? -/
def ruledB (rc : Int) (f : Nat → Int) (gs : List Gm) (S : List Int) : Bool := decide (0 < S.length) && decide (rc * S.length < needK f gs S gs.length)
set_option maxRecDepth 100000 in
set_option maxHeartbeats 8000000 in
theorem ruled71_c (q : Nat) (tm rc : Int) (f : Nat → Int) (OA SA : Option Addr) (oc sc : Nat) (gs : List Gm) (S : List Int) (Gv : Value) (w : World) (hr : RaceAt w q tm rc f (.slice OA gs.length oc) Gv) (hg : Gms w.heap.size w OA gs) (hs : Ints w.heap.size w SA S) (hsc : S.length ≤ sc ∧ sc ≤ 9223372036854775807)
    (hS : S.length ≤ 6) (hx : ∀ k, k < S.length → 0 ≤ ix S k ∧ ix S k < 6) (hf : ∀ k, 0 ≤ f k ∧ f k ≤ 60000) (hrc : 0 ≤ rc ∧ rc ≤ 60040) (hgl : gs.length ≤ 20) :
    Calls Try.prog 71 #[.pointer (some ⟨q, 0, none⟩), .slice SA S.length sc] w (Ans w (.bool (ruledB rc f gs S))) := by
  have HR := Lib.hid hr
  have HG := Lib.hid hg
  have HS := Lib.hid hs
  have HX := Lib.hid hx
  have HF := Lib.hid hf
  have HCT := Lib.hid (fun (n : Int) (W : World) (h : Below w.heap.size w W) => contains75 SA sc S n W (hs.below h) hsc)
  clear hr hg hs hx hf
  go_enter Try.func71, Try.ntmps71
  go_wp2_with fail
  go_loop [5, 12] (fun s i => ∃ k : Nat, k ≤ S.length ∧ i = .int .i64 k ∧ s = .int .i64 (sumP f S k)) (fun _ i => S.length - (intOf i).toNat)
  case atStart => exact ⟨0, by omega, rfl, rfl⟩
  case round =>
    obtain ⟨k, hk, rfl, rfl⟩ := hrel
    by_cases hk1 : k < S.length
    · have hki : (k : Int) < (S.length : Int) := by omega
      obtain ⟨b, off, rfl, hb0, d0⟩ := HS.out.at_ hk1
      have hxk := HX.out k hk1
      have h1 := sumP_rng (S := S) HF.out k
      have h2 := HF.out (ix S k).toNat
      have HSU : Hid (sumP f S (k + 1) = sumP f S k + f (ix S k).toNat) := rfl
      obtain ⟨p, hp⟩ : ∃ p : Nat, ix S k = (p : Int) := ⟨(ix S k).toNat, by omega⟩
      rw [hp] at d0 h2 HSU hxk
      have hp6 : p < 6 := by omega
      simp only [Int.toNat_natCast] at h2 HSU
      have rs := HR.out.sums hp6
      have hw1 : IntKind.i64.wrap (sumP f S k + f p) = sumP f S k + f p := IntWalk.i64_in _ (by omega)
      clear hp
      go_wp2_with fail
      go_round
      case rel => exact ⟨k + 1, by omega, by go_num, by rw [HSU.out]⟩
      case measure => simp [intOf]; omega
    · obtain rfl : k = S.length := by omega
      have hki : ¬ (S.length : Int) < (S.length : Int) := by omega
      have e0 : sumP f S S.length = needK f gs S 0 := by simp [needK]
      rw [e0]
      obtain ⟨r0, r1, r8, r9, z1, z9⟩ := HR.out.cells
      go_wp2_with fail
      clear r0 r1 r8 r9 z1 z9 e0
      go_loopw [5, 30] (fun s i wr => ∃ k : Nat, k ≤ gs.length ∧ i = .int .i64 k ∧ s = .int .i64 (needK f gs S k) ∧ Below w.heap.size w wr) (fun _ i _ => gs.length - (intOf i).toNat)
      case atStart => exact ⟨0, by omega, rfl, rfl, Below.refl _ _⟩
      case round =>
        obtain ⟨k, hk, rfl, rfl, hb⟩ := hrel
        have HBR := Lib.hid hb
        by_cases hk1 : k < gs.length
        · have hki : (k : Int) < (gs.length : Int) := by omega
          obtain ⟨b, off, rfl, hb0, hc0⟩ := HG.out.at_ hk1
          obtain ⟨c1, c2, c3, c4, c5⟩ := (hc0.below hb hb0 : W5 wr b (off + k * 5) (gmx gs k))
          have HNK := Lib.hid (needK_succ (f := f) (S := S) hk1)
          have hnr := needK_rng (k := k) (gs := gs) (S := S) HF.out hS hgl
          unfold bothG at HNK
          obtain ⟨gg, hgg⟩ : ∃ gg, gg = gmx gs k := ⟨_, rfl⟩
          rw [← hgg] at c1 c2 c3 c4 c5 HNK
          clear hgg hc0
          obtain ⟨ga, gb, gpa, gpb, gop⟩ := gg
          dsimp only at c1 c2 c3 c4 c5
          generalize needK f gs S k = nk at *
          have hba : Below wr.heap.size wr (wr.alloc (.cells #[.int .i64 ga, .int .i64 gb, .int .i64 gpa, .int .i64 gpb, .bool gop] 85)) := (Below.refl _ _).alloc (Nat.le_refl _) _
          have v0 : (wr.alloc (.cells #[.int .i64 ga, .int .i64 gb, .int .i64 gpa, .int .i64 gpb, .bool gop] 85)).cell? ⟨wr.heap.size, 0, none⟩ = some (.int .i64 ga) := by simp
          have v1 : (wr.alloc (.cells #[.int .i64 ga, .int .i64 gb, .int .i64 gpa, .int .i64 gpb, .bool gop] 85)).cell? ⟨wr.heap.size, 1, none⟩ = some (.int .i64 gb) := by simp
          have HA := Lib.hid (hb.trans (hba.mono hb.size))
          have H1 := Lib.hid (HCT.out ga (wr.alloc (.cells #[.int .i64 ga, .int .i64 gb, .int .i64 gpa, .int .i64 gpb, .bool gop] 85)) HA.out)
          have H2 := Lib.hid (HCT.out gb (wr.alloc (.cells #[.int .i64 ga, .int .i64 gb, .int .i64 gpa, .int .i64 gpb, .bool gop] 85)) HA.out)
          have hw2 : IntKind.i64.wrap (nk + 2) = nk + 2 := IntWalk.i64_in _ (by omega)
          clear hba hb
          cases e1 : hasI S ga
          · rw [e1] at H1
            have HN : Hid (needK f gs S (k + 1) = nk) := by show _ = _; rw [HNK.out]; simp [e1]
            clear e1
            go_wp2_with fail
            refine H1.out.mono ?_
            rintro e w5 ⟨rfl, rfl⟩
            go_wp2_with fail
            go_roundw
            case rel => exact ⟨k + 1, by omega, by go_num, by rw [HN.out], HA.out⟩
            case measure => simp [intOf]; omega
          · rw [e1] at H1
            cases e2 : hasI S gb
            · rw [e2] at H2
              have HN : Hid (needK f gs S (k + 1) = nk) := by show _ = _; rw [HNK.out]; simp [e2]
              clear e1 e2
              go_wp2_with fail
              refine H1.out.mono ?_
              rintro e w5 ⟨rfl, rfl⟩
              go_wp2_with fail
              refine H2.out.mono ?_
              rintro e w5 ⟨rfl, rfl⟩
              go_wp2_with fail
              go_roundw
              case rel => exact ⟨k + 1, by omega, by go_num, by rw [HN.out], HA.out⟩
              case measure => simp [intOf]; omega
            · rw [e2] at H2
              have HN : Hid (needK f gs S (k + 1) = nk + 2) := by show _ = _; rw [HNK.out]; simp [e1, e2]
              clear e1 e2
              go_wp2_with fail
              refine H1.out.mono ?_
              rintro e w5 ⟨rfl, rfl⟩
              go_wp2_with fail
              refine H2.out.mono ?_
              rintro e w5 ⟨rfl, rfl⟩
              go_wp2_with fail
              go_roundw
              case rel => exact ⟨k + 1, by omega, by go_num, by rw [HN.out], HA.out⟩
              case measure => simp [intOf]; omega
        · obtain rfl : k = gs.length := by omega
          have hki : ¬ (gs.length : Int) < (gs.length : Int) := by omega
          obtain ⟨r0, r1, r8, r9, z1, z9⟩ := (HR.out.step hb).cells
          by_cases h0 : 0 < S.length
          · have h0i : (0 : Int) < (S.length : Int) := by omega
            have hm : 0 ≤ rc * (S.length : Int) ∧ rc * (S.length : Int) ≤ 60040 * 6 := ⟨Int.mul_nonneg hrc.1 (by omega), Int.mul_le_mul hrc.2 (by omega) (by omega) (by omega)⟩
            have hw3 : IntKind.i64.wrap (rc * (S.length : Int)) = rc * (S.length : Int) := IntWalk.i64_in _ (by omega)
            have HRU : Hid (ruledB rc f gs S = decide (rc * (S.length : Int) < needK f gs S gs.length)) := by show _ = _; unfold ruledB; rw [decide_eq_true h0, Bool.true_and]
            clear hb
            go_wp2_with fail
            go_ret
            exact ⟨ret_bool (by rw [HRU.out]), HBR.out⟩
          · have h0i : ¬ (0 : Int) < (S.length : Int) := by omega
            have HRU : Hid (ruledB rc f gs S = false) := by show _ = _; unfold ruledB; rw [decide_eq_false h0, Bool.false_and]
            clear hb
            go_wp2_with fail
            go_ret
            exact ⟨ret_bool (by rw [HRU.out]), HBR.out⟩
end

section

open Go.RowKit
set_option linter.unusedSimpArgs false
set_option linter.unusedVariables false

attribute [local go_sem] Oper.semAt_some
set_option maxHeartbeats 400000 in
theorem less105_c (a b : Int) (w : World) : Calls Try.prog 105 #[.int .i64 a, .int .i64 b] w (Same w (.bool (decide (a < b)))) := by
  go_enter Try.func105, Try.ntmps105
  go_wp2
  go_ret
  exact ⟨rfl, rfl⟩
/-- Is a list sorted? -/
noncomputable def sortedB (S : List Int) : Bool := allB (S.length - 1) fun k => decide (ix S k ≤ ix S (k + 1))
set_option maxRecDepth 100000 in
set_option maxHeartbeats 4000000 in
theorem sorted76_c {B : Nat} (A : Option Addr) (c : Nat) (S : List Int) (w : World) (hB : B ≤ w.heap.size) (hs : Ints B w A S) (hl : S.length ≤ 1000) : Calls Try.prog 76 #[.slice A S.length c] w (Ans w (.bool (sortedB S))) := by
  have HS := Lib.hid hs
  have hw0 : IntKind.i64.wrap ((S.length : Int) - 1) = (S.length : Int) - 1 := IntWalk.i64_in _ (by omega)
  clear hs
  go_enter Try.func76, Try.ntmps76
  go_wp2_with fail
  go_loopw [3] (fun i wr => ∃ (k : Nat) (v : Int), k ≤ S.length ∧ i = .int .i64 v ∧ v = (k : Int) - 1 ∧ (∀ j, k ≤ j + 1 → j + 1 < S.length → ix S j ≤ ix S (j + 1)) ∧ Below w.heap.size w wr) (fun i _ => (intOf i).toNat)
  case atStart => exact ⟨S.length, _, Nat.le_refl _, rfl, rfl, fun j h1 h2 => by omega, Below.refl _ _⟩
  case round =>
    obtain ⟨k, v, hk, rfl, hv, hj, hb⟩ := hrel
    have HJ := Lib.hid hj
    have HB := Lib.hid hb
    clear hj
    by_cases h1 : 2 ≤ k
    · obtain ⟨m, rfl⟩ : ∃ m, k = m + 2 := ⟨k - 2, by omega⟩
      obtain rfl : v = (m : Int) + 1 := by omega
      have hvi : (0 : Int) < (m : Int) + 1 := by omega
      have hw1 : IntKind.i64.wrap ((m : Int) + 1 - 1) = (m : Int) := by rw [show (m : Int) + 1 - 1 = (m : Int) by omega]; exact IntWalk.i64_in _ (by omega)
      obtain ⟨b, off, rfl, hb0, d0⟩ := HS.out.at_ (k := m + 1) (by omega)
      obtain ⟨b', off', eA, -, d1⟩ := HS.out.at_ (k := m) (by omega)
      injection eA with eA
      injection eA with e1 e2
      subst e1 e2
      replace d0 := (hb.cell (p := ⟨b, off + (m + 1), none⟩) (by dsimp only; omega)).trans d0
      replace d1 := (hb.cell (p := ⟨b, off + m, none⟩) (by dsimp only; omega)).trans d1
      have hm1 : m + 1 < S.length := by omega
      have hm1i : (m : Int) + 1 < (S.length : Int) := by omega
      have hm0i : (m : Int) < (S.length : Int) := by omega
      have htn : ((m : Int) + 1).toNat = m + 1 := by omega
      have ht2 : ((m : Int) + 2).toNat - 1 = m + 1 := by omega
      have hq1 : 1 ≤ (m : Int) + 2 := by omega
      have hq2 : (m : Int) + 2 - 1 < (S.length : Int) := by omega
      have hw2 : IntKind.i64.wrap ((m : Int) + 2 - 1 - 1) = (m : Int) := by rw [show (m : Int) + 2 - 1 - 1 = (m : Int) by omega]; exact IntWalk.i64_in _ (by omega)
      have hw3 : IntKind.i64.wrap ((m : Int) + 2 - 2) = (m : Int) := by rw [show (m : Int) + 2 - 2 = (m : Int) by omega]; exact IntWalk.i64_in _ (by omega)
      have hsz := hb.size
      have hn0 : 0 ≤ (m : Int) + 1 := by omega
      clear hb
      go_upto_region 4 with fail
      refine wp_region_noPanic ?_
      have hS : (fun W' : World => Below wr.heap.size wr W') wr.drew := (Below.refl _ _).drew
      refine wp_region_any (by kernel_rfl) (wpAny_of_T (S := fun W' : World => Below wr.heap.size wr W') (m := 10) _ _ _ _ ?_)
      refine' T_take (i := 0) (v := _) rfl (by kernel_rfl) (by kernel_rfl) (by kernel_rfl) (by kernel_rfl) (fun _ _ _ h => h) (by kernel_rfl) hS ?_ ?_
      rotate_left 1
      · intro Wv hW
        have d0 := cell_of_ans hW d0
        have d1 := cell_of_ans hW d1
        go_simp
        first | done | with_reducible rfl | omega
      try simp only [Act.put, List.setIfInBounds_toArray, List.set_cons_zero, List.set_cons_succ]
      refine' T_take (i := 1) (v := _) rfl (by kernel_rfl) (by kernel_rfl) (by kernel_rfl) (by kernel_rfl) (fun _ _ _ h => h) (by kernel_rfl) hS ?_ ?_
      rotate_left 1
      · intro Wv hW
        have d0 := cell_of_ans hW d0
        have d1 := cell_of_ans hW d1
        go_simp
        first | done | with_reducible rfl | omega
      try simp only [Act.put, List.setIfInBounds_toArray, List.set_cons_zero, List.set_cons_succ]
      refine' T_take (i := 2) (v := _) rfl (by kernel_rfl) (by kernel_rfl) (by kernel_rfl) (by kernel_rfl) (fun _ _ _ h => h) (by kernel_rfl) hS ?_ ?_
      rotate_left 1
      · intro Wv hW
        have d0 := cell_of_ans hW d0
        have d1 := cell_of_ans hW d1
        go_simp
        first | done | with_reducible rfl | omega
      try simp only [Act.put, List.setIfInBounds_toArray, List.set_cons_zero, List.set_cons_succ]
      refine' T_take (i := 3) (v := _) rfl (by kernel_rfl) (by kernel_rfl) (by kernel_rfl) (by kernel_rfl) (fun _ _ _ h => h) (by kernel_rfl) hS ?_ ?_
      rotate_left 1
      · intro Wv hW
        have d0 := cell_of_ans hW d0
        have d1 := cell_of_ans hW d1
        go_simp
        first | done | with_reducible rfl | omega
      try simp only [Act.put, List.setIfInBounds_toArray, List.set_cons_zero, List.set_cons_succ]
      refine' T_take (i := 4) (v := _) rfl (by kernel_rfl) (by kernel_rfl) (by kernel_rfl) (by kernel_rfl) (fun _ _ _ h => h) (by kernel_rfl) hS ?_ ?_
      rotate_left 1
      · intro Wv hW
        have d0 := cell_of_ans hW d0
        have d1 := cell_of_ans hW d1
        go_simp
        first | done | with_reducible rfl | omega
      try simp only [Act.put, List.setIfInBounds_toArray, List.set_cons_zero, List.set_cons_succ]
      refine' T_take (i := 5) (v := _) rfl (by kernel_rfl) (by kernel_rfl) (by kernel_rfl) (by kernel_rfl) (fun _ _ _ h => h) (by kernel_rfl) hS ?_ ?_
      rotate_left 1
      · intro Wv hW
        have d0 := cell_of_ans hW d0
        have d1 := cell_of_ans hW d1
        go_simp
        first | done | with_reducible rfl | omega
      try simp only [Act.put, List.setIfInBounds_toArray, List.set_cons_zero, List.set_cons_succ]
      refine' T_take (i := 6) (v := _) rfl (by kernel_rfl) (by kernel_rfl) (by kernel_rfl) (by kernel_rfl) (fun _ _ _ h => h) (by kernel_rfl) hS ?_ ?_
      rotate_left 1
      · intro Wv hW
        have d0 := cell_of_ans hW d0
        have d1 := cell_of_ans hW d1
        go_simp
        first | done | with_reducible rfl | omega
      try simp only [Act.put, List.setIfInBounds_toArray, List.set_cons_zero, List.set_cons_succ]
      refine' T_take (i := 7) (v := _) rfl (by kernel_rfl) (by kernel_rfl) (by kernel_rfl) (by kernel_rfl) (fun _ _ _ h => h) (by kernel_rfl) hS ?_ ?_
      rotate_left 1
      · intro Wv hW
        have d0 := cell_of_ans hW d0
        have d1 := cell_of_ans hW d1
        go_simp
        first | done | with_reducible rfl | omega
      try simp only [Act.put, List.setIfInBounds_toArray, List.set_cons_zero, List.set_cons_succ]
      refine' T_take (i := 8) (v := _) rfl (by kernel_rfl) (by kernel_rfl) (by kernel_rfl) (by kernel_rfl) (fun _ _ _ h => h) (by kernel_rfl) hS ?_ ?_
      rotate_left 1
      · intro Wv hW
        have d0 := cell_of_ans hW d0
        have d1 := cell_of_ans hW d1
        go_simp
        first | done | with_reducible rfl | omega
      try simp only [Act.put, List.setIfInBounds_toArray, List.set_cons_zero, List.set_cons_succ]
      refine T_ready (rs := [9]) (by kernel_rfl) (by simp) ?_
      refine TReady.cons rfl (fun K hK => ?_) TReady.nil
      try go_simp
      refine (less105_c _ _ _).mono ?_
      rintro e y1 ⟨rfl, rfl⟩
      try go_simp
      refine hK.out _ _ (fun _ => hS) (fun _ => ?_)
      clear hK K
      try simp only [Act.put, List.setIfInBounds_toArray, List.set_cons_zero, List.set_cons_succ]
      refine T_done (by kernel_rfl) ?_ _
      refine NoPanic.normal ?_
      try go_simp
      have HJm := Lib.hid (fun (h : ix S m ≤ ix S (m + 1)) (j : Nat) (h1 : m + 1 ≤ j + 1) (h2 : j + 1 < S.length) => (by
        by_cases e : j = m
        · subst e; exact h
        · exact HJ.out j (by omega) h2 : ix S j ≤ ix S (j + 1)))
      by_cases hlt : ix S (m + 1) < ix S m
      · have HNO : Hid (sortedB S = false) := allB_false (k := m) (by omega) (decide_eq_false (by omega))
        go_wp2_with fail
        go_ret
        exact ⟨ret_bool (by rw [HNO.out]), HB.out.trans (hS.mono HB.out.size)⟩
      · go_wp2_with fail
        go_roundw
        case rel => exact ⟨m + 1, _, by omega, rfl, by simp, HJm.out (by omega), HB.out.trans (hS.mono HB.out.size)⟩
        case measure => first | (simp [intOf]; done) | (simp [intOf]; omega)
    · have hvi : ¬ (0 : Int) < (k : Int) - 1 := by omega
      have HYE : Hid (sortedB S = true) := allB_true fun j hj2 => decide_eq_true (HJ.out j (by omega) (by omega))
      clear hb
      go_wp2_with fail
      go_ret
      exact ⟨ret_bool (by rw [HYE.out]), HB.out⟩
end

section

open Go.RowKit
set_option linter.unusedSimpArgs false
set_option linter.unusedVariables false

attribute [local go_sem] Oper.semAt_some
set_option maxHeartbeats 1000000 in
theorem listed22_c {B : Nat} (A : Option Addr) (c : Nat) (xs : List Int) (hi : Int) (w : World) (h : Byts B w A xs) (hl : xs.length ≤ 1000000) :
    Calls Try.prog 22 #[.slice A xs.length c, .int .u8 hi] w (Same w (.bool (allB xs.length fun k => inB (ix xs k) 1 hi))) := by
  have HI := Lib.hid h
  clear h
  go_enter Try.func22, Try.ntmps22
  go_wp2_with fail
  go_loop [5] (fun i => ∃ k : Nat, k ≤ xs.length ∧ i = .int .i64 k ∧ AllB k (fun k => inB (ix xs k) 1 hi)) (fun i => xs.length - (intOf i).toNat)
  case atStart => exact ⟨0, by omega, rfl, fun j hj => by omega⟩
  case round =>
    obtain ⟨k, hk, rfl, hn⟩ := hrel
    have HN := Lib.hid hn
    clear hn
    by_cases h1 : k < xs.length
    · have h1i : (k : Int) < (xs.length : Int) := by omega
      obtain ⟨b, off, rfl, _, c1, -⟩ := HI.out.at_ h1
      have HIN : Hid (inB (ix xs k) 1 hi = (decide (1 ≤ ix xs k) && decide (ix xs k ≤ hi))) := rfl
      by_cases e1 : ix xs k < 1
      · have HNO : Hid (allB xs.length (fun k => inB (ix xs k) 1 hi) = false) := allB_false (k := k) h1 (by rw [HIN.out, decide_eq_false (by omega)]; rfl)
        generalize ix xs k = x at *
        go_wp2_with fail
        go_ret
        exact ⟨ret_bool HNO.out.symm, rfl⟩
      · by_cases e2 : hi < ix xs k
        · have HNO : Hid (allB xs.length (fun k => inB (ix xs k) 1 hi) = false) := allB_false (k := k) h1 (by rw [HIN.out, decide_eq_false (p := ix xs k ≤ hi) (by omega), Bool.and_false])
          generalize ix xs k = x at *
          go_wp2_with fail
          go_ret
          exact ⟨ret_bool HNO.out.symm, rfl⟩
        · have HYE : Hid (inB (ix xs k) 1 hi = true) := by show _ = _; rw [HIN.out, decide_eq_true (show 1 ≤ ix xs k by omega), decide_eq_true (show ix xs k ≤ hi by omega)]; rfl
          have HSU := Lib.hid (HN.out.succ HYE.out)
          generalize ix xs k = x at *
          go_wp2_with fail
          go_round
          case rel => exact ⟨k + 1, by omega, by go_num, HSU.out⟩
          case measure => simp [intOf]; omega
    · obtain rfl : k = xs.length := by omega
      have h1i : ¬ (xs.length : Int) < (xs.length : Int) := by omega
      have HYE := Lib.hid (allB_true HN.out)
      go_wp2_with fail
      go_ret
      exact ⟨ret_bool HYE.out.symm, rfl⟩
/-- The i-th word of an input, round and round. -/
def wordV (ws : List Int) (i : Nat) : Int := if ws.length = 0 then 0 else ix ws (i % ws.length)
theorem wordV_rng {B : Nat} {w : World} {A : Option Addr} {ws : List Int} (h : Wds B w A ws) (i : Nat) : 0 ≤ wordV ws i ∧ wordV ws i ≤ 65535 := by
  unfold wordV
  split
  · omega
  · next e =>
    obtain ⟨b, off, _, _, _, h1, h2⟩ := h.at_ (k := i % ws.length) (Nat.mod_lt _ (by omega))
    omega
set_option maxHeartbeats 1000000 in
theorem word33_c {B : Nat} (A : Option Addr) (c : Nat) (ws : List Int) (i : Nat) (w : World) (h : Wds B w A ws) (hl : ws.length ≤ 9223372036854775807) (hi : i ≤ 1000000) :
    Calls Try.prog 33 #[.slice A ws.length c, .int .i64 (i : Int)] w (Same w (.int .i64 (wordV ws i))) := by
  by_cases h0 : ws.length = 0
  · have h0b : ((ws.length : Int) == 0) = true := by simp [h0]
    have HV : Hid (wordV ws i = 0) := if_pos h0
    go_enter Try.func33, Try.ntmps33
    go_wp2_with fail
    go_ret
    exact ⟨by rw [HV.out]; rfl, rfl⟩
  · have h0b : ((ws.length : Int) == 0) = false := beq_false_of_ne (by omega)
    have h0i : ¬ (ws.length : Int) = 0 := by omega
    have HV : Hid (wordV ws i = ix ws (i % ws.length)) := if_neg h0
    have hm := Nat.mod_lt i (show 0 < ws.length by omega)
    obtain ⟨b, off, rfl, _, c1, r1, r2⟩ := h.at_ hm
    have e1 : (i : Int).tmod (ws.length : Int) = ((i % ws.length : Nat) : Int) := by
      rw [Int.tmod_eq_emod_of_nonneg (by omega)]
      simp
    obtain ⟨z, hz⟩ : ∃ z, z = i % ws.length := ⟨_, rfl⟩
    rw [← hz] at HV hm c1 r1 r2 e1
    have e2 : IntKind.i64.wrap (z : Int) = (z : Int) := IntWalk.i64_in _ (by omega)
    have e3 : IntKind.i64.wrap (ix ws z) = ix ws z := IntWalk.i64_in _ (by omega)
    have hmi : (z : Int) < (ws.length : Int) := by omega
    clear h hz
    generalize ix ws z = x at *
    go_enter Try.func33, Try.ntmps33
    go_wp2_with fail
    go_ret
    exact ⟨by rw [HV.out]; rfl, rfl⟩
set_option maxHeartbeats 1000000 in
theorem ready34_c (l : Lg) (A : Option Addr) (c : Nat) (w : World) (hl : Gms w.heap.size w A l.games) (hc : l.games.length ≤ c ∧ c ≤ 9223372036854775807) :
    Calls Try.prog 34 #[.agg #[.int .i64 l.teams, .slice A l.games.length c]] w (Ans w (.bool (thinG l.games.length && decide (faultL l = 0)))) := by
  have hb : Below w.heap.size w (w.alloc (.cells #[.int .i64 l.teams, .slice A l.games.length c] 24)) := (Below.refl _ _).alloc (Nat.le_refl _) _
  have HB := Lib.hid hb
  have HT := Lib.hid (fun W => thin15_c l A c W)
  have HF := Lib.hid (fun (W : World) (h : Gms W.heap.size W A l.games) => fault57_c l A c W h hc)
  have HL := Lib.hid (hl.step hb)
  have k0 : (w.alloc (.cells #[.int .i64 l.teams, .slice A l.games.length c] 24)).cell? ⟨w.heap.size, 0, none⟩ = some (.int .i64 l.teams) := by simp
  have k1 : (w.alloc (.cells #[.int .i64 l.teams, .slice A l.games.length c] 24)).cell? ⟨w.heap.size, 1, none⟩ = some (.slice A l.games.length c) := by simp
  clear hb hl
  cases e1 : thinG l.games.length
  all_goals rw [e1] at HT
  · go_enter Try.func34, Try.ntmps34
    go_wp2_with fail
    generalize (w.alloc (.cells #[.int .i64 l.teams, .slice A l.games.length c] 24)) = x1 at *
    refine (HT.out _).mono ?_
    rintro e w2 ⟨rfl, hb⟩
    go_wp2_with fail
    go_ret
    exact ⟨rfl, HB.out.trans (hb.mono HB.out.size)⟩
  · have hz : (faultL l == 0) = decide (faultL l = 0) := by
      by_cases h : faultL l = 0
      · rw [decide_eq_true h]; simp [h]
      · rw [decide_eq_false h]; simp [h]
    have HZ := Lib.hid hz
    clear hz
    go_enter Try.func34, Try.ntmps34
    go_wp2_with fail
    generalize (w.alloc (.cells #[.int .i64 l.teams, .slice A l.games.length c] 24)) = x1 at *
    refine (HT.out _).mono ?_
    rintro e w2 ⟨rfl, hb⟩
    replace HL := Lib.hid (HL.out.step hb)
    replace k0 := cell_of_ans hb k0
    replace k1 := cell_of_ans hb k1
    replace HB := Lib.hid (HB.out.trans (hb.mono HB.out.size))
    clear hb
    go_wp2_with fail
    refine (HF.out _ HL.out).mono ?_
    rintro e w3 ⟨rfl, hb⟩
    go_wp2_with fail
    go_ret
    exact ⟨ret_bool (by first | rfl | (rw [← HZ.out]; rfl) | simp), HB.out.trans (hb.mono HB.out.size)⟩
end

section

open Go.RowKit
set_option linter.unusedSimpArgs false
set_option linter.unusedVariables false

/-- What was there is there as it was, but for the blocks of S. -/
structure Chg (w w' : World) (S : Nat → Prop) : Prop where
  os : w'.os = w.os
  tape : w'.tape = w.tape
  output : w'.output = w.output
  size : w.heap.size ≤ w'.heap.size
  block : ∀ i, i < w.heap.size → ¬ S i → w'.heap[i]? = w.heap[i]?
theorem Chg.refl (w : World) (S : Nat → Prop) : Chg w w S := ⟨rfl, rfl, rfl, Nat.le_refl _, fun _ _ _ => rfl⟩
theorem Chg.ofBelow {w w' : World} (h : Below w.heap.size w w') (S : Nat → Prop) : Chg w w' S := ⟨h.os, h.tape, h.output, h.size, fun i hi _ => h.block i hi⟩
theorem Chg.ofGrown {w w' : World} {row : Option Nat} (h : w.grownBy w' row) {S : Nat → Prop} (hS : ∀ i, some i = row → S i) : Chg w w' S :=
  ⟨h.os, h.tape, h.output, h.size, fun i hi hn => h.block i hi (fun e => hn (hS i e))⟩
theorem Chg.trans {w w' w'' : World} {S T : Nat → Prop} (h : Chg w w' S) (h' : Chg w' w'' T) (hT : ∀ i, i < w.heap.size → T i → S i) : Chg w w'' S :=
  ⟨h'.os.trans h.os, h'.tape.trans h.tape, h'.output.trans h.output, Nat.le_trans h.size h'.size, fun i hi hn => (h'.block i (Nat.lt_of_lt_of_le hi h.size) (fun e => hn (hT i hi e))).trans (h.block i hi hn)⟩
theorem Chg.cell {w w' : World} {S : Nat → Prop} (h : Chg w w' S) {p : Addr} {v : Value} (hc : w.cell? p = some v) (hn : ¬ S p.block) : w'.cell? p = some v := by
  have e := h.block p.block (World.block_lt_of_cell? w p hc) hn
  unfold World.cell? at hc ⊢
  rw [e]
  exact hc
theorem Chg.grown {w w' : World} {S : Nat → Prop} {b : Nat} (h : Chg w w' S) (hS : ∀ i, i < w.heap.size → S i → i = b) : w.grownBy w' (some b) :=
  ⟨h.os, h.tape, h.output, h.size, fun i hi hn => h.block i hi (fun e => hn (by rw [hS i hi e]))⟩
theorem Chg.below {w w' : World} {S : Nat → Prop} {B : Nat} (h : Chg w w' S) (hB : B ≤ w.heap.size) (hS : ∀ i, i < w.heap.size → S i → B ≤ i) : Below B w w' :=
  ⟨h.os, h.tape, h.output, h.size, fun i hi => h.block i (by omega) (fun e => by have := hS i (by omega) e; omega)⟩

/-- A number has been appended to an own list: in its place, or in a new block. -/
structure App (base : Nat) (w : World) (u : Value) (xs : List Int) (y : Int) (w' : World) (u' : Value) : Prop where
  own : OwnI base w' u' (xs ++ [y])
  grw : w.grownBy w' u.ownBlock
  alt : (∃ g cap, u = .slice (some ⟨g, 0, none⟩) xs.length cap ∧ u' = .slice (some ⟨g, 0, none⟩) (xs.length + 1) cap) ∨ ((∃ j, u'.ownBlock = some j ∧ w.heap.size ≤ j) ∧ w.grownBy w' none)

theorem ownI_pre {base g cap n : Nat} {w : World} {xs : List Int} {y : Int} (h : OwnI base w (.slice (some ⟨g, 0, none⟩) (xs.length + 1) cap) (xs ++ [y])) : OwnI base w (.slice (some ⟨g, 0, none⟩) xs.length cap) xs := by
  unfold OwnI at *
  obtain ⟨h1, h2⟩ := h
  refine ⟨by simp, ?_⟩
  rcases h2 with ⟨h2, _⟩ | ⟨g', cap', cur, hv, hb, hg, hn, hm, hs, ht⟩
  · cases h2
  · simp only [Value.slice.injEq, Option.some.injEq, Addr.mk.injEq, and_true] at hv
    obtain ⟨rfl, _, rfl⟩ := hv
    refine .inr ⟨g, cap, cur, rfl, hb, hg, ?_, hm, hs, ?_⟩
    · simp at hn; omega
    · have := congrArg (List.take (xs.length * 1)) ht
      rw [List.take_take, List.map_append, List.take_append_of_le_length (by simp)] at this
      simp at this ⊢
      rw [this, List.take_of_length_le (by simp)]

section
variable {P : Program}
theorem run_app_int {base : Nat} {w : World} {u : Value} {xs : List Int} {y : Int} (ty : TypeId) (hown : OwnI base w u xs) (hl : xs.length ≤ 1000000) (hb : base ≤ w.heap.size) :
    ∃ u' w', (Builtin.append_ #[34, 34] ty #[u, .slice (some ⟨w.heap.size, 0, none⟩) 1 1]).run Try.prog (w.alloc (.cells #[.int .i64 y] 3)) = .ok u' w' ∧ App base w u xs y w' u' := by
  obtain ⟨i0, hi, hz0, hz1, hz2⟩ := info_parts infoInt
  have hO : (w.alloc (.cells #[.int .i64 y] 3)).ownsRow base 3 1 u xs.length (xs.map (Value.int .i64)) := World.ownsRow.alloc hown _
  have hal : w.grownBy (w.alloc (.cells #[.int .i64 y] 3)) u.ownBlock := only_below ((Below.refl _ _).alloc (Nat.le_refl _) _) _
  have hal0 : w.grownBy (w.alloc (.cells #[.int .i64 y] 3)) none := only_below ((Below.refl _ _).alloc (Nat.le_refl _) _) _
  have tr : ∀ {a b c : World} {row : Option Nat}, a.grownBy b row → b.grownBy c row → a.grownBy c row := fun h h' =>
    ⟨h'.os.trans h.os, h'.tape.trans h.tape, h'.output.trans h.output, Nat.le_trans h.size h'.size, fun i hi hn => (h'.block i (Nat.lt_of_lt_of_le hi h.size) hn).trans (h.block i hi hn)⟩
  have hs := src_int w y
  have fresh : ∃ u' w', (Builtin.append_ #[34, 34] ty #[u, .slice (some ⟨w.heap.size, 0, none⟩) 1 1]).run Try.prog (w.alloc (.cells #[.int .i64 y] 3)) = .ok u' w' ∧ w'.ownsRow base 3 1 u' (xs.length + 1) (xs.map (Value.int .i64) ++ [.int .i64 y]) ∧
      (w.alloc (.cells #[.int .i64 y] 3)).grownBy w' u.ownBlock ∧ (u'.ownBlock = u.ownBlock ∨ u'.ownBlock = some (w.alloc (.cells #[.int .i64 y] 3)).heap.size) :=
    run_append_src (P := Try.prog) base 34 ty 3 i0 (.int .i64 0) 1 8 Try.underlying34 hi hz0 hz1 hz2 rfl (by decide) u xs.length (xs.map (Value.int .i64)) hO (some ⟨w.heap.size, 0, none⟩) 1 1 [.int .i64 y] hs (one_ints [y]) (by unfold maxLen; omega) (by omega) (by simp; omega)
  have fin : ∀ {w' : World} {u' : Value}, w'.ownsRow base 3 1 u' (xs.length + 1) (xs.map (Value.int .i64) ++ [.int .i64 y]) → OwnI base w' u' (xs ++ [y]) := fun h => by
    unfold OwnI
    simpa using h
  rcases hO.2 with ⟨rfl, h0⟩ | ⟨g, cap, cur, rfl, hbg, hg, hnc, hcm, hcs, htake⟩
  · obtain ⟨u', w', hr, h1, h2, h3⟩ := fresh
    refine ⟨u', w', hr, fin h1, tr hal h2, .inr ⟨?_, tr hal0 h2⟩⟩
    rcases h3 with h3 | h3
    · rcases h1.2 with ⟨_, h4⟩ | ⟨g, cap, cur, rfl, _⟩
      · omega
      · cases h3
    · exact ⟨_, h3, by simp⟩
  · by_cases hroom : xs.length + 1 ≤ cap
    · obtain ⟨w', hr, h1, h2⟩ := run_append_own_spare (P := Try.prog) (w.alloc (.cells #[.int .i64 y] 3)) base 34 ty 3 i0 1 Try.underlying34 hi hz1 g xs.length cap _ hO ⟨w.heap.size, 0, none⟩ 1 1 [.int .i64 y] rfl (fun j u hu => hs.2.2 _ rfl j u hu) (one_ints [y]) hroom
      exact ⟨_, w', hr, fin h1, tr hal h2, .inl ⟨g, cap, rfl, rfl⟩⟩
    · have holds : ∀ j u, (xs.map (Value.int .i64))[j]? = some u → (w.alloc (.cells #[.int .i64 y] 3)).cell? ((⟨g, 0, none⟩ : Addr).add j) = some u := hO.cells (g := g) rfl
      have hr := run_append_grow (P := Try.prog) (w.alloc (.cells #[.int .i64 y] 3)) 34 ty 3 i0 (.int .i64 0) Try.underlying34 hi hz0 ⟨g, 0, none⟩ xs.length cap (xs.map (Value.int .i64)) (by rw [hz1]; simp) holds ⟨w.heap.size, 0, none⟩ 1 1 [.int .i64 y] (by rw [hz1]; rfl) (fun j u hu => hs.2.2 _ rfl j u hu) (by omega) (by omega) (by rw [hz2]; exact growslice_fits (by omega) (by omega))
      obtain ⟨u', w', hr', h1, h2, h3⟩ := fresh
      rw [hr] at hr'
      simp only [Result.ok.injEq] at hr'
      obtain ⟨hu', hw'⟩ := hr'
      refine ⟨u', w', by rw [hr, hu', hw'], fin h1, tr hal h2, .inr ⟨⟨(w.alloc (.cells #[.int .i64 y] 3)).heap.size, ?_, by simp⟩, ?_⟩⟩
      · rw [← hu']; rfl
      · refine tr hal0 ?_
        rw [← hw']
        exact ⟨rfl, rfl, rfl, by simp, fun k hk _ => heap_alloc_old _ _ hk⟩
end
theorem grown_tr {a b c : World} {row : Option Nat} (h : a.grownBy b row) (h' : b.grownBy c row) : a.grownBy c row :=
  ⟨h'.os.trans h.os, h'.tape.trans h.tape, h'.output.trans h.output, Nat.le_trans h.size h'.size, fun i hi hn => (h'.block i (Nat.lt_of_lt_of_le hi h.size) hn).trans (h.block i hi hn)⟩

/-- As run_app_int, at a step of a region that draws its order. -/
theorem step_int {ops : Array Oper} {o : Oper} {a : Act} {K : Act → World → Prop} {Q : Exit → Act → World → Prop} {E : Prop} (s x : Operand) (hgd : o.guard = none) (ho : o.op = .call { callee := .builtin .append, args := #[s, x], argTypes := #[34, 34] })
    (base : Nat) (w : World) (u : Value) (xs : List Int) (y : Int) (hv : a.eval s = u) (hx : a.eval x = .slice (some ⟨w.heap.size, 0, none⟩) 1 1) (hown : OwnI base w u xs) (hl : xs.length ≤ 1000000) (hb : base ≤ w.heap.size)
    (h : ∀ u' w', Hid (App base w u xs y w' u') → K (a.put o.dst u') w') : if Region.wanted o (yielded ops a.tmps) = true then Oper.wp Try.prog o a (w.alloc (.cells #[.int .i64 y] 3)) K Q else E := by
  rw [if_pos (by simp [Region.wanted, hgd])]
  obtain ⟨u', w', hr, hA⟩ := run_app_int (base := base) (y := y) o.type hown hl hb
  unfold Oper.wp execOp
  simp only [ho, resolve, invoke, builtin, Sem.run_bind, Sem.run_pure, Result.andThen_ok, List.map_toArray, List.map_cons, List.map_nil, hv, hx, hr]
  exact h u' w' hA

theorem own_chg {w w' : World} {base m : Nat} {e : TypeId} {u : Value} {us : List Value} {S : Nat → Prop} (h : w.ownsRow base e 1 u m us) (hC : Chg w w' S) (hS : ∀ g, u.ownBlock = some g → ¬ S g) : w'.ownsRow base e 1 u m us := by
  refine ⟨h.1, ?_⟩
  rcases h.2 with hn | ⟨g, cap, cur, rfl, hb, hg, rest⟩
  · exact .inl hn
  · exact .inr ⟨g, cap, cur, rfl, hb, (hC.block g (Array.getElem?_eq_some_iff.1 hg).1 (hS g rfl)).trans hg, rest⟩
theorem T_skip {P : Program} {ops : Array Oper} {Q : Exit → Act → World → Prop} {md : Region.Mode} {S : World → Prop} {m i : Nat} {oi : Oper} {fuel : Nat} {listed : Array Bool} {a : Act} {w : World} (hi : ops[i]? = some oi)
    (hs : Region.noSelect ops = true) (hf : Region.free md ops listed i = true) (hr : (Region.ready md ops listed).contains i = true) (hwt : tailWaits md ops m i = true)
    (hQ : ∀ c a w, Q (.panic c) (a.put oi.dst undef) w → Q (.panic c) a w) (hw : Region.wanted oi (yielded ops a.tmps) = false) (hS : S w)
    (h : wpAnyT P md ops Q S m fuel (listed.setIfInBounds i true) (a.put oi.dst undef) w) : wpAnyT P md ops Q S m (fuel + 1) listed a w :=
  wpAnyT_first hi (Region.noSelect_spec hs) hQ hwt fuel listed a w (Region.free_spec hi hf) (by simpa using hr) (.inr ⟨hw, rfl⟩) hS h
end

section

open Go.RowKit
set_option linter.unusedSimpArgs false
set_option linter.unusedVariables false

attribute [local go_sem] Oper.semAt_some
/-- What the closure has captured; W: the world when the list of answers was made (bo: its cell; the closure's own: the next block). -/
structure RC where
  T : Nat
  tm : Int
  rc : Int
  f : Nat → Int
  gs : List Gm
  OA : Option Addr
  oc : Nat
  Lv : Value
  q : Nat
  br : Nat
  bl : Nat
  bt : Nat
  W : World
def RC.bo (k : RC) : Nat := k.W.heap.size
structure RC.Ok (k : RC) : Prop where
  race : RaceAt k.W k.q k.tm k.rc k.f (.slice k.OA k.gs.length k.oc) (.slice none 0 0)
  gms : Gms k.W.heap.size k.W k.OA k.gs
  cr : k.W.cell? ⟨k.br, 0, none⟩ = some (.func (.func 71) #[.pointer (some ⟨k.q, 0, none⟩)] #[])
  cl : k.W.cell? ⟨k.bl, 0, none⟩ = some (.int .i64 k.T)
  ct : k.W.cell? ⟨k.bt, 0, none⟩ = some (.int .i64 k.tm)
  hf : ∀ t, 0 ≤ k.f t ∧ k.f t ≤ 60000
  hrc : 0 ≤ k.rc ∧ k.rc ≤ 60040
  hgl : k.gs.length ≤ 20
  hT : k.T ≤ 6
/-- The closure's state: its list, and the cell of the answer. -/
structure RSt (k : RC) (w : World) (l : Value) (xs : List Int) : Prop where
  low : Below k.bo k.W w
  cf : w.heap[k.bo + 1]? = some (.cells #[(.func (.func 72) #[] #[.pointer (some ⟨k.bo, 0, none⟩), .pointer (some ⟨k.br, 0, none⟩), .pointer (some ⟨k.bl, 0, none⟩), .pointer (some ⟨k.bt, 0, none⟩), .pointer (some ⟨k.bo + 1, 0, none⟩)])] 119)
  co : ∃ u, w.heap[k.bo]? = some (.cells #[u] 34)
  own : OwnI (k.bo + 2) w l xs
def Sr (k : RC) (l : Value) (i : Nat) : Prop := i = k.bo ∨ some i = l.ownBlock
def RPost (k : RC) (w : World) (l : Value) (xs : List Int) (r : Option (List Int)) (e : Ending) (w' : World) : Prop :=
  e = .returned (.bool r.isSome) ∧ RSt k w' l xs ∧ Chg w w' (Sr k l) ∧ ∀ S, r = some S → ∃ u, w'.heap[k.bo]? = some (.cells #[u] 34) ∧ OwnI (k.bo + 2) w' u S
section
variable {k : RC} {w w' w2 w3 : World} {l l' : Value} {xs : List Int} {y : Int} {r : Option (List Int)} {e : Ending}
theorem RSt.sz (h : RSt k w l xs) : k.bo + 2 ≤ w.heap.size := (Array.getElem?_eq_some_iff.1 h.cf).1
theorem RSt.step (h : RSt k w l xs) (hb : Below w.heap.size w w') : RSt k w' l xs := by
  have := h.sz
  obtain ⟨u, hu⟩ := h.co
  exact ⟨h.low.trans (hb.mono (by omega)), (hb.block _ (by omega)).trans h.cf, ⟨u, (hb.block _ (by omega)).trans hu⟩, h.own.kept hb⟩
theorem RSt.cells (h : RSt k w l xs) : w.cell? ⟨k.bo + 1, 0, none⟩ = some (.func (.func 72) #[] #[.pointer (some ⟨k.bo, 0, none⟩), .pointer (some ⟨k.br, 0, none⟩), .pointer (some ⟨k.bl, 0, none⟩), .pointer (some ⟨k.bt, 0, none⟩), .pointer (some ⟨k.bo + 1, 0, none⟩)]) := by simp [World.cell?, h.cf]
theorem RSt.out (h : RSt k w l xs) : (∃ u, w.cell? ⟨k.bo, 0, none⟩ = some u) ∧ w.frozen? ⟨k.bo, 0, none⟩ = false := by
  obtain ⟨u, hu⟩ := h.co
  simp [World.cell?, World.frozen?, hu]
/-- The answer's cell is set. -/
theorem RSt.set (h : RSt k w l xs) (v : Value) : RSt k (w.setCell ⟨k.bo, 0, none⟩ v) l xs ∧ Chg w (w.setCell ⟨k.bo, 0, none⟩ v) (Sr k l) ∧ (w.setCell ⟨k.bo, 0, none⟩ v).heap[k.bo]? = some (.cells #[v] 34) := by
  obtain ⟨u, hu⟩ := h.co
  have hc : (w.setCell ⟨k.bo, 0, none⟩ v).heap[k.bo]? = some (.cells #[v] 34) := by simp [World.setCell, Array.getElem?_modify, hu]
  have hg := grown_set w k.bo 0 v
  have hl := h.own.lt
  refine ⟨⟨⟨hg.os.trans h.low.os, hg.tape.trans h.low.tape, hg.output.trans h.low.output, Nat.le_trans h.low.size hg.size, fun i hi => ?_⟩, ?_, ⟨v, hc⟩, ?_⟩, ?_, hc⟩
  · have := h.sz
    exact (hg.block i (by omega) (fun e => by injection e with e; omega)).trans (h.low.block i hi)
  · exact (hg.block _ h.sz (fun e => by injection e with e; omega)).trans h.cf
  · refine World.ownsRow.kept h.own hg ?_
    cases e : l.ownBlock with
    | none => exact .inl rfl
    | some b =>
      have := (hl b e).1
      refine .inr fun e' => ?_
      injection e' with e'
      omega
  · exact Chg.ofGrown hg fun i e => .inl (by injection e)
/-- A number has been appended to the list. -/
theorem RSt.app (h : RSt k w l xs) (a : App (k.bo + 2) w l xs y w2 l') : RSt k w2 l' (xs ++ [y]) := by
  have hs := h.sz
  have hl := h.own.lt
  have hg := a.grw
  have hne : ∀ i, i < k.bo + 2 → some i ≠ l.ownBlock := fun i hi e => by have := (hl i e.symm).1; omega
  obtain ⟨u, hu⟩ := h.co
  refine ⟨⟨hg.os.trans h.low.os, hg.tape.trans h.low.tape, hg.output.trans h.low.output, Nat.le_trans h.low.size hg.size, fun i hi => ?_⟩, (hg.block _ (by omega) (hne _ (by omega))).trans h.cf, ⟨u, (hg.block _ (by omega) (hne _ (by omega))).trans hu⟩, a.own⟩
  exact (hg.block i (by omega) (hne i (by omega))).trans (h.low.block i hi)
/-- Back from a call with the longer list. -/
theorem RPost.back (h : RSt k w l xs) (a : App (k.bo + 2) w l xs y w2 l') (hp : RPost k w2 l' (xs ++ [y]) r e w3) : RPost k w l xs r e w3 := by
  obtain ⟨h1, h2, hC, h4⟩ := hp
  have hs := h.sz
  have hl := h.own.lt
  have hg := a.grw
  have hfr : (l'.ownBlock = l.ownBlock) ∨ ∃ j, l'.ownBlock = some j ∧ w.heap.size ≤ j := by
    rcases a.alt with ⟨g, cap, rfl, rfl⟩ | ⟨h, _⟩
    · exact .inl rfl
    · exact .inr h
  have hC1 : Chg w w2 (Sr k l) := Chg.ofGrown hg fun i e => .inr e
  have hCC : Chg w w3 (Sr k l) := hC1.trans hC fun i hi hS => by
    rcases hS with e | e
    · exact .inl e
    · rcases hfr with hv | ⟨j, hj, hlt⟩
      · exact .inr (by rw [e, hv])
      · rw [hj] at e
        injection e with e
        omega
  have hown : OwnI (k.bo + 2) w3 l xs := by
    rcases a.alt with ⟨g, cap, e1, e2⟩ | ⟨⟨j, hj, hjw⟩, hgn⟩
    · subst e1 e2
      exact ownI_pre (n := 0) h2.own
    · have h5 : OwnI (k.bo + 2) w2 l xs := World.ownsRow.kept h.own hgn (own_ne l)
      refine own_chg h5 hC fun i e hS => ?_
      have h6 := hl i e
      rcases hS with e2 | e2
      · omega
      · rw [hj] at e2
        injection e2 with e2
        omega
  exact ⟨h1, ⟨h2.low, h2.cf, h2.co, hown⟩, hCC, h4⟩
end

def findR (k : RC) (m : Nat) (xs : List Int) (t : Nat) : Option (List Int) := (candL k.T k.tm m xs t).find? (ruledB k.rc k.f k.gs)
theorem findR_zero (k : RC) (xs : List Int) (t : Nat) : findR k 0 xs t = if ruledB k.rc k.f k.gs xs = true then some xs else none := by
  simp [findR, candL, List.find?_cons]
  cases ruledB k.rc k.f k.gs xs <;> rfl
theorem findR_end {k : RC} (m : Nat) (xs : List Int) {t : Nat} (h : k.T ≤ t) : findR k (m + 1) xs t = none := by
  simp [findR, candL, show k.T - t = 0 by omega]
theorem findR_step {k : RC} (m : Nat) (xs : List Int) {t : Nat} (h : t < k.T) : findR k (m + 1) xs t = if (t : Int) = k.tm then findR k (m + 1) xs (t + 1) else (findR k m (xs ++ [(t : Int)]) (t + 1)).or (findR k (m + 1) xs (t + 1)) := by
  unfold findR
  rw [candL, show k.T - t = (k.T - (t + 1)) + 1 by omega, List.range'_succ, List.flatMap_cons, candL, List.find?_append]
  split <;> rfl
def Good (xs : List Int) : Prop := ∀ j, j < xs.length → 0 ≤ ix xs j ∧ ix xs j < 6
theorem Good.snoc {xs : List Int} (h : Good xs) {t : Nat} (ht : t < 6) : Good (xs ++ [(t : Int)]) := fun j hj => by
  rw [List.length_append, List.length_singleton] at hj
  unfold ix
  by_cases e : j < xs.length
  · have := h j e
    unfold ix at this
    rw [List.getD_eq_getElem?_getD, List.getElem?_append_left e]
    rw [List.getD_eq_getElem?_getD] at this
    exact this
  · obtain rfl : j = xs.length := by omega
    simp
    omega
def FromR (k : RC) (m : Nat) : Prop := ∀ (w : World) (l : Value) (xs : List Int) (nx : Nat), RSt k w l xs → Good xs → xs.length + m ≤ 6 → nx ≤ k.T →
  Calls Try.prog 72 #[l, .int .i64 (nx : Int), .int .i64 (m : Int), .pointer (some ⟨k.bo, 0, none⟩), .pointer (some ⟨k.br, 0, none⟩), .pointer (some ⟨k.bl, 0, none⟩), .pointer (some ⟨k.bt, 0, none⟩), .pointer (some ⟨k.bo + 1, 0, none⟩)] w (RPost k w l xs (findR k m xs nx))
section
variable {ops : Array Oper} {o : Oper} {a : Act} {K : Act → World → Prop} {Q : Exit → Act → World → Prop} {E : Prop}
/-- As step_int, behind a guard. -/
theorem step_intG (s x : Operand) (hgd : Region.wanted o (yielded ops a.tmps) = true) (ho : o.op = .call { callee := .builtin .append, args := #[s, x], argTypes := #[34, 34] })
    (base : Nat) (w : World) (u : Value) (xs : List Int) (y : Int) (hv : a.eval s = u) (hx : a.eval x = .slice (some ⟨w.heap.size, 0, none⟩) 1 1) (hown : OwnI base w u xs) (hl : xs.length ≤ 1000000) (hb : base ≤ w.heap.size)
    (h : ∀ u' w', Hid (App base w u xs y w' u') → K (a.put o.dst u') w') : if Region.wanted o (yielded ops a.tmps) = true then Oper.wp Try.prog o a (w.alloc (.cells #[.int .i64 y] 3)) K Q else E := by
  rw [if_pos hgd]
  obtain ⟨u', w', hr, hA⟩ := run_app_int (base := base) (y := y) o.type hown hl hb
  unfold Oper.wp execOp
  simp only [ho, resolve, invoke, builtin, Sem.run_bind, Sem.run_pure, Result.andThen_ok, List.map_toArray, List.map_cons, List.map_nil, hv, hx, hr]
  exact h u' w' hA
end
set_option maxRecDepth 100000 in
set_option maxHeartbeats 4000000 in
theorem from_zero {k : RC} (hk : k.Ok) : FromR k 0 := by
  intro w l xs nx h hgd hm hnx
  obtain ⟨Al, cl, rfl⟩ := h.own.form
  obtain ⟨hc1, hc2, hi⟩ := isInts_parts h.own.isInts
  have HCL := Lib.hid (clone62_c Al xs cl w hi (Nat.le_refl _) (by omega))
  have HH := Lib.hid h
  have hlbr := World.block_lt_of_cell? _ _ hk.cr
  have he0 : (((0 : Nat) : Int) == 0) = true := rfl
  have HK := Lib.hid hk
  have HG := Lib.hid hgd
  clear h hi hk
  go_enter Try.func72, Try.ntmps72
  go_wp2_with fail
  refine HCL.out.mono ?_
  rintro e w1 ⟨Au, cu, rfl, hu, hb⟩
  have h1 := HH.out.step hb
  obtain ⟨⟨u0, ho⟩, hz⟩ := h1.out
  obtain ⟨h2, hC2, hc3⟩ := h1.set (.slice Au xs.length cu)
  have H2 := Lib.hid h2
  have HC2 := Lib.hid hC2
  have HC3 := Lib.hid hc3
  have HB := Lib.hid hb
  have HU := Lib.hid hu
  clear h1 h2 hC2 hc3 hb hu
  go_upto_region 3 with fail
  clear ho hz
  generalize (w1.setCell ⟨k.bo, 0, none⟩ (.slice Au xs.length cu)) = W2 at *
  have h2 := H2.out
  have cr2 := (h2.low.cell (p := ⟨k.br, 0, none⟩) hlbr).trans HK.out.cr
  obtain ⟨-, -, hi2⟩ := isInts_parts h2.own.isInts
  have HRU := Lib.hid (ruled71_c k.q k.tm k.rc k.f k.OA Al k.oc cl k.gs xs (.slice none 0 0) W2 (HK.out.race.low h2.low HK.out.race.lt) ((HK.out.gms.below h2.low).more h2.low.size) hi2 ⟨hc1, hc2⟩ (by omega) HG.out HK.out.hf HK.out.hrc HK.out.hgl)
  clear h2 hi2
  go_wp2_with fail
  refine HRU.out.mono ?_
  rintro e w3 ⟨rfl, hb3⟩
  have HB3 := Lib.hid hb3
  clear hb3
  go_wp2_with fail
  go_ret
  have h5 := H2.out.sz
  have h6 := HH.out.sz
  refine ⟨?_, H2.out.step HB3.out, ((Chg.ofBelow HB.out _).trans HC2.out fun _ _ h => h).trans (Chg.ofBelow HB3.out _) (fun _ _ h => h), fun S hS => ⟨.slice Au xs.length cu, (HB3.out.block _ (by omega)).trans HC3.out, ?_⟩⟩
  · rw [findR_zero]
    cases ruledB k.rc k.f k.gs xs <;> rfl
  · rw [findR_zero] at hS
    split at hS
    · injection hS with hS
      subst hS
      refine OwnI.kept (own_chg (ownsRow_base HU.out h6) HC2.out fun g e hS => ?_) HB3.out
      have h7 := World.ownsRow.lt HU.out g e
      rcases hS with e2 | e2
      · omega
      · have := World.ownsRow.lt HH.out.own g e2.symm
        omega
    · cases hS
set_option maxRecDepth 100000 in
set_option maxHeartbeats 8000000 in
theorem from_succ {k : RC} (hk : k.Ok) {m : Nat} (ih : FromR k m) : FromR k (m + 1) := by
  intro w l xs nx h hgd hm hnx
  rw [show ((m + 1 : Nat) : Int) = (m : Int) + 1 by omega]
  obtain ⟨Al, cl, rfl⟩ := h.own.form
  have HH := Lib.hid h
  have he0 : ((m : Int) + 1 == 0) = false := by simp; omega
  have hw1 : IntKind.i64.wrap (m : Int) = (m : Int) := IntWalk.i64_in _ (by omega)
  have HK := Lib.hid hk
  have HG := Lib.hid hgd
  have IH := Lib.hid ih
  have hT := hk.hT
  have HLT : Hid (k.bt < k.bo) := World.block_lt_of_cell? _ _ hk.ct
  have hlbl : k.bl < k.bo := World.block_lt_of_cell? _ _ hk.cl
  clear h hk ih hgd
  go_enter Try.func72, Try.ntmps72
  go_wp2_with fail
  go_loopw [12] (fun i wr => ∃ t : Nat, nx ≤ t ∧ t ≤ k.T ∧ i = .int .i64 t ∧ RSt k wr (.slice Al xs.length cl) xs ∧ Chg w wr (Sr k (.slice Al xs.length cl)) ∧ findR k (m + 1) xs t = findR k (m + 1) xs nx) (fun i _ => k.T - (intOf i).toNat)
  case atStart => exact ⟨nx, Nat.le_refl _, hnx, rfl, HH.out, Chg.refl _ _, rfl⟩
  case round =>
    obtain ⟨t, ht1, ht2, rfl, hst, hC, hf⟩ := hrel
    have HST0 := Lib.hid hst
    have HC := Lib.hid hC
    have HF := Lib.hid hf
    have cL := (hst.low.cell (p := ⟨k.bl, 0, none⟩) hlbl).trans HK.out.cl
    have ct := (hst.low.cell (p := ⟨k.bt, 0, none⟩) HLT.out).trans HK.out.ct
    have cf := hst.cells
    clear hst hC hf
    by_cases h1 : t < k.T
    · have h1i : (t : Int) < (k.T : Int) := by omega
      have hw2 : IntKind.i64.wrap ((t : Int) + 1) = (t : Int) + 1 := IntWalk.i64_in _ (by omega)
      have HFS := Lib.hid (findR_step m xs h1)
      by_cases e0 : (t : Int) = k.tm
      · have e1 : ((t : Int) == k.tm) = true := by simp [e0]
        have e2 : ((t : Int) != k.tm) = false := by simp [e0]
        have HFE : Hid (findR k (m + 1) xs t = findR k (m + 1) xs (t + 1)) := by show _ = _; rw [HFS.out, if_pos e0]
        clear e0
        go_upto_region 7 with fail
        refine wp_region_noPanic ?_
        have hS : (fun W' : World => W'.cell? ⟨k.bt, 0, none⟩ = some (.int .i64 k.tm) ∧ W'.cell? ⟨k.bo + 1, 0, none⟩ = some (.func (.func 72) #[] #[.pointer (some ⟨k.bo, 0, none⟩), .pointer (some ⟨k.br, 0, none⟩), .pointer (some ⟨k.bl, 0, none⟩), .pointer (some ⟨k.bt, 0, none⟩), .pointer (some ⟨k.bo + 1, 0, none⟩)])) wr.drew := ⟨ct, cf⟩
        refine wp_region_any (by kernel_rfl) (wpAny_of_T (S := fun W' : World => W'.cell? ⟨k.bt, 0, none⟩ = some (.int .i64 k.tm) ∧ W'.cell? ⟨k.bo + 1, 0, none⟩ = some (.func (.func 72) #[] #[.pointer (some ⟨k.bo, 0, none⟩), .pointer (some ⟨k.br, 0, none⟩), .pointer (some ⟨k.bl, 0, none⟩), .pointer (some ⟨k.bt, 0, none⟩), .pointer (some ⟨k.bo + 1, 0, none⟩)])) (m := 15) _ _ _ _ ?_)
        refine' T_take (i := 0) (v := _) rfl (by kernel_rfl) (by kernel_rfl) (by kernel_rfl) (by kernel_rfl) (fun _ _ _ h => h) (by kernel_rfl) hS ?_ ?_
        rotate_left 1
        · intro Wv hW
          obtain ⟨s0, s1⟩ := hW
          go_simp
          first | done | with_reducible rfl | omega
        try simp only [Act.put, List.setIfInBounds_toArray, List.set_cons_zero, List.set_cons_succ]
        refine' T_take (i := 1) (v := _) rfl (by kernel_rfl) (by kernel_rfl) (by kernel_rfl) (by kernel_rfl) (fun _ _ _ h => h) (by kernel_rfl) hS ?_ ?_
        rotate_left 1
        · intro Wv hW
          obtain ⟨s0, s1⟩ := hW
          go_simp
          first | done | with_reducible rfl | omega
        try simp only [Act.put, List.setIfInBounds_toArray, List.set_cons_zero, List.set_cons_succ]
        refine' T_take (i := 2) (v := .bool false) rfl (by kernel_rfl) (by kernel_rfl) (by kernel_rfl) (by kernel_rfl) (fun _ _ _ h => h) (by kernel_rfl) hS ?_ ?_
        skip
        · intro Wv hW
          obtain ⟨s0, s1⟩ := hW
          go_simp
          first | done | with_reducible rfl | omega
        try simp only [Act.put, List.setIfInBounds_toArray, List.set_cons_zero, List.set_cons_succ]
        refine' T_take (i := 3) (v := .bool false) rfl (by kernel_rfl) (by kernel_rfl) (by kernel_rfl) (by kernel_rfl) (fun _ _ _ h => h) (by kernel_rfl) hS ?_ ?_
        skip
        · intro Wv hW
          obtain ⟨s0, s1⟩ := hW
          go_simp
          first | done | with_reducible rfl | omega
        try simp only [Act.put, List.setIfInBounds_toArray, List.set_cons_zero, List.set_cons_succ]
        refine' T_skip (i := 4) rfl (by kernel_rfl) (by kernel_rfl) (by kernel_rfl) (by kernel_rfl) (fun _ _ _ h => h) (by kernel_rfl) hS ?_
        try simp only [Act.put, List.setIfInBounds_toArray, List.set_cons_zero, List.set_cons_succ]
        refine' T_skip (i := 5) rfl (by kernel_rfl) (by kernel_rfl) (by kernel_rfl) (by kernel_rfl) (fun _ _ _ h => h) (by kernel_rfl) hS ?_
        try simp only [Act.put, List.setIfInBounds_toArray, List.set_cons_zero, List.set_cons_succ]
        refine' T_skip (i := 6) rfl (by kernel_rfl) (by kernel_rfl) (by kernel_rfl) (by kernel_rfl) (fun _ _ _ h => h) (by kernel_rfl) hS ?_
        try simp only [Act.put, List.setIfInBounds_toArray, List.set_cons_zero, List.set_cons_succ]
        refine' T_skip (i := 7) rfl (by kernel_rfl) (by kernel_rfl) (by kernel_rfl) (by kernel_rfl) (fun _ _ _ h => h) (by kernel_rfl) hS ?_
        try simp only [Act.put, List.setIfInBounds_toArray, List.set_cons_zero, List.set_cons_succ]
        refine' T_skip (i := 8) rfl (by kernel_rfl) (by kernel_rfl) (by kernel_rfl) (by kernel_rfl) (fun _ _ _ h => h) (by kernel_rfl) hS ?_
        try simp only [Act.put, List.setIfInBounds_toArray, List.set_cons_zero, List.set_cons_succ]
        refine' T_skip (i := 9) rfl (by kernel_rfl) (by kernel_rfl) (by kernel_rfl) (by kernel_rfl) (fun _ _ _ h => h) (by kernel_rfl) hS ?_
        try simp only [Act.put, List.setIfInBounds_toArray, List.set_cons_zero, List.set_cons_succ]
        refine' T_skip (i := 10) rfl (by kernel_rfl) (by kernel_rfl) (by kernel_rfl) (by kernel_rfl) (fun _ _ _ h => h) (by kernel_rfl) hS ?_
        try simp only [Act.put, List.setIfInBounds_toArray, List.set_cons_zero, List.set_cons_succ]
        refine' T_skip (i := 11) rfl (by kernel_rfl) (by kernel_rfl) (by kernel_rfl) (by kernel_rfl) (fun _ _ _ h => h) (by kernel_rfl) hS ?_
        try simp only [Act.put, List.setIfInBounds_toArray, List.set_cons_zero, List.set_cons_succ]
        refine' T_skip (i := 12) rfl (by kernel_rfl) (by kernel_rfl) (by kernel_rfl) (by kernel_rfl) (fun _ _ _ h => h) (by kernel_rfl) hS ?_
        try simp only [Act.put, List.setIfInBounds_toArray, List.set_cons_zero, List.set_cons_succ]
        refine' T_skip (i := 13) rfl (by kernel_rfl) (by kernel_rfl) (by kernel_rfl) (by kernel_rfl) (fun _ _ _ h => h) (by kernel_rfl) hS ?_
        try simp only [Act.put, List.setIfInBounds_toArray, List.set_cons_zero, List.set_cons_succ]
        refine' T_take (i := 14) (v := .bool false) rfl (by kernel_rfl) (by kernel_rfl) (by kernel_rfl) (by kernel_rfl) (fun _ _ _ h => h) (by kernel_rfl) hS ?_ ?_
        skip
        · intro Wv hW
          obtain ⟨s0, s1⟩ := hW
          go_simp
          first | done | with_reducible rfl | omega
        try simp only [Act.put, List.setIfInBounds_toArray, List.set_cons_zero, List.set_cons_succ]
        refine T_done (by kernel_rfl) ?_ _
        refine NoPanic.normal ?_
        try go_simp
        go_wp2_with fail
        go_roundw
        case rel => exact ⟨t + 1, by omega, by omega, by go_num, HST0.out.step (Below.refl _ _).drew, HC.out.trans (Chg.ofBelow (Below.refl _ _).drew _) (fun _ _ h => h), HFE.out.symm.trans HF.out⟩
        case measure => simp [intOf]; omega
      · have e1 : ((t : Int) == k.tm) = false := by simp [e0]
        have e2 : ((t : Int) != k.tm) = true := by simp [e0]
        have HFE : Hid (findR k (m + 1) xs t = (findR k m (xs ++ [(t : Int)]) (t + 1)).or (findR k (m + 1) xs (t + 1))) := by show _ = _; rw [HFS.out, if_neg e0]
        have HST : Hid (RSt k wr.drew (.slice Al xs.length cl) xs) := HST0.out.step (Below.refl _ _).drew
        have HCT := Lib.hid HK.out.ct
        have HCALL : Hid (∀ (w2 : World) (l2 : Value), App (k.bo + 2) wr.drew (.slice Al xs.length cl) xs (t : Int) w2 l2 → Calls Try.prog 72 #[l2, .int .i64 ((t : Int) + 1), .int .i64 (m : Int), .pointer (some ⟨k.bo, 0, none⟩), .pointer (some ⟨k.br, 0, none⟩), .pointer (some ⟨k.bl, 0, none⟩), .pointer (some ⟨k.bt, 0, none⟩), .pointer (some ⟨k.bo + 1, 0, none⟩)] w2
            (fun e w' => RPost k wr.drew (.slice Al xs.length cl) xs (findR k m (xs ++ [(t : Int)]) (t + 1)) e w')) := fun w2 l2 a => by
          have h := IH.out w2 l2 (xs ++ [(t : Int)]) (t + 1) (HST.out.app a) (HG.out.snoc (by omega)) (by rw [List.length_append, List.length_singleton]; omega) (by omega)
          exact h.mono fun e w' h' => h'.back HST.out a
        have hxx : xs.length ≤ 1000000 := by omega
        clear e0
        go_upto_region 7 with fail
        generalize findR k m (xs ++ [(t : Int)]) (t + 1) = r2 at *
        rcases r2 with _ | S
        · skip
          refine wp_region_noPanic ?_
          have hS : (fun W' : World => W'.cell? ⟨k.bt, 0, none⟩ = some (.int .i64 k.tm) ∧ W'.cell? ⟨k.bo + 1, 0, none⟩ = some (.func (.func 72) #[] #[.pointer (some ⟨k.bo, 0, none⟩), .pointer (some ⟨k.br, 0, none⟩), .pointer (some ⟨k.bl, 0, none⟩), .pointer (some ⟨k.bt, 0, none⟩), .pointer (some ⟨k.bo + 1, 0, none⟩)])) wr.drew := ⟨ct, cf⟩
          refine wp_region_any (by kernel_rfl) (wpAny_of_T (S := fun W' : World => W'.cell? ⟨k.bt, 0, none⟩ = some (.int .i64 k.tm) ∧ W'.cell? ⟨k.bo + 1, 0, none⟩ = some (.func (.func 72) #[] #[.pointer (some ⟨k.bo, 0, none⟩), .pointer (some ⟨k.br, 0, none⟩), .pointer (some ⟨k.bl, 0, none⟩), .pointer (some ⟨k.bt, 0, none⟩), .pointer (some ⟨k.bo + 1, 0, none⟩)])) (m := 15) _ _ _ _ ?_)
          refine' T_take (i := 0) (v := _) rfl (by kernel_rfl) (by kernel_rfl) (by kernel_rfl) (by kernel_rfl) (fun _ _ _ h => h) (by kernel_rfl) hS ?_ ?_
          rotate_left 1
          · intro Wv hW
            obtain ⟨s0, s1⟩ := hW
            go_simp
            first | done | with_reducible rfl | omega
          try simp only [Act.put, List.setIfInBounds_toArray, List.set_cons_zero, List.set_cons_succ]
          refine' T_take (i := 1) (v := _) rfl (by kernel_rfl) (by kernel_rfl) (by kernel_rfl) (by kernel_rfl) (fun _ _ _ h => h) (by kernel_rfl) hS ?_ ?_
          rotate_left 1
          · intro Wv hW
            obtain ⟨s0, s1⟩ := hW
            go_simp
            first | done | with_reducible rfl | omega
          try simp only [Act.put, List.setIfInBounds_toArray, List.set_cons_zero, List.set_cons_succ]
          refine' T_take (i := 2) (v := .bool true) rfl (by kernel_rfl) (by kernel_rfl) (by kernel_rfl) (by kernel_rfl) (fun _ _ _ h => h) (by kernel_rfl) hS ?_ ?_
          skip
          · intro Wv hW
            obtain ⟨s0, s1⟩ := hW
            go_simp
            first | done | with_reducible rfl | omega
          try simp only [Act.put, List.setIfInBounds_toArray, List.set_cons_zero, List.set_cons_succ]
          refine' T_take (i := 3) (v := .bool true) rfl (by kernel_rfl) (by kernel_rfl) (by kernel_rfl) (by kernel_rfl) (fun _ _ _ h => h) (by kernel_rfl) hS ?_ ?_
          skip
          · intro Wv hW
            obtain ⟨s0, s1⟩ := hW
            go_simp
            first | done | with_reducible rfl | omega
          try simp only [Act.put, List.setIfInBounds_toArray, List.set_cons_zero, List.set_cons_succ]
          refine' T_take (i := 4) (v := _) rfl (by kernel_rfl) (by kernel_rfl) (by kernel_rfl) (by kernel_rfl) (fun _ _ _ h => h) (by kernel_rfl) hS ?_ ?_
          rotate_left 1
          · intro Wv hW
            obtain ⟨s0, s1⟩ := hW
            go_simp
            first | done | with_reducible rfl | omega
          try simp only [Act.put, List.setIfInBounds_toArray, List.set_cons_zero, List.set_cons_succ]
          refine' T_take (i := 5) (v := _) rfl (by kernel_rfl) (by kernel_rfl) (by kernel_rfl) (by kernel_rfl) (fun _ _ _ h => h) (by kernel_rfl) hS ?_ ?_
          rotate_left 1
          · intro Wv hW
            obtain ⟨s0, s1⟩ := hW
            go_simp
            first | done | with_reducible rfl | omega
          try simp only [Act.put, List.setIfInBounds_toArray, List.set_cons_zero, List.set_cons_succ]
          refine' T_take (i := 6) (v := _) rfl (by kernel_rfl) (by kernel_rfl) (by kernel_rfl) (by kernel_rfl) (fun _ _ _ h => h) (by kernel_rfl) hS ?_ ?_
          rotate_left 1
          · intro Wv hW
            obtain ⟨s0, s1⟩ := hW
            go_simp
            first | done | with_reducible rfl | omega
          try simp only [Act.put, List.setIfInBounds_toArray, List.set_cons_zero, List.set_cons_succ]
          refine' T_take (i := 9) (v := _) rfl (by kernel_rfl) (by kernel_rfl) (by kernel_rfl) (by kernel_rfl) (fun _ _ _ h => h) (by kernel_rfl) hS ?_ ?_
          rotate_left 1
          · intro Wv hW
            obtain ⟨s0, s1⟩ := hW
            go_simp
            first | done | with_reducible rfl | omega
          try simp only [Act.put, List.setIfInBounds_toArray, List.set_cons_zero, List.set_cons_succ]
          refine' T_take (i := 10) (v := _) rfl (by kernel_rfl) (by kernel_rfl) (by kernel_rfl) (by kernel_rfl) (fun _ _ _ h => h) (by kernel_rfl) hS ?_ ?_
          rotate_left 1
          · intro Wv hW
            obtain ⟨s0, s1⟩ := hW
            go_simp
            first | done | with_reducible rfl | omega
          try simp only [Act.put, List.setIfInBounds_toArray, List.set_cons_zero, List.set_cons_succ]
          refine' T_take (i := 11) (v := _) rfl (by kernel_rfl) (by kernel_rfl) (by kernel_rfl) (by kernel_rfl) (fun _ _ _ h => h) (by kernel_rfl) hS ?_ ?_
          rotate_left 1
          · intro Wv hW
            obtain ⟨s0, s1⟩ := hW
            go_simp
            first | done | with_reducible rfl | omega
          try simp only [Act.put, List.setIfInBounds_toArray, List.set_cons_zero, List.set_cons_succ]
          refine' T_take (i := 12) (v := _) rfl (by kernel_rfl) (by kernel_rfl) (by kernel_rfl) (by kernel_rfl) (fun _ _ _ h => h) (by kernel_rfl) hS ?_ ?_
          rotate_left 1
          · intro Wv hW
            obtain ⟨s0, s1⟩ := hW
            go_simp
            first | done | with_reducible rfl | omega
          try simp only [Act.put, List.setIfInBounds_toArray, List.set_cons_zero, List.set_cons_succ]
          refine T_ready (rs := [7]) (by kernel_rfl) (by simp) ?_
          refine TReady.cons rfl (fun K hK => ?_) TReady.nil
          try go_simp
          refine hK.out _ _ (fun _ => ⟨cell_alloc_keep _ hS.1, cell_alloc_keep _ hS.2⟩) (fun hS => ?_)
          replace hS := hS (by decide)
          clear hK K
          try simp only [Act.put, List.setIfInBounds_toArray, List.set_cons_zero, List.set_cons_succ]
          refine T_ready (rs := [8]) (by kernel_rfl) (by simp) ?_
          refine TReady.cons rfl (fun K hK => ?_) TReady.nil
          refine step_intG (.tmp 32) (.tmp 34) (by kernel_rfl) rfl (k.bo + 2) wr.drew (.slice Al xs.length cl) xs (t : Int) rfl rfl HST.out.own hxx HST.out.sz ?_
          intro l2 w2 HA
          obtain ⟨A2, c2, e2⟩ := ownsRow_form HA.out.own
          rw [show (xs ++ [(t : Int)]).length = xs.length + 1 by simp] at e2
          subst e2
          have h2 := HST.out.app HA.out
          refine hK.out _ _ (fun _ => ⟨(h2.low.cell (p := ⟨k.bt, 0, none⟩) HLT.out).trans HCT.out, h2.cells⟩) (fun hS => ?_)
          replace hS := hS (by decide)
          clear hK K h2
          try simp only [Act.put, List.setIfInBounds_toArray, List.set_cons_zero, List.set_cons_succ]
          refine T_ready (rs := [13]) (by kernel_rfl) (by simp) ?_
          refine TReady.cons rfl (fun K hK => ?_) TReady.nil
          try go_simp
          refine (HCALL.out _ _ HA.out).mono ?_
          rintro e w3 hp
          have he : e = .returned (.bool false) := hp.1
          subst he
          have HP := Lib.hid hp
          have h3 := hp.2.1
          clear hp
          try go_simp
          refine hK.out _ _ (fun _ => ⟨(h3.low.cell (p := ⟨k.bt, 0, none⟩) HLT.out).trans HCT.out, h3.cells⟩) (fun hS => ?_)
          replace hS := hS (by decide)
          clear hK K h3
          try simp only [Act.put, List.setIfInBounds_toArray, List.set_cons_zero, List.set_cons_succ]
          refine' T_take (i := 14) (v := _) rfl (by kernel_rfl) (by kernel_rfl) (by kernel_rfl) (by kernel_rfl) (fun _ _ _ h => h) (by kernel_rfl) hS ?_ ?_
          rotate_left 1
          · intro Wv hW
            obtain ⟨s0, s1⟩ := hW
            go_simp
            first | done | with_reducible rfl | omega
          try simp only [Act.put, List.setIfInBounds_toArray, List.set_cons_zero, List.set_cons_succ]
          refine T_done (by kernel_rfl) ?_ _
          refine NoPanic.normal ?_
          try go_simp
          go_wp2_with fail
          go_roundw
          case rel => exact ⟨t + 1, by omega, by omega, by go_num, HP.out.2.1, (HC.out.trans (Chg.ofBelow (Below.refl _ _).drew _) (fun _ _ h => h)).trans HP.out.2.2.1 (fun _ _ h => h), HFE.out.symm.trans HF.out⟩
          case measure => simp [intOf]; omega
        · skip
          refine wp_region_noPanic ?_
          have hS : (fun W' : World => W'.cell? ⟨k.bt, 0, none⟩ = some (.int .i64 k.tm) ∧ W'.cell? ⟨k.bo + 1, 0, none⟩ = some (.func (.func 72) #[] #[.pointer (some ⟨k.bo, 0, none⟩), .pointer (some ⟨k.br, 0, none⟩), .pointer (some ⟨k.bl, 0, none⟩), .pointer (some ⟨k.bt, 0, none⟩), .pointer (some ⟨k.bo + 1, 0, none⟩)])) wr.drew := ⟨ct, cf⟩
          refine wp_region_any (by kernel_rfl) (wpAny_of_T (S := fun W' : World => W'.cell? ⟨k.bt, 0, none⟩ = some (.int .i64 k.tm) ∧ W'.cell? ⟨k.bo + 1, 0, none⟩ = some (.func (.func 72) #[] #[.pointer (some ⟨k.bo, 0, none⟩), .pointer (some ⟨k.br, 0, none⟩), .pointer (some ⟨k.bl, 0, none⟩), .pointer (some ⟨k.bt, 0, none⟩), .pointer (some ⟨k.bo + 1, 0, none⟩)])) (m := 15) _ _ _ _ ?_)
          refine' T_take (i := 0) (v := _) rfl (by kernel_rfl) (by kernel_rfl) (by kernel_rfl) (by kernel_rfl) (fun _ _ _ h => h) (by kernel_rfl) hS ?_ ?_
          rotate_left 1
          · intro Wv hW
            obtain ⟨s0, s1⟩ := hW
            go_simp
            first | done | with_reducible rfl | omega
          try simp only [Act.put, List.setIfInBounds_toArray, List.set_cons_zero, List.set_cons_succ]
          refine' T_take (i := 1) (v := _) rfl (by kernel_rfl) (by kernel_rfl) (by kernel_rfl) (by kernel_rfl) (fun _ _ _ h => h) (by kernel_rfl) hS ?_ ?_
          rotate_left 1
          · intro Wv hW
            obtain ⟨s0, s1⟩ := hW
            go_simp
            first | done | with_reducible rfl | omega
          try simp only [Act.put, List.setIfInBounds_toArray, List.set_cons_zero, List.set_cons_succ]
          refine' T_take (i := 2) (v := .bool true) rfl (by kernel_rfl) (by kernel_rfl) (by kernel_rfl) (by kernel_rfl) (fun _ _ _ h => h) (by kernel_rfl) hS ?_ ?_
          skip
          · intro Wv hW
            obtain ⟨s0, s1⟩ := hW
            go_simp
            first | done | with_reducible rfl | omega
          try simp only [Act.put, List.setIfInBounds_toArray, List.set_cons_zero, List.set_cons_succ]
          refine' T_take (i := 3) (v := .bool true) rfl (by kernel_rfl) (by kernel_rfl) (by kernel_rfl) (by kernel_rfl) (fun _ _ _ h => h) (by kernel_rfl) hS ?_ ?_
          skip
          · intro Wv hW
            obtain ⟨s0, s1⟩ := hW
            go_simp
            first | done | with_reducible rfl | omega
          try simp only [Act.put, List.setIfInBounds_toArray, List.set_cons_zero, List.set_cons_succ]
          refine' T_take (i := 4) (v := _) rfl (by kernel_rfl) (by kernel_rfl) (by kernel_rfl) (by kernel_rfl) (fun _ _ _ h => h) (by kernel_rfl) hS ?_ ?_
          rotate_left 1
          · intro Wv hW
            obtain ⟨s0, s1⟩ := hW
            go_simp
            first | done | with_reducible rfl | omega
          try simp only [Act.put, List.setIfInBounds_toArray, List.set_cons_zero, List.set_cons_succ]
          refine' T_take (i := 5) (v := _) rfl (by kernel_rfl) (by kernel_rfl) (by kernel_rfl) (by kernel_rfl) (fun _ _ _ h => h) (by kernel_rfl) hS ?_ ?_
          rotate_left 1
          · intro Wv hW
            obtain ⟨s0, s1⟩ := hW
            go_simp
            first | done | with_reducible rfl | omega
          try simp only [Act.put, List.setIfInBounds_toArray, List.set_cons_zero, List.set_cons_succ]
          refine' T_take (i := 6) (v := _) rfl (by kernel_rfl) (by kernel_rfl) (by kernel_rfl) (by kernel_rfl) (fun _ _ _ h => h) (by kernel_rfl) hS ?_ ?_
          rotate_left 1
          · intro Wv hW
            obtain ⟨s0, s1⟩ := hW
            go_simp
            first | done | with_reducible rfl | omega
          try simp only [Act.put, List.setIfInBounds_toArray, List.set_cons_zero, List.set_cons_succ]
          refine' T_take (i := 9) (v := _) rfl (by kernel_rfl) (by kernel_rfl) (by kernel_rfl) (by kernel_rfl) (fun _ _ _ h => h) (by kernel_rfl) hS ?_ ?_
          rotate_left 1
          · intro Wv hW
            obtain ⟨s0, s1⟩ := hW
            go_simp
            first | done | with_reducible rfl | omega
          try simp only [Act.put, List.setIfInBounds_toArray, List.set_cons_zero, List.set_cons_succ]
          refine' T_take (i := 10) (v := _) rfl (by kernel_rfl) (by kernel_rfl) (by kernel_rfl) (by kernel_rfl) (fun _ _ _ h => h) (by kernel_rfl) hS ?_ ?_
          rotate_left 1
          · intro Wv hW
            obtain ⟨s0, s1⟩ := hW
            go_simp
            first | done | with_reducible rfl | omega
          try simp only [Act.put, List.setIfInBounds_toArray, List.set_cons_zero, List.set_cons_succ]
          refine' T_take (i := 11) (v := _) rfl (by kernel_rfl) (by kernel_rfl) (by kernel_rfl) (by kernel_rfl) (fun _ _ _ h => h) (by kernel_rfl) hS ?_ ?_
          rotate_left 1
          · intro Wv hW
            obtain ⟨s0, s1⟩ := hW
            go_simp
            first | done | with_reducible rfl | omega
          try simp only [Act.put, List.setIfInBounds_toArray, List.set_cons_zero, List.set_cons_succ]
          refine' T_take (i := 12) (v := _) rfl (by kernel_rfl) (by kernel_rfl) (by kernel_rfl) (by kernel_rfl) (fun _ _ _ h => h) (by kernel_rfl) hS ?_ ?_
          rotate_left 1
          · intro Wv hW
            obtain ⟨s0, s1⟩ := hW
            go_simp
            first | done | with_reducible rfl | omega
          try simp only [Act.put, List.setIfInBounds_toArray, List.set_cons_zero, List.set_cons_succ]
          refine T_ready (rs := [7]) (by kernel_rfl) (by simp) ?_
          refine TReady.cons rfl (fun K hK => ?_) TReady.nil
          try go_simp
          refine hK.out _ _ (fun _ => ⟨cell_alloc_keep _ hS.1, cell_alloc_keep _ hS.2⟩) (fun hS => ?_)
          replace hS := hS (by decide)
          clear hK K
          try simp only [Act.put, List.setIfInBounds_toArray, List.set_cons_zero, List.set_cons_succ]
          refine T_ready (rs := [8]) (by kernel_rfl) (by simp) ?_
          refine TReady.cons rfl (fun K hK => ?_) TReady.nil
          refine step_intG (.tmp 32) (.tmp 34) (by kernel_rfl) rfl (k.bo + 2) wr.drew (.slice Al xs.length cl) xs (t : Int) rfl rfl HST.out.own hxx HST.out.sz ?_
          intro l2 w2 HA
          obtain ⟨A2, c2, e2⟩ := ownsRow_form HA.out.own
          rw [show (xs ++ [(t : Int)]).length = xs.length + 1 by simp] at e2
          subst e2
          have h2 := HST.out.app HA.out
          refine hK.out _ _ (fun _ => ⟨(h2.low.cell (p := ⟨k.bt, 0, none⟩) HLT.out).trans HCT.out, h2.cells⟩) (fun hS => ?_)
          replace hS := hS (by decide)
          clear hK K h2
          try simp only [Act.put, List.setIfInBounds_toArray, List.set_cons_zero, List.set_cons_succ]
          refine T_ready (rs := [13]) (by kernel_rfl) (by simp) ?_
          refine TReady.cons rfl (fun K hK => ?_) TReady.nil
          try go_simp
          refine (HCALL.out _ _ HA.out).mono ?_
          rintro e w3 hp
          have he : e = .returned (.bool true) := hp.1
          subst he
          have HP := Lib.hid hp
          have h3 := hp.2.1
          clear hp
          try go_simp
          refine hK.out _ _ (fun _ => ⟨(h3.low.cell (p := ⟨k.bt, 0, none⟩) HLT.out).trans HCT.out, h3.cells⟩) (fun hS => ?_)
          replace hS := hS (by decide)
          clear hK K h3
          try simp only [Act.put, List.setIfInBounds_toArray, List.set_cons_zero, List.set_cons_succ]
          refine' T_take (i := 14) (v := _) rfl (by kernel_rfl) (by kernel_rfl) (by kernel_rfl) (by kernel_rfl) (fun _ _ _ h => h) (by kernel_rfl) hS ?_ ?_
          rotate_left 1
          · intro Wv hW
            obtain ⟨s0, s1⟩ := hW
            go_simp
            first | done | with_reducible rfl | omega
          try simp only [Act.put, List.setIfInBounds_toArray, List.set_cons_zero, List.set_cons_succ]
          refine T_done (by kernel_rfl) ?_ _
          refine NoPanic.normal ?_
          try go_simp
          go_wp2_with fail
          go_ret
          have h3 := HF.out
          rw [HFE.out] at h3
          rw [← h3]
          exact ⟨rfl, HP.out.2.1, (HC.out.trans (Chg.ofBelow (Below.refl _ _).drew _) (fun _ _ h => h)).trans HP.out.2.2.1 (fun _ _ h => h), HP.out.2.2.2⟩
    · have h1i : ¬ (t : Int) < (k.T : Int) := by omega
      obtain rfl : t = k.T := by omega
      go_wp2_with fail
      go_ret
      have h3 := HF.out
      rw [findR_end m xs (Nat.le_refl _)] at h3
      rw [← h3]
      exact ⟨rfl, HST0.out, HC.out, fun S h => by cases h⟩
theorem from_all {k : RC} (hk : k.Ok) : ∀ m, FromR k m
  | 0 => from_zero hk
  | m + 1 => from_succ hk (from_all hk m)
end

section

open Go.RowKit
set_option linter.unusedSimpArgs false
set_option linter.unusedVariables false

attribute [local go_sem] Oper.semAt_some
theorem asked_zero {l : Lg} {tm : Int} (h : askedL l tm = 0) : Valid l ∧ ∃ p : Nat, tm = (p : Int) ∧ (p : Int) < l.teams := by
  unfold askedL at h
  split at h
  · next h1 =>
    split at h
    · next h2 =>
      rw [inB_eq] at h2
      exact ⟨valid_iff.1 h1, tm.toNat, by omega, by omega⟩
    · simp at h
  · next h1 => exact absurd h h1
/-- The list that Reason answers, if there is one. -/
def reasonF (l : Lg) (tm : Int) : Option (List Int) := (allC l.teams.toNat tm (l.teams.toNat - 1)).find? (ruledB (reachF l tm) (sumsF l) (opensL l.games))
def reasonE (l : Lg) (tm : Int) : Int := if askedL l tm = 0 then (if (reasonF l tm).isSome then 0 else 7) else askedL l tm
def reasonL (l : Lg) (tm : Int) : List Int := if askedL l tm = 0 then (reasonF l tm).getD [] else []
theorem allC_succ (T : Nat) (tm : Int) {m : Nat} (h : 1 ≤ m) : allC T tm m = allC T tm (m - 1) ++ candL T tm m [] 0 := by
  obtain ⟨k, rfl⟩ : ∃ k, m = k + 1 := ⟨m - 1, by omega⟩
  unfold allC
  rw [List.range'_concat, List.flatMap_append, Nat.add_sub_cancel]
  simp [Nat.add_comm]
theorem allC_mono (T : Nat) (tm : Int) {m k : Nat} (h : m ≤ k) : ∃ R, allC T tm k = allC T tm m ++ R := by
  induction k with
  | zero => exact ⟨[], by simp [show m = 0 by omega]⟩
  | succ k ih =>
    by_cases e : m = k + 1
    · exact ⟨[], by simp [e]⟩
    · obtain ⟨R, hR⟩ := ih (by omega)
      exact ⟨R ++ candL T tm (k + 1) [] 0, by rw [allC_succ T tm (by omega), Nat.add_sub_cancel, hR, List.append_assoc]⟩
theorem good_nil : Good [] := fun j hj => by simp at hj
set_option maxRecDepth 100000 in
set_option maxHeartbeats 8000000 in
theorem reason37_c (l : Lg) (tm : Int) (A : Option Addr) (c : Nat) (w : World) (hl : Gms w.heap.size w A l.games) (hc : l.games.length ≤ c ∧ c ≤ 9223372036854775807) :
    Calls Try.prog 37 #[.agg #[.int .i64 l.teams, .slice A l.games.length c], .int .i64 tm] w (ListE w (reasonL l tm) (reasonE l tm)) := by
  have HL := Lib.hid hl
  have hb : Below w.heap.size w ((w.alloc (.cells #[.int .i64 l.teams, .slice A l.games.length c] 32)).alloc (.cells #[.int .i64 tm] 3)) := ((Below.refl _ _).alloc (Nat.le_refl _) _).alloc (by simp) _
  have HB := Lib.hid hb
  replace HL := Lib.hid (HL.out.step hb)
  clear hb hl
  have HAS := Lib.hid (fun (W : World) (h : Gms W.heap.size W A l.games) => asked69_c l tm A c W h hc)
  have k0 : ((w.alloc (.cells #[.int .i64 l.teams, .slice A l.games.length c] 32)).alloc (.cells #[.int .i64 tm] 3)).cell? ⟨w.heap.size, 0, none⟩ = some (.int .i64 l.teams) := by go_simp
  have k1 : ((w.alloc (.cells #[.int .i64 l.teams, .slice A l.games.length c] 32)).alloc (.cells #[.int .i64 tm] 3)).cell? ⟨w.heap.size, 1, none⟩ = some (.slice A l.games.length c) := by go_simp
  have k2 : ((w.alloc (.cells #[.int .i64 l.teams, .slice A l.games.length c] 32)).alloc (.cells #[.int .i64 tm] 3)).cell? ⟨w.heap.size + 1, 0, none⟩ = some (.int .i64 tm) := by go_simp
  by_cases h1 : askedL l tm = 0
  rotate_left 1
  · have HE : Hid (reasonE l tm = askedL l tm) := by show _ = _; unfold reasonE; rw [if_neg h1]
    have HR : Hid (reasonL l tm = []) := by show _ = _; unfold reasonL; rw [if_neg h1]
    have q1 : (askedL l tm != 0) = true := by simp [h1]
    clear h1
    generalize askedL l tm = fl at *
    go_enter Try.func37, Try.ntmps37
    go_wp2_with fail
    generalize ((w.alloc (.cells #[.int .i64 l.teams, .slice A l.games.length c] 32)).alloc (.cells #[.int .i64 tm] 3)) = x1 at *
    refine (HAS.out _ HL.out).mono ?_
    rintro e x2 ⟨rfl, hb⟩
    replace HB := Lib.hid (HB.out.trans (hb.mono HB.out.size))
    clear hb
    go_wp2_with fail
    refine bodyPost_ret (results_tmp2 rfl _ _ _) rfl ?_
    exact ⟨none, 0, by rw [HE.out, HR.out]; rfl, by rw [HR.out]; exact ⟨fun h => by simp at h, by simp, by simp⟩, HB.out⟩
  · obtain ⟨hv, p, rfl, hp⟩ := asked_zero h1
    have HRC := Lib.hid (fun (W : World) (h : Gms W.heap.size W A l.games) => race70_c l p A c W hv hp h hc)
    have HE : Hid (reasonE l (p : Int) = if (reasonF l (p : Int)).isSome then 0 else 7) := by show _ = _; unfold reasonE; rw [if_pos h1]
    have HR : Hid (reasonL l (p : Int) = (reasonF l (p : Int)).getD []) := by show _ = _; unfold reasonL; rw [if_pos h1]
    have HV := Lib.hid hv
    have hT2 := hv.t2
    have hT6 := hv.t6
    have HX1 := Lib.hid h1
    clear hv h1
    go_enter Try.func37, Try.ntmps37
    go_wp2_with fail
    generalize ((w.alloc (.cells #[.int .i64 l.teams, .slice A l.games.length c] 32)).alloc (.cells #[.int .i64 (p : Int)] 3)) = x1 at *
    refine (HAS.out _ HL.out).mono ?_
    rw [HX1.out]
    rintro e x2 ⟨rfl, hb⟩
    replace HL := Lib.hid (HL.out.step hb)
    replace HB := Lib.hid (HB.out.trans (hb.mono HB.out.size))
    replace k0 := cell_of_ans hb k0
    replace k1 := cell_of_ans hb k1
    replace k2 := cell_of_ans hb k2
    clear hb
    go_wp2_with fail
    refine (HRC.out _ HL.out).mono ?_
    rintro e x3 ⟨q, OA, oc, rfl, hq, hra, hom, hne, hb⟩
    replace HL := Lib.hid (HL.out.step hb)
    replace HB := Lib.hid (HB.out.trans (hb.mono HB.out.size))
    replace k0 := cell_of_ans hb k0
    replace k1 := cell_of_ans hb k1
    replace k2 := cell_of_ans hb k2
    obtain ⟨-, -, hgm⟩ := hom.parts
    have HRA := Lib.hid hra
    have HGM := Lib.hid hgm
    clear hb hra hom hne hgm
    go_upto_region 6 with fail
    have hb : Below x3.heap.size x3 (x3.alloc (.cells #[.func (.func 71) #[.pointer (some ⟨q, 0, none⟩)] #[]] 118)) := (Below.refl _ _).alloc (Nat.le_refl _) _
    have k3 : (x3.alloc (.cells #[.func (.func 71) #[.pointer (some ⟨q, 0, none⟩)] #[]] 118)).cell? ⟨x3.heap.size, 0, none⟩ = some (.func (.func 71) #[.pointer (some ⟨q, 0, none⟩)] #[]) := by go_simp
    replace HRA := Lib.hid (HRA.out.step hb)
    replace HGM := Lib.hid (HGM.out.step hb)
    replace HB := Lib.hid (HB.out.trans (hb.mono HB.out.size))
    replace k0 := cell_of_ans hb k0
    replace k2 := cell_of_ans hb k2
    clear hb k1 HL
    generalize (x3.alloc (.cells #[.func (.func 71) #[.pointer (some ⟨q, 0, none⟩)] #[]] 118)) = x5 at *
    generalize x3.heap.size = br at *
    have HKK : Hid (∃ k : RC, k.Ok ∧ k.W = x5 ∧ k.q = q ∧ k.br = br ∧ k.bl = w.heap.size ∧ k.bt = w.heap.size + 1 ∧ k.T = l.teams.toNat ∧ k.tm = (p : Int) ∧ k.rc = reachF l (p : Int) ∧ k.f = sumsF l ∧ k.gs = opensL l.games) :=
      ⟨⟨l.teams.toNat, (p : Int), reachF l (p : Int), sumsF l, opensL l.games, OA, oc, .slice none 0 0, q, br, w.heap.size, w.heap.size + 1, x5⟩,
        ⟨HRA.out, HGM.out, k3, by rw [k0]; show some (Value.int .i64 l.teams) = some (.int .i64 (l.teams.toNat : Int)); rw [show ((l.teams.toNat : Nat) : Int) = l.teams by omega], k2, fun t => sumsF_range HV.out t, reachK_rng HV.out (Nat.le_refl _), by have := opens_len l.games; have := HV.out.len; show (opensL l.games).length ≤ 20; omega, by show l.teams.toNat ≤ 6; omega⟩, rfl, rfl, rfl, rfl, rfl, rfl, rfl, rfl, rfl, rfl⟩
    obtain ⟨k, hk, eW, eq, ebr, ebl, ebt, eT, etm, erc, ef, egs⟩ := HKK.out
    have hb6 : Below x5.heap.size x5 ((x5.alloc (.cells #[.slice none 0 0] 34)).alloc (.cells #[(.func (.func 72) #[] #[.pointer (some ⟨x5.heap.size, 0, none⟩), .pointer (some ⟨br, 0, none⟩), .pointer (some ⟨w.heap.size, 0, none⟩), .pointer (some ⟨w.heap.size + 1, 0, none⟩), .pointer (some ⟨x5.heap.size + 1, 0, none⟩)])] 119)) := ((Below.refl _ _).alloc (Nat.le_refl _) _).alloc (by simp) _
    have hbo : k.bo = x5.heap.size := by show k.W.heap.size = _; rw [eW]
    have HST : Hid (RSt k ((x5.alloc (.cells #[.slice none 0 0] 34)).alloc (.cells #[(.func (.func 72) #[] #[.pointer (some ⟨x5.heap.size, 0, none⟩), .pointer (some ⟨br, 0, none⟩), .pointer (some ⟨w.heap.size, 0, none⟩), .pointer (some ⟨w.heap.size + 1, 0, none⟩), .pointer (some ⟨x5.heap.size + 1, 0, none⟩)])] 119)) (.slice none 0 0) []) := by
      refine ⟨by rw [hbo, eW]; exact hb6, ?_, ⟨.slice none 0 0, ?_⟩, OwnI.nil _ _⟩
      · rw [hbo, ebr, ebl, ebt]
        have := World.alloc_heap_new (x5.alloc (.cells #[.slice none 0 0] 34)) (.cells #[(.func (.func 72) #[] #[.pointer (some ⟨x5.heap.size, 0, none⟩), .pointer (some ⟨br, 0, none⟩), .pointer (some ⟨w.heap.size, 0, none⟩), .pointer (some ⟨w.heap.size + 1, 0, none⟩), .pointer (some ⟨x5.heap.size + 1, 0, none⟩)])] 119)
        rwa [World.size_alloc] at this
      · rw [hbo]
        exact (heap_alloc_old _ _ (by simp)).trans (World.alloc_heap_new _ _)
    have HBX : Hid (Below w.heap.size w x5) := HB.out
    replace HB := Lib.hid (HB.out.trans (hb6.mono HB.out.size))
    have HCALL : Hid (∀ (m : Nat) (W : World), m ≤ 6 → RSt k W (.slice none 0 0) [] → Calls Try.prog 72 #[.slice none 0 0, .int .i64 0, .int .i64 (m : Int), .pointer (some ⟨x5.heap.size, 0, none⟩), .pointer (some ⟨br, 0, none⟩), .pointer (some ⟨w.heap.size, 0, none⟩), .pointer (some ⟨w.heap.size + 1, 0, none⟩), .pointer (some ⟨x5.heap.size + 1, 0, none⟩)] W (RPost k W (.slice none 0 0) [] (findR k m [] 0))) := fun m W hm h => by
      have := from_all hk m W (.slice none 0 0) [] 0 h good_nil (by simpa using hm) (Nat.zero_le _)
      rwa [hbo, ebr, ebl, ebt] at this
    have HCF : Hid (∀ W, RSt k W (.slice none 0 0) [] → W.cell? ⟨x5.heap.size + 1, 0, none⟩ = some (.func (.func 72) #[] #[.pointer (some ⟨x5.heap.size, 0, none⟩), .pointer (some ⟨br, 0, none⟩), .pointer (some ⟨w.heap.size, 0, none⟩), .pointer (some ⟨w.heap.size + 1, 0, none⟩), .pointer (some ⟨x5.heap.size + 1, 0, none⟩)])) := fun W h => by
      have := h.cells
      rwa [hbo, ebr, ebl, ebt] at this
    have HLOW : Hid (∀ W, RSt k W (.slice none 0 0) [] → Below x5.heap.size x5 W) := fun W h => by
      have := h.low
      rwa [hbo, eW] at this
    have HCO : Hid (∀ (W : World) (u : Value), W.heap[k.bo]? = some (.cells #[u] 34) → W.cell? ⟨x5.heap.size, 0, none⟩ = some u) := fun W u h => by
      rw [hbo] at h
      simp [World.cell?, h]
    have HCH : Hid (∀ (W W' : World), Below w.heap.size w W → Chg W W' (Sr k (.slice none 0 0)) → Below w.heap.size w W') := fun W W' h hC => h.trans (hC.below h.size (fun i _ hS => by
      have := HBX.out.size
      rcases hS with e | e
      · omega
      · cases e))
    have HF : Hid (reasonF l (p : Int) = (allC k.T k.tm (k.T - 1)).find? (ruledB k.rc k.f k.gs)) := by show _ = _; unfold reasonF; rw [eT, etm, erc, ef, egs]
    have hkT : (k.T : Int) = l.teams := by omega
    have lt0 := World.block_lt_of_cell? _ _ k0
    dsimp only at lt0
    clear hb6 HBX HKK eW eq ebr ebl ebt eT etm erc ef egs hbo k2 k3 HRA HGM
    go_upto_region 9 with fail
    generalize ((x5.alloc (.cells #[.slice none 0 0] 34)).alloc (.cells #[(.func (.func 72) #[] #[.pointer (some ⟨x5.heap.size, 0, none⟩), .pointer (some ⟨br, 0, none⟩), .pointer (some ⟨w.heap.size, 0, none⟩), .pointer (some ⟨w.heap.size + 1, 0, none⟩), .pointer (some ⟨x5.heap.size + 1, 0, none⟩)])] 119)) = x6 at *
    generalize x5.heap.size = bo at *
    generalize w.heap.size + 1 = bt at *
    go_wp2_with fail
    go_loopw [11] (fun i wr => ∃ m : Nat, 1 ≤ m ∧ m ≤ k.T ∧ i = .int .i64 m ∧ RSt k wr (.slice none 0 0) [] ∧ Below w.heap.size w wr ∧ (allC k.T k.tm (m - 1)).find? (ruledB k.rc k.f k.gs) = none) (fun i _ => k.T - (intOf i).toNat)
    case atStart => exact ⟨1, Nat.le_refl _, by omega, rfl, HST.out, HB.out, rfl⟩
    case round =>
      obtain ⟨m, hm1, hm2, rfl, hst, hb, hno⟩ := hrel
      have HSW := Lib.hid hst
      have HBW := Lib.hid hb
      have HNO := Lib.hid hno
      have c0 := ((HLOW.out wr hst).cell (p := ⟨w.heap.size, 0, none⟩) lt0).trans k0
      have cf := HCF.out wr hst
      clear hst hb hno
      by_cases h2 : m < k.T
      · have h2i : (m : Int) < l.teams := by omega
        have hw1 : IntKind.i64.wrap ((m : Int) + 1) = (m : Int) + 1 := IntWalk.i64_in _ (by omega)
        have HFI : Hid ((allC k.T k.tm m).find? (ruledB k.rc k.f k.gs) = findR k m [] 0) := by show _ = _; rw [allC_succ _ _ hm1, List.find?_append, HNO.out]; rfl
        have HC := Lib.hid (HCALL.out m wr (by omega) HSW.out)
        generalize findR k m [] 0 = r at *
        clear k0
        rcases r with _ | S
        · go_wp2_with fail
          refine HC.out.mono ?_
          rintro e w1 hp1
          have he : e = .returned (.bool false) := hp1.1
          subst he
          have HP := Lib.hid hp1
          clear hp1 HC c0 cf
          go_wp2_with fail
          go_roundw
          case rel => exact ⟨m + 1, by omega, by omega, by go_num, HP.out.2.1, HCH.out _ _ HBW.out HP.out.2.2.1, by rw [Nat.add_sub_cancel]; exact HFI.out⟩
          case measure => simp [intOf]; omega
        · go_wp2_with fail
          refine HC.out.mono ?_
          rintro e w1 hp1
          have he : e = .returned (.bool true) := hp1.1
          subst he
          obtain ⟨-, h3, h4, h5⟩ := hp1
          obtain ⟨u, h6, h7⟩ := h5 S rfl
          obtain ⟨Au, cu, rfl⟩ := OwnI.form h7
          have hcu := HCO.out _ _ h6
          have HU := Lib.hid h7
          have HBE := Lib.hid (HCH.out _ _ HBW.out h4)
          clear h3 h4 h5 h6 h7 HC c0 cf
          go_wp2_with fail
          refine bodyPost_ret (results_tmp2 rfl _ _ _) rfl ?_
          obtain ⟨h8, h9, h10⟩ := isInts_parts HU.out.isInts
          have HRF : Hid (reasonF l (p : Int) = some S) := by
            show _ = _
            rw [HF.out]
            obtain ⟨R, hR⟩ := allC_mono k.T k.tm (m := m) (k := k.T - 1) (by omega)
            rw [hR, List.find?_append, HFI.out]
            rfl
          refine ⟨Au, cu, by rw [HE.out, HR.out, HRF.out]; rfl, ?_, HBE.out⟩
          rw [HR.out, HRF.out]
          exact ⟨h10, h8, h9⟩
      · have h2i : ¬ (m : Int) < l.teams := by omega
        obtain rfl : m = k.T := by omega
        clear k0
        go_wp2_with fail
        refine bodyPost_ret (results_tmp2 rfl _ _ _) rfl ?_
        have HRF : Hid (reasonF l (p : Int) = none) := by show _ = _; rw [HF.out]; exact HNO.out
        exact ⟨none, 0, by rw [HE.out, HR.out, HRF.out]; rfl, by rw [HR.out, HRF.out]; exact ⟨fun h => by simp at h, by simp, by simp⟩, HBW.out⟩
end
end Go.Proofs.Ytjokbffdepcpkaa
