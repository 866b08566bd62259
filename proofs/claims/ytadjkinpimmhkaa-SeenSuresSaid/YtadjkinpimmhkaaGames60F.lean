/-
  The reference's games of a frame: the rows lie in new blocks.
-/
import Derived.Test.YtadjkinpimmhkaaGames60
namespace Go.Proofs.Ytadjkinpimmhkaa
open Go.RowKit
set_option linter.unusedSimpArgs false
set_option linter.unusedVariables false

/-- Rows in blocks from L to B. -/
def GrdF (L B : Nat) (w : World) (A : Option Addr) (xss : List (List Int)) : Prop :=
  0 < xss.length → ∃ b off, A = some ⟨b, off, none⟩ ∧ L ≤ b ∧ b < B ∧ ∀ k, k < xss.length → ∃ v, w.cell? ⟨b, off + k, none⟩ = some v ∧ IsInts B w v (rx xss k) ∧ ∀ j, v.ownBlock = some j → L ≤ j
theorem GrdF.below {L B : Nat} {w w' : World} {A : Option Addr} {xss : List (List Int)} (h : GrdF L B w A xss) (hb : Below B w w') : GrdF L B w' A xss := fun hp => by
  obtain ⟨b, off, hA, hL, hlt, hc⟩ := h hp
  refine ⟨b, off, hA, hL, hlt, fun k hk => ?_⟩
  obtain ⟨v, hv, hi, hj⟩ := hc k hk
  exact ⟨v, (hb.cell (p := ⟨b, off + k, none⟩) hlt).trans hv, hi.below hb, hj⟩
theorem GrdF.chg {L B : Nat} {w w' : World} {A : Option Addr} {xss : List (List Int)} {S : Nat → Prop} (h : GrdF L B w A xss) (hC : Chg w w' S) (hS : ∀ i, S i → i < L ∨ B ≤ i) : GrdF L B w' A xss := fun hp => by
  obtain ⟨b, off, hA, hL, hlt, hc⟩ := h hp
  refine ⟨b, off, hA, hL, hlt, fun k hk => ?_⟩
  obtain ⟨v, hv, ⟨A', c', hv', h1, h2, hi⟩, hj⟩ := hc k hk
  refine ⟨v, hC.cell hv (fun e => by have := hS _ e; dsimp only at this; omega), ⟨A', c', hv', h1, h2, fun h0 => ?_⟩, hj⟩
  obtain ⟨b', off', hA', hlt', hc'⟩ := hi h0
  refine ⟨b', off', hA', hlt', fun i hi => hC.cell (hc' i hi) (fun e => ?_)⟩
  have h3 := hj b' (by subst hv' hA'; rfl)
  have h4 := hS _ e
  dsimp only at h4
  omega
theorem GrdF.at_ {L B : Nat} {w : World} {A : Option Addr} {xss : List (List Int)} (h : GrdF L B w A xss) {k : Nat} (hk : k < xss.length) : ∃ b off A' c', A = some ⟨b, off, none⟩ ∧ b < B ∧ w.cell? ⟨b, off + k, none⟩ = some (.slice A' (rx xss k).length c') ∧ (rx xss k).length ≤ c' ∧ c' ≤ 9223372036854775807 ∧ Ints B w A' (rx xss k) ∧ ∀ j, (Value.slice A' (rx xss k).length c').ownBlock = some j → L ≤ j := by
  obtain ⟨b, off, hA, hL, hb, hc⟩ := h (by omega)
  obtain ⟨v, hv, ⟨A', c', rfl, h1, h2, h3⟩, hj⟩ := hc k hk
  exact ⟨b, off, A', c', hA, hb, hv, h1, h2, h3, hj⟩
theorem Rws.grdF {base : Nat} {w : World} {v : Value} {vs : List Value} {yss : List (List Int)} (h : Rws base w v yss.length vs (rx yss)) : ∃ A c, v = .slice A yss.length c ∧ yss.length ≤ c ∧ c ≤ 9223372036854775807 ∧ GrdF base w.heap.size w A yss := by
  obtain ⟨h1, h2, _⟩ := h
  rcases h1.2 with ⟨rfl, h0⟩ | ⟨g, cap, cur, rfl, hb, hg, hn, hm, hs, ht⟩
  · have : yss = [] := List.eq_nil_of_length_eq_zero h0
    subst this
    exact ⟨none, 0, rfl, by simp, by simp, fun hp => by simp at hp⟩
  · refine ⟨_, cap, rfl, hn, by unfold maxLen at hm; omega, fun hp => ⟨g, 0, rfl, hb, (Array.getElem?_eq_some_iff.1 hg).1, fun k hk => ?_⟩⟩
    obtain ⟨u, a, b, c⟩ := h2 k hk
    refine ⟨u, ?_, ownsRow_isInts b, fun j e => (World.ownsRow.lt b j e).1⟩
    have := h1.cells (g := g) rfl k u a
    rwa [add_eq] at this
theorem grdF_of {L B : Nat} {w : World} {A : Option Addr} {n c : Nat} {rs : List (List Int)} (h : ∃ A' c', (Value.slice A n c) = .slice A' rs.length c' ∧ rs.length ≤ c' ∧ c' ≤ 9223372036854775807 ∧ GrdF L B w A' rs) : rs.length ≤ c ∧ c ≤ 9223372036854775807 ∧ GrdF L B w A rs := by
  obtain ⟨A', c', e, h1, h2, h3⟩ := h
  injection e with e1 e2 e3
  subst e1 e3
  exact ⟨h1, h2, h3⟩
def GwsF (L B base : Nat) (w : World) (v : Value) (vs : List Value) (rows : List (List Int)) : Prop := Gws B base w v vs rows ∧ ∀ u ∈ vs, ∀ j, u.ownBlock = some j → L ≤ j
theorem GwsF.nil (L B base : Nat) (w : World) : GwsF L B base w (.slice none 0 0) [] [] := ⟨Gws.nil _ _ _, fun u h => by cases h⟩
theorem GwsF.push {L B base : Nat} {w w1 w2 : World} {v v' u : Value} {vs : List Value} {rows : List (List Int)} {x : List Int} (h : GwsF L B base w v vs rows) (hB : B ≤ base) (hb0 : base ≤ w.heap.size) (hb : Below w.heap.size w w1) (hu : IsInts B w1 u x) (hj : ∀ j, u.ownBlock = some j → L ≤ j) (a : AppR base w1 v rows.length vs u w2 v') :
    GwsF L B base w2 v' (vs ++ [u]) (rows ++ [x]) ∧ Below base w w2 := by
  obtain ⟨h1, h2⟩ := Gws.push h.1 hB hb0 hb hu a
  refine ⟨⟨h1, fun y hy => ?_⟩, h2⟩
  rcases List.mem_append.1 hy with hy | hy
  · exact h.2 y hy
  · simp at hy
    subst hy
    exact hj
theorem GwsF.kept {L B base : Nat} {w w' : World} {v : Value} {vs : List Value} {rows : List (List Int)} (h : GwsF L B base w v vs rows) (hb : Below w.heap.size w w') (hB : B ≤ w.heap.size) : GwsF L B base w' v vs rows := ⟨h.1.kept hb hB, h.2⟩
theorem GwsF.grd {L B base : Nat} {w : World} {A : Option Addr} {n c : Nat} {vs : List Value} {rows : List (List Int)} (h : GwsF L B base w (.slice A n c) vs rows) (hL : L ≤ base) (hB : B ≤ w.heap.size) : rows.length ≤ c ∧ c ≤ 9223372036854775807 ∧ GrdF L w.heap.size w A rows := by
  obtain ⟨h, hu⟩ := h
  rcases h.1.2 with ⟨e, h0⟩ | ⟨g, cap, cur, e, hb, hg, hn, hm, hs, ht⟩
  · injection e with e1 e2 e3
    subst e1 e3
    exact ⟨by omega, by omega, fun hp => by omega⟩
  · injection e with e1 e2 e3
    subst e1 e3
    refine ⟨hn, by unfold maxLen at hm; omega, fun hp => ⟨g, 0, rfl, by omega, (Array.getElem?_eq_some_iff.1 hg).1, fun k hk => ?_⟩⟩
    obtain ⟨u, h1, h2⟩ := h.2 k hk
    refine ⟨u, ?_, h2.more hB, hu u (List.mem_of_getElem? h1)⟩
    have := h.1.cells (g := g) rfl k u h1
    rwa [add_eq] at this
def RowsPostF (w : World) (rs : List (List Int)) (e : Ending) (w' : World) : Prop := ∃ A c, e = .returned (.slice A rs.length c) ∧ (rs.length ≤ c ∧ c ≤ 9223372036854775807) ∧ GrdF w.heap.size w'.heap.size w' A rs ∧ Below w.heap.size w w'
set_option maxRecDepth 100000 in
set_option maxHeartbeats 16000000 in
theorem games60F_c (A At : Option Addr) (ws : List Wd) (offl : List Int) (c ct m : Nat) (frn f : Int) (w : World) (hw : Wds w.heap.size w A ws) (ht : Ints w.heap.size w At offl) (hc : ws.length ≤ c ∧ c ≤ 9223372036854775807) (hct : offl.length ≤ ct ∧ ct ≤ 9223372036854775807) (hl : ws.length ≤ 1000000)
    (hok : ∀ k, k < ws.length → wordB (m : Int) (wx ws k) = true) :
    Calls Try.prog 60 #[.agg #[.int .i64 frn, .slice A ws.length c], .slice At offl.length ct, .int .i64 f] w (RowsPostF w (gamesR ws offl f)) := by
  have hb0 : Below w.heap.size w (w.alloc (.cells #[.int .i64 frn, .slice A ws.length c] 24)) := (Below.refl _ _).alloc (Nat.le_refl _) _
  have s0 : (w.alloc (.cells #[.int .i64 frn, .slice A ws.length c] 24)).cell? ⟨w.heap.size, 0, none⟩ = some (.int .i64 frn) := by simp
  have s1 : (w.alloc (.cells #[.int .i64 frn, .slice A ws.length c] 24)).cell? ⟨w.heap.size, 1, none⟩ = some (.slice A ws.length c) := by simp
  have HWD := Lib.hid (onlyL_wd hok f)
  have HW := Lib.hid hw
  have HT := Lib.hid ht
  have HB := Lib.hid hb0
  clear hb0 hw ht hok
  go_enter Try.func60, Try.ntmps60
  go_wp2_with fail
  generalize w.alloc (.cells #[.int .i64 frn, .slice A ws.length c] 24) = W0 at s0 s1 HB ⊢
  replace HB : Hid (Below w.heap.size w W0.drew) := HB.out.drew
  replace s0 : W0.drew.cell? ⟨w.heap.size, 0, none⟩ = some (.int .i64 frn) := s0
  replace s1 : W0.drew.cell? ⟨w.heap.size, 1, none⟩ = some (.slice A ws.length c) := s1
  refine wp_region_noPanic ?_
  have hS : (fun w' : World => w'.cell? ⟨w.heap.size, 0, none⟩ = some (.int .i64 frn) ∧ w'.cell? ⟨w.heap.size, 1, none⟩ = some (.slice A ws.length c)) W0.drew := ⟨s0, s1⟩
  refine wp_region_any (by kernel_rfl) (wpAny_of_T (S := fun w' : World => w'.cell? ⟨w.heap.size, 0, none⟩ = some (.int .i64 frn) ∧ w'.cell? ⟨w.heap.size, 1, none⟩ = some (.slice A ws.length c)) (m := 7) _ _ _ _ ?_)
  refine' T_take (i := 1) (v := _) rfl (by kernel_rfl) (by kernel_rfl) (by kernel_rfl) (by kernel_rfl) (fun _ _ _ h => h) (by rfl) hS ?_ ?_
  rotate_left 1
  · intro Wv hW
    obtain ⟨s0, s1⟩ := hW
    go_simp
    first | done | with_reducible rfl
  try simp only [Act.put, List.setIfInBounds_toArray, List.set_cons_zero, List.set_cons_succ]
  refine' T_take (i := 2) (v := _) rfl (by kernel_rfl) (by kernel_rfl) (by kernel_rfl) (by kernel_rfl) (fun _ _ _ h => h) (by rfl) hS ?_ ?_
  rotate_left 1
  · intro Wv hW
    go_simp
    first | done | with_reducible rfl
  try simp only [Act.put, List.setIfInBounds_toArray, List.set_cons_zero, List.set_cons_succ]
  refine T_ready (rs := [0, 4]) (by kernel_rfl) (by simp) ?_
  refine TReady.cons rfl (fun K hK => ?_) (TReady.cons rfl (fun K hK => ?_) TReady.nil)
  · try go_simp
    refine (frames_c _).mono ?_
    rintro e v1 ⟨A1, c1, vs1, rfl, hR, hb⟩
    have hRL := HB.out.size
    replace s0 := cell_of_ans hb s0
    replace s1 := cell_of_ans hb s1
    replace HB := Lib.hid (HB.out.trans (hb.mono HB.out.size))
    have HR := Lib.hid (hR.lower hRL)
    clear hR hb hRL
    try go_simp
    refine hK.out _ _ (fun _ => ⟨s0, s1⟩) (fun hS => ?_)
    replace hS := hS (by decide)
    clear hK K
    try simp only [Act.put, List.setIfInBounds_toArray, List.set_cons_zero, List.set_cons_succ]
    refine T_ready (rs := [3, 4]) (by kernel_rfl) (by simp) ?_
    refine TReady.cons rfl (fun K hK => ?_) (TReady.cons rfl (fun K hK => ?_) TReady.nil)
    · try go_simp
      refine (only_c A ws c frn f _ ((HW.out.below HB.out).more HB.out.size) hc hl).mono ?_
      rintro e v2 ⟨A2, c2, rfl, hO, hb⟩
      replace s0 := cell_of_ans hb s0
      replace s1 := cell_of_ans hb s1
      replace HR := Lib.hid (HR.out.kept hb)
      replace HB := Lib.hid (HB.out.trans (hb.mono HB.out.size))
      have HO : Hid (OwnW 56 0 v2 (.slice A2 (onlyL ws f).length c2) (onlyL ws f)) := ownsRow_base hO (Nat.zero_le _)
      clear hO hb
      try go_simp
      refine hK.out _ _ (fun _ => ⟨s0, s1⟩) (fun hS => ?_)
      replace hS := hS (by decide)
      clear hK K
      try simp only [Act.put, List.setIfInBounds_toArray, List.set_cons_zero, List.set_cons_succ]
      refine T_ready (rs := [4]) (by kernel_rfl) (by simp) ?_
      refine TReady.cons rfl (fun K hK => ?_) TReady.nil
      try go_simp
      have q0 := s0
      have HRq := HR
      have HOq := HO
      have hb : Below (v2).heap.size (v2) ((v2).alloc (.cells #[.int .i64 0, .slice none 0 0] 24)) := (Below.refl _ _).alloc (Nat.le_refl _) _
      replace s0 := cell_of_ans hb s0
      replace s1 := cell_of_ans hb s1
      replace HR := Lib.hid (HR.out.kept hb)
      replace HO := Lib.hid (World.ownsRow.kept HO.out (only_below hb none) (own_ne _))
      replace HB := Lib.hid (HB.out.trans (hb.mono HB.out.size))
      have HZ : Hid (((v2).alloc (.cells #[.int .i64 0, .slice none 0 0] 24)).heap[(v2).heap.size]? = some (.cells #[.int .i64 0, .slice none 0 0] 24 (0, 0))) := World.alloc_heap_new (v2) _
      have HZl : (v2).heap.size < ((v2).alloc (.cells #[.int .i64 0, .slice none 0 0] 24)).heap.size := by simp
      have HGw : w.heap.size < (v2).heap.size := World.block_lt_of_cell? (v2) _ q0
      have HNR := Lib.hid (HRq.out.ne_ge (Nat.le_refl _))
      have HNO := Lib.hid (own_ne_ge HOq.out (Nat.le_refl _))
      clear hb
      try go_simp
      refine hK.out _ _ (fun _ => ⟨s0, s1⟩) (fun hS => ?_)
      replace hS := hS (by decide)
      clear hK K
      try simp only [Act.put, List.setIfInBounds_toArray, List.set_cons_zero, List.set_cons_succ]
      refine' T_take (i := 5) (v := _) rfl (by kernel_rfl) (by kernel_rfl) (by kernel_rfl) (by kernel_rfl) (fun _ _ _ h => h) (by rfl) hS ?_ ?_
      rotate_left 1
      · intro Wv hW
        go_simp
        first | done | with_reducible rfl
      try simp only [Act.put, List.setIfInBounds_toArray, List.set_cons_zero, List.set_cons_succ]
      generalize (v2).heap.size = gz at *
      generalize (v2).alloc (.cells #[.int .i64 0, .slice none 0 0] 24) = WF at *
      have z0 : WF.cell? ⟨gz, 0, none⟩ = some (.int .i64 0) := by simp [World.cell?, HZ.out]
      have z1 : WF.cell? ⟨gz, 1, none⟩ = some (.slice none 0 0) := by simp [World.cell?, HZ.out]
      have z2 : WF.frozen? ⟨gz, 0, none⟩ = false := by simp [World.frozen?, HZ.out]
      have z3 : WF.frozen? ⟨gz, 1, none⟩ = false := by simp [World.frozen?, HZ.out]
      refine T_ready (rs := [6]) (by kernel_rfl) (by simp) ?_
      refine TReady.cons rfl (fun K hK => ?_) TReady.nil
      try go_simp
      have hne1 : (⟨gz, 0, none⟩ : Addr).block ≠ w.heap.size := by dsimp only; omega
      have hne2 : (⟨gz, 1, none⟩ : Addr).block ≠ w.heap.size := by dsimp only; omega
      refine hK.out _ _ (fun _ => ⟨cell_set_keep (cell_set_keep s0 hne1) hne2, cell_set_keep (cell_set_keep s1 hne1) hne2⟩) (fun hS => ?_)
      clear hS
      clear hK K
      try simp only [Act.put, List.setIfInBounds_toArray, List.set_cons_zero, List.set_cons_succ]
      refine T_done (by kernel_rfl) ?_ _
      refine NoPanic.normal ?_
      have hS2 : WF.grownBy ((WF.setCell ⟨gz, 0, none⟩ (.int .i64 1)).setCell ⟨gz, 1, none⟩ (.slice A2 (onlyL ws f).length c2)) (some gz) := sets2 _ _ _ _
      have HLB : Hid (LB ((WF.setCell ⟨gz, 0, none⟩ (.int .i64 1)).setCell ⟨gz, 1, none⟩ (.slice A2 (onlyL ws f).length c2)) gz 1 (.slice A2 (onlyL ws f).length c2) 24) := by
        show LB _ _ _ _ _
        unfold LB
        simp [World.setCell, Array.getElem?_modify, HZ.out]
      have hR2 := HR.out.keptBy hS2 (.inr HNR.out.1) fun u hu => .inr (HNR.out.2 u hu)
      obtain ⟨g1, g2, g3⟩ := grdF_of (Rws.grdF hR2)
      have HG := Lib.hid g3
      have hO2 : OwnW 56 0 ((WF.setCell ⟨gz, 0, none⟩ (.int .i64 1)).setCell ⟨gz, 1, none⟩ (.slice A2 (onlyL ws f).length c2)) (.slice A2 (onlyL ws f).length c2) (onlyL ws f) := World.ownsRow.kept HO.out hS2 (.inr HNO.out)
      obtain ⟨o1, o2, o3⟩ := hO2.wds
      have HOW := Lib.hid o3
      have HBS : Hid (Below w.heap.size w ((WF.setCell ⟨gz, 0, none⟩ (.int .i64 1)).setCell ⟨gz, 1, none⟩ (.slice A2 (onlyL ws f).length c2))) := (HB.out.setCell (by dsimp only; omega) _).setCell (by dsimp only; omega) _
      clear hS2 hR2 g3 hO2 o3 HR HO HNR HNO HZ z0 z1 z2 z3 s0 s1 HB
      generalize (WF.setCell ⟨gz, 0, none⟩ (.int .i64 1)).setCell ⟨gz, 1, none⟩ (.slice A2 (onlyL ws f).length c2) = W2 at *
      go_wp2_with fail
      go_loopw [10, 9] (fun i v wr => ∃ (k : Nat) (vs : List Value), k ≤ framesL.length ∧ i = .int .i64 k ∧ GwsF w.heap.size W2.heap.size W2.heap.size wr v vs ((framesL.take k).filter (fitF ws offl f)) ∧ Below W2.heap.size W2 wr) (fun i _ _ => framesL.length - (intOf i).toNat)
      case atStart => exact ⟨0, [], by omega, rfl, GwsF.nil _ _ _ _, Below.refl _ _⟩
      case round =>
        obtain ⟨k, vs, hk, rfl, hG, hb⟩ := hrel
        have HGk := Lib.hid hG
        have HBk := Lib.hid hb
        have hzk := hb.size
        obtain ⟨Av, cv, hv⟩ := ownsRow_form hG.1.1
        by_cases h1 : k < framesL.length
        · obtain ⟨b1, q1, A', c', hA1, hb1, hcell, hc1', hc2', hI, hUO⟩ := (HG.out.below hb).at_ h1
          subst hA1
          have h1i : (k : Int) < (framesL.length : Int) := by omega
          obtain ⟨l0, l1, -⟩ := (HLB.out.below hb).cells
          have HV : Hid (∀ j, j < (rx framesL k).length → 0 ≤ ix (rx framesL k) j ∧ ix (rx framesL k) j ≤ 10) := fun j hj => framesL_v h1 hj
          have HFS := Lib.hid (filter_take_succ (p := fitF ws offl f) h1)
          have HRX := Lib.hid (rx_lt h1)
          have HNL : Hid (((framesL.take k).filter (fitF ws offl f)).length ≤ 1000000) := by
            show _ ≤ _
            have h3 := List.length_filter_le (fitF ws offl f) (framesL.take k)
            rw [List.length_take] at h3
            have h4 := framesL_len
            omega
          have HFE : Hid (fitF ws offl f (rx framesL k) = fitG (onlyL ws f) offl [rx framesL k]) := rfl
          have HI := Lib.hid (hI.more hzk)
          have HUO := Lib.hid hUO
          have HI0 := Lib.hid hI
          rw [← HRX.out] at HFS
          generalize rx framesL k = x at *
          generalize hN : ((framesL.take k).filter (fitF ws offl f)).length = nn at hv
          subst hv
          have HFC : Hid (∀ Wc, Wc = wr.drew.alloc (.cells #[.slice A' x.length c'] 25) → Calls Try.prog 45 #[.agg #[.int .i64 1, .slice A2 (onlyL ws f).length c2], .slice At offl.length ct, .slice (some ⟨wr.heap.size, 0, none⟩) 1 1] Wc (Ans Wc (.bool (fitF ws offl f x)))) := fun Wc hWc => by
            rw [HFE.out]
            have hbd : Below wr.heap.size wr Wc := by rw [hWc]; exact (Below.refl _ _).drew.alloc (Nat.le_refl _) _
            have hbw : Below W2.heap.size W2 Wc := HBk.out.trans (hbd.mono hzk)
            refine fits45_c A2 At (some ⟨wr.heap.size, 0, none⟩) (onlyL ws f) offl [x] c2 ct 1 1 Wc (HOW.out.step hbw) ((HT.out.below (HBS.out.trans (hbw.mono HBS.out.size))).more (by have := HBS.out.size; have := hbw.size; omega)) ?_ ⟨o1, o2⟩ hct ⟨by simp, by simp⟩ (fun j hj => by have := HWD.out j hj; simp; omega) (fun f' hf' j hj => ?_)
            · refine fun _ => ⟨wr.heap.size, 0, rfl, by rw [hWc]; simp, fun j hj => ?_⟩
              obtain rfl : j = 0 := by simpa using hj
              refine ⟨.slice A' x.length c', by rw [hWc]; exact cell_new1 wr.drew _ _, ⟨A', c', rfl, hc1', hc2', (HI.out.below hbd).more (by have := hbd.size; omega)⟩⟩
            · obtain rfl : f' = 0 := by simpa using hf'
              exact HV.out j hj
          clear hG hb hI hUO
          go_wp2_with fail
          refine wp_region_noPanic ?_
          have hS : (fun w' : World => w'.cell? ⟨gz, 0, none⟩ = some (.int .i64 1) ∧ w'.cell? ⟨gz, 1, none⟩ = some (.slice A2 (onlyL ws f).length c2) ∧ w'.cell? ⟨b1, q1 + k, none⟩ = some (.slice A' x.length c')) wr.drew := ⟨l0, l1, hcell⟩
          refine wp_region_any (by kernel_rfl) (wpAny_of_T (S := fun w' : World => w'.cell? ⟨gz, 0, none⟩ = some (.int .i64 1) ∧ w'.cell? ⟨gz, 1, none⟩ = some (.slice A2 (onlyL ws f).length c2) ∧ w'.cell? ⟨b1, q1 + k, none⟩ = some (.slice A' x.length c')) (m := 8) _ _ _ _ ?_)
          refine' T_take (i := 0) (v := _) rfl (by kernel_rfl) (by kernel_rfl) (by kernel_rfl) (by kernel_rfl) (fun _ _ _ h => h) (by rfl) hS ?_ ?_
          rotate_left 1
          · intro Wv hW
            obtain ⟨s0, s1, s2⟩ := hW
            go_simp
            first | done | with_reducible rfl
          try simp only [Act.put, List.setIfInBounds_toArray, List.set_cons_zero, List.set_cons_succ]
          refine' T_take (i := 1) (v := _) rfl (by kernel_rfl) (by kernel_rfl) (by kernel_rfl) (by kernel_rfl) (fun _ _ _ h => h) (by rfl) hS ?_ ?_
          rotate_left 1
          · intro Wv hW
            obtain ⟨s0, s1, s2⟩ := hW
            go_simp
            first | done | with_reducible rfl
          try simp only [Act.put, List.setIfInBounds_toArray, List.set_cons_zero, List.set_cons_succ]
          refine' T_take (i := 2) (v := _) rfl (by kernel_rfl) (by kernel_rfl) (by kernel_rfl) (by kernel_rfl) (fun _ _ _ h => h) (by rfl) hS ?_ ?_
          rotate_left 1
          · intro Wv hW
            obtain ⟨s0, s1, s2⟩ := hW
            go_simp
            first | done | with_reducible rfl
          try simp only [Act.put, List.setIfInBounds_toArray, List.set_cons_zero, List.set_cons_succ]
          refine' T_take (i := 3) (v := _) rfl (by kernel_rfl) (by kernel_rfl) (by kernel_rfl) (by kernel_rfl) (fun _ _ _ h => h) (by rfl) hS ?_ ?_
          rotate_left 1
          · intro Wv hW
            obtain ⟨s0, s1, s2⟩ := hW
            go_simp
            first | done | with_reducible rfl
          try simp only [Act.put, List.setIfInBounds_toArray, List.set_cons_zero, List.set_cons_succ]
          refine' T_take (i := 4) (v := _) rfl (by kernel_rfl) (by kernel_rfl) (by kernel_rfl) (by kernel_rfl) (fun _ _ _ h => h) (by rfl) hS ?_ ?_
          rotate_left 1
          · intro Wv hW
            obtain ⟨s0, s1, s2⟩ := hW
            go_simp
            first | done | with_reducible rfl
          try simp only [Act.put, List.setIfInBounds_toArray, List.set_cons_zero, List.set_cons_succ]
          refine' T_take (i := 5) (v := _) rfl (by kernel_rfl) (by kernel_rfl) (by kernel_rfl) (by kernel_rfl) (fun _ _ _ h => h) (by rfl) hS ?_ ?_
          rotate_left 1
          · intro Wv hW
            obtain ⟨s0, s1, s2⟩ := hW
            go_simp
            first | done | with_reducible rfl
          try simp only [Act.put, List.setIfInBounds_toArray, List.set_cons_zero, List.set_cons_succ]
          refine T_ready (rs := [6]) (by kernel_rfl) (by simp) ?_
          refine TReady.cons rfl (fun K hK => ?_) TReady.nil
          try go_simp
          refine hK.out _ _ (fun _ => ⟨cell_alloc_keep _ l0, cell_alloc_keep _ l1, cell_alloc_keep _ hcell⟩) (fun hS => ?_)
          replace hS := hS (by decide)
          clear hK K
          try simp only [Act.put, List.setIfInBounds_toArray, List.set_cons_zero, List.set_cons_succ]
          refine T_ready (rs := [7]) (by kernel_rfl) (by simp) ?_
          refine TReady.cons rfl (fun K hK => ?_) TReady.nil
          try go_simp
          refine (HFC.out _ rfl).mono ?_
          rintro e w3 ⟨rfl, hb3⟩
          have t0 := cell_of_ans hb3 (cell_alloc_keep _ l0)
          have t1 := cell_of_ans hb3 (cell_alloc_keep _ l1)
          have t2 := cell_of_ans hb3 (cell_alloc_keep _ hcell)
          have HB3 : Hid (Below wr.heap.size wr w3) := ((Below.refl _ _).drew.alloc (Nat.le_refl _) _).trans (hb3.mono (by simp))
          clear hb3
          try go_simp
          refine hK.out _ _ (fun _ => ⟨t0, t1, t2⟩) (fun _ => ?_)
          clear hK K
          try simp only [Act.put, List.setIfInBounds_toArray, List.set_cons_zero, List.set_cons_succ]
          refine T_done (by kernel_rfl) ?_ _
          refine NoPanic.normal ?_
          clear hS
          cases hfx : fitF ws offl f x
          · have HFN : Hid ((framesL.take (k + 1)).filter (fitF ws offl f) = (framesL.take k).filter (fitF ws offl f)) := by show _ = _; rw [HFS.out, hfx]; simp
            clear hfx
            go_wp2_with fail
            go_roundw
            case rel => exact ⟨k + 1, vs, by omega, by go_num, by rw [HFN.out]; exact HGk.out.kept HB3.out hzk, HBk.out.trans (HB3.out.mono hzk)⟩
            case measure => simp [intOf]; omega
          · have HFN : Hid ((framesL.take (k + 1)).filter (fitF ws offl f) = (framesL.take k).filter (fitF ws offl f) ++ [x]) := by show _ = _; rw [HFS.out, hfx]; simp
            have HOwn : Hid (w3.ownsRow W2.heap.size 25 1 (.slice Av nn cv) nn vs) := by
              have h5 := (HGk.out.kept HB3.out hzk).1.1
              rw [hN] at h5
              exact h5
            have hz3 : W2.heap.size ≤ w3.heap.size := Nat.le_trans hzk HB3.out.size
            have hnn : nn ≤ 1000000 := by rw [← hN]; exact HNL.out
            clear hfx
            go_wp2_with (at_builtin; refine wpList_row (.tmp 29) (.tmp 34) rfl rfl W2.heap.size w3 (.slice Av nn cv) nn vs (.slice A' x.length c') rfl rfl HOwn.out (by intro y hy; simp at hy; subst hy; rfl) hnn hz3 ?_; intro v' w4 HA)
            obtain ⟨A5, c5, rfl⟩ := ownsRow_form HA.out.own
            go_wp2_with fail
            go_roundw
            case rel =>
              subst hN
              have hgk := HGk.out
              obtain ⟨r1, r2⟩ := GwsF.push hgk (Nat.le_refl _) hzk HB3.out (u := .slice A' x.length c') (x := x) ⟨A', c', rfl, hc1', hc2', HI0.out.below (HB3.out.mono hzk)⟩ HUO.out HA.out
              exact ⟨k + 1, _, by omega, by go_num, by rw [HFN.out]; exact r1, HBk.out.trans r2⟩
            case measure => simp [intOf]; omega
        · obtain rfl : k = framesL.length := by omega
          have h1i : ¬ (framesL.length : Int) < (framesL.length : Int) := by omega
          rw [List.take_length] at hG
          rw [List.take_length] at hv
          have HGR : Hid (gamesR ws offl f = framesL.filter (fitF ws offl f)) := rfl
          have hG2 := hG
          rw [hv] at hG2
          generalize hN : (framesL.filter (fitF ws offl f)).length = nn at hv
          subst hv
          go_wp2_with fail
          go_ret
          obtain ⟨r1, r2, r3⟩ := hG2.grd HBS.out.size hzk
          refine ⟨Av, cv, by rw [HGR.out, hN]; rfl, ?_, ?_, HBS.out.trans (HBk.out.mono HBS.out.size)⟩
          · rw [HGR.out]; exact ⟨r1, r2⟩
          · rw [HGR.out]; exact r3
    · try go_simp
      have q0 := s0
      have HRq := HR
      have hb : Below (v1).heap.size (v1) ((v1).alloc (.cells #[.int .i64 0, .slice none 0 0] 24)) := (Below.refl _ _).alloc (Nat.le_refl _) _
      replace s0 := cell_of_ans hb s0
      replace s1 := cell_of_ans hb s1
      replace HR := Lib.hid (HR.out.kept hb)
      replace HB := Lib.hid (HB.out.trans (hb.mono HB.out.size))
      have HZ : Hid (((v1).alloc (.cells #[.int .i64 0, .slice none 0 0] 24)).heap[(v1).heap.size]? = some (.cells #[.int .i64 0, .slice none 0 0] 24 (0, 0))) := World.alloc_heap_new (v1) _
      have HZl : (v1).heap.size < ((v1).alloc (.cells #[.int .i64 0, .slice none 0 0] 24)).heap.size := by simp
      have HGw : w.heap.size < (v1).heap.size := World.block_lt_of_cell? (v1) _ q0
      have HNR := Lib.hid (HRq.out.ne_ge (Nat.le_refl _))
      clear hb
      try go_simp
      refine hK.out _ _ (fun _ => ⟨s0, s1⟩) (fun hS => ?_)
      replace hS := hS (by decide)
      clear hK K
      try simp only [Act.put, List.setIfInBounds_toArray, List.set_cons_zero, List.set_cons_succ]
      refine T_ready (rs := [3]) (by kernel_rfl) (by simp) ?_
      refine TReady.cons rfl (fun K hK => ?_) TReady.nil
      try go_simp
      have HZl0 := HZl
      refine (only_c A ws c frn f _ ((HW.out.below HB.out).more HB.out.size) hc hl).mono ?_
      rintro e v3 ⟨A2, c2, rfl, hO, hb⟩
      replace s0 := cell_of_ans hb s0
      replace s1 := cell_of_ans hb s1
      replace HR := Lib.hid (HR.out.kept hb)
      replace HZ := Lib.hid ((hb.block _ HZl).trans HZ.out)
      replace HZl := Nat.lt_of_lt_of_le HZl hb.size
      replace HB := Lib.hid (HB.out.trans (hb.mono HB.out.size))
      have HO : Hid (OwnW 56 0 v3 (.slice A2 (onlyL ws f).length c2) (onlyL ws f)) := ownsRow_base hO (Nat.zero_le _)
      have HNO := Lib.hid (own_ne_lt hO HZl0)
      clear hO hb
      try go_simp
      refine hK.out _ _ (fun _ => ⟨s0, s1⟩) (fun hS => ?_)
      replace hS := hS (by decide)
      clear hK K
      try simp only [Act.put, List.setIfInBounds_toArray, List.set_cons_zero, List.set_cons_succ]
      refine' T_take (i := 5) (v := _) rfl (by kernel_rfl) (by kernel_rfl) (by kernel_rfl) (by kernel_rfl) (fun _ _ _ h => h) (by rfl) hS ?_ ?_
      rotate_left 1
      · intro Wv hW
        go_simp
        first | done | with_reducible rfl
      try simp only [Act.put, List.setIfInBounds_toArray, List.set_cons_zero, List.set_cons_succ]
      generalize (v1).heap.size = gz at *
      obtain ⟨WF, rfl⟩ : ∃ W : World, W = v3 := ⟨_, rfl⟩
      have z0 : WF.cell? ⟨gz, 0, none⟩ = some (.int .i64 0) := by simp [World.cell?, HZ.out]
      have z1 : WF.cell? ⟨gz, 1, none⟩ = some (.slice none 0 0) := by simp [World.cell?, HZ.out]
      have z2 : WF.frozen? ⟨gz, 0, none⟩ = false := by simp [World.frozen?, HZ.out]
      have z3 : WF.frozen? ⟨gz, 1, none⟩ = false := by simp [World.frozen?, HZ.out]
      refine T_ready (rs := [6]) (by kernel_rfl) (by simp) ?_
      refine TReady.cons rfl (fun K hK => ?_) TReady.nil
      try go_simp
      have hne1 : (⟨gz, 0, none⟩ : Addr).block ≠ w.heap.size := by dsimp only; omega
      have hne2 : (⟨gz, 1, none⟩ : Addr).block ≠ w.heap.size := by dsimp only; omega
      refine hK.out _ _ (fun _ => ⟨cell_set_keep (cell_set_keep s0 hne1) hne2, cell_set_keep (cell_set_keep s1 hne1) hne2⟩) (fun hS => ?_)
      clear hS
      clear hK K
      try simp only [Act.put, List.setIfInBounds_toArray, List.set_cons_zero, List.set_cons_succ]
      refine T_done (by kernel_rfl) ?_ _
      refine NoPanic.normal ?_
      have hS2 : WF.grownBy ((WF.setCell ⟨gz, 0, none⟩ (.int .i64 1)).setCell ⟨gz, 1, none⟩ (.slice A2 (onlyL ws f).length c2)) (some gz) := sets2 _ _ _ _
      have HLB : Hid (LB ((WF.setCell ⟨gz, 0, none⟩ (.int .i64 1)).setCell ⟨gz, 1, none⟩ (.slice A2 (onlyL ws f).length c2)) gz 1 (.slice A2 (onlyL ws f).length c2) 24) := by
        show LB _ _ _ _ _
        unfold LB
        simp [World.setCell, Array.getElem?_modify, HZ.out]
      have hR2 := HR.out.keptBy hS2 (.inr HNR.out.1) fun u hu => .inr (HNR.out.2 u hu)
      obtain ⟨g1, g2, g3⟩ := grdF_of (Rws.grdF hR2)
      have HG := Lib.hid g3
      have hO2 : OwnW 56 0 ((WF.setCell ⟨gz, 0, none⟩ (.int .i64 1)).setCell ⟨gz, 1, none⟩ (.slice A2 (onlyL ws f).length c2)) (.slice A2 (onlyL ws f).length c2) (onlyL ws f) := World.ownsRow.kept HO.out hS2 (.inr HNO.out)
      obtain ⟨o1, o2, o3⟩ := hO2.wds
      have HOW := Lib.hid o3
      have HBS : Hid (Below w.heap.size w ((WF.setCell ⟨gz, 0, none⟩ (.int .i64 1)).setCell ⟨gz, 1, none⟩ (.slice A2 (onlyL ws f).length c2))) := (HB.out.setCell (by dsimp only; omega) _).setCell (by dsimp only; omega) _
      clear hS2 hR2 g3 hO2 o3 HR HO HNR HNO HZ z0 z1 z2 z3 s0 s1 HB
      generalize (WF.setCell ⟨gz, 0, none⟩ (.int .i64 1)).setCell ⟨gz, 1, none⟩ (.slice A2 (onlyL ws f).length c2) = W2 at *
      go_wp2_with fail
      go_loopw [10, 9] (fun i v wr => ∃ (k : Nat) (vs : List Value), k ≤ framesL.length ∧ i = .int .i64 k ∧ GwsF w.heap.size W2.heap.size W2.heap.size wr v vs ((framesL.take k).filter (fitF ws offl f)) ∧ Below W2.heap.size W2 wr) (fun i _ _ => framesL.length - (intOf i).toNat)
      case atStart => exact ⟨0, [], by omega, rfl, GwsF.nil _ _ _ _, Below.refl _ _⟩
      case round =>
        obtain ⟨k, vs, hk, rfl, hG, hb⟩ := hrel
        have HGk := Lib.hid hG
        have HBk := Lib.hid hb
        have hzk := hb.size
        obtain ⟨Av, cv, hv⟩ := ownsRow_form hG.1.1
        by_cases h1 : k < framesL.length
        · obtain ⟨b1, q1, A', c', hA1, hb1, hcell, hc1', hc2', hI, hUO⟩ := (HG.out.below hb).at_ h1
          subst hA1
          have h1i : (k : Int) < (framesL.length : Int) := by omega
          obtain ⟨l0, l1, -⟩ := (HLB.out.below hb).cells
          have HV : Hid (∀ j, j < (rx framesL k).length → 0 ≤ ix (rx framesL k) j ∧ ix (rx framesL k) j ≤ 10) := fun j hj => framesL_v h1 hj
          have HFS := Lib.hid (filter_take_succ (p := fitF ws offl f) h1)
          have HRX := Lib.hid (rx_lt h1)
          have HNL : Hid (((framesL.take k).filter (fitF ws offl f)).length ≤ 1000000) := by
            show _ ≤ _
            have h3 := List.length_filter_le (fitF ws offl f) (framesL.take k)
            rw [List.length_take] at h3
            have h4 := framesL_len
            omega
          have HFE : Hid (fitF ws offl f (rx framesL k) = fitG (onlyL ws f) offl [rx framesL k]) := rfl
          have HI := Lib.hid (hI.more hzk)
          have HUO := Lib.hid hUO
          have HI0 := Lib.hid hI
          rw [← HRX.out] at HFS
          generalize rx framesL k = x at *
          generalize hN : ((framesL.take k).filter (fitF ws offl f)).length = nn at hv
          subst hv
          have HFC : Hid (∀ Wc, Wc = wr.drew.alloc (.cells #[.slice A' x.length c'] 25) → Calls Try.prog 45 #[.agg #[.int .i64 1, .slice A2 (onlyL ws f).length c2], .slice At offl.length ct, .slice (some ⟨wr.heap.size, 0, none⟩) 1 1] Wc (Ans Wc (.bool (fitF ws offl f x)))) := fun Wc hWc => by
            rw [HFE.out]
            have hbd : Below wr.heap.size wr Wc := by rw [hWc]; exact (Below.refl _ _).drew.alloc (Nat.le_refl _) _
            have hbw : Below W2.heap.size W2 Wc := HBk.out.trans (hbd.mono hzk)
            refine fits45_c A2 At (some ⟨wr.heap.size, 0, none⟩) (onlyL ws f) offl [x] c2 ct 1 1 Wc (HOW.out.step hbw) ((HT.out.below (HBS.out.trans (hbw.mono HBS.out.size))).more (by have := HBS.out.size; have := hbw.size; omega)) ?_ ⟨o1, o2⟩ hct ⟨by simp, by simp⟩ (fun j hj => by have := HWD.out j hj; simp; omega) (fun f' hf' j hj => ?_)
            · refine fun _ => ⟨wr.heap.size, 0, rfl, by rw [hWc]; simp, fun j hj => ?_⟩
              obtain rfl : j = 0 := by simpa using hj
              refine ⟨.slice A' x.length c', by rw [hWc]; exact cell_new1 wr.drew _ _, ⟨A', c', rfl, hc1', hc2', (HI.out.below hbd).more (by have := hbd.size; omega)⟩⟩
            · obtain rfl : f' = 0 := by simpa using hf'
              exact HV.out j hj
          clear hG hb hI hUO
          go_wp2_with fail
          refine wp_region_noPanic ?_
          have hS : (fun w' : World => w'.cell? ⟨gz, 0, none⟩ = some (.int .i64 1) ∧ w'.cell? ⟨gz, 1, none⟩ = some (.slice A2 (onlyL ws f).length c2) ∧ w'.cell? ⟨b1, q1 + k, none⟩ = some (.slice A' x.length c')) wr.drew := ⟨l0, l1, hcell⟩
          refine wp_region_any (by kernel_rfl) (wpAny_of_T (S := fun w' : World => w'.cell? ⟨gz, 0, none⟩ = some (.int .i64 1) ∧ w'.cell? ⟨gz, 1, none⟩ = some (.slice A2 (onlyL ws f).length c2) ∧ w'.cell? ⟨b1, q1 + k, none⟩ = some (.slice A' x.length c')) (m := 8) _ _ _ _ ?_)
          refine' T_take (i := 0) (v := _) rfl (by kernel_rfl) (by kernel_rfl) (by kernel_rfl) (by kernel_rfl) (fun _ _ _ h => h) (by rfl) hS ?_ ?_
          rotate_left 1
          · intro Wv hW
            obtain ⟨s0, s1, s2⟩ := hW
            go_simp
            first | done | with_reducible rfl
          try simp only [Act.put, List.setIfInBounds_toArray, List.set_cons_zero, List.set_cons_succ]
          refine' T_take (i := 1) (v := _) rfl (by kernel_rfl) (by kernel_rfl) (by kernel_rfl) (by kernel_rfl) (fun _ _ _ h => h) (by rfl) hS ?_ ?_
          rotate_left 1
          · intro Wv hW
            obtain ⟨s0, s1, s2⟩ := hW
            go_simp
            first | done | with_reducible rfl
          try simp only [Act.put, List.setIfInBounds_toArray, List.set_cons_zero, List.set_cons_succ]
          refine' T_take (i := 2) (v := _) rfl (by kernel_rfl) (by kernel_rfl) (by kernel_rfl) (by kernel_rfl) (fun _ _ _ h => h) (by rfl) hS ?_ ?_
          rotate_left 1
          · intro Wv hW
            obtain ⟨s0, s1, s2⟩ := hW
            go_simp
            first | done | with_reducible rfl
          try simp only [Act.put, List.setIfInBounds_toArray, List.set_cons_zero, List.set_cons_succ]
          refine' T_take (i := 3) (v := _) rfl (by kernel_rfl) (by kernel_rfl) (by kernel_rfl) (by kernel_rfl) (fun _ _ _ h => h) (by rfl) hS ?_ ?_
          rotate_left 1
          · intro Wv hW
            obtain ⟨s0, s1, s2⟩ := hW
            go_simp
            first | done | with_reducible rfl
          try simp only [Act.put, List.setIfInBounds_toArray, List.set_cons_zero, List.set_cons_succ]
          refine' T_take (i := 4) (v := _) rfl (by kernel_rfl) (by kernel_rfl) (by kernel_rfl) (by kernel_rfl) (fun _ _ _ h => h) (by rfl) hS ?_ ?_
          rotate_left 1
          · intro Wv hW
            obtain ⟨s0, s1, s2⟩ := hW
            go_simp
            first | done | with_reducible rfl
          try simp only [Act.put, List.setIfInBounds_toArray, List.set_cons_zero, List.set_cons_succ]
          refine' T_take (i := 5) (v := _) rfl (by kernel_rfl) (by kernel_rfl) (by kernel_rfl) (by kernel_rfl) (fun _ _ _ h => h) (by rfl) hS ?_ ?_
          rotate_left 1
          · intro Wv hW
            obtain ⟨s0, s1, s2⟩ := hW
            go_simp
            first | done | with_reducible rfl
          try simp only [Act.put, List.setIfInBounds_toArray, List.set_cons_zero, List.set_cons_succ]
          refine T_ready (rs := [6]) (by kernel_rfl) (by simp) ?_
          refine TReady.cons rfl (fun K hK => ?_) TReady.nil
          try go_simp
          refine hK.out _ _ (fun _ => ⟨cell_alloc_keep _ l0, cell_alloc_keep _ l1, cell_alloc_keep _ hcell⟩) (fun hS => ?_)
          replace hS := hS (by decide)
          clear hK K
          try simp only [Act.put, List.setIfInBounds_toArray, List.set_cons_zero, List.set_cons_succ]
          refine T_ready (rs := [7]) (by kernel_rfl) (by simp) ?_
          refine TReady.cons rfl (fun K hK => ?_) TReady.nil
          try go_simp
          refine (HFC.out _ rfl).mono ?_
          rintro e w3 ⟨rfl, hb3⟩
          have t0 := cell_of_ans hb3 (cell_alloc_keep _ l0)
          have t1 := cell_of_ans hb3 (cell_alloc_keep _ l1)
          have t2 := cell_of_ans hb3 (cell_alloc_keep _ hcell)
          have HB3 : Hid (Below wr.heap.size wr w3) := ((Below.refl _ _).drew.alloc (Nat.le_refl _) _).trans (hb3.mono (by simp))
          clear hb3
          try go_simp
          refine hK.out _ _ (fun _ => ⟨t0, t1, t2⟩) (fun _ => ?_)
          clear hK K
          try simp only [Act.put, List.setIfInBounds_toArray, List.set_cons_zero, List.set_cons_succ]
          refine T_done (by kernel_rfl) ?_ _
          refine NoPanic.normal ?_
          clear hS
          cases hfx : fitF ws offl f x
          · have HFN : Hid ((framesL.take (k + 1)).filter (fitF ws offl f) = (framesL.take k).filter (fitF ws offl f)) := by show _ = _; rw [HFS.out, hfx]; simp
            clear hfx
            go_wp2_with fail
            go_roundw
            case rel => exact ⟨k + 1, vs, by omega, by go_num, by rw [HFN.out]; exact HGk.out.kept HB3.out hzk, HBk.out.trans (HB3.out.mono hzk)⟩
            case measure => simp [intOf]; omega
          · have HFN : Hid ((framesL.take (k + 1)).filter (fitF ws offl f) = (framesL.take k).filter (fitF ws offl f) ++ [x]) := by show _ = _; rw [HFS.out, hfx]; simp
            have HOwn : Hid (w3.ownsRow W2.heap.size 25 1 (.slice Av nn cv) nn vs) := by
              have h5 := (HGk.out.kept HB3.out hzk).1.1
              rw [hN] at h5
              exact h5
            have hz3 : W2.heap.size ≤ w3.heap.size := Nat.le_trans hzk HB3.out.size
            have hnn : nn ≤ 1000000 := by rw [← hN]; exact HNL.out
            clear hfx
            go_wp2_with (at_builtin; refine wpList_row (.tmp 29) (.tmp 34) rfl rfl W2.heap.size w3 (.slice Av nn cv) nn vs (.slice A' x.length c') rfl rfl HOwn.out (by intro y hy; simp at hy; subst hy; rfl) hnn hz3 ?_; intro v' w4 HA)
            obtain ⟨A5, c5, rfl⟩ := ownsRow_form HA.out.own
            go_wp2_with fail
            go_roundw
            case rel =>
              subst hN
              have hgk := HGk.out
              obtain ⟨r1, r2⟩ := GwsF.push hgk (Nat.le_refl _) hzk HB3.out (u := .slice A' x.length c') (x := x) ⟨A', c', rfl, hc1', hc2', HI0.out.below (HB3.out.mono hzk)⟩ HUO.out HA.out
              exact ⟨k + 1, _, by omega, by go_num, by rw [HFN.out]; exact r1, HBk.out.trans r2⟩
            case measure => simp [intOf]; omega
        · obtain rfl : k = framesL.length := by omega
          have h1i : ¬ (framesL.length : Int) < (framesL.length : Int) := by omega
          rw [List.take_length] at hG
          rw [List.take_length] at hv
          have HGR : Hid (gamesR ws offl f = framesL.filter (fitF ws offl f)) := rfl
          have hG2 := hG
          rw [hv] at hG2
          generalize hN : (framesL.filter (fitF ws offl f)).length = nn at hv
          subst hv
          go_wp2_with fail
          go_ret
          obtain ⟨r1, r2, r3⟩ := hG2.grd HBS.out.size hzk
          refine ⟨Av, cv, by rw [HGR.out, hN]; rfl, ?_, ?_, HBS.out.trans (HBk.out.mono HBS.out.size)⟩
          · rw [HGR.out]; exact ⟨r1, r2⟩
          · rw [HGR.out]; exact r3
  · try go_simp
    have q0 := s0
    have hb : Below (W0.drew).heap.size (W0.drew) ((W0.drew).alloc (.cells #[.int .i64 0, .slice none 0 0] 24)) := (Below.refl _ _).alloc (Nat.le_refl _) _
    replace s0 := cell_of_ans hb s0
    replace s1 := cell_of_ans hb s1
    replace HB := Lib.hid (HB.out.trans (hb.mono HB.out.size))
    have HZ : Hid (((W0.drew).alloc (.cells #[.int .i64 0, .slice none 0 0] 24)).heap[W0.heap.size]? = some (.cells #[.int .i64 0, .slice none 0 0] 24 (0, 0))) := World.alloc_heap_new (W0.drew) _
    have HZl : W0.heap.size < ((W0.drew).alloc (.cells #[.int .i64 0, .slice none 0 0] 24)).heap.size := by simp
    have HGw : w.heap.size < W0.heap.size := World.block_lt_of_cell? (W0.drew) _ q0
    clear hb
    try go_simp
    refine hK.out _ _ (fun _ => ⟨s0, s1⟩) (fun hS => ?_)
    replace hS := hS (by decide)
    clear hK K
    try simp only [Act.put, List.setIfInBounds_toArray, List.set_cons_zero, List.set_cons_succ]
    refine T_ready (rs := [0]) (by kernel_rfl) (by simp) ?_
    refine TReady.cons rfl (fun K hK => ?_) TReady.nil
    try go_simp
    have HZl0 := HZl
    refine (frames_c _).mono ?_
    rintro e v2 ⟨A1, c1, vs1, rfl, hR, hb⟩
    have hRL := HB.out.size
    replace s0 := cell_of_ans hb s0
    replace s1 := cell_of_ans hb s1
    replace HZ := Lib.hid ((hb.block _ HZl).trans HZ.out)
    replace HZl := Nat.lt_of_lt_of_le HZl hb.size
    replace HB := Lib.hid (HB.out.trans (hb.mono HB.out.size))
    have HR := Lib.hid (hR.lower hRL)
    have HNR := Lib.hid (hR.ne_lt HZl0)
    clear hR hb hRL
    try go_simp
    refine hK.out _ _ (fun _ => ⟨s0, s1⟩) (fun hS => ?_)
    replace hS := hS (by decide)
    clear hK K
    try simp only [Act.put, List.setIfInBounds_toArray, List.set_cons_zero, List.set_cons_succ]
    refine T_ready (rs := [3]) (by kernel_rfl) (by simp) ?_
    refine TReady.cons rfl (fun K hK => ?_) TReady.nil
    try go_simp
    have HZl0 := HZl
    refine (only_c A ws c frn f _ ((HW.out.below HB.out).more HB.out.size) hc hl).mono ?_
    rintro e v3 ⟨A2, c2, rfl, hO, hb⟩
    replace s0 := cell_of_ans hb s0
    replace s1 := cell_of_ans hb s1
    replace HZ := Lib.hid ((hb.block _ HZl).trans HZ.out)
    replace HZl := Nat.lt_of_lt_of_le HZl hb.size
    replace HR := Lib.hid (HR.out.kept hb)
    replace HB := Lib.hid (HB.out.trans (hb.mono HB.out.size))
    have HO : Hid (OwnW 56 0 v3 (.slice A2 (onlyL ws f).length c2) (onlyL ws f)) := ownsRow_base hO (Nat.zero_le _)
    have HNO := Lib.hid (own_ne_lt hO HZl0)
    clear hO hb
    try go_simp
    refine hK.out _ _ (fun _ => ⟨s0, s1⟩) (fun hS => ?_)
    replace hS := hS (by decide)
    clear hK K
    try simp only [Act.put, List.setIfInBounds_toArray, List.set_cons_zero, List.set_cons_succ]
    refine' T_take (i := 5) (v := _) rfl (by kernel_rfl) (by kernel_rfl) (by kernel_rfl) (by kernel_rfl) (fun _ _ _ h => h) (by rfl) hS ?_ ?_
    rotate_left 1
    · intro Wv hW
      go_simp
      first | done | with_reducible rfl
    try simp only [Act.put, List.setIfInBounds_toArray, List.set_cons_zero, List.set_cons_succ]
    generalize W0.heap.size = gz at *
    obtain ⟨WF, rfl⟩ : ∃ W : World, W = v3 := ⟨_, rfl⟩
    have z0 : WF.cell? ⟨gz, 0, none⟩ = some (.int .i64 0) := by simp [World.cell?, HZ.out]
    have z1 : WF.cell? ⟨gz, 1, none⟩ = some (.slice none 0 0) := by simp [World.cell?, HZ.out]
    have z2 : WF.frozen? ⟨gz, 0, none⟩ = false := by simp [World.frozen?, HZ.out]
    have z3 : WF.frozen? ⟨gz, 1, none⟩ = false := by simp [World.frozen?, HZ.out]
    refine T_ready (rs := [6]) (by kernel_rfl) (by simp) ?_
    refine TReady.cons rfl (fun K hK => ?_) TReady.nil
    try go_simp
    have hne1 : (⟨gz, 0, none⟩ : Addr).block ≠ w.heap.size := by dsimp only; omega
    have hne2 : (⟨gz, 1, none⟩ : Addr).block ≠ w.heap.size := by dsimp only; omega
    refine hK.out _ _ (fun _ => ⟨cell_set_keep (cell_set_keep s0 hne1) hne2, cell_set_keep (cell_set_keep s1 hne1) hne2⟩) (fun hS => ?_)
    clear hS
    clear hK K
    try simp only [Act.put, List.setIfInBounds_toArray, List.set_cons_zero, List.set_cons_succ]
    refine T_done (by kernel_rfl) ?_ _
    refine NoPanic.normal ?_
    have hS2 : WF.grownBy ((WF.setCell ⟨gz, 0, none⟩ (.int .i64 1)).setCell ⟨gz, 1, none⟩ (.slice A2 (onlyL ws f).length c2)) (some gz) := sets2 _ _ _ _
    have HLB : Hid (LB ((WF.setCell ⟨gz, 0, none⟩ (.int .i64 1)).setCell ⟨gz, 1, none⟩ (.slice A2 (onlyL ws f).length c2)) gz 1 (.slice A2 (onlyL ws f).length c2) 24) := by
      show LB _ _ _ _ _
      unfold LB
      simp [World.setCell, Array.getElem?_modify, HZ.out]
    have hR2 := HR.out.keptBy hS2 (.inr HNR.out.1) fun u hu => .inr (HNR.out.2 u hu)
    obtain ⟨g1, g2, g3⟩ := grdF_of (Rws.grdF hR2)
    have HG := Lib.hid g3
    have hO2 : OwnW 56 0 ((WF.setCell ⟨gz, 0, none⟩ (.int .i64 1)).setCell ⟨gz, 1, none⟩ (.slice A2 (onlyL ws f).length c2)) (.slice A2 (onlyL ws f).length c2) (onlyL ws f) := World.ownsRow.kept HO.out hS2 (.inr HNO.out)
    obtain ⟨o1, o2, o3⟩ := hO2.wds
    have HOW := Lib.hid o3
    have HBS : Hid (Below w.heap.size w ((WF.setCell ⟨gz, 0, none⟩ (.int .i64 1)).setCell ⟨gz, 1, none⟩ (.slice A2 (onlyL ws f).length c2))) := (HB.out.setCell (by dsimp only; omega) _).setCell (by dsimp only; omega) _
    clear hS2 hR2 g3 hO2 o3 HR HO HNR HNO HZ z0 z1 z2 z3 s0 s1 HB
    generalize (WF.setCell ⟨gz, 0, none⟩ (.int .i64 1)).setCell ⟨gz, 1, none⟩ (.slice A2 (onlyL ws f).length c2) = W2 at *
    go_wp2_with fail
    go_loopw [10, 9] (fun i v wr => ∃ (k : Nat) (vs : List Value), k ≤ framesL.length ∧ i = .int .i64 k ∧ GwsF w.heap.size W2.heap.size W2.heap.size wr v vs ((framesL.take k).filter (fitF ws offl f)) ∧ Below W2.heap.size W2 wr) (fun i _ _ => framesL.length - (intOf i).toNat)
    case atStart => exact ⟨0, [], by omega, rfl, GwsF.nil _ _ _ _, Below.refl _ _⟩
    case round =>
      obtain ⟨k, vs, hk, rfl, hG, hb⟩ := hrel
      have HGk := Lib.hid hG
      have HBk := Lib.hid hb
      have hzk := hb.size
      obtain ⟨Av, cv, hv⟩ := ownsRow_form hG.1.1
      by_cases h1 : k < framesL.length
      · obtain ⟨b1, q1, A', c', hA1, hb1, hcell, hc1', hc2', hI, hUO⟩ := (HG.out.below hb).at_ h1
        subst hA1
        have h1i : (k : Int) < (framesL.length : Int) := by omega
        obtain ⟨l0, l1, -⟩ := (HLB.out.below hb).cells
        have HV : Hid (∀ j, j < (rx framesL k).length → 0 ≤ ix (rx framesL k) j ∧ ix (rx framesL k) j ≤ 10) := fun j hj => framesL_v h1 hj
        have HFS := Lib.hid (filter_take_succ (p := fitF ws offl f) h1)
        have HRX := Lib.hid (rx_lt h1)
        have HNL : Hid (((framesL.take k).filter (fitF ws offl f)).length ≤ 1000000) := by
          show _ ≤ _
          have h3 := List.length_filter_le (fitF ws offl f) (framesL.take k)
          rw [List.length_take] at h3
          have h4 := framesL_len
          omega
        have HFE : Hid (fitF ws offl f (rx framesL k) = fitG (onlyL ws f) offl [rx framesL k]) := rfl
        have HI := Lib.hid (hI.more hzk)
        have HUO := Lib.hid hUO
        have HI0 := Lib.hid hI
        rw [← HRX.out] at HFS
        generalize rx framesL k = x at *
        generalize hN : ((framesL.take k).filter (fitF ws offl f)).length = nn at hv
        subst hv
        have HFC : Hid (∀ Wc, Wc = wr.drew.alloc (.cells #[.slice A' x.length c'] 25) → Calls Try.prog 45 #[.agg #[.int .i64 1, .slice A2 (onlyL ws f).length c2], .slice At offl.length ct, .slice (some ⟨wr.heap.size, 0, none⟩) 1 1] Wc (Ans Wc (.bool (fitF ws offl f x)))) := fun Wc hWc => by
          rw [HFE.out]
          have hbd : Below wr.heap.size wr Wc := by rw [hWc]; exact (Below.refl _ _).drew.alloc (Nat.le_refl _) _
          have hbw : Below W2.heap.size W2 Wc := HBk.out.trans (hbd.mono hzk)
          refine fits45_c A2 At (some ⟨wr.heap.size, 0, none⟩) (onlyL ws f) offl [x] c2 ct 1 1 Wc (HOW.out.step hbw) ((HT.out.below (HBS.out.trans (hbw.mono HBS.out.size))).more (by have := HBS.out.size; have := hbw.size; omega)) ?_ ⟨o1, o2⟩ hct ⟨by simp, by simp⟩ (fun j hj => by have := HWD.out j hj; simp; omega) (fun f' hf' j hj => ?_)
          · refine fun _ => ⟨wr.heap.size, 0, rfl, by rw [hWc]; simp, fun j hj => ?_⟩
            obtain rfl : j = 0 := by simpa using hj
            refine ⟨.slice A' x.length c', by rw [hWc]; exact cell_new1 wr.drew _ _, ⟨A', c', rfl, hc1', hc2', (HI.out.below hbd).more (by have := hbd.size; omega)⟩⟩
          · obtain rfl : f' = 0 := by simpa using hf'
            exact HV.out j hj
        clear hG hb hI hUO
        go_wp2_with fail
        refine wp_region_noPanic ?_
        have hS : (fun w' : World => w'.cell? ⟨gz, 0, none⟩ = some (.int .i64 1) ∧ w'.cell? ⟨gz, 1, none⟩ = some (.slice A2 (onlyL ws f).length c2) ∧ w'.cell? ⟨b1, q1 + k, none⟩ = some (.slice A' x.length c')) wr.drew := ⟨l0, l1, hcell⟩
        refine wp_region_any (by kernel_rfl) (wpAny_of_T (S := fun w' : World => w'.cell? ⟨gz, 0, none⟩ = some (.int .i64 1) ∧ w'.cell? ⟨gz, 1, none⟩ = some (.slice A2 (onlyL ws f).length c2) ∧ w'.cell? ⟨b1, q1 + k, none⟩ = some (.slice A' x.length c')) (m := 8) _ _ _ _ ?_)
        refine' T_take (i := 0) (v := _) rfl (by kernel_rfl) (by kernel_rfl) (by kernel_rfl) (by kernel_rfl) (fun _ _ _ h => h) (by rfl) hS ?_ ?_
        rotate_left 1
        · intro Wv hW
          obtain ⟨s0, s1, s2⟩ := hW
          go_simp
          first | done | with_reducible rfl
        try simp only [Act.put, List.setIfInBounds_toArray, List.set_cons_zero, List.set_cons_succ]
        refine' T_take (i := 1) (v := _) rfl (by kernel_rfl) (by kernel_rfl) (by kernel_rfl) (by kernel_rfl) (fun _ _ _ h => h) (by rfl) hS ?_ ?_
        rotate_left 1
        · intro Wv hW
          obtain ⟨s0, s1, s2⟩ := hW
          go_simp
          first | done | with_reducible rfl
        try simp only [Act.put, List.setIfInBounds_toArray, List.set_cons_zero, List.set_cons_succ]
        refine' T_take (i := 2) (v := _) rfl (by kernel_rfl) (by kernel_rfl) (by kernel_rfl) (by kernel_rfl) (fun _ _ _ h => h) (by rfl) hS ?_ ?_
        rotate_left 1
        · intro Wv hW
          obtain ⟨s0, s1, s2⟩ := hW
          go_simp
          first | done | with_reducible rfl
        try simp only [Act.put, List.setIfInBounds_toArray, List.set_cons_zero, List.set_cons_succ]
        refine' T_take (i := 3) (v := _) rfl (by kernel_rfl) (by kernel_rfl) (by kernel_rfl) (by kernel_rfl) (fun _ _ _ h => h) (by rfl) hS ?_ ?_
        rotate_left 1
        · intro Wv hW
          obtain ⟨s0, s1, s2⟩ := hW
          go_simp
          first | done | with_reducible rfl
        try simp only [Act.put, List.setIfInBounds_toArray, List.set_cons_zero, List.set_cons_succ]
        refine' T_take (i := 4) (v := _) rfl (by kernel_rfl) (by kernel_rfl) (by kernel_rfl) (by kernel_rfl) (fun _ _ _ h => h) (by rfl) hS ?_ ?_
        rotate_left 1
        · intro Wv hW
          obtain ⟨s0, s1, s2⟩ := hW
          go_simp
          first | done | with_reducible rfl
        try simp only [Act.put, List.setIfInBounds_toArray, List.set_cons_zero, List.set_cons_succ]
        refine' T_take (i := 5) (v := _) rfl (by kernel_rfl) (by kernel_rfl) (by kernel_rfl) (by kernel_rfl) (fun _ _ _ h => h) (by rfl) hS ?_ ?_
        rotate_left 1
        · intro Wv hW
          obtain ⟨s0, s1, s2⟩ := hW
          go_simp
          first | done | with_reducible rfl
        try simp only [Act.put, List.setIfInBounds_toArray, List.set_cons_zero, List.set_cons_succ]
        refine T_ready (rs := [6]) (by kernel_rfl) (by simp) ?_
        refine TReady.cons rfl (fun K hK => ?_) TReady.nil
        try go_simp
        refine hK.out _ _ (fun _ => ⟨cell_alloc_keep _ l0, cell_alloc_keep _ l1, cell_alloc_keep _ hcell⟩) (fun hS => ?_)
        replace hS := hS (by decide)
        clear hK K
        try simp only [Act.put, List.setIfInBounds_toArray, List.set_cons_zero, List.set_cons_succ]
        refine T_ready (rs := [7]) (by kernel_rfl) (by simp) ?_
        refine TReady.cons rfl (fun K hK => ?_) TReady.nil
        try go_simp
        refine (HFC.out _ rfl).mono ?_
        rintro e w3 ⟨rfl, hb3⟩
        have t0 := cell_of_ans hb3 (cell_alloc_keep _ l0)
        have t1 := cell_of_ans hb3 (cell_alloc_keep _ l1)
        have t2 := cell_of_ans hb3 (cell_alloc_keep _ hcell)
        have HB3 : Hid (Below wr.heap.size wr w3) := ((Below.refl _ _).drew.alloc (Nat.le_refl _) _).trans (hb3.mono (by simp))
        clear hb3
        try go_simp
        refine hK.out _ _ (fun _ => ⟨t0, t1, t2⟩) (fun _ => ?_)
        clear hK K
        try simp only [Act.put, List.setIfInBounds_toArray, List.set_cons_zero, List.set_cons_succ]
        refine T_done (by kernel_rfl) ?_ _
        refine NoPanic.normal ?_
        clear hS
        cases hfx : fitF ws offl f x
        · have HFN : Hid ((framesL.take (k + 1)).filter (fitF ws offl f) = (framesL.take k).filter (fitF ws offl f)) := by show _ = _; rw [HFS.out, hfx]; simp
          clear hfx
          go_wp2_with fail
          go_roundw
          case rel => exact ⟨k + 1, vs, by omega, by go_num, by rw [HFN.out]; exact HGk.out.kept HB3.out hzk, HBk.out.trans (HB3.out.mono hzk)⟩
          case measure => simp [intOf]; omega
        · have HFN : Hid ((framesL.take (k + 1)).filter (fitF ws offl f) = (framesL.take k).filter (fitF ws offl f) ++ [x]) := by show _ = _; rw [HFS.out, hfx]; simp
          have HOwn : Hid (w3.ownsRow W2.heap.size 25 1 (.slice Av nn cv) nn vs) := by
            have h5 := (HGk.out.kept HB3.out hzk).1.1
            rw [hN] at h5
            exact h5
          have hz3 : W2.heap.size ≤ w3.heap.size := Nat.le_trans hzk HB3.out.size
          have hnn : nn ≤ 1000000 := by rw [← hN]; exact HNL.out
          clear hfx
          go_wp2_with (at_builtin; refine wpList_row (.tmp 29) (.tmp 34) rfl rfl W2.heap.size w3 (.slice Av nn cv) nn vs (.slice A' x.length c') rfl rfl HOwn.out (by intro y hy; simp at hy; subst hy; rfl) hnn hz3 ?_; intro v' w4 HA)
          obtain ⟨A5, c5, rfl⟩ := ownsRow_form HA.out.own
          go_wp2_with fail
          go_roundw
          case rel =>
            subst hN
            have hgk := HGk.out
            obtain ⟨r1, r2⟩ := GwsF.push hgk (Nat.le_refl _) hzk HB3.out (u := .slice A' x.length c') (x := x) ⟨A', c', rfl, hc1', hc2', HI0.out.below (HB3.out.mono hzk)⟩ HUO.out HA.out
            exact ⟨k + 1, _, by omega, by go_num, by rw [HFN.out]; exact r1, HBk.out.trans r2⟩
          case measure => simp [intOf]; omega
      · obtain rfl : k = framesL.length := by omega
        have h1i : ¬ (framesL.length : Int) < (framesL.length : Int) := by omega
        rw [List.take_length] at hG
        rw [List.take_length] at hv
        have HGR : Hid (gamesR ws offl f = framesL.filter (fitF ws offl f)) := rfl
        have hG2 := hG
        rw [hv] at hG2
        generalize hN : (framesL.filter (fitF ws offl f)).length = nn at hv
        subst hv
        go_wp2_with fail
        go_ret
        obtain ⟨r1, r2, r3⟩ := hG2.grd HBS.out.size hzk
        refine ⟨Av, cv, by rw [HGR.out, hN]; rfl, ?_, ?_, HBS.out.trans (HBk.out.mono HBS.out.size)⟩
        · rw [HGR.out]; exact ⟨r1, r2⟩
        · rw [HGR.out]; exact r3
end Go.Proofs.Ytadjkinpimmhkaa
