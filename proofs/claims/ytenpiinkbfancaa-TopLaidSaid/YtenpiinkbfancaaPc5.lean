/-
  path: Play.
-/
import Derived.Test.YtenpiinkbfancaaPc4
import Derived.Test.YtenpiinkbfancaaPb6
namespace Go.Proofs.Ytenpiinkbfancaa.Pa
open Go.RowKit
set_option linter.unusedSimpArgs false
set_option linter.unusedVariables false

attribute [local go_sem] Oper.semAt_some
theorem flatK_app (rs : List (List Int)) (r : List Int) : flatK (rs ++ [r]) = flatK rs ++ flatK [r] := by simp [flatK]
theorem OwnK.cut {e k base n c : Nat} {w : World} {A : Option Addr} {rs : List (List Int)} {r : List Int} (h : OwnK e k base w (.slice A (n + 1) c) (rs ++ [r])) (hn : rs.length = n) : OwnK e k base w (.slice A n c) rs := by
  have hl : ∀ x ∈ rs, x.length = k := fun x hx => h.1 x (List.mem_append_left _ hx)
  have hf := flatK_len hl
  refine ⟨hl, hf, ?_⟩
  rcases h.2.2 with ⟨h1, h2⟩ | ⟨g, cap, cur, e1, hg, hw, h3, h4, h5, h6⟩
  · simp at h2
  · have hle : rs.length * k ≤ (rs ++ [r]).length * k := Nat.mul_le_mul_right _ (by simp)
    have h7 := congrArg (List.take (rs.length * k)) h6
    rw [List.take_take, Nat.min_eq_left hle, flatK_app, List.take_left' hf] at h7
    simp only [Value.slice.injEq] at e1
    obtain ⟨rfl, e2, rfl⟩ := e1
    exact .inr ⟨g, c, cur, by rw [hn], hg, hw, by omega, h4, h5, h7⟩
/-- What the program gets. -/
def PlayP (l : Ln) (s : Int × Int) (ws : List Int) (k : Nat) (w : World) (e : Ending) (w' : World) : Prop :=
  ∃ (A : Option Addr) (n c : Nat) (gut : Bool), e = .returned (.tuple #[.slice A n c, .bool gut, .int .i64 0]) ∧ Below w.heap.size w w' ∧ gut = (!onB l (stI l s ws k)) ∧ (gut = false → onB l (stI l s ws k) = true ∧ n = k + 1 ∧ (n ≤ c ∧ c ≤ 9223372036854775807) ∧ Recs 2 w'.heap.size w' A (overL l s ws (k + 1)))
/-- How the list, the gutter and the state stand ahead of turn j. -/
def PlR (l : Ln) (s : Int × Int) (ws : List Int) (k B q : Nat) (wx : World) (j : Nat) (gv uv : Value) : Prop :=
  (gv = .bool false ∧ OwnK 105 2 B wx uv (overL l s ws j) ∧ wx.heap[q]? = some (.cells #[.int .i64 (stI l s ws j).1, .int .i64 (stI l s ws j).2] 105) ∧ onB l (stI l s ws j) = true) ∨
  (gv = .bool true ∧ j = k ∧ 0 < k ∧ onB l (stI l s ws k) = false ∧ OwnK 105 2 B wx uv (overL l s ws (k - 1)) ∧ wx.heap[q]? = some (.cells #[.int .i64 (stI l s ws (k - 1)).1, .int .i64 (stI l s ws (k - 1)).2] 105))
set_option maxRecDepth 100000 in
set_option maxHeartbeats 8000000 in
theorem play31_c (l : Ln) (H P : Option Addr) (ch cp : Nat) (s : Int × Int) (ws : List Int) (k : Nat) (A : Option Addr) (c : Nat) (w : World) (hok : Ok l) (hH : Recs 2 w.heap.size w H l.hk) (hP : Recs 5 w.heap.size w P l.pt) (hs : startB l s = true) (hw : ∀ j, 0 ≤ ix ws j) (hr : rolls l s ws k) (hT : Ints w.heap.size w A (turnsL l s ws k)) (hc : k ≤ c ∧ c ≤ 9223372036854775807) :
    Calls Try.prog 31 #[LV l H P ch cp, .agg #[.int .i64 s.1, .int .i64 s.2], .slice A k c] w (PlayP l s ws k w) := by
  have hb2 := below_two2 w (.cells #[.int .i64 l.nb, .int .i64 l.nr, .slice H l.hk.length ch, .slice P l.pt.length cp] 103) (.cells #[.int .i64 s.1, .int .i64 s.2] 105)
  have HB := Lib.hid hb2
  have k0 : ((w.alloc (.cells #[.int .i64 l.nb, .int .i64 l.nr, .slice H l.hk.length ch, .slice P l.pt.length cp] 103)).alloc (.cells #[.int .i64 s.1, .int .i64 s.2] 105)).cell? ⟨w.heap.size, 0, none⟩ = some (.int .i64 l.nb) := by go_simp
  have k1 : ((w.alloc (.cells #[.int .i64 l.nb, .int .i64 l.nr, .slice H l.hk.length ch, .slice P l.pt.length cp] 103)).alloc (.cells #[.int .i64 s.1, .int .i64 s.2] 105)).cell? ⟨w.heap.size, 1, none⟩ = some (.int .i64 l.nr) := by go_simp
  have k2 : ((w.alloc (.cells #[.int .i64 l.nb, .int .i64 l.nr, .slice H l.hk.length ch, .slice P l.pt.length cp] 103)).alloc (.cells #[.int .i64 s.1, .int .i64 s.2] 105)).cell? ⟨w.heap.size, 2, none⟩ = some (.slice H l.hk.length ch) := by go_simp
  have k3 : ((w.alloc (.cells #[.int .i64 l.nb, .int .i64 l.nr, .slice H l.hk.length ch, .slice P l.pt.length cp] 103)).alloc (.cells #[.int .i64 s.1, .int .i64 s.2] 105)).cell? ⟨w.heap.size, 3, none⟩ = some (.slice P l.pt.length cp) := by go_simp
  have k4 : ((w.alloc (.cells #[.int .i64 l.nb, .int .i64 l.nr, .slice H l.hk.length ch, .slice P l.pt.length cp] 103)).alloc (.cells #[.int .i64 s.1, .int .i64 s.2] 105)).cell? ⟨w.heap.size + 1, 0, none⟩ = some (.int .i64 s.1) := by go_simp
  have k5 : ((w.alloc (.cells #[.int .i64 l.nb, .int .i64 l.nr, .slice H l.hk.length ch, .slice P l.pt.length cp] 103)).alloc (.cells #[.int .i64 s.1, .int .i64 s.2] 105)).cell? ⟨w.heap.size + 1, 1, none⟩ = some (.int .i64 s.2) := by go_simp
  have HZ : Hid (((w.alloc (.cells #[.int .i64 l.nb, .int .i64 l.nr, .slice H l.hk.length ch, .slice P l.pt.length cp] 103)).alloc (.cells #[.int .i64 s.1, .int .i64 s.2] 105)).heap.size = w.heap.size + 2) := by show _ = _; simp
  have HS := Lib.hid (started71_c l H P ch cp s.1 s.2 ((w.alloc (.cells #[.int .i64 l.nb, .int .i64 l.nr, .slice H l.hk.length ch, .slice P l.pt.length cp] 103)).alloc (.cells #[.int .i64 s.1, .int .i64 s.2] 105)) hok (hH.step hb2) (hP.step hb2) hs)
  have HOK := Lib.hid hok
  have HH := Lib.hid hH
  have HST := Lib.hid hs
  have HWS := Lib.hid hw
  have HR := Lib.hid hr
  have HTU := Lib.hid hT
  clear hb2 hok hH hP hs hw hr hT
  unfold LV at HS ⊢
  go_enter Try.func31, Try.ntmps31
  go_wp2_with fail
  generalize ((w.alloc (.cells #[.int .i64 l.nb, .int .i64 l.nr, .slice H l.hk.length ch, .slice P l.pt.length cp] 103)).alloc (.cells #[.int .i64 s.1, .int .i64 s.2] 105)) = W0 at *
  refine HS.out.mono ?_
  rintro e w1 ⟨g, m, rfl, hm, hT, hb⟩
  have HM := Lib.hid hm
  have HTB := Lib.hid hT
  have HB1 := Lib.hid hb
  replace k4 := cell_of_ans hb k4
  replace k5 := cell_of_ans hb k5
  have HZ1 : Hid (w.heap.size + 2 ≤ w1.heap.size) := by have := hb.size; have := HZ.out; show _ ≤ _; omega
  have HBX : Hid (BxB (w1.alloc (.cells #[.int .i64 l.nb, .int .i64 l.nr, .slice H l.hk.length ch, .slice P l.pt.length cp, .slice (some ⟨g, 0, none⟩) m m] 189)) w1.heap.size l H P ch cp g m) := World.alloc_heap_new _ _
  replace k4 := cell_of_ans ((Below.refl _ w1).alloc (Nat.le_refl _) (.cells #[.int .i64 l.nb, .int .i64 l.nr, .slice H l.hk.length ch, .slice P l.pt.length cp, .slice (some ⟨g, 0, none⟩) m m] 189)) k4
  replace k5 := cell_of_ans ((Below.refl _ w1).alloc (Nat.le_refl _) (.cells #[.int .i64 l.nb, .int .i64 l.nr, .slice H l.hk.length ch, .slice P l.pt.length cp, .slice (some ⟨g, 0, none⟩) m m] 189)) k5
  clear hm hT hb HS k0 k1 k2 k3
  unfold BV
  go_wp2_with fail
  have HQ : Hid (((w1.alloc (.cells #[.int .i64 l.nb, .int .i64 l.nr, .slice H l.hk.length ch, .slice P l.pt.length cp, .slice (some ⟨g, 0, none⟩) m m] 189)).alloc (.cells #[.int .i64 s.1, .int .i64 s.2] 105)).heap[w1.heap.size + 1]? = some (.cells #[.int .i64 s.1, .int .i64 s.2] 105)) := by
    have := World.alloc_heap_new (w1.alloc (.cells #[.int .i64 l.nb, .int .i64 l.nr, .slice H l.hk.length ch, .slice P l.pt.length cp, .slice (some ⟨g, 0, none⟩) m m] 189)) (.cells #[.int .i64 s.1, .int .i64 s.2] 105)
    rw [World.size_alloc] at this
    exact this
  have HBX2 : Hid (BxB ((w1.alloc (.cells #[.int .i64 l.nb, .int .i64 l.nr, .slice H l.hk.length ch, .slice P l.pt.length cp, .slice (some ⟨g, 0, none⟩) m m] 189)).alloc (.cells #[.int .i64 s.1, .int .i64 s.2] 105)) w1.heap.size l H P ch cp g m) := (Below.heap_alloc _ _ _ (by simp)).trans HBX.out
  have HB2 : Hid (Below w1.heap.size w1 ((w1.alloc (.cells #[.int .i64 l.nb, .int .i64 l.nr, .slice H l.hk.length ch, .slice P l.pt.length cp, .slice (some ⟨g, 0, none⟩) m m] 189)).alloc (.cells #[.int .i64 s.1, .int .i64 s.2] 105))) := below_two2 _ _ _
  have HZ2 : Hid (((w1.alloc (.cells #[.int .i64 l.nb, .int .i64 l.nr, .slice H l.hk.length ch, .slice P l.pt.length cp, .slice (some ⟨g, 0, none⟩) m m] 189)).alloc (.cells #[.int .i64 s.1, .int .i64 s.2] 105)).heap.size = w1.heap.size + 2) := by show _ = _; simp
  have HON : Hid (onB l s = true) := by
    have := HST.out
    unfold startB at this
    simp only [Bool.and_eq_true] at this
    exact this.1
  clear k4 k5 HBX
  generalize ((w1.alloc (.cells #[.int .i64 l.nb, .int .i64 l.nr, .slice H l.hk.length ch, .slice P l.pt.length cp, .slice (some ⟨g, 0, none⟩) m m] 189)).alloc (.cells #[.int .i64 s.1, .int .i64 s.2] 105)) = W2 at *
  go_loopw [25, 7, 6] (fun iv gv uv wx => ∃ j : Nat, j ≤ k ∧ iv = .int .i64 (j : Int) ∧ Below (w1.heap.size + 1) W2 wx ∧ PlR l s ws k (w1.heap.size + 2) (w1.heap.size + 1) wx j gv uv) (fun iv _ _ _ => k - (intOf iv).toNat)
  case atStart => exact ⟨0, by omega, rfl, Below.refl _ _, .inl ⟨rfl, OwnK.nil _ _ _ _, HQ.out, HON.out⟩⟩
  case round =>
    obtain ⟨j, hj, rfl, hbw, hpl⟩ := hrel
    by_cases h1 : j < k
    · rcases hpl with ⟨rfl, hou, hq, hon⟩ | ⟨-, e, -⟩
      rotate_left 1
      · exact absurd e (by omega)
      obtain ⟨hg1, -⟩ := HR.out.1 j h1
      have hz2 := HZ2.out
      have hsz := hbw.size
      have hd5 := st_dir (l := l) (s := s) (ws := ws) (by
        have := HST.out
        unfold startB at this
        simp only [Bool.and_eq_true] at this
        exact (inB_eq _ _ _).1 this.2) j
      have hon2 := hon
      unfold onB at hon2
      have hb40 := (inB_eq _ _ _).1 hon2
      have hnb := HOK.out.b1
      have hnr := HOK.out.r1
      have hm := HM.out
      obtain ⟨b, hbe⟩ : ∃ b : Nat, (b : Int) = (stI l s ws j).1 := ⟨(stI l s ws j).1.toNat, by omega⟩
      obtain ⟨d, hde⟩ : ∃ d, d = (stI l s ws j).2 := ⟨_, rfl⟩
      have hst : stI l s ws j = ((b : Int), d) := by rw [hbe, hde]
      obtain ⟨T, hTe⟩ : ∃ T, T = turnI l ws j (stI l s ws j) := ⟨_, rfl⟩
      have hti := turn_in HOK.out ws HWS.out j (stI l s ws j)
      have hkb := hk_bd HOK.out j (stI l s ws j).1
      rw [← hTe, ← hbe] at hti
      rw [← hbe] at hkb hb40
      rw [← hbe, ← hde] at hq
      rw [← hde] at hd5
      have HTE := Lib.hid hTe
      have HSTJ := Lib.hid hst
      have HOU := Lib.hid hou
      have HBW := Lib.hid hbw
      have HQJ := Lib.hid hq
      have hjm : j < m := by omega
      have hm12 : m ≤ 12 := by omega
      have hb41 : b < 41 := by omega
      obtain ⟨bt, ot, rfl, hbt, hct⟩ := HTU.out (by rw [turnsL_len]; omega)
      have ct := hct j (by rw [turnsL_len]; exact h1)
      rw [turnsL_at _ _ _ h1, ← hTe] at ct
      have HWR : Hid (Below w.heap.size w wr) := ((HB.out.trans (HB1.out.mono HB.out.size)).trans (HB2.out.mono (Nat.le_trans HB.out.size HB1.out.size))).trans (hbw.mono (by have := HZ1.out; omega))
      replace ct := (HWR.out.cell (p := ⟨bt, ot + j, none⟩) hbt).trans ct
      have s0 : wr.cell? ⟨w1.heap.size + 1, 0, none⟩ = some (.int .i64 (b : Int)) := by simp [World.cell?, hq]
      have s1 : wr.cell? ⟨w1.heap.size + 1, 1, none⟩ = some (.int .i64 d) := by simp [World.cell?, hq]
      have HBXJ : Hid (BxB wr w1.heap.size l H P ch cp g m) := (hbw.block _ (by omega)).trans HBX2.out
      have HTBJ : Hid (TabG wr g m (fun r b => level l r b)) := HTB.out.step (HB2.out.trans (hbw.mono (by omega)))
      have hw1 : IntKind.i64.wrap ((j : Int) + 1) = (j : Int) + 1 := IntWalk.i64_in _ (by omega)
      have hw2 : IntKind.i64.wrap ((j : Int) + 1 - 1) = (j : Int) := by rw [show (j : Int) + 1 - 1 = (j : Int) by omega]; exact IntWalk.i64_in _ (by omega)
      have HLN : Hid ((overL l s ws j).length = j) := overL_len _ _ _ _
      have hzb : w1.heap.size + 2 ≤ wr.heap.size := by omega
      have hjr : ¬ ((j : Int) + 1 = l.nr) := by omega
      have hjr2 : ((j : Int) + 1 == l.nr) = false := by rw [beq_eq_false_iff_ne]; omega
      have HTI := Lib.hid hti
      have HKB := Lib.hid hkb
      have HD5 := Lib.hid hd5
      have HB40 : Hid ((1 : Int) ≤ (b : Int) ∧ (b : Int) ≤ 40) := by show _ ∧ _; omega
      have HJM := Lib.hid (And.intro hjm (And.intro hm12 hb41))
      clear hti hkb hd5 hb40 hon hon2 hde hbe hTe hst hou hq hnb hnr hm hbt hct
      go_wp2_with (at_builtin; refine wpList_appK ty97 (.tmp 29) (.tmp 31) rfl rfl (w1.heap.size + 2) wr _ (overL l s ws j) [(b : Int), d] j (cs := #[.int .i64 (b : Int), .int .i64 d]) rfl rfl rfl rfl HOU HLN rfl (by omega) hzb ?_; intro A6 c6 w6 HO6 HG6 HD6; have HBA := Lib.hid (below_gr HG6.out hzb (fun i e => (HOU.out.lt i e).1)); have s0 := (HBA.out.cell (p := ⟨w1.heap.size + 1, 0, none⟩) (by dsimp only; omega)).trans s0; have s1 := (HBA.out.cell (p := ⟨w1.heap.size + 1, 1, none⟩) (by dsimp only; omega)).trans s1; obtain ⟨n0, n1, n2, n3, n4⟩ := BxB.cells ((HBA.out.block _ (by omega)).trans HBXJ.out))
      have HW6 : Hid (Below w.heap.size w w6) := HWR.out.trans (HBA.out.mono (by have := HZ1.out; omega))
      have HT6 : Hid (TabG w6 g m (fun r b => level l r b)) := by
        refine TabG.step (W := w1) HTB.out ((HB2.out.trans (HBW.out.mono (by omega))).trans (HBA.out.mono (by omega)))
      have H72 := hooks72_c l H P ch cp g m j b d w6 HOK.out (HH.out.step HW6.out) HT6.out HJM.out.1 HJM.out.2.1 HJM.out.2.2
      unfold BV at H72
      refine H72.mono ?_
      clear H72
      rintro e w7 ⟨rfl, hb7⟩
      replace s0 := cell_of_ans hb7 s0
      replace s1 := cell_of_ans hb7 s1
      have HB7 := Lib.hid hb7
      have HI : Hid (inB T (hkLo l j b) (hkHi l j b) = true) := (inB_eq _ _ _).2 HTI.out
      have H73 := Lib.hid (fun W => has73_c (hkLo l j b) (hkHi l j b) T W)
      rw [HI.out] at H73
      have H74 := Lib.hid (fun W => next74_c (b : Int) d T HD5.out HB40.out (by have := HTI.out; have := HKB.out; omega) W)
      have HNX : Hid (nxt ((b : Int), d) T = stI l s ws (j + 1)) := by
        show _ = _
        simp only [stI]
        rw [HTE.out, HSTJ.out]
      rw [HNX.out] at H74
      generalize hkLo l (j : Int) (b : Int) = lo at *
      generalize hkHi l (j : Int) (b : Int) = hi at *
      clear hb7 n0 n1 n2 n3 n4
      go_wp2_with fail
      refine (H73.out w7).mono ?_
      rintro e w8 ⟨rfl, hb8⟩
      replace s0 := cell_of_ans hb8 s0
      replace s1 := cell_of_ans hb8 s1
      have HB8 := Lib.hid hb8
      clear hb8
      go_wp2_with fail
      refine (H74.out w8).mono ?_
      rintro e w9 ⟨rfl, hb9⟩
      have HB69 : Hid (Below w6.heap.size w6 w9) := (HB7.out.trans (HB8.out.mono HB7.out.size)).trans (hb9.mono (Nat.le_trans HB7.out.size HB8.out.size))
      have hz6 := HBA.out.size
      have hz69 := HB69.out.size
      obtain ⟨u, hue⟩ : ∃ u, u = stI l s ws (j + 1) := ⟨_, rfl⟩
      rw [← hue] at HNX ⊢
      have HUE := Lib.hid hue
      have hq9 : w9.heap[w1.heap.size + 1]? = some (.cells #[.int .i64 (b : Int), .int .i64 d] 105) := (HB69.out.block _ (by omega)).trans ((HBA.out.block _ (by omega)).trans HQJ.out)
      have g0 : w9.cell? ⟨w1.heap.size + 1, 0, none⟩ = some (.int .i64 (b : Int)) := by simp [World.cell?, hq9]
      have g1 : w9.cell? ⟨w1.heap.size + 1, 1, none⟩ = some (.int .i64 d) := by simp [World.cell?, hq9]
      have gf : ∀ o, w9.frozen? ⟨w1.heap.size + 1, o, none⟩ = false := by simp [World.frozen?, hq9]
      have HQN := Lib.hid (two_heap (x := .int .i64 u.1) (y := .int .i64 u.2) hq9)
      have HON9 := Lib.hid (((HO6.out.kept HB69.out).set (ad := ⟨w1.heap.size + 1, 0, none⟩) (by dsimp only; omega) (.int .i64 u.1)).set (ad := ⟨w1.heap.size + 1, 1, none⟩) (by dsimp only; omega) (.int .i64 u.2))
      have HBN : Hid (Below (w1.heap.size + 1) W2 ((w9.setCell ⟨w1.heap.size + 1, 0, none⟩ (.int .i64 u.1)).setCell ⟨w1.heap.size + 1, 1, none⟩ (.int .i64 u.2))) := (((HBW.out.trans (HBA.out.mono (by omega))).trans (HB69.out.mono (by omega))).setCell (by dsimp only; omega) _).setCell (by dsimp only; omega) _
      clear hb9 hue hq9 s0 s1
      obtain ⟨n0, n1, n2, n3, n4⟩ := BxB.cells ((HBN.out.block _ (by omega)).trans HBX2.out)
      go_wp2_with fail
      have H75 := on75_c l H P ch cp u.1 u.2 ((w9.setCell ⟨w1.heap.size + 1, 0, none⟩ (.int .i64 u.1)).setCell ⟨w1.heap.size + 1, 1, none⟩ (.int .i64 u.2))
      unfold LV at H75
      generalize ((w9.setCell ⟨w1.heap.size + 1, 0, none⟩ (.int .i64 u.1)).setCell ⟨w1.heap.size + 1, 1, none⟩ (.int .i64 u.2)) = wA at *
      refine H75.mono ?_
      clear H75
      rintro e wB ⟨rfl, hbB⟩
      have HBB := Lib.hid hbB
      have hzA := HBN.out.size
      clear hbB
      cases hou : onB l (u.1, u.2)
      · have HJK : Hid (j + 1 = k) := by
          show _ = _
          rcases Nat.lt_or_ge (j + 1) k with h | h
          · have := (HR.out.1 (j + 1) h).2
            rw [← HUE.out, hou] at this
            cases this
          · omega
        have HOV : Hid (overL l s ws (j + 1) = overL l s ws j ++ [[(b : Int), d]]) := by show _ = _; rw [overL_succ, HSTJ.out]
        have HOB := Lib.hid (HON9.out.kept HBB.out)
        obtain ⟨-, hc1, hc2, hrc⟩ := HOB.out.recs
        have hlen : (overL l s ws j ++ [[(b : Int), d]]).length = j + 1 := by rw [List.length_append, overL_len]; rfl
        rw [hlen] at hc1
        obtain ⟨bA, oA, rfl, hbA, cA, cB⟩ := hrc.at2 (n := j) (by omega)
        have hrow : rx (overL l s ws j ++ [[(b : Int), d]]) j = [(b : Int), d] := by
          rw [rx_lt (by omega)]
          simp [overL_len]
        rw [hrow] at cA cB
        have hbq : w1.heap.size + 2 ≤ bA := (HOB.out.lt bA rfl).1
        have hqB : wB.heap[w1.heap.size + 1]? = some (.cells #[.int .i64 u.1, .int .i64 u.2] 105) := (HBB.out.block _ (by omega)).trans HQN.out
        have v0 : wB.cell? ⟨w1.heap.size + 1, 0, none⟩ = some (.int .i64 u.1) := by simp [World.cell?, hqB]
        have v1 : wB.cell? ⟨w1.heap.size + 1, 1, none⟩ = some (.int .i64 u.2) := by simp [World.cell?, hqB]
        have vf : ∀ o, wB.frozen? ⟨w1.heap.size + 1, o, none⟩ = false := by simp [World.frozen?, hqB]
        have HQE := Lib.hid (two_heap (x := .int .i64 (b : Int)) (y := .int .i64 d) hqB)
        have HCUT := Lib.hid ((OwnK.cut HOB.out (overL_len l s ws j)).set (ad := ⟨w1.heap.size + 1, 0, none⟩) (by dsimp only; omega) (.int .i64 (b : Int)) |>.set (ad := ⟨w1.heap.size + 1, 1, none⟩) (by dsimp only; omega) (.int .i64 d))
        have HBE : Hid (Below (w1.heap.size + 1) W2 ((wB.setCell ⟨w1.heap.size + 1, 0, none⟩ (.int .i64 (b : Int))).setCell ⟨w1.heap.size + 1, 1, none⟩ (.int .i64 d))) := ((HBN.out.trans (HBB.out.mono (by omega))).setCell (by dsimp only; omega) _).setCell (by dsimp only; omega) _
        have cA2 : wB.cell? ⟨bA, oA + j * 2, none⟩ = some (.int .i64 (b : Int)) := cA
        have cB2 : wB.cell? ⟨bA, oA + j * 2 + 1, none⟩ = some (.int .i64 d) := cB
        have hj0 : (0 : Int) ≤ (j : Int) := by omega
        have hjc : (j : Int) ≤ (c6 : Int) := by omega
        have hjl : (j : Int) < (j : Int) + 1 := by omega
        clear hqB hrc hrow cA cB hlen n0 n1 n2 n3 n4
        go_wp2_with fail
        go_roundw
        case rel => exact ⟨j + 1, by omega, by go_num, HBE.out, .inr ⟨rfl, HJK.out, by have := HJK.out; omega, by rw [← HJK.out, ← HUE.out]; exact hou, by rw [← HJK.out, Nat.add_sub_cancel]; exact HCUT.out, by rw [← HJK.out, Nat.add_sub_cancel, HSTJ.out]; exact HQE.out⟩⟩
        case measure => simp [intOf]; omega
      · go_wp2_with fail
        have HOV : Hid (overL l s ws (j + 1) = overL l s ws j ++ [[(b : Int), d]]) := by show _ = _; rw [overL_succ, HSTJ.out]
        go_roundw
        case rel => exact ⟨j + 1, by omega, by go_num, HBN.out.trans (HBB.out.mono (by omega)), .inl ⟨rfl, by rw [HOV.out]; exact HON9.out.kept HBB.out, by rw [← HUE.out]; exact (HBB.out.block _ (by omega)).trans HQN.out, by rw [← HUE.out]; exact hou⟩⟩
        case measure => simp [intOf]; omega
    · have hjk : j = k := by omega
      subst hjk
      have hz2 := HZ2.out
      have hsz := hbw.size
      have HWR : Hid (Below w.heap.size w wr) := ((HB.out.trans (HB1.out.mono HB.out.size)).trans (HB2.out.mono (Nat.le_trans HB.out.size HB1.out.size))).trans (hbw.mono (by have := HZ1.out; omega))
      have HBW := Lib.hid hbw
      have hzb : w1.heap.size + 2 ≤ wr.heap.size := by omega
      rcases hpl with ⟨rfl, hou, hq, hon⟩ | ⟨rfl, -, hk0, hoff, hou, hq⟩
      · have hrl := rolls_len HOK.out HR.out hon
        have hr12 := HOK.out.r1
        obtain ⟨u, hue⟩ : ∃ u, u = stI l s ws j := ⟨_, rfl⟩
        rw [← hue] at hq hon
        have HUE := Lib.hid hue
        have HON2 := Lib.hid hon
        have HOU := Lib.hid hou
        have HLN : Hid ((overL l s ws j).length = j) := overL_len _ _ _ _
        have hw1 : IntKind.i64.wrap ((j : Int) + 1) = (j : Int) + 1 := IntWalk.i64_in _ (by omega)
        have hj12 : j + 1 ≤ 12 := by omega
        have s0 : wr.cell? ⟨w1.heap.size + 1, 0, none⟩ = some (.int .i64 u.1) := by simp [World.cell?, hq]
        have s1 : wr.cell? ⟨w1.heap.size + 1, 1, none⟩ = some (.int .i64 u.2) := by simp [World.cell?, hq]
        have HBXJ : Hid (BxB wr w1.heap.size l H P ch cp g m) := (hbw.block _ (by omega)).trans HBX2.out
        have HRL := Lib.hid hrl
        clear hou hq hon hue hbw hrl
        go_wp2_with (at_builtin; refine wpList_appK ty97 (.tmp 74) (.tmp 76) rfl rfl (w1.heap.size + 2) wr _ (overL l s ws j) [u.1, u.2] j (cs := #[.int .i64 u.1, .int .i64 u.2]) rfl rfl rfl rfl HOU HLN rfl (by omega) hzb ?_; intro A6 c6 w6 HO6 HG6 HD6; have HBA := Lib.hid (below_gr HG6.out hzb (fun i e => (HOU.out.lt i e).1)); obtain ⟨n0, n1, n2, n3, n4⟩ := BxB.cells ((HBA.out.block _ (by omega)).trans HBXJ.out); replace n1 := n1.trans (congrArg (fun x => some (Value.int .i64 x)) HRL.out.symm))
        have HOV : Hid (overL l s ws (j + 1) = overL l s ws j ++ [[u.1, u.2]]) := by show _ = _; rw [overL_succ, HUE.out]
        obtain ⟨-, hc1, hc2, hrc⟩ := HO6.out.recs
        have hlen : (overL l s ws j ++ [[u.1, u.2]]).length = j + 1 := by rw [List.length_append, overL_len]; rfl
        rw [hlen] at hc1
        refine bodyPost_ret (v := .tuple #[.slice A6 (j + 1) c6, .bool false, .int .i64 0]) (by simp [results, Try.results31, go_sem]) rfl ?_
        exact ⟨A6, j + 1, c6, false, rfl, HWR.out.trans (HBA.out.mono (by have := HZ1.out; omega)), by rw [← HUE.out, HON2.out]; rfl, fun _ => ⟨by rw [← HUE.out]; exact HON2.out, rfl, ⟨hc1, hc2⟩, by rw [HOV.out]; exact hrc⟩⟩
      · have hr12 := HOK.out.r1
        have hg := (HR.out.1 (j - 1) (by omega)).1
        have hj12 : j + 1 ≤ 13 := by omega
        obtain ⟨u, hue⟩ : ∃ u, u = stI l s ws (j - 1) := ⟨_, rfl⟩
        rw [← hue] at hq
        have HOFF := Lib.hid hoff
        clear hoff
        have HOU := Lib.hid hou
        have HLN : Hid ((overL l s ws (j - 1)).length = j - 1) := overL_len _ _ _ _
        have hjk0 : Hid (j - 1 + 1 = j) := by show _ = _; omega
        have s0 : wr.cell? ⟨w1.heap.size + 1, 0, none⟩ = some (.int .i64 u.1) := by simp [World.cell?, hq]
        have s1 : wr.cell? ⟨w1.heap.size + 1, 1, none⟩ = some (.int .i64 u.2) := by simp [World.cell?, hq]
        clear hou hq hue hbw
        generalize overL l s ws (j - 1) = ov at *
        generalize j - 1 = i at *
        have hi12 : i ≤ 12 := by have := hjk0.out; omega
        go_wp2_with (at_builtin; refine wpList_appK ty97 (.tmp 74) (.tmp 76) rfl rfl (w1.heap.size + 2) wr _ ov [u.1, u.2] i (cs := #[.int .i64 u.1, .int .i64 u.2]) rfl rfl rfl rfl HOU HLN rfl (by omega) hzb ?_; intro A6 c6 w6 HO6 HG6 HD6; have HBA := Lib.hid (below_gr HG6.out hzb (fun i e => (HOU.out.lt i e).1)))
        refine bodyPost_ret (v := .tuple #[.slice A6 (i + 1) c6, .bool true, .int .i64 0]) (by simp [results, Try.results31, go_sem]) rfl ?_
        exact ⟨A6, i + 1, c6, true, rfl, HWR.out.trans (HBA.out.mono (by have := HZ1.out; omega)), by rw [HOFF.out]; rfl, fun h => by cases h⟩
end Go.Proofs.Ytenpiinkbfancaa.Pa
