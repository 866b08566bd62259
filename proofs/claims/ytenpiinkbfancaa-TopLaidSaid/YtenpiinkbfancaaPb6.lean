/-
  What the words pick: the turns of a ball.
-/
import Derived.Test.YtenpiinkbfancaaPb3
import Derived.Test.YtenpiinkbfancaaOlB
namespace Go.Proofs.Ytenpiinkbfancaa.Pa
open Go.RowKit
set_option linter.unusedSimpArgs false
set_option linter.unusedVariables false

attribute [local go_sem] Oper.semAt_some
theorem wpList_appI {ops : Array Oper} {rest : List Oper} {o : Oper} {a : Act} {Q : Exit → Act → World → Prop} (s x : Operand) (hgd : o.guard = none) (ho : o.op = .call { callee := .builtin .append, args := #[s, x], argTypes := #[42, 42] }) (base : Nat) (w : World) (u : Value) (xs : List Int) (y : Int) (m : Nat) (hm : xs.length = m)
    (hv : a.eval s = u) (hx : a.eval x = .slice (some ⟨w.heap.size, 0, none⟩) 1 1) (hown : Hid (Ol.OwnI base w u xs)) (hl : xs.length ≤ 1000000) (hb : base ≤ w.heap.size)
    (h : ∀ A c w', Hid (Ol.OwnI base w' (.slice A (m + 1) c) (xs ++ [y])) → Hid (Below base w w') → Hid (w.grownBy w' u.ownBlock) → wpList Try.prog ops Q rest (a.put o.dst (.slice A (m + 1) c)) w') :
    wpList Try.prog ops Q (o :: rest) a (w.alloc (.cells #[.int .i64 y] 3)) := by
  subst hm
  obtain ⟨i0, hi, hz0, hz1, hz2⟩ := info_parts Ol.infoInt
  have hO : w.ownsRow base 3 1 u xs.length (xs.map (Value.int .i64)) := hown.out
  refine Ol.wpList_append_src hgd s x 42 ho base 3 i0 (.int .i64 0) 1 8 Try.underlying42 hi hz0 hz1 hz2 rfl (by decide) u xs.length (xs.map (Value.int .i64)) hv (hO.alloc _) (some ⟨w.heap.size, 0, none⟩) 1 1 [.int .i64 y] hx (Ol.src_int w y) (Ol.one_ints [y]) (by unfold maxLen; omega) (by omega) (by simp; omega) ?_
  intro v' w' h1 h2 _
  obtain ⟨A, c, rfl⟩ := Ol.ownsRow_form h1
  refine h A c w' ?_ (((Below.refl base w).alloc hb _).grown h2 (by simp; omega) (fun k e => (hO.lt k e).1)) ((World.grownBy_alloc w _ _).trans h2)
  show Ol.OwnI _ _ _ _
  unfold Ol.OwnI
  simpa using h1
/-- What the program gets. -/
def PickP (l : Ln) (s : Int × Int) (ws : List Int) (w : World) (e : Ending) (w' : World) : Prop :=
  ∃ k, rolls l s ws k ∧ ∃ A c, e = .returned (.slice A k c) ∧ Ol.OwnI w.heap.size w' (.slice A k c) (turnsL l s ws k) ∧ Below w.heap.size w w'
theorem goes_bd {l : Ln} (h : Ok l) {s : Int × Int} {ws : List Int} {k : Nat} (hg : goes l s ws k) : k ≤ 12 := by
  have := h.r1
  rcases Nat.eq_zero_or_pos k with rfl | hp
  · omega
  · have := (hg (k - 1) (by omega)).1
    omega
theorem own_set {base : Nat} {w : World} {u : Value} {xs : List Int} (h : Ol.OwnI base w u xs) {ad : Addr} (ha : ad.block < base) (x : Value) : Ol.OwnI base (w.setCell ad x) u xs :=
  World.ownsRow.kept h (only_setCell (World.grownBy.refl w (some ad.block)) (.inl rfl) x) (.inr fun e => by have := (World.ownsRow.lt h _ e).1; omega)
theorem two_heap {W : World} {g : Nat} {a b x y : Value} {t : TypeId} (h : W.heap[g]? = some (.cells #[a, b] t)) : ((W.setCell ⟨g, 0, none⟩ x).setCell ⟨g, 1, none⟩ y).heap[g]? = some (.cells #[x, y] t) := by
  simp [World.setCell, Array.getElem?_modify, h]
theorem own_base {b b' : Nat} {w : World} {u : Value} {xs : List Int} (h : Ol.OwnI b w u xs) (hb : b' ≤ b) : Ol.OwnI b' w u xs := by
  refine ⟨h.1, ?_⟩
  rcases h.2 with h2 | ⟨g, cap, cur, e, hg, hr⟩
  · exact .inl h2
  · exact .inr ⟨g, cap, cur, e, Nat.le_trans hb hg, hr⟩
set_option maxRecDepth 100000 in
set_option maxHeartbeats 8000000 in
theorem picked34_c (l : Ln) (H P : Option Addr) (ch cp : Nat) (s : Int × Int) (A : Option Addr) (ws : List Int) (c : Nat) (w : World) (hok : Ok l) (hH : Recs 2 w.heap.size w H l.hk) (hP : Recs 5 w.heap.size w P l.pt) (hd : -5 ≤ s.2 ∧ s.2 ≤ 5) (hw : W16 w.heap.size w A ws) (hc : ws.length ≤ c ∧ c ≤ 9223372036854775807) :
    Calls Try.prog 34 #[LV l H P ch cp, .agg #[.int .i64 s.1, .int .i64 s.2], .slice A ws.length c] w (PickP l s ws w) := by
  have hb0 : Below w.heap.size w ((w.alloc (.cells #[.int .i64 l.nb, .int .i64 l.nr, .slice H l.hk.length ch, .slice P l.pt.length cp] 88)).alloc (.cells #[.int .i64 s.1, .int .i64 s.2] 90)) := below_two2 _ _ _
  have hsz : ((w.alloc (.cells #[.int .i64 l.nb, .int .i64 l.nr, .slice H l.hk.length ch, .slice P l.pt.length cp] 88)).alloc (.cells #[.int .i64 s.1, .int .i64 s.2] 90)).heap.size = w.heap.size + 2 := by simp
  have k0 : ((w.alloc (.cells #[.int .i64 l.nb, .int .i64 l.nr, .slice H l.hk.length ch, .slice P l.pt.length cp] 88)).alloc (.cells #[.int .i64 s.1, .int .i64 s.2] 90)).cell? ⟨w.heap.size, 0, none⟩ = some (.int .i64 l.nb) := by go_simp
  have k1 : ((w.alloc (.cells #[.int .i64 l.nb, .int .i64 l.nr, .slice H l.hk.length ch, .slice P l.pt.length cp] 88)).alloc (.cells #[.int .i64 s.1, .int .i64 s.2] 90)).cell? ⟨w.heap.size, 1, none⟩ = some (.int .i64 l.nr) := by go_simp
  have k2 : ((w.alloc (.cells #[.int .i64 l.nb, .int .i64 l.nr, .slice H l.hk.length ch, .slice P l.pt.length cp] 88)).alloc (.cells #[.int .i64 s.1, .int .i64 s.2] 90)).cell? ⟨w.heap.size, 2, none⟩ = some (.slice H l.hk.length ch) := by go_simp
  have k3 : ((w.alloc (.cells #[.int .i64 l.nb, .int .i64 l.nr, .slice H l.hk.length ch, .slice P l.pt.length cp] 88)).alloc (.cells #[.int .i64 s.1, .int .i64 s.2] 90)).cell? ⟨w.heap.size, 3, none⟩ = some (.slice P l.pt.length cp) := by go_simp
  have k4 : ((w.alloc (.cells #[.int .i64 l.nb, .int .i64 l.nr, .slice H l.hk.length ch, .slice P l.pt.length cp] 88)).alloc (.cells #[.int .i64 s.1, .int .i64 s.2] 90)).heap[w.heap.size + 1]? = some (.cells #[.int .i64 s.1, .int .i64 s.2] 90) := by
    have := World.alloc_heap_new (w.alloc (.cells #[.int .i64 l.nb, .int .i64 l.nr, .slice H l.hk.length ch, .slice P l.pt.length cp] 88)) (.cells #[.int .i64 s.1, .int .i64 s.2] 90)
    rw [World.size_alloc] at this
    exact this
  have HB := Lib.hid hb0
  have HHk := Lib.hid hH
  have HPt := Lib.hid hP
  have HW := Lib.hid hw
  have HC := Lib.hid hc
  have HOK := Lib.hid hok
  have HD := Lib.hid hd
  have HSZ := Lib.hid hsz
  have HK4 := Lib.hid k4
  have HKS := Lib.hid (And.intro k0 (And.intro k1 (And.intro k2 k3)))
  clear hb0 hH hP hw hc hok hd hsz k4 k0 k1 k2 k3
  unfold LV
  go_enter Try.func34, Try.ntmps34
  go_wp2_with fail
  generalize ((w.alloc (.cells #[.int .i64 l.nb, .int .i64 l.nr, .slice H l.hk.length ch, .slice P l.pt.length cp] 88)).alloc (.cells #[.int .i64 s.1, .int .i64 s.2] 90)) = W0 at *
  go_loopw [8, 7] (fun iv v wr => ∃ (k : Nat), goes l s ws k ∧ iv = .int .i64 (k : Int) ∧ Ol.OwnI (w.heap.size + 2) wr v (turnsL l s ws k) ∧ Below (w.heap.size + 1) W0 wr ∧ wr.heap[w.heap.size + 1]? = some (.cells #[.int .i64 (stI l s ws k).1, .int .i64 (stI l s ws k).2] 90)) (fun iv _ _ => 12 - (intOf iv).toNat)
  case atStart => exact ⟨0, fun j hj => absurd hj (by omega), rfl, Ol.OwnI.nil _ _, Below.refl _ _, HK4.out⟩
  case round =>
    obtain ⟨k, hg, rfl, hou, hbw, hst⟩ := hrel
    have hk12 := goes_bd HOK.out hg
    have hz1 := hbw.size
    have hS0 := HSZ.out
    obtain ⟨b, hbe⟩ : ∃ b, b = (stI l s ws k).1 := ⟨_, rfl⟩
    obtain ⟨d, hde⟩ : ∃ d, d = (stI l s ws k).2 := ⟨_, rfl⟩
    have hd5 := st_dir (l := l) (ws := ws) HD.out k
    rw [← hbe, ← hde] at hst
    rw [← hde] at hd5
    have HST := Lib.hid hst
    have HOU := Lib.hid hou
    have HBW := Lib.hid hbw
    have HG := Lib.hid hg
    have HBE : Hid (stI l s ws k = (b, d)) := by show _ = _; rw [hbe, hde]
    have HD5 := Lib.hid hd5
    have r0 := (hbw.cell (p := ⟨w.heap.size, 0, none⟩) (by dsimp only; omega)).trans HKS.out.1
    have r1 := (hbw.cell (p := ⟨w.heap.size, 1, none⟩) (by dsimp only; omega)).trans HKS.out.2.1
    have r2 := (hbw.cell (p := ⟨w.heap.size, 2, none⟩) (by dsimp only; omega)).trans HKS.out.2.2.1
    have r3 := (hbw.cell (p := ⟨w.heap.size, 3, none⟩) (by dsimp only; omega)).trans HKS.out.2.2.2
    have s0 : wr.cell? ⟨w.heap.size + 1, 0, none⟩ = some (.int .i64 b) := by simp [World.cell?, hst]
    have s1 : wr.cell? ⟨w.heap.size + 1, 1, none⟩ = some (.int .i64 d) := by simp [World.cell?, hst]
    have hw1 : IntKind.i64.wrap ((k : Int) + 1) = (k : Int) + 1 := IntWalk.i64_in _ (by omega)
    have H69 := Lib.hid (fun W => in69_c b 1 l.nb W)
    have HON : Hid (onB l (stI l s ws k) = inB b 1 l.nb) := by show _ = _; rw [HBE.out]; rfl
    have hwr : w.heap.size + 1 < wr.heap.size := by omega
    have HWR : Hid (Below w.heap.size w wr) := HB.out.trans (HBW.out.mono (by omega))
    have FIN : Hid (¬ ((k : Int) + 1 < l.nr ∧ onB l (stI l s ws k) = true) → ∀ u, Ol.OwnI (w.heap.size + 2) wr u (turnsL l s ws k) → PickP l s ws w (.returned u) wr) := by
      intro hn u hu
      obtain ⟨Au, cu, rfl⟩ := hu.form
      rw [turnsL_len] at hu ⊢
      exact ⟨k, ⟨HG.out, hn⟩, Au, cu, rfl, own_base hu (by omega), HWR.out⟩
    clear hst hou hbw hg hbe hde hd5
    by_cases h1 : (k : Int) + 1 < l.nr
    · cases hon : inB b 1 l.nb
      · rw [hon] at H69 HON
        go_wp2_with fail
        refine (H69.out _).mono ?_
        rintro e w1 ⟨rfl, rfl⟩
        go_wp2_with fail
        go_ret
        exact FIN.out (by rw [HON.out]; rintro ⟨_, h⟩; cases h) _ HOU.out
      · rw [hon] at H69 HON
        have HBD : Hid (1 ≤ b ∧ b ≤ 40) := by
          have e1 := (inB_eq _ _ _).1 hon
          have e2 := HOK.out.b1
          show _ ∧ _
          omega
        have H77 := Lib.hid (hook77_c l H P ch cp (k : Int) b wr HOK.out (HHk.out.step HWR.out) (HPt.out.step HWR.out))
        have hkb := hk_bd HOK.out (k : Int) b
        have HTI : Hid (turnI l ws k (stI l s ws k) = hkLo l k b + (wordI ws k).tmod (hkHi l k b - hkLo l k b + 1)) := by show _ = _; rw [HBE.out]; rfl
        have hw0 : 0 ≤ wordI ws k ∧ wordI ws k ≤ 65535 := by
          unfold wordI
          split
          · omega
          · obtain ⟨_, _, _, _, hcc⟩ := HW.out (by omega)
            exact (hcc _ (Nat.mod_lt _ (by omega))).2
        obtain ⟨lo, hlo⟩ : ∃ lo, lo = hkLo l k b := ⟨_, rfl⟩
        obtain ⟨hi, hhi⟩ : ∃ hi, hi = hkHi l k b := ⟨_, rfl⟩
        obtain ⟨x, hx⟩ : ∃ x, x = wordI ws k := ⟨_, rfl⟩
        rw [← hlo, ← hhi] at hkb H77 HTI
        rw [← hx] at hw0 HTI
        have hm0 := Int.emod_nonneg x (b := hi - lo + 1) (by omega)
        have hm1 := Int.emod_lt_of_pos x (b := hi - lo + 1) (by omega)
        have z3 : IntKind.i64.wrap (hi - lo) = hi - lo := IntWalk.i64_in _ (by omega)
        have z4 : IntKind.i64.wrap (hi - lo + 1) = hi - lo + 1 := IntWalk.i64_in _ (by omega)
        have z5 : x.tmod (hi - lo + 1) = x % (hi - lo + 1) := Int.tmod_eq_emod_of_nonneg hw0.1
        have z6 : IntKind.i64.wrap (x % (hi - lo + 1)) = x % (hi - lo + 1) := IntWalk.i64_in _ (by omega)
        have z7 : IntKind.i64.wrap (lo + x % (hi - lo + 1)) = lo + x % (hi - lo + 1) := IntWalk.i64_in _ (by omega)
        have z8 : ¬ (hi - lo + 1 = 0) := by omega
        have z9 : (hi - lo + 1 == 0) = false := by rw [beq_eq_false_iff_ne]; omega
        have HTB : Hid (-3 ≤ lo + x % (hi - lo + 1) ∧ lo + x % (hi - lo + 1) ≤ 3) := by show _ ∧ _; omega
        rw [z5] at HTI
        have H78 := Lib.hid (fun W hW => word78_c A ws c k W hW HC.out)
        rw [← hx] at H78
        clear hlo hhi hx hw0 hm0 hm1 hkb hon
        unfold LV at H77
        go_wp2_with fail
        refine (H69.out _).mono ?_
        rintro e w1 ⟨rfl, rfl⟩
        go_wp2_with fail
        refine H77.out.mono ?_
        rintro e w1 ⟨rfl, hb1⟩
        have HB1 := Lib.hid hb1
        have HZ1 := Lib.hid hb1.size
        clear hb1 H77 H69 r0 r1 r2 r3
        replace s0 := cell_of_ans HB1.out s0
        replace s1 := cell_of_ans HB1.out s1
        go_upto_region 6 with fail
        have HB3 : Hid (Below w1.heap.size w1 (w1.alloc (.cells #[.int .i64 lo, .int .i64 hi] 183))) := (Below.refl _ _).alloc (Nat.le_refl _) _
        have v0 : (w1.alloc (.cells #[.int .i64 lo, .int .i64 hi] 183)).cell? ⟨w1.heap.size, 0, none⟩ = some (.int .i64 lo) := by simp
        have v1 : (w1.alloc (.cells #[.int .i64 lo, .int .i64 hi] 183)).cell? ⟨w1.heap.size, 1, none⟩ = some (.int .i64 hi) := by simp
        replace s0 := cell_of_ans HB3.out s0
        replace s1 := cell_of_ans HB3.out s1
        have HQ1 := Lib.hid (Eq.refl w1.heap.size)
        generalize (w1.alloc (.cells #[.int .i64 lo, .int .i64 hi] 183)) = W3 at *
        have HB4 := Lib.hid ((HWR.out.trans (HB1.out.mono HWR.out.size)).trans (HB3.out.mono (Nat.le_trans HWR.out.size HZ1.out)))
        have HW4 := Lib.hid (HW.out.step HB4.out)
        have H78b := Lib.hid (H78.out W3.drew (HW4.out.step (Below.refl _ _).drew))
        clear H78
        generalize w1.heap.size = g1 at v0 v1 ⊢
        go_region_held3 (fun w' => w'.cell? ⟨g1, 0, none⟩ = some (.int .i64 lo) ∧ w'.cell? ⟨g1, 1, none⟩ = some (.int .i64 hi)) (go_keep) (first | (go_at_call 78; refine H78b.out.mono ?_; rintro e w2 ⟨rfl, rfl⟩))
        clear z3 z4 z5 z6 z7 z8 z9
        obtain ⟨T, hT⟩ : ∃ T, T = lo + x % (hi - lo + 1) := ⟨_, rfl⟩
        rw [← hT] at HTI HTB ⊢
        clear hT v0 v1 H78b
        replace s0 := cell_of_ans ((Below.refl _ W3).drew) s0
        replace s1 := cell_of_ans ((Below.refl _ W3).drew) s1
        have HB5 : Hid (Below wr.heap.size wr W3.drew) := (HB1.out.trans (HB3.out.mono HZ1.out)).drew
        have HO5 := Lib.hid (HOU.out.kept HB5.out)
        have HLN : Hid ((turnsL l s ws k).length = k) := turnsL_len _ _ _ _
        have hz5 : w.heap.size + 2 ≤ W3.drew.heap.size := Nat.le_trans hwr HB5.out.size
        generalize W3.drew = W5 at *
        go_wp2_with (at_builtin; refine wpList_appI (.tmp 43) (.tmp 45) rfl rfl (w.heap.size + 2) W5 _ (turnsL l s ws k) T k HLN.out rfl rfl HO5 (by rw [HLN.out]; omega) hz5 ?_; intro A6 c6 w6 HO6 HB6 HG6; have s0 := (HB6.out.cell (p := ⟨w.heap.size + 1, 0, none⟩) (by dsimp only; omega)).trans s0; have s1 := (HB6.out.cell (p := ⟨w.heap.size + 1, 1, none⟩) (by dsimp only; omega)).trans s1)
        refine (next79_c b d T HD5.out HBD.out HTB.out _).mono ?_
        rintro e w7 ⟨rfl, hb7⟩
        have HB7 := Lib.hid hb7
        clear hb7
        have HNX : Hid (nxt (b, d) T = stI l s ws (k + 1)) := by show _ = _; simp only [stI]; rw [HTI.out, HBE.out]
        rw [HNX.out]
        obtain ⟨s9, hs9⟩ : ∃ s9, s9 = stI l s ws (k + 1) := ⟨_, rfl⟩
        rw [← hs9]
        have HS9 := Lib.hid hs9
        have hbx : w6.heap[w.heap.size + 1]? = some (.cells #[.int .i64 b, .int .i64 d] 90) := (HB6.out.block _ (by omega)).trans ((HB5.out.block _ hwr).trans HST.out)
        have h67 : w.heap.size + 1 < w6.heap.size := (Array.getElem?_eq_some_iff.1 hbx).1
        have hbx7 : w7.heap[w.heap.size + 1]? = some (.cells #[.int .i64 b, .int .i64 d] 90) := (HB7.out.block _ h67).trans hbx
        have HF := Lib.hid (two_heap (x := .int .i64 s9.1) (y := .int .i64 s9.2) hbx7)
        replace s0 := cell_of_ans HB7.out s0
        replace s1 := cell_of_ans HB7.out s1
        have f0 : ∀ o, w7.frozen? ⟨w.heap.size + 1, o, none⟩ = false := fun o => by simp [World.frozen?, hbx7]
        have HOF := Lib.hid (own_set (own_set (HO6.out.kept HB7.out) (ad := ⟨w.heap.size + 1, 0, none⟩) (by dsimp only; omega) (.int .i64 s9.1)) (ad := ⟨w.heap.size + 1, 1, none⟩) (by dsimp only; omega) (.int .i64 s9.2))
        have HBF : Hid (Below (w.heap.size + 1) W0 ((w7.setCell ⟨w.heap.size + 1, 0, none⟩ (.int .i64 s9.1)).setCell ⟨w.heap.size + 1, 1, none⟩ (.int .i64 s9.2))) := ((((HBW.out.trans (HB5.out.mono (by omega))).trans (HB6.out.mono (by omega))).trans (HB7.out.mono (by omega))).setCell (by dsimp only; omega) _).setCell (by dsimp only; omega) _
        have HGN : Hid (goes l s ws (k + 1)) := by
          intro j hj
          rcases Nat.lt_or_ge j k with hjk | hjk
          · exact HG.out j hjk
          · obtain rfl : j = k := by omega
            exact ⟨h1, HON.out⟩
        clear hs9 hbx hbx7 HNX
        go_wp2_with fail
        go_roundw
        case rel => exact ⟨k + 1, HGN.out, by go_num, by rw [turnsL_succ, HTI.out]; exact HOF.out, HBF.out, by rw [← HS9.out]; exact HF.out⟩
        case measure => have := HOK.out.r1; simp [intOf]; omega
    · go_wp2_with fail
      go_ret
      exact FIN.out (fun h => by have := h.1; omega) _ HOU.out
end Go.Proofs.Ytenpiinkbfancaa.Pa
