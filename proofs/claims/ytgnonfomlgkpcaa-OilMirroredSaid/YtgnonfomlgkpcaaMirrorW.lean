/-
  OilMirrored: the walk.
-/
import Derived.Test.YtgnonfomlgkpcaaMirrorM
namespace Go.Proofs.Ytgnonfomlgkpcaa
open Go.RowKit
set_option linter.unusedSimpArgs false
set_option linter.unusedVariables false

/-- An own list of lines, each of an own list and one that lay below B. -/
def OwnT (B base : Nat) (w : World) (v : Value) (k : Nat) (ls : Lines) : Prop :=
  ∃ vs : List (Value × Value), vs.length = k ∧ w.ownsRow base 55 2 v k (flatV vs) ∧ ∀ j (h : j < vs.length), (OwnI base w (vs[j]).1 (lx ls j).1 ∧ NeB (vs[j]).1 v) ∧ IsInts B w (vs[j]).2 (lx ls j).2
theorem OwnT.nil (B base : Nat) (w : World) (ls : Lines) : OwnT B base w (.slice none 0 0) 0 ls := ⟨[], rfl, World.ownsRow_nil _ _ _ _, fun j h => by simp at h⟩
theorem OwnT.lns {B base : Nat} {w : World} {A : Option Addr} {n c : Nat} {ls : Lines} (h : OwnT B base w (.slice A n c) ls.length ls) (hB : B ≤ w.heap.size) : n = ls.length ∧ (ls.length ≤ c ∧ c ≤ 9223372036854775807) ∧ Lns w.heap.size w A ls := by
  obtain ⟨vs, hl, ho, hv⟩ := h
  rcases ho.2 with ⟨e, h0⟩ | ⟨g, cap, cur, e, hb, hg, hn, hm, hs, ht⟩
  · injection e with e1 e2 e3
    subst e1 e2 e3
    exact ⟨h0.symm, by omega, fun hp => by omega⟩
  · injection e with e1 e2 e3
    subst e1 e2 e3
    refine ⟨rfl, ⟨hn, by unfold maxLen at hm; omega⟩, fun hp => ⟨g, 0, rfl, (Array.getElem?_eq_some_iff.1 hg).1, fun k hk => ?_⟩⟩
    obtain ⟨a1, a2⟩ := flatV_at vs k (by omega)
    have b1 := ho.cells (g := g) rfl _ _ a1
    have b2 := ho.cells (g := g) rfl _ _ a2
    rw [add_eq] at b1 b2
    obtain ⟨c1, c2⟩ := hv k (by omega)
    exact ⟨_, _, b1, by rw [Nat.add_assoc]; exact b2, c1.1.isInts, c2.more hB⟩
theorem info55 : (Try.prog.info? 55).map (fun i => (i.zero, i.size, i.bytes)) = some (some (.agg #[.slice none 0 0, .slice none 0 0]), 2, 48) := by kernel_rfl
theorem src_line55 (w : World) (a b : Value) : Src (w.alloc (.cells #[a, b] 55)) 2 (some ⟨w.heap.size, 0, none⟩) 1 (flatV [(a, b)]) := by
  refine ⟨rfl, (fun h => by cases h), fun ad hA j u hu => ?_⟩
  injection hA with hA
  subst hA
  rw [add_eq]
  rcases j with _ | _ | j <;> simp [flatV] at hu
  all_goals
    subst hu
    simp
/-- An append of a turned line, at a step of a region that draws its order. -/
theorem step_app_turn {ops : Array Oper} {o : Oper} {a : Act} {K : Act → World → Prop} {Q : Exit → Act → World → Prop} {E : Prop} (s x : Operand) (hgd : o.guard = none) (ho : o.op = .call { callee := .builtin .append, args := #[s, x], argTypes := #[57, 57] }) (B base : Nat) (w w1 : World) (v : Value) (k : Nat) (ls : Lines) (u1 u2 : Value)
    (hv : a.eval s = v) (hx : a.eval x = .slice (some ⟨w1.heap.size, 0, none⟩) 1 1) (hR : Hid (OwnT B base w v k ls)) (h1 : Hid (OwnI w.heap.size w1 u1 (lx ls k).1)) (h2 : Hid (IsInts B w1 u2 (lx ls k).2)) (hW : Hid (Below w.heap.size w w1)) (hl : k ≤ 1000000) (hB : B ≤ base) (hb : base ≤ w.heap.size)
    (h : ∀ A c w', Hid (OwnT B base w' (.slice A (k + 1) c) (k + 1) ls) → Hid (Below base w w') → K (a.put o.dst (.slice A (k + 1) c)) w') :
    if Region.wanted o (yielded ops a.tmps) = true then Oper.wp Try.prog o a (w1.alloc (.cells #[u1, u2] 55)) K Q else E := by
  rw [if_pos (by simp [Region.wanted, hgd])]
  obtain ⟨i0, hi, hz0, hz1, hz2⟩ := info_parts info55
  obtain ⟨vs, hvl, hO, hvv⟩ := hR.out
  subst hvl
  have hO1 : (w1.alloc (.cells #[u1, u2] 55)).ownsRow base 55 2 v vs.length (flatV vs) := (hO.kept (only_below hW.out none) (own_ne v)).alloc _
  have hon : ∀ x ∈ flatV [(u1, u2)], x.oneCell' = true := by
    obtain ⟨Aa, ca, rfl⟩ := OwnI.form h1.out
    obtain ⟨Ab, cb, rfl, _⟩ := h2.out
    intro x hx
    simp [flatV] at hx
    rcases hx with rfl | rfl <;> rfl
  obtain ⟨v', w', hr, e1, e2, e3⟩ := run_append_src (P := Try.prog) base 57 o.type 55 i0 _ 2 48 Try.underlying57 hi hz0 hz1 hz2 rfl (by decide) v vs.length (flatV vs) hO1 (some ⟨w1.heap.size, 0, none⟩) 1 1 (flatV [(u1, u2)]) (src_line55 w1 _ _) hon (by unfold maxLen; omega) (by omega) (le_alloc hb hW.out)
  unfold Oper.wp execOp
  simp only [ho, resolve, invoke, builtin, Sem.run_bind, Sem.run_pure, Result.andThen_ok, List.map_toArray, List.map_cons, List.map_nil, hv, hx, hr]
  obtain ⟨A, c, rfl⟩ := ownsRow_form e1
  have hb1 : Below w.heap.size w (w1.alloc (.cells #[u1, u2] 55)) := hW.out.alloc hW.out.size _
  have hbb : Below base w w' := (hb1.mono hb).grown e2 (le_alloc hb hW.out) (fun j e => (hO.lt j e).1)
  have hsz := hW.out.size
  refine h A c w' ?_ hbb
  have key : ∀ {u : Value} {xs : List Int}, OwnI base (w1.alloc (.cells #[u1, u2] 55)) u xs → NeB u v → OwnI base w' u xs ∧ NeB u (.slice A (vs.length + 1) c) := fun {u xs} hu hn => ⟨World.ownsRow.kept hu e2 hn, hn.new hu e3 (Nat.le_refl _)⟩
  have hbB : Below B (w1.alloc (.cells #[u1, u2] 55)) w' := (Below.refl B _).grown e2 (by simp; omega) (fun j e => Nat.le_trans hB (hO.lt j e).1)
  show OwnT _ _ _ _ _ _
  refine ⟨vs ++ [(u1, u2)], by simp, by rw [flatV_append]; exact e1, fun j hj => ?_⟩
  rw [List.length_append] at hj
  simp only [List.length_cons, List.length_nil] at hj
  by_cases e : j < vs.length
  · obtain ⟨⟨a1, a2⟩, b1⟩ := hvv j e
    rw [List.getElem_append_left e]
    exact ⟨key (a1.kept hb1) a2, (b1.below (hb1.mono (by omega))).below hbB⟩
  · obtain rfl : j = vs.length := by omega
    rw [List.getElem_append_right (Nat.le_refl _)]
    simp only [Nat.sub_self, List.getElem_cons_zero]
    exact ⟨key (ownsRow_base (World.ownsRow.alloc h1.out _) hb) (NeB.old hO h1.out (Nat.le_refl _)), (h2.out.alloc (by omega) _).below hbB⟩
theorem four_cells {W0 w1 : World} {g : Nat} {a b c d : Value} {t : TypeId} (h : W0.heap[g]? = some (.cells #[a, b, c, d] t)) (hb : Below W0.heap.size W0 w1) :
    w1.cell? ⟨g, 0, none⟩ = some a ∧ w1.cell? ⟨g, 1, none⟩ = some b ∧ w1.cell? ⟨g, 2, none⟩ = some c ∧ w1.cell? ⟨g, 3, none⟩ = some d ∧ ∀ o, w1.frozen? ⟨g, o, none⟩ = false := by
  have h1 := (hb.block g (Array.getElem?_eq_some_iff.1 h).1).trans h
  simp [World.cell?, World.frozen?, h1]
theorem block42n_c (A : Option Addr) (ls : Lines) (n c : Nat) (w : World) (hn : ls.length = n) (hx : Lns w.heap.size w A ls) (hf : fewB ls = true) (hc : ls.length ≤ c ∧ c ≤ 9223372036854775807) :
    Calls Try.prog 42 #[.slice A n c] w (BlockP w ls) := by
  subst hn
  exact block42_c A ls c w hx hf hc
theorem few_acrL {ls : Lines} (n : Int) (h : fewB ls = true) : fewB (acrL n ls) = true := by
  obtain ⟨h1, h2⟩ := fewB_le h
  simp only [fewB, Bool.and_eq_true, decide_eq_true_eq, allB_iff]
  refine ⟨by rw [acrL_len]; exact h1, fun k hk => ?_⟩
  rw [acrL_len] at hk
  have := h2 k hk
  dsimp only
  rw [lx_acrL hk]
  dsimp only
  rw [acrR_len]
  simpa using this
theorem small_low {xss bss : List (List Int)} {lo hi ca : Int} (h : laneErr xss lo hi ca = 0) : (lowX xss bss lo hi ca).length ≤ 1000000 ∧ ∀ k, k < (lowX xss bss lo hi ca).length → (rx (lowX xss bss lo hi ca) k).length ≤ 1000000 := by
  obtain ⟨h0, h8, hr, _⟩ := laneOk h
  refine ⟨by rw [lowX_len]; omega, fun k hk => ?_⟩
  rw [lowX_len] at hk
  rw [lowX_row hk]
  have := (hr 0 h0).2.2
  omega
theorem small_high {xss bss : List (List Int)} {lo hi ca : Int} (h : laneErr xss lo hi ca = 0) : (highX xss bss lo hi ca).length ≤ 1000000 ∧ ∀ k, k < (highX xss bss lo hi ca).length → (rx (highX xss bss lo hi ca) k).length ≤ 1000000 := by
  obtain ⟨h0, h8, hr, _⟩ := laneOk h
  refine ⟨by rw [highX_len]; omega, fun k hk => ?_⟩
  rw [highX_len] at hk
  rw [highX_row hk]
  have := (hr 0 h0).2.2
  omega
theorem rowsA_c (A A' : Option Addr) (xss yss : List (List Int)) (c c' : Nat) (w : World) (hx : Grd w.heap.size w A xss) (hy : Grd w.heap.size w A' yss) (hc : xss.length ≤ c ∧ c ≤ 9223372036854775807) (hc' : yss.length ≤ c' ∧ c' ≤ 9223372036854775807) (h : xss = yss) :
    Calls Try.prog 24 #[.slice A xss.length c, .slice A' yss.length c'] w (Ans w (.bool true)) := rows_same_c A A' xss yss c c' w hx hy hc hc' h
theorem rowsN_c (A A' : Option Addr) (xss yss : List (List Int)) (n m c c' : Nat) (w : World) (hn : xss.length = n) (hm : yss.length = m) (hx : Grd w.heap.size w A xss) (hy : Grd w.heap.size w A' yss) (hc : xss.length ≤ c ∧ c ≤ 9223372036854775807) (hc' : yss.length ≤ c' ∧ c' ≤ 9223372036854775807) (h : xss = yss) :
    Calls Try.prog 24 #[.slice A n c, .slice A' m c'] w (Ans w (.bool true)) := by
  subst hn hm
  exact rows_same_c A A' xss yss c c' w hx hy hc hc' h

set_option maxRecDepth 100000 in
set_option maxHeartbeats 32000000 in
theorem oilMirrored_c (A Ab A' : Option Addr) (xss bss : List (List Int)) (ls : Lines) (c cb c' : Nat) (lo hi ca : Int) (w : World) (hx : Grd w.heap.size w A xss) (hbs : Grd w.heap.size w Ab bss) (hl : Lns w.heap.size w A' ls) (hc : xss.length ≤ c ∧ c ≤ 9223372036854775807) (hcb : bss.length ≤ cb ∧ cb ≤ 9223372036854775807) (hc' : ls.length ≤ c' ∧ c' ≤ 9223372036854775807) :
    Calls Try.prog 11 #[.agg #[.slice A xss.length c, .int .i64 lo, .int .i64 hi, .int .i64 ca], .slice Ab bss.length cb, .slice A' ls.length c'] w (Ans w (.bool true)) := by
  have hb0 : Below w.heap.size w (w.alloc (.cells #[.slice A xss.length c, .int .i64 lo, .int .i64 hi, .int .i64 ca] 26)) := (Below.refl _ _).alloc (Nat.le_refl _) _
  have k0 : (w.alloc (.cells #[.slice A xss.length c, .int .i64 lo, .int .i64 hi, .int .i64 ca] 26)).cell? ⟨w.heap.size, 0, none⟩ = some (.slice A xss.length c) := by simp
  have k1 : (w.alloc (.cells #[.slice A xss.length c, .int .i64 lo, .int .i64 hi, .int .i64 ca] 26)).cell? ⟨w.heap.size, 1, none⟩ = some (.int .i64 lo) := by simp
  have k2 : (w.alloc (.cells #[.slice A xss.length c, .int .i64 lo, .int .i64 hi, .int .i64 ca] 26)).cell? ⟨w.heap.size, 2, none⟩ = some (.int .i64 hi) := by simp
  have k3 : (w.alloc (.cells #[.slice A xss.length c, .int .i64 lo, .int .i64 hi, .int .i64 ca] 26)).cell? ⟨w.heap.size, 3, none⟩ = some (.int .i64 ca) := by simp
  have HX := Lib.hid (hx.step hb0)
  have HBs := Lib.hid (hbs.step hb0)
  have HL := Lib.hid (hl.step hb0)
  have HB := Lib.hid hb0
  clear hb0 hx hbs hl
  go_enter Try.func11, Try.ntmps11
  go_wp2_with fail
  generalize (w.alloc (.cells #[.slice A xss.length c, .int .i64 lo, .int .i64 hi, .int .i64 ca] 26)) = W0 at k0 k1 k2 k3 HX HBs HL HB ⊢
  cases hP : readyB xss lo hi ca bss
  · have HP := Lib.hid hP
    clear hP
    refine (ready_c A Ab xss bss c cb lo hi ca _ HX.out HBs.out hc hcb).mono ?_
    rw [HP.out]
    rintro e w1 ⟨rfl, hb⟩
    replace HX := Lib.hid (HX.out.step hb)
    replace HBs := Lib.hid (HBs.out.step hb)
    replace HL := Lib.hid (HL.out.step hb)
    replace k0 := cell_of_ans hb k0
    replace k1 := cell_of_ans hb k1
    replace k2 := cell_of_ans hb k2
    replace k3 := cell_of_ans hb k3
    replace HB := Lib.hid (HB.out.trans (hb.mono HB.out.size))
    clear hb
    go_wp2_with fail
    refine (awake_c _).mono ?_
    rintro e w9 ⟨rfl, hb⟩
    replace HX := Lib.hid (HX.out.step hb)
    replace HBs := Lib.hid (HBs.out.step hb)
    replace HL := Lib.hid (HL.out.step hb)
    replace k0 := cell_of_ans hb k0
    replace k1 := cell_of_ans hb k1
    replace k2 := cell_of_ans hb k2
    replace k3 := cell_of_ans hb k3
    replace HB := Lib.hid (HB.out.trans (hb.mono HB.out.size))
    clear hb
    go_wp2_with fail
    go_ret
    exact ⟨rfl, HB.out⟩
  · have HP := Lib.hid hP
    clear hP
    refine (ready_c A Ab xss bss c cb lo hi ca _ HX.out HBs.out hc hcb).mono ?_
    rw [HP.out]
    rintro e w1 ⟨rfl, hb⟩
    replace HX := Lib.hid (HX.out.step hb)
    replace HBs := Lib.hid (HBs.out.step hb)
    replace HL := Lib.hid (HL.out.step hb)
    replace k0 := cell_of_ans hb k0
    replace k1 := cell_of_ans hb k1
    replace k2 := cell_of_ans hb k2
    replace k3 := cell_of_ans hb k3
    replace HB := Lib.hid (HB.out.trans (hb.mono HB.out.size))
    clear hb
    cases hF : fewB ls
    · have HF := Lib.hid hF
      clear hF
      go_wp2_with fail
      refine (fewA_c A' ls c' _ HL.out hc').mono ?_
      rw [HF.out]
      rintro e w2 ⟨rfl, hb⟩
      replace HX := Lib.hid (HX.out.step hb)
      replace HBs := Lib.hid (HBs.out.step hb)
      replace HL := Lib.hid (HL.out.step hb)
      replace k0 := cell_of_ans hb k0
      replace k1 := cell_of_ans hb k1
      replace k2 := cell_of_ans hb k2
      replace k3 := cell_of_ans hb k3
      replace HB := Lib.hid (HB.out.trans (hb.mono HB.out.size))
      clear hb
      go_wp2_with fail
      refine (awake_c _).mono ?_
      rintro e w9 ⟨rfl, hb⟩
      replace HX := Lib.hid (HX.out.step hb)
      replace HBs := Lib.hid (HBs.out.step hb)
      replace HL := Lib.hid (HL.out.step hb)
      replace k0 := cell_of_ans hb k0
      replace k1 := cell_of_ans hb k1
      replace k2 := cell_of_ans hb k2
      replace k3 := cell_of_ans hb k3
      replace HB := Lib.hid (HB.out.trans (hb.mono HB.out.size))
      clear hb
      go_wp2_with fail
      go_ret
      exact ⟨rfl, HB.out⟩
    · have HF := Lib.hid hF
      obtain ⟨h25, h16⟩ := fewB_le hF
      clear hF h16
      go_wp2_with fail
      refine (fewA_c A' ls c' _ HL.out hc').mono ?_
      rw [HF.out]
      rintro e w2 ⟨rfl, hb⟩
      replace HX := Lib.hid (HX.out.step hb)
      replace HBs := Lib.hid (HBs.out.step hb)
      replace HL := Lib.hid (HL.out.step hb)
      replace k0 := cell_of_ans hb k0
      replace k1 := cell_of_ans hb k1
      replace k2 := cell_of_ans hb k2
      replace k3 := cell_of_ans hb k3
      replace HB := Lib.hid (HB.out.trans (hb.mono HB.out.size))
      clear hb
      go_wp2_with fail
      refine (blocked_c A A' xss ls c c' lo hi ca _ HX.out HL.out hc hc').mono ?_
      rintro e w3 ⟨rfl, hb⟩
      replace HX := Lib.hid (HX.out.step hb)
      replace HBs := Lib.hid (HBs.out.step hb)
      replace HL := Lib.hid (HL.out.step hb)
      replace k0 := cell_of_ans hb k0
      replace k1 := cell_of_ans hb k1
      replace k2 := cell_of_ans hb k2
      replace k3 := cell_of_ans hb k3
      replace HB := Lib.hid (HB.out.trans (hb.mono HB.out.size))
      clear hb
      by_cases hbe : blockErr xss lo hi ca ls = 0
      · obtain ⟨hs1, hs2, hE⟩ := readyB_ok HP.out
        have HS1 := Lib.hid hs1
        have HE := Lib.hid hE
        have HLE := Lib.hid (ballsOk hE).1
        obtain ⟨hn0, hn8, hrr, -⟩ := laneOk (ballsOk hE).1
        have hm20 := (ballsOk hE).2.1
        have h12 := (hrr 0 hn0).2.2
        have HBE := Lib.hid hbe
        have HBE2 := Lib.hid (mir_block hbe)
        have HE2 := Lib.hid (mir_balls hE)
        have HPL2 := Lib.hid (mir_plan hbe)
        have HML := Lib.hid (mir_low hE)
        have HMH := Lib.hid (mir_high hE)
        have HLE2 := Lib.hid (mir_lane HLE.out)
        have HFA := Lib.hid (few_acrL ((rx xss 0).length : Int) HF.out)
        have HSL := Lib.hid (small_low (bss := bss) HLE.out)
        have HSH := Lib.hid (small_high (bss := bss) HLE.out)
        have HBL : Hid (∀ i, i < bss.length → (rx bss i).length = xss.length ∧ ∀ j, j < xss.length → 0 ≤ ix (rx bss i) j ∧ ix (rx bss i) j < (rx xss 0).length) := (ballsOk hE).2.2
        have HLI : Hid (∀ i, i < ls.length → lineB xss (lx ls i).1 (lx ls i).2 = true) := linesOk (blockOk hbe).2.2
        rw [hbe]
        clear hbe hs1 hs2 hE hrr
        go_upto_region 4 with fail
        have hb1 : Below w3.heap.size w3 (w3.alloc (.cells #[.slice A xss.length c, .int .i64 lo, .int .i64 hi, .int .i64 ca] 26)) := (Below.refl _ _).alloc (Nat.le_refl _) _
        have hbx : (w3.alloc (.cells #[.slice A xss.length c, .int .i64 lo, .int .i64 hi, .int .i64 ca] 26)).heap[w3.heap.size]? = some (.cells #[.slice A xss.length c, .int .i64 lo, .int .i64 hi, .int .i64 ca] 26) := World.alloc_heap_new _ _
        have hzx : (w3.alloc (.cells #[.slice A xss.length c, .int .i64 lo, .int .i64 hi, .int .i64 ca] 26)).heap.size = w3.heap.size + 1 := by simp
        have n0 := cell_of_ans hb1 k0
        have HB1 := Lib.hid hb1
        have HXb := Lib.hid hbx
        have HZX := Lib.hid hzx
        have H44 := Lib.hid (mirroredR_c A xss c _ (HX.out.step hb1) (small_lane HLE.out).1 (small_lane HLE.out).2 hc)
        clear hb1 hbx hzx
        generalize (w3.alloc (.cells #[.slice A xss.length c, .int .i64 lo, .int .i64 hi, .int .i64 ca] 26)) = W4 at n0 HB1 HXb HZX H44 ⊢
        go_wp2_with fail
        clear n0
        refine H44.out.mono ?_
        rintro e w4 ⟨A2, c2, vs2, rfl, hR2, hb4⟩
        have HR2 := Lib.hid hR2
        have HB4 := Lib.hid hb4
        obtain ⟨s0, s1, s2, s3, s4⟩ := four_cells HXb.out hb4
        clear hR2 hb4 H44
        go_upto_region 5 with fail
        have hb : Below w3.heap.size w3 (w4.setCell ⟨w3.heap.size, 0, none⟩ (.slice A2 (mirX xss).length c2)) := (HB1.out.trans (HB4.out.mono (by have := HZX.out; omega))).setCell (by dsimp only; omega) _
        have hR2 := HR2.out.keptBy (only_setCell (u := .slice A2 (mirX xss).length c2) (p := ⟨w3.heap.size, 0, none⟩) (World.grownBy.refl w4 (some w3.heap.size)) (.inl rfl)) (by have := HZX.out; omega)
        have m0 : (w4.setCell ⟨w3.heap.size, 0, none⟩ (.slice A2 (mirX xss).length c2)).cell? ⟨w3.heap.size, 0, none⟩ = some (.slice A2 (mirX xss).length c2) := by
          have h1 := (HB4.out.block w3.heap.size (by have := HZX.out; omega)).trans HXb.out
          simp [World.cell?, World.setCell, Array.getElem?_modify, h1]
        have m1 : (w4.setCell ⟨w3.heap.size, 0, none⟩ (.slice A2 (mirX xss).length c2)).cell? ⟨w3.heap.size, 1, none⟩ = some (.int .i64 lo) := by
          have h1 := (HB4.out.block w3.heap.size (by have := HZX.out; omega)).trans HXb.out
          simp [World.cell?, World.setCell, Array.getElem?_modify, h1]
        have m2 : (w4.setCell ⟨w3.heap.size, 0, none⟩ (.slice A2 (mirX xss).length c2)).cell? ⟨w3.heap.size, 2, none⟩ = some (.int .i64 hi) := by
          have h1 := (HB4.out.block w3.heap.size (by have := HZX.out; omega)).trans HXb.out
          simp [World.cell?, World.setCell, Array.getElem?_modify, h1]
        have m3 : (w4.setCell ⟨w3.heap.size, 0, none⟩ (.slice A2 (mirX xss).length c2)).cell? ⟨w3.heap.size, 3, none⟩ = some (.int .i64 ca) := by
          have h1 := (HB4.out.block w3.heap.size (by have := HZX.out; omega)).trans HXb.out
          simp [World.cell?, World.setCell, Array.getElem?_modify, h1]
        obtain ⟨A2', c2', e2, hc2a, hc2b, g2⟩ := hR2.grd
        injection e2 with e2a _ e2b
        subst e2a e2b
        have hc2 : (mirX xss).length ≤ c2 ∧ c2 ≤ 9223372036854775807 := ⟨hc2a, hc2b⟩
        have Hg2 := Lib.hid g2
        clear g2 hR2 s0 s1 s2 s3 s4 HR2 HB4 HXb HB1 HZX hc2a hc2b
        replace HX := Lib.hid (HX.out.step hb)
        replace HBs := Lib.hid (HBs.out.step hb)
        replace HL := Lib.hid (HL.out.step hb)
        replace k0 := cell_of_ans hb k0
        replace k1 := cell_of_ans hb k1
        replace k2 := cell_of_ans hb k2
        replace k3 := cell_of_ans hb k3
        replace HB := Lib.hid (HB.out.trans (hb.mono HB.out.size))
        clear hb
        generalize w4.setCell ⟨w3.heap.size, 0, none⟩ (.slice A2 (mirX xss).length c2) = W5 at *
        generalize w3.heap.size = gx at *
        obtain ⟨bx, ox, A0, c0, hA, _, x0, _⟩ := HX.out.at_ hn0
        subst hA
        simp only [Nat.add_zero] at x0
        go_wp2_with fail
        generalize hnb : (rx xss 0).length = n at *
        have HNB := Lib.hid hnb
        clear hnb x0
        go_loopw [10, 9] (fun i v wr => ∃ (k : Nat) (vs : List Value), k ≤ bss.length ∧ i = .int .i64 (k : Int) ∧ Rws W5.heap.size wr v k vs (fun i => acrR n (rx bss i)) ∧ Below W5.heap.size W5 wr) (fun i _ _ => bss.length - (intOf i).toNat)
        case atStart => exact ⟨0, [], by omega, rfl, Rws.nil _ _ _, Below.refl _ _⟩
        case round =>
          obtain ⟨k, vs, hk, rfl, hO, hb⟩ := hrel
          have HO := Lib.hid hO
          have HBk := Lib.hid hb
          have hzk := hb.size
          by_cases h1 : k < bss.length
          · have h1i : (k : Int) < (bss.length : Int) := by omega
            obtain ⟨bb, ob, A3, c3, rfl, _, d0, q1, q2, hi3⟩ := (HBs.out.step hb).at_ h1
            obtain ⟨hlx, hbd⟩ := HBL.out k h1
            have H45 := Lib.hid (across_c A3 (rx bss k) c3 n wr hi3 (by omega) (by omega) (fun j hj => by have := hbd j (by omega); omega))
            clear hO hb hi3 hbd hlx
            go_wp2_with fail
            refine H45.out.mono ?_
            rintro e w6 ⟨A4, c4, rfl, ho4, hb6⟩
            have HO4 : Hid (OwnI wr.heap.size w6 (.slice A4 (acrR n (rx bss k)).length c4) ((fun i => acrR n (rx bss i)) k)) := ho4
            have HB6 := Lib.hid hb6
            clear ho4 hb6 H45
            go_wp2_with (at_builtin; refine wpList_app_row (.tmp 55) (.tmp 62) rfl rfl W5.heap.size wr w6 _ k vs (fun i => acrR n (rx bss i)) A4 _ c4 rfl rfl HO rfl HO4 HB6 (by omega) hzk ?_; intro A5 c5 vs5 w7 HO7 HB7)
            go_roundw
            case rel => exact ⟨k + 1, vs5, by omega, by go_num, HO7.out, HBk.out.trans HB7.out⟩
            case measure => simp [intOf]; omega
          · obtain rfl : k = bss.length := by omega
            have h1i : ¬ (bss.length : Int) < (bss.length : Int) := by omega
            have hG : Rws W5.heap.size wr u9 (acrB n bss).length vs (rx (acrB n bss)) := by
              rw [acrB_len]
              exact hO.congr fun j hj => rx_acrB hj
            obtain ⟨Ao, co, rfl, hco1, hco2, go⟩ := hG.grd
            have hco : (acrB n bss).length ≤ co ∧ co ≤ 9223372036854775807 := ⟨hco1, hco2⟩
            have Hgo := Lib.hid go
            clear hG go hO HO HBk hco1 hco2
            replace HX := Lib.hid (HX.out.step hb)
            replace HBs := Lib.hid (HBs.out.step hb)
            replace HL := Lib.hid (HL.out.step hb)
            replace k0 := cell_of_ans hb k0
            replace k1 := cell_of_ans hb k1
            replace k2 := cell_of_ans hb k2
            replace k3 := cell_of_ans hb k3
            replace Hg2 := Lib.hid (Hg2.out.step hb)
            replace m0 := cell_of_ans hb m0
            replace m1 := cell_of_ans hb m1
            replace m2 := cell_of_ans hb m2
            replace m3 := cell_of_ans hb m3
            replace HB := Lib.hid (HB.out.trans (hb.mono HB.out.size))
            clear hb
            go_wp2_with fail
            rename World => w8
            obtain ⟨W8z, hW8z⟩ : ∃ z, z = w8.heap.size := ⟨_, rfl⟩
            go_loopw [12, 11] (fun i v wr => ∃ (k : Nat) (Av : Option Addr) (cv : Nat), k ≤ ls.length ∧ i = .int .i64 (k : Int) ∧ v = .slice Av k cv ∧ OwnT W8z W8z wr (.slice Av k cv) k (acrL n ls) ∧ Below W8z w8 wr) (fun i _ _ => ls.length - (intOf i).toNat)
            case atStart => exact ⟨0, none, 0, by omega, rfl, rfl, OwnT.nil _ _ _ _, Below.refl _ _⟩
            case round =>
              obtain ⟨k, Av, cv, hk, rfl, rfl, hO, hb⟩ := hrel
              have HO := Lib.hid hO
              have HBk := Lib.hid hb
              subst hW8z
              by_cases h2 : k < ls.length
              · have h2i : (k : Int) < (ls.length : Int) := by omega
                have h2b : (0 : Int) ≤ (k : Int) := by omega
                obtain ⟨bl, ol, A6, c6, A7, c7, rfl, j0, j1, q1, q2, hi1, hi2⟩ := (HL.out.below hb).at_ h2
                have HBLT : Hid (bl < w8.heap.size) := by
                  obtain ⟨b', o', e', hlt, _⟩ := HL.out (by omega)
                  injection e' with e'
                  injection e' with e1 _ _
                  show _ < _
                  omega
                obtain ⟨hlx, hnd, _⟩ := lineOk (HLI.out k h2)
                have HLX := Lib.hid (lx_acrL (n := n) h2)
                have HZ8 : Hid (w8.heap.size ≤ wr.heap.size) := hb.size
                have HWD : Hid (Below wr.heap.size wr wr.drew) := (Below.refl _ _).drew
                have H45 : Hid (∀ W, Below wr.heap.size wr W → Calls Try.prog 45 #[.slice A6 (lx ls k).1.length c6, .int .i64 (n : Int)] W (NewO W (acrR n (lx ls k).1))) := fun W hW => by
                  have hz := hW.size
                  have hz8 := hb.size
                  exact across_c A6 (lx ls k).1 c6 n W ((hi1.below (hW.mono hz8)).more (by omega)) (by have := hlx.1; omega) (by omega) (fun j hj => by have := hlx.2 j (by have := hlx.1; omega); have := HNB.out; omega)
                have HND : Hid (IsInts w8.heap.size wr (.slice A7 (lx ls k).2.length c7) (lx ls k).2) := ⟨A7, c7, rfl, q2.1, q2.2, hi2⟩
                have HOD : Hid (OwnT w8.heap.size w8.heap.size wr.drew (.slice Av k cv) k (acrL n ls)) := by
                  obtain ⟨vs, e1, e2, e3⟩ := hO
                  have hdd : Below wr.heap.size wr wr.drew := (Below.refl _ _).drew
                  exact ⟨vs, e1, World.ownsRow.kept e2 (only_below hdd none) (own_ne _), fun j hj => ⟨⟨(e3 j hj).1.1.kept hdd, (e3 j hj).1.2⟩, (e3 j hj).2.below (hdd.mono hb.size)⟩⟩
                have hll : k ≤ 1000000 := by omega
                clear hO hb hi1 hi2 hlx hnd
                go_wp2_with fail
                refine wp_region_noPanic ?_
                have hS : (fun w' : World => w'.cell? ⟨bl, ol + k * 2, none⟩ = some (.slice A6 (lx ls k).1.length c6) ∧ w'.cell? ⟨bl, ol + k * 2 + 1, none⟩ = some (.slice A7 (lx ls k).2.length c7)) wr.drew := ⟨j0, j1⟩
                refine wp_region_any (by kernel_rfl) (wpAny_of_T (S := fun w' : World => w'.cell? ⟨bl, ol + k * 2, none⟩ = some (.slice A6 (lx ls k).1.length c6) ∧ w'.cell? ⟨bl, ol + k * 2 + 1, none⟩ = some (.slice A7 (lx ls k).2.length c7)) (m := 17) _ _ _ _ ?_)
                refine' T_take (i := 0) (v := _) rfl (by kernel_rfl) (by kernel_rfl) (by kernel_rfl) (by kernel_rfl) (fun _ _ _ h => h) (by kernel_rfl) hS ?_ ?_
                rotate_left 1
                · intro Wv hW
                  obtain ⟨s0, s1⟩ := hW
                  go_simp
                  first | done | with_reducible rfl
                try simp only [Act.put, List.setIfInBounds_toArray, List.set_cons_zero, List.set_cons_succ]
                refine' T_take (i := 1) (v := _) rfl (by kernel_rfl) (by kernel_rfl) (by kernel_rfl) (by kernel_rfl) (fun _ _ _ h => h) (by kernel_rfl) hS ?_ ?_
                rotate_left 1
                · intro Wv hW
                  obtain ⟨s0, s1⟩ := hW
                  go_simp
                  first | done | with_reducible rfl
                try simp only [Act.put, List.setIfInBounds_toArray, List.set_cons_zero, List.set_cons_succ]
                refine' T_take (i := 2) (v := _) rfl (by kernel_rfl) (by kernel_rfl) (by kernel_rfl) (by kernel_rfl) (fun _ _ _ h => h) (by kernel_rfl) hS ?_ ?_
                rotate_left 1
                · intro Wv hW
                  obtain ⟨s0, s1⟩ := hW
                  go_simp
                  first | done | with_reducible rfl
                try simp only [Act.put, List.setIfInBounds_toArray, List.set_cons_zero, List.set_cons_succ]
                refine' T_take (i := 3) (v := _) rfl (by kernel_rfl) (by kernel_rfl) (by kernel_rfl) (by kernel_rfl) (fun _ _ _ h => h) (by kernel_rfl) hS ?_ ?_
                rotate_left 1
                · intro Wv hW
                  obtain ⟨s0, s1⟩ := hW
                  go_simp
                  first | done | with_reducible rfl
                try simp only [Act.put, List.setIfInBounds_toArray, List.set_cons_zero, List.set_cons_succ]
                refine' T_take (i := 4) (v := _) rfl (by kernel_rfl) (by kernel_rfl) (by kernel_rfl) (by kernel_rfl) (fun _ _ _ h => h) (by kernel_rfl) hS ?_ ?_
                rotate_left 1
                · intro Wv hW
                  obtain ⟨s0, s1⟩ := hW
                  go_simp
                  first | done | with_reducible rfl
                try simp only [Act.put, List.setIfInBounds_toArray, List.set_cons_zero, List.set_cons_succ]
                refine' T_take (i := 5) (v := _) rfl (by kernel_rfl) (by kernel_rfl) (by kernel_rfl) (by kernel_rfl) (fun _ _ _ h => h) (by kernel_rfl) hS ?_ ?_
                rotate_left 1
                · intro Wv hW
                  obtain ⟨s0, s1⟩ := hW
                  go_simp
                  first | done | with_reducible rfl
                try simp only [Act.put, List.setIfInBounds_toArray, List.set_cons_zero, List.set_cons_succ]
                refine' T_take (i := 6) (v := _) rfl (by kernel_rfl) (by kernel_rfl) (by kernel_rfl) (by kernel_rfl) (fun _ _ _ h => h) (by kernel_rfl) hS ?_ ?_
                rotate_left 1
                · intro Wv hW
                  obtain ⟨s0, s1⟩ := hW
                  go_simp
                  first | done | with_reducible rfl
                try simp only [Act.put, List.setIfInBounds_toArray, List.set_cons_zero, List.set_cons_succ]
                refine' T_take (i := 8) (v := _) rfl (by kernel_rfl) (by kernel_rfl) (by kernel_rfl) (by kernel_rfl) (fun _ _ _ h => h) (by kernel_rfl) hS ?_ ?_
                rotate_left 1
                · intro Wv hW
                  obtain ⟨s0, s1⟩ := hW
                  go_simp
                  first | done | with_reducible rfl
                try simp only [Act.put, List.setIfInBounds_toArray, List.set_cons_zero, List.set_cons_succ]
                refine' T_take (i := 9) (v := _) rfl (by kernel_rfl) (by kernel_rfl) (by kernel_rfl) (by kernel_rfl) (fun _ _ _ h => h) (by kernel_rfl) hS ?_ ?_
                rotate_left 1
                · intro Wv hW
                  obtain ⟨s0, s1⟩ := hW
                  go_simp
                  first | done | with_reducible rfl
                try simp only [Act.put, List.setIfInBounds_toArray, List.set_cons_zero, List.set_cons_succ]
                refine' T_take (i := 10) (v := _) rfl (by kernel_rfl) (by kernel_rfl) (by kernel_rfl) (by kernel_rfl) (fun _ _ _ h => h) (by kernel_rfl) hS ?_ ?_
                rotate_left 1
                · intro Wv hW
                  obtain ⟨s0, s1⟩ := hW
                  go_simp
                  first | done | with_reducible rfl
                try simp only [Act.put, List.setIfInBounds_toArray, List.set_cons_zero, List.set_cons_succ]
                refine' T_take (i := 11) (v := _) rfl (by kernel_rfl) (by kernel_rfl) (by kernel_rfl) (by kernel_rfl) (fun _ _ _ h => h) (by kernel_rfl) hS ?_ ?_
                rotate_left 1
                · intro Wv hW
                  obtain ⟨s0, s1⟩ := hW
                  go_simp
                  first | done | with_reducible rfl
                try simp only [Act.put, List.setIfInBounds_toArray, List.set_cons_zero, List.set_cons_succ]
                refine' T_take (i := 12) (v := _) rfl (by kernel_rfl) (by kernel_rfl) (by kernel_rfl) (by kernel_rfl) (fun _ _ _ h => h) (by kernel_rfl) hS ?_ ?_
                rotate_left 1
                · intro Wv hW
                  obtain ⟨s0, s1⟩ := hW
                  go_simp
                  first | done | with_reducible rfl
                try simp only [Act.put, List.setIfInBounds_toArray, List.set_cons_zero, List.set_cons_succ]
                refine T_ready (rs := [7]) (by kernel_rfl) (by simp) ?_
                refine TReady.cons rfl (fun K hK => ?_) TReady.nil
                try go_simp
                refine (H45.out _ HWD.out).mono ?_
                rintro e w9 ⟨A8, c8, rfl, ho8, hb9⟩
                have HO8 : Hid (OwnI wr.drew.heap.size w9 (.slice A8 (acrR n (lx ls k).1).length c8) (lx (acrL n ls) k).1) := by show OwnI _ _ _ _; rw [HLX.out]; exact ho8
                have HB9 := Lib.hid hb9
                have HN9 : Hid (IsInts w8.heap.size w9 (.slice A7 (lx ls k).2.length c7) (lx (acrL n ls) k).2) := by show IsInts _ _ _ _; rw [HLX.out]; exact (HND.out.below ((below_drew_l hb9).mono HZ8.out))
                clear ho8 hb9
                try go_simp
                refine hK.out _ _ (fun _ => ⟨cell_of_ans HB9.out hS.1, cell_of_ans HB9.out hS.2⟩) (fun hS => ?_)
                replace hS := hS (by decide)
                clear hK K
                try simp only [Act.put, List.setIfInBounds_toArray, List.set_cons_zero, List.set_cons_succ]
                refine' T_take (i := 13) (v := _) rfl (by kernel_rfl) (by kernel_rfl) (by kernel_rfl) (by kernel_rfl) (fun _ _ _ h => h) (by kernel_rfl) hS ?_ ?_
                rotate_left 1
                · intro Wv hW
                  obtain ⟨s0, s1⟩ := hW
                  go_simp
                  first | done | with_reducible rfl
                try simp only [Act.put, List.setIfInBounds_toArray, List.set_cons_zero, List.set_cons_succ]
                refine T_ready (rs := [14]) (by kernel_rfl) (by simp) ?_
                refine TReady.cons rfl (fun K hK => ?_) TReady.nil
                try go_simp
                refine hK.out _ _ (fun _ => ⟨cell_alloc_keep _ hS.1, cell_alloc_keep _ hS.2⟩) (fun hS => ?_)
                replace hS := hS (by decide)
                clear hK K
                try simp only [Act.put, List.setIfInBounds_toArray, List.set_cons_zero, List.set_cons_succ]
                refine T_ready (rs := [15]) (by kernel_rfl) (by simp) ?_
                refine TReady.cons rfl (fun K hK => ?_) TReady.nil
                refine step_app_turn (.tmp 70) (.tmp 84) rfl rfl w8.heap.size w8.heap.size wr.drew w9 _ k (acrL n ls) _ _ rfl rfl HOD HO8 HN9 HB9 (by omega) (Nat.le_refl _) HZ8.out ?_
                intro A9 c9 w10 HO10 HB10
                refine hK.out _ _ (fun _ => ⟨cell_under HB10.out ((cell_of_ans HWD.out j0)) HBLT.out, cell_under HB10.out ((cell_of_ans HWD.out j1)) HBLT.out⟩) (fun hS => ?_)
                replace hS := hS (by decide)
                clear hK K
                try simp only [Act.put, List.setIfInBounds_toArray, List.set_cons_zero, List.set_cons_succ]
                refine' T_take (i := 16) (v := _) rfl (by kernel_rfl) (by kernel_rfl) (by kernel_rfl) (by kernel_rfl) (fun _ _ _ h => h) (by kernel_rfl) hS ?_ ?_
                rotate_left 1
                · intro Wv hW
                  obtain ⟨s0, s1⟩ := hW
                  go_simp
                  first | done | with_reducible rfl
                try simp only [Act.put, List.setIfInBounds_toArray, List.set_cons_zero, List.set_cons_succ]
                refine T_done (by kernel_rfl) ?_ _
                refine NoPanic.normal ?_
                go_wp2_with fail
                go_roundw
                case rel => exact ⟨k + 1, A9, c9, by omega, by go_num, rfl, HO10.out, HBk.out.trans ((HWD.out.mono HZ8.out).trans HB10.out)⟩
                case measure => simp [intOf]; omega
              · obtain rfl : k = ls.length := by omega
                have h2i : ¬ (ls.length : Int) < (ls.length : Int) := by omega
                have hO2 : OwnT w8.heap.size w8.heap.size wr (.slice Av ls.length cv) (acrL n ls).length (acrL n ls) := by rw [acrL_len]; exact hO
                obtain ⟨-, hct, gt⟩ := hO2.lns hb.size
                have HALN := Lib.hid (acrL_len n ls)
                have Hgt := Lib.hid gt
                clear hO2 gt hO HO HBk
                replace HX := Lib.hid (HX.out.step hb)
                replace HBs := Lib.hid (HBs.out.step hb)
                replace HL := Lib.hid (HL.out.step hb)
                replace k0 := cell_of_ans hb k0
                replace k1 := cell_of_ans hb k1
                replace k2 := cell_of_ans hb k2
                replace k3 := cell_of_ans hb k3
                replace Hg2 := Lib.hid (Hg2.out.step hb)
                replace m0 := cell_of_ans hb m0
                replace m1 := cell_of_ans hb m1
                replace m2 := cell_of_ans hb m2
                replace m3 := cell_of_ans hb m3
                replace Hgo := Lib.hid (Hgo.out.step hb)
                replace HB := Lib.hid (HB.out.trans (hb.mono HB.out.size))
                clear hb
                have HACB := Lib.hid (acrB_len n bss)
                have HMXL := Lib.hid (mirX_len xss)
                have HNX : Hid ((rx xss 0).length = n) := HNB.out
                go_wp2_with fail
                refine (lane_c _ xss c lo hi ca _ (Nat.le_refl _) HX.out (small_lane HLE.out).1 (small_lane HLE.out).2).mono ?_
                rintro e w11 ⟨B2, d2, rfl, hd2, e2, hb⟩
                replace HX := Lib.hid (HX.out.step hb)
                replace HBs := Lib.hid (HBs.out.step hb)
                replace HL := Lib.hid (HL.out.step hb)
                replace k0 := cell_of_ans hb k0
                replace k1 := cell_of_ans hb k1
                replace k2 := cell_of_ans hb k2
                replace k3 := cell_of_ans hb k3
                replace Hg2 := Lib.hid (Hg2.out.step hb)
                replace m0 := cell_of_ans hb m0
                replace m1 := cell_of_ans hb m1
                replace m2 := cell_of_ans hb m2
                replace m3 := cell_of_ans hb m3
                replace Hgo := Lib.hid (Hgo.out.step hb)
                replace Hgt := Lib.hid (Hgt.out.step hb)
                replace HB := Lib.hid (HB.out.trans (hb.mono HB.out.size))
                clear hb
                have He2 := Lib.hid e2
                clear e2
                go_wp2_with fail
                refine (copied_new_c _ bss cb _ HBs.out (small_balls HE.out).1 (small_balls HE.out).2).mono ?_
                rintro e w12 ⟨B3, d3, rfl, hd3, e3, hb⟩
                replace HX := Lib.hid (HX.out.step hb)
                replace HBs := Lib.hid (HBs.out.step hb)
                replace HL := Lib.hid (HL.out.step hb)
                replace k0 := cell_of_ans hb k0
                replace k1 := cell_of_ans hb k1
                replace k2 := cell_of_ans hb k2
                replace k3 := cell_of_ans hb k3
                replace Hg2 := Lib.hid (Hg2.out.step hb)
                replace m0 := cell_of_ans hb m0
                replace m1 := cell_of_ans hb m1
                replace m2 := cell_of_ans hb m2
                replace m3 := cell_of_ans hb m3
                replace Hgo := Lib.hid (Hgo.out.step hb)
                replace Hgt := Lib.hid (Hgt.out.step hb)
                replace He2 := Lib.hid (He2.out.step hb)
                replace HB := Lib.hid (HB.out.trans (hb.mono HB.out.size))
                clear hb
                have He3 := Lib.hid e3
                clear e3
                go_wp2_with fail
                refine (bounds_ok_c B2 B3 xss bss d2 d3 lo hi ca _ He2.out He3.out hd2 hd3 HE.out).mono ?_
                rintro e w13 ⟨B4, d4, B5, d5, rfl, hd4, hd5, e4, e5, hb⟩
                replace HX := Lib.hid (HX.out.step hb)
                replace HBs := Lib.hid (HBs.out.step hb)
                replace HL := Lib.hid (HL.out.step hb)
                replace k0 := cell_of_ans hb k0
                replace k1 := cell_of_ans hb k1
                replace k2 := cell_of_ans hb k2
                replace k3 := cell_of_ans hb k3
                replace Hg2 := Lib.hid (Hg2.out.step hb)
                replace m0 := cell_of_ans hb m0
                replace m1 := cell_of_ans hb m1
                replace m2 := cell_of_ans hb m2
                replace m3 := cell_of_ans hb m3
                replace Hgo := Lib.hid (Hgo.out.step hb)
                replace Hgt := Lib.hid (Hgt.out.step hb)
                replace He2 := Lib.hid (He2.out.step hb)
                replace He3 := Lib.hid (He3.out.step hb)
                replace HB := Lib.hid (HB.out.trans (hb.mono HB.out.size))
                clear hb
                have He4 := Lib.hid e4
                clear e4
                have He5 := Lib.hid e5
                clear e5
                clear He2 He3
                clear hd2 hd3
                go_wp2_with fail
                refine (lane_c A2 (mirX xss) c2 lo hi ca _ (Nat.le_refl _) Hg2.out (small_lane HLE2.out).1 (small_lane HLE2.out).2).mono ?_
                rintro e w14 ⟨B6, d6, rfl, hd6, e6, hb⟩
                replace HX := Lib.hid (HX.out.step hb)
                replace HBs := Lib.hid (HBs.out.step hb)
                replace HL := Lib.hid (HL.out.step hb)
                replace k0 := cell_of_ans hb k0
                replace k1 := cell_of_ans hb k1
                replace k2 := cell_of_ans hb k2
                replace k3 := cell_of_ans hb k3
                replace Hg2 := Lib.hid (Hg2.out.step hb)
                replace m0 := cell_of_ans hb m0
                replace m1 := cell_of_ans hb m1
                replace m2 := cell_of_ans hb m2
                replace m3 := cell_of_ans hb m3
                replace Hgo := Lib.hid (Hgo.out.step hb)
                replace Hgt := Lib.hid (Hgt.out.step hb)
                replace He4 := Lib.hid (He4.out.step hb)
                replace He5 := Lib.hid (He5.out.step hb)
                replace HB := Lib.hid (HB.out.trans (hb.mono HB.out.size))
                clear hb
                have He6 := Lib.hid e6
                clear e6
                skip
                go_wp2_with fail
                refine (bounds_ok_c B6 Ao (mirX xss) (acrB n bss) d6 co lo hi ca _ He6.out Hgo.out hd6 hco HE2.out).mono ?_
                rintro e w15 ⟨B7, d7, B8, d8, rfl, hd7, hd8, e7, e8, hb⟩
                replace HX := Lib.hid (HX.out.step hb)
                replace HBs := Lib.hid (HBs.out.step hb)
                replace HL := Lib.hid (HL.out.step hb)
                replace k0 := cell_of_ans hb k0
                replace k1 := cell_of_ans hb k1
                replace k2 := cell_of_ans hb k2
                replace k3 := cell_of_ans hb k3
                replace Hg2 := Lib.hid (Hg2.out.step hb)
                replace m0 := cell_of_ans hb m0
                replace m1 := cell_of_ans hb m1
                replace m2 := cell_of_ans hb m2
                replace m3 := cell_of_ans hb m3
                replace Hgo := Lib.hid (Hgo.out.step hb)
                replace Hgt := Lib.hid (Hgt.out.step hb)
                replace He4 := Lib.hid (He4.out.step hb)
                replace He5 := Lib.hid (He5.out.step hb)
                replace He6 := Lib.hid (He6.out.step hb)
                replace HB := Lib.hid (HB.out.trans (hb.mono HB.out.size))
                clear hb
                have He7 := Lib.hid e7
                clear e7
                have He8 := Lib.hid e8
                clear e8
                clear He6
                clear hd6
                cases hpl : planB xss lo hi ca ls with
                | none =>
                  have HPL := Lib.hid hpl
                  have HPM := Lib.hid (HPL2.out.trans hpl)
                  clear hpl
                  go_wp2_with fail
                  refine (lane_c _ xss c lo hi ca _ (Nat.le_refl _) HX.out (small_lane HLE.out).1 (small_lane HLE.out).2).mono ?_
                  rintro e w16 ⟨B9, d9, rfl, hd9, e9, hb⟩
                  replace HX := Lib.hid (HX.out.step hb)
                  replace HBs := Lib.hid (HBs.out.step hb)
                  replace HL := Lib.hid (HL.out.step hb)
                  replace k0 := cell_of_ans hb k0
                  replace k1 := cell_of_ans hb k1
                  replace k2 := cell_of_ans hb k2
                  replace k3 := cell_of_ans hb k3
                  replace Hg2 := Lib.hid (Hg2.out.step hb)
                  replace m0 := cell_of_ans hb m0
                  replace m1 := cell_of_ans hb m1
                  replace m2 := cell_of_ans hb m2
                  replace m3 := cell_of_ans hb m3
                  replace Hgo := Lib.hid (Hgo.out.step hb)
                  replace Hgt := Lib.hid (Hgt.out.step hb)
                  replace He4 := Lib.hid (He4.out.step hb)
                  replace He5 := Lib.hid (He5.out.step hb)
                  replace He7 := Lib.hid (He7.out.step hb)
                  replace He8 := Lib.hid (He8.out.step hb)
                  replace HB := Lib.hid (HB.out.trans (hb.mono HB.out.size))
                  clear hb
                  have He9 := Lib.hid e9
                  clear e9
                  go_wp2_with fail
                  refine (block42_c _ ls c' _ HL.out HF.out hc').mono ?_
                  rintro e w17 ⟨B10, d10, rfl, hd10, e10, hb⟩
                  replace HX := Lib.hid (HX.out.step hb)
                  replace HBs := Lib.hid (HBs.out.step hb)
                  replace HL := Lib.hid (HL.out.step hb)
                  replace k0 := cell_of_ans hb k0
                  replace k1 := cell_of_ans hb k1
                  replace k2 := cell_of_ans hb k2
                  replace k3 := cell_of_ans hb k3
                  replace Hg2 := Lib.hid (Hg2.out.step hb)
                  replace m0 := cell_of_ans hb m0
                  replace m1 := cell_of_ans hb m1
                  replace m2 := cell_of_ans hb m2
                  replace m3 := cell_of_ans hb m3
                  replace Hgo := Lib.hid (Hgo.out.step hb)
                  replace Hgt := Lib.hid (Hgt.out.step hb)
                  replace He4 := Lib.hid (He4.out.step hb)
                  replace He5 := Lib.hid (He5.out.step hb)
                  replace He7 := Lib.hid (He7.out.step hb)
                  replace He8 := Lib.hid (He8.out.step hb)
                  replace He9 := Lib.hid (He9.out.step hb)
                  replace HB := Lib.hid (HB.out.trans (hb.mono HB.out.size))
                  clear hb
                  have He10 := Lib.hid e10
                  clear e10
                  go_wp2_with fail
                  refine (plan_none_c B9 B10 xss ls d9 d10 lo hi ca _ He9.out He10.out hd9 hd10 HBE.out HPL.out).mono ?_
                  rintro e w18 ⟨rfl, hb⟩
                  replace HX := Lib.hid (HX.out.step hb)
                  replace HBs := Lib.hid (HBs.out.step hb)
                  replace HL := Lib.hid (HL.out.step hb)
                  replace k0 := cell_of_ans hb k0
                  replace k1 := cell_of_ans hb k1
                  replace k2 := cell_of_ans hb k2
                  replace k3 := cell_of_ans hb k3
                  replace Hg2 := Lib.hid (Hg2.out.step hb)
                  replace m0 := cell_of_ans hb m0
                  replace m1 := cell_of_ans hb m1
                  replace m2 := cell_of_ans hb m2
                  replace m3 := cell_of_ans hb m3
                  replace Hgo := Lib.hid (Hgo.out.step hb)
                  replace Hgt := Lib.hid (Hgt.out.step hb)
                  replace He4 := Lib.hid (He4.out.step hb)
                  replace He5 := Lib.hid (He5.out.step hb)
                  replace He7 := Lib.hid (He7.out.step hb)
                  replace He8 := Lib.hid (He8.out.step hb)
                  replace He9 := Lib.hid (He9.out.step hb)
                  replace He10 := Lib.hid (He10.out.step hb)
                  replace HB := Lib.hid (HB.out.trans (hb.mono HB.out.size))
                  clear hb
                  clear He9 He10
                  clear hd9 hd10
                  go_wp2_with fail
                  refine (lane_c A2 (mirX xss) c2 lo hi ca _ (Nat.le_refl _) Hg2.out (small_lane HLE2.out).1 (small_lane HLE2.out).2).mono ?_
                  rintro e w19 ⟨B12, d12, rfl, hd12, e12, hb⟩
                  replace HX := Lib.hid (HX.out.step hb)
                  replace HBs := Lib.hid (HBs.out.step hb)
                  replace HL := Lib.hid (HL.out.step hb)
                  replace k0 := cell_of_ans hb k0
                  replace k1 := cell_of_ans hb k1
                  replace k2 := cell_of_ans hb k2
                  replace k3 := cell_of_ans hb k3
                  replace Hg2 := Lib.hid (Hg2.out.step hb)
                  replace m0 := cell_of_ans hb m0
                  replace m1 := cell_of_ans hb m1
                  replace m2 := cell_of_ans hb m2
                  replace m3 := cell_of_ans hb m3
                  replace Hgo := Lib.hid (Hgo.out.step hb)
                  replace Hgt := Lib.hid (Hgt.out.step hb)
                  replace He4 := Lib.hid (He4.out.step hb)
                  replace He5 := Lib.hid (He5.out.step hb)
                  replace He7 := Lib.hid (He7.out.step hb)
                  replace He8 := Lib.hid (He8.out.step hb)
                  replace HB := Lib.hid (HB.out.trans (hb.mono HB.out.size))
                  clear hb
                  have He12 := Lib.hid e12
                  clear e12
                  go_wp2_with fail
                  refine (block42n_c Av (acrL n ls) _ cv _ HALN.out Hgt.out HFA.out hct).mono ?_
                  rintro e w20 ⟨B13, d13, rfl, hd13, e13, hb⟩
                  replace HX := Lib.hid (HX.out.step hb)
                  replace HBs := Lib.hid (HBs.out.step hb)
                  replace HL := Lib.hid (HL.out.step hb)
                  replace k0 := cell_of_ans hb k0
                  replace k1 := cell_of_ans hb k1
                  replace k2 := cell_of_ans hb k2
                  replace k3 := cell_of_ans hb k3
                  replace Hg2 := Lib.hid (Hg2.out.step hb)
                  replace m0 := cell_of_ans hb m0
                  replace m1 := cell_of_ans hb m1
                  replace m2 := cell_of_ans hb m2
                  replace m3 := cell_of_ans hb m3
                  replace Hgo := Lib.hid (Hgo.out.step hb)
                  replace Hgt := Lib.hid (Hgt.out.step hb)
                  replace He4 := Lib.hid (He4.out.step hb)
                  replace He5 := Lib.hid (He5.out.step hb)
                  replace He7 := Lib.hid (He7.out.step hb)
                  replace He8 := Lib.hid (He8.out.step hb)
                  replace He12 := Lib.hid (He12.out.step hb)
                  replace HB := Lib.hid (HB.out.trans (hb.mono HB.out.size))
                  clear hb
                  have He13 := Lib.hid e13
                  clear e13
                  go_wp2_with fail
                  refine (plan_none_c B12 B13 (mirX xss) (acrL n ls) d12 d13 lo hi ca _ He12.out He13.out hd12 hd13 HBE2.out HPM.out).mono ?_
                  rintro e w21 ⟨rfl, hb⟩
                  replace HX := Lib.hid (HX.out.step hb)
                  replace HBs := Lib.hid (HBs.out.step hb)
                  replace HL := Lib.hid (HL.out.step hb)
                  replace k0 := cell_of_ans hb k0
                  replace k1 := cell_of_ans hb k1
                  replace k2 := cell_of_ans hb k2
                  replace k3 := cell_of_ans hb k3
                  replace Hg2 := Lib.hid (Hg2.out.step hb)
                  replace m0 := cell_of_ans hb m0
                  replace m1 := cell_of_ans hb m1
                  replace m2 := cell_of_ans hb m2
                  replace m3 := cell_of_ans hb m3
                  replace Hgo := Lib.hid (Hgo.out.step hb)
                  replace Hgt := Lib.hid (Hgt.out.step hb)
                  replace He4 := Lib.hid (He4.out.step hb)
                  replace He5 := Lib.hid (He5.out.step hb)
                  replace He7 := Lib.hid (He7.out.step hb)
                  replace He8 := Lib.hid (He8.out.step hb)
                  replace He12 := Lib.hid (He12.out.step hb)
                  replace He13 := Lib.hid (He13.out.step hb)
                  replace HB := Lib.hid (HB.out.trans (hb.mono HB.out.size))
                  clear hb
                  clear He12 He13
                  clear hd12 hd13
                  go_wp2_with fail
                  refine (mirrored_c B4 (lowX xss bss lo hi ca) d4 _ He4.out HSL.out.1 HSL.out.2 hd4).mono ?_
                  rintro e w22 ⟨B15, d15, rfl, hd15, e15, hb⟩
                  replace HX := Lib.hid (HX.out.step hb)
                  replace HBs := Lib.hid (HBs.out.step hb)
                  replace HL := Lib.hid (HL.out.step hb)
                  replace k0 := cell_of_ans hb k0
                  replace k1 := cell_of_ans hb k1
                  replace k2 := cell_of_ans hb k2
                  replace k3 := cell_of_ans hb k3
                  replace Hg2 := Lib.hid (Hg2.out.step hb)
                  replace m0 := cell_of_ans hb m0
                  replace m1 := cell_of_ans hb m1
                  replace m2 := cell_of_ans hb m2
                  replace m3 := cell_of_ans hb m3
                  replace Hgo := Lib.hid (Hgo.out.step hb)
                  replace Hgt := Lib.hid (Hgt.out.step hb)
                  replace He4 := Lib.hid (He4.out.step hb)
                  replace He5 := Lib.hid (He5.out.step hb)
                  replace He7 := Lib.hid (He7.out.step hb)
                  replace He8 := Lib.hid (He8.out.step hb)
                  replace HB := Lib.hid (HB.out.trans (hb.mono HB.out.size))
                  clear hb
                  have He15 := Lib.hid e15
                  clear e15
                  go_wp2_with fail
                  refine (rowsA_c B15 B7 _ _ d15 d7 _ He15.out He7.out hd15 hd7 HML.out).mono ?_
                  rintro e w23 ⟨rfl, hb⟩
                  replace HX := Lib.hid (HX.out.step hb)
                  replace HBs := Lib.hid (HBs.out.step hb)
                  replace HL := Lib.hid (HL.out.step hb)
                  replace k0 := cell_of_ans hb k0
                  replace k1 := cell_of_ans hb k1
                  replace k2 := cell_of_ans hb k2
                  replace k3 := cell_of_ans hb k3
                  replace Hg2 := Lib.hid (Hg2.out.step hb)
                  replace m0 := cell_of_ans hb m0
                  replace m1 := cell_of_ans hb m1
                  replace m2 := cell_of_ans hb m2
                  replace m3 := cell_of_ans hb m3
                  replace Hgo := Lib.hid (Hgo.out.step hb)
                  replace Hgt := Lib.hid (Hgt.out.step hb)
                  replace He4 := Lib.hid (He4.out.step hb)
                  replace He5 := Lib.hid (He5.out.step hb)
                  replace He7 := Lib.hid (He7.out.step hb)
                  replace He8 := Lib.hid (He8.out.step hb)
                  replace He15 := Lib.hid (He15.out.step hb)
                  replace HB := Lib.hid (HB.out.trans (hb.mono HB.out.size))
                  clear hb
                  go_wp2_with fail
                  refine (mirrored_c B5 (highX xss bss lo hi ca) d5 _ He5.out HSH.out.1 HSH.out.2 hd5).mono ?_
                  rintro e w24 ⟨B16, d16, rfl, hd16, e16, hb⟩
                  replace HX := Lib.hid (HX.out.step hb)
                  replace HBs := Lib.hid (HBs.out.step hb)
                  replace HL := Lib.hid (HL.out.step hb)
                  replace k0 := cell_of_ans hb k0
                  replace k1 := cell_of_ans hb k1
                  replace k2 := cell_of_ans hb k2
                  replace k3 := cell_of_ans hb k3
                  replace Hg2 := Lib.hid (Hg2.out.step hb)
                  replace m0 := cell_of_ans hb m0
                  replace m1 := cell_of_ans hb m1
                  replace m2 := cell_of_ans hb m2
                  replace m3 := cell_of_ans hb m3
                  replace Hgo := Lib.hid (Hgo.out.step hb)
                  replace Hgt := Lib.hid (Hgt.out.step hb)
                  replace He4 := Lib.hid (He4.out.step hb)
                  replace He5 := Lib.hid (He5.out.step hb)
                  replace He7 := Lib.hid (He7.out.step hb)
                  replace He8 := Lib.hid (He8.out.step hb)
                  replace He15 := Lib.hid (He15.out.step hb)
                  replace HB := Lib.hid (HB.out.trans (hb.mono HB.out.size))
                  clear hb
                  have He16 := Lib.hid e16
                  clear e16
                  go_wp2_with fail
                  refine (rowsA_c B16 B8 _ _ d16 d8 _ He16.out He8.out hd16 hd8 HMH.out).mono ?_
                  rintro e w25 ⟨rfl, hb⟩
                  replace HX := Lib.hid (HX.out.step hb)
                  replace HBs := Lib.hid (HBs.out.step hb)
                  replace HL := Lib.hid (HL.out.step hb)
                  replace k0 := cell_of_ans hb k0
                  replace k1 := cell_of_ans hb k1
                  replace k2 := cell_of_ans hb k2
                  replace k3 := cell_of_ans hb k3
                  replace Hg2 := Lib.hid (Hg2.out.step hb)
                  replace m0 := cell_of_ans hb m0
                  replace m1 := cell_of_ans hb m1
                  replace m2 := cell_of_ans hb m2
                  replace m3 := cell_of_ans hb m3
                  replace Hgo := Lib.hid (Hgo.out.step hb)
                  replace Hgt := Lib.hid (Hgt.out.step hb)
                  replace He4 := Lib.hid (He4.out.step hb)
                  replace He5 := Lib.hid (He5.out.step hb)
                  replace He7 := Lib.hid (He7.out.step hb)
                  replace He8 := Lib.hid (He8.out.step hb)
                  replace He15 := Lib.hid (He15.out.step hb)
                  replace He16 := Lib.hid (He16.out.step hb)
                  replace HB := Lib.hid (HB.out.trans (hb.mono HB.out.size))
                  clear hb
                  go_wp2_with fail
                  refine (intsNil_c _).mono ?_
                  rintro e w26 ⟨rfl, hb⟩
                  replace HX := Lib.hid (HX.out.step hb)
                  replace HBs := Lib.hid (HBs.out.step hb)
                  replace HL := Lib.hid (HL.out.step hb)
                  replace k0 := cell_of_ans hb k0
                  replace k1 := cell_of_ans hb k1
                  replace k2 := cell_of_ans hb k2
                  replace k3 := cell_of_ans hb k3
                  replace Hg2 := Lib.hid (Hg2.out.step hb)
                  replace m0 := cell_of_ans hb m0
                  replace m1 := cell_of_ans hb m1
                  replace m2 := cell_of_ans hb m2
                  replace m3 := cell_of_ans hb m3
                  replace Hgo := Lib.hid (Hgo.out.step hb)
                  replace Hgt := Lib.hid (Hgt.out.step hb)
                  replace He4 := Lib.hid (He4.out.step hb)
                  replace He5 := Lib.hid (He5.out.step hb)
                  replace He7 := Lib.hid (He7.out.step hb)
                  replace He8 := Lib.hid (He8.out.step hb)
                  replace He15 := Lib.hid (He15.out.step hb)
                  replace He16 := Lib.hid (He16.out.step hb)
                  replace HB := Lib.hid (HB.out.trans (hb.mono HB.out.size))
                  clear hb
                  go_wp2_with fail
                  refine (awake_c _).mono ?_
                  rintro e w27 ⟨rfl, hb⟩
                  replace HX := Lib.hid (HX.out.step hb)
                  replace HBs := Lib.hid (HBs.out.step hb)
                  replace HL := Lib.hid (HL.out.step hb)
                  replace k0 := cell_of_ans hb k0
                  replace k1 := cell_of_ans hb k1
                  replace k2 := cell_of_ans hb k2
                  replace k3 := cell_of_ans hb k3
                  replace Hg2 := Lib.hid (Hg2.out.step hb)
                  replace m0 := cell_of_ans hb m0
                  replace m1 := cell_of_ans hb m1
                  replace m2 := cell_of_ans hb m2
                  replace m3 := cell_of_ans hb m3
                  replace Hgo := Lib.hid (Hgo.out.step hb)
                  replace Hgt := Lib.hid (Hgt.out.step hb)
                  replace He4 := Lib.hid (He4.out.step hb)
                  replace He5 := Lib.hid (He5.out.step hb)
                  replace He7 := Lib.hid (He7.out.step hb)
                  replace He8 := Lib.hid (He8.out.step hb)
                  replace He15 := Lib.hid (He15.out.step hb)
                  replace He16 := Lib.hid (He16.out.step hb)
                  replace HB := Lib.hid (HB.out.trans (hb.mono HB.out.size))
                  clear hb
                  go_wp2_with fail
                  go_ret
                  exact ⟨rfl, HB.out⟩
                | some q =>
                  have HPL := Lib.hid hpl
                  have HPM := Lib.hid (HPL2.out.trans hpl)
                  clear hpl
                  go_wp2_with fail
                  refine (lane_c _ xss c lo hi ca _ (Nat.le_refl _) HX.out (small_lane HLE.out).1 (small_lane HLE.out).2).mono ?_
                  rintro e w16 ⟨B9, d9, rfl, hd9, e9, hb⟩
                  replace HX := Lib.hid (HX.out.step hb)
                  replace HBs := Lib.hid (HBs.out.step hb)
                  replace HL := Lib.hid (HL.out.step hb)
                  replace k0 := cell_of_ans hb k0
                  replace k1 := cell_of_ans hb k1
                  replace k2 := cell_of_ans hb k2
                  replace k3 := cell_of_ans hb k3
                  replace Hg2 := Lib.hid (Hg2.out.step hb)
                  replace m0 := cell_of_ans hb m0
                  replace m1 := cell_of_ans hb m1
                  replace m2 := cell_of_ans hb m2
                  replace m3 := cell_of_ans hb m3
                  replace Hgo := Lib.hid (Hgo.out.step hb)
                  replace Hgt := Lib.hid (Hgt.out.step hb)
                  replace He4 := Lib.hid (He4.out.step hb)
                  replace He5 := Lib.hid (He5.out.step hb)
                  replace He7 := Lib.hid (He7.out.step hb)
                  replace He8 := Lib.hid (He8.out.step hb)
                  replace HB := Lib.hid (HB.out.trans (hb.mono HB.out.size))
                  clear hb
                  have He9 := Lib.hid e9
                  clear e9
                  go_wp2_with fail
                  refine (block42_c _ ls c' _ HL.out HF.out hc').mono ?_
                  rintro e w17 ⟨B10, d10, rfl, hd10, e10, hb⟩
                  replace HX := Lib.hid (HX.out.step hb)
                  replace HBs := Lib.hid (HBs.out.step hb)
                  replace HL := Lib.hid (HL.out.step hb)
                  replace k0 := cell_of_ans hb k0
                  replace k1 := cell_of_ans hb k1
                  replace k2 := cell_of_ans hb k2
                  replace k3 := cell_of_ans hb k3
                  replace Hg2 := Lib.hid (Hg2.out.step hb)
                  replace m0 := cell_of_ans hb m0
                  replace m1 := cell_of_ans hb m1
                  replace m2 := cell_of_ans hb m2
                  replace m3 := cell_of_ans hb m3
                  replace Hgo := Lib.hid (Hgo.out.step hb)
                  replace Hgt := Lib.hid (Hgt.out.step hb)
                  replace He4 := Lib.hid (He4.out.step hb)
                  replace He5 := Lib.hid (He5.out.step hb)
                  replace He7 := Lib.hid (He7.out.step hb)
                  replace He8 := Lib.hid (He8.out.step hb)
                  replace He9 := Lib.hid (He9.out.step hb)
                  replace HB := Lib.hid (HB.out.trans (hb.mono HB.out.size))
                  clear hb
                  have He10 := Lib.hid e10
                  clear e10
                  go_wp2_with fail
                  refine (plan_some B9 B10 xss ls d9 d10 lo hi ca _ He9.out He10.out hd9 hd10 HBE.out HPL.out).mono ?_
                  rintro e w18 ⟨B11, d11, rfl, hd11, e11, hb⟩
                  replace HX := Lib.hid (HX.out.step hb)
                  replace HBs := Lib.hid (HBs.out.step hb)
                  replace HL := Lib.hid (HL.out.step hb)
                  replace k0 := cell_of_ans hb k0
                  replace k1 := cell_of_ans hb k1
                  replace k2 := cell_of_ans hb k2
                  replace k3 := cell_of_ans hb k3
                  replace Hg2 := Lib.hid (Hg2.out.step hb)
                  replace m0 := cell_of_ans hb m0
                  replace m1 := cell_of_ans hb m1
                  replace m2 := cell_of_ans hb m2
                  replace m3 := cell_of_ans hb m3
                  replace Hgo := Lib.hid (Hgo.out.step hb)
                  replace Hgt := Lib.hid (Hgt.out.step hb)
                  replace He4 := Lib.hid (He4.out.step hb)
                  replace He5 := Lib.hid (He5.out.step hb)
                  replace He7 := Lib.hid (He7.out.step hb)
                  replace He8 := Lib.hid (He8.out.step hb)
                  replace He9 := Lib.hid (He9.out.step hb)
                  replace He10 := Lib.hid (He10.out.step hb)
                  replace HB := Lib.hid (HB.out.trans (hb.mono HB.out.size))
                  clear hb
                  have He11 := Lib.hid e11
                  clear e11
                  clear He9 He10
                  clear hd9 hd10
                  go_wp2_with fail
                  refine (lane_c A2 (mirX xss) c2 lo hi ca _ (Nat.le_refl _) Hg2.out (small_lane HLE2.out).1 (small_lane HLE2.out).2).mono ?_
                  rintro e w19 ⟨B12, d12, rfl, hd12, e12, hb⟩
                  replace HX := Lib.hid (HX.out.step hb)
                  replace HBs := Lib.hid (HBs.out.step hb)
                  replace HL := Lib.hid (HL.out.step hb)
                  replace k0 := cell_of_ans hb k0
                  replace k1 := cell_of_ans hb k1
                  replace k2 := cell_of_ans hb k2
                  replace k3 := cell_of_ans hb k3
                  replace Hg2 := Lib.hid (Hg2.out.step hb)
                  replace m0 := cell_of_ans hb m0
                  replace m1 := cell_of_ans hb m1
                  replace m2 := cell_of_ans hb m2
                  replace m3 := cell_of_ans hb m3
                  replace Hgo := Lib.hid (Hgo.out.step hb)
                  replace Hgt := Lib.hid (Hgt.out.step hb)
                  replace He4 := Lib.hid (He4.out.step hb)
                  replace He5 := Lib.hid (He5.out.step hb)
                  replace He7 := Lib.hid (He7.out.step hb)
                  replace He8 := Lib.hid (He8.out.step hb)
                  replace He11 := Lib.hid (He11.out.step hb)
                  replace HB := Lib.hid (HB.out.trans (hb.mono HB.out.size))
                  clear hb
                  have He12 := Lib.hid e12
                  clear e12
                  go_wp2_with fail
                  refine (block42n_c Av (acrL n ls) _ cv _ HALN.out Hgt.out HFA.out hct).mono ?_
                  rintro e w20 ⟨B13, d13, rfl, hd13, e13, hb⟩
                  replace HX := Lib.hid (HX.out.step hb)
                  replace HBs := Lib.hid (HBs.out.step hb)
                  replace HL := Lib.hid (HL.out.step hb)
                  replace k0 := cell_of_ans hb k0
                  replace k1 := cell_of_ans hb k1
                  replace k2 := cell_of_ans hb k2
                  replace k3 := cell_of_ans hb k3
                  replace Hg2 := Lib.hid (Hg2.out.step hb)
                  replace m0 := cell_of_ans hb m0
                  replace m1 := cell_of_ans hb m1
                  replace m2 := cell_of_ans hb m2
                  replace m3 := cell_of_ans hb m3
                  replace Hgo := Lib.hid (Hgo.out.step hb)
                  replace Hgt := Lib.hid (Hgt.out.step hb)
                  replace He4 := Lib.hid (He4.out.step hb)
                  replace He5 := Lib.hid (He5.out.step hb)
                  replace He7 := Lib.hid (He7.out.step hb)
                  replace He8 := Lib.hid (He8.out.step hb)
                  replace He11 := Lib.hid (He11.out.step hb)
                  replace He12 := Lib.hid (He12.out.step hb)
                  replace HB := Lib.hid (HB.out.trans (hb.mono HB.out.size))
                  clear hb
                  have He13 := Lib.hid e13
                  clear e13
                  go_wp2_with fail
                  refine (plan_some B12 B13 (mirX xss) (acrL n ls) d12 d13 lo hi ca _ He12.out He13.out hd12 hd13 HBE2.out HPM.out).mono ?_
                  rintro e w21 ⟨B14, d14, rfl, hd14, e14, hb⟩
                  replace HX := Lib.hid (HX.out.step hb)
                  replace HBs := Lib.hid (HBs.out.step hb)
                  replace HL := Lib.hid (HL.out.step hb)
                  replace k0 := cell_of_ans hb k0
                  replace k1 := cell_of_ans hb k1
                  replace k2 := cell_of_ans hb k2
                  replace k3 := cell_of_ans hb k3
                  replace Hg2 := Lib.hid (Hg2.out.step hb)
                  replace m0 := cell_of_ans hb m0
                  replace m1 := cell_of_ans hb m1
                  replace m2 := cell_of_ans hb m2
                  replace m3 := cell_of_ans hb m3
                  replace Hgo := Lib.hid (Hgo.out.step hb)
                  replace Hgt := Lib.hid (Hgt.out.step hb)
                  replace He4 := Lib.hid (He4.out.step hb)
                  replace He5 := Lib.hid (He5.out.step hb)
                  replace He7 := Lib.hid (He7.out.step hb)
                  replace He8 := Lib.hid (He8.out.step hb)
                  replace He11 := Lib.hid (He11.out.step hb)
                  replace He12 := Lib.hid (He12.out.step hb)
                  replace He13 := Lib.hid (He13.out.step hb)
                  replace HB := Lib.hid (HB.out.trans (hb.mono HB.out.size))
                  clear hb
                  have He14 := Lib.hid e14
                  clear e14
                  clear He12 He13
                  clear hd12 hd13
                  go_wp2_with fail
                  refine (mirrored_c B4 (lowX xss bss lo hi ca) d4 _ He4.out HSL.out.1 HSL.out.2 hd4).mono ?_
                  rintro e w22 ⟨B15, d15, rfl, hd15, e15, hb⟩
                  replace HX := Lib.hid (HX.out.step hb)
                  replace HBs := Lib.hid (HBs.out.step hb)
                  replace HL := Lib.hid (HL.out.step hb)
                  replace k0 := cell_of_ans hb k0
                  replace k1 := cell_of_ans hb k1
                  replace k2 := cell_of_ans hb k2
                  replace k3 := cell_of_ans hb k3
                  replace Hg2 := Lib.hid (Hg2.out.step hb)
                  replace m0 := cell_of_ans hb m0
                  replace m1 := cell_of_ans hb m1
                  replace m2 := cell_of_ans hb m2
                  replace m3 := cell_of_ans hb m3
                  replace Hgo := Lib.hid (Hgo.out.step hb)
                  replace Hgt := Lib.hid (Hgt.out.step hb)
                  replace He4 := Lib.hid (He4.out.step hb)
                  replace He5 := Lib.hid (He5.out.step hb)
                  replace He7 := Lib.hid (He7.out.step hb)
                  replace He8 := Lib.hid (He8.out.step hb)
                  replace He11 := Lib.hid (He11.out.step hb)
                  replace He14 := Lib.hid (He14.out.step hb)
                  replace HB := Lib.hid (HB.out.trans (hb.mono HB.out.size))
                  clear hb
                  have He15 := Lib.hid e15
                  clear e15
                  go_wp2_with fail
                  refine (rowsA_c B15 B7 _ _ d15 d7 _ He15.out He7.out hd15 hd7 HML.out).mono ?_
                  rintro e w23 ⟨rfl, hb⟩
                  replace HX := Lib.hid (HX.out.step hb)
                  replace HBs := Lib.hid (HBs.out.step hb)
                  replace HL := Lib.hid (HL.out.step hb)
                  replace k0 := cell_of_ans hb k0
                  replace k1 := cell_of_ans hb k1
                  replace k2 := cell_of_ans hb k2
                  replace k3 := cell_of_ans hb k3
                  replace Hg2 := Lib.hid (Hg2.out.step hb)
                  replace m0 := cell_of_ans hb m0
                  replace m1 := cell_of_ans hb m1
                  replace m2 := cell_of_ans hb m2
                  replace m3 := cell_of_ans hb m3
                  replace Hgo := Lib.hid (Hgo.out.step hb)
                  replace Hgt := Lib.hid (Hgt.out.step hb)
                  replace He4 := Lib.hid (He4.out.step hb)
                  replace He5 := Lib.hid (He5.out.step hb)
                  replace He7 := Lib.hid (He7.out.step hb)
                  replace He8 := Lib.hid (He8.out.step hb)
                  replace He11 := Lib.hid (He11.out.step hb)
                  replace He14 := Lib.hid (He14.out.step hb)
                  replace He15 := Lib.hid (He15.out.step hb)
                  replace HB := Lib.hid (HB.out.trans (hb.mono HB.out.size))
                  clear hb
                  go_wp2_with fail
                  refine (mirrored_c B5 (highX xss bss lo hi ca) d5 _ He5.out HSH.out.1 HSH.out.2 hd5).mono ?_
                  rintro e w24 ⟨B16, d16, rfl, hd16, e16, hb⟩
                  replace HX := Lib.hid (HX.out.step hb)
                  replace HBs := Lib.hid (HBs.out.step hb)
                  replace HL := Lib.hid (HL.out.step hb)
                  replace k0 := cell_of_ans hb k0
                  replace k1 := cell_of_ans hb k1
                  replace k2 := cell_of_ans hb k2
                  replace k3 := cell_of_ans hb k3
                  replace Hg2 := Lib.hid (Hg2.out.step hb)
                  replace m0 := cell_of_ans hb m0
                  replace m1 := cell_of_ans hb m1
                  replace m2 := cell_of_ans hb m2
                  replace m3 := cell_of_ans hb m3
                  replace Hgo := Lib.hid (Hgo.out.step hb)
                  replace Hgt := Lib.hid (Hgt.out.step hb)
                  replace He4 := Lib.hid (He4.out.step hb)
                  replace He5 := Lib.hid (He5.out.step hb)
                  replace He7 := Lib.hid (He7.out.step hb)
                  replace He8 := Lib.hid (He8.out.step hb)
                  replace He11 := Lib.hid (He11.out.step hb)
                  replace He14 := Lib.hid (He14.out.step hb)
                  replace He15 := Lib.hid (He15.out.step hb)
                  replace HB := Lib.hid (HB.out.trans (hb.mono HB.out.size))
                  clear hb
                  have He16 := Lib.hid e16
                  clear e16
                  go_wp2_with fail
                  refine (rowsA_c B16 B8 _ _ d16 d8 _ He16.out He8.out hd16 hd8 HMH.out).mono ?_
                  rintro e w25 ⟨rfl, hb⟩
                  replace HX := Lib.hid (HX.out.step hb)
                  replace HBs := Lib.hid (HBs.out.step hb)
                  replace HL := Lib.hid (HL.out.step hb)
                  replace k0 := cell_of_ans hb k0
                  replace k1 := cell_of_ans hb k1
                  replace k2 := cell_of_ans hb k2
                  replace k3 := cell_of_ans hb k3
                  replace Hg2 := Lib.hid (Hg2.out.step hb)
                  replace m0 := cell_of_ans hb m0
                  replace m1 := cell_of_ans hb m1
                  replace m2 := cell_of_ans hb m2
                  replace m3 := cell_of_ans hb m3
                  replace Hgo := Lib.hid (Hgo.out.step hb)
                  replace Hgt := Lib.hid (Hgt.out.step hb)
                  replace He4 := Lib.hid (He4.out.step hb)
                  replace He5 := Lib.hid (He5.out.step hb)
                  replace He7 := Lib.hid (He7.out.step hb)
                  replace He8 := Lib.hid (He8.out.step hb)
                  replace He11 := Lib.hid (He11.out.step hb)
                  replace He14 := Lib.hid (He14.out.step hb)
                  replace He15 := Lib.hid (He15.out.step hb)
                  replace He16 := Lib.hid (He16.out.step hb)
                  replace HB := Lib.hid (HB.out.trans (hb.mono HB.out.size))
                  clear hb
                  have HEQ : Hid (eqB q q = true) := by show _ = _; simp [eqB]
                  go_wp2_with fail
                  refine (intsA_c B11 B14 q q d11 d14 _ He11.out He14.out hd11 hd14).mono ?_
                  rw [HEQ.out]
                  rintro e w26 ⟨rfl, hb⟩
                  replace HX := Lib.hid (HX.out.step hb)
                  replace HBs := Lib.hid (HBs.out.step hb)
                  replace HL := Lib.hid (HL.out.step hb)
                  replace k0 := cell_of_ans hb k0
                  replace k1 := cell_of_ans hb k1
                  replace k2 := cell_of_ans hb k2
                  replace k3 := cell_of_ans hb k3
                  replace Hg2 := Lib.hid (Hg2.out.step hb)
                  replace m0 := cell_of_ans hb m0
                  replace m1 := cell_of_ans hb m1
                  replace m2 := cell_of_ans hb m2
                  replace m3 := cell_of_ans hb m3
                  replace Hgo := Lib.hid (Hgo.out.step hb)
                  replace Hgt := Lib.hid (Hgt.out.step hb)
                  replace He4 := Lib.hid (He4.out.step hb)
                  replace He5 := Lib.hid (He5.out.step hb)
                  replace He7 := Lib.hid (He7.out.step hb)
                  replace He8 := Lib.hid (He8.out.step hb)
                  replace He11 := Lib.hid (He11.out.step hb)
                  replace He14 := Lib.hid (He14.out.step hb)
                  replace He15 := Lib.hid (He15.out.step hb)
                  replace He16 := Lib.hid (He16.out.step hb)
                  replace HB := Lib.hid (HB.out.trans (hb.mono HB.out.size))
                  clear hb
                  go_wp2_with fail
                  refine (awake_c _).mono ?_
                  rintro e w27 ⟨rfl, hb⟩
                  replace HX := Lib.hid (HX.out.step hb)
                  replace HBs := Lib.hid (HBs.out.step hb)
                  replace HL := Lib.hid (HL.out.step hb)
                  replace k0 := cell_of_ans hb k0
                  replace k1 := cell_of_ans hb k1
                  replace k2 := cell_of_ans hb k2
                  replace k3 := cell_of_ans hb k3
                  replace Hg2 := Lib.hid (Hg2.out.step hb)
                  replace m0 := cell_of_ans hb m0
                  replace m1 := cell_of_ans hb m1
                  replace m2 := cell_of_ans hb m2
                  replace m3 := cell_of_ans hb m3
                  replace Hgo := Lib.hid (Hgo.out.step hb)
                  replace Hgt := Lib.hid (Hgt.out.step hb)
                  replace He4 := Lib.hid (He4.out.step hb)
                  replace He5 := Lib.hid (He5.out.step hb)
                  replace He7 := Lib.hid (He7.out.step hb)
                  replace He8 := Lib.hid (He8.out.step hb)
                  replace He11 := Lib.hid (He11.out.step hb)
                  replace He14 := Lib.hid (He14.out.step hb)
                  replace He15 := Lib.hid (He15.out.step hb)
                  replace He16 := Lib.hid (He16.out.step hb)
                  replace HB := Lib.hid (HB.out.trans (hb.mono HB.out.size))
                  clear hb
                  go_wp2_with fail
                  go_ret
                  exact ⟨rfl, HB.out⟩
      · have z1 : (blockErr xss lo hi ca ls != 0) = true := by simp [hbe]
        clear hbe
        go_wp2_with fail
        refine (awake_c _).mono ?_
        rintro e w9 ⟨rfl, hb⟩
        replace HX := Lib.hid (HX.out.step hb)
        replace HBs := Lib.hid (HBs.out.step hb)
        replace HL := Lib.hid (HL.out.step hb)
        replace k0 := cell_of_ans hb k0
        replace k1 := cell_of_ans hb k1
        replace k2 := cell_of_ans hb k2
        replace k3 := cell_of_ans hb k3
        replace HB := Lib.hid (HB.out.trans (hb.mono HB.out.size))
        clear hb
        go_wp2_with fail
        go_ret
        exact ⟨rfl, HB.out⟩
end Go.Proofs.Ytgnonfomlgkpcaa
