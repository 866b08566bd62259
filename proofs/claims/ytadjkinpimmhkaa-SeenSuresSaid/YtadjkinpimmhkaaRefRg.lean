/-
  The reference's ranges of all places, and of the count.
-/
import Derived.Test.YtadjkinpimmhkaaRefRgM
import Derived.Test.YtadjkinpimmhkaaGames60F
import Derived.StillTailTactics
namespace Go.Proofs.Ytadjkinpimmhkaa
open Go.RowKit
set_option linter.unusedSimpArgs false
set_option linter.unusedVariables false

/-- Block g: two numbers; four numbers. -/
def Q2 (w : World) (g : Nat) (a b : Int) (t : TypeId) : Prop := w.heap[g]? = some (.cells #[.int .i64 a, .int .i64 b] t (0, 0))
def A4 (w : World) (g : Nat) (a b c d : Int) : Prop := w.heap[g]? = some (.cells #[.int .i64 a, .int .i64 b, .int .i64 c, .int .i64 d] 104 (0, 0))
section
variable {w w' : World} {g : Nat} {a b c d : Int} {t : TypeId} {S : Nat → Prop}
theorem Q2.lt (h : Q2 w g a b t) : g < w.heap.size := (Array.getElem?_eq_some_iff.1 h).1
theorem Q2.cells (h : Q2 w g a b t) : w.cell? ⟨g, 0, none⟩ = some (.int .i64 a) ∧ w.cell? ⟨g, 1, none⟩ = some (.int .i64 b) ∧ ∀ o, w.frozen? ⟨g, o, none⟩ = false := by
  unfold Q2 at h
  simp [World.cell?, World.frozen?, h]
theorem Q2.chg (h : Q2 w g a b t) (hC : Chg w w' S) (hS : ¬ S g) : Q2 w' g a b t := (hC.block g h.lt hS).trans h
theorem Q2.below (h : Q2 w g a b t) (hb : Below w.heap.size w w') : Q2 w' g a b t := (hb.block g h.lt).trans h
theorem Q2.set (h : Q2 w g a b t) (x y : Int) : Q2 ((w.setCell ⟨g, 0, none⟩ (.int .i64 x)).setCell ⟨g, 1, none⟩ (.int .i64 y)) g x y t := by
  unfold Q2 at h ⊢
  simp [World.setCell, Array.getElem?_modify, h]
theorem A4.lt (h : A4 w g a b c d) : g < w.heap.size := (Array.getElem?_eq_some_iff.1 h).1
theorem A4.cells (h : A4 w g a b c d) : w.cell? ⟨g, 0, none⟩ = some (.int .i64 a) ∧ w.cell? ⟨g, 1, none⟩ = some (.int .i64 b) ∧ w.cell? ⟨g, 2, none⟩ = some (.int .i64 c) ∧ w.cell? ⟨g, 3, none⟩ = some (.int .i64 d) ∧ ∀ o, w.frozen? ⟨g, o, none⟩ = false := by
  unfold A4 at h
  simp [World.cell?, World.frozen?, h]
theorem A4.chg (h : A4 w g a b c d) (hC : Chg w w' S) (hS : ¬ S g) : A4 w' g a b c d := (hC.block g h.lt hS).trans h
theorem A4.below (h : A4 w g a b c d) (hb : Below w.heap.size w w') : A4 w' g a b c d := (hb.block g h.lt).trans h
theorem A4.set0 (h : A4 w g a b c d) (x y : Int) : A4 ((w.setCell ⟨g, 0, none⟩ (.int .i64 x)).setCell ⟨g, 1, none⟩ (.int .i64 y)) g x y c d := by
  unfold A4 at h ⊢
  simp [World.setCell, Array.getElem?_modify, h]
theorem A4.set1 (h : A4 w g a b c d) (x y : Int) : A4 ((w.setCell ⟨g, 2, none⟩ (.int .i64 x)).setCell ⟨g, 3, none⟩ (.int .i64 y)) g a b x y := by
  unfold A4 at h ⊢
  simp [World.setCell, Array.getElem?_modify, h]
end
theorem sets_at (w : World) (g i j : Nat) (a b : Value) : w.grownBy ((w.setCell ⟨g, i, none⟩ a).setCell ⟨g, j, none⟩ b) (some g) := only_setCell (only_setCell (World.grownBy.refl w (some g)) (.inl rfl) _) (.inl rfl) _
def OwnQ (base : Nat) (w : World) (u : Value) (rs : List (Int × Int)) : Prop := w.ownsRow base 45 2 u rs.length (flatR rs)
theorem OwnQ.form {base : Nat} {w : World} {u : Value} {rs : List (Int × Int)} (h : OwnQ base w u rs) : ∃ A c, u = .slice A rs.length c := ownsRow_form h
theorem OwnQ.lt {base : Nat} {w : World} {u : Value} {rs : List (Int × Int)} (h : OwnQ base w u rs) {j : Nat} (e : u.ownBlock = some j) : base ≤ j ∧ j < w.heap.size := World.ownsRow.lt h j e
theorem OwnQ.chg {base : Nat} {w w' : World} {u : Value} {rs : List (Int × Int)} {S : Nat → Prop} (h : OwnQ base w u rs) (hC : Chg w w' S) (hS : ∀ j, u.ownBlock = some j → ¬ S j) : OwnQ base w' u rs := by
  refine ⟨h.1, ?_⟩
  rcases h.2 with hn | ⟨g, cap, cur, rfl, hb, hg, rest⟩
  · exact .inl hn
  · exact .inr ⟨g, cap, cur, rfl, hb, (hC.block g (Array.getElem?_eq_some_iff.1 hg).1 (hS g rfl)).trans hg, rest⟩
theorem OwnQ.rgs {base : Nat} {w : World} {A : Option Addr} {n c : Nat} {rs : List (Int × Int)} (h : OwnQ base w (.slice A n c) rs) : rs.length ≤ c ∧ c ≤ 9223372036854775807 ∧ Rgs w.heap.size w A rs := by
  rcases h.2 with ⟨e, h0⟩ | ⟨g, cap, cur, e, hb, hg, hn, hm, hs, ht⟩
  · injection e with e1 e2 e3
    subst e1 e3
    exact ⟨by omega, by omega, fun hp => by omega⟩
  · injection e with e1 e2 e3
    subst e1 e3
    refine ⟨hn, by unfold maxLen at hm; omega, fun hp => ⟨g, 0, rfl, (Array.getElem?_eq_some_iff.1 hg).1, fun k hk => ?_⟩⟩
    obtain ⟨a1, a2⟩ := flatR_at rs k hk
    have b1 := h.cells (g := g) rfl _ _ a1
    have b2 := h.cells (g := g) rfl _ _ a2
    rw [add_eq] at b1 b2
    exact ⟨b1, by rw [Nat.add_assoc]; exact b2⟩
theorem infoRg45 : (Try.prog.info? 45).map (fun i => (i.zero, i.size, i.bytes)) = some (some (.agg #[.int .i64 0, .int .i64 0]), 2, 16) := by kernel_rfl
/-- A range has been appended. -/
structure AppQ (base : Nat) (w : World) (u : Value) (rs : List (Int × Int)) (p : Int × Int) (w' : World) (u' : Value) : Prop where
  own : OwnQ base w' u' (rs ++ [p])
  chg : Chg w w' (fun i => some i = u.ownBlock)
  alt : u'.ownBlock = u.ownBlock ∨ ∃ j, u'.ownBlock = some j ∧ w.heap.size ≤ j
set_option maxRecDepth 100000 in
theorem wpList_range {ops : Array Oper} {rest : List Oper} {o : Oper} {a : Act} {Q : Exit → Act → World → Prop} (s x : Operand) (hgd : o.guard = none) (ho : o.op = .call { callee := .builtin .append, args := #[s, x], argTypes := #[44, 44] })
    (base : Nat) (w : World) (u : Value) (ps : List (Int × Int)) (n : Nat) (hn : ps.length = n) (f i : Int) (q : Nat) (hq : w.heap.size = q) (hv : a.eval s = u) (hx : a.eval x = .slice (some ⟨q, 0, none⟩) 1 1) (hown : OwnQ base w u ps) (hl : ps.length ≤ 1000000) (hb : base ≤ w.heap.size)
    (h : ∀ A c w', Hid (AppQ base w u ps (f, i) w' (.slice A (n + 1) c)) → wpList Try.prog ops Q rest (a.put o.dst (.slice A (n + 1) c)) w') :
    wpList Try.prog ops Q (o :: rest) a (w.alloc (.cells #[.int .i64 f, .int .i64 i] 45)) := by
  subst hn hq
  obtain ⟨i0, hi, hz0, hz1, hz2⟩ := info_parts infoRg45
  have hO : (w.alloc (.cells #[.int .i64 f, .int .i64 i] 45)).ownsRow base 45 2 u ps.length (flatR ps) := World.ownsRow.alloc hown _
  have hs : Src (w.alloc (.cells #[.int .i64 f, .int .i64 i] 45)) 2 (some ⟨w.heap.size, 0, none⟩) 1 (flatR [(f, i)]) := by
    refine ⟨rfl, (fun h => by cases h), fun ad hA j y hy => ?_⟩
    injection hA with hA
    subst hA
    rw [add_eq]
    rcases j with _ | _ | j <;> simp [flatR] at hy
    all_goals
      subst hy
      simp
  refine wpList_append_src hgd s x 44 ho base 45 i0 (.agg #[.int .i64 0, .int .i64 0]) 2 16 Try.underlying44 hi hz0 hz1 hz2 rfl (by decide) u ps.length (flatR ps) hv hO (some ⟨w.heap.size, 0, none⟩) 1 1 (flatR [(f, i)]) hx hs (one_flat _) (by unfold maxLen; omega) (by omega) (by simp; omega) ?_
  intro v' w' h1 h2 h3
  obtain ⟨A, c, rfl⟩ := ownsRow_form h1
  have hb1 : Below w.heap.size w (w.alloc (.cells #[.int .i64 f, .int .i64 i] 45)) := (Below.refl _ _).alloc (Nat.le_refl _) _
  refine h A c w' ⟨?_, Chg.trans (Chg.ofBelow hb1 _) (Chg.ofGrown h2 fun _ e => e) (fun _ _ e => e), ?_⟩
  · show OwnQ _ _ _ _
    unfold OwnQ
    rw [flatR_append, List.length_append]
    exact h1
  · rcases h3 with h3 | h3
    · exact .inl h3
    · exact .inr ⟨_, h3, by simp⟩
def R28Post (w : World) (rs : List (Int × Int)) (lo hi : Int) (e : Ending) (w' : World) : Prop :=
  ∃ A c, e = .returned (.tuple #[.slice A rs.length c, .agg #[.int .i64 lo, .int .i64 hi]]) ∧ (rs.length ≤ c ∧ c ≤ 9223372036854775807) ∧ Rgs w'.heap.size w' A rs ∧ Below w.heap.size w w'

set_option maxRecDepth 100000 in
set_option maxHeartbeats 16000000 in
theorem ranges28_c (A At : Option Addr) (ws : List Wd) (offl : List Int) (c ct m : Nat) (w : World) (hw : Wds w.heap.size w A ws) (ht : Ints w.heap.size w At offl) (hc : ws.length ≤ c ∧ c ≤ 9223372036854775807) (hct : offl.length ≤ ct ∧ ct ≤ 9223372036854775807) (hl : ws.length ≤ 1000000)
    (hok : ∀ k, k < ws.length → wordB (m : Int) (wx ws k) = true) (hm : m ≤ 5) :
    Calls Try.prog 28 #[.agg #[.int .i64 (m : Int), .slice A ws.length c], .slice At offl.length ct] w (R28Post w (rgsR ws offl m) (cloR ws offl m) (chiR ws offl m)) := by
  have hb0 : Below w.heap.size w (((w.alloc (.cells #[.int .i64 (m : Int), .slice A ws.length c] 24)).alloc (.cells #[.int .i64 0, .int .i64 0] 45)).alloc (.cells #[.int .i64 0, .int .i64 0] 45)) := (((Below.refl _ _).alloc (Nat.le_refl _) _).alloc (by simp) _).alloc (by simp; omega) _
  have k0 : (((w.alloc (.cells #[.int .i64 (m : Int), .slice A ws.length c] 24)).alloc (.cells #[.int .i64 0, .int .i64 0] 45)).alloc (.cells #[.int .i64 0, .int .i64 0] 45)).cell? ⟨w.heap.size, 0, none⟩ = some (.int .i64 (m : Int)) := by go_simp
  have k1 : (((w.alloc (.cells #[.int .i64 (m : Int), .slice A ws.length c] 24)).alloc (.cells #[.int .i64 0, .int .i64 0] 45)).alloc (.cells #[.int .i64 0, .int .i64 0] 45)).cell? ⟨w.heap.size, 1, none⟩ = some (.slice A ws.length c) := by go_simp
  have hQ5 : Q2 (((w.alloc (.cells #[.int .i64 (m : Int), .slice A ws.length c] 24)).alloc (.cells #[.int .i64 0, .int .i64 0] 45)).alloc (.cells #[.int .i64 0, .int .i64 0] 45)) (w.heap.size + 1) 0 0 45 := by
    unfold Q2
    rw [heap_alloc_old _ _ (by simp)]
    have := World.alloc_heap_new (w.alloc (.cells #[.int .i64 (m : Int), .slice A ws.length c] 24)) (.cells #[.int .i64 0, .int .i64 0] 45)
    simpa using this
  have hQ7 : Q2 (((w.alloc (.cells #[.int .i64 (m : Int), .slice A ws.length c] 24)).alloc (.cells #[.int .i64 0, .int .i64 0] 45)).alloc (.cells #[.int .i64 0, .int .i64 0] 45)) (w.heap.size + 1 + 1) 0 0 45 := by
    have := World.alloc_heap_new ((w.alloc (.cells #[.int .i64 (m : Int), .slice A ws.length c] 24)).alloc (.cells #[.int .i64 0, .int .i64 0] 45)) (.cells #[.int .i64 0, .int .i64 0] 45)
    simpa [Q2] using this
  have hsz : (((w.alloc (.cells #[.int .i64 (m : Int), .slice A ws.length c] 24)).alloc (.cells #[.int .i64 0, .int .i64 0] 45)).alloc (.cells #[.int .i64 0, .int .i64 0] 45)).heap.size = w.heap.size + 1 + 1 + 1 := by simp
  have HSZ := Lib.hid hsz
  have HB0 := Lib.hid hb0
  have HQ5 := Lib.hid hQ5
  have HQ7 := Lib.hid hQ7
  have HW := Lib.hid hw
  have HT := Lib.hid ht
  have HOK := Lib.hid hok
  clear hb0 hQ5 hQ7 hsz hw ht hok
  go_enter Try.func28, Try.ntmps28
  go_wp2_with fail
  generalize hW0 : (((w.alloc (.cells #[.int .i64 (m : Int), .slice A ws.length c] 24)).alloc (.cells #[.int .i64 0, .int .i64 0] 45)).alloc (.cells #[.int .i64 0, .int .i64 0] 45)) = W0 at k0 k1 HB0 HQ5 HQ7 HSZ ⊢
  clear hW0
  go_loopw [8, 6] (fun i v wr => ∃ f : Nat, f ≤ m ∧ i = .int .i64 f ∧ OwnQ W0.heap.size wr v (rgsR ws offl f) ∧ Q2 wr (w.heap.size + 1 + 1) (cloR ws offl f) (chiR ws offl f) 45 ∧ Chg W0 wr (fun i => i = w.heap.size + 1 + 1)) (fun i _ _ => m - (intOf i).toNat)
  case atStart => exact ⟨0, by omega, rfl, World.ownsRow_nil _ _ _ _, HQ7.out, Chg.refl _ _⟩
  case round =>
    obtain ⟨f, hf, rfl, hO, hQ, hC⟩ := hrel
    obtain ⟨wf, rfl⟩ : ∃ wf : World, wf = wr := ⟨_, rfl⟩
    have HO := Lib.hid hO
    have HQ := Lib.hid hQ
    have HC := Lib.hid hC
    have HBr : Hid (Below w.heap.size w wf) := HB0.out.trans (hC.below HB0.out.size fun i _ e => by omega)
    have q0 : wf.cell? ⟨w.heap.size, 0, none⟩ = some (.int .i64 (m : Int)) := hC.cell k0 (by dsimp only; omega)
    have q1 : wf.cell? ⟨w.heap.size, 1, none⟩ = some (.slice A ws.length c) := hC.cell k1 (by dsimp only; omega)
    have hzr := hC.size
    have hz0 := HSZ.out
    have HZ0 := Lib.hid hz0
    have hcb := cR_bd ws offl f
    have HRL := Lib.hid (rgsR_len ws offl f)
    have HRN : Hid (rgsR ws offl (f + 1) = (rgsR ws offl f ++ [(loF (bvs 0 (gamesR ws offl (f : Int))), hiF (bvs 0 (gamesR ws offl (f : Int))))]) ++ [(loF (bvs 1 (gamesR ws offl (f : Int))), hiF (bvs 1 (gamesR ws offl (f : Int))))]) := rfl
    have HCN : Hid (cloR ws offl (f + 1) = cloR ws offl f + 10 - hiF (bvs 1 (gamesR ws offl (f : Int))) ∧ chiR ws offl (f + 1) = chiR ws offl f + 10 - loF (bvs 1 (gamesR ws offl (f : Int)))) := ⟨rfl, rfl⟩
    generalize hrs : rgsR ws offl f = rs at *
    generalize hcl : cloR ws offl f = cl at *
    generalize hch : chiR ws offl f = ch at *
    have HRS := Lib.hid hrs
    have HCL := Lib.hid hcl
    have HCH := Lib.hid hch
    clear hO hQ hC hz0 hrs hcl hch
    by_cases h1 : f < m
    · have h1i : (f : Int) < (m : Int) := by omega
      have HGC := Lib.hid (games60F_c A At ws offl c ct m (m : Int) (f : Int) wf (HW.out.step HBr.out) ((HT.out.below HBr.out).more HBr.out.size) hc hct hl HOK.out)
      have HGR := Lib.hid (fun k (hk : k < (gamesR ws offl (f : Int)).length) => games_row hk)
      have HGL := Lib.hid (gamesR_len ws offl (f : Int))
      generalize gamesR ws offl (f : Int) = gs at *
      obtain ⟨Av, cv, hv⟩ := HO.out.form
      subst hv
      go_wp2_with fail
      refine HGC.out.mono ?_
      rintro e w1 ⟨Ag, cg, rfl, ⟨hg1, hg2⟩, hG, hb1⟩
      have hb2 : Below wf.heap.size wf (w1.alloc (.cells #[.int .i64 0, .int .i64 0, .int .i64 0, .int .i64 0] 104)) := hb1.alloc hb1.size _
      have HG := Lib.hid (hG.below ((Below.refl _ _).alloc (Nat.le_refl _) (.cells #[.int .i64 0, .int .i64 0, .int .i64 0, .int .i64 0] 104)))
      have HA : Hid (A4 (w1.alloc (.cells #[.int .i64 0, .int .i64 0, .int .i64 0, .int .i64 0] 104)) w1.heap.size 0 0 0 0) := World.alloc_heap_new _ _
      have HO2 : Hid (OwnQ W0.heap.size (w1.alloc (.cells #[.int .i64 0, .int .i64 0, .int .i64 0, .int .i64 0] 104)) (.slice Av rs.length cv) rs) := World.ownsRow.kept HO.out (only_below hb2 none) (own_ne _)
      have HQ2 := Lib.hid (HQ.out.below hb2)
      have HC2 : Hid (Chg W0 (w1.alloc (.cells #[.int .i64 0, .int .i64 0, .int .i64 0, .int .i64 0] 104)) (fun i => i = w.heap.size + 1 + 1)) := HC.out.trans (Chg.ofBelow hb2 _) (fun _ _ e => e)
      have HVL := Lib.hid (fun j (e : (Value.slice Av rs.length cv).ownBlock = some j) => HO.out.lt e)
      have hz1 := hb1.size
      have hz2 : (w1.alloc (.cells #[.int .i64 0, .int .i64 0, .int .i64 0, .int .i64 0] 104)).heap.size = w1.heap.size + 1 := by simp
      have HZ2 := Lib.hid hz2
      clear hG hb1 hb2 hz2
      go_wp2_with fail
      generalize hw2 : w1.alloc (.cells #[.int .i64 0, .int .i64 0, .int .i64 0, .int .i64 0] 104) = w2 at HG HA HO2 HQ2 HC2 HZ2 ⊢
      generalize hg10 : w1.heap.size = g at *
      clear hw2 hg10
      go_loopw [11, 6] (fun i v wy => ∃ (rs' : List (Int × Int)) (a b c d : Int), ((i = .int .i64 0 ∧ rs = rs') ∨ (i = .int .i64 1 ∧ rs' = rs ++ [(loF (bvs 0 gs), hiF (bvs 0 gs))]) ∨ (i = .int .i64 2 ∧ rs' = (rs ++ [(loF (bvs 0 gs), hiF (bvs 0 gs))]) ++ [(loF (bvs 1 gs), hiF (bvs 1 gs))] ∧ c = loF (bvs 1 gs) ∧ d = hiF (bvs 1 gs))) ∧ OwnQ W0.heap.size wy v rs' ∧ A4 wy g a b c d ∧ (v.ownBlock = (Value.slice Av rs.length cv).ownBlock ∨ ∃ j, v.ownBlock = some j ∧ w2.heap.size ≤ j) ∧ Chg w2 wy (fun i => i = g ∨ some i = (Value.slice Av rs.length cv).ownBlock)) (fun i _ _ => 2 - (intOf i).toNat)
      case atStart => exact ⟨rs, 0, 0, 0, 0, .inl ⟨rfl, rfl⟩, HO2.out, HA.out, .inl rfl, Chg.refl _ _⟩
      case round =>
        obtain ⟨rs', a, b, x, d, hcase, hOy, hAy, hvy, hCy⟩ := hrel
        obtain ⟨wy, rfl⟩ : ∃ wy : World, wy = wr := ⟨_, rfl⟩
        have HOy := Lib.hid hOy
        have HAy := Lib.hid hAy
        have HVy := Lib.hid hvy
        have HCy := Lib.hid hCy
        have hzy := hCy.size
        have HGy : Hid (GrdF wf.heap.size g wy Ag gs) := HG.out.chg hCy (fun i hi => by
          rcases hi with e | e
          · omega
          · have := (HVL.out i e.symm).2; omega)
        obtain ⟨Ay, cy, rfl⟩ := hOy.form
        clear hOy hAy hvy hCy
        rcases hcase with ⟨rfl, rfl⟩ | ⟨rfl, rfl⟩ | ⟨rfl, rfl, rfl, rfl⟩
        · obtain ⟨a0, a1, a2, a3, a4⟩ := HAy.out.cells
          have f0 := a4 0
          have f1 := a4 1
          have hX := HAy.out.set0 10 0
          have hs := sets_at wy g 0 1 (.int .i64 10) (.int .i64 0)
          have HX := Lib.hid hX
          have HCW : Hid (Chg wy ((wy.setCell ⟨g, 0, none⟩ (.int .i64 10)).setCell ⟨g, 1, none⟩ (.int .i64 0)) (fun i => i = g)) := Chg.ofGrown hs fun i e => by injection e
          clear hX hs a4
          go_wp2_with fail
          generalize hw3 : (wy.setCell ⟨g, 0, none⟩ (.int .i64 10)).setCell ⟨g, 1, none⟩ (.int .i64 0) = w3 at HX HCW ⊢
          clear hw3
          go_loopw [12] (fun i wz => ∃ j : Nat, j ≤ gs.length ∧ i = .int .i64 j ∧ A4 wz g (loF (bvs 0 (gs.take j))) (hiF (bvs 0 (gs.take j))) x d ∧ Chg w3 wz (fun i => i = g)) (fun i _ => gs.length - (intOf i).toNat)
          case atStart => exact ⟨0, by omega, rfl, HX.out, Chg.refl _ _⟩
          case round =>
            obtain ⟨j, hj, rfl, hAz, hCz⟩ := hrel
            obtain ⟨wz, rfl⟩ : ∃ wz : World, wz = wr := ⟨_, rfl⟩
            have HAz := Lib.hid hAz
            have HCz := Lib.hid hCz
            have HCyz : Hid (Chg wy wz (fun i => i = g)) := HCW.out.trans hCz (fun _ _ e => e)
            have HGz : Hid (GrdF wf.heap.size g wz Ag gs) := HGy.out.chg HCyz.out (fun i e => by omega)
            have hzz : wy.heap.size ≤ wz.heap.size := HCyz.out.size
            clear hAz hCz
            by_cases h2 : j < gs.length
            · obtain ⟨b1, q1', A', c', hA1, hb1, hcell, hc1', hc2', hI, -⟩ := HGz.out.at_ h2
              subst hA1
              have h2i : (j : Int) < (gs.length : Int) := by omega
              have HTK := Lib.hid (bvs_take h2 0)
              have HRW := Lib.hid (HGR.out j h2)
              have HBD : Hid ((0 ≤ loF (bvs 0 (gs.take j)) ∧ loF (bvs 0 (gs.take j)) ≤ 10) ∧ 0 ≤ hiF (bvs 0 (gs.take j)) ∧ hiF (bvs 0 (gs.take j)) ≤ 10) := by
                have h5 := bvs_bd (gs := gs) (b := 0) (fun k hk => (HGR.out k hk).2.1) j
                exact ⟨loF_bd h5, hiF_bd h5⟩
              have HNL : Hid (loF (bvs 0 (gs.take (j + 1))) = min (loF (bvs 0 (gs.take j))) (behR [rx gs j] 0 0)) := by show _ = _; rw [HTK.out, loF_snoc]
              have HNH : Hid (hiF (bvs 0 (gs.take (j + 1))) = max (hiF (bvs 0 (gs.take j))) (behR [rx gs j] 0 0)) := by show _ = _; rw [HTK.out, hiF_snoc]
              have hgz : g ≤ wz.heap.size := by have := HAz.out.lt; omega
              generalize rx gs j = xr at *
              have hba : Below wz.heap.size wz (wz.alloc (.cells #[.slice A' xr.length c'] 25)) := (Below.refl _ _).alloc (Nat.le_refl _) _
              have HBH : Hid (Calls Try.prog 48 #[.slice (some ⟨wz.heap.size, 0, none⟩) 1 1, .int .i64 0, .int .i64 0] (wz.alloc (.cells #[.slice A' xr.length c'] 25)) (Same (wz.alloc (.cells #[.slice A' xr.length c'] 25)) (.int .i64 (behR [xr] 0 0)))) := by
                refine behind_c (B := (wz.alloc (.cells #[.slice A' xr.length c'] 25)).heap.size) (some ⟨wz.heap.size, 0, none⟩) [xr] 1 0 0 _ (fun _ => ⟨wz.heap.size, 0, rfl, by simp, fun i hi => ?_⟩) (by simp) (by simp) (by omega) (fun i hi => HRW.out.1 i hi)
                obtain rfl : i = 0 := by simpa using hi
                exact ⟨.slice A' xr.length c', cell_new1 wz _ _, A', c', rfl, hc1', hc2', (hI.below (hba.mono hgz)).more (by simp; omega)⟩
              have HBB : Hid (0 ≤ behR [xr] 0 0 ∧ behR [xr] 0 0 ≤ 10) := HRW.out.2.1
              have HA5 : Hid (A4 (wz.alloc (.cells #[.slice A' xr.length c'] 25)) g (loF (bvs 0 (gs.take j))) (hiF (bvs 0 (gs.take j))) x d) := HAz.out.below hba
              have HC5 : Hid (Chg w3 (wz.alloc (.cells #[.slice A' xr.length c'] 25)) (fun i => i = g)) := HCz.out.trans (Chg.ofBelow hba _) (fun _ _ e => e)
              generalize behR [xr] 0 0 = n at *
              generalize loF (bvs 0 (gs.take j)) = lo at *
              generalize hiF (bvs 0 (gs.take j)) = hi at *
              have hmn : (if n < lo then n else lo) = min lo n := by split <;> omega
              have hmx : (if hi < n then n else hi) = max hi n := by split <;> omega
              generalize min lo n = lo' at *
              generalize max hi n = hi' at *
              clear hI hba
              go_wp2_with fail
              refine HBH.out.mono ?_
              rintro e w9 ⟨rfl, rfl⟩
              go_wp2_with fail
              generalize wz.alloc (.cells #[.slice A' xr.length c'] 25) = w5 at HA5 HC5 ⊢
              obtain ⟨e0, e1, e2, e3, e4⟩ := HA5.out.cells
              have f2 := e4 0
              have f3 := e4 1
              clear e4
              go_still_tail 14, (by kernel_rfl)
              change wpList _ _ _ _ _ w5.drew
              go_wp2_with fail
              go_roundw
              case rel =>
                refine ⟨j + 1, by omega, by go_num, ?_, ?_⟩
                · rw [HNL.out, HNH.out]
                  exact HA5.out.set0 lo' hi'
                · have h9 := HC5.out.trans (Chg.ofGrown (S := fun i => i = g) (sets_at w5 g 0 1 (.int .i64 lo') (.int .i64 hi')) fun i e => by injection e) (fun _ _ e => e)
                  exact ⟨h9.os, h9.tape, h9.output, h9.size, h9.block⟩
              case measure => simp [intOf]; omega
            · have h2i : ¬ (j : Int) < (gs.length : Int) := by omega
              obtain rfl : j = gs.length := by omega
              rw [List.take_length] at HAz
              have HOZ : Hid (OwnQ W0.heap.size wz (.slice Ay rs.length cy) rs) := HOy.out.chg HCyz.out (fun i e h9 => by
                rcases HVy.out with h8 | ⟨i', h8, h10⟩
                · rw [h8] at e; have := (HVL.out i e).2; omega
                · rw [h8] at e; injection e with e; have := HZ2.out; omega)
              have HVK : Hid (∀ i, i < w2.heap.size → some i = (Value.slice Ay rs.length cy).ownBlock → some i = (Value.slice Av rs.length cv).ownBlock) := fun i hi e => by
                rcases HVy.out with h8 | ⟨i', h8, h10⟩
                · rw [e, h8]
                · rw [h8] at e; injection e with e; omega
              have hrl : rs.length ≤ 1000000 := by have := HRL.out; omega
              have hbz : W0.heap.size ≤ wz.heap.size := by have := HZ2.out; have := HZ0.out; omega
              generalize hlo : loF (bvs 0 gs) = lo at *
              generalize hhi : hiF (bvs 0 gs) = hi at *
              have HLO := Lib.hid hlo
              have HHI := Lib.hid hhi
              clear hlo hhi
              obtain ⟨e0, e1, e2, e3, -⟩ := HAz.out.cells
              go_wp2_with (at_builtin; refine wpList_range (.tmp 59) (.tmp 63) rfl rfl W0.heap.size wz (.slice Ay rs.length cy) rs _ rfl lo hi _ rfl rfl rfl HOZ.out hrl hbz ?_; intro A' c' w6 HQ6)
              go_roundw
              case rel =>
                have hgo : ∀ i, i = g → ¬ some i = (Value.slice Ay rs.length cy).ownBlock := fun i e h9 => by
                  subst e
                  have := HVK.out _ (by have := HZ2.out; omega) h9
                  have := (HVL.out _ this.symm).2
                  omega
                refine ⟨rs ++ [(lo, hi)], _, _, _, _, .inr (.inl ⟨rfl, by rw [HLO.out, HHI.out]⟩), HQ6.out.own, HAz.out.chg HQ6.out.chg (hgo g rfl), ?_, ?_⟩
                · rcases HQ6.out.alt with h9 | ⟨i, h9, h10⟩
                  · rw [h9]
                    exact HVy.out
                  · exact .inr ⟨i, h9, by omega⟩
                · refine Chg.trans (Chg.trans HCy.out HCyz.out (fun i _ e => .inl e)) HQ6.out.chg (fun i hi e => .inr (HVK.out i hi e))
              case measure => simp [intOf]
        · obtain ⟨a0, a1, a2, a3, a4⟩ := HAy.out.cells
          generalize hrr : rs ++ [(loF (bvs 0 gs), hiF (bvs 0 gs))] = rr at *
          have HRR := Lib.hid hrr
          clear hrr
          have f0 := a4 2
          have f1 := a4 3
          have hX := HAy.out.set1 10 0
          have hs := sets_at wy g 2 3 (.int .i64 10) (.int .i64 0)
          have HX := Lib.hid hX
          have HCW : Hid (Chg wy ((wy.setCell ⟨g, 2, none⟩ (.int .i64 10)).setCell ⟨g, 3, none⟩ (.int .i64 0)) (fun i => i = g)) := Chg.ofGrown hs fun i e => by injection e
          clear hX hs a4
          go_wp2_with fail
          generalize hw3 : (wy.setCell ⟨g, 2, none⟩ (.int .i64 10)).setCell ⟨g, 3, none⟩ (.int .i64 0) = w3 at HX HCW ⊢
          clear hw3
          go_loopw [12] (fun i wz => ∃ j : Nat, j ≤ gs.length ∧ i = .int .i64 j ∧ A4 wz g a b (loF (bvs 1 (gs.take j))) (hiF (bvs 1 (gs.take j))) ∧ Chg w3 wz (fun i => i = g)) (fun i _ => gs.length - (intOf i).toNat)
          case atStart => exact ⟨0, by omega, rfl, HX.out, Chg.refl _ _⟩
          case round =>
            obtain ⟨j, hj, rfl, hAz, hCz⟩ := hrel
            obtain ⟨wz, rfl⟩ : ∃ wz : World, wz = wr := ⟨_, rfl⟩
            have HAz := Lib.hid hAz
            have HCz := Lib.hid hCz
            have HCyz : Hid (Chg wy wz (fun i => i = g)) := HCW.out.trans hCz (fun _ _ e => e)
            have HGz : Hid (GrdF wf.heap.size g wz Ag gs) := HGy.out.chg HCyz.out (fun i e => by omega)
            have hzz : wy.heap.size ≤ wz.heap.size := HCyz.out.size
            clear hAz hCz
            by_cases h2 : j < gs.length
            · obtain ⟨b1, q1', A', c', hA1, hb1, hcell, hc1', hc2', hI, -⟩ := HGz.out.at_ h2
              subst hA1
              have h2i : (j : Int) < (gs.length : Int) := by omega
              have HTK := Lib.hid (bvs_take h2 1)
              have HRW := Lib.hid (HGR.out j h2)
              have HBD : Hid ((0 ≤ loF (bvs 1 (gs.take j)) ∧ loF (bvs 1 (gs.take j)) ≤ 10) ∧ 0 ≤ hiF (bvs 1 (gs.take j)) ∧ hiF (bvs 1 (gs.take j)) ≤ 10) := by
                have h5 := bvs_bd (gs := gs) (b := 1) (fun k hk => (HGR.out k hk).2.2) j
                exact ⟨loF_bd h5, hiF_bd h5⟩
              have HNL : Hid (loF (bvs 1 (gs.take (j + 1))) = min (loF (bvs 1 (gs.take j))) (behR [rx gs j] 0 1)) := by show _ = _; rw [HTK.out, loF_snoc]
              have HNH : Hid (hiF (bvs 1 (gs.take (j + 1))) = max (hiF (bvs 1 (gs.take j))) (behR [rx gs j] 0 1)) := by show _ = _; rw [HTK.out, hiF_snoc]
              have hgz : g ≤ wz.heap.size := by have := HAz.out.lt; omega
              generalize rx gs j = xr at *
              have hba : Below wz.heap.size wz (wz.alloc (.cells #[.slice A' xr.length c'] 25)) := (Below.refl _ _).alloc (Nat.le_refl _) _
              have HBH : Hid (Calls Try.prog 48 #[.slice (some ⟨wz.heap.size, 0, none⟩) 1 1, .int .i64 0, .int .i64 1] (wz.alloc (.cells #[.slice A' xr.length c'] 25)) (Same (wz.alloc (.cells #[.slice A' xr.length c'] 25)) (.int .i64 (behR [xr] 0 1)))) := by
                refine behind_c (B := (wz.alloc (.cells #[.slice A' xr.length c'] 25)).heap.size) (some ⟨wz.heap.size, 0, none⟩) [xr] 1 0 1 _ (fun _ => ⟨wz.heap.size, 0, rfl, by simp, fun i hi => ?_⟩) (by simp) (by simp) (by omega) (fun i hi => HRW.out.1 i hi)
                obtain rfl : i = 0 := by simpa using hi
                exact ⟨.slice A' xr.length c', cell_new1 wz _ _, A', c', rfl, hc1', hc2', (hI.below (hba.mono hgz)).more (by simp; omega)⟩
              have HBB : Hid (0 ≤ behR [xr] 0 1 ∧ behR [xr] 0 1 ≤ 10) := HRW.out.2.2
              have HA5 : Hid (A4 (wz.alloc (.cells #[.slice A' xr.length c'] 25)) g a b (loF (bvs 1 (gs.take j))) (hiF (bvs 1 (gs.take j)))) := HAz.out.below hba
              have HC5 : Hid (Chg w3 (wz.alloc (.cells #[.slice A' xr.length c'] 25)) (fun i => i = g)) := HCz.out.trans (Chg.ofBelow hba _) (fun _ _ e => e)
              generalize behR [xr] 0 1 = n at *
              generalize loF (bvs 1 (gs.take j)) = lo at *
              generalize hiF (bvs 1 (gs.take j)) = hi at *
              have hmn : (if n < lo then n else lo) = min lo n := by split <;> omega
              have hmx : (if hi < n then n else hi) = max hi n := by split <;> omega
              generalize min lo n = lo' at *
              generalize max hi n = hi' at *
              clear hI hba
              go_wp2_with fail
              refine HBH.out.mono ?_
              rintro e w9 ⟨rfl, rfl⟩
              go_wp2_with fail
              generalize wz.alloc (.cells #[.slice A' xr.length c'] 25) = w5 at HA5 HC5 ⊢
              obtain ⟨e0, e1, e2, e3, e4⟩ := HA5.out.cells
              have f2 := e4 2
              have f3 := e4 3
              clear e4
              go_still_tail 14, (by kernel_rfl)
              change wpList _ _ _ _ _ w5.drew
              go_wp2_with fail
              go_roundw
              case rel =>
                refine ⟨j + 1, by omega, by go_num, ?_, ?_⟩
                · rw [HNL.out, HNH.out]
                  exact HA5.out.set1 lo' hi'
                · have h9 := HC5.out.trans (Chg.ofGrown (S := fun i => i = g) (sets_at w5 g 2 3 (.int .i64 lo') (.int .i64 hi')) fun i e => by injection e) (fun _ _ e => e)
                  exact ⟨h9.os, h9.tape, h9.output, h9.size, h9.block⟩
              case measure => simp [intOf]; omega
            · have h2i : ¬ (j : Int) < (gs.length : Int) := by omega
              obtain rfl : j = gs.length := by omega
              rw [List.take_length] at HAz
              have HOZ : Hid (OwnQ W0.heap.size wz (.slice Ay rr.length cy) rr) := HOy.out.chg HCyz.out (fun i e h9 => by
                rcases HVy.out with h8 | ⟨i', h8, h10⟩
                · rw [h8] at e; have := (HVL.out i e).2; omega
                · rw [h8] at e; injection e with e; have := HZ2.out; omega)
              have HVK : Hid (∀ i, i < w2.heap.size → some i = (Value.slice Ay rr.length cy).ownBlock → some i = (Value.slice Av rs.length cv).ownBlock) := fun i hi e => by
                rcases HVy.out with h8 | ⟨i', h8, h10⟩
                · rw [e, h8]
                · rw [h8] at e; injection e with e; omega
              have hrl : rr.length ≤ 1000000 := by have := HRL.out; rw [← HRR.out]; simp; omega
              have hbz : W0.heap.size ≤ wz.heap.size := by have := HZ2.out; have := HZ0.out; omega
              generalize hlo : loF (bvs 1 gs) = lo at *
              generalize hhi : hiF (bvs 1 gs) = hi at *
              have HLO := Lib.hid hlo
              have HHI := Lib.hid hhi
              clear hlo hhi
              obtain ⟨e0, e1, e2, e3, -⟩ := HAz.out.cells
              go_wp2_with (at_builtin; refine wpList_range (.tmp 59) (.tmp 63) rfl rfl W0.heap.size wz (.slice Ay rr.length cy) rr _ rfl lo hi _ rfl rfl rfl HOZ.out hrl hbz ?_; intro A' c' w6 HQ6)
              go_roundw
              case rel =>
                have hgo : ∀ i, i = g → ¬ some i = (Value.slice Ay rr.length cy).ownBlock := fun i e h9 => by
                  subst e
                  have := HVK.out _ (by have := HZ2.out; omega) h9
                  have := (HVL.out _ this.symm).2
                  omega
                refine ⟨rr ++ [(lo, hi)], _, _, _, _, .inr (.inr ⟨rfl, by rw [HLO.out, HHI.out], HLO.out.symm, HHI.out.symm⟩), HQ6.out.own, HAz.out.chg HQ6.out.chg (hgo g rfl), ?_, ?_⟩
                · rcases HQ6.out.alt with h9 | ⟨i, h9, h10⟩
                  · rw [h9]
                    exact HVy.out
                  · exact .inr ⟨i, h9, by omega⟩
                · refine Chg.trans (Chg.trans HCy.out HCyz.out (fun i _ e => .inl e)) HQ6.out.chg (fun i hi e => .inr (HVK.out i hi e))
              case measure => simp [intOf]
        · obtain ⟨a0, a1, a2, a3, -⟩ := HAy.out.cells
          have hqy := HQ2.out.chg HCy.out (fun e => by
            have := HZ0.out
            rcases e with e | e
            · omega
            · have := (HVL.out _ e.symm).1; omega)
          obtain ⟨y0, y1, y2⟩ := hqy.cells
          have y3 := y2 0
          have y4 := y2 1
          have HQY := Lib.hid hqy
          have HHD : Hid ((0 ≤ hiF (bvs 1 gs) ∧ hiF (bvs 1 gs) ≤ 10) ∧ 0 ≤ loF (bvs 1 gs) ∧ loF (bvs 1 gs) ≤ 10) := by
            have h5 := bvs_bd (gs := gs) (b := 1) (fun k hk => (HGR.out k hk).2.2) gs.length
            rw [List.take_length] at h5
            exact ⟨hiF_bd h5, loF_bd h5⟩
          obtain ⟨hd1, hd2⟩ := HHD.out
          have hf5 : f ≤ 5 := by omega
          generalize loF (bvs 1 gs) = l1 at *
          generalize hiF (bvs 1 gs) = h1' at *
          clear y2 hqy
          go_wp2_with fail
          go_roundw
          case rel =>
            have hs := sets_at wy (w.heap.size + 1 + 1) 0 1 (.int .i64 (cl + 10 - h1')) (.int .i64 (ch + 10 - l1))
            have hcs : Chg wy ((wy.setCell ⟨w.heap.size + 1 + 1, 0, none⟩ (.int .i64 (cl + 10 - h1'))).setCell ⟨w.heap.size + 1 + 1, 1, none⟩ (.int .i64 (ch + 10 - l1))) (fun i => i = w.heap.size + 1 + 1) := Chg.ofGrown hs fun i e => by injection e
            refine ⟨f + 1, by omega, by go_num, ?_, ?_, ?_⟩
            · rw [HRN.out]
              exact HOy.out.chg hcs fun j e h6 => by have := (HOy.out.lt e).1; have := HZ0.out; omega
            · rw [HCN.out.1, HCN.out.2]
              exact HQY.out.set _ _
            · refine HC2.out.trans (Chg.trans (S := fun i => i = g ∨ some i = (Value.slice Av rs.length cv).ownBlock ∨ i = w.heap.size + 1 + 1) (Chg.trans (Chg.refl w2 _) HCy.out (fun i _ e => e.elim .inl (fun e => .inr (.inl e)))) hcs (fun i _ e => .inr (.inr e))) ?_
              exact fun i hi e => by
                rcases e with e | e | e
                · omega
                · have := (HVL.out i e.symm).1; omega
                · exact e
          case measure => simp [intOf]; omega
    · have h1i : ¬ (f : Int) < (m : Int) := by omega
      obtain rfl : f = m := by omega
      have h5 : Q2 wf (w.heap.size + 1) 0 0 45 := HQ5.out.chg HC.out (fun e => by omega)
      have H5 := Lib.hid h5
      obtain ⟨y0, y1, -⟩ := HQ.out.cells
      obtain ⟨z0, z1, z2⟩ := h5.cells
      have z3 := z2 0
      have z4 := z2 1
      obtain ⟨Av, cv, rfl⟩ := HO.out.form
      clear z2 h5
      go_wp2_with fail
      have HBf : Hid (Below w.heap.size w ((wf.setCell ⟨w.heap.size + 1, 0, none⟩ (.int .i64 cl)).setCell ⟨w.heap.size + 1, 1, none⟩ (.int .i64 ch)).drew) := ((HBr.out.setCell (by dsimp only; omega) _).setCell (by dsimp only; omega) _).drew
      have HRg : Hid (Rgs ((wf.setCell ⟨w.heap.size + 1, 0, none⟩ (.int .i64 cl)).setCell ⟨w.heap.size + 1, 1, none⟩ (.int .i64 ch)).drew.heap.size ((wf.setCell ⟨w.heap.size + 1, 0, none⟩ (.int .i64 cl)).setCell ⟨w.heap.size + 1, 1, none⟩ (.int .i64 ch)).drew Av rs ∧ rs.length ≤ cv ∧ cv ≤ 9223372036854775807) := by
        have h9 := HO.out.chg (Chg.ofGrown (S := fun i => i = w.heap.size + 1) (sets_at wf (w.heap.size + 1) 0 1 (.int .i64 cl) (.int .i64 ch)) fun i e => by injection e) (fun j e h => by have := (HO.out.lt e).1; have := HZ0.out; omega)
        obtain ⟨r1, r2, r3⟩ := h9.rgs
        exact ⟨r3, r1, r2⟩
      have H5q := H5.out
      unfold Q2 at H5q
      have H5Q := Lib.hid H5q
      clear H5q
      go_still_tail 3, (by kernel_rfl)
      change wpList _ _ _ _ _ wf.drew
      go_wp2_with fail
      refine bodyPost_ret (v := .tuple #[.slice Av rs.length cv, .agg #[.int .i64 cl, .int .i64 ch]]) (by simp [results, Try.results28, go_sem, World.cell?, World.setCell, World.drew, Array.getElem?_modify, H5Q.out]) rfl ?_
      rw [HRS.out, HCL.out, HCH.out]
      exact ⟨Av, cv, rfl, HRg.out.2, HRg.out.1, HBf.out⟩
end Go.Proofs.Ytadjkinpimmhkaa
