/-
  OilWider: the walk.
-/
import Derived.Test.YtgnonfomlgkpcaaWiderM
import Derived.Test.YtgnonfomlgkpcaaFewestW
namespace Go.Proofs.Ytgnonfomlgkpcaa
open Go.RowKit
set_option linter.unusedSimpArgs false
set_option linter.unusedVariables false

theorem lastsA_c (A A' An : Option Addr) (xss : List (List Int)) (x nd : List Int) (c c' cn : Nat) (lo hi ca : Int) (w : World) (hr : Grd w.heap.size w A xss) (hx : Ints w.heap.size w A' x) (hn : Ints w.heap.size w An nd) (hc : xss.length ≤ c ∧ c ≤ 9223372036854775807) (hc' : x.length ≤ c' ∧ c' ≤ 9223372036854775807) (hcn : nd.length ≤ cn ∧ cn ≤ 9223372036854775807) (hle : laneErr xss lo hi ca = 0) (hln : lineB xss x nd = true) :
    Calls Try.prog 36 #[.agg #[.slice A xss.length c, .int .i64 lo, .int .i64 hi, .int .i64 ca], .agg #[.slice A' x.length c', .slice An nd.length cn]] w (Ans w (.tuple #[.int .i64 (lastsFrom ca x nd lo hi (oilOf xss) 0 20), .int .i64 0])) := by
  have h : lastsErr xss lo hi ca x nd = 0 := by rw [lastsErr, if_pos hle, hln]; rfl
  refine (lasts_c A A' An xss x nd c c' cn lo hi ca w (Nat.le_refl _) hr hx hn hc hc' hcn).mono ?_
  rintro e w' (⟨h1, _⟩ | ⟨_, h1, h2⟩)
  · exact absurd h h1
  · exact ⟨h1, h2⟩
theorem info55 : (Try.prog.info? 55).map (fun i => (i.zero, i.size, i.bytes)) = some (some (.agg #[.slice none 0 0, .slice none 0 0]), 2, 48) := by kernel_rfl
/-- A block of lines: its cells, none frozen. -/
def OthC (w : World) (g n : Nat) (p : Nat → Value × Value) : Prop :=
  (∃ cur ty, w.heap[g]? = some (.cells cur ty (0, 0))) ∧ ∀ j, j < n → w.cell? ⟨g, j * 2, none⟩ = some (p j).1 ∧ w.cell? ⟨g, j * 2 + 1, none⟩ = some (p j).2
theorem cell_of_under {W w1 : World} (hb : Below W.heap.size W w1) {p : Addr} {v : Value} (h : W.cell? p = some v) : w1.cell? p = some v := cell_of_ans hb h
theorem OthC.lt {w : World} {g n : Nat} {p : Nat → Value × Value} (h : OthC w g n p) : g < w.heap.size := by
  obtain ⟨⟨cur, ty, h⟩, _⟩ := h
  exact (Array.getElem?_eq_some_iff.1 h).1
theorem OthC.frozen {w : World} {g n : Nat} {p : Nat → Value × Value} (h : OthC w g n p) (o : Nat) : w.frozen? ⟨g, o, none⟩ = false := by
  obtain ⟨⟨cur, ty, h⟩, _⟩ := h
  simp [World.frozen?, h]
theorem OthC.below {w w' : World} {g n : Nat} {p : Nat → Value × Value} (h : OthC w g n p) (hb : Below w.heap.size w w') : OthC w' g n p := by
  have hl := h.lt
  obtain ⟨⟨cur, ty, h1⟩, h2⟩ := h
  exact ⟨⟨cur, ty, (hb.block g hl).trans h1⟩, fun j hj => ⟨cell_of_ans hb (h2 j hj).1, cell_of_ans hb (h2 j hj).2⟩⟩
theorem OthC.drew {w : World} {g n : Nat} {p : Nat → Value × Value} (h : OthC w g n p) : OthC w.drew g n p := h
theorem OthC.far {w : World} {g n : Nat} {p : Nat → Value × Value} (h : OthC w g n p) {a : Addr} (ha : a.block ≠ g) (v : Value) : OthC (w.setCell a v) g n p := by
  obtain ⟨⟨cur, ty, h1⟩, h2⟩ := h
  refine ⟨⟨cur, ty, by simp [World.setCell, Array.getElem?_modify, ha, h1]⟩, fun j hj => ⟨cell_set_keep (h2 j hj).1 ha, cell_set_keep (h2 j hj).2 ha⟩⟩
theorem OthC.set {w : World} {g n k : Nat} {p : Nat → Value × Value} (h : OthC w g n p) (hk : k < n) (v : Value) : OthC (w.setCell ⟨g, k * 2 + 1, none⟩ v) g n (fun j => if j = k then ((p k).1, v) else p j) := by
  obtain ⟨⟨cur, ty, h1⟩, h2⟩ := h
  refine ⟨by simp [World.setCell, Array.getElem?_modify, h1], fun j hj => ?_⟩
  have e1 : (w.setCell ⟨g, k * 2 + 1, none⟩ v).cell? ⟨g, j * 2, none⟩ = w.cell? ⟨g, j * 2, none⟩ := World.cell?_setCell_other w _ _ _ (by intro e; injection e with _ e; omega)
  rw [e1]
  dsimp only
  by_cases e : j = k
  · subst e
    rw [if_pos rfl]
    exact ⟨(h2 j hj).1, World.cell?_setCell_same w _ _ (h2 j hj).2⟩
  · rw [if_neg e]
    have e2 : (w.setCell ⟨g, k * 2 + 1, none⟩ v).cell? ⟨g, j * 2 + 1, none⟩ = w.cell? ⟨g, j * 2 + 1, none⟩ := World.cell?_setCell_other w _ _ _ (by intro e'; injection e' with _ e'; omega)
    rw [e2]
    exact h2 j hj
def pairsL (ls : Lines) (A1 : Nat → Option Addr) (c1 : Nat → Nat) (A2 : Nat → Option Addr) (c2 : Nat → Nat) (j : Nat) : Value × Value := (.slice (A1 j) (lx ls j).1.length (c1 j), .slice (A2 j) (lx ls j).2.length (c2 j))
/-- A block of numbers. -/
def IntC (w : World) (g : Nat) (xs : List Int) : Prop := (∃ cur ty, w.heap[g]? = some (.cells cur ty (0, 0))) ∧ ∀ j, j < xs.length → w.cell? ⟨g, j, none⟩ = some (.int .i64 (ix xs j))
theorem int_own {base : Nat} {w : World} {A : Option Addr} {n c : Nat} {xs : List Int} (h : OwnI base w (.slice A n c) xs) (hx : 0 < xs.length) : ∃ g, A = some ⟨g, 0, none⟩ ∧ base ≤ g ∧ g < w.heap.size ∧ (xs.length ≤ c ∧ c ≤ 9223372036854775807) ∧ IntC w g xs := by
  obtain ⟨hc, hi⟩ := own_parts h
  rcases h.2 with ⟨_, h0⟩ | ⟨g, cap, cur, e, hb, hg, hn, hm, hs, ht⟩
  · omega
  · injection e with e1 e2 e3
    subst e1 e3
    refine ⟨g, rfl, hb, (Array.getElem?_eq_some_iff.1 hg).1, hc, ⟨cur, _, hg⟩, fun j hj => ?_⟩
    obtain ⟨b, off, e, _, f⟩ := hi.at_ hj
    injection e with e
    injection e with e1 e2 _
    subst e1 e2
    rwa [Nat.zero_add] at f
theorem IntC.drew {w : World} {g : Nat} {xs : List Int} (h : IntC w g xs) : IntC w.drew g xs := h
theorem IntC.far {w : World} {g : Nat} {xs : List Int} (h : IntC w g xs) {a : Addr} (ha : a.block ≠ g) (v : Value) : IntC (w.setCell a v) g xs := by
  obtain ⟨⟨cur, ty, h1⟩, h2⟩ := h
  exact ⟨⟨cur, ty, by simp [World.setCell, Array.getElem?_modify, ha, h1]⟩, fun j hj => cell_set_keep (h2 j hj) ha⟩
theorem IntC.frozen {w : World} {g : Nat} {xs : List Int} (h : IntC w g xs) (o : Nat) : w.frozen? ⟨g, o, none⟩ = false := by
  obtain ⟨⟨cur, ty, h⟩, _⟩ := h
  simp [World.frozen?, h]
theorem IntC.set {w : World} {g r : Nat} {xs : List Int} (h : IntC w g xs) (hr : r < xs.length) (v : Int) : IntC (w.setCell ⟨g, r, none⟩ (.int .i64 v)) g (xs.set r v) := by
  obtain ⟨⟨cur, ty, h1⟩, h2⟩ := h
  refine ⟨by simp [World.setCell, Array.getElem?_modify, h1], fun j hj => ?_⟩
  rw [List.length_set] at hj
  rw [ix_set]
  by_cases e : j = r
  · subst e
    rw [if_pos ⟨rfl, hr⟩]
    exact World.cell?_setCell_same w _ _ (h2 j hj)
  · rw [if_neg (fun x => e x.1)]
    exact (World.cell?_setCell_other w _ _ _ (by intro e'; injection e' with _ e'; exact e e'.symm)).trans (h2 j hj)
theorem IntC.ints {w : World} {g : Nat} {xs : List Int} (h : IntC w g xs) : Ints w.heap.size w (some ⟨g, 0, none⟩) xs := fun hp => by
  obtain ⟨⟨cur, ty, h1⟩, h2⟩ := h
  exact ⟨g, 0, rfl, (Array.getElem?_eq_some_iff.1 h1).1, fun k hk => by rw [Nat.zero_add]; exact h2 k hk⟩
theorem need_lns {B : Nat} {w w' : World} {g gN k r c9 : Nat} {v : Int} {ls : Lines} {A1 : Nat → Option Addr} {c1 : Nat → Nat} {A2 : Nat → Option Addr} {c2 : Nat → Nat} (hin : InL B w ls A1 c1 A2 c2) (hb : Below B w w') (hB : B ≤ w'.heap.size) (hk : k < ls.length)
    (ho : OthC w' g ls.length (fun j => if j = k then ((pairsL ls A1 c1 A2 c2 k).1, .slice (some ⟨gN, 0, none⟩) (lx ls k).2.length c9) else pairsL ls A1 c1 A2 c2 j)) (hc : (lx ls k).2.length ≤ c9 ∧ c9 ≤ 9223372036854775807) (hi : IntC w' gN ((lx ls k).2.set r v)) :
    Lns w'.heap.size w' (some ⟨g, 0, none⟩) (needL ls k r v) := fun hp => by
  refine ⟨g, 0, rfl, ho.lt, fun j hj => ?_⟩
  rw [needL_len] at hj
  obtain ⟨a1, a2⟩ := ho.2 j hj
  obtain ⟨q1, q2, q3, q4⟩ := hin j hj
  rw [Nat.zero_add, lx_needL hk]
  dsimp only at a1 a2
  by_cases e : j = k
  · subst e
    rw [if_pos rfl] at a1 a2 ⊢
    exact ⟨_, _, a1, a2, ⟨_, _, rfl, q1.1, q1.2, (q3.below hb).more hB⟩, ⟨_, c9, by rw [List.length_set], by rw [List.length_set]; exact hc.1, hc.2, hi.ints⟩⟩
  · rw [if_neg e] at a1 a2 ⊢
    exact ⟨_, _, a1, a2, ⟨_, _, rfl, q1.1, q1.2, (q3.below hb).more hB⟩, ⟨_, _, rfl, q2.1, q2.2, (q4.below hb).more hB⟩⟩
theorem lines_src {w : World} {b off : Nat} {ls : Lines} {A1 : Nat → Option Addr} {c1 : Nat → Nat} {A2 : Nat → Option Addr} {c2 : Nat → Nat} (h : ∀ k, k < ls.length → w.cell? ⟨b, off + k * 2, none⟩ = some (.slice (A1 k) (lx ls k).1.length (c1 k)) ∧ w.cell? ⟨b, off + k * 2 + 1, none⟩ = some (.slice (A2 k) (lx ls k).2.length (c2 k))) :
    Src w 2 (some ⟨b, off, none⟩) ls.length (flatV ((List.range ls.length).map (pairsL ls A1 c1 A2 c2))) := by
  refine ⟨by rw [flatV_len]; simp, (fun h => by cases h), fun ad hA j u hu => ?_⟩
  injection hA with hA
  subst hA
  rw [add_eq]
  have hj : j < ls.length * 2 := by
    have := (List.getElem?_eq_some_iff.1 hu).1
    rw [flatV_len] at this
    simpa using this
  obtain ⟨a1, a2⟩ := flatV_at ((List.range ls.length).map (pairsL ls A1 c1 A2 c2)) (j / 2) (by simp; omega)
  obtain ⟨b1, b2⟩ := h (j / 2) (by omega)
  have ep : (((List.range ls.length).map (pairsL ls A1 c1 A2 c2))[j / 2]'(by simp; omega)) = pairsL ls A1 c1 A2 c2 (j / 2) := by simp
  rw [ep] at a1 a2
  rcases Nat.mod_two_eq_zero_or_one j with e | e
  · rw [show j / 2 * 2 = j by omega] at a1 b1
    rw [hu] at a1
    injection a1 with a1
    rw [a1]
    exact b1
  · rw [show j / 2 * 2 + 1 = j by omega] at a2
    rw [show off + j / 2 * 2 + 1 = off + j by omega] at b2
    rw [hu] at a2
    injection a2 with a2
    rw [a2]
    exact b2
theorem oth_own {base : Nat} {w : World} {v : Value} {n : Nat} {p : Nat → Value × Value} (h : w.ownsRow base 55 2 v n (flatV ((List.range n).map p))) (hn : 0 < n) :
    ∃ g cap, v = .slice (some ⟨g, 0, none⟩) n cap ∧ base ≤ g ∧ (n ≤ cap ∧ cap ≤ 9223372036854775807) ∧ OthC w g n p := by
  have h' := h
  rcases h.2 with ⟨_, h0⟩ | ⟨g, cap, cur, rfl, hb, hg, hc, hm, hs, ht⟩
  · omega
  · refine ⟨g, cap, rfl, hb, ⟨hc, by unfold maxLen at hm; omega⟩, ⟨cur, _, hg⟩, fun j hj => ?_⟩
    obtain ⟨a1, a2⟩ := flatV_at ((List.range n).map p) j (by simpa using hj)
    have b1 := h'.cells (g := g) rfl _ _ a1
    have b2 := h'.cells (g := g) rfl _ _ a2
    rw [add_eq, Nat.zero_add] at b1 b2
    have ep : (((List.range n).map p)[j]'(by simpa using hj)) = p j := by simp
    rw [ep] at b1 b2
    exact ⟨b1, b2⟩
theorem block42m_c (A : Option Addr) (ls : Lines) (n c : Nat) (w : World) (hn : ls.length = n) (hx : Lns w.heap.size w A ls) (hf : fewB ls = true) (hc : n ≤ c ∧ c ≤ 9223372036854775807) :
    Calls Try.prog 42 #[.slice A n c] w (BlockP w ls) := by
  subst hn
  exact block42_c A ls c w hx hf hc
theorem four_cells {W0 w1 : World} {g : Nat} {a b c d : Value} {t : TypeId} (h : W0.heap[g]? = some (.cells #[a, b, c, d] t)) (hb : Below W0.heap.size W0 w1) :
    w1.cell? ⟨g, 0, none⟩ = some a ∧ w1.cell? ⟨g, 1, none⟩ = some b ∧ w1.cell? ⟨g, 2, none⟩ = some c ∧ w1.cell? ⟨g, 3, none⟩ = some d ∧ ∀ o, w1.frozen? ⟨g, o, none⟩ = false := by
  have h1 := (hb.block g (Array.getElem?_eq_some_iff.1 h).1).trans h
  simp [World.cell?, World.frozen?, h1]

set_option maxRecDepth 100000 in
set_option maxHeartbeats 32000000 in
theorem oilWider_c (A Ab A' Ap : Option Addr) (xss bss : List (List Int)) (ls : Lines) (plan : List Int) (c cb c' cp : Nat) (lo hi ca u : Int) (w : World) (hx : Grd w.heap.size w A xss) (hbs : Grd w.heap.size w Ab bss) (hl : Lns w.heap.size w A' ls) (hp : Ints w.heap.size w Ap plan) (hc : xss.length ≤ c ∧ c ≤ 9223372036854775807) (hcb : bss.length ≤ cb ∧ cb ≤ 9223372036854775807) (hc' : ls.length ≤ c' ∧ c' ≤ 9223372036854775807) (hcp : plan.length ≤ cp ∧ cp ≤ 9223372036854775807) (hu : 0 ≤ u ∧ u ≤ 255) :
    Calls Try.prog 10 #[.agg #[.slice A xss.length c, .int .i64 lo, .int .i64 hi, .int .i64 ca], .slice Ab bss.length cb, .slice A' ls.length c', .slice Ap plan.length cp, .int .u8 u] w (Ans w (.bool true)) := by
  have hb0 : Below w.heap.size w (w.alloc (.cells #[.slice A xss.length c, .int .i64 lo, .int .i64 hi, .int .i64 ca] 26)) := (Below.refl _ _).alloc (Nat.le_refl _) _
  have k0 : (w.alloc (.cells #[.slice A xss.length c, .int .i64 lo, .int .i64 hi, .int .i64 ca] 26)).cell? ⟨w.heap.size, 0, none⟩ = some (.slice A xss.length c) := by simp
  have k1 : (w.alloc (.cells #[.slice A xss.length c, .int .i64 lo, .int .i64 hi, .int .i64 ca] 26)).cell? ⟨w.heap.size, 1, none⟩ = some (.int .i64 lo) := by simp
  have k2 : (w.alloc (.cells #[.slice A xss.length c, .int .i64 lo, .int .i64 hi, .int .i64 ca] 26)).cell? ⟨w.heap.size, 2, none⟩ = some (.int .i64 hi) := by simp
  have k3 : (w.alloc (.cells #[.slice A xss.length c, .int .i64 lo, .int .i64 hi, .int .i64 ca] 26)).cell? ⟨w.heap.size, 3, none⟩ = some (.int .i64 ca) := by simp
  have HX := Lib.hid (hx.step hb0)
  have HBs := Lib.hid (hbs.step hb0)
  have HL := Lib.hid (hl.step hb0)
  have HP := Lib.hid (hp.step hb0)
  have HB := Lib.hid hb0
  clear hb0 hx hbs hl hp
  go_enter Try.func10, Try.ntmps10
  go_wp2_with fail
  generalize (w.alloc (.cells #[.slice A xss.length c, .int .i64 lo, .int .i64 hi, .int .i64 ca] 26)) = W0 at k0 k1 k2 k3 HX HBs HL HP HB ⊢
  cases hR : readyB xss lo hi ca bss
  · have HR := Lib.hid hR
    clear hR
    refine (ready_c A Ab xss bss c cb lo hi ca _ HX.out HBs.out hc hcb).mono ?_
    rw [HR.out]
    rintro e w1 ⟨rfl, hb⟩
    replace HX := Lib.hid (HX.out.step hb)
    replace HBs := Lib.hid (HBs.out.step hb)
    replace HL := Lib.hid (HL.out.step hb)
    replace HP := Lib.hid (HP.out.step hb)
    replace k0 := cell_of_ans hb k0
    replace k1 := cell_of_ans hb k1
    replace k2 := cell_of_ans hb k2
    replace k3 := cell_of_ans hb k3
    replace HB := Lib.hid (HB.out.trans (hb.mono HB.out.size))
    clear hb
    go_wp2_with fail
    refine (awake_c _).mono ?_
    rintro e w9 ⟨rfl, hb⟩
    replace HX := Lib.hid (HX.out.step hb)
    replace HBs := Lib.hid (HBs.out.step hb)
    replace HL := Lib.hid (HL.out.step hb)
    replace HP := Lib.hid (HP.out.step hb)
    replace k0 := cell_of_ans hb k0
    replace k1 := cell_of_ans hb k1
    replace k2 := cell_of_ans hb k2
    replace k3 := cell_of_ans hb k3
    replace HB := Lib.hid (HB.out.trans (hb.mono HB.out.size))
    clear hb
    go_wp2_with fail
    go_ret
    exact ⟨rfl, HB.out⟩
  · have HR := Lib.hid hR
    clear hR
    refine (ready_c A Ab xss bss c cb lo hi ca _ HX.out HBs.out hc hcb).mono ?_
    rw [HR.out]
    rintro e w1 ⟨rfl, hb⟩
    replace HX := Lib.hid (HX.out.step hb)
    replace HBs := Lib.hid (HBs.out.step hb)
    replace HL := Lib.hid (HL.out.step hb)
    replace HP := Lib.hid (HP.out.step hb)
    replace k0 := cell_of_ans hb k0
    replace k1 := cell_of_ans hb k1
    replace k2 := cell_of_ans hb k2
    replace k3 := cell_of_ans hb k3
    replace HB := Lib.hid (HB.out.trans (hb.mono HB.out.size))
    clear hb
    cases hF : fewB ls
    · have HF := Lib.hid hF
      clear hF
      go_wp2_with fail
      refine (fewA_c A' ls c' _ HL.out hc').mono ?_
      rw [HF.out]
      rintro e w2 ⟨rfl, hb⟩
      replace HX := Lib.hid (HX.out.step hb)
      replace HBs := Lib.hid (HBs.out.step hb)
      replace HL := Lib.hid (HL.out.step hb)
      replace HP := Lib.hid (HP.out.step hb)
      replace k0 := cell_of_ans hb k0
      replace k1 := cell_of_ans hb k1
      replace k2 := cell_of_ans hb k2
      replace k3 := cell_of_ans hb k3
      replace HB := Lib.hid (HB.out.trans (hb.mono HB.out.size))
      clear hb
      go_wp2_with fail
      refine (awake_c _).mono ?_
      rintro e w9 ⟨rfl, hb⟩
      replace HX := Lib.hid (HX.out.step hb)
      replace HBs := Lib.hid (HBs.out.step hb)
      replace HL := Lib.hid (HL.out.step hb)
      replace HP := Lib.hid (HP.out.step hb)
      replace k0 := cell_of_ans hb k0
      replace k1 := cell_of_ans hb k1
      replace k2 := cell_of_ans hb k2
      replace k3 := cell_of_ans hb k3
      replace HB := Lib.hid (HB.out.trans (hb.mono HB.out.size))
      clear hb
      go_wp2_with fail
      go_ret
      exact ⟨rfl, HB.out⟩
    · have HF := Lib.hid hF
      obtain ⟨h25, h16⟩ := fewB_le hF
      have H16 := Lib.hid h16
      clear hF h16
      go_wp2_with fail
      refine (fewA_c A' ls c' _ HL.out hc').mono ?_
      rw [HF.out]
      rintro e w2 ⟨rfl, hb⟩
      replace HX := Lib.hid (HX.out.step hb)
      replace HBs := Lib.hid (HBs.out.step hb)
      replace HL := Lib.hid (HL.out.step hb)
      replace HP := Lib.hid (HP.out.step hb)
      replace k0 := cell_of_ans hb k0
      replace k1 := cell_of_ans hb k1
      replace k2 := cell_of_ans hb k2
      replace k3 := cell_of_ans hb k3
      replace HB := Lib.hid (HB.out.trans (hb.mono HB.out.size))
      clear hb
      by_cases h30 : ¬ plan.length ≤ 30
      · have h30i : decide ((30 : Int) < (plan.length : Int)) = true := decide_eq_true (by omega)
        go_wp2_with fail
        refine (awake_c _).mono ?_
        rintro e w9 ⟨rfl, hb⟩
        replace HX := Lib.hid (HX.out.step hb)
        replace HBs := Lib.hid (HBs.out.step hb)
        replace HL := Lib.hid (HL.out.step hb)
        replace HP := Lib.hid (HP.out.step hb)
        replace k0 := cell_of_ans hb k0
        replace k1 := cell_of_ans hb k1
        replace k2 := cell_of_ans hb k2
        replace k3 := cell_of_ans hb k3
        replace HB := Lib.hid (HB.out.trans (hb.mono HB.out.size))
        clear hb
        go_wp2_with fail
        go_ret
        exact ⟨rfl, HB.out⟩
      · have h30i : decide ((30 : Int) < (plan.length : Int)) = false := decide_eq_false (by omega)
        have hpl30 : plan.length ≤ 100000 := by omega
        clear h30
        go_wp2_with fail
        refine (blocked_c A A' xss ls c c' lo hi ca _ HX.out HL.out hc hc').mono ?_
        rintro e w3 ⟨rfl, hb⟩
        replace HX := Lib.hid (HX.out.step hb)
        replace HBs := Lib.hid (HBs.out.step hb)
        replace HL := Lib.hid (HL.out.step hb)
        replace HP := Lib.hid (HP.out.step hb)
        replace k0 := cell_of_ans hb k0
        replace k1 := cell_of_ans hb k1
        replace k2 := cell_of_ans hb k2
        replace k3 := cell_of_ans hb k3
        replace HB := Lib.hid (HB.out.trans (hb.mono HB.out.size))
        clear hb
        by_cases hbe : ¬ blockErr xss lo hi ca ls = 0
        · have z1 : (blockErr xss lo hi ca ls != 0) = true := by simp [hbe]
          clear hbe
          go_wp2_with fail
          refine (awake_c _).mono ?_
          rintro e w9 ⟨rfl, hb⟩
          replace HX := Lib.hid (HX.out.step hb)
          replace HBs := Lib.hid (HBs.out.step hb)
          replace HL := Lib.hid (HL.out.step hb)
          replace HP := Lib.hid (HP.out.step hb)
          replace k0 := cell_of_ans hb k0
          replace k1 := cell_of_ans hb k1
          replace k2 := cell_of_ans hb k2
          replace k3 := cell_of_ans hb k3
          replace HB := Lib.hid (HB.out.trans (hb.mono HB.out.size))
          clear hb
          go_wp2_with fail
          go_ret
          exact ⟨rfl, HB.out⟩
        · replace hbe : blockErr xss lo hi ca ls = 0 := Classical.not_not.1 hbe
          obtain ⟨hs1, hs2, hE⟩ := readyB_ok HR.out
          have HS1 := Lib.hid hs1
          have HE := Lib.hid hE
          have HLE := Lib.hid (ballsOk hE).1
          obtain ⟨hn0, hn8, hrr, hvv, hlo, hlh, hhi, hca, -⟩ := laneOk (ballsOk hE).1
          have hm20 := (ballsOk hE).2.1
          have HBE := Lib.hid hbe
          have HRR := Lib.hid hrr
          obtain ⟨-, hl20, hlns⟩ := blockOk hbe
          have HLN := Lib.hid hlns
          rw [hbe]
          clear hbe hs1 hs2 hE hrr hvv hlns h30i
          obtain ⟨m, hm⟩ : ∃ m : Nat, u = (m : Int) := ⟨u.toNat, by omega⟩
          subst hm
          have hm255 : m ≤ 255 := by omega
          clear hu
          go_upto_region 4 with fail
          have hb1 : Below w3.heap.size w3 (w3.alloc (.cells #[.slice A xss.length c, .int .i64 lo, .int .i64 hi, .int .i64 ca] 26)) := (Below.refl _ _).alloc (Nat.le_refl _) _
          have hbx : (w3.alloc (.cells #[.slice A xss.length c, .int .i64 lo, .int .i64 hi, .int .i64 ca] 26)).heap[w3.heap.size]? = some (.cells #[.slice A xss.length c, .int .i64 lo, .int .i64 hi, .int .i64 ca] 26) := World.alloc_heap_new _ _
          have n0 := cell_of_ans hb1 k0
          have n1 := cell_of_ans hb1 k1
          have n2 := cell_of_ans hb1 k2
          have n3 := cell_of_ans hb1 k3
          have HB1 := Lib.hid hb1
          have HXb := Lib.hid hbx
          obtain ⟨s0, s1, s2, s3, s4⟩ := four_cells hbx (Below.refl _ _)
          clear hb1 hbx
          generalize (w3.alloc (.cells #[.slice A xss.length c, .int .i64 lo, .int .i64 hi, .int .i64 ca] 26)) = W4 at n0 n1 n2 n3 s0 s1 s2 s3 s4 HB1 HXb ⊢
          have e3 : ((m : Int)).tmod 3 = ((m % 3 : Nat) : Int) := by rw [Int.tmod_eq_emod_of_nonneg (by omega)]; omega
          have e4 : ((m : Int)).tdiv 4 = ((m / 4 : Nat) : Int) := by rw [Int.tdiv_eq_ediv_of_nonneg (by omega)]; omega
          have e5 : (((m / 4 : Nat) : Int)).tmod 3 = ((m / 4 % 3 : Nat) : Int) := by rw [Int.tmod_eq_emod_of_nonneg (by omega)]; omega
          go_upto_region 5 with fail
          generalize hlo' : (if (m : Int) % 3 < lo then lo - (m : Int) % 3 else 0) = lo'
          generalize hhi' : (if hi + (m : Int) / 4 % 3 < 9 then hi + (m : Int) / 4 % 3 else 9) = hi'
          have b0 : 0 ≤ lo' := by rw [← hlo']; split <;> omega
          have b1 : lo' ≤ lo := by rw [← hlo']; split <;> omega
          have b2 : hi ≤ hi' := by rw [← hhi']; split <;> omega
          have b9 : hi' ≤ 9 := by rw [← hhi']; split <;> omega
          clear hlo' hhi' e3 e4 e5
          have hb : Below w3.heap.size w3 ((W4.setCell ⟨w3.heap.size, 1, none⟩ (.int .i64 lo')).setCell ⟨w3.heap.size, 2, none⟩ (.int .i64 hi')) := (HB1.out.setCell (by dsimp only; omega) _).setCell (by dsimp only; omega) _
          have hx4 := HXb.out
          have m0 : ((W4.setCell ⟨w3.heap.size, 1, none⟩ (.int .i64 lo')).setCell ⟨w3.heap.size, 2, none⟩ (.int .i64 hi')).cell? ⟨w3.heap.size, 0, none⟩ = some (.slice A xss.length c) := by simp [World.cell?, World.setCell, Array.getElem?_modify, hx4]
          have m1 : ((W4.setCell ⟨w3.heap.size, 1, none⟩ (.int .i64 lo')).setCell ⟨w3.heap.size, 2, none⟩ (.int .i64 hi')).cell? ⟨w3.heap.size, 1, none⟩ = some (.int .i64 lo') := by simp [World.cell?, World.setCell, Array.getElem?_modify, hx4]
          have m2 : ((W4.setCell ⟨w3.heap.size, 1, none⟩ (.int .i64 lo')).setCell ⟨w3.heap.size, 2, none⟩ (.int .i64 hi')).cell? ⟨w3.heap.size, 2, none⟩ = some (.int .i64 hi') := by simp [World.cell?, World.setCell, Array.getElem?_modify, hx4]
          have m3 : ((W4.setCell ⟨w3.heap.size, 1, none⟩ (.int .i64 lo')).setCell ⟨w3.heap.size, 2, none⟩ (.int .i64 hi')).cell? ⟨w3.heap.size, 3, none⟩ = some (.int .i64 ca) := by simp [World.cell?, World.setCell, Array.getElem?_modify, hx4]
          clear n0 n1 n2 n3 s0 s1 s2 s3 s4 HB1 HXb hx4
          replace HX := Lib.hid (HX.out.step hb)
          replace HBs := Lib.hid (HBs.out.step hb)
          replace HL := Lib.hid (HL.out.step hb)
          replace HP := Lib.hid (HP.out.step hb)
          replace k0 := cell_of_ans hb k0
          replace k1 := cell_of_ans hb k1
          replace k2 := cell_of_ans hb k2
          replace k3 := cell_of_ans hb k3
          replace HB := Lib.hid (HB.out.trans (hb.mono HB.out.size))
          clear hb
          generalize (W4.setCell ⟨w3.heap.size, 1, none⟩ (.int .i64 lo')).setCell ⟨w3.heap.size, 2, none⟩ (.int .i64 hi') = W5 at *
          generalize w3.heap.size = gx at *
          have HE2 := Lib.hid (wide_balls HE.out b0 b1 b2 b9)
          have HLE2 := Lib.hid (wide_lane HLE.out b0 b1 b2 b9)
          go_wp2_with fail
          refine (lane_c _ xss c lo hi ca _ (Nat.le_refl _) HX.out (small_lane HLE.out).1 (small_lane HLE.out).2).mono ?_
          rintro e w11 ⟨B2, d2, rfl, hd2, e2, hb⟩
          replace HX := Lib.hid (HX.out.step hb)
          replace HBs := Lib.hid (HBs.out.step hb)
          replace HL := Lib.hid (HL.out.step hb)
          replace HP := Lib.hid (HP.out.step hb)
          replace k0 := cell_of_ans hb k0
          replace k1 := cell_of_ans hb k1
          replace k2 := cell_of_ans hb k2
          replace k3 := cell_of_ans hb k3
          replace m0 := cell_of_ans hb m0
          replace m1 := cell_of_ans hb m1
          replace m2 := cell_of_ans hb m2
          replace m3 := cell_of_ans hb m3
          replace HB := Lib.hid (HB.out.trans (hb.mono HB.out.size))
          clear hb
          have He2 := Lib.hid e2
          clear e2
          go_wp2_with fail
          refine (copied_new_c _ bss cb _ HBs.out (small_balls HE.out).1 (small_balls HE.out).2).mono ?_
          rintro e w12 ⟨B3, d3, rfl, hd3, e3, hb⟩
          replace HX := Lib.hid (HX.out.step hb)
          replace HBs := Lib.hid (HBs.out.step hb)
          replace HL := Lib.hid (HL.out.step hb)
          replace HP := Lib.hid (HP.out.step hb)
          replace k0 := cell_of_ans hb k0
          replace k1 := cell_of_ans hb k1
          replace k2 := cell_of_ans hb k2
          replace k3 := cell_of_ans hb k3
          replace m0 := cell_of_ans hb m0
          replace m1 := cell_of_ans hb m1
          replace m2 := cell_of_ans hb m2
          replace m3 := cell_of_ans hb m3
          replace He2 := Lib.hid (He2.out.step hb)
          replace HB := Lib.hid (HB.out.trans (hb.mono HB.out.size))
          clear hb
          have He3 := Lib.hid e3
          clear e3
          go_wp2_with fail
          refine (bounds_ok_c B2 B3 xss bss d2 d3 lo hi ca _ He2.out He3.out hd2 hd3 HE.out).mono ?_
          rintro e w13 ⟨B4, d4, B5, d5, rfl, hd4, hd5, e4, e5, hb⟩
          replace HX := Lib.hid (HX.out.step hb)
          replace HBs := Lib.hid (HBs.out.step hb)
          replace HL := Lib.hid (HL.out.step hb)
          replace HP := Lib.hid (HP.out.step hb)
          replace k0 := cell_of_ans hb k0
          replace k1 := cell_of_ans hb k1
          replace k2 := cell_of_ans hb k2
          replace k3 := cell_of_ans hb k3
          replace m0 := cell_of_ans hb m0
          replace m1 := cell_of_ans hb m1
          replace m2 := cell_of_ans hb m2
          replace m3 := cell_of_ans hb m3
          replace He2 := Lib.hid (He2.out.step hb)
          replace He3 := Lib.hid (He3.out.step hb)
          replace HB := Lib.hid (HB.out.trans (hb.mono HB.out.size))
          clear hb
          have He4 := Lib.hid e4
          clear e4
          have He5 := Lib.hid e5
          clear e5
          clear He2 He3
          clear hd2 hd3
          go_wp2_with fail
          refine (lane_c _ xss c lo' hi' ca _ (Nat.le_refl _) HX.out (small_lane HLE.out).1 (small_lane HLE.out).2).mono ?_
          rintro e w14 ⟨B6, d6, rfl, hd6, e6, hb⟩
          replace HX := Lib.hid (HX.out.step hb)
          replace HBs := Lib.hid (HBs.out.step hb)
          replace HL := Lib.hid (HL.out.step hb)
          replace HP := Lib.hid (HP.out.step hb)
          replace k0 := cell_of_ans hb k0
          replace k1 := cell_of_ans hb k1
          replace k2 := cell_of_ans hb k2
          replace k3 := cell_of_ans hb k3
          replace m0 := cell_of_ans hb m0
          replace m1 := cell_of_ans hb m1
          replace m2 := cell_of_ans hb m2
          replace m3 := cell_of_ans hb m3
          replace He4 := Lib.hid (He4.out.step hb)
          replace He5 := Lib.hid (He5.out.step hb)
          replace HB := Lib.hid (HB.out.trans (hb.mono HB.out.size))
          clear hb
          have He6 := Lib.hid e6
          clear e6
          go_wp2_with fail
          refine (copied_new_c _ bss cb _ HBs.out (small_balls HE.out).1 (small_balls HE.out).2).mono ?_
          rintro e w15 ⟨B3, d3, rfl, hd3, e3, hb⟩
          replace HX := Lib.hid (HX.out.step hb)
          replace HBs := Lib.hid (HBs.out.step hb)
          replace HL := Lib.hid (HL.out.step hb)
          replace HP := Lib.hid (HP.out.step hb)
          replace k0 := cell_of_ans hb k0
          replace k1 := cell_of_ans hb k1
          replace k2 := cell_of_ans hb k2
          replace k3 := cell_of_ans hb k3
          replace m0 := cell_of_ans hb m0
          replace m1 := cell_of_ans hb m1
          replace m2 := cell_of_ans hb m2
          replace m3 := cell_of_ans hb m3
          replace He4 := Lib.hid (He4.out.step hb)
          replace He5 := Lib.hid (He5.out.step hb)
          replace He6 := Lib.hid (He6.out.step hb)
          replace HB := Lib.hid (HB.out.trans (hb.mono HB.out.size))
          clear hb
          have He3 := Lib.hid e3
          clear e3
          go_wp2_with fail
          refine (bounds_ok_c B6 B3 xss bss d6 d3 lo' hi' ca _ He6.out He3.out hd6 hd3 HE2.out).mono ?_
          rintro e w16 ⟨B7, d7, B8, d8, rfl, hd7, hd8, e7, e8, hb⟩
          replace HX := Lib.hid (HX.out.step hb)
          replace HBs := Lib.hid (HBs.out.step hb)
          replace HL := Lib.hid (HL.out.step hb)
          replace HP := Lib.hid (HP.out.step hb)
          replace k0 := cell_of_ans hb k0
          replace k1 := cell_of_ans hb k1
          replace k2 := cell_of_ans hb k2
          replace k3 := cell_of_ans hb k3
          replace m0 := cell_of_ans hb m0
          replace m1 := cell_of_ans hb m1
          replace m2 := cell_of_ans hb m2
          replace m3 := cell_of_ans hb m3
          replace He4 := Lib.hid (He4.out.step hb)
          replace He5 := Lib.hid (He5.out.step hb)
          replace He6 := Lib.hid (He6.out.step hb)
          replace He3 := Lib.hid (He3.out.step hb)
          replace HB := Lib.hid (HB.out.trans (hb.mono HB.out.size))
          clear hb
          have He7 := Lib.hid e7
          clear e7
          have He8 := Lib.hid e8
          clear e8
          clear He6 He3
          clear hd6 hd3
          have HN1 := Lib.hid (lowX_len xss bss lo hi ca)
          have HW1 : Hid (∀ r, r < xss.length → (rx (lowX xss bss lo hi ca) r).length = (rx xss 0).length) := fun r hr => lowX_row hr
          have HN2 := Lib.hid (highX_len xss bss lo hi ca)
          have HW2 : Hid (∀ r, r < xss.length → (rx (highX xss bss lo hi ca) r).length = (rx xss 0).length) := fun r hr => highX_row hr
          have HN3 := Lib.hid (lowX_len xss bss lo' hi' ca)
          have HW3 : Hid (∀ r, r < xss.length → (rx (lowX xss bss lo' hi' ca) r).length = (rx xss 0).length) := fun r hr => lowX_row hr
          have HN4 := Lib.hid (highX_len xss bss lo' hi' ca)
          have HW4 : Hid (∀ r, r < xss.length → (rx (highX xss bss lo' hi' ca) r).length = (rx xss 0).length) := fun r hr => highX_row hr
          have HLOW := Lib.hid (wide_low HE.out b0 b1 b2 b9)
          have HHIG := Lib.hid (wide_high HE.out b0 b1 b2 b9)
          generalize lowX xss bss lo hi ca = P at *
          generalize highX xss bss lo hi ca = D at *
          generalize lowX xss bss lo' hi' ca = P2 at *
          generalize highX xss bss lo' hi' ca = D2 at *
          have t1 : ((P.length : Int) != (P2.length : Int)) = false := by rw [HN1.out, HN3.out]; simp
          have t2 : ((D.length : Int) != (D2.length : Int)) = false := by rw [HN2.out, HN4.out]; simp
          have t3 : ((P.length : Int) != (D.length : Int)) = false := by rw [HN1.out, HN2.out]; simp
          obtain ⟨bp, op, rfl⟩ := He4.out.addr (by rw [HN1.out]; omega)
          obtain ⟨bd, od, rfl⟩ := He5.out.addr (by rw [HN2.out]; omega)
          obtain ⟨bq, oq, rfl⟩ := He7.out.addr (by rw [HN3.out]; omega)
          obtain ⟨bf, of, rfl⟩ := He8.out.addr (by rw [HN4.out]; omega)
          go_wp2_with fail
          clear t1 t2 t3
          go_loopw [18] (fun i wr => ∃ r n : Nat, r ≤ P.length ∧ i = .int .i64 r ∧ wr = w16.drewN n) (fun i _ => P.length - (intOf i).toNat)
          case atStart => exact ⟨0, 0, by omega, rfl, rfl⟩
          case round =>
            obtain ⟨r, n, hr, rfl, rfl⟩ := hrel
            by_cases h1 : r < P.length
            · have hrx : r < xss.length := by have := HN1.out; omega
              obtain ⟨Ar, cr, er, lr, mr, ir⟩ := He4.out.at2 h1
              obtain ⟨Ae, ce, ee, le, me, ie⟩ := He5.out.at2 (k := r) (by rw [HN2.out]; exact hrx)
              obtain ⟨Af, cf, ef, lf, mf, if_⟩ := He7.out.at2 (k := r) (by rw [HN3.out]; exact hrx)
              obtain ⟨Ag, cg, eg, lg, mg, ig⟩ := He8.out.at2 (k := r) (by rw [HN4.out]; exact hrx)
              have HP1 := Lib.hid (HW1.out r hrx)
              have HP2 := Lib.hid (HW2.out r hrx)
              have HP3 := Lib.hid (HW3.out r hrx)
              have HP4 := Lib.hid (HW4.out r hrx)
              have I1 := Lib.hid ir
              have I2 := Lib.hid ie
              have I3 := Lib.hid if_
              have I4 := Lib.hid ig
              clear ir ie if_ ig
              have hri : (r : Int) < (P.length : Int) := by omega
              have hri2 : (r : Int) < (D.length : Int) := by rw [HN2.out]; omega
              have hri3 : (r : Int) < (P2.length : Int) := by rw [HN3.out]; omega
              have hri4 : (r : Int) < (D2.length : Int) := by rw [HN4.out]; omega
              have hr0 : (0 : Int) ≤ (r : Int) := by omega
              have t4 : (((rx P r).length : Int) != ((rx P2 r).length : Int)) = false := by rw [HP1.out, HP3.out]; simp
              have t5 : (((rx D r).length : Int) != ((rx D2 r).length : Int)) = false := by rw [HP2.out, HP4.out]; simp
              have t6 : (((rx P r).length : Int) != ((rx D r).length : Int)) = false := by rw [HP1.out, HP2.out]; simp
              go_wp2_with fail
              go_quiet (fail)
              go_wp2_with fail
              clear t4 t5 t6
              go_loopw [19] (fun i wr => ∃ b n : Nat, b ≤ (rx P r).length ∧ i = .int .i64 b ∧ wr = w16.drewN n) (fun i _ => (rx P r).length - (intOf i).toNat)
              case atStart => exact ⟨0, _, by omega, rfl, World.drewN_drewN _ _ _⟩
              case round =>
                obtain ⟨b, n, hb, rfl, rfl⟩ := hrel
                by_cases h2 : b < (rx P r).length
                · have hbx : b < (rx xss 0).length := by have := HP1.out; omega
                  obtain ⟨p2, o2, rfl, _, f1⟩ := I1.out.at_ h2
                  obtain ⟨p3, o3, rfl, _, f2⟩ := I2.out.at_ (k := b) (by rw [HP2.out]; exact hbx)
                  obtain ⟨p4, o4, rfl, _, f3⟩ := I3.out.at_ (k := b) (by rw [HP3.out]; exact hbx)
                  obtain ⟨p5, o5, rfl, _, f4⟩ := I4.out.at_ (k := b) (by rw [HP4.out]; exact hbx)
                  have hbi : (b : Int) < ((rx P r).length : Int) := by omega
                  have hbi2 : (b : Int) < ((rx D r).length : Int) := by rw [HP2.out]; omega
                  have hbi3 : (b : Int) < ((rx P2 r).length : Int) := by rw [HP3.out]; omega
                  have hbi4 : (b : Int) < ((rx D2 r).length : Int) := by rw [HP4.out]; omega
                  have hb0 : (0 : Int) ≤ (b : Int) := by omega
                  have t7 : decide (ix (rx P r) b < ix (rx P2 r) b) = false := decide_eq_false (by have := HLOW.out r b hrx hbx; omega)
                  have t8 : decide (ix (rx D2 r) b < ix (rx D r) b) = false := decide_eq_false (by have := HHIG.out r b hrx hbx; omega)
                  go_wp2_with fail
                  go_quiet (fail)
                  go_wp2_with fail
                  go_roundw
                  case rel => exact ⟨b + 1, _, Nat.succ_le_of_lt h2, by go_num, rfl⟩
                  case measure => simp [intOf]; omega
                · have hbe : b = (rx P r).length := Nat.le_antisymm hb (Nat.le_of_not_lt h2)
                  have hbi : ¬ (b : Int) < ((rx P r).length : Int) := fun e => h2 (Int.ofNat_lt.1 e)
                  clear hbe
                  go_wp2_with fail
                  go_roundw
                  case rel => exact ⟨r + 1, n, by omega, by go_num, rfl⟩
                  case measure => simp [intOf]; omega
            · obtain rfl : r = P.length := by omega
              have hri : ¬ (P.length : Int) < (P.length : Int) := by omega
              have hb : Below w16.heap.size w16 (w16.drewN n) := below_drewN (Below.refl _ _) n
              clear He4 He5 He7 He8 HW1 HW2 HW3 HW4 HLOW HHIG HN1 HN2 HN3 HN4
              replace HX := Lib.hid (HX.out.step hb)
              replace HBs := Lib.hid (HBs.out.step hb)
              replace HL := Lib.hid (HL.out.step hb)
              replace HP := Lib.hid (HP.out.step hb)
              replace k0 := cell_of_ans hb k0
              replace k1 := cell_of_ans hb k1
              replace k2 := cell_of_ans hb k2
              replace k3 := cell_of_ans hb k3
              replace m0 := cell_of_ans hb m0
              replace m1 := cell_of_ans hb m1
              replace m2 := cell_of_ans hb m2
              replace m3 := cell_of_ans hb m3
              replace HB := Lib.hid (HB.out.trans (hb.mono HB.out.size))
              clear hb
              generalize w16.drewN n = w17 at *
              have HPM : Hid (provePlan xss lo' hi' ca ls plan = true → provePlan xss lo hi ca ls plan = true) := fun h => prove_mono HBE.out b1 b2 rfl (fun j _ => ⟨rfl, fun i => Int.le_refl _⟩) h
              cases hpv : provePlan xss lo' hi' ca ls plan
              · have HPV := Lib.hid hpv
                clear hpv
                go_wp2_with fail
                refine (lane_c _ xss c lo' hi' ca _ (Nat.le_refl _) HX.out (small_lane HLE.out).1 (small_lane HLE.out).2).mono ?_
                rintro e w18 ⟨B9, d9, rfl, hd9, e9, hb⟩
                replace HX := Lib.hid (HX.out.step hb)
                replace HBs := Lib.hid (HBs.out.step hb)
                replace HL := Lib.hid (HL.out.step hb)
                replace HP := Lib.hid (HP.out.step hb)
                replace k0 := cell_of_ans hb k0
                replace k1 := cell_of_ans hb k1
                replace k2 := cell_of_ans hb k2
                replace k3 := cell_of_ans hb k3
                replace m0 := cell_of_ans hb m0
                replace m1 := cell_of_ans hb m1
                replace m2 := cell_of_ans hb m2
                replace m3 := cell_of_ans hb m3
                replace HB := Lib.hid (HB.out.trans (hb.mono HB.out.size))
                clear hb
                have He9 := Lib.hid e9
                clear e9
                go_wp2_with fail
                refine (block42_c _ ls c' _ HL.out HF.out hc').mono ?_
                rintro e w19 ⟨B10, d10, rfl, hd10, e10, hb⟩
                replace HX := Lib.hid (HX.out.step hb)
                replace HBs := Lib.hid (HBs.out.step hb)
                replace HL := Lib.hid (HL.out.step hb)
                replace HP := Lib.hid (HP.out.step hb)
                replace k0 := cell_of_ans hb k0
                replace k1 := cell_of_ans hb k1
                replace k2 := cell_of_ans hb k2
                replace k3 := cell_of_ans hb k3
                replace m0 := cell_of_ans hb m0
                replace m1 := cell_of_ans hb m1
                replace m2 := cell_of_ans hb m2
                replace m3 := cell_of_ans hb m3
                replace He9 := Lib.hid (He9.out.step hb)
                replace HB := Lib.hid (HB.out.trans (hb.mono HB.out.size))
                clear hb
                have He10 := Lib.hid e10
                clear e10
                go_wp2_with fail
                refine (listI_c Ap plan cp _ HP.out (by omega)).mono ?_
                rintro e w19 ⟨B11, d11, rfl, hd11, e11, hb⟩
                replace HX := Lib.hid (HX.out.step hb)
                replace HBs := Lib.hid (HBs.out.step hb)
                replace HL := Lib.hid (HL.out.step hb)
                replace HP := Lib.hid (HP.out.step hb)
                replace k0 := cell_of_ans hb k0
                replace k1 := cell_of_ans hb k1
                replace k2 := cell_of_ans hb k2
                replace k3 := cell_of_ans hb k3
                replace m0 := cell_of_ans hb m0
                replace m1 := cell_of_ans hb m1
                replace m2 := cell_of_ans hb m2
                replace m3 := cell_of_ans hb m3
                replace He9 := Lib.hid (He9.out.step hb)
                replace He10 := Lib.hid (He10.out.step hb)
                replace HB := Lib.hid (HB.out.trans (hb.mono HB.out.size))
                clear hb
                have He11 := Lib.hid e11
                clear e11
                go_wp2_with fail
                refine (provePlan_c B9 B10 B11 xss ls plan d9 d10 d11 lo' hi' ca _ He9.out He10.out He11.out hd9 hd10 hd11 hpl30).mono ?_
                rw [HPV.out]
                rintro e w20 ⟨rfl, hb⟩
                replace HX := Lib.hid (HX.out.step hb)
                replace HBs := Lib.hid (HBs.out.step hb)
                replace HL := Lib.hid (HL.out.step hb)
                replace HP := Lib.hid (HP.out.step hb)
                replace k0 := cell_of_ans hb k0
                replace k1 := cell_of_ans hb k1
                replace k2 := cell_of_ans hb k2
                replace k3 := cell_of_ans hb k3
                replace m0 := cell_of_ans hb m0
                replace m1 := cell_of_ans hb m1
                replace m2 := cell_of_ans hb m2
                replace m3 := cell_of_ans hb m3
                replace He9 := Lib.hid (He9.out.step hb)
                replace He10 := Lib.hid (He10.out.step hb)
                replace He11 := Lib.hid (He11.out.step hb)
                replace HB := Lib.hid (HB.out.trans (hb.mono HB.out.size))
                clear hb
                clear He9 He10 He11
                clear hd9 hd10 hd11
                by_cases hz : ls.length = 0
                · have hz' : ((ls.length : Int) == 0) = true := by simp [hz]
                  clear hz
                  go_wp2_with fail
                  refine (awake_c _).mono ?_
                  rintro e w9 ⟨rfl, hb⟩
                  replace HX := Lib.hid (HX.out.step hb)
                  replace HBs := Lib.hid (HBs.out.step hb)
                  replace HL := Lib.hid (HL.out.step hb)
                  replace HP := Lib.hid (HP.out.step hb)
                  replace k0 := cell_of_ans hb k0
                  replace k1 := cell_of_ans hb k1
                  replace k2 := cell_of_ans hb k2
                  replace k3 := cell_of_ans hb k3
                  replace m0 := cell_of_ans hb m0
                  replace m1 := cell_of_ans hb m1
                  replace m2 := cell_of_ans hb m2
                  replace m3 := cell_of_ans hb m3
                  replace HB := Lib.hid (HB.out.trans (hb.mono HB.out.size))
                  clear hb
                  go_wp2_with fail
                  go_ret
                  exact ⟨rfl, HB.out⟩
                · have hz' : ((ls.length : Int) == 0) = false := by rw [beq_eq_false_iff_ne]; omega
                  obtain ⟨k, hk, hek⟩ := emod_nat (m : Int) ls.length (by omega)
                  have hne : ¬ ((ls.length : Int) = 0) := by omega
                  have hne2 : 0 < ls.length := by omega
                  have hki : (k : Int) < (ls.length : Int) := by omega
                  have hk0 : (0 : Int) ≤ (k : Int) := by omega
                  clear hz
                  obtain ⟨bl, ol, A1, c1, A2, c2, hA', j0, j1, q1, q2, hi1, hi2⟩ := HL.out.at_ hk
                  subst hA'
                  have HI1 := Lib.hid hi1
                  have HI2 := Lib.hid hi2
                  have HLO := Lib.hid (linesOk HLN.out k hk)
                  have hl16 := H16.out k hk
                  clear hi1 hi2
                  have HLM : Hid (lastsFrom ca (lx ls k).1 (lx ls k).2 lo' hi' (oilOf xss) 0 20 ≤ lastsFrom ca (lx ls k).1 (lx ls k).2 lo hi (oilOf xss) 0 20) := lasts_mono hca b1 b2 20 0
                  go_wp2_with fail
                  skip
                  have hd : Below w20.heap.size w20 w20.drew := (Below.refl _ _).drew
                  replace HX := Lib.hid (HX.out.step hd)
                  replace HBs := Lib.hid (HBs.out.step hd)
                  replace HL := Lib.hid (HL.out.step hd)
                  replace HP := Lib.hid (HP.out.step hd)
                  replace HI1 := Lib.hid (HI1.out.step hd)
                  replace HI2 := Lib.hid (HI2.out.step hd)
                  replace HB := Lib.hid (HB.out.trans (hd.mono HB.out.size))
                  clear hd
                  go_region_held3 (fun w' => w'.cell? ⟨w.heap.size, 0, none⟩ = some (.slice A xss.length c) ∧ w'.cell? ⟨w.heap.size, 1, none⟩ = some (.int .i64 lo) ∧ w'.cell? ⟨w.heap.size, 2, none⟩ = some (.int .i64 hi) ∧ w'.cell? ⟨w.heap.size, 3, none⟩ = some (.int .i64 ca) ∧ w'.cell? ⟨bl, ol + k * 2, none⟩ = some (.slice A1 (lx ls k).1.length c1) ∧ w'.cell? ⟨bl, ol + k * 2 + 1, none⟩ = some (.slice A2 (lx ls k).2.length c2)) (go_keep) (first | (go_at_call 19; refine (lane_c _ xss c lo hi ca _ (Nat.le_refl _) HX.out (small_lane HLE.out).1 (small_lane HLE.out).2).mono ?_; rintro e w30 ⟨B20, d20, rfl, hd20, e20, hb⟩; replace HX := Lib.hid (HX.out.step hb); replace HBs := Lib.hid (HBs.out.step hb); replace HL := Lib.hid (HL.out.step hb); replace HP := Lib.hid (HP.out.step hb); replace k0 := cell_of_ans (below_drew_l hb) k0; replace k1 := cell_of_ans (below_drew_l hb) k1; replace k2 := cell_of_ans (below_drew_l hb) k2; replace k3 := cell_of_ans (below_drew_l hb) k3; replace m0 := cell_of_ans (below_drew_l hb) m0; replace m1 := cell_of_ans (below_drew_l hb) m1; replace m2 := cell_of_ans (below_drew_l hb) m2; replace m3 := cell_of_ans (below_drew_l hb) m3; replace HI1 := Lib.hid (HI1.out.step hb); replace HI2 := Lib.hid (HI2.out.step hb); replace j0 := cell_of_ans (below_drew_l hb) j0; replace j1 := cell_of_ans (below_drew_l hb) j1; replace HB := Lib.hid (HB.out.trans (hb.mono HB.out.size)); clear hb; have He20 := Lib.hid e20; clear e20) | (go_at_call 35; refine (line35_c A1 A2 (lx ls k).1 (lx ls k).2 c1 c2 _ HI1.out HI2.out (by omega) (by omega)).mono ?_; rintro e w31 ⟨B21, d21, B22, d22, rfl, hd21, hd22, e21, e22, hb⟩; replace HX := Lib.hid (HX.out.step hb); replace HBs := Lib.hid (HBs.out.step hb); replace HL := Lib.hid (HL.out.step hb); replace HP := Lib.hid (HP.out.step hb); replace k0 := cell_of_ans hb k0; replace k1 := cell_of_ans hb k1; replace k2 := cell_of_ans hb k2; replace k3 := cell_of_ans hb k3; replace m0 := cell_of_ans hb m0; replace m1 := cell_of_ans hb m1; replace m2 := cell_of_ans hb m2; replace m3 := cell_of_ans hb m3; replace HI1 := Lib.hid (HI1.out.step hb); replace HI2 := Lib.hid (HI2.out.step hb); replace j0 := cell_of_ans hb j0; replace j1 := cell_of_ans hb j1; replace He20 := Lib.hid (He20.out.step hb); replace HB := Lib.hid (HB.out.trans (hb.mono HB.out.size)); clear hb; have He21 := Lib.hid e21; clear e21; have He22 := Lib.hid e22; clear e22) | (go_at_call 36; refine (lastsA_c B20 B21 B22 xss (lx ls k).1 (lx ls k).2 d20 d21 d22 lo hi ca _ He20.out He21.out He22.out hd20 hd21 hd22 HLE.out HLO.out).mono ?_; rintro e w32 ⟨rfl, hb⟩; replace HX := Lib.hid (HX.out.step hb); replace HBs := Lib.hid (HBs.out.step hb); replace HL := Lib.hid (HL.out.step hb); replace HP := Lib.hid (HP.out.step hb); replace k0 := cell_of_ans hb k0; replace k1 := cell_of_ans hb k1; replace k2 := cell_of_ans hb k2; replace k3 := cell_of_ans hb k3; replace m0 := cell_of_ans hb m0; replace m1 := cell_of_ans hb m1; replace m2 := cell_of_ans hb m2; replace m3 := cell_of_ans hb m3; replace HI1 := Lib.hid (HI1.out.step hb); replace HI2 := Lib.hid (HI2.out.step hb); replace j0 := cell_of_ans hb j0; replace j1 := cell_of_ans hb j1; replace He20 := Lib.hid (He20.out.step hb); replace He21 := Lib.hid (He21.out.step hb); replace He22 := Lib.hid (He22.out.step hb); replace HB := Lib.hid (HB.out.trans (hb.mono HB.out.size)); clear hb))
                  clear He20 He21 He22
                  clear hd20 hd21 hd22
                  go_wp2_with fail
                  skip
                  have hd : Below w32.heap.size w32 w32.drew := (Below.refl _ _).drew
                  replace HX := Lib.hid (HX.out.step hd)
                  replace HBs := Lib.hid (HBs.out.step hd)
                  replace HL := Lib.hid (HL.out.step hd)
                  replace HP := Lib.hid (HP.out.step hd)
                  replace HI1 := Lib.hid (HI1.out.step hd)
                  replace HI2 := Lib.hid (HI2.out.step hd)
                  replace HB := Lib.hid (HB.out.trans (hd.mono HB.out.size))
                  clear hd
                  go_region_held3 (fun w' => w'.cell? ⟨gx, 0, none⟩ = some (.slice A xss.length c) ∧ w'.cell? ⟨gx, 1, none⟩ = some (.int .i64 lo') ∧ w'.cell? ⟨gx, 2, none⟩ = some (.int .i64 hi') ∧ w'.cell? ⟨gx, 3, none⟩ = some (.int .i64 ca) ∧ w'.cell? ⟨bl, ol + k * 2, none⟩ = some (.slice A1 (lx ls k).1.length c1) ∧ w'.cell? ⟨bl, ol + k * 2 + 1, none⟩ = some (.slice A2 (lx ls k).2.length c2)) (go_keep) (first | (go_at_call 19; refine (lane_c _ xss c lo' hi' ca _ (Nat.le_refl _) HX.out (small_lane HLE.out).1 (small_lane HLE.out).2).mono ?_; rintro e w33 ⟨B20, d20, rfl, hd20, e20, hb⟩; replace HX := Lib.hid (HX.out.step hb); replace HBs := Lib.hid (HBs.out.step hb); replace HL := Lib.hid (HL.out.step hb); replace HP := Lib.hid (HP.out.step hb); replace k0 := cell_of_ans (below_drew_l hb) k0; replace k1 := cell_of_ans (below_drew_l hb) k1; replace k2 := cell_of_ans (below_drew_l hb) k2; replace k3 := cell_of_ans (below_drew_l hb) k3; replace m0 := cell_of_ans (below_drew_l hb) m0; replace m1 := cell_of_ans (below_drew_l hb) m1; replace m2 := cell_of_ans (below_drew_l hb) m2; replace m3 := cell_of_ans (below_drew_l hb) m3; replace HI1 := Lib.hid (HI1.out.step hb); replace HI2 := Lib.hid (HI2.out.step hb); replace j0 := cell_of_ans (below_drew_l hb) j0; replace j1 := cell_of_ans (below_drew_l hb) j1; replace HB := Lib.hid (HB.out.trans (hb.mono HB.out.size)); clear hb; have He20 := Lib.hid e20; clear e20) | (go_at_call 35; refine (line35_c A1 A2 (lx ls k).1 (lx ls k).2 c1 c2 _ HI1.out HI2.out (by omega) (by omega)).mono ?_; rintro e w34 ⟨B21, d21, B22, d22, rfl, hd21, hd22, e21, e22, hb⟩; replace HX := Lib.hid (HX.out.step hb); replace HBs := Lib.hid (HBs.out.step hb); replace HL := Lib.hid (HL.out.step hb); replace HP := Lib.hid (HP.out.step hb); replace k0 := cell_of_ans hb k0; replace k1 := cell_of_ans hb k1; replace k2 := cell_of_ans hb k2; replace k3 := cell_of_ans hb k3; replace m0 := cell_of_ans hb m0; replace m1 := cell_of_ans hb m1; replace m2 := cell_of_ans hb m2; replace m3 := cell_of_ans hb m3; replace HI1 := Lib.hid (HI1.out.step hb); replace HI2 := Lib.hid (HI2.out.step hb); replace j0 := cell_of_ans hb j0; replace j1 := cell_of_ans hb j1; replace He20 := Lib.hid (He20.out.step hb); replace HB := Lib.hid (HB.out.trans (hb.mono HB.out.size)); clear hb; have He21 := Lib.hid e21; clear e21; have He22 := Lib.hid e22; clear e22) | (go_at_call 36; refine (lastsA_c B20 B21 B22 xss (lx ls k).1 (lx ls k).2 d20 d21 d22 lo' hi' ca _ He20.out He21.out He22.out hd20 hd21 hd22 HLE2.out HLO.out).mono ?_; rintro e w35 ⟨rfl, hb⟩; replace HX := Lib.hid (HX.out.step hb); replace HBs := Lib.hid (HBs.out.step hb); replace HL := Lib.hid (HL.out.step hb); replace HP := Lib.hid (HP.out.step hb); replace k0 := cell_of_ans hb k0; replace k1 := cell_of_ans hb k1; replace k2 := cell_of_ans hb k2; replace k3 := cell_of_ans hb k3; replace m0 := cell_of_ans hb m0; replace m1 := cell_of_ans hb m1; replace m2 := cell_of_ans hb m2; replace m3 := cell_of_ans hb m3; replace HI1 := Lib.hid (HI1.out.step hb); replace HI2 := Lib.hid (HI2.out.step hb); replace j0 := cell_of_ans hb j0; replace j1 := cell_of_ans hb j1; replace He20 := Lib.hid (He20.out.step hb); replace He21 := Lib.hid (He21.out.step hb); replace He22 := Lib.hid (He22.out.step hb); replace HB := Lib.hid (HB.out.trans (hb.mono HB.out.size)); clear hb))
                  clear He20 He21 He22
                  clear hd20 hd21 hd22
                  generalize lastsFrom ca (lx ls k).1 (lx ls k).2 lo hi (oilOf xss) 0 20 = n1 at *
                  generalize lastsFrom ca (lx ls k).1 (lx ls k).2 lo' hi' (oilOf xss) 0 20 = n2 at *
                  obtain ⟨f1, l1, f2, l2, hel, hin⟩ := HL.out.el
                  obtain ⟨bl', ol', hA2, hblt, hcells⟩ := hel hne2
                  injection hA2 with hA2
                  injection hA2 with e1 e2 _
                  subst e1 e2
                  have HIN := Lib.hid hin
                  have HS := Lib.hid (lines_src (w := w35.alloc (.cells #[] 55)) (b := bl) (off := ol) (ls := ls) (A1 := f1) (c1 := l1) (A2 := f2) (c2 := l2) fun k hk => ⟨cell_alloc_keep _ (hcells k hk).1, cell_alloc_keep _ (hcells k hk).2⟩)
                  have HOW : Hid ((w35.alloc (.cells #[] 55)).ownsRow w35.heap.size 55 2 (.slice (some ⟨w35.heap.size, 0, none⟩) 0 0) 0 []) := World.ownsRow_lit w35 #[] 0 (Nat.le_refl _) (by simp [maxLen]) (by simp)
                  have HON : Hid (∀ x ∈ flatV ((List.range ls.length).map (pairsL ls f1 l1 f2 l2)), x.oneCell' = true) := fun x hx => by
                    simp only [flatV, List.mem_flatMap, List.mem_map] at hx
                    obtain ⟨p, ⟨j, _, rfl⟩, hx⟩ := hx
                    simp [pairsL] at hx
                    rcases hx with rfl | rfl <;> rfl
                  have h63 : Hid (0 + ls.length ≤ maxLen) := by show _ ≤ _; unfold maxLen; omega
                  have hby : Hid ((0 + ls.length) * 48 ≤ 140737488355328) := by show _ ≤ _; omega
                  obtain ⟨i0, hi0, hz0, hz1, hz2⟩ := info_parts info55
                  have hpos : 0 < (lx ls k).2.length := by rw [(lineOk HLO.out).2.1]; exact hn0
                  have HNDL : Hid ((lx ls k).2.length = xss.length) := (lineOk HLO.out).2.1
                  have HND : Hid (∀ j, j < xss.length → 0 ≤ ix (lx ls k).2 j ∧ ix (lx ls k).2 j ≤ 100) := (lineOk HLO.out).2.2
                  clear hel hin hcells
                  go_wp2_with (at_builtin; refine wpList_append_src rfl (.tmp 245) (.tmp 246) 57 rfl w35.heap.size 55 i0 _ 2 48 Try.underlying57 hi0 hz0 hz1 hz2 rfl (by decide) (.slice (some ⟨w35.heap.size, 0, none⟩) 0 0) 0 [] rfl HOW.out (some ⟨bl, ol, none⟩) ls.length c' _ rfl HS.out HON.out h63.out hby.out (by simp) ?_; intro v' w36 hown hgrow _; rw [List.nil_append, Nat.zero_add] at hown; obtain ⟨g, cap, rfl, hg0, hcap, ho36⟩ := oth_own hown hne2; have HO36 := Lib.hid ho36; have HB36 : Hid (Below w35.heap.size w35 w36) := ((Below.refl w35.heap.size w35).alloc (Nat.le_refl _) _).grown hgrow (by simp) (fun k e => by injection e with e; subst e; exact Nat.le_refl _); have jb := cell_of_ans HB36.out j1; clear hown hgrow ho36)
                  refine (list43_c A2 (lx ls k).2 c2 _ (HI2.out.step HB36.out) (by omega)).mono ?_
                  rintro e w37 ⟨A9, c9, rfl, ho9, hb9⟩
                  have ho37 := HO36.out.below hb9
                  obtain ⟨gN, rfl, hgN, hgN2, hc9, hic9⟩ := int_own ho9 hpos
                  have hgl := HO36.out.lt
                  have f37 := (ho37.2 k hk).2
                  have z37 := ho37.frozen
                  have HB37 : Hid (Below w35.heap.size w35 w37) := HB36.out.trans (hb9.mono HB36.out.size)
                  have HO38 := Lib.hid (ho37.set hk (.slice (some ⟨gN, 0, none⟩) (lx ls k).2.length c9))
                  have HI38 := Lib.hid (hic9.far (a := ⟨g, k * 2 + 1, none⟩) (by dsimp only; omega) (.slice (some ⟨gN, 0, none⟩) (lx ls k).2.length c9))
                  have HB38 : Hid (Below w35.heap.size w35 (w37.setCell ⟨g, k * 2 + 1, none⟩ (.slice (some ⟨gN, 0, none⟩) (lx ls k).2.length c9))) := HB37.out.setCell (by dsimp only; omega) _
                  have hmul : IntKind.i64.wrap (1 : Int) = 1 := by rfl
                  clear ho37 hic9 ho9 hb9 jb hmul
                  go_upto_region 28 with fail
                  have k0b := cell_of_under HB38.out k0
                  generalize w37.setCell ⟨g, k * 2 + 1, none⟩ (.slice (some ⟨gN, 0, none⟩) (lx ls k).2.length c9) = w38 at HO38 HI38 HB38 k0b ⊢
                  obtain ⟨r, hr, her⟩ := emod_nat ((m : Int) / 16) xss.length hn0
                  have hz16 : ((xss.length : Int) == 0) = false := by rw [beq_eq_false_iff_ne]; omega
                  have hne16 : ¬ ((xss.length : Int) = 0) := by omega
                  go_upto_region 29 with fail
                  have p1 := (HO38.out.2 k hk).2
                  dsimp only at p1
                  rw [if_pos rfl] at p1
                  have p2 := HI38.out.2 r (by rw [HNDL.out]; exact hr)
                  have p3 := HI38.out.frozen
                  have hry := HND.out r hr
                  obtain ⟨y, hy⟩ : ∃ y, y = ix (lx ls k).2 r := ⟨_, rfl⟩
                  rw [← hy] at p2 hry
                  have HY := Lib.hid hy
                  have z1 : IntKind.i64.wrap (y + 1) = y + 1 := IntWalk.i64_in _ (by omega)
                  have z2 : IntKind.i64.wrap (y + 1 + (m : Int) % 4) = y + 1 + (m : Int) % 4 := IntWalk.i64_in _ (by omega)
                  have hri : (r : Int) < ((lx ls k).2.length : Int) := by rw [HNDL.out]; omega
                  have hri0 : (0 : Int) ≤ (r : Int) := by omega
                  have hrx : (r : Int) < (xss.length : Int) := by omega
                  clear hy hz16 hne16
                  go_wp2_with fail
                  refine wp_region_noPanic ?_
                  have hS : (fun w' : World => w'.cell? ⟨g, k * 2 + 1, none⟩ = some (.slice (some ⟨gN, 0, none⟩) (lx ls k).2.length c9) ∧ w'.cell? ⟨gN, r, none⟩ = some (.int .i64 y)) w38.drew := ⟨p1, p2⟩
                  refine wp_region_any (by kernel_rfl) (wpAny_of_T (S := fun w' : World => w'.cell? ⟨g, k * 2 + 1, none⟩ = some (.slice (some ⟨gN, 0, none⟩) (lx ls k).2.length c9) ∧ w'.cell? ⟨gN, r, none⟩ = some (.int .i64 y)) (m := 21) _ _ _ _ ?_)
                  refine' T_take (i := 0) (v := _) rfl (by kernel_rfl) (by kernel_rfl) (by kernel_rfl) (by kernel_rfl) (fun _ _ _ h => h) (by kernel_rfl) hS ?_ ?_
                  rotate_left 1
                  · intro Wv hW
                    obtain ⟨s0, s1⟩ := hW
                    go_simp
                    first | done | with_reducible rfl
                  try simp only [Act.put, List.setIfInBounds_toArray, List.set_cons_zero, List.set_cons_succ]
                  refine' T_take (i := 1) (v := _) rfl (by kernel_rfl) (by kernel_rfl) (by kernel_rfl) (by kernel_rfl) (fun _ _ _ h => h) (by kernel_rfl) hS ?_ ?_
                  rotate_left 1
                  · intro Wv hW
                    obtain ⟨s0, s1⟩ := hW
                    go_simp
                    first | done | with_reducible rfl
                  try simp only [Act.put, List.setIfInBounds_toArray, List.set_cons_zero, List.set_cons_succ]
                  refine' T_take (i := 2) (v := _) rfl (by kernel_rfl) (by kernel_rfl) (by kernel_rfl) (by kernel_rfl) (fun _ _ _ h => h) (by kernel_rfl) hS ?_ ?_
                  rotate_left 1
                  · intro Wv hW
                    obtain ⟨s0, s1⟩ := hW
                    go_simp
                    first | done | with_reducible rfl
                  try simp only [Act.put, List.setIfInBounds_toArray, List.set_cons_zero, List.set_cons_succ]
                  refine' T_take (i := 3) (v := _) rfl (by kernel_rfl) (by kernel_rfl) (by kernel_rfl) (by kernel_rfl) (fun _ _ _ h => h) (by kernel_rfl) hS ?_ ?_
                  rotate_left 1
                  · intro Wv hW
                    obtain ⟨s0, s1⟩ := hW
                    go_simp
                    first | done | with_reducible rfl
                  try simp only [Act.put, List.setIfInBounds_toArray, List.set_cons_zero, List.set_cons_succ]
                  refine' T_take (i := 4) (v := _) rfl (by kernel_rfl) (by kernel_rfl) (by kernel_rfl) (by kernel_rfl) (fun _ _ _ h => h) (by kernel_rfl) hS ?_ ?_
                  rotate_left 1
                  · intro Wv hW
                    obtain ⟨s0, s1⟩ := hW
                    go_simp
                    first | done | with_reducible rfl
                  try simp only [Act.put, List.setIfInBounds_toArray, List.set_cons_zero, List.set_cons_succ]
                  refine' T_take (i := 5) (v := _) rfl (by kernel_rfl) (by kernel_rfl) (by kernel_rfl) (by kernel_rfl) (fun _ _ _ h => h) (by kernel_rfl) hS ?_ ?_
                  rotate_left 1
                  · intro Wv hW
                    obtain ⟨s0, s1⟩ := hW
                    go_simp
                    first | done | with_reducible rfl
                  try simp only [Act.put, List.setIfInBounds_toArray, List.set_cons_zero, List.set_cons_succ]
                  refine' T_take (i := 6) (v := _) rfl (by kernel_rfl) (by kernel_rfl) (by kernel_rfl) (by kernel_rfl) (fun _ _ _ h => h) (by kernel_rfl) hS ?_ ?_
                  rotate_left 1
                  · intro Wv hW
                    obtain ⟨s0, s1⟩ := hW
                    go_simp
                    first | done | with_reducible rfl
                  try simp only [Act.put, List.setIfInBounds_toArray, List.set_cons_zero, List.set_cons_succ]
                  refine' T_take (i := 7) (v := _) rfl (by kernel_rfl) (by kernel_rfl) (by kernel_rfl) (by kernel_rfl) (fun _ _ _ h => h) (by kernel_rfl) hS ?_ ?_
                  rotate_left 1
                  · intro Wv hW
                    obtain ⟨s0, s1⟩ := hW
                    go_simp
                    first | done | with_reducible rfl
                  try simp only [Act.put, List.setIfInBounds_toArray, List.set_cons_zero, List.set_cons_succ]
                  refine' T_take (i := 8) (v := _) rfl (by kernel_rfl) (by kernel_rfl) (by kernel_rfl) (by kernel_rfl) (fun _ _ _ h => h) (by kernel_rfl) hS ?_ ?_
                  rotate_left 1
                  · intro Wv hW
                    obtain ⟨s0, s1⟩ := hW
                    go_simp
                    first | done | with_reducible rfl
                  try simp only [Act.put, List.setIfInBounds_toArray, List.set_cons_zero, List.set_cons_succ]
                  refine' T_take (i := 9) (v := _) rfl (by kernel_rfl) (by kernel_rfl) (by kernel_rfl) (by kernel_rfl) (fun _ _ _ h => h) (by kernel_rfl) hS ?_ ?_
                  rotate_left 1
                  · intro Wv hW
                    obtain ⟨s0, s1⟩ := hW
                    go_simp
                    first | done | with_reducible rfl
                  try simp only [Act.put, List.setIfInBounds_toArray, List.set_cons_zero, List.set_cons_succ]
                  refine' T_take (i := 10) (v := _) rfl (by kernel_rfl) (by kernel_rfl) (by kernel_rfl) (by kernel_rfl) (fun _ _ _ h => h) (by kernel_rfl) hS ?_ ?_
                  rotate_left 1
                  · intro Wv hW
                    obtain ⟨s0, s1⟩ := hW
                    go_simp
                    first | done | with_reducible rfl
                  try simp only [Act.put, List.setIfInBounds_toArray, List.set_cons_zero, List.set_cons_succ]
                  refine' T_take (i := 11) (v := _) rfl (by kernel_rfl) (by kernel_rfl) (by kernel_rfl) (by kernel_rfl) (fun _ _ _ h => h) (by kernel_rfl) hS ?_ ?_
                  rotate_left 1
                  · intro Wv hW
                    obtain ⟨s0, s1⟩ := hW
                    go_simp
                    first | done | with_reducible rfl
                  try simp only [Act.put, List.setIfInBounds_toArray, List.set_cons_zero, List.set_cons_succ]
                  refine' T_take (i := 12) (v := _) rfl (by kernel_rfl) (by kernel_rfl) (by kernel_rfl) (by kernel_rfl) (fun _ _ _ h => h) (by kernel_rfl) hS ?_ ?_
                  rotate_left 1
                  · intro Wv hW
                    obtain ⟨s0, s1⟩ := hW
                    go_simp
                    first | done | with_reducible rfl
                  try simp only [Act.put, List.setIfInBounds_toArray, List.set_cons_zero, List.set_cons_succ]
                  refine' T_take (i := 13) (v := _) rfl (by kernel_rfl) (by kernel_rfl) (by kernel_rfl) (by kernel_rfl) (fun _ _ _ h => h) (by kernel_rfl) hS ?_ ?_
                  rotate_left 1
                  · intro Wv hW
                    obtain ⟨s0, s1⟩ := hW
                    go_simp
                    first | done | with_reducible rfl
                  try simp only [Act.put, List.setIfInBounds_toArray, List.set_cons_zero, List.set_cons_succ]
                  refine' T_take (i := 14) (v := _) rfl (by kernel_rfl) (by kernel_rfl) (by kernel_rfl) (by kernel_rfl) (fun _ _ _ h => h) (by kernel_rfl) hS ?_ ?_
                  rotate_left 1
                  · intro Wv hW
                    obtain ⟨s0, s1⟩ := hW
                    go_simp
                    first | done | with_reducible rfl
                  try simp only [Act.put, List.setIfInBounds_toArray, List.set_cons_zero, List.set_cons_succ]
                  refine' T_take (i := 15) (v := _) rfl (by kernel_rfl) (by kernel_rfl) (by kernel_rfl) (by kernel_rfl) (fun _ _ _ h => h) (by kernel_rfl) hS ?_ ?_
                  rotate_left 1
                  · intro Wv hW
                    obtain ⟨s0, s1⟩ := hW
                    go_simp
                    first | done | with_reducible rfl
                  try simp only [Act.put, List.setIfInBounds_toArray, List.set_cons_zero, List.set_cons_succ]
                  refine' T_take (i := 16) (v := _) rfl (by kernel_rfl) (by kernel_rfl) (by kernel_rfl) (by kernel_rfl) (fun _ _ _ h => h) (by kernel_rfl) hS ?_ ?_
                  rotate_left 1
                  · intro Wv hW
                    obtain ⟨s0, s1⟩ := hW
                    go_simp
                    first | done | with_reducible rfl
                  try simp only [Act.put, List.setIfInBounds_toArray, List.set_cons_zero, List.set_cons_succ]
                  refine' T_take (i := 17) (v := _) rfl (by kernel_rfl) (by kernel_rfl) (by kernel_rfl) (by kernel_rfl) (fun _ _ _ h => h) (by kernel_rfl) hS ?_ ?_
                  rotate_left 1
                  · intro Wv hW
                    obtain ⟨s0, s1⟩ := hW
                    go_simp
                    first | done | with_reducible rfl
                  try simp only [Act.put, List.setIfInBounds_toArray, List.set_cons_zero, List.set_cons_succ]
                  refine' T_take (i := 18) (v := _) rfl (by kernel_rfl) (by kernel_rfl) (by kernel_rfl) (by kernel_rfl) (fun _ _ _ h => h) (by kernel_rfl) hS ?_ ?_
                  rotate_left 1
                  · intro Wv hW
                    obtain ⟨s0, s1⟩ := hW
                    go_simp
                    first | done | with_reducible rfl
                  try simp only [Act.put, List.setIfInBounds_toArray, List.set_cons_zero, List.set_cons_succ]
                  refine' T_take (i := 19) (v := _) rfl (by kernel_rfl) (by kernel_rfl) (by kernel_rfl) (by kernel_rfl) (fun _ _ _ h => h) (by kernel_rfl) hS ?_ ?_
                  rotate_left 1
                  · intro Wv hW
                    obtain ⟨s0, s1⟩ := hW
                    go_simp
                    first | done | with_reducible rfl
                  try simp only [Act.put, List.setIfInBounds_toArray, List.set_cons_zero, List.set_cons_succ]
                  refine' T_take (i := 20) (v := _) rfl (by kernel_rfl) (by kernel_rfl) (by kernel_rfl) (by kernel_rfl) (fun _ _ _ h => h) (by kernel_rfl) hS ?_ ?_
                  rotate_left 1
                  · intro Wv hW
                    obtain ⟨s0, s1⟩ := hW
                    go_simp
                    first | done | with_reducible rfl
                  try simp only [Act.put, List.setIfInBounds_toArray, List.set_cons_zero, List.set_cons_succ]
                  refine T_ready (rs := [21]) (by kernel_rfl) (by simp) ?_
                  refine TReady.cons rfl (fun K hK => ?_) TReady.nil
                  have p3d : ∀ o, w38.drew.frozen? ⟨gN, o, none⟩ = false := p3
                  have p2d : w38.drew.cell? ⟨gN, r, none⟩ = some (.int .i64 y) := p2
                  go_simp
                  refine hK.out _ _ (fun h => absurd h (by decide)) (fun _ => ?_)
                  clear hK K
                  try simp only [Act.put, List.setIfInBounds_toArray, List.set_cons_zero, List.set_cons_succ]
                  refine T_done (by kernel_rfl) ?_ _
                  refine NoPanic.normal ?_
                  generalize hvv : (if IntKind.i64.wrap (y + 1 + (IntKind.i64.wrap (m : Int)).tmod 4) < 100 then IntKind.i64.wrap (y + 1 + (IntKind.i64.wrap (m : Int)).tmod 4) else 100) = v
                  have zz : IntKind.i64.wrap (m : Int) = (m : Int) := IntWalk.i64_in _ (by omega)
                  rw [zz, Int.tmod_eq_emod_of_nonneg (Int.natCast_nonneg m), z2] at hvv
                  have hyv : ix (lx ls k).2 r ≤ v := by rw [← HY.out, ← hvv]; split <;> omega
                  have hrn : r < (lx ls k).2.length := by rw [HNDL.out]; exact hr
                  have HO39 := Lib.hid ((HO38.out.far (a := ⟨gN, r, none⟩) (by dsimp only; omega) (.int .i64 v)).drew)
                  have HI39 := Lib.hid ((HI38.out.set hrn v).drew)
                  have hz36 := HB36.out.size
                  have hb : Below w35.heap.size w35 (w38.setCell ⟨gN, r, none⟩ (.int .i64 v)).drew := (HB38.out.setCell (by dsimp only; omega) _).drew
                  have HLN9 := Lib.hid (need_lns HIN.out hb hb.size hk HO39.out hc9 HI39.out)
                  have HNP : Hid (provePlan xss lo hi ca (needL ls k r v) plan = true → provePlan xss lo hi ca ls plan = true) := fun h => prove_mono HBE.out (Int.le_refl _) (Int.le_refl _) (needL_len ls k r v) (fun j _ => needL_ge hk hyv j) h
                  have HFN := Lib.hid (few_needL (r := r) (v := v) hk HF.out)
                  have HNL := Lib.hid (needL_len ls k r v)
                  clear p1 p2 p3 k0b HO38 HI38 HB38 HB37 HB36 HO36 HO39 HI39 HIN HS HOW HON h63 hby z37 f37 z1 z2 zz hvv hyv hrn hry hz36 hS p3d p2d
                  replace HX := Lib.hid (HX.out.step hb)
                  replace HBs := Lib.hid (HBs.out.step hb)
                  replace HL := Lib.hid (HL.out.step hb)
                  replace HP := Lib.hid (HP.out.step hb)
                  replace k0 := cell_of_ans hb k0
                  replace k1 := cell_of_ans hb k1
                  replace k2 := cell_of_ans hb k2
                  replace k3 := cell_of_ans hb k3
                  replace m0 := cell_of_ans hb m0
                  replace m1 := cell_of_ans hb m1
                  replace m2 := cell_of_ans hb m2
                  replace m3 := cell_of_ans hb m3
                  replace HI1 := Lib.hid (HI1.out.step hb)
                  replace HI2 := Lib.hid (HI2.out.step hb)
                  replace j0 := cell_of_ans hb j0
                  replace j1 := cell_of_ans hb j1
                  replace HB := Lib.hid (HB.out.trans (hb.mono HB.out.size))
                  clear hb
                  generalize (w38.setCell ⟨gN, r, none⟩ (.int .i64 v)).drew = w39 at *
                  generalize needL ls k r v = ln at *
                  go_wp2_with fail
                  refine (lane_c _ xss c lo hi ca _ (Nat.le_refl _) HX.out (small_lane HLE.out).1 (small_lane HLE.out).2).mono ?_
                  rintro e w40 ⟨B40, d40, rfl, hd40, e40, hb⟩
                  replace HX := Lib.hid (HX.out.step hb)
                  replace HBs := Lib.hid (HBs.out.step hb)
                  replace HL := Lib.hid (HL.out.step hb)
                  replace HP := Lib.hid (HP.out.step hb)
                  replace k0 := cell_of_ans hb k0
                  replace k1 := cell_of_ans hb k1
                  replace k2 := cell_of_ans hb k2
                  replace k3 := cell_of_ans hb k3
                  replace m0 := cell_of_ans hb m0
                  replace m1 := cell_of_ans hb m1
                  replace m2 := cell_of_ans hb m2
                  replace m3 := cell_of_ans hb m3
                  replace HI1 := Lib.hid (HI1.out.step hb)
                  replace HI2 := Lib.hid (HI2.out.step hb)
                  replace j0 := cell_of_ans hb j0
                  replace j1 := cell_of_ans hb j1
                  replace HLN9 := Lib.hid (HLN9.out.step hb)
                  replace HB := Lib.hid (HB.out.trans (hb.mono HB.out.size))
                  clear hb
                  have He40 := Lib.hid e40
                  clear e40
                  go_wp2_with fail
                  refine (block42m_c (some ⟨g, 0, none⟩) ln ls.length cap _ HNL.out HLN9.out HFN.out hcap).mono ?_
                  rintro e w41 ⟨B41, d41, rfl, hd41, e41, hb⟩
                  replace HX := Lib.hid (HX.out.step hb)
                  replace HBs := Lib.hid (HBs.out.step hb)
                  replace HL := Lib.hid (HL.out.step hb)
                  replace HP := Lib.hid (HP.out.step hb)
                  replace k0 := cell_of_ans hb k0
                  replace k1 := cell_of_ans hb k1
                  replace k2 := cell_of_ans hb k2
                  replace k3 := cell_of_ans hb k3
                  replace m0 := cell_of_ans hb m0
                  replace m1 := cell_of_ans hb m1
                  replace m2 := cell_of_ans hb m2
                  replace m3 := cell_of_ans hb m3
                  replace HI1 := Lib.hid (HI1.out.step hb)
                  replace HI2 := Lib.hid (HI2.out.step hb)
                  replace j0 := cell_of_ans hb j0
                  replace j1 := cell_of_ans hb j1
                  replace HLN9 := Lib.hid (HLN9.out.step hb)
                  replace He40 := Lib.hid (He40.out.step hb)
                  replace HB := Lib.hid (HB.out.trans (hb.mono HB.out.size))
                  clear hb
                  have He41 := Lib.hid e41
                  clear e41
                  go_wp2_with fail
                  refine (listI_c Ap plan cp _ HP.out (by omega)).mono ?_
                  rintro e w42 ⟨B42, d42, rfl, hd42, e42, hb⟩
                  replace HX := Lib.hid (HX.out.step hb)
                  replace HBs := Lib.hid (HBs.out.step hb)
                  replace HL := Lib.hid (HL.out.step hb)
                  replace HP := Lib.hid (HP.out.step hb)
                  replace k0 := cell_of_ans hb k0
                  replace k1 := cell_of_ans hb k1
                  replace k2 := cell_of_ans hb k2
                  replace k3 := cell_of_ans hb k3
                  replace m0 := cell_of_ans hb m0
                  replace m1 := cell_of_ans hb m1
                  replace m2 := cell_of_ans hb m2
                  replace m3 := cell_of_ans hb m3
                  replace HI1 := Lib.hid (HI1.out.step hb)
                  replace HI2 := Lib.hid (HI2.out.step hb)
                  replace j0 := cell_of_ans hb j0
                  replace j1 := cell_of_ans hb j1
                  replace HLN9 := Lib.hid (HLN9.out.step hb)
                  replace He40 := Lib.hid (He40.out.step hb)
                  replace He41 := Lib.hid (He41.out.step hb)
                  replace HB := Lib.hid (HB.out.trans (hb.mono HB.out.size))
                  clear hb
                  have He42 := Lib.hid e42
                  clear e42
                  cases hpn : provePlan xss lo hi ca ln plan
                  · have HPN := Lib.hid hpn
                    clear hpn HNP
                    go_wp2_with fail
                    refine (provePlan_c B40 B41 B42 xss ln plan d40 d41 d42 lo hi ca _ He40.out He41.out He42.out hd40 hd41 hd42 hpl30).mono ?_
                    rw [HPN.out]
                    rintro e w43 ⟨rfl, hb⟩
                    replace HX := Lib.hid (HX.out.step hb)
                    replace HBs := Lib.hid (HBs.out.step hb)
                    replace HL := Lib.hid (HL.out.step hb)
                    replace HP := Lib.hid (HP.out.step hb)
                    replace k0 := cell_of_ans hb k0
                    replace k1 := cell_of_ans hb k1
                    replace k2 := cell_of_ans hb k2
                    replace k3 := cell_of_ans hb k3
                    replace m0 := cell_of_ans hb m0
                    replace m1 := cell_of_ans hb m1
                    replace m2 := cell_of_ans hb m2
                    replace m3 := cell_of_ans hb m3
                    replace HI1 := Lib.hid (HI1.out.step hb)
                    replace HI2 := Lib.hid (HI2.out.step hb)
                    replace j0 := cell_of_ans hb j0
                    replace j1 := cell_of_ans hb j1
                    replace HLN9 := Lib.hid (HLN9.out.step hb)
                    replace He40 := Lib.hid (He40.out.step hb)
                    replace He41 := Lib.hid (He41.out.step hb)
                    replace He42 := Lib.hid (He42.out.step hb)
                    replace HB := Lib.hid (HB.out.trans (hb.mono HB.out.size))
                    clear hb
                    clear He40 He41 He42
                    clear hd40 hd41 hd42
                    have hnn : ((n2 : Nat) : Int) ≤ ((n1 : Nat) : Int) := by have := HLM.out; omega
                    go_wp2_with fail
                    refine (awake_c _).mono ?_
                    rintro e w48 ⟨rfl, hb⟩
                    replace HX := Lib.hid (HX.out.step hb)
                    replace HBs := Lib.hid (HBs.out.step hb)
                    replace HL := Lib.hid (HL.out.step hb)
                    replace HP := Lib.hid (HP.out.step hb)
                    replace k0 := cell_of_ans hb k0
                    replace k1 := cell_of_ans hb k1
                    replace k2 := cell_of_ans hb k2
                    replace k3 := cell_of_ans hb k3
                    replace m0 := cell_of_ans hb m0
                    replace m1 := cell_of_ans hb m1
                    replace m2 := cell_of_ans hb m2
                    replace m3 := cell_of_ans hb m3
                    replace HI1 := Lib.hid (HI1.out.step hb)
                    replace HI2 := Lib.hid (HI2.out.step hb)
                    replace j0 := cell_of_ans hb j0
                    replace j1 := cell_of_ans hb j1
                    replace HLN9 := Lib.hid (HLN9.out.step hb)
                    replace HB := Lib.hid (HB.out.trans (hb.mono HB.out.size))
                    clear hb
                    go_wp2_with fail
                    go_ret
                    exact ⟨rfl, HB.out⟩
                  · have HPN := Lib.hid hpn
                    have HPT := Lib.hid (HNP.out hpn)
                    clear hpn HNP
                    go_wp2_with fail
                    refine (provePlan_c B40 B41 B42 xss ln plan d40 d41 d42 lo hi ca _ He40.out He41.out He42.out hd40 hd41 hd42 hpl30).mono ?_
                    rw [HPN.out]
                    rintro e w43 ⟨rfl, hb⟩
                    replace HX := Lib.hid (HX.out.step hb)
                    replace HBs := Lib.hid (HBs.out.step hb)
                    replace HL := Lib.hid (HL.out.step hb)
                    replace HP := Lib.hid (HP.out.step hb)
                    replace k0 := cell_of_ans hb k0
                    replace k1 := cell_of_ans hb k1
                    replace k2 := cell_of_ans hb k2
                    replace k3 := cell_of_ans hb k3
                    replace m0 := cell_of_ans hb m0
                    replace m1 := cell_of_ans hb m1
                    replace m2 := cell_of_ans hb m2
                    replace m3 := cell_of_ans hb m3
                    replace HI1 := Lib.hid (HI1.out.step hb)
                    replace HI2 := Lib.hid (HI2.out.step hb)
                    replace j0 := cell_of_ans hb j0
                    replace j1 := cell_of_ans hb j1
                    replace HLN9 := Lib.hid (HLN9.out.step hb)
                    replace He40 := Lib.hid (He40.out.step hb)
                    replace He41 := Lib.hid (He41.out.step hb)
                    replace He42 := Lib.hid (He42.out.step hb)
                    replace HB := Lib.hid (HB.out.trans (hb.mono HB.out.size))
                    clear hb
                    clear He40 He41 He42
                    clear hd40 hd41 hd42
                    go_wp2_with fail
                    refine (lane_c _ xss c lo hi ca _ (Nat.le_refl _) HX.out (small_lane HLE.out).1 (small_lane HLE.out).2).mono ?_
                    rintro e w44 ⟨B44, d44, rfl, hd44, e44, hb⟩
                    replace HX := Lib.hid (HX.out.step hb)
                    replace HBs := Lib.hid (HBs.out.step hb)
                    replace HL := Lib.hid (HL.out.step hb)
                    replace HP := Lib.hid (HP.out.step hb)
                    replace k0 := cell_of_ans hb k0
                    replace k1 := cell_of_ans hb k1
                    replace k2 := cell_of_ans hb k2
                    replace k3 := cell_of_ans hb k3
                    replace m0 := cell_of_ans hb m0
                    replace m1 := cell_of_ans hb m1
                    replace m2 := cell_of_ans hb m2
                    replace m3 := cell_of_ans hb m3
                    replace HI1 := Lib.hid (HI1.out.step hb)
                    replace HI2 := Lib.hid (HI2.out.step hb)
                    replace j0 := cell_of_ans hb j0
                    replace j1 := cell_of_ans hb j1
                    replace HLN9 := Lib.hid (HLN9.out.step hb)
                    replace HB := Lib.hid (HB.out.trans (hb.mono HB.out.size))
                    clear hb
                    have He44 := Lib.hid e44
                    clear e44
                    go_wp2_with fail
                    refine (block42_c _ ls c' _ HL.out HF.out hc').mono ?_
                    rintro e w45 ⟨B45, d45, rfl, hd45, e45, hb⟩
                    replace HX := Lib.hid (HX.out.step hb)
                    replace HBs := Lib.hid (HBs.out.step hb)
                    replace HL := Lib.hid (HL.out.step hb)
                    replace HP := Lib.hid (HP.out.step hb)
                    replace k0 := cell_of_ans hb k0
                    replace k1 := cell_of_ans hb k1
                    replace k2 := cell_of_ans hb k2
                    replace k3 := cell_of_ans hb k3
                    replace m0 := cell_of_ans hb m0
                    replace m1 := cell_of_ans hb m1
                    replace m2 := cell_of_ans hb m2
                    replace m3 := cell_of_ans hb m3
                    replace HI1 := Lib.hid (HI1.out.step hb)
                    replace HI2 := Lib.hid (HI2.out.step hb)
                    replace j0 := cell_of_ans hb j0
                    replace j1 := cell_of_ans hb j1
                    replace HLN9 := Lib.hid (HLN9.out.step hb)
                    replace He44 := Lib.hid (He44.out.step hb)
                    replace HB := Lib.hid (HB.out.trans (hb.mono HB.out.size))
                    clear hb
                    have He45 := Lib.hid e45
                    clear e45
                    go_wp2_with fail
                    refine (listI_c Ap plan cp _ HP.out (by omega)).mono ?_
                    rintro e w46 ⟨B46, d46, rfl, hd46, e46, hb⟩
                    replace HX := Lib.hid (HX.out.step hb)
                    replace HBs := Lib.hid (HBs.out.step hb)
                    replace HL := Lib.hid (HL.out.step hb)
                    replace HP := Lib.hid (HP.out.step hb)
                    replace k0 := cell_of_ans hb k0
                    replace k1 := cell_of_ans hb k1
                    replace k2 := cell_of_ans hb k2
                    replace k3 := cell_of_ans hb k3
                    replace m0 := cell_of_ans hb m0
                    replace m1 := cell_of_ans hb m1
                    replace m2 := cell_of_ans hb m2
                    replace m3 := cell_of_ans hb m3
                    replace HI1 := Lib.hid (HI1.out.step hb)
                    replace HI2 := Lib.hid (HI2.out.step hb)
                    replace j0 := cell_of_ans hb j0
                    replace j1 := cell_of_ans hb j1
                    replace HLN9 := Lib.hid (HLN9.out.step hb)
                    replace He44 := Lib.hid (He44.out.step hb)
                    replace He45 := Lib.hid (He45.out.step hb)
                    replace HB := Lib.hid (HB.out.trans (hb.mono HB.out.size))
                    clear hb
                    have He46 := Lib.hid e46
                    clear e46
                    go_wp2_with fail
                    refine (provePlan_c B44 B45 B46 xss ls plan d44 d45 d46 lo hi ca _ He44.out He45.out He46.out hd44 hd45 hd46 hpl30).mono ?_
                    rw [HPT.out]
                    rintro e w47 ⟨rfl, hb⟩
                    replace HX := Lib.hid (HX.out.step hb)
                    replace HBs := Lib.hid (HBs.out.step hb)
                    replace HL := Lib.hid (HL.out.step hb)
                    replace HP := Lib.hid (HP.out.step hb)
                    replace k0 := cell_of_ans hb k0
                    replace k1 := cell_of_ans hb k1
                    replace k2 := cell_of_ans hb k2
                    replace k3 := cell_of_ans hb k3
                    replace m0 := cell_of_ans hb m0
                    replace m1 := cell_of_ans hb m1
                    replace m2 := cell_of_ans hb m2
                    replace m3 := cell_of_ans hb m3
                    replace HI1 := Lib.hid (HI1.out.step hb)
                    replace HI2 := Lib.hid (HI2.out.step hb)
                    replace j0 := cell_of_ans hb j0
                    replace j1 := cell_of_ans hb j1
                    replace HLN9 := Lib.hid (HLN9.out.step hb)
                    replace He44 := Lib.hid (He44.out.step hb)
                    replace He45 := Lib.hid (He45.out.step hb)
                    replace He46 := Lib.hid (He46.out.step hb)
                    replace HB := Lib.hid (HB.out.trans (hb.mono HB.out.size))
                    clear hb
                    clear He44 He45 He46
                    clear hd44 hd45 hd46
                    have hnn : ((n2 : Nat) : Int) ≤ ((n1 : Nat) : Int) := by have := HLM.out; omega
                    go_wp2_with fail
                    refine (awake_c _).mono ?_
                    rintro e w48 ⟨rfl, hb⟩
                    replace HX := Lib.hid (HX.out.step hb)
                    replace HBs := Lib.hid (HBs.out.step hb)
                    replace HL := Lib.hid (HL.out.step hb)
                    replace HP := Lib.hid (HP.out.step hb)
                    replace k0 := cell_of_ans hb k0
                    replace k1 := cell_of_ans hb k1
                    replace k2 := cell_of_ans hb k2
                    replace k3 := cell_of_ans hb k3
                    replace m0 := cell_of_ans hb m0
                    replace m1 := cell_of_ans hb m1
                    replace m2 := cell_of_ans hb m2
                    replace m3 := cell_of_ans hb m3
                    replace HI1 := Lib.hid (HI1.out.step hb)
                    replace HI2 := Lib.hid (HI2.out.step hb)
                    replace j0 := cell_of_ans hb j0
                    replace j1 := cell_of_ans hb j1
                    replace HLN9 := Lib.hid (HLN9.out.step hb)
                    replace HB := Lib.hid (HB.out.trans (hb.mono HB.out.size))
                    clear hb
                    go_wp2_with fail
                    go_ret
                    exact ⟨rfl, HB.out⟩
              · have HPV := Lib.hid hpv
                have HPW := Lib.hid (HPM.out hpv)
                clear hpv
                go_wp2_with fail
                refine (lane_c _ xss c lo' hi' ca _ (Nat.le_refl _) HX.out (small_lane HLE.out).1 (small_lane HLE.out).2).mono ?_
                rintro e w18 ⟨B9, d9, rfl, hd9, e9, hb⟩
                replace HX := Lib.hid (HX.out.step hb)
                replace HBs := Lib.hid (HBs.out.step hb)
                replace HL := Lib.hid (HL.out.step hb)
                replace HP := Lib.hid (HP.out.step hb)
                replace k0 := cell_of_ans hb k0
                replace k1 := cell_of_ans hb k1
                replace k2 := cell_of_ans hb k2
                replace k3 := cell_of_ans hb k3
                replace m0 := cell_of_ans hb m0
                replace m1 := cell_of_ans hb m1
                replace m2 := cell_of_ans hb m2
                replace m3 := cell_of_ans hb m3
                replace HB := Lib.hid (HB.out.trans (hb.mono HB.out.size))
                clear hb
                have He9 := Lib.hid e9
                clear e9
                go_wp2_with fail
                refine (block42_c _ ls c' _ HL.out HF.out hc').mono ?_
                rintro e w19 ⟨B10, d10, rfl, hd10, e10, hb⟩
                replace HX := Lib.hid (HX.out.step hb)
                replace HBs := Lib.hid (HBs.out.step hb)
                replace HL := Lib.hid (HL.out.step hb)
                replace HP := Lib.hid (HP.out.step hb)
                replace k0 := cell_of_ans hb k0
                replace k1 := cell_of_ans hb k1
                replace k2 := cell_of_ans hb k2
                replace k3 := cell_of_ans hb k3
                replace m0 := cell_of_ans hb m0
                replace m1 := cell_of_ans hb m1
                replace m2 := cell_of_ans hb m2
                replace m3 := cell_of_ans hb m3
                replace He9 := Lib.hid (He9.out.step hb)
                replace HB := Lib.hid (HB.out.trans (hb.mono HB.out.size))
                clear hb
                have He10 := Lib.hid e10
                clear e10
                go_wp2_with fail
                refine (listI_c Ap plan cp _ HP.out (by omega)).mono ?_
                rintro e w19 ⟨B11, d11, rfl, hd11, e11, hb⟩
                replace HX := Lib.hid (HX.out.step hb)
                replace HBs := Lib.hid (HBs.out.step hb)
                replace HL := Lib.hid (HL.out.step hb)
                replace HP := Lib.hid (HP.out.step hb)
                replace k0 := cell_of_ans hb k0
                replace k1 := cell_of_ans hb k1
                replace k2 := cell_of_ans hb k2
                replace k3 := cell_of_ans hb k3
                replace m0 := cell_of_ans hb m0
                replace m1 := cell_of_ans hb m1
                replace m2 := cell_of_ans hb m2
                replace m3 := cell_of_ans hb m3
                replace He9 := Lib.hid (He9.out.step hb)
                replace He10 := Lib.hid (He10.out.step hb)
                replace HB := Lib.hid (HB.out.trans (hb.mono HB.out.size))
                clear hb
                have He11 := Lib.hid e11
                clear e11
                go_wp2_with fail
                refine (provePlan_c B9 B10 B11 xss ls plan d9 d10 d11 lo' hi' ca _ He9.out He10.out He11.out hd9 hd10 hd11 hpl30).mono ?_
                rw [HPV.out]
                rintro e w20 ⟨rfl, hb⟩
                replace HX := Lib.hid (HX.out.step hb)
                replace HBs := Lib.hid (HBs.out.step hb)
                replace HL := Lib.hid (HL.out.step hb)
                replace HP := Lib.hid (HP.out.step hb)
                replace k0 := cell_of_ans hb k0
                replace k1 := cell_of_ans hb k1
                replace k2 := cell_of_ans hb k2
                replace k3 := cell_of_ans hb k3
                replace m0 := cell_of_ans hb m0
                replace m1 := cell_of_ans hb m1
                replace m2 := cell_of_ans hb m2
                replace m3 := cell_of_ans hb m3
                replace He9 := Lib.hid (He9.out.step hb)
                replace He10 := Lib.hid (He10.out.step hb)
                replace He11 := Lib.hid (He11.out.step hb)
                replace HB := Lib.hid (HB.out.trans (hb.mono HB.out.size))
                clear hb
                clear He9 He10 He11
                clear hd9 hd10 hd11
                go_wp2_with fail
                refine (lane_c _ xss c lo hi ca _ (Nat.le_refl _) HX.out (small_lane HLE.out).1 (small_lane HLE.out).2).mono ?_
                rintro e w21 ⟨B12, d12, rfl, hd12, e12, hb⟩
                replace HX := Lib.hid (HX.out.step hb)
                replace HBs := Lib.hid (HBs.out.step hb)
                replace HL := Lib.hid (HL.out.step hb)
                replace HP := Lib.hid (HP.out.step hb)
                replace k0 := cell_of_ans hb k0
                replace k1 := cell_of_ans hb k1
                replace k2 := cell_of_ans hb k2
                replace k3 := cell_of_ans hb k3
                replace m0 := cell_of_ans hb m0
                replace m1 := cell_of_ans hb m1
                replace m2 := cell_of_ans hb m2
                replace m3 := cell_of_ans hb m3
                replace HB := Lib.hid (HB.out.trans (hb.mono HB.out.size))
                clear hb
                have He12 := Lib.hid e12
                clear e12
                go_wp2_with fail
                refine (block42_c _ ls c' _ HL.out HF.out hc').mono ?_
                rintro e w22 ⟨B13, d13, rfl, hd13, e13, hb⟩
                replace HX := Lib.hid (HX.out.step hb)
                replace HBs := Lib.hid (HBs.out.step hb)
                replace HL := Lib.hid (HL.out.step hb)
                replace HP := Lib.hid (HP.out.step hb)
                replace k0 := cell_of_ans hb k0
                replace k1 := cell_of_ans hb k1
                replace k2 := cell_of_ans hb k2
                replace k3 := cell_of_ans hb k3
                replace m0 := cell_of_ans hb m0
                replace m1 := cell_of_ans hb m1
                replace m2 := cell_of_ans hb m2
                replace m3 := cell_of_ans hb m3
                replace He12 := Lib.hid (He12.out.step hb)
                replace HB := Lib.hid (HB.out.trans (hb.mono HB.out.size))
                clear hb
                have He13 := Lib.hid e13
                clear e13
                go_wp2_with fail
                refine (listI_c Ap plan cp _ HP.out (by omega)).mono ?_
                rintro e w23 ⟨B14, d14, rfl, hd14, e14, hb⟩
                replace HX := Lib.hid (HX.out.step hb)
                replace HBs := Lib.hid (HBs.out.step hb)
                replace HL := Lib.hid (HL.out.step hb)
                replace HP := Lib.hid (HP.out.step hb)
                replace k0 := cell_of_ans hb k0
                replace k1 := cell_of_ans hb k1
                replace k2 := cell_of_ans hb k2
                replace k3 := cell_of_ans hb k3
                replace m0 := cell_of_ans hb m0
                replace m1 := cell_of_ans hb m1
                replace m2 := cell_of_ans hb m2
                replace m3 := cell_of_ans hb m3
                replace He12 := Lib.hid (He12.out.step hb)
                replace He13 := Lib.hid (He13.out.step hb)
                replace HB := Lib.hid (HB.out.trans (hb.mono HB.out.size))
                clear hb
                have He14 := Lib.hid e14
                clear e14
                go_wp2_with fail
                refine (provePlan_c B12 B13 B14 xss ls plan d12 d13 d14 lo hi ca _ He12.out He13.out He14.out hd12 hd13 hd14 hpl30).mono ?_
                rw [HPW.out]
                rintro e w24 ⟨rfl, hb⟩
                replace HX := Lib.hid (HX.out.step hb)
                replace HBs := Lib.hid (HBs.out.step hb)
                replace HL := Lib.hid (HL.out.step hb)
                replace HP := Lib.hid (HP.out.step hb)
                replace k0 := cell_of_ans hb k0
                replace k1 := cell_of_ans hb k1
                replace k2 := cell_of_ans hb k2
                replace k3 := cell_of_ans hb k3
                replace m0 := cell_of_ans hb m0
                replace m1 := cell_of_ans hb m1
                replace m2 := cell_of_ans hb m2
                replace m3 := cell_of_ans hb m3
                replace He12 := Lib.hid (He12.out.step hb)
                replace He13 := Lib.hid (He13.out.step hb)
                replace He14 := Lib.hid (He14.out.step hb)
                replace HB := Lib.hid (HB.out.trans (hb.mono HB.out.size))
                clear hb
                clear He12 He13 He14
                clear hd12 hd13 hd14
                by_cases hz : ls.length = 0
                · have hz' : ((ls.length : Int) == 0) = true := by simp [hz]
                  clear hz
                  go_wp2_with fail
                  refine (awake_c _).mono ?_
                  rintro e w9 ⟨rfl, hb⟩
                  replace HX := Lib.hid (HX.out.step hb)
                  replace HBs := Lib.hid (HBs.out.step hb)
                  replace HL := Lib.hid (HL.out.step hb)
                  replace HP := Lib.hid (HP.out.step hb)
                  replace k0 := cell_of_ans hb k0
                  replace k1 := cell_of_ans hb k1
                  replace k2 := cell_of_ans hb k2
                  replace k3 := cell_of_ans hb k3
                  replace m0 := cell_of_ans hb m0
                  replace m1 := cell_of_ans hb m1
                  replace m2 := cell_of_ans hb m2
                  replace m3 := cell_of_ans hb m3
                  replace HB := Lib.hid (HB.out.trans (hb.mono HB.out.size))
                  clear hb
                  go_wp2_with fail
                  go_ret
                  exact ⟨rfl, HB.out⟩
                · have hz' : ((ls.length : Int) == 0) = false := by rw [beq_eq_false_iff_ne]; omega
                  obtain ⟨k, hk, hek⟩ := emod_nat (m : Int) ls.length (by omega)
                  have hne : ¬ ((ls.length : Int) = 0) := by omega
                  have hne2 : 0 < ls.length := by omega
                  have hki : (k : Int) < (ls.length : Int) := by omega
                  have hk0 : (0 : Int) ≤ (k : Int) := by omega
                  clear hz
                  obtain ⟨bl, ol, A1, c1, A2, c2, hA', j0, j1, q1, q2, hi1, hi2⟩ := HL.out.at_ hk
                  subst hA'
                  have HI1 := Lib.hid hi1
                  have HI2 := Lib.hid hi2
                  have HLO := Lib.hid (linesOk HLN.out k hk)
                  have hl16 := H16.out k hk
                  clear hi1 hi2
                  have HLM : Hid (lastsFrom ca (lx ls k).1 (lx ls k).2 lo' hi' (oilOf xss) 0 20 ≤ lastsFrom ca (lx ls k).1 (lx ls k).2 lo hi (oilOf xss) 0 20) := lasts_mono hca b1 b2 20 0
                  go_wp2_with fail
                  skip
                  have hd : Below w24.heap.size w24 w24.drew := (Below.refl _ _).drew
                  replace HX := Lib.hid (HX.out.step hd)
                  replace HBs := Lib.hid (HBs.out.step hd)
                  replace HL := Lib.hid (HL.out.step hd)
                  replace HP := Lib.hid (HP.out.step hd)
                  replace HI1 := Lib.hid (HI1.out.step hd)
                  replace HI2 := Lib.hid (HI2.out.step hd)
                  replace HB := Lib.hid (HB.out.trans (hd.mono HB.out.size))
                  clear hd
                  go_region_held3 (fun w' => w'.cell? ⟨w.heap.size, 0, none⟩ = some (.slice A xss.length c) ∧ w'.cell? ⟨w.heap.size, 1, none⟩ = some (.int .i64 lo) ∧ w'.cell? ⟨w.heap.size, 2, none⟩ = some (.int .i64 hi) ∧ w'.cell? ⟨w.heap.size, 3, none⟩ = some (.int .i64 ca) ∧ w'.cell? ⟨bl, ol + k * 2, none⟩ = some (.slice A1 (lx ls k).1.length c1) ∧ w'.cell? ⟨bl, ol + k * 2 + 1, none⟩ = some (.slice A2 (lx ls k).2.length c2)) (go_keep) (first | (go_at_call 19; refine (lane_c _ xss c lo hi ca _ (Nat.le_refl _) HX.out (small_lane HLE.out).1 (small_lane HLE.out).2).mono ?_; rintro e w30 ⟨B20, d20, rfl, hd20, e20, hb⟩; replace HX := Lib.hid (HX.out.step hb); replace HBs := Lib.hid (HBs.out.step hb); replace HL := Lib.hid (HL.out.step hb); replace HP := Lib.hid (HP.out.step hb); replace k0 := cell_of_ans (below_drew_l hb) k0; replace k1 := cell_of_ans (below_drew_l hb) k1; replace k2 := cell_of_ans (below_drew_l hb) k2; replace k3 := cell_of_ans (below_drew_l hb) k3; replace m0 := cell_of_ans (below_drew_l hb) m0; replace m1 := cell_of_ans (below_drew_l hb) m1; replace m2 := cell_of_ans (below_drew_l hb) m2; replace m3 := cell_of_ans (below_drew_l hb) m3; replace HI1 := Lib.hid (HI1.out.step hb); replace HI2 := Lib.hid (HI2.out.step hb); replace j0 := cell_of_ans (below_drew_l hb) j0; replace j1 := cell_of_ans (below_drew_l hb) j1; replace HB := Lib.hid (HB.out.trans (hb.mono HB.out.size)); clear hb; have He20 := Lib.hid e20; clear e20) | (go_at_call 35; refine (line35_c A1 A2 (lx ls k).1 (lx ls k).2 c1 c2 _ HI1.out HI2.out (by omega) (by omega)).mono ?_; rintro e w31 ⟨B21, d21, B22, d22, rfl, hd21, hd22, e21, e22, hb⟩; replace HX := Lib.hid (HX.out.step hb); replace HBs := Lib.hid (HBs.out.step hb); replace HL := Lib.hid (HL.out.step hb); replace HP := Lib.hid (HP.out.step hb); replace k0 := cell_of_ans hb k0; replace k1 := cell_of_ans hb k1; replace k2 := cell_of_ans hb k2; replace k3 := cell_of_ans hb k3; replace m0 := cell_of_ans hb m0; replace m1 := cell_of_ans hb m1; replace m2 := cell_of_ans hb m2; replace m3 := cell_of_ans hb m3; replace HI1 := Lib.hid (HI1.out.step hb); replace HI2 := Lib.hid (HI2.out.step hb); replace j0 := cell_of_ans hb j0; replace j1 := cell_of_ans hb j1; replace He20 := Lib.hid (He20.out.step hb); replace HB := Lib.hid (HB.out.trans (hb.mono HB.out.size)); clear hb; have He21 := Lib.hid e21; clear e21; have He22 := Lib.hid e22; clear e22) | (go_at_call 36; refine (lastsA_c B20 B21 B22 xss (lx ls k).1 (lx ls k).2 d20 d21 d22 lo hi ca _ He20.out He21.out He22.out hd20 hd21 hd22 HLE.out HLO.out).mono ?_; rintro e w32 ⟨rfl, hb⟩; replace HX := Lib.hid (HX.out.step hb); replace HBs := Lib.hid (HBs.out.step hb); replace HL := Lib.hid (HL.out.step hb); replace HP := Lib.hid (HP.out.step hb); replace k0 := cell_of_ans hb k0; replace k1 := cell_of_ans hb k1; replace k2 := cell_of_ans hb k2; replace k3 := cell_of_ans hb k3; replace m0 := cell_of_ans hb m0; replace m1 := cell_of_ans hb m1; replace m2 := cell_of_ans hb m2; replace m3 := cell_of_ans hb m3; replace HI1 := Lib.hid (HI1.out.step hb); replace HI2 := Lib.hid (HI2.out.step hb); replace j0 := cell_of_ans hb j0; replace j1 := cell_of_ans hb j1; replace He20 := Lib.hid (He20.out.step hb); replace He21 := Lib.hid (He21.out.step hb); replace He22 := Lib.hid (He22.out.step hb); replace HB := Lib.hid (HB.out.trans (hb.mono HB.out.size)); clear hb))
                  clear He20 He21 He22
                  clear hd20 hd21 hd22
                  go_wp2_with fail
                  skip
                  have hd : Below w32.heap.size w32 w32.drew := (Below.refl _ _).drew
                  replace HX := Lib.hid (HX.out.step hd)
                  replace HBs := Lib.hid (HBs.out.step hd)
                  replace HL := Lib.hid (HL.out.step hd)
                  replace HP := Lib.hid (HP.out.step hd)
                  replace HI1 := Lib.hid (HI1.out.step hd)
                  replace HI2 := Lib.hid (HI2.out.step hd)
                  replace HB := Lib.hid (HB.out.trans (hd.mono HB.out.size))
                  clear hd
                  go_region_held3 (fun w' => w'.cell? ⟨gx, 0, none⟩ = some (.slice A xss.length c) ∧ w'.cell? ⟨gx, 1, none⟩ = some (.int .i64 lo') ∧ w'.cell? ⟨gx, 2, none⟩ = some (.int .i64 hi') ∧ w'.cell? ⟨gx, 3, none⟩ = some (.int .i64 ca) ∧ w'.cell? ⟨bl, ol + k * 2, none⟩ = some (.slice A1 (lx ls k).1.length c1) ∧ w'.cell? ⟨bl, ol + k * 2 + 1, none⟩ = some (.slice A2 (lx ls k).2.length c2)) (go_keep) (first | (go_at_call 19; refine (lane_c _ xss c lo' hi' ca _ (Nat.le_refl _) HX.out (small_lane HLE.out).1 (small_lane HLE.out).2).mono ?_; rintro e w33 ⟨B20, d20, rfl, hd20, e20, hb⟩; replace HX := Lib.hid (HX.out.step hb); replace HBs := Lib.hid (HBs.out.step hb); replace HL := Lib.hid (HL.out.step hb); replace HP := Lib.hid (HP.out.step hb); replace k0 := cell_of_ans (below_drew_l hb) k0; replace k1 := cell_of_ans (below_drew_l hb) k1; replace k2 := cell_of_ans (below_drew_l hb) k2; replace k3 := cell_of_ans (below_drew_l hb) k3; replace m0 := cell_of_ans (below_drew_l hb) m0; replace m1 := cell_of_ans (below_drew_l hb) m1; replace m2 := cell_of_ans (below_drew_l hb) m2; replace m3 := cell_of_ans (below_drew_l hb) m3; replace HI1 := Lib.hid (HI1.out.step hb); replace HI2 := Lib.hid (HI2.out.step hb); replace j0 := cell_of_ans (below_drew_l hb) j0; replace j1 := cell_of_ans (below_drew_l hb) j1; replace HB := Lib.hid (HB.out.trans (hb.mono HB.out.size)); clear hb; have He20 := Lib.hid e20; clear e20) | (go_at_call 35; refine (line35_c A1 A2 (lx ls k).1 (lx ls k).2 c1 c2 _ HI1.out HI2.out (by omega) (by omega)).mono ?_; rintro e w34 ⟨B21, d21, B22, d22, rfl, hd21, hd22, e21, e22, hb⟩; replace HX := Lib.hid (HX.out.step hb); replace HBs := Lib.hid (HBs.out.step hb); replace HL := Lib.hid (HL.out.step hb); replace HP := Lib.hid (HP.out.step hb); replace k0 := cell_of_ans hb k0; replace k1 := cell_of_ans hb k1; replace k2 := cell_of_ans hb k2; replace k3 := cell_of_ans hb k3; replace m0 := cell_of_ans hb m0; replace m1 := cell_of_ans hb m1; replace m2 := cell_of_ans hb m2; replace m3 := cell_of_ans hb m3; replace HI1 := Lib.hid (HI1.out.step hb); replace HI2 := Lib.hid (HI2.out.step hb); replace j0 := cell_of_ans hb j0; replace j1 := cell_of_ans hb j1; replace He20 := Lib.hid (He20.out.step hb); replace HB := Lib.hid (HB.out.trans (hb.mono HB.out.size)); clear hb; have He21 := Lib.hid e21; clear e21; have He22 := Lib.hid e22; clear e22) | (go_at_call 36; refine (lastsA_c B20 B21 B22 xss (lx ls k).1 (lx ls k).2 d20 d21 d22 lo' hi' ca _ He20.out He21.out He22.out hd20 hd21 hd22 HLE2.out HLO.out).mono ?_; rintro e w35 ⟨rfl, hb⟩; replace HX := Lib.hid (HX.out.step hb); replace HBs := Lib.hid (HBs.out.step hb); replace HL := Lib.hid (HL.out.step hb); replace HP := Lib.hid (HP.out.step hb); replace k0 := cell_of_ans hb k0; replace k1 := cell_of_ans hb k1; replace k2 := cell_of_ans hb k2; replace k3 := cell_of_ans hb k3; replace m0 := cell_of_ans hb m0; replace m1 := cell_of_ans hb m1; replace m2 := cell_of_ans hb m2; replace m3 := cell_of_ans hb m3; replace HI1 := Lib.hid (HI1.out.step hb); replace HI2 := Lib.hid (HI2.out.step hb); replace j0 := cell_of_ans hb j0; replace j1 := cell_of_ans hb j1; replace He20 := Lib.hid (He20.out.step hb); replace He21 := Lib.hid (He21.out.step hb); replace He22 := Lib.hid (He22.out.step hb); replace HB := Lib.hid (HB.out.trans (hb.mono HB.out.size)); clear hb))
                  clear He20 He21 He22
                  clear hd20 hd21 hd22
                  generalize lastsFrom ca (lx ls k).1 (lx ls k).2 lo hi (oilOf xss) 0 20 = n1 at *
                  generalize lastsFrom ca (lx ls k).1 (lx ls k).2 lo' hi' (oilOf xss) 0 20 = n2 at *
                  obtain ⟨f1, l1, f2, l2, hel, hin⟩ := HL.out.el
                  obtain ⟨bl', ol', hA2, hblt, hcells⟩ := hel hne2
                  injection hA2 with hA2
                  injection hA2 with e1 e2 _
                  subst e1 e2
                  have HIN := Lib.hid hin
                  have HS := Lib.hid (lines_src (w := w35.alloc (.cells #[] 55)) (b := bl) (off := ol) (ls := ls) (A1 := f1) (c1 := l1) (A2 := f2) (c2 := l2) fun k hk => ⟨cell_alloc_keep _ (hcells k hk).1, cell_alloc_keep _ (hcells k hk).2⟩)
                  have HOW : Hid ((w35.alloc (.cells #[] 55)).ownsRow w35.heap.size 55 2 (.slice (some ⟨w35.heap.size, 0, none⟩) 0 0) 0 []) := World.ownsRow_lit w35 #[] 0 (Nat.le_refl _) (by simp [maxLen]) (by simp)
                  have HON : Hid (∀ x ∈ flatV ((List.range ls.length).map (pairsL ls f1 l1 f2 l2)), x.oneCell' = true) := fun x hx => by
                    simp only [flatV, List.mem_flatMap, List.mem_map] at hx
                    obtain ⟨p, ⟨j, _, rfl⟩, hx⟩ := hx
                    simp [pairsL] at hx
                    rcases hx with rfl | rfl <;> rfl
                  have h63 : Hid (0 + ls.length ≤ maxLen) := by show _ ≤ _; unfold maxLen; omega
                  have hby : Hid ((0 + ls.length) * 48 ≤ 140737488355328) := by show _ ≤ _; omega
                  obtain ⟨i0, hi0, hz0, hz1, hz2⟩ := info_parts info55
                  have hpos : 0 < (lx ls k).2.length := by rw [(lineOk HLO.out).2.1]; exact hn0
                  have HNDL : Hid ((lx ls k).2.length = xss.length) := (lineOk HLO.out).2.1
                  have HND : Hid (∀ j, j < xss.length → 0 ≤ ix (lx ls k).2 j ∧ ix (lx ls k).2 j ≤ 100) := (lineOk HLO.out).2.2
                  clear hel hin hcells
                  go_wp2_with (at_builtin; refine wpList_append_src rfl (.tmp 245) (.tmp 246) 57 rfl w35.heap.size 55 i0 _ 2 48 Try.underlying57 hi0 hz0 hz1 hz2 rfl (by decide) (.slice (some ⟨w35.heap.size, 0, none⟩) 0 0) 0 [] rfl HOW.out (some ⟨bl, ol, none⟩) ls.length c' _ rfl HS.out HON.out h63.out hby.out (by simp) ?_; intro v' w36 hown hgrow _; rw [List.nil_append, Nat.zero_add] at hown; obtain ⟨g, cap, rfl, hg0, hcap, ho36⟩ := oth_own hown hne2; have HO36 := Lib.hid ho36; have HB36 : Hid (Below w35.heap.size w35 w36) := ((Below.refl w35.heap.size w35).alloc (Nat.le_refl _) _).grown hgrow (by simp) (fun k e => by injection e with e; subst e; exact Nat.le_refl _); have jb := cell_of_ans HB36.out j1; clear hown hgrow ho36)
                  refine (list43_c A2 (lx ls k).2 c2 _ (HI2.out.step HB36.out) (by omega)).mono ?_
                  rintro e w37 ⟨A9, c9, rfl, ho9, hb9⟩
                  have ho37 := HO36.out.below hb9
                  obtain ⟨gN, rfl, hgN, hgN2, hc9, hic9⟩ := int_own ho9 hpos
                  have hgl := HO36.out.lt
                  have f37 := (ho37.2 k hk).2
                  have z37 := ho37.frozen
                  have HB37 : Hid (Below w35.heap.size w35 w37) := HB36.out.trans (hb9.mono HB36.out.size)
                  have HO38 := Lib.hid (ho37.set hk (.slice (some ⟨gN, 0, none⟩) (lx ls k).2.length c9))
                  have HI38 := Lib.hid (hic9.far (a := ⟨g, k * 2 + 1, none⟩) (by dsimp only; omega) (.slice (some ⟨gN, 0, none⟩) (lx ls k).2.length c9))
                  have HB38 : Hid (Below w35.heap.size w35 (w37.setCell ⟨g, k * 2 + 1, none⟩ (.slice (some ⟨gN, 0, none⟩) (lx ls k).2.length c9))) := HB37.out.setCell (by dsimp only; omega) _
                  have hmul : IntKind.i64.wrap (1 : Int) = 1 := by rfl
                  clear ho37 hic9 ho9 hb9 jb hmul
                  go_upto_region 28 with fail
                  have k0b := cell_of_under HB38.out k0
                  generalize w37.setCell ⟨g, k * 2 + 1, none⟩ (.slice (some ⟨gN, 0, none⟩) (lx ls k).2.length c9) = w38 at HO38 HI38 HB38 k0b ⊢
                  obtain ⟨r, hr, her⟩ := emod_nat ((m : Int) / 16) xss.length hn0
                  have hz16 : ((xss.length : Int) == 0) = false := by rw [beq_eq_false_iff_ne]; omega
                  have hne16 : ¬ ((xss.length : Int) = 0) := by omega
                  go_upto_region 29 with fail
                  have p1 := (HO38.out.2 k hk).2
                  dsimp only at p1
                  rw [if_pos rfl] at p1
                  have p2 := HI38.out.2 r (by rw [HNDL.out]; exact hr)
                  have p3 := HI38.out.frozen
                  have hry := HND.out r hr
                  obtain ⟨y, hy⟩ : ∃ y, y = ix (lx ls k).2 r := ⟨_, rfl⟩
                  rw [← hy] at p2 hry
                  have HY := Lib.hid hy
                  have z1 : IntKind.i64.wrap (y + 1) = y + 1 := IntWalk.i64_in _ (by omega)
                  have z2 : IntKind.i64.wrap (y + 1 + (m : Int) % 4) = y + 1 + (m : Int) % 4 := IntWalk.i64_in _ (by omega)
                  have hri : (r : Int) < ((lx ls k).2.length : Int) := by rw [HNDL.out]; omega
                  have hri0 : (0 : Int) ≤ (r : Int) := by omega
                  have hrx : (r : Int) < (xss.length : Int) := by omega
                  clear hy hz16 hne16
                  go_wp2_with fail
                  refine wp_region_noPanic ?_
                  have hS : (fun w' : World => w'.cell? ⟨g, k * 2 + 1, none⟩ = some (.slice (some ⟨gN, 0, none⟩) (lx ls k).2.length c9) ∧ w'.cell? ⟨gN, r, none⟩ = some (.int .i64 y)) w38.drew := ⟨p1, p2⟩
                  refine wp_region_any (by kernel_rfl) (wpAny_of_T (S := fun w' : World => w'.cell? ⟨g, k * 2 + 1, none⟩ = some (.slice (some ⟨gN, 0, none⟩) (lx ls k).2.length c9) ∧ w'.cell? ⟨gN, r, none⟩ = some (.int .i64 y)) (m := 21) _ _ _ _ ?_)
                  refine' T_take (i := 0) (v := _) rfl (by kernel_rfl) (by kernel_rfl) (by kernel_rfl) (by kernel_rfl) (fun _ _ _ h => h) (by kernel_rfl) hS ?_ ?_
                  rotate_left 1
                  · intro Wv hW
                    obtain ⟨s0, s1⟩ := hW
                    go_simp
                    first | done | with_reducible rfl
                  try simp only [Act.put, List.setIfInBounds_toArray, List.set_cons_zero, List.set_cons_succ]
                  refine' T_take (i := 1) (v := _) rfl (by kernel_rfl) (by kernel_rfl) (by kernel_rfl) (by kernel_rfl) (fun _ _ _ h => h) (by kernel_rfl) hS ?_ ?_
                  rotate_left 1
                  · intro Wv hW
                    obtain ⟨s0, s1⟩ := hW
                    go_simp
                    first | done | with_reducible rfl
                  try simp only [Act.put, List.setIfInBounds_toArray, List.set_cons_zero, List.set_cons_succ]
                  refine' T_take (i := 2) (v := _) rfl (by kernel_rfl) (by kernel_rfl) (by kernel_rfl) (by kernel_rfl) (fun _ _ _ h => h) (by kernel_rfl) hS ?_ ?_
                  rotate_left 1
                  · intro Wv hW
                    obtain ⟨s0, s1⟩ := hW
                    go_simp
                    first | done | with_reducible rfl
                  try simp only [Act.put, List.setIfInBounds_toArray, List.set_cons_zero, List.set_cons_succ]
                  refine' T_take (i := 3) (v := _) rfl (by kernel_rfl) (by kernel_rfl) (by kernel_rfl) (by kernel_rfl) (fun _ _ _ h => h) (by kernel_rfl) hS ?_ ?_
                  rotate_left 1
                  · intro Wv hW
                    obtain ⟨s0, s1⟩ := hW
                    go_simp
                    first | done | with_reducible rfl
                  try simp only [Act.put, List.setIfInBounds_toArray, List.set_cons_zero, List.set_cons_succ]
                  refine' T_take (i := 4) (v := _) rfl (by kernel_rfl) (by kernel_rfl) (by kernel_rfl) (by kernel_rfl) (fun _ _ _ h => h) (by kernel_rfl) hS ?_ ?_
                  rotate_left 1
                  · intro Wv hW
                    obtain ⟨s0, s1⟩ := hW
                    go_simp
                    first | done | with_reducible rfl
                  try simp only [Act.put, List.setIfInBounds_toArray, List.set_cons_zero, List.set_cons_succ]
                  refine' T_take (i := 5) (v := _) rfl (by kernel_rfl) (by kernel_rfl) (by kernel_rfl) (by kernel_rfl) (fun _ _ _ h => h) (by kernel_rfl) hS ?_ ?_
                  rotate_left 1
                  · intro Wv hW
                    obtain ⟨s0, s1⟩ := hW
                    go_simp
                    first | done | with_reducible rfl
                  try simp only [Act.put, List.setIfInBounds_toArray, List.set_cons_zero, List.set_cons_succ]
                  refine' T_take (i := 6) (v := _) rfl (by kernel_rfl) (by kernel_rfl) (by kernel_rfl) (by kernel_rfl) (fun _ _ _ h => h) (by kernel_rfl) hS ?_ ?_
                  rotate_left 1
                  · intro Wv hW
                    obtain ⟨s0, s1⟩ := hW
                    go_simp
                    first | done | with_reducible rfl
                  try simp only [Act.put, List.setIfInBounds_toArray, List.set_cons_zero, List.set_cons_succ]
                  refine' T_take (i := 7) (v := _) rfl (by kernel_rfl) (by kernel_rfl) (by kernel_rfl) (by kernel_rfl) (fun _ _ _ h => h) (by kernel_rfl) hS ?_ ?_
                  rotate_left 1
                  · intro Wv hW
                    obtain ⟨s0, s1⟩ := hW
                    go_simp
                    first | done | with_reducible rfl
                  try simp only [Act.put, List.setIfInBounds_toArray, List.set_cons_zero, List.set_cons_succ]
                  refine' T_take (i := 8) (v := _) rfl (by kernel_rfl) (by kernel_rfl) (by kernel_rfl) (by kernel_rfl) (fun _ _ _ h => h) (by kernel_rfl) hS ?_ ?_
                  rotate_left 1
                  · intro Wv hW
                    obtain ⟨s0, s1⟩ := hW
                    go_simp
                    first | done | with_reducible rfl
                  try simp only [Act.put, List.setIfInBounds_toArray, List.set_cons_zero, List.set_cons_succ]
                  refine' T_take (i := 9) (v := _) rfl (by kernel_rfl) (by kernel_rfl) (by kernel_rfl) (by kernel_rfl) (fun _ _ _ h => h) (by kernel_rfl) hS ?_ ?_
                  rotate_left 1
                  · intro Wv hW
                    obtain ⟨s0, s1⟩ := hW
                    go_simp
                    first | done | with_reducible rfl
                  try simp only [Act.put, List.setIfInBounds_toArray, List.set_cons_zero, List.set_cons_succ]
                  refine' T_take (i := 10) (v := _) rfl (by kernel_rfl) (by kernel_rfl) (by kernel_rfl) (by kernel_rfl) (fun _ _ _ h => h) (by kernel_rfl) hS ?_ ?_
                  rotate_left 1
                  · intro Wv hW
                    obtain ⟨s0, s1⟩ := hW
                    go_simp
                    first | done | with_reducible rfl
                  try simp only [Act.put, List.setIfInBounds_toArray, List.set_cons_zero, List.set_cons_succ]
                  refine' T_take (i := 11) (v := _) rfl (by kernel_rfl) (by kernel_rfl) (by kernel_rfl) (by kernel_rfl) (fun _ _ _ h => h) (by kernel_rfl) hS ?_ ?_
                  rotate_left 1
                  · intro Wv hW
                    obtain ⟨s0, s1⟩ := hW
                    go_simp
                    first | done | with_reducible rfl
                  try simp only [Act.put, List.setIfInBounds_toArray, List.set_cons_zero, List.set_cons_succ]
                  refine' T_take (i := 12) (v := _) rfl (by kernel_rfl) (by kernel_rfl) (by kernel_rfl) (by kernel_rfl) (fun _ _ _ h => h) (by kernel_rfl) hS ?_ ?_
                  rotate_left 1
                  · intro Wv hW
                    obtain ⟨s0, s1⟩ := hW
                    go_simp
                    first | done | with_reducible rfl
                  try simp only [Act.put, List.setIfInBounds_toArray, List.set_cons_zero, List.set_cons_succ]
                  refine' T_take (i := 13) (v := _) rfl (by kernel_rfl) (by kernel_rfl) (by kernel_rfl) (by kernel_rfl) (fun _ _ _ h => h) (by kernel_rfl) hS ?_ ?_
                  rotate_left 1
                  · intro Wv hW
                    obtain ⟨s0, s1⟩ := hW
                    go_simp
                    first | done | with_reducible rfl
                  try simp only [Act.put, List.setIfInBounds_toArray, List.set_cons_zero, List.set_cons_succ]
                  refine' T_take (i := 14) (v := _) rfl (by kernel_rfl) (by kernel_rfl) (by kernel_rfl) (by kernel_rfl) (fun _ _ _ h => h) (by kernel_rfl) hS ?_ ?_
                  rotate_left 1
                  · intro Wv hW
                    obtain ⟨s0, s1⟩ := hW
                    go_simp
                    first | done | with_reducible rfl
                  try simp only [Act.put, List.setIfInBounds_toArray, List.set_cons_zero, List.set_cons_succ]
                  refine' T_take (i := 15) (v := _) rfl (by kernel_rfl) (by kernel_rfl) (by kernel_rfl) (by kernel_rfl) (fun _ _ _ h => h) (by kernel_rfl) hS ?_ ?_
                  rotate_left 1
                  · intro Wv hW
                    obtain ⟨s0, s1⟩ := hW
                    go_simp
                    first | done | with_reducible rfl
                  try simp only [Act.put, List.setIfInBounds_toArray, List.set_cons_zero, List.set_cons_succ]
                  refine' T_take (i := 16) (v := _) rfl (by kernel_rfl) (by kernel_rfl) (by kernel_rfl) (by kernel_rfl) (fun _ _ _ h => h) (by kernel_rfl) hS ?_ ?_
                  rotate_left 1
                  · intro Wv hW
                    obtain ⟨s0, s1⟩ := hW
                    go_simp
                    first | done | with_reducible rfl
                  try simp only [Act.put, List.setIfInBounds_toArray, List.set_cons_zero, List.set_cons_succ]
                  refine' T_take (i := 17) (v := _) rfl (by kernel_rfl) (by kernel_rfl) (by kernel_rfl) (by kernel_rfl) (fun _ _ _ h => h) (by kernel_rfl) hS ?_ ?_
                  rotate_left 1
                  · intro Wv hW
                    obtain ⟨s0, s1⟩ := hW
                    go_simp
                    first | done | with_reducible rfl
                  try simp only [Act.put, List.setIfInBounds_toArray, List.set_cons_zero, List.set_cons_succ]
                  refine' T_take (i := 18) (v := _) rfl (by kernel_rfl) (by kernel_rfl) (by kernel_rfl) (by kernel_rfl) (fun _ _ _ h => h) (by kernel_rfl) hS ?_ ?_
                  rotate_left 1
                  · intro Wv hW
                    obtain ⟨s0, s1⟩ := hW
                    go_simp
                    first | done | with_reducible rfl
                  try simp only [Act.put, List.setIfInBounds_toArray, List.set_cons_zero, List.set_cons_succ]
                  refine' T_take (i := 19) (v := _) rfl (by kernel_rfl) (by kernel_rfl) (by kernel_rfl) (by kernel_rfl) (fun _ _ _ h => h) (by kernel_rfl) hS ?_ ?_
                  rotate_left 1
                  · intro Wv hW
                    obtain ⟨s0, s1⟩ := hW
                    go_simp
                    first | done | with_reducible rfl
                  try simp only [Act.put, List.setIfInBounds_toArray, List.set_cons_zero, List.set_cons_succ]
                  refine' T_take (i := 20) (v := _) rfl (by kernel_rfl) (by kernel_rfl) (by kernel_rfl) (by kernel_rfl) (fun _ _ _ h => h) (by kernel_rfl) hS ?_ ?_
                  rotate_left 1
                  · intro Wv hW
                    obtain ⟨s0, s1⟩ := hW
                    go_simp
                    first | done | with_reducible rfl
                  try simp only [Act.put, List.setIfInBounds_toArray, List.set_cons_zero, List.set_cons_succ]
                  refine T_ready (rs := [21]) (by kernel_rfl) (by simp) ?_
                  refine TReady.cons rfl (fun K hK => ?_) TReady.nil
                  have p3d : ∀ o, w38.drew.frozen? ⟨gN, o, none⟩ = false := p3
                  have p2d : w38.drew.cell? ⟨gN, r, none⟩ = some (.int .i64 y) := p2
                  go_simp
                  refine hK.out _ _ (fun h => absurd h (by decide)) (fun _ => ?_)
                  clear hK K
                  try simp only [Act.put, List.setIfInBounds_toArray, List.set_cons_zero, List.set_cons_succ]
                  refine T_done (by kernel_rfl) ?_ _
                  refine NoPanic.normal ?_
                  generalize hvv : (if IntKind.i64.wrap (y + 1 + (IntKind.i64.wrap (m : Int)).tmod 4) < 100 then IntKind.i64.wrap (y + 1 + (IntKind.i64.wrap (m : Int)).tmod 4) else 100) = v
                  have zz : IntKind.i64.wrap (m : Int) = (m : Int) := IntWalk.i64_in _ (by omega)
                  rw [zz, Int.tmod_eq_emod_of_nonneg (Int.natCast_nonneg m), z2] at hvv
                  have hyv : ix (lx ls k).2 r ≤ v := by rw [← HY.out, ← hvv]; split <;> omega
                  have hrn : r < (lx ls k).2.length := by rw [HNDL.out]; exact hr
                  have HO39 := Lib.hid ((HO38.out.far (a := ⟨gN, r, none⟩) (by dsimp only; omega) (.int .i64 v)).drew)
                  have HI39 := Lib.hid ((HI38.out.set hrn v).drew)
                  have hz36 := HB36.out.size
                  have hb : Below w35.heap.size w35 (w38.setCell ⟨gN, r, none⟩ (.int .i64 v)).drew := (HB38.out.setCell (by dsimp only; omega) _).drew
                  have HLN9 := Lib.hid (need_lns HIN.out hb hb.size hk HO39.out hc9 HI39.out)
                  have HNP : Hid (provePlan xss lo hi ca (needL ls k r v) plan = true → provePlan xss lo hi ca ls plan = true) := fun h => prove_mono HBE.out (Int.le_refl _) (Int.le_refl _) (needL_len ls k r v) (fun j _ => needL_ge hk hyv j) h
                  have HFN := Lib.hid (few_needL (r := r) (v := v) hk HF.out)
                  have HNL := Lib.hid (needL_len ls k r v)
                  clear p1 p2 p3 k0b HO38 HI38 HB38 HB37 HB36 HO36 HO39 HI39 HIN HS HOW HON h63 hby z37 f37 z1 z2 zz hvv hyv hrn hry hz36 hS p3d p2d
                  replace HX := Lib.hid (HX.out.step hb)
                  replace HBs := Lib.hid (HBs.out.step hb)
                  replace HL := Lib.hid (HL.out.step hb)
                  replace HP := Lib.hid (HP.out.step hb)
                  replace k0 := cell_of_ans hb k0
                  replace k1 := cell_of_ans hb k1
                  replace k2 := cell_of_ans hb k2
                  replace k3 := cell_of_ans hb k3
                  replace m0 := cell_of_ans hb m0
                  replace m1 := cell_of_ans hb m1
                  replace m2 := cell_of_ans hb m2
                  replace m3 := cell_of_ans hb m3
                  replace HI1 := Lib.hid (HI1.out.step hb)
                  replace HI2 := Lib.hid (HI2.out.step hb)
                  replace j0 := cell_of_ans hb j0
                  replace j1 := cell_of_ans hb j1
                  replace HB := Lib.hid (HB.out.trans (hb.mono HB.out.size))
                  clear hb
                  generalize (w38.setCell ⟨gN, r, none⟩ (.int .i64 v)).drew = w39 at *
                  generalize needL ls k r v = ln at *
                  go_wp2_with fail
                  refine (lane_c _ xss c lo hi ca _ (Nat.le_refl _) HX.out (small_lane HLE.out).1 (small_lane HLE.out).2).mono ?_
                  rintro e w40 ⟨B40, d40, rfl, hd40, e40, hb⟩
                  replace HX := Lib.hid (HX.out.step hb)
                  replace HBs := Lib.hid (HBs.out.step hb)
                  replace HL := Lib.hid (HL.out.step hb)
                  replace HP := Lib.hid (HP.out.step hb)
                  replace k0 := cell_of_ans hb k0
                  replace k1 := cell_of_ans hb k1
                  replace k2 := cell_of_ans hb k2
                  replace k3 := cell_of_ans hb k3
                  replace m0 := cell_of_ans hb m0
                  replace m1 := cell_of_ans hb m1
                  replace m2 := cell_of_ans hb m2
                  replace m3 := cell_of_ans hb m3
                  replace HI1 := Lib.hid (HI1.out.step hb)
                  replace HI2 := Lib.hid (HI2.out.step hb)
                  replace j0 := cell_of_ans hb j0
                  replace j1 := cell_of_ans hb j1
                  replace HLN9 := Lib.hid (HLN9.out.step hb)
                  replace HB := Lib.hid (HB.out.trans (hb.mono HB.out.size))
                  clear hb
                  have He40 := Lib.hid e40
                  clear e40
                  go_wp2_with fail
                  refine (block42m_c (some ⟨g, 0, none⟩) ln ls.length cap _ HNL.out HLN9.out HFN.out hcap).mono ?_
                  rintro e w41 ⟨B41, d41, rfl, hd41, e41, hb⟩
                  replace HX := Lib.hid (HX.out.step hb)
                  replace HBs := Lib.hid (HBs.out.step hb)
                  replace HL := Lib.hid (HL.out.step hb)
                  replace HP := Lib.hid (HP.out.step hb)
                  replace k0 := cell_of_ans hb k0
                  replace k1 := cell_of_ans hb k1
                  replace k2 := cell_of_ans hb k2
                  replace k3 := cell_of_ans hb k3
                  replace m0 := cell_of_ans hb m0
                  replace m1 := cell_of_ans hb m1
                  replace m2 := cell_of_ans hb m2
                  replace m3 := cell_of_ans hb m3
                  replace HI1 := Lib.hid (HI1.out.step hb)
                  replace HI2 := Lib.hid (HI2.out.step hb)
                  replace j0 := cell_of_ans hb j0
                  replace j1 := cell_of_ans hb j1
                  replace HLN9 := Lib.hid (HLN9.out.step hb)
                  replace He40 := Lib.hid (He40.out.step hb)
                  replace HB := Lib.hid (HB.out.trans (hb.mono HB.out.size))
                  clear hb
                  have He41 := Lib.hid e41
                  clear e41
                  go_wp2_with fail
                  refine (listI_c Ap plan cp _ HP.out (by omega)).mono ?_
                  rintro e w42 ⟨B42, d42, rfl, hd42, e42, hb⟩
                  replace HX := Lib.hid (HX.out.step hb)
                  replace HBs := Lib.hid (HBs.out.step hb)
                  replace HL := Lib.hid (HL.out.step hb)
                  replace HP := Lib.hid (HP.out.step hb)
                  replace k0 := cell_of_ans hb k0
                  replace k1 := cell_of_ans hb k1
                  replace k2 := cell_of_ans hb k2
                  replace k3 := cell_of_ans hb k3
                  replace m0 := cell_of_ans hb m0
                  replace m1 := cell_of_ans hb m1
                  replace m2 := cell_of_ans hb m2
                  replace m3 := cell_of_ans hb m3
                  replace HI1 := Lib.hid (HI1.out.step hb)
                  replace HI2 := Lib.hid (HI2.out.step hb)
                  replace j0 := cell_of_ans hb j0
                  replace j1 := cell_of_ans hb j1
                  replace HLN9 := Lib.hid (HLN9.out.step hb)
                  replace He40 := Lib.hid (He40.out.step hb)
                  replace He41 := Lib.hid (He41.out.step hb)
                  replace HB := Lib.hid (HB.out.trans (hb.mono HB.out.size))
                  clear hb
                  have He42 := Lib.hid e42
                  clear e42
                  cases hpn : provePlan xss lo hi ca ln plan
                  · have HPN := Lib.hid hpn
                    clear hpn HNP
                    go_wp2_with fail
                    refine (provePlan_c B40 B41 B42 xss ln plan d40 d41 d42 lo hi ca _ He40.out He41.out He42.out hd40 hd41 hd42 hpl30).mono ?_
                    rw [HPN.out]
                    rintro e w43 ⟨rfl, hb⟩
                    replace HX := Lib.hid (HX.out.step hb)
                    replace HBs := Lib.hid (HBs.out.step hb)
                    replace HL := Lib.hid (HL.out.step hb)
                    replace HP := Lib.hid (HP.out.step hb)
                    replace k0 := cell_of_ans hb k0
                    replace k1 := cell_of_ans hb k1
                    replace k2 := cell_of_ans hb k2
                    replace k3 := cell_of_ans hb k3
                    replace m0 := cell_of_ans hb m0
                    replace m1 := cell_of_ans hb m1
                    replace m2 := cell_of_ans hb m2
                    replace m3 := cell_of_ans hb m3
                    replace HI1 := Lib.hid (HI1.out.step hb)
                    replace HI2 := Lib.hid (HI2.out.step hb)
                    replace j0 := cell_of_ans hb j0
                    replace j1 := cell_of_ans hb j1
                    replace HLN9 := Lib.hid (HLN9.out.step hb)
                    replace He40 := Lib.hid (He40.out.step hb)
                    replace He41 := Lib.hid (He41.out.step hb)
                    replace He42 := Lib.hid (He42.out.step hb)
                    replace HB := Lib.hid (HB.out.trans (hb.mono HB.out.size))
                    clear hb
                    clear He40 He41 He42
                    clear hd40 hd41 hd42
                    have hnn : ((n2 : Nat) : Int) ≤ ((n1 : Nat) : Int) := by have := HLM.out; omega
                    go_wp2_with fail
                    refine (awake_c _).mono ?_
                    rintro e w48 ⟨rfl, hb⟩
                    replace HX := Lib.hid (HX.out.step hb)
                    replace HBs := Lib.hid (HBs.out.step hb)
                    replace HL := Lib.hid (HL.out.step hb)
                    replace HP := Lib.hid (HP.out.step hb)
                    replace k0 := cell_of_ans hb k0
                    replace k1 := cell_of_ans hb k1
                    replace k2 := cell_of_ans hb k2
                    replace k3 := cell_of_ans hb k3
                    replace m0 := cell_of_ans hb m0
                    replace m1 := cell_of_ans hb m1
                    replace m2 := cell_of_ans hb m2
                    replace m3 := cell_of_ans hb m3
                    replace HI1 := Lib.hid (HI1.out.step hb)
                    replace HI2 := Lib.hid (HI2.out.step hb)
                    replace j0 := cell_of_ans hb j0
                    replace j1 := cell_of_ans hb j1
                    replace HLN9 := Lib.hid (HLN9.out.step hb)
                    replace HB := Lib.hid (HB.out.trans (hb.mono HB.out.size))
                    clear hb
                    go_wp2_with fail
                    go_ret
                    exact ⟨rfl, HB.out⟩
                  · have HPN := Lib.hid hpn
                    have HPT := Lib.hid (HNP.out hpn)
                    clear hpn HNP
                    go_wp2_with fail
                    refine (provePlan_c B40 B41 B42 xss ln plan d40 d41 d42 lo hi ca _ He40.out He41.out He42.out hd40 hd41 hd42 hpl30).mono ?_
                    rw [HPN.out]
                    rintro e w43 ⟨rfl, hb⟩
                    replace HX := Lib.hid (HX.out.step hb)
                    replace HBs := Lib.hid (HBs.out.step hb)
                    replace HL := Lib.hid (HL.out.step hb)
                    replace HP := Lib.hid (HP.out.step hb)
                    replace k0 := cell_of_ans hb k0
                    replace k1 := cell_of_ans hb k1
                    replace k2 := cell_of_ans hb k2
                    replace k3 := cell_of_ans hb k3
                    replace m0 := cell_of_ans hb m0
                    replace m1 := cell_of_ans hb m1
                    replace m2 := cell_of_ans hb m2
                    replace m3 := cell_of_ans hb m3
                    replace HI1 := Lib.hid (HI1.out.step hb)
                    replace HI2 := Lib.hid (HI2.out.step hb)
                    replace j0 := cell_of_ans hb j0
                    replace j1 := cell_of_ans hb j1
                    replace HLN9 := Lib.hid (HLN9.out.step hb)
                    replace He40 := Lib.hid (He40.out.step hb)
                    replace He41 := Lib.hid (He41.out.step hb)
                    replace He42 := Lib.hid (He42.out.step hb)
                    replace HB := Lib.hid (HB.out.trans (hb.mono HB.out.size))
                    clear hb
                    clear He40 He41 He42
                    clear hd40 hd41 hd42
                    go_wp2_with fail
                    refine (lane_c _ xss c lo hi ca _ (Nat.le_refl _) HX.out (small_lane HLE.out).1 (small_lane HLE.out).2).mono ?_
                    rintro e w44 ⟨B44, d44, rfl, hd44, e44, hb⟩
                    replace HX := Lib.hid (HX.out.step hb)
                    replace HBs := Lib.hid (HBs.out.step hb)
                    replace HL := Lib.hid (HL.out.step hb)
                    replace HP := Lib.hid (HP.out.step hb)
                    replace k0 := cell_of_ans hb k0
                    replace k1 := cell_of_ans hb k1
                    replace k2 := cell_of_ans hb k2
                    replace k3 := cell_of_ans hb k3
                    replace m0 := cell_of_ans hb m0
                    replace m1 := cell_of_ans hb m1
                    replace m2 := cell_of_ans hb m2
                    replace m3 := cell_of_ans hb m3
                    replace HI1 := Lib.hid (HI1.out.step hb)
                    replace HI2 := Lib.hid (HI2.out.step hb)
                    replace j0 := cell_of_ans hb j0
                    replace j1 := cell_of_ans hb j1
                    replace HLN9 := Lib.hid (HLN9.out.step hb)
                    replace HB := Lib.hid (HB.out.trans (hb.mono HB.out.size))
                    clear hb
                    have He44 := Lib.hid e44
                    clear e44
                    go_wp2_with fail
                    refine (block42_c _ ls c' _ HL.out HF.out hc').mono ?_
                    rintro e w45 ⟨B45, d45, rfl, hd45, e45, hb⟩
                    replace HX := Lib.hid (HX.out.step hb)
                    replace HBs := Lib.hid (HBs.out.step hb)
                    replace HL := Lib.hid (HL.out.step hb)
                    replace HP := Lib.hid (HP.out.step hb)
                    replace k0 := cell_of_ans hb k0
                    replace k1 := cell_of_ans hb k1
                    replace k2 := cell_of_ans hb k2
                    replace k3 := cell_of_ans hb k3
                    replace m0 := cell_of_ans hb m0
                    replace m1 := cell_of_ans hb m1
                    replace m2 := cell_of_ans hb m2
                    replace m3 := cell_of_ans hb m3
                    replace HI1 := Lib.hid (HI1.out.step hb)
                    replace HI2 := Lib.hid (HI2.out.step hb)
                    replace j0 := cell_of_ans hb j0
                    replace j1 := cell_of_ans hb j1
                    replace HLN9 := Lib.hid (HLN9.out.step hb)
                    replace He44 := Lib.hid (He44.out.step hb)
                    replace HB := Lib.hid (HB.out.trans (hb.mono HB.out.size))
                    clear hb
                    have He45 := Lib.hid e45
                    clear e45
                    go_wp2_with fail
                    refine (listI_c Ap plan cp _ HP.out (by omega)).mono ?_
                    rintro e w46 ⟨B46, d46, rfl, hd46, e46, hb⟩
                    replace HX := Lib.hid (HX.out.step hb)
                    replace HBs := Lib.hid (HBs.out.step hb)
                    replace HL := Lib.hid (HL.out.step hb)
                    replace HP := Lib.hid (HP.out.step hb)
                    replace k0 := cell_of_ans hb k0
                    replace k1 := cell_of_ans hb k1
                    replace k2 := cell_of_ans hb k2
                    replace k3 := cell_of_ans hb k3
                    replace m0 := cell_of_ans hb m0
                    replace m1 := cell_of_ans hb m1
                    replace m2 := cell_of_ans hb m2
                    replace m3 := cell_of_ans hb m3
                    replace HI1 := Lib.hid (HI1.out.step hb)
                    replace HI2 := Lib.hid (HI2.out.step hb)
                    replace j0 := cell_of_ans hb j0
                    replace j1 := cell_of_ans hb j1
                    replace HLN9 := Lib.hid (HLN9.out.step hb)
                    replace He44 := Lib.hid (He44.out.step hb)
                    replace He45 := Lib.hid (He45.out.step hb)
                    replace HB := Lib.hid (HB.out.trans (hb.mono HB.out.size))
                    clear hb
                    have He46 := Lib.hid e46
                    clear e46
                    go_wp2_with fail
                    refine (provePlan_c B44 B45 B46 xss ls plan d44 d45 d46 lo hi ca _ He44.out He45.out He46.out hd44 hd45 hd46 hpl30).mono ?_
                    rw [HPT.out]
                    rintro e w47 ⟨rfl, hb⟩
                    replace HX := Lib.hid (HX.out.step hb)
                    replace HBs := Lib.hid (HBs.out.step hb)
                    replace HL := Lib.hid (HL.out.step hb)
                    replace HP := Lib.hid (HP.out.step hb)
                    replace k0 := cell_of_ans hb k0
                    replace k1 := cell_of_ans hb k1
                    replace k2 := cell_of_ans hb k2
                    replace k3 := cell_of_ans hb k3
                    replace m0 := cell_of_ans hb m0
                    replace m1 := cell_of_ans hb m1
                    replace m2 := cell_of_ans hb m2
                    replace m3 := cell_of_ans hb m3
                    replace HI1 := Lib.hid (HI1.out.step hb)
                    replace HI2 := Lib.hid (HI2.out.step hb)
                    replace j0 := cell_of_ans hb j0
                    replace j1 := cell_of_ans hb j1
                    replace HLN9 := Lib.hid (HLN9.out.step hb)
                    replace He44 := Lib.hid (He44.out.step hb)
                    replace He45 := Lib.hid (He45.out.step hb)
                    replace He46 := Lib.hid (He46.out.step hb)
                    replace HB := Lib.hid (HB.out.trans (hb.mono HB.out.size))
                    clear hb
                    clear He44 He45 He46
                    clear hd44 hd45 hd46
                    have hnn : ((n2 : Nat) : Int) ≤ ((n1 : Nat) : Int) := by have := HLM.out; omega
                    go_wp2_with fail
                    refine (awake_c _).mono ?_
                    rintro e w48 ⟨rfl, hb⟩
                    replace HX := Lib.hid (HX.out.step hb)
                    replace HBs := Lib.hid (HBs.out.step hb)
                    replace HL := Lib.hid (HL.out.step hb)
                    replace HP := Lib.hid (HP.out.step hb)
                    replace k0 := cell_of_ans hb k0
                    replace k1 := cell_of_ans hb k1
                    replace k2 := cell_of_ans hb k2
                    replace k3 := cell_of_ans hb k3
                    replace m0 := cell_of_ans hb m0
                    replace m1 := cell_of_ans hb m1
                    replace m2 := cell_of_ans hb m2
                    replace m3 := cell_of_ans hb m3
                    replace HI1 := Lib.hid (HI1.out.step hb)
                    replace HI2 := Lib.hid (HI2.out.step hb)
                    replace j0 := cell_of_ans hb j0
                    replace j1 := cell_of_ans hb j1
                    replace HLN9 := Lib.hid (HLN9.out.step hb)
                    replace HB := Lib.hid (HB.out.trans (hb.mono HB.out.size))
                    clear hb
                    go_wp2_with fail
                    go_ret
                    exact ⟨rfl, HB.out⟩
end Go.Proofs.Ytgnonfomlgkpcaa
