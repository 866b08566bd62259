/-
  The reference's Games: the balls of a frame that fit.
-/
import Derived.Test.YtadjkinpimmhkaaFrames
import Derived.Test.YtadjkinpimmhkaaOnly
import Derived.Test.YtadjkinpimmhkaaRt
namespace Go.Proofs.Ytadjkinpimmhkaa
open Go.RowKit
set_option linter.unusedSimpArgs false
set_option linter.unusedVariables false

theorem Rws.vlt {base : Nat} {w : World} {v : Value} {n : Nat} {vs : List Value} {rows : Nat → List Int} (h : Rws base w v n vs rows) {i : Nat} (e : v.ownBlock = some i) : base ≤ i ∧ i < w.heap.size := h.1.lt i e
theorem Rws.ult {base : Nat} {w : World} {v : Value} {n : Nat} {vs : List Value} {rows : Nat → List Int} (h : Rws base w v n vs rows) {u : Value} (hu : u ∈ vs) {i : Nat} (e : u.ownBlock = some i) : base ≤ i ∧ i < w.heap.size := by
  obtain ⟨j, hj, rfl⟩ := List.getElem_of_mem hu
  obtain ⟨u', h1, h2, -⟩ := h.2.1 j (by rw [← h.len]; exact hj)
  rw [List.getElem?_eq_getElem hj] at h1
  injection h1 with h1
  subst h1
  exact World.ownsRow.lt h2 i e
def RNe (g : Nat) (v : Value) (vs : List Value) : Prop := v.ownBlock ≠ some g ∧ ∀ u ∈ vs, u.ownBlock ≠ some g
theorem Rws.ne_ge {base g : Nat} {w : World} {v : Value} {n : Nat} {vs : List Value} {rows : Nat → List Int} (h : Rws base w v n vs rows) (hg : w.heap.size ≤ g) : RNe g v vs :=
  ⟨fun e => by have := (h.vlt e).2; omega, fun u hu e => by have := (h.ult hu e).2; omega⟩
theorem Rws.ne_lt {base g : Nat} {w : World} {v : Value} {n : Nat} {vs : List Value} {rows : Nat → List Int} (h : Rws base w v n vs rows) (hg : g < base) : RNe g v vs :=
  ⟨fun e => by have := (h.vlt e).1; omega, fun u hu e => by have := (h.ult hu e).1; omega⟩
theorem own_ne_ge {base g : Nat} {w : World} {e : TypeId} {u : Value} {ws : List Wd} (h : OwnW e base w u ws) (hg : w.heap.size ≤ g) : u.ownBlock ≠ some g := fun e => by have := (World.ownsRow.lt h g e).2; omega
theorem own_ne_lt {base g : Nat} {w : World} {e : TypeId} {u : Value} {ws : List Wd} (h : OwnW e base w u ws) (hg : g < base) : u.ownBlock ≠ some g := fun e => by have := (World.ownsRow.lt h g e).1; omega
/-- Rows, each anywhere below B; the list of them is one's own. -/
def Gws (B base : Nat) (w : World) (v : Value) (vs : List Value) (rows : List (List Int)) : Prop :=
  w.ownsRow base 25 1 v rows.length vs ∧ ∀ j, j < rows.length → ∃ u, vs[j]? = some u ∧ IsInts B w u (rx rows j)
theorem Gws.nil (B base : Nat) (w : World) : Gws B base w (.slice none 0 0) [] [] := ⟨World.ownsRow_nil _ _ _ _, fun j hj => by cases hj⟩
theorem Gws.push {B base : Nat} {w w1 w2 : World} {v v' u : Value} {vs : List Value} {rows : List (List Int)} {x : List Int} (h : Gws B base w v vs rows) (hB : B ≤ base) (hb0 : base ≤ w.heap.size) (hb : Below w.heap.size w w1) (hu : IsInts B w1 u x) (a : AppR base w1 v rows.length vs u w2 v') :
    Gws B base w2 v' (vs ++ [u]) (rows ++ [x]) ∧ Below base w w2 := by
  have hs := hb.size
  have hb2 : Below base (w1.alloc (.cells #[u] 25)) w2 := ⟨a.grw.os, a.grw.tape, a.grw.output, a.grw.size, fun i hi => a.grw.block i (by simp; omega) (fun e => by have := (h.1.lt i e.symm).1; omega)⟩
  have hb1 : Below base w1 w2 := ((Below.refl base w1).alloc (by omega) _).trans hb2
  have hlen : vs.length = rows.length := by have := h.1.1; omega
  refine ⟨⟨by simpa using a.own, fun j hj => ?_⟩, (hb.mono hb0).trans hb1⟩
  by_cases e : j = rows.length
  · subst e
    refine ⟨u, by rw [List.getElem?_append_right (by omega)]; simp [hlen], ?_⟩
    rw [rx_snoc]
    exact hu.below (hb1.mono hB)
  · have hj2 : j < rows.length := by simp at hj; omega
    obtain ⟨u', h1, h2⟩ := h.2 j hj2
    refine ⟨u', by rw [List.getElem?_append_left (by omega)]; exact h1, ?_⟩
    rw [rx_keep hj2]
    exact h2.below (((hb.mono hb0).trans hb1).mono hB)
theorem Gws.kept {B base : Nat} {w w' : World} {v : Value} {vs : List Value} {rows : List (List Int)} (h : Gws B base w v vs rows) (hb : Below w.heap.size w w') (hB : B ≤ w.heap.size) : Gws B base w' v vs rows :=
  ⟨h.1.kept (only_below hb none) (own_ne v), fun j hj => by
    obtain ⟨u, h1, h2⟩ := h.2 j hj
    exact ⟨u, h1, h2.below (hb.mono hB)⟩⟩
theorem Gws.grd {B base : Nat} {w : World} {A : Option Addr} {n c : Nat} {vs : List Value} {rows : List (List Int)} (h : Gws B base w (.slice A n c) vs rows) (hB : B ≤ w.heap.size) : rows.length ≤ c ∧ c ≤ 9223372036854775807 ∧ Grd w.heap.size w A rows := by
  rcases h.1.2 with ⟨e, h0⟩ | ⟨g, cap, cur, e, hb, hg, hn, hm, hs, ht⟩
  · injection e with e1 e2 e3
    subst e1 e3
    exact ⟨by omega, by omega, fun hp => by omega⟩
  · injection e with e1 e2 e3
    subst e1 e3
    refine ⟨hn, by unfold maxLen at hm; omega, fun hp => ⟨g, 0, rfl, (Array.getElem?_eq_some_iff.1 hg).1, fun k hk => ?_⟩⟩
    obtain ⟨u, h1, h2⟩ := h.2 k hk
    refine ⟨u, ?_, h2.more hB⟩
    have := h.1.cells (g := g) rfl k u h1
    rwa [add_eq] at this
/-- As run_app_row, at an operation of a walk. -/
theorem wpList_row {ops : Array Oper} {rest : List Oper} {o : Oper} {a : Act} {Q : Exit → Act → World → Prop} (s x : Operand) (hgd : o.guard = none) (ho : o.op = .call { callee := .builtin .append, args := #[s, x], argTypes := #[66, 66] })
    (base : Nat) (w : World) (v : Value) (n : Nat) (vs : List Value) (u : Value) (hv : a.eval s = v) (hx : a.eval x = .slice (some ⟨w.heap.size, 0, none⟩) 1 1) (hown : w.ownsRow base 25 1 v n vs) (h1 : ∀ x ∈ [u], x.oneCell' = true) (hl : n ≤ 1000000) (hb : base ≤ w.heap.size)
    (h : ∀ v' w', Hid (AppR base w v n vs u w' v') → wpList Try.prog ops Q rest (a.put o.dst v') w') : wpList Try.prog ops Q (o :: rest) a (w.alloc (.cells #[u] 25)) := by
  refine wpList_plain hgd fun K hK => ?_
  obtain ⟨v', w', hr, hA⟩ := run_app_row (base := base) o.type hown h1 hl hb
  unfold Oper.wp execOp
  simp only [ho, resolve, invoke, builtin, Sem.run_bind, Sem.run_pure, Result.andThen_ok, List.map_toArray, List.map_cons, List.map_nil, hv, hx, hr]
  exact hK _ _ (h v' w' hA)

theorem cell_new1 (W : World) (v : Value) (t : TypeId) : (W.alloc (.cells #[v] t)).cell? ⟨W.heap.size, 0, none⟩ = some v := by simp
noncomputable def fitF (ws : List Wd) (offl : List Int) (f : Int) (x : List Int) : Bool := fitG (onlyL ws f) offl [x]
noncomputable def gamesR (ws : List Wd) (offl : List Int) (f : Int) : List (List Int) := framesL.filter (fitF ws offl f)
theorem framesL_bd : framesL.all (fun x => x.all fun n => decide (0 ≤ n) && decide (n ≤ 10)) = true := by decide +kernel
theorem framesL_v {k : Nat} (hk : k < framesL.length) {j : Nat} (hj : j < (rx framesL k).length) : 0 ≤ ix (rx framesL k) j ∧ ix (rx framesL k) j ≤ 10 := by
  have h := framesL_bd
  rw [List.all_eq_true] at h
  have h1 := h (rx framesL k) (by rw [rx_lt hk]; exact List.getElem_mem _)
  rw [List.all_eq_true] at h1
  have h2 := h1 (ix (rx framesL k) j) (by rw [ix_lt hj]; exact List.getElem_mem _)
  simpa using h2
theorem framesL_len : framesL.length = 66 := by decide +kernel
theorem onlyL_wd {m : Nat} {ws : List Wd} (hok : ∀ k, k < ws.length → wordB (m : Int) (wx ws k) = true) (f : Int) : ∀ k, k < (onlyL ws f).length → 0 ≤ (wx (onlyL ws f) k).fr ∧ (wx (onlyL ws f) k).fr < 1 ∧ 0 ≤ (wx (onlyL ws f) k).ba ∧ (wx (onlyL ws f) k).ba ≤ 1 := by
  intro k hk
  rw [wx_lt hk]
  have h := List.getElem_mem hk
  simp only [onlyL, List.mem_map, List.mem_filter] at h
  obtain ⟨x, ⟨hx, _⟩, e⟩ := h
  obtain ⟨j, hj, e2⟩ := List.getElem_of_mem hx
  have hw := hok j hj
  rw [wx_lt hj, e2] at hw
  simp only [wordB, Bool.and_eq_true, inB_eq, decide_eq_true_eq] at hw
  rw [show (onlyL ws f)[k] = _ from e.symm]
  dsimp only
  omega
theorem filter_take_succ {α : Type} {p : α → Bool} {l : List α} {k : Nat} (h : k < l.length) : (l.take (k + 1)).filter p = (l.take k).filter p ++ (if p l[k] then [l[k]] else []) := by
  rw [List.take_add_one, List.getElem?_eq_getElem h, List.filter_append]
  cases hp : p l[k] <;> simp [hp]

set_option maxRecDepth 100000 in
set_option maxHeartbeats 16000000 in
theorem games60_c (A At : Option Addr) (ws : List Wd) (offl : List Int) (c ct m : Nat) (frn f : Int) (w : World) (hw : Wds w.heap.size w A ws) (ht : Ints w.heap.size w At offl) (hc : ws.length ≤ c ∧ c ≤ 9223372036854775807) (hct : offl.length ≤ ct ∧ ct ≤ 9223372036854775807) (hl : ws.length ≤ 1000000)
    (hok : ∀ k, k < ws.length → wordB (m : Int) (wx ws k) = true) :
    Calls Try.prog 60 #[.agg #[.int .i64 frn, .slice A ws.length c], .slice At offl.length ct, .int .i64 f] w (RowsPost w (gamesR ws offl f)) := by
  have hb0 : Below w.heap.size w (w.alloc (.cells #[.int .i64 frn, .slice A ws.length c] 24)) := (Below.refl _ _).alloc (Nat.le_refl _) _
  have s0 : (w.alloc (.cells #[.int .i64 frn, .slice A ws.length c] 24)).cell? ⟨w.heap.size, 0, none⟩ = some (.int .i64 frn) := by simp
  have s1 : (w.alloc (.cells #[.int .i64 frn, .slice A ws.length c] 24)).cell? ⟨w.heap.size, 1, none⟩ = some (.slice A ws.length c) := by simp
  have HWD := Lib.hid (onlyL_wd hok f)
  have HW := Lib.hid hw
  have HT := Lib.hid ht
  have HB := Lib.hid hb0
  clear hb0 hw ht hok
  go_enter Try.func60, Try.ntmps60
  go_wp2_with fail
  generalize w.alloc (.cells #[.int .i64 frn, .slice A ws.length c] 24) = W0 at s0 s1 HB ⊢
  replace HB : Hid (Below w.heap.size w W0.drew) := HB.out.drew
  replace s0 : W0.drew.cell? ⟨w.heap.size, 0, none⟩ = some (.int .i64 frn) := s0
  replace s1 : W0.drew.cell? ⟨w.heap.size, 1, none⟩ = some (.slice A ws.length c) := s1
  refine wp_region_noPanic ?_
  have hS : (fun w' : World => w'.cell? ⟨w.heap.size, 0, none⟩ = some (.int .i64 frn) ∧ w'.cell? ⟨w.heap.size, 1, none⟩ = some (.slice A ws.length c)) W0.drew := ⟨s0, s1⟩
  refine wp_region_any (by kernel_rfl) (wpAny_of_T (S := fun w' : World => w'.cell? ⟨w.heap.size, 0, none⟩ = some (.int .i64 frn) ∧ w'.cell? ⟨w.heap.size, 1, none⟩ = some (.slice A ws.length c)) (m := 7) _ _ _ _ ?_)
  refine' T_take (i := 1) (v := _) rfl (by kernel_rfl) (by kernel_rfl) (by kernel_rfl) (by kernel_rfl) (fun _ _ _ h => h) (by rfl) hS ?_ ?_
  rotate_left 1
  · intro Wv hW
    obtain ⟨s0, s1⟩ := hW
    go_simp
    first | done | with_reducible rfl
  try simp only [Act.put, List.setIfInBounds_toArray, List.set_cons_zero, List.set_cons_succ]
  refine' T_take (i := 2) (v := _) rfl (by kernel_rfl) (by kernel_rfl) (by kernel_rfl) (by kernel_rfl) (fun _ _ _ h => h) (by rfl) hS ?_ ?_
  rotate_left 1
  · intro Wv hW
    go_simp
    first | done | with_reducible rfl
  try simp only [Act.put, List.setIfInBounds_toArray, List.set_cons_zero, List.set_cons_succ]
  refine T_ready (rs := [0, 4]) (by kernel_rfl) (by simp) ?_
  refine TReady.cons rfl (fun K hK => ?_) (TReady.cons rfl (fun K hK => ?_) TReady.nil)
  · try go_simp
    refine (frames_c _).mono ?_
    rintro e v1 ⟨A1, c1, vs1, rfl, hR, hb⟩
    replace s0 := cell_of_ans hb s0
    replace s1 := cell_of_ans hb s1
    replace HB := Lib.hid (HB.out.trans (hb.mono HB.out.size))
    have HR := Lib.hid (hR.lower (Nat.zero_le _))
    clear hR hb
    try go_simp
    refine hK.out _ _ (fun _ => ⟨s0, s1⟩) (fun hS => ?_)
    replace hS := hS (by decide)
    clear hK K
    try simp only [Act.put, List.setIfInBounds_toArray, List.set_cons_zero, List.set_cons_succ]
    refine T_ready (rs := [3, 4]) (by kernel_rfl) (by simp) ?_
    refine TReady.cons rfl (fun K hK => ?_) (TReady.cons rfl (fun K hK => ?_) TReady.nil)
    · try go_simp
      refine (only_c A ws c frn f _ ((HW.out.below HB.out).more HB.out.size) hc hl).mono ?_
      rintro e v2 ⟨A2, c2, rfl, hO, hb⟩
      replace s0 := cell_of_ans hb s0
      replace s1 := cell_of_ans hb s1
      replace HR := Lib.hid (HR.out.kept hb)
      replace HB := Lib.hid (HB.out.trans (hb.mono HB.out.size))
      have HO : Hid (OwnW 56 0 v2 (.slice A2 (onlyL ws f).length c2) (onlyL ws f)) := ownsRow_base hO (Nat.zero_le _)
      clear hO hb
      try go_simp
      refine hK.out _ _ (fun _ => ⟨s0, s1⟩) (fun hS => ?_)
      replace hS := hS (by decide)
      clear hK K
      try simp only [Act.put, List.setIfInBounds_toArray, List.set_cons_zero, List.set_cons_succ]
      refine T_ready (rs := [4]) (by kernel_rfl) (by simp) ?_
      refine TReady.cons rfl (fun K hK => ?_) TReady.nil
      try go_simp
      have q0 := s0
      have HRq := HR
      have HOq := HO
      have hb : Below (v2).heap.size (v2) ((v2).alloc (.cells #[.int .i64 0, .slice none 0 0] 24)) := (Below.refl _ _).alloc (Nat.le_refl _) _
      replace s0 := cell_of_ans hb s0
      replace s1 := cell_of_ans hb s1
      replace HR := Lib.hid (HR.out.kept hb)
      replace HO := Lib.hid (World.ownsRow.kept HO.out (only_below hb none) (own_ne _))
      replace HB := Lib.hid (HB.out.trans (hb.mono HB.out.size))
      have HZ : Hid (((v2).alloc (.cells #[.int .i64 0, .slice none 0 0] 24)).heap[(v2).heap.size]? = some (.cells #[.int .i64 0, .slice none 0 0] 24 (0, 0))) := World.alloc_heap_new (v2) _
      have HZl : (v2).heap.size < ((v2).alloc (.cells #[.int .i64 0, .slice none 0 0] 24)).heap.size := by simp
      have HGw : w.heap.size < (v2).heap.size := World.block_lt_of_cell? (v2) _ q0
      have HNR := Lib.hid (HRq.out.ne_ge (Nat.le_refl _))
      have HNO := Lib.hid (own_ne_ge HOq.out (Nat.le_refl _))
      clear hb
      try go_simp
      refine hK.out _ _ (fun _ => ⟨s0, s1⟩) (fun hS => ?_)
      replace hS := hS (by decide)
      clear hK K
      try simp only [Act.put, List.setIfInBounds_toArray, List.set_cons_zero, List.set_cons_succ]
      refine' T_take (i := 5) (v := _) rfl (by kernel_rfl) (by kernel_rfl) (by kernel_rfl) (by kernel_rfl) (fun _ _ _ h => h) (by rfl) hS ?_ ?_
      rotate_left 1
      · intro Wv hW
        go_simp
        first | done | with_reducible rfl
      try simp only [Act.put, List.setIfInBounds_toArray, List.set_cons_zero, List.set_cons_succ]
      generalize (v2).heap.size = gz at *
      generalize (v2).alloc (.cells #[.int .i64 0, .slice none 0 0] 24) = WF at *
      have z0 : WF.cell? ⟨gz, 0, none⟩ = some (.int .i64 0) := by simp [World.cell?, HZ.out]
      have z1 : WF.cell? ⟨gz, 1, none⟩ = some (.slice none 0 0) := by simp [World.cell?, HZ.out]
      have z2 : WF.frozen? ⟨gz, 0, none⟩ = false := by simp [World.frozen?, HZ.out]
      have z3 : WF.frozen? ⟨gz, 1, none⟩ = false := by simp [World.frozen?, HZ.out]
      refine T_ready (rs := [6]) (by kernel_rfl) (by simp) ?_
      refine TReady.cons rfl (fun K hK => ?_) TReady.nil
      try go_simp
      have hne1 : (⟨gz, 0, none⟩ : Addr).block ≠ w.heap.size := by dsimp only; omega
      have hne2 : (⟨gz, 1, none⟩ : Addr).block ≠ w.heap.size := by dsimp only; omega
      refine hK.out _ _ (fun _ => ⟨cell_set_keep (cell_set_keep s0 hne1) hne2, cell_set_keep (cell_set_keep s1 hne1) hne2⟩) (fun hS => ?_)
      clear hS
      clear hK K
      try simp only [Act.put, List.setIfInBounds_toArray, List.set_cons_zero, List.set_cons_succ]
      refine T_done (by kernel_rfl) ?_ _
      refine NoPanic.normal ?_
      have hS2 : WF.grownBy ((WF.setCell ⟨gz, 0, none⟩ (.int .i64 1)).setCell ⟨gz, 1, none⟩ (.slice A2 (onlyL ws f).length c2)) (some gz) := sets2 _ _ _ _
      have HLB : Hid (LB ((WF.setCell ⟨gz, 0, none⟩ (.int .i64 1)).setCell ⟨gz, 1, none⟩ (.slice A2 (onlyL ws f).length c2)) gz 1 (.slice A2 (onlyL ws f).length c2) 24) := by
        show LB _ _ _ _ _
        unfold LB
        simp [World.setCell, Array.getElem?_modify, HZ.out]
      have hR2 := HR.out.keptBy hS2 (.inr HNR.out.1) fun u hu => .inr (HNR.out.2 u hu)
      obtain ⟨g1, g2, g3⟩ := grd_of (Rws.grd hR2)
      have HG := Lib.hid g3
      have hO2 : OwnW 56 0 ((WF.setCell ⟨gz, 0, none⟩ (.int .i64 1)).setCell ⟨gz, 1, none⟩ (.slice A2 (onlyL ws f).length c2)) (.slice A2 (onlyL ws f).length c2) (onlyL ws f) := World.ownsRow.kept HO.out hS2 (.inr HNO.out)
      obtain ⟨o1, o2, o3⟩ := hO2.wds
      have HOW := Lib.hid o3
      have HBS : Hid (Below w.heap.size w ((WF.setCell ⟨gz, 0, none⟩ (.int .i64 1)).setCell ⟨gz, 1, none⟩ (.slice A2 (onlyL ws f).length c2))) := (HB.out.setCell (by dsimp only; omega) _).setCell (by dsimp only; omega) _
      clear hS2 hR2 g3 hO2 o3 HR HO HNR HNO HZ z0 z1 z2 z3 s0 s1 HB
      generalize (WF.setCell ⟨gz, 0, none⟩ (.int .i64 1)).setCell ⟨gz, 1, none⟩ (.slice A2 (onlyL ws f).length c2) = W2 at *
      go_wp2_with fail
      go_loopw [10, 9] (fun i v wr => ∃ (k : Nat) (vs : List Value), k ≤ framesL.length ∧ i = .int .i64 k ∧ Gws W2.heap.size W2.heap.size wr v vs ((framesL.take k).filter (fitF ws offl f)) ∧ Below W2.heap.size W2 wr) (fun i _ _ => framesL.length - (intOf i).toNat)
      case atStart => exact ⟨0, [], by omega, rfl, Gws.nil _ _ _, Below.refl _ _⟩
      case round =>
        obtain ⟨k, vs, hk, rfl, hG, hb⟩ := hrel
        have HGk := Lib.hid hG
        have HBk := Lib.hid hb
        have hzk := hb.size
        obtain ⟨Av, cv, hv⟩ := ownsRow_form hG.1
        by_cases h1 : k < framesL.length
        · obtain ⟨b1, q1, A', c', hA1, hb1, hcell, hc1', hc2', hI⟩ := (HG.out.below hb).at_ h1
          subst hA1
          have h1i : (k : Int) < (framesL.length : Int) := by omega
          obtain ⟨l0, l1, -⟩ := (HLB.out.below hb).cells
          have HV : Hid (∀ j, j < (rx framesL k).length → 0 ≤ ix (rx framesL k) j ∧ ix (rx framesL k) j ≤ 10) := fun j hj => framesL_v h1 hj
          have HFS := Lib.hid (filter_take_succ (p := fitF ws offl f) h1)
          have HRX := Lib.hid (rx_lt h1)
          have HNL : Hid (((framesL.take k).filter (fitF ws offl f)).length ≤ 1000000) := by
            show _ ≤ _
            have h3 := List.length_filter_le (fitF ws offl f) (framesL.take k)
            rw [List.length_take] at h3
            have h4 := framesL_len
            omega
          have HFE : Hid (fitF ws offl f (rx framesL k) = fitG (onlyL ws f) offl [rx framesL k]) := rfl
          have HI := Lib.hid (hI.more hzk)
          have HI0 := Lib.hid hI
          rw [← HRX.out] at HFS
          generalize rx framesL k = x at *
          generalize hN : ((framesL.take k).filter (fitF ws offl f)).length = nn at hv
          subst hv
          have HFC : Hid (∀ Wc, Wc = wr.drew.alloc (.cells #[.slice A' x.length c'] 25) → Calls Try.prog 45 #[.agg #[.int .i64 1, .slice A2 (onlyL ws f).length c2], .slice At offl.length ct, .slice (some ⟨wr.heap.size, 0, none⟩) 1 1] Wc (Ans Wc (.bool (fitF ws offl f x)))) := fun Wc hWc => by
            rw [HFE.out]
            have hbd : Below wr.heap.size wr Wc := by rw [hWc]; exact (Below.refl _ _).drew.alloc (Nat.le_refl _) _
            have hbw : Below W2.heap.size W2 Wc := HBk.out.trans (hbd.mono hzk)
            refine fits45_c A2 At (some ⟨wr.heap.size, 0, none⟩) (onlyL ws f) offl [x] c2 ct 1 1 Wc (HOW.out.step hbw) ((HT.out.below (HBS.out.trans (hbw.mono HBS.out.size))).more (by have := HBS.out.size; have := hbw.size; omega)) ?_ ⟨o1, o2⟩ hct ⟨by simp, by simp⟩ (fun j hj => by have := HWD.out j hj; simp; omega) (fun f' hf' j hj => ?_)
            · refine fun _ => ⟨wr.heap.size, 0, rfl, by rw [hWc]; simp, fun j hj => ?_⟩
              obtain rfl : j = 0 := by simpa using hj
              refine ⟨.slice A' x.length c', by rw [hWc]; exact cell_new1 wr.drew _ _, ⟨A', c', rfl, hc1', hc2', (HI.out.below hbd).more (by have := hbd.size; omega)⟩⟩
            · obtain rfl : f' = 0 := by simpa using hf'
              exact HV.out j hj
          clear hG hb hI
          go_wp2_with fail
          refine wp_region_noPanic ?_
          have hS : (fun w' : World => w'.cell? ⟨gz, 0, none⟩ = some (.int .i64 1) ∧ w'.cell? ⟨gz, 1, none⟩ = some (.slice A2 (onlyL ws f).length c2) ∧ w'.cell? ⟨b1, q1 + k, none⟩ = some (.slice A' x.length c')) wr.drew := ⟨l0, l1, hcell⟩
          refine wp_region_any (by kernel_rfl) (wpAny_of_T (S := fun w' : World => w'.cell? ⟨gz, 0, none⟩ = some (.int .i64 1) ∧ w'.cell? ⟨gz, 1, none⟩ = some (.slice A2 (onlyL ws f).length c2) ∧ w'.cell? ⟨b1, q1 + k, none⟩ = some (.slice A' x.length c')) (m := 8) _ _ _ _ ?_)
          refine' T_take (i := 0) (v := _) rfl (by kernel_rfl) (by kernel_rfl) (by kernel_rfl) (by kernel_rfl) (fun _ _ _ h => h) (by rfl) hS ?_ ?_
          rotate_left 1
          · intro Wv hW
            obtain ⟨s0, s1, s2⟩ := hW
            go_simp
            first | done | with_reducible rfl
          try simp only [Act.put, List.setIfInBounds_toArray, List.set_cons_zero, List.set_cons_succ]
          refine' T_take (i := 1) (v := _) rfl (by kernel_rfl) (by kernel_rfl) (by kernel_rfl) (by kernel_rfl) (fun _ _ _ h => h) (by rfl) hS ?_ ?_
          rotate_left 1
          · intro Wv hW
            obtain ⟨s0, s1, s2⟩ := hW
            go_simp
            first | done | with_reducible rfl
          try simp only [Act.put, List.setIfInBounds_toArray, List.set_cons_zero, List.set_cons_succ]
          refine' T_take (i := 2) (v := _) rfl (by kernel_rfl) (by kernel_rfl) (by kernel_rfl) (by kernel_rfl) (fun _ _ _ h => h) (by rfl) hS ?_ ?_
          rotate_left 1
          · intro Wv hW
            obtain ⟨s0, s1, s2⟩ := hW
            go_simp
            first | done | with_reducible rfl
          try simp only [Act.put, List.setIfInBounds_toArray, List.set_cons_zero, List.set_cons_succ]
          refine' T_take (i := 3) (v := _) rfl (by kernel_rfl) (by kernel_rfl) (by kernel_rfl) (by kernel_rfl) (fun _ _ _ h => h) (by rfl) hS ?_ ?_
          rotate_left 1
          · intro Wv hW
            obtain ⟨s0, s1, s2⟩ := hW
            go_simp
            first | done | with_reducible rfl
          try simp only [Act.put, List.setIfInBounds_toArray, List.set_cons_zero, List.set_cons_succ]
          refine' T_take (i := 4) (v := _) rfl (by kernel_rfl) (by kernel_rfl) (by kernel_rfl) (by kernel_rfl) (fun _ _ _ h => h) (by rfl) hS ?_ ?_
          rotate_left 1
          · intro Wv hW
            obtain ⟨s0, s1, s2⟩ := hW
            go_simp
            first | done | with_reducible rfl
          try simp only [Act.put, List.setIfInBounds_toArray, List.set_cons_zero, List.set_cons_succ]
          refine' T_take (i := 5) (v := _) rfl (by kernel_rfl) (by kernel_rfl) (by kernel_rfl) (by kernel_rfl) (fun _ _ _ h => h) (by rfl) hS ?_ ?_
          rotate_left 1
          · intro Wv hW
            obtain ⟨s0, s1, s2⟩ := hW
            go_simp
            first | done | with_reducible rfl
          try simp only [Act.put, List.setIfInBounds_toArray, List.set_cons_zero, List.set_cons_succ]
          refine T_ready (rs := [6]) (by kernel_rfl) (by simp) ?_
          refine TReady.cons rfl (fun K hK => ?_) TReady.nil
          try go_simp
          refine hK.out _ _ (fun _ => ⟨cell_alloc_keep _ l0, cell_alloc_keep _ l1, cell_alloc_keep _ hcell⟩) (fun hS => ?_)
          replace hS := hS (by decide)
          clear hK K
          try simp only [Act.put, List.setIfInBounds_toArray, List.set_cons_zero, List.set_cons_succ]
          refine T_ready (rs := [7]) (by kernel_rfl) (by simp) ?_
          refine TReady.cons rfl (fun K hK => ?_) TReady.nil
          try go_simp
          refine (HFC.out _ rfl).mono ?_
          rintro e w3 ⟨rfl, hb3⟩
          have t0 := cell_of_ans hb3 (cell_alloc_keep _ l0)
          have t1 := cell_of_ans hb3 (cell_alloc_keep _ l1)
          have t2 := cell_of_ans hb3 (cell_alloc_keep _ hcell)
          have HB3 : Hid (Below wr.heap.size wr w3) := ((Below.refl _ _).drew.alloc (Nat.le_refl _) _).trans (hb3.mono (by simp))
          clear hb3
          try go_simp
          refine hK.out _ _ (fun _ => ⟨t0, t1, t2⟩) (fun _ => ?_)
          clear hK K
          try simp only [Act.put, List.setIfInBounds_toArray, List.set_cons_zero, List.set_cons_succ]
          refine T_done (by kernel_rfl) ?_ _
          refine NoPanic.normal ?_
          clear hS
          cases hfx : fitF ws offl f x
          · have HFN : Hid ((framesL.take (k + 1)).filter (fitF ws offl f) = (framesL.take k).filter (fitF ws offl f)) := by show _ = _; rw [HFS.out, hfx]; simp
            clear hfx
            go_wp2_with fail
            go_roundw
            case rel => exact ⟨k + 1, vs, by omega, by go_num, by rw [HFN.out]; exact HGk.out.kept HB3.out hzk, HBk.out.trans (HB3.out.mono hzk)⟩
            case measure => simp [intOf]; omega
          · have HFN : Hid ((framesL.take (k + 1)).filter (fitF ws offl f) = (framesL.take k).filter (fitF ws offl f) ++ [x]) := by show _ = _; rw [HFS.out, hfx]; simp
            have HOwn : Hid (w3.ownsRow W2.heap.size 25 1 (.slice Av nn cv) nn vs) := by
              have h5 := (HGk.out.kept HB3.out hzk).1
              rw [hN] at h5
              exact h5
            have hz3 : W2.heap.size ≤ w3.heap.size := Nat.le_trans hzk HB3.out.size
            have hnn : nn ≤ 1000000 := by rw [← hN]; exact HNL.out
            clear hfx
            go_wp2_with (at_builtin; refine wpList_row (.tmp 29) (.tmp 34) rfl rfl W2.heap.size w3 (.slice Av nn cv) nn vs (.slice A' x.length c') rfl rfl HOwn.out (by intro y hy; simp at hy; subst hy; rfl) hnn hz3 ?_; intro v' w4 HA)
            obtain ⟨A5, c5, rfl⟩ := ownsRow_form HA.out.own
            go_wp2_with fail
            go_roundw
            case rel =>
              subst hN
              have hgk := HGk.out
              obtain ⟨r1, r2⟩ := Gws.push hgk (Nat.le_refl _) hzk HB3.out (u := .slice A' x.length c') (x := x) ⟨A', c', rfl, hc1', hc2', HI0.out.below (HB3.out.mono hzk)⟩ HA.out
              exact ⟨k + 1, _, by omega, by go_num, by rw [HFN.out]; exact r1, HBk.out.trans r2⟩
            case measure => simp [intOf]; omega
        · obtain rfl : k = framesL.length := by omega
          have h1i : ¬ (framesL.length : Int) < (framesL.length : Int) := by omega
          rw [List.take_length] at hG
          rw [List.take_length] at hv
          have HGR : Hid (gamesR ws offl f = framesL.filter (fitF ws offl f)) := rfl
          have hG2 := hG
          rw [hv] at hG2
          generalize hN : (framesL.filter (fitF ws offl f)).length = nn at hv
          subst hv
          go_wp2_with fail
          go_ret
          obtain ⟨r1, r2, r3⟩ := hG2.grd hzk
          refine ⟨Av, cv, by rw [HGR.out, hN]; rfl, ?_, ?_, HBS.out.trans (HBk.out.mono HBS.out.size)⟩
          · rw [HGR.out]; exact ⟨r1, r2⟩
          · rw [HGR.out]; exact r3
    · try go_simp
      have q0 := s0
      have HRq := HR
      have hb : Below (v1).heap.size (v1) ((v1).alloc (.cells #[.int .i64 0, .slice none 0 0] 24)) := (Below.refl _ _).alloc (Nat.le_refl _) _
      replace s0 := cell_of_ans hb s0
      replace s1 := cell_of_ans hb s1
      replace HR := Lib.hid (HR.out.kept hb)
      replace HB := Lib.hid (HB.out.trans (hb.mono HB.out.size))
      have HZ : Hid (((v1).alloc (.cells #[.int .i64 0, .slice none 0 0] 24)).heap[(v1).heap.size]? = some (.cells #[.int .i64 0, .slice none 0 0] 24 (0, 0))) := World.alloc_heap_new (v1) _
      have HZl : (v1).heap.size < ((v1).alloc (.cells #[.int .i64 0, .slice none 0 0] 24)).heap.size := by simp
      have HGw : w.heap.size < (v1).heap.size := World.block_lt_of_cell? (v1) _ q0
      have HNR := Lib.hid (HRq.out.ne_ge (Nat.le_refl _))
      clear hb
      try go_simp
      refine hK.out _ _ (fun _ => ⟨s0, s1⟩) (fun hS => ?_)
      replace hS := hS (by decide)
      clear hK K
      try simp only [Act.put, List.setIfInBounds_toArray, List.set_cons_zero, List.set_cons_succ]
      refine T_ready (rs := [3]) (by kernel_rfl) (by simp) ?_
      refine TReady.cons rfl (fun K hK => ?_) TReady.nil
      try go_simp
      have HZl0 := HZl
      refine (only_c A ws c frn f _ ((HW.out.below HB.out).more HB.out.size) hc hl).mono ?_
      rintro e v3 ⟨A2, c2, rfl, hO, hb⟩
      replace s0 := cell_of_ans hb s0
      replace s1 := cell_of_ans hb s1
      replace HR := Lib.hid (HR.out.kept hb)
      replace HZ := Lib.hid ((hb.block _ HZl).trans HZ.out)
      replace HZl := Nat.lt_of_lt_of_le HZl hb.size
      replace HB := Lib.hid (HB.out.trans (hb.mono HB.out.size))
      have HO : Hid (OwnW 56 0 v3 (.slice A2 (onlyL ws f).length c2) (onlyL ws f)) := ownsRow_base hO (Nat.zero_le _)
      have HNO := Lib.hid (own_ne_lt hO HZl0)
      clear hO hb
      try go_simp
      refine hK.out _ _ (fun _ => ⟨s0, s1⟩) (fun hS => ?_)
      replace hS := hS (by decide)
      clear hK K
      try simp only [Act.put, List.setIfInBounds_toArray, List.set_cons_zero, List.set_cons_succ]
      refine' T_take (i := 5) (v := _) rfl (by kernel_rfl) (by kernel_rfl) (by kernel_rfl) (by kernel_rfl) (fun _ _ _ h => h) (by rfl) hS ?_ ?_
      rotate_left 1
      · intro Wv hW
        go_simp
        first | done | with_reducible rfl
      try simp only [Act.put, List.setIfInBounds_toArray, List.set_cons_zero, List.set_cons_succ]
      generalize (v1).heap.size = gz at *
      obtain ⟨WF, rfl⟩ : ∃ W : World, W = v3 := ⟨_, rfl⟩
      have z0 : WF.cell? ⟨gz, 0, none⟩ = some (.int .i64 0) := by simp [World.cell?, HZ.out]
      have z1 : WF.cell? ⟨gz, 1, none⟩ = some (.slice none 0 0) := by simp [World.cell?, HZ.out]
      have z2 : WF.frozen? ⟨gz, 0, none⟩ = false := by simp [World.frozen?, HZ.out]
      have z3 : WF.frozen? ⟨gz, 1, none⟩ = false := by simp [World.frozen?, HZ.out]
      refine T_ready (rs := [6]) (by kernel_rfl) (by simp) ?_
      refine TReady.cons rfl (fun K hK => ?_) TReady.nil
      try go_simp
      have hne1 : (⟨gz, 0, none⟩ : Addr).block ≠ w.heap.size := by dsimp only; omega
      have hne2 : (⟨gz, 1, none⟩ : Addr).block ≠ w.heap.size := by dsimp only; omega
      refine hK.out _ _ (fun _ => ⟨cell_set_keep (cell_set_keep s0 hne1) hne2, cell_set_keep (cell_set_keep s1 hne1) hne2⟩) (fun hS => ?_)
      clear hS
      clear hK K
      try simp only [Act.put, List.setIfInBounds_toArray, List.set_cons_zero, List.set_cons_succ]
      refine T_done (by kernel_rfl) ?_ _
      refine NoPanic.normal ?_
      have hS2 : WF.grownBy ((WF.setCell ⟨gz, 0, none⟩ (.int .i64 1)).setCell ⟨gz, 1, none⟩ (.slice A2 (onlyL ws f).length c2)) (some gz) := sets2 _ _ _ _
      have HLB : Hid (LB ((WF.setCell ⟨gz, 0, none⟩ (.int .i64 1)).setCell ⟨gz, 1, none⟩ (.slice A2 (onlyL ws f).length c2)) gz 1 (.slice A2 (onlyL ws f).length c2) 24) := by
        show LB _ _ _ _ _
        unfold LB
        simp [World.setCell, Array.getElem?_modify, HZ.out]
      have hR2 := HR.out.keptBy hS2 (.inr HNR.out.1) fun u hu => .inr (HNR.out.2 u hu)
      obtain ⟨g1, g2, g3⟩ := grd_of (Rws.grd hR2)
      have HG := Lib.hid g3
      have hO2 : OwnW 56 0 ((WF.setCell ⟨gz, 0, none⟩ (.int .i64 1)).setCell ⟨gz, 1, none⟩ (.slice A2 (onlyL ws f).length c2)) (.slice A2 (onlyL ws f).length c2) (onlyL ws f) := World.ownsRow.kept HO.out hS2 (.inr HNO.out)
      obtain ⟨o1, o2, o3⟩ := hO2.wds
      have HOW := Lib.hid o3
      have HBS : Hid (Below w.heap.size w ((WF.setCell ⟨gz, 0, none⟩ (.int .i64 1)).setCell ⟨gz, 1, none⟩ (.slice A2 (onlyL ws f).length c2))) := (HB.out.setCell (by dsimp only; omega) _).setCell (by dsimp only; omega) _
      clear hS2 hR2 g3 hO2 o3 HR HO HNR HNO HZ z0 z1 z2 z3 s0 s1 HB
      generalize (WF.setCell ⟨gz, 0, none⟩ (.int .i64 1)).setCell ⟨gz, 1, none⟩ (.slice A2 (onlyL ws f).length c2) = W2 at *
      go_wp2_with fail
      go_loopw [10, 9] (fun i v wr => ∃ (k : Nat) (vs : List Value), k ≤ framesL.length ∧ i = .int .i64 k ∧ Gws W2.heap.size W2.heap.size wr v vs ((framesL.take k).filter (fitF ws offl f)) ∧ Below W2.heap.size W2 wr) (fun i _ _ => framesL.length - (intOf i).toNat)
      case atStart => exact ⟨0, [], by omega, rfl, Gws.nil _ _ _, Below.refl _ _⟩
      case round =>
        obtain ⟨k, vs, hk, rfl, hG, hb⟩ := hrel
        have HGk := Lib.hid hG
        have HBk := Lib.hid hb
        have hzk := hb.size
        obtain ⟨Av, cv, hv⟩ := ownsRow_form hG.1
        by_cases h1 : k < framesL.length
        · obtain ⟨b1, q1, A', c', hA1, hb1, hcell, hc1', hc2', hI⟩ := (HG.out.below hb).at_ h1
          subst hA1
          have h1i : (k : Int) < (framesL.length : Int) := by omega
          obtain ⟨l0, l1, -⟩ := (HLB.out.below hb).cells
          have HV : Hid (∀ j, j < (rx framesL k).length → 0 ≤ ix (rx framesL k) j ∧ ix (rx framesL k) j ≤ 10) := fun j hj => framesL_v h1 hj
          have HFS := Lib.hid (filter_take_succ (p := fitF ws offl f) h1)
          have HRX := Lib.hid (rx_lt h1)
          have HNL : Hid (((framesL.take k).filter (fitF ws offl f)).length ≤ 1000000) := by
            show _ ≤ _
            have h3 := List.length_filter_le (fitF ws offl f) (framesL.take k)
            rw [List.length_take] at h3
            have h4 := framesL_len
            omega
          have HFE : Hid (fitF ws offl f (rx framesL k) = fitG (onlyL ws f) offl [rx framesL k]) := rfl
          have HI := Lib.hid (hI.more hzk)
          have HI0 := Lib.hid hI
          rw [← HRX.out] at HFS
          generalize rx framesL k = x at *
          generalize hN : ((framesL.take k).filter (fitF ws offl f)).length = nn at hv
          subst hv
          have HFC : Hid (∀ Wc, Wc = wr.drew.alloc (.cells #[.slice A' x.length c'] 25) → Calls Try.prog 45 #[.agg #[.int .i64 1, .slice A2 (onlyL ws f).length c2], .slice At offl.length ct, .slice (some ⟨wr.heap.size, 0, none⟩) 1 1] Wc (Ans Wc (.bool (fitF ws offl f x)))) := fun Wc hWc => by
            rw [HFE.out]
            have hbd : Below wr.heap.size wr Wc := by rw [hWc]; exact (Below.refl _ _).drew.alloc (Nat.le_refl _) _
            have hbw : Below W2.heap.size W2 Wc := HBk.out.trans (hbd.mono hzk)
            refine fits45_c A2 At (some ⟨wr.heap.size, 0, none⟩) (onlyL ws f) offl [x] c2 ct 1 1 Wc (HOW.out.step hbw) ((HT.out.below (HBS.out.trans (hbw.mono HBS.out.size))).more (by have := HBS.out.size; have := hbw.size; omega)) ?_ ⟨o1, o2⟩ hct ⟨by simp, by simp⟩ (fun j hj => by have := HWD.out j hj; simp; omega) (fun f' hf' j hj => ?_)
            · refine fun _ => ⟨wr.heap.size, 0, rfl, by rw [hWc]; simp, fun j hj => ?_⟩
              obtain rfl : j = 0 := by simpa using hj
              refine ⟨.slice A' x.length c', by rw [hWc]; exact cell_new1 wr.drew _ _, ⟨A', c', rfl, hc1', hc2', (HI.out.below hbd).more (by have := hbd.size; omega)⟩⟩
            · obtain rfl : f' = 0 := by simpa using hf'
              exact HV.out j hj
          clear hG hb hI
          go_wp2_with fail
          refine wp_region_noPanic ?_
          have hS : (fun w' : World => w'.cell? ⟨gz, 0, none⟩ = some (.int .i64 1) ∧ w'.cell? ⟨gz, 1, none⟩ = some (.slice A2 (onlyL ws f).length c2) ∧ w'.cell? ⟨b1, q1 + k, none⟩ = some (.slice A' x.length c')) wr.drew := ⟨l0, l1, hcell⟩
          refine wp_region_any (by kernel_rfl) (wpAny_of_T (S := fun w' : World => w'.cell? ⟨gz, 0, none⟩ = some (.int .i64 1) ∧ w'.cell? ⟨gz, 1, none⟩ = some (.slice A2 (onlyL ws f).length c2) ∧ w'.cell? ⟨b1, q1 + k, none⟩ = some (.slice A' x.length c')) (m := 8) _ _ _ _ ?_)
          refine' T_take (i := 0) (v := _) rfl (by kernel_rfl) (by kernel_rfl) (by kernel_rfl) (by kernel_rfl) (fun _ _ _ h => h) (by rfl) hS ?_ ?_
          rotate_left 1
          · intro Wv hW
            obtain ⟨s0, s1, s2⟩ := hW
            go_simp
            first | done | with_reducible rfl
          try simp only [Act.put, List.setIfInBounds_toArray, List.set_cons_zero, List.set_cons_succ]
          refine' T_take (i := 1) (v := _) rfl (by kernel_rfl) (by kernel_rfl) (by kernel_rfl) (by kernel_rfl) (fun _ _ _ h => h) (by rfl) hS ?_ ?_
          rotate_left 1
          · intro Wv hW
            obtain ⟨s0, s1, s2⟩ := hW
            go_simp
            first | done | with_reducible rfl
          try simp only [Act.put, List.setIfInBounds_toArray, List.set_cons_zero, List.set_cons_succ]
          refine' T_take (i := 2) (v := _) rfl (by kernel_rfl) (by kernel_rfl) (by kernel_rfl) (by kernel_rfl) (fun _ _ _ h => h) (by rfl) hS ?_ ?_
          rotate_left 1
          · intro Wv hW
            obtain ⟨s0, s1, s2⟩ := hW
            go_simp
            first | done | with_reducible rfl
          try simp only [Act.put, List.setIfInBounds_toArray, List.set_cons_zero, List.set_cons_succ]
          refine' T_take (i := 3) (v := _) rfl (by kernel_rfl) (by kernel_rfl) (by kernel_rfl) (by kernel_rfl) (fun _ _ _ h => h) (by rfl) hS ?_ ?_
          rotate_left 1
          · intro Wv hW
            obtain ⟨s0, s1, s2⟩ := hW
            go_simp
            first | done | with_reducible rfl
          try simp only [Act.put, List.setIfInBounds_toArray, List.set_cons_zero, List.set_cons_succ]
          refine' T_take (i := 4) (v := _) rfl (by kernel_rfl) (by kernel_rfl) (by kernel_rfl) (by kernel_rfl) (fun _ _ _ h => h) (by rfl) hS ?_ ?_
          rotate_left 1
          · intro Wv hW
            obtain ⟨s0, s1, s2⟩ := hW
            go_simp
            first | done | with_reducible rfl
          try simp only [Act.put, List.setIfInBounds_toArray, List.set_cons_zero, List.set_cons_succ]
          refine' T_take (i := 5) (v := _) rfl (by kernel_rfl) (by kernel_rfl) (by kernel_rfl) (by kernel_rfl) (fun _ _ _ h => h) (by rfl) hS ?_ ?_
          rotate_left 1
          · intro Wv hW
            obtain ⟨s0, s1, s2⟩ := hW
            go_simp
            first | done | with_reducible rfl
          try simp only [Act.put, List.setIfInBounds_toArray, List.set_cons_zero, List.set_cons_succ]
          refine T_ready (rs := [6]) (by kernel_rfl) (by simp) ?_
          refine TReady.cons rfl (fun K hK => ?_) TReady.nil
          try go_simp
          refine hK.out _ _ (fun _ => ⟨cell_alloc_keep _ l0, cell_alloc_keep _ l1, cell_alloc_keep _ hcell⟩) (fun hS => ?_)
          replace hS := hS (by decide)
          clear hK K
          try simp only [Act.put, List.setIfInBounds_toArray, List.set_cons_zero, List.set_cons_succ]
          refine T_ready (rs := [7]) (by kernel_rfl) (by simp) ?_
          refine TReady.cons rfl (fun K hK => ?_) TReady.nil
          try go_simp
          refine (HFC.out _ rfl).mono ?_
          rintro e w3 ⟨rfl, hb3⟩
          have t0 := cell_of_ans hb3 (cell_alloc_keep _ l0)
          have t1 := cell_of_ans hb3 (cell_alloc_keep _ l1)
          have t2 := cell_of_ans hb3 (cell_alloc_keep _ hcell)
          have HB3 : Hid (Below wr.heap.size wr w3) := ((Below.refl _ _).drew.alloc (Nat.le_refl _) _).trans (hb3.mono (by simp))
          clear hb3
          try go_simp
          refine hK.out _ _ (fun _ => ⟨t0, t1, t2⟩) (fun _ => ?_)
          clear hK K
          try simp only [Act.put, List.setIfInBounds_toArray, List.set_cons_zero, List.set_cons_succ]
          refine T_done (by kernel_rfl) ?_ _
          refine NoPanic.normal ?_
          clear hS
          cases hfx : fitF ws offl f x
          · have HFN : Hid ((framesL.take (k + 1)).filter (fitF ws offl f) = (framesL.take k).filter (fitF ws offl f)) := by show _ = _; rw [HFS.out, hfx]; simp
            clear hfx
            go_wp2_with fail
            go_roundw
            case rel => exact ⟨k + 1, vs, by omega, by go_num, by rw [HFN.out]; exact HGk.out.kept HB3.out hzk, HBk.out.trans (HB3.out.mono hzk)⟩
            case measure => simp [intOf]; omega
          · have HFN : Hid ((framesL.take (k + 1)).filter (fitF ws offl f) = (framesL.take k).filter (fitF ws offl f) ++ [x]) := by show _ = _; rw [HFS.out, hfx]; simp
            have HOwn : Hid (w3.ownsRow W2.heap.size 25 1 (.slice Av nn cv) nn vs) := by
              have h5 := (HGk.out.kept HB3.out hzk).1
              rw [hN] at h5
              exact h5
            have hz3 : W2.heap.size ≤ w3.heap.size := Nat.le_trans hzk HB3.out.size
            have hnn : nn ≤ 1000000 := by rw [← hN]; exact HNL.out
            clear hfx
            go_wp2_with (at_builtin; refine wpList_row (.tmp 29) (.tmp 34) rfl rfl W2.heap.size w3 (.slice Av nn cv) nn vs (.slice A' x.length c') rfl rfl HOwn.out (by intro y hy; simp at hy; subst hy; rfl) hnn hz3 ?_; intro v' w4 HA)
            obtain ⟨A5, c5, rfl⟩ := ownsRow_form HA.out.own
            go_wp2_with fail
            go_roundw
            case rel =>
              subst hN
              have hgk := HGk.out
              obtain ⟨r1, r2⟩ := Gws.push hgk (Nat.le_refl _) hzk HB3.out (u := .slice A' x.length c') (x := x) ⟨A', c', rfl, hc1', hc2', HI0.out.below (HB3.out.mono hzk)⟩ HA.out
              exact ⟨k + 1, _, by omega, by go_num, by rw [HFN.out]; exact r1, HBk.out.trans r2⟩
            case measure => simp [intOf]; omega
        · obtain rfl : k = framesL.length := by omega
          have h1i : ¬ (framesL.length : Int) < (framesL.length : Int) := by omega
          rw [List.take_length] at hG
          rw [List.take_length] at hv
          have HGR : Hid (gamesR ws offl f = framesL.filter (fitF ws offl f)) := rfl
          have hG2 := hG
          rw [hv] at hG2
          generalize hN : (framesL.filter (fitF ws offl f)).length = nn at hv
          subst hv
          go_wp2_with fail
          go_ret
          obtain ⟨r1, r2, r3⟩ := hG2.grd hzk
          refine ⟨Av, cv, by rw [HGR.out, hN]; rfl, ?_, ?_, HBS.out.trans (HBk.out.mono HBS.out.size)⟩
          · rw [HGR.out]; exact ⟨r1, r2⟩
          · rw [HGR.out]; exact r3
  · try go_simp
    have q0 := s0
    have hb : Below (W0.drew).heap.size (W0.drew) ((W0.drew).alloc (.cells #[.int .i64 0, .slice none 0 0] 24)) := (Below.refl _ _).alloc (Nat.le_refl _) _
    replace s0 := cell_of_ans hb s0
    replace s1 := cell_of_ans hb s1
    replace HB := Lib.hid (HB.out.trans (hb.mono HB.out.size))
    have HZ : Hid (((W0.drew).alloc (.cells #[.int .i64 0, .slice none 0 0] 24)).heap[W0.heap.size]? = some (.cells #[.int .i64 0, .slice none 0 0] 24 (0, 0))) := World.alloc_heap_new (W0.drew) _
    have HZl : W0.heap.size < ((W0.drew).alloc (.cells #[.int .i64 0, .slice none 0 0] 24)).heap.size := by simp
    have HGw : w.heap.size < W0.heap.size := World.block_lt_of_cell? (W0.drew) _ q0
    clear hb
    try go_simp
    refine hK.out _ _ (fun _ => ⟨s0, s1⟩) (fun hS => ?_)
    replace hS := hS (by decide)
    clear hK K
    try simp only [Act.put, List.setIfInBounds_toArray, List.set_cons_zero, List.set_cons_succ]
    refine T_ready (rs := [0]) (by kernel_rfl) (by simp) ?_
    refine TReady.cons rfl (fun K hK => ?_) TReady.nil
    try go_simp
    have HZl0 := HZl
    refine (frames_c _).mono ?_
    rintro e v2 ⟨A1, c1, vs1, rfl, hR, hb⟩
    replace s0 := cell_of_ans hb s0
    replace s1 := cell_of_ans hb s1
    replace HZ := Lib.hid ((hb.block _ HZl).trans HZ.out)
    replace HZl := Nat.lt_of_lt_of_le HZl hb.size
    replace HB := Lib.hid (HB.out.trans (hb.mono HB.out.size))
    have HR := Lib.hid (hR.lower (Nat.zero_le _))
    have HNR := Lib.hid (hR.ne_lt HZl0)
    clear hR hb
    try go_simp
    refine hK.out _ _ (fun _ => ⟨s0, s1⟩) (fun hS => ?_)
    replace hS := hS (by decide)
    clear hK K
    try simp only [Act.put, List.setIfInBounds_toArray, List.set_cons_zero, List.set_cons_succ]
    refine T_ready (rs := [3]) (by kernel_rfl) (by simp) ?_
    refine TReady.cons rfl (fun K hK => ?_) TReady.nil
    try go_simp
    have HZl0 := HZl
    refine (only_c A ws c frn f _ ((HW.out.below HB.out).more HB.out.size) hc hl).mono ?_
    rintro e v3 ⟨A2, c2, rfl, hO, hb⟩
    replace s0 := cell_of_ans hb s0
    replace s1 := cell_of_ans hb s1
    replace HZ := Lib.hid ((hb.block _ HZl).trans HZ.out)
    replace HZl := Nat.lt_of_lt_of_le HZl hb.size
    replace HR := Lib.hid (HR.out.kept hb)
    replace HB := Lib.hid (HB.out.trans (hb.mono HB.out.size))
    have HO : Hid (OwnW 56 0 v3 (.slice A2 (onlyL ws f).length c2) (onlyL ws f)) := ownsRow_base hO (Nat.zero_le _)
    have HNO := Lib.hid (own_ne_lt hO HZl0)
    clear hO hb
    try go_simp
    refine hK.out _ _ (fun _ => ⟨s0, s1⟩) (fun hS => ?_)
    replace hS := hS (by decide)
    clear hK K
    try simp only [Act.put, List.setIfInBounds_toArray, List.set_cons_zero, List.set_cons_succ]
    refine' T_take (i := 5) (v := _) rfl (by kernel_rfl) (by kernel_rfl) (by kernel_rfl) (by kernel_rfl) (fun _ _ _ h => h) (by rfl) hS ?_ ?_
    rotate_left 1
    · intro Wv hW
      go_simp
      first | done | with_reducible rfl
    try simp only [Act.put, List.setIfInBounds_toArray, List.set_cons_zero, List.set_cons_succ]
    generalize W0.heap.size = gz at *
    obtain ⟨WF, rfl⟩ : ∃ W : World, W = v3 := ⟨_, rfl⟩
    have z0 : WF.cell? ⟨gz, 0, none⟩ = some (.int .i64 0) := by simp [World.cell?, HZ.out]
    have z1 : WF.cell? ⟨gz, 1, none⟩ = some (.slice none 0 0) := by simp [World.cell?, HZ.out]
    have z2 : WF.frozen? ⟨gz, 0, none⟩ = false := by simp [World.frozen?, HZ.out]
    have z3 : WF.frozen? ⟨gz, 1, none⟩ = false := by simp [World.frozen?, HZ.out]
    refine T_ready (rs := [6]) (by kernel_rfl) (by simp) ?_
    refine TReady.cons rfl (fun K hK => ?_) TReady.nil
    try go_simp
    have hne1 : (⟨gz, 0, none⟩ : Addr).block ≠ w.heap.size := by dsimp only; omega
    have hne2 : (⟨gz, 1, none⟩ : Addr).block ≠ w.heap.size := by dsimp only; omega
    refine hK.out _ _ (fun _ => ⟨cell_set_keep (cell_set_keep s0 hne1) hne2, cell_set_keep (cell_set_keep s1 hne1) hne2⟩) (fun hS => ?_)
    clear hS
    clear hK K
    try simp only [Act.put, List.setIfInBounds_toArray, List.set_cons_zero, List.set_cons_succ]
    refine T_done (by kernel_rfl) ?_ _
    refine NoPanic.normal ?_
    have hS2 : WF.grownBy ((WF.setCell ⟨gz, 0, none⟩ (.int .i64 1)).setCell ⟨gz, 1, none⟩ (.slice A2 (onlyL ws f).length c2)) (some gz) := sets2 _ _ _ _
    have HLB : Hid (LB ((WF.setCell ⟨gz, 0, none⟩ (.int .i64 1)).setCell ⟨gz, 1, none⟩ (.slice A2 (onlyL ws f).length c2)) gz 1 (.slice A2 (onlyL ws f).length c2) 24) := by
      show LB _ _ _ _ _
      unfold LB
      simp [World.setCell, Array.getElem?_modify, HZ.out]
    have hR2 := HR.out.keptBy hS2 (.inr HNR.out.1) fun u hu => .inr (HNR.out.2 u hu)
    obtain ⟨g1, g2, g3⟩ := grd_of (Rws.grd hR2)
    have HG := Lib.hid g3
    have hO2 : OwnW 56 0 ((WF.setCell ⟨gz, 0, none⟩ (.int .i64 1)).setCell ⟨gz, 1, none⟩ (.slice A2 (onlyL ws f).length c2)) (.slice A2 (onlyL ws f).length c2) (onlyL ws f) := World.ownsRow.kept HO.out hS2 (.inr HNO.out)
    obtain ⟨o1, o2, o3⟩ := hO2.wds
    have HOW := Lib.hid o3
    have HBS : Hid (Below w.heap.size w ((WF.setCell ⟨gz, 0, none⟩ (.int .i64 1)).setCell ⟨gz, 1, none⟩ (.slice A2 (onlyL ws f).length c2))) := (HB.out.setCell (by dsimp only; omega) _).setCell (by dsimp only; omega) _
    clear hS2 hR2 g3 hO2 o3 HR HO HNR HNO HZ z0 z1 z2 z3 s0 s1 HB
    generalize (WF.setCell ⟨gz, 0, none⟩ (.int .i64 1)).setCell ⟨gz, 1, none⟩ (.slice A2 (onlyL ws f).length c2) = W2 at *
    go_wp2_with fail
    go_loopw [10, 9] (fun i v wr => ∃ (k : Nat) (vs : List Value), k ≤ framesL.length ∧ i = .int .i64 k ∧ Gws W2.heap.size W2.heap.size wr v vs ((framesL.take k).filter (fitF ws offl f)) ∧ Below W2.heap.size W2 wr) (fun i _ _ => framesL.length - (intOf i).toNat)
    case atStart => exact ⟨0, [], by omega, rfl, Gws.nil _ _ _, Below.refl _ _⟩
    case round =>
      obtain ⟨k, vs, hk, rfl, hG, hb⟩ := hrel
      have HGk := Lib.hid hG
      have HBk := Lib.hid hb
      have hzk := hb.size
      obtain ⟨Av, cv, hv⟩ := ownsRow_form hG.1
      by_cases h1 : k < framesL.length
      · obtain ⟨b1, q1, A', c', hA1, hb1, hcell, hc1', hc2', hI⟩ := (HG.out.below hb).at_ h1
        subst hA1
        have h1i : (k : Int) < (framesL.length : Int) := by omega
        obtain ⟨l0, l1, -⟩ := (HLB.out.below hb).cells
        have HV : Hid (∀ j, j < (rx framesL k).length → 0 ≤ ix (rx framesL k) j ∧ ix (rx framesL k) j ≤ 10) := fun j hj => framesL_v h1 hj
        have HFS := Lib.hid (filter_take_succ (p := fitF ws offl f) h1)
        have HRX := Lib.hid (rx_lt h1)
        have HNL : Hid (((framesL.take k).filter (fitF ws offl f)).length ≤ 1000000) := by
          show _ ≤ _
          have h3 := List.length_filter_le (fitF ws offl f) (framesL.take k)
          rw [List.length_take] at h3
          have h4 := framesL_len
          omega
        have HFE : Hid (fitF ws offl f (rx framesL k) = fitG (onlyL ws f) offl [rx framesL k]) := rfl
        have HI := Lib.hid (hI.more hzk)
        have HI0 := Lib.hid hI
        rw [← HRX.out] at HFS
        generalize rx framesL k = x at *
        generalize hN : ((framesL.take k).filter (fitF ws offl f)).length = nn at hv
        subst hv
        have HFC : Hid (∀ Wc, Wc = wr.drew.alloc (.cells #[.slice A' x.length c'] 25) → Calls Try.prog 45 #[.agg #[.int .i64 1, .slice A2 (onlyL ws f).length c2], .slice At offl.length ct, .slice (some ⟨wr.heap.size, 0, none⟩) 1 1] Wc (Ans Wc (.bool (fitF ws offl f x)))) := fun Wc hWc => by
          rw [HFE.out]
          have hbd : Below wr.heap.size wr Wc := by rw [hWc]; exact (Below.refl _ _).drew.alloc (Nat.le_refl _) _
          have hbw : Below W2.heap.size W2 Wc := HBk.out.trans (hbd.mono hzk)
          refine fits45_c A2 At (some ⟨wr.heap.size, 0, none⟩) (onlyL ws f) offl [x] c2 ct 1 1 Wc (HOW.out.step hbw) ((HT.out.below (HBS.out.trans (hbw.mono HBS.out.size))).more (by have := HBS.out.size; have := hbw.size; omega)) ?_ ⟨o1, o2⟩ hct ⟨by simp, by simp⟩ (fun j hj => by have := HWD.out j hj; simp; omega) (fun f' hf' j hj => ?_)
          · refine fun _ => ⟨wr.heap.size, 0, rfl, by rw [hWc]; simp, fun j hj => ?_⟩
            obtain rfl : j = 0 := by simpa using hj
            refine ⟨.slice A' x.length c', by rw [hWc]; exact cell_new1 wr.drew _ _, ⟨A', c', rfl, hc1', hc2', (HI.out.below hbd).more (by have := hbd.size; omega)⟩⟩
          · obtain rfl : f' = 0 := by simpa using hf'
            exact HV.out j hj
        clear hG hb hI
        go_wp2_with fail
        refine wp_region_noPanic ?_
        have hS : (fun w' : World => w'.cell? ⟨gz, 0, none⟩ = some (.int .i64 1) ∧ w'.cell? ⟨gz, 1, none⟩ = some (.slice A2 (onlyL ws f).length c2) ∧ w'.cell? ⟨b1, q1 + k, none⟩ = some (.slice A' x.length c')) wr.drew := ⟨l0, l1, hcell⟩
        refine wp_region_any (by kernel_rfl) (wpAny_of_T (S := fun w' : World => w'.cell? ⟨gz, 0, none⟩ = some (.int .i64 1) ∧ w'.cell? ⟨gz, 1, none⟩ = some (.slice A2 (onlyL ws f).length c2) ∧ w'.cell? ⟨b1, q1 + k, none⟩ = some (.slice A' x.length c')) (m := 8) _ _ _ _ ?_)
        refine' T_take (i := 0) (v := _) rfl (by kernel_rfl) (by kernel_rfl) (by kernel_rfl) (by kernel_rfl) (fun _ _ _ h => h) (by rfl) hS ?_ ?_
        rotate_left 1
        · intro Wv hW
          obtain ⟨s0, s1, s2⟩ := hW
          go_simp
          first | done | with_reducible rfl
        try simp only [Act.put, List.setIfInBounds_toArray, List.set_cons_zero, List.set_cons_succ]
        refine' T_take (i := 1) (v := _) rfl (by kernel_rfl) (by kernel_rfl) (by kernel_rfl) (by kernel_rfl) (fun _ _ _ h => h) (by rfl) hS ?_ ?_
        rotate_left 1
        · intro Wv hW
          obtain ⟨s0, s1, s2⟩ := hW
          go_simp
          first | done | with_reducible rfl
        try simp only [Act.put, List.setIfInBounds_toArray, List.set_cons_zero, List.set_cons_succ]
        refine' T_take (i := 2) (v := _) rfl (by kernel_rfl) (by kernel_rfl) (by kernel_rfl) (by kernel_rfl) (fun _ _ _ h => h) (by rfl) hS ?_ ?_
        rotate_left 1
        · intro Wv hW
          obtain ⟨s0, s1, s2⟩ := hW
          go_simp
          first | done | with_reducible rfl
        try simp only [Act.put, List.setIfInBounds_toArray, List.set_cons_zero, List.set_cons_succ]
        refine' T_take (i := 3) (v := _) rfl (by kernel_rfl) (by kernel_rfl) (by kernel_rfl) (by kernel_rfl) (fun _ _ _ h => h) (by rfl) hS ?_ ?_
        rotate_left 1
        · intro Wv hW
          obtain ⟨s0, s1, s2⟩ := hW
          go_simp
          first | done | with_reducible rfl
        try simp only [Act.put, List.setIfInBounds_toArray, List.set_cons_zero, List.set_cons_succ]
        refine' T_take (i := 4) (v := _) rfl (by kernel_rfl) (by kernel_rfl) (by kernel_rfl) (by kernel_rfl) (fun _ _ _ h => h) (by rfl) hS ?_ ?_
        rotate_left 1
        · intro Wv hW
          obtain ⟨s0, s1, s2⟩ := hW
          go_simp
          first | done | with_reducible rfl
        try simp only [Act.put, List.setIfInBounds_toArray, List.set_cons_zero, List.set_cons_succ]
        refine' T_take (i := 5) (v := _) rfl (by kernel_rfl) (by kernel_rfl) (by kernel_rfl) (by kernel_rfl) (fun _ _ _ h => h) (by rfl) hS ?_ ?_
        rotate_left 1
        · intro Wv hW
          obtain ⟨s0, s1, s2⟩ := hW
          go_simp
          first | done | with_reducible rfl
        try simp only [Act.put, List.setIfInBounds_toArray, List.set_cons_zero, List.set_cons_succ]
        refine T_ready (rs := [6]) (by kernel_rfl) (by simp) ?_
        refine TReady.cons rfl (fun K hK => ?_) TReady.nil
        try go_simp
        refine hK.out _ _ (fun _ => ⟨cell_alloc_keep _ l0, cell_alloc_keep _ l1, cell_alloc_keep _ hcell⟩) (fun hS => ?_)
        replace hS := hS (by decide)
        clear hK K
        try simp only [Act.put, List.setIfInBounds_toArray, List.set_cons_zero, List.set_cons_succ]
        refine T_ready (rs := [7]) (by kernel_rfl) (by simp) ?_
        refine TReady.cons rfl (fun K hK => ?_) TReady.nil
        try go_simp
        refine (HFC.out _ rfl).mono ?_
        rintro e w3 ⟨rfl, hb3⟩
        have t0 := cell_of_ans hb3 (cell_alloc_keep _ l0)
        have t1 := cell_of_ans hb3 (cell_alloc_keep _ l1)
        have t2 := cell_of_ans hb3 (cell_alloc_keep _ hcell)
        have HB3 : Hid (Below wr.heap.size wr w3) := ((Below.refl _ _).drew.alloc (Nat.le_refl _) _).trans (hb3.mono (by simp))
        clear hb3
        try go_simp
        refine hK.out _ _ (fun _ => ⟨t0, t1, t2⟩) (fun _ => ?_)
        clear hK K
        try simp only [Act.put, List.setIfInBounds_toArray, List.set_cons_zero, List.set_cons_succ]
        refine T_done (by kernel_rfl) ?_ _
        refine NoPanic.normal ?_
        clear hS
        cases hfx : fitF ws offl f x
        · have HFN : Hid ((framesL.take (k + 1)).filter (fitF ws offl f) = (framesL.take k).filter (fitF ws offl f)) := by show _ = _; rw [HFS.out, hfx]; simp
          clear hfx
          go_wp2_with fail
          go_roundw
          case rel => exact ⟨k + 1, vs, by omega, by go_num, by rw [HFN.out]; exact HGk.out.kept HB3.out hzk, HBk.out.trans (HB3.out.mono hzk)⟩
          case measure => simp [intOf]; omega
        · have HFN : Hid ((framesL.take (k + 1)).filter (fitF ws offl f) = (framesL.take k).filter (fitF ws offl f) ++ [x]) := by show _ = _; rw [HFS.out, hfx]; simp
          have HOwn : Hid (w3.ownsRow W2.heap.size 25 1 (.slice Av nn cv) nn vs) := by
            have h5 := (HGk.out.kept HB3.out hzk).1
            rw [hN] at h5
            exact h5
          have hz3 : W2.heap.size ≤ w3.heap.size := Nat.le_trans hzk HB3.out.size
          have hnn : nn ≤ 1000000 := by rw [← hN]; exact HNL.out
          clear hfx
          go_wp2_with (at_builtin; refine wpList_row (.tmp 29) (.tmp 34) rfl rfl W2.heap.size w3 (.slice Av nn cv) nn vs (.slice A' x.length c') rfl rfl HOwn.out (by intro y hy; simp at hy; subst hy; rfl) hnn hz3 ?_; intro v' w4 HA)
          obtain ⟨A5, c5, rfl⟩ := ownsRow_form HA.out.own
          go_wp2_with fail
          go_roundw
          case rel =>
            subst hN
            have hgk := HGk.out
            obtain ⟨r1, r2⟩ := Gws.push hgk (Nat.le_refl _) hzk HB3.out (u := .slice A' x.length c') (x := x) ⟨A', c', rfl, hc1', hc2', HI0.out.below (HB3.out.mono hzk)⟩ HA.out
            exact ⟨k + 1, _, by omega, by go_num, by rw [HFN.out]; exact r1, HBk.out.trans r2⟩
          case measure => simp [intOf]; omega
      · obtain rfl : k = framesL.length := by omega
        have h1i : ¬ (framesL.length : Int) < (framesL.length : Int) := by omega
        rw [List.take_length] at hG
        rw [List.take_length] at hv
        have HGR : Hid (gamesR ws offl f = framesL.filter (fitF ws offl f)) := rfl
        have hG2 := hG
        rw [hv] at hG2
        generalize hN : (framesL.filter (fitF ws offl f)).length = nn at hv
        subst hv
        go_wp2_with fail
        go_ret
        obtain ⟨r1, r2, r3⟩ := hG2.grd hzk
        refine ⟨Av, cv, by rw [HGR.out, hN]; rfl, ?_, ?_, HBS.out.trans (HBk.out.mono HBS.out.size)⟩
        · rw [HGR.out]; exact ⟨r1, r2⟩
        · rw [HGR.out]; exact r3
end Go.Proofs.Ytadjkinpimmhkaa
