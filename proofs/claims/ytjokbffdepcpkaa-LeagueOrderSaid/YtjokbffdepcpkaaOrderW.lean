/-
  The walk of LeagueOrder.
-/
import Derived.Test.YtjokbffdepcpkaaOrderM
import Derived.Test.YtjokbffdepcpkaaTu
namespace Go.Proofs.Ytjokbffdepcpkaa
open Go.RowKit
set_option linter.unusedSimpArgs false
set_option linter.unusedVariables false

attribute [local go_sem] Oper.semAt_some
theorem OwnM.some_ {e : TypeId} {base : Nat} {w : World} {A : Option Addr} {n c : Nat} {ls : List Gm} (h : OwnM e base w (.slice A n c) ls) (hp : 0 < ls.length) : ∃ g, A = some ⟨g, 0, none⟩ ∧ base ≤ g ∧ g < w.heap.size := by
  rcases h.2 with ⟨e, h0⟩ | ⟨g, cap, cur, e, hb, hg, hn, hm, hs, ht⟩
  · injection e with e1 e2 e3
    omega
  · injection e with e1 e2 e3
    exact ⟨g, e1, hb, (Array.getElem?_eq_some_iff.1 hg).1⟩
theorem OwnM.elem {e : TypeId} {base : Nat} {w : World} {g n c : Nat} {ls : List Gm} (h : OwnM e base w (.slice (some ⟨g, 0, none⟩) n c) ls) {k : Nat} (hk : k < ls.length) : W5 w g (k * 5) (gmx ls k) ∧ ∀ i, w.frozen? ⟨g, i, none⟩ = false := by
  have hf := h.form
  obtain ⟨A, c', e'⟩ := hf
  have hn : n = ls.length := by injection e'
  subst hn
  obtain ⟨h1, h2, h3⟩ := h.parts
  obtain ⟨b, off, e1, hb, hc⟩ := h3.at_ hk
  injection e1 with e1
  injection e1 with e1 e2
  subst e1 e2
  refine ⟨by simpa using hc, fun i => ?_⟩
  rcases h.2 with ⟨e, h0⟩ | ⟨g', cap, cur, e, hb, hg, hn, hm, hs, ht⟩
  · cases e
  · injection e with e1 e2 e3
    injection e1 with e1
    injection e1 with e1
    subst e1
    simp [World.frozen?, hg]
/-- The statements' League, and who can be first, of a league by its parts. -/
def LgQ (w : World) (tm : Int) (xs : List Gm) (e : Ending) (w' : World) : Prop := ∃ A c, e = .returned (.agg #[.int .i64 tm, .slice A xs.length c]) ∧ (Gms w'.heap.size w' A xs ∧ xs.length ≤ c ∧ c ≤ 9223372036854775807) ∧ Below w.heap.size w w'
section
variable {ops : Array Oper} {rest : List Oper} {o : Oper} {a : Act} {KK : Act → World → Prop} {Q : Exit → Act → World → Prop} {E : Prop}
/-- An append of a list of games to an own one; a box of two cells stays, if it is not the own list's block. -/
theorem step_appMs (s y : Operand) (hgd : o.guard = none) (ho : o.op = .call { callee := .builtin .append, args := #[s, y], argTypes := #[22, 22] }) {B : Nat} (base : Nat) (w : World) (u : Value) (ls vs : List Gm) (A : Option Addr) (n c : Nat)
    (hv : a.eval s = u) (hx : a.eval y = .slice A n c) (hn : n = vs.length) (hs : Hid (Gms B w A vs)) (hown : Hid (OwnM 70 base w u ls)) (hl : ls.length + vs.length ≤ 1000) (m : Nat) (hm : ls.length + vs.length = m) (hb : base ≤ w.heap.size)
    (hK : ∀ A' c' w', Hid (OwnM 70 base w' (.slice A' m c') (ls ++ vs)) → Hid (Below base w w') → Hid (∀ q t v0 v1, At2 w q t v0 v1 → u.ownBlock ≠ some q → At2 w' q t v0 v1 ∧ (Value.slice A' m c').ownBlock ≠ some q) → KK (a.put o.dst (.slice A' m c')) w') :
    if Region.wanted o (yielded ops a.tmps) = true then Oper.wp Try.prog o a w KK Q else E := by
  rw [if_pos (by simp [Region.wanted, hgd])]
  subst hn hm
  obtain ⟨hu, i, hi, hz, hz1, hz2⟩ := tyM (t := 22) (e := 70) (.inr ⟨rfl, rfl⟩)
  have hO : w.ownsRow base 70 5 u ls.length (flatM ls) := hown.out
  obtain ⟨u', w', hr, h1, h2, h3⟩ := run_append_src (P := Try.prog) (w := w) base 22 o.type 70 i _ 5 40 hu hi hz hz1 hz2 rfl (by decide) u ls.length (flatM ls) hO A vs.length c (flatM vs) hs.out.isrc (one_flatM vs) (by unfold maxLen; omega) (by omega) hb
  obtain ⟨A', c', rfl⟩ := ownsRow_form h1
  unfold Oper.wp execOp
  simp only [ho, resolve, invoke, builtin, Sem.run_bind, Sem.run_pure, Result.andThen_ok, List.map_toArray, List.map_cons, List.map_nil, hv, hx, hr]
  refine hK A' c' w' ?_ ((Below.refl base w).grown h2 hb (fun k e => (hO.lt k e).1)) ?_
  · show OwnM _ _ _ _ _
    unfold OwnM
    rw [flatM_append, List.length_append]
    exact h1
  · intro q t v0 v1 hq hne
    refine ⟨(h2.block q hq.lt (fun e => hne e.symm)).trans hq, fun e => ?_⟩
    rcases h3 with h3 | h3
    · rw [h3] at e; exact hne e
    · rw [h3] at e
      injection e with e
      have := hq.lt
      omega
end
theorem At2.farZ {W : World} {q t g i : Nat} {v0 v1 : Value} (h : At2 W q t v0 v1) (hne : g ≠ q) (v : Value) : At2 (W.setCell ⟨g, i, none⟩ v) q t v0 v1 := (Below.heap_setCell W ⟨g, i, none⟩ v q (fun e => hne e.symm)).trans h
/-- A box of a game. -/
def BoxG (W : World) (q : Nat) (g : Gm) : Prop := W.heap[q]? = some (.cells #[.int .i64 g.a, .int .i64 g.b, .int .i64 g.pa, .int .i64 g.pb, .bool g.op] 70)
theorem BoxG.lt {W : World} {q : Nat} {g : Gm} (h : BoxG W q g) : q < W.heap.size := (Array.getElem?_eq_some_iff.1 h).1
theorem BoxG.step {W W' : World} {q : Nat} {g : Gm} (h : BoxG W q g) (hb : Below W.heap.size W W') : BoxG W' q g := (hb.block q h.lt).trans h
theorem BoxG.far {W : World} {q : Nat} {g : Gm} (h : BoxG W q g) {p : Addr} (hp : p.block ≠ q) (v : Value) : BoxG (W.setCell p v) q g := (Below.heap_setCell W p v q (fun e => hp e.symm)).trans h
theorem BoxG.cells {W : World} {q : Nat} {g : Gm} (h : BoxG W q g) : (W.cell? ⟨q, 0, none⟩ = some (.int .i64 g.a) ∧ W.cell? ⟨q, 1, none⟩ = some (.int .i64 g.b) ∧ W.cell? ⟨q, 2, none⟩ = some (.int .i64 g.pa) ∧ W.cell? ⟨q, 3, none⟩ = some (.int .i64 g.pb) ∧ W.cell? ⟨q, 4, none⟩ = some (.bool g.op)) ∧ ∀ i, W.frozen? ⟨q, i, none⟩ = false := by
  unfold BoxG at h
  simp [World.cell?, World.frozen?, h]
theorem BoxG.set01 {W : World} {q : Nat} {g : Gm} (h : BoxG W q g) (a b : Int) : BoxG ((W.setCell ⟨q, 0, none⟩ (.int .i64 a)).setCell ⟨q, 1, none⟩ (.int .i64 b)) q ⟨a, b, g.pa, g.pb, g.op⟩ := by
  unfold BoxG at h ⊢
  simp [World.setCell, Array.getElem?_modify, h]
theorem OwnM.made {base : Nat} {w : World} (h : base ≤ w.heap.size) : OwnM 70 base (w.alloc (.cells #[] 70)) (.slice (some ⟨w.heap.size, 0, none⟩) 0 0) [] := World.ownsRow_lit w #[] 0 h (by simp [maxLen]) (by simp)
theorem OwnM.farQ {e : TypeId} {base : Nat} {w : World} {u : Value} {ls : List Gm} (h : OwnM e base w u ls) {q o : Nat} (hq : u.ownBlock ≠ some q) (v : Value) : OwnM e base (w.setCell ⟨q, o, none⟩ v) u ls := World.ownsRow.kept h (grown_set w q o v) (.inr hq)
theorem ints_self {xs : List Int} {W : World} {A1 A2 : Option Addr} {c1 c2 : Nat} (h1 : Ints W.heap.size W A1 xs) (h2 : Ints W.heap.size W A2 xs) (h3 : xs.length ≤ c1 ∧ c1 ≤ 9223372036854775807) (h4 : xs.length ≤ c2 ∧ c2 ≤ 9223372036854775807) : Calls Try.prog 23 #[.slice A1 xs.length c1, .slice A2 xs.length c2] W (Qt W (.bool true)) := by
  have h := ints23_c A1 A2 xs xs c1 c2 W h1 h2 h3 h4
  rwa [show eqB xs xs = true by unfold eqB; exact decide_eq_true rfl] at h
theorem OwnM.lowB {e : TypeId} {base B : Nat} {w w' : World} {u : Value} {ls : List Gm} (h : OwnM e base w u ls) (hlt : ∀ g, u.ownBlock = some g → g < B) (hb : Below B w w') : OwnM e base w' u ls := by
  refine ⟨h.1, ?_⟩
  rcases h.2 with hn | ⟨g, cap, cur, rfl, h1, hg, r⟩
  · exact .inl hn
  · exact .inr ⟨g, cap, cur, rfl, h1, (hb.block g (hlt g rfl)).trans hg, r⟩
theorem OwnM.stored70 {base : Nat} {w : World} {g n c : Nat} {ls : List Gm} (h : OwnM 70 base w (.slice (some ⟨g, 0, none⟩) n c) ls) {k : Nat} (hk : k < ls.length) (x : Gm) : OwnM 70 base (setM w g k x) (.slice (some ⟨g, 0, none⟩) n c) (ls.set k x) := by
  obtain ⟨A, c', e⟩ := h.form
  have hn : n = ls.length := by injection e
  subst hn
  unfold OwnM at h ⊢
  rw [flatM_set ls k x hk, List.length_set]
  obtain ⟨h1, _⟩ := World.ownsRow.stored h (k * 5) (.int .i64 x.a)
  obtain ⟨h2, _⟩ := World.ownsRow.stored h1 (k * 5 + 1) (.int .i64 x.b)
  obtain ⟨h3, _⟩ := World.ownsRow.stored h2 (k * 5 + 2) (.int .i64 x.pa)
  obtain ⟨h4, _⟩ := World.ownsRow.stored h3 (k * 5 + 3) (.int .i64 x.pb)
  exact (World.ownsRow.stored h4 (k * 5 + 4) (.bool x.op)).1
theorem At2.farSet {W : World} {q t g k : Nat} {v0 v1 : Value} (h : At2 W q t v0 v1) (hne : g ≠ q) (x : Gm) : At2 (setM W g k x) q t v0 v1 := ((((h.farZ hne _).farZ hne _).farZ hne _).farZ hne _).farZ hne _
theorem BoxG.farSet {W : World} {q g k : Nat} {y : Gm} (h : BoxG W q y) (hne : g ≠ q) (x : Gm) : BoxG (setM W g k x) q y := ((((h.far (p := ⟨g, k * 5, none⟩) hne _).far (p := ⟨g, k * 5 + 1, none⟩) hne _).far (p := ⟨g, k * 5 + 2, none⟩) hne _).far (p := ⟨g, k * 5 + 3, none⟩) hne _).far (p := ⟨g, k * 5 + 4, none⟩) hne _
theorem OwnM.farSet {e : TypeId} {base : Nat} {W : World} {g k : Nat} {u : Value} {ls : List Gm} (h : OwnM e base W u ls) (hne : u.ownBlock ≠ some g) (x : Gm) : OwnM e base (setM W g k x) u ls := ((((h.farQ hne _).farQ hne _).farQ hne _).farQ hne _).farQ hne _
theorem OwnM.notIn {e : TypeId} {base : Nat} {w : World} {u : Value} {ls : List Gm} (h : OwnM e base w u ls) {q : Nat} (hq : w.heap.size ≤ q) : u.ownBlock ≠ some q := fun e => by
  have := (World.ownsRow.lt h q e).2
  omega
theorem Gms.dropG {B : Nat} {w : World} {b o : Nat} {gs : List Gm} (h : Gms B w (some ⟨b, o, none⟩) gs) (k : Nat) : Gms B w (some ⟨b, o + k * 5, none⟩) (gs.drop k) := fun hp => by
  rw [List.length_drop] at hp
  obtain ⟨b', o', e, hb, hc⟩ := h (by omega)
  injection e with e
  injection e with e1 e2
  subst e1 e2
  refine ⟨b, o + k * 5, rfl, hb, fun j hj => ?_⟩
  rw [List.length_drop] at hj
  have := hc (k + j) (by omega)
  rw [show o + (k + j) * 5 = o + k * 5 + j * 5 by omega] at this
  have e3 : gmx (gs.drop k) j = gmx gs (k + j) := by rw [gmx_lt (by rw [List.length_drop]; omega), gmx_lt (by omega), List.getElem_drop]
  rw [e3]
  exact this
theorem Gms.takeG {B : Nat} {w : World} {A : Option Addr} {gs : List Gm} (h : Gms B w A gs) (k : Nat) : Gms B w A (gs.take k) := fun hp => by
  rw [List.length_take] at hp
  obtain ⟨b', o', e, hb, hc⟩ := h (by omega)
  refine ⟨b', o', e, hb, fun j hj => ?_⟩
  rw [List.length_take] at hj
  have e3 : gmx (gs.take k) j = gmx gs j := by rw [gmx_lt (by rw [List.length_take]; omega), gmx_lt (by omega), List.getElem_take]
  rw [e3]
  exact hc j (by omega)
set_option maxRecDepth 100000 in
set_option maxHeartbeats 16000000 in
theorem order9_c (l : Lg) (A Au : Option Addr) (c cu : Nat) (rules : List Int) (s : Int) (w : World) (hl : Gms w.heap.size w A l.games) (hc : l.games.length ≤ c ∧ c ≤ 9223372036854775807) (hu : Byts w.heap.size w Au rules) (hcu : rules.length ≤ cu ∧ cu ≤ 9223372036854775807) (hs : 0 ≤ s ∧ s ≤ 255) :
    Calls Try.prog 9 #[.agg #[.int .i64 l.teams, .slice A l.games.length c], .slice Au rules.length cu, .int .u8 s] w (Ans w (.bool true)) := by
  have HL := Lib.hid hl
  have HU := Lib.hid hu
  clear hl hu
  have HB := Lib.hid (Below.refl w.heap.size w)
  have hb : Below w.heap.size w (w.alloc (.cells #[.int .i64 l.teams, .slice A l.games.length c] 24)) := (Below.refl _ _).alloc (Nat.le_refl _) _
  have k0 : (w.alloc (.cells #[.int .i64 l.teams, .slice A l.games.length c] 24)).cell? ⟨w.heap.size, 0, none⟩ = some (.int .i64 l.teams) := by simp
  have k1 : (w.alloc (.cells #[.int .i64 l.teams, .slice A l.games.length c] 24)).cell? ⟨w.heap.size, 1, none⟩ = some (.slice A l.games.length c) := by simp
  replace HL := Lib.hid (HL.out.step hb)
  replace HU := Lib.hid (HU.out.step hb)
  replace HB := Lib.hid (HB.out.trans (hb.mono HB.out.size))
  clear hb
  have HRD := Lib.hid (fun (W : World) (h : Gms W.heap.size W A l.games) => ready34_c l A c W h hc)
  cases hrd : (thinG l.games.length && decide (faultL l = 0))
  · rw [hrd] at HRD
    clear hrd
    go_enter Try.func9, Try.ntmps9
    go_wp2_with fail
    generalize (w.alloc (.cells #[.int .i64 l.teams, .slice A l.games.length c] 24)) = x1 at *
    refine (HRD.out _ HL.out).mono ?_
    rintro e x1 ⟨rfl, hb⟩
    replace HL := Lib.hid (HL.out.step hb)
    replace HU := Lib.hid (HU.out.step hb)
    replace k0 := cell_of_ans hb k0
    replace k1 := cell_of_ans hb k1
    replace HB := Lib.hid (HB.out.trans (hb.mono HB.out.size))
    clear hb
    go_wp2_with fail
    refine (awake16_c _).mono ?_
    rintro e x2 ⟨rfl, hb⟩
    replace HL := Lib.hid (HL.out.step hb)
    replace HU := Lib.hid (HU.out.step hb)
    replace k0 := cell_of_ans hb k0
    replace k1 := cell_of_ans hb k1
    replace HB := Lib.hid (HB.out.trans (hb.mono HB.out.size))
    clear hb
    go_wp2_with fail
    go_ret
    exact ⟨rfl, HB.out⟩
  · rw [hrd] at HRD
    rw [Bool.and_eq_true, decide_eq_true_eq] at hrd
    have hv := valid_iff.1 hrd.2
    have hf := hrd.2
    clear hrd
    by_cases h6 : 6 < rules.length
    · have h6i : (6 : Int) < (rules.length : Int) := by omega
      clear hv hf
      go_enter Try.func9, Try.ntmps9
      go_wp2_with fail
      generalize (w.alloc (.cells #[.int .i64 l.teams, .slice A l.games.length c] 24)) = x1 at *
      refine (HRD.out _ HL.out).mono ?_
      rintro e x3 ⟨rfl, hb⟩
      replace HL := Lib.hid (HL.out.step hb)
      replace HU := Lib.hid (HU.out.step hb)
      replace k0 := cell_of_ans hb k0
      replace k1 := cell_of_ans hb k1
      replace HB := Lib.hid (HB.out.trans (hb.mono HB.out.size))
      clear hb
      go_wp2_with fail
      refine (awake16_c _).mono ?_
      rintro e x4 ⟨rfl, hb⟩
      replace HL := Lib.hid (HL.out.step hb)
      replace HU := Lib.hid (HU.out.step hb)
      replace k0 := cell_of_ans hb k0
      replace k1 := cell_of_ans hb k1
      replace HB := Lib.hid (HB.out.trans (hb.mono HB.out.size))
      clear hb
      go_wp2_with fail
      go_ret
      exact ⟨rfl, HB.out⟩
    · have h6i : decide ((6 : Int) < (rules.length : Int)) = false := decide_eq_false (by omega)
      have HLI := Lib.hid (fun (W : World) (h : Byts W.heap.size W Au rules) => listed22_c Au cu rules 4 W h (by omega))
      cases h4 : (allB rules.length fun k => inB (ix rules k) 1 4)
      · rw [h4] at HLI
        clear hv hf h4
        go_enter Try.func9, Try.ntmps9
        go_wp2_with fail
        generalize (w.alloc (.cells #[.int .i64 l.teams, .slice A l.games.length c] 24)) = x1 at *
        refine (HRD.out _ HL.out).mono ?_
        rintro e x5 ⟨rfl, hb⟩
        replace HL := Lib.hid (HL.out.step hb)
        replace HU := Lib.hid (HU.out.step hb)
        replace k0 := cell_of_ans hb k0
        replace k1 := cell_of_ans hb k1
        replace HB := Lib.hid (HB.out.trans (hb.mono HB.out.size))
        clear hb
        go_wp2_with fail
        refine ((HLI.out _ HU.out).mono (fun _ _ h => h.ans)).mono ?_
        rintro e x6 ⟨rfl, hb⟩
        replace HL := Lib.hid (HL.out.step hb)
        replace HU := Lib.hid (HU.out.step hb)
        replace k0 := cell_of_ans hb k0
        replace k1 := cell_of_ans hb k1
        replace HB := Lib.hid (HB.out.trans (hb.mono HB.out.size))
        clear hb
        go_wp2_with fail
        refine (awake16_c _).mono ?_
        rintro e x7 ⟨rfl, hb⟩
        replace HL := Lib.hid (HL.out.step hb)
        replace HU := Lib.hid (HU.out.step hb)
        replace k0 := cell_of_ans hb k0
        replace k1 := cell_of_ans hb k1
        replace HB := Lib.hid (HB.out.trans (hb.mono HB.out.size))
        clear hb
        go_wp2_with fail
        go_ret
        exact ⟨rfl, HB.out⟩
      · rw [h4] at HLI
        by_cases hz : l.games.length = 0
        · have hzb : ((l.games.length : Int) == 0) = true := by rw [beq_iff_eq]; omega
          clear hv hf h4 hz
          go_enter Try.func9, Try.ntmps9
          go_wp2_with fail
          generalize (w.alloc (.cells #[.int .i64 l.teams, .slice A l.games.length c] 24)) = x1 at *
          refine (HRD.out _ HL.out).mono ?_
          rintro e x8 ⟨rfl, hb⟩
          replace HL := Lib.hid (HL.out.step hb)
          replace HU := Lib.hid (HU.out.step hb)
          replace k0 := cell_of_ans hb k0
          replace k1 := cell_of_ans hb k1
          replace HB := Lib.hid (HB.out.trans (hb.mono HB.out.size))
          clear hb
          go_wp2_with fail
          refine ((HLI.out _ HU.out).mono (fun _ _ h => h.ans)).mono ?_
          rintro e x9 ⟨rfl, hb⟩
          replace HL := Lib.hid (HL.out.step hb)
          replace HU := Lib.hid (HU.out.step hb)
          replace k0 := cell_of_ans hb k0
          replace k1 := cell_of_ans hb k1
          replace HB := Lib.hid (HB.out.trans (hb.mono HB.out.size))
          clear hb
          go_wp2_with fail
          refine (awake16_c _).mono ?_
          rintro e x10 ⟨rfl, hb⟩
          replace HL := Lib.hid (HL.out.step hb)
          replace HU := Lib.hid (HU.out.step hb)
          replace k0 := cell_of_ans hb k0
          replace k1 := cell_of_ans hb k1
          replace HB := Lib.hid (HB.out.trans (hb.mono HB.out.size))
          clear hb
          go_wp2_with fail
          go_ret
          exact ⟨rfl, HB.out⟩
        · have hzb : ((l.games.length : Int) == 0) = false := by rw [beq_eq_false_iff_ne]; omega
          have hT2 := hv.t2
          have hT6 := hv.t6
          have hl20 := hv.len
          have hn : l.games.length ≤ 1000 := by omega
          have he : rankErr l rules = 0 := by unfold rankErr; rw [if_pos hf, if_neg h6, h4]; rfl
          obtain ⟨T, hT⟩ : ∃ T : Nat, l.teams = (T : Int) := ⟨l.teams.toNat, by omega⟩
          have HTI := Lib.hid hT
          have hTp : 2 ≤ T ∧ T ≤ 6 := by omega
          have hNz : ¬ (l.games.length : Int) = 0 := by omega
          have hTz : ¬ l.teams = 0 := by omega
          have hws : IntKind.i64.wrap s = s := IntWalk.i64_in _ (by omega)
          obtain ⟨kN, hkN⟩ : ∃ kN : Nat, s.tmod (l.games.length : Int) = (kN : Int) := ⟨(s.tmod (l.games.length : Int)).toNat, by rw [Int.tmod_eq_emod_of_nonneg hs.1]; have := Int.emod_nonneg s hNz; omega⟩
          obtain ⟨d, hdT⟩ : ∃ d : Nat, s.tmod l.teams = (d : Int) := ⟨(s.tmod l.teams).toNat, by rw [Int.tmod_eq_emod_of_nonneg hs.1]; have := Int.emod_nonneg s hTz; omega⟩
          have hkr : kN < l.games.length := by rw [Int.tmod_eq_emod_of_nonneg hs.1] at hkN; have := Int.emod_lt_of_pos s (show (0 : Int) < (l.games.length : Int) by omega); omega
          have hdr : d < T := by rw [Int.tmod_eq_emod_of_nonneg hs.1] at hdT; have := Int.emod_lt_of_pos s (show (0 : Int) < l.teams by omega); omega
          have hwk : IntKind.i64.wrap (kN : Int) = (kN : Int) := IntWalk.i64_in _ (by omega)
          have hwd : IntKind.i64.wrap (d : Int) = (d : Int) := IntWalk.i64_in _ (by omega)
          have HVV := Lib.hid hv
          have HOR := Lib.hid (fun (xs : List Gm) (hx : SwL (l.games.drop kN ++ l.games.take kN) xs) => orF hv hT hdr he hx)
          have HLG := Lib.hid (fun (W : World) (h : Gms W.heap.size W A l.games) => league18_c l A c W h hc hn)
          have HCO := Lib.hid (fun (W : World) (h : Byts W.heap.size W Au rules) => codes20_c Au rules cu W h (by omega))
          have HUR := Lib.hid (fun k hk => (HU.out.rng) k hk)
          have HRK : Hid (∀ (A1 A2 : Option Addr) (c1 c2 : Nat) (W : World), Gms W.heap.size W A1 l.games → (l.games.length ≤ c1 ∧ c1 ≤ 9223372036854775807) → Byts W.heap.size W A2 rules → (rules.length ≤ c2 ∧ c2 ≤ 9223372036854775807) → Calls Try.prog 19 #[.agg #[.int .i64 l.teams, .slice A1 l.games.length c1], .slice A2 rules.length c2] W (ListE W (rankL l rules) 0)) := fun A1 A2 c1 c2 W h1 h2 h3 h4 => by
            have h := rank19_c l A1 A2 c1 c2 rules W h1 h2 h3 h4 (by omega)
            rw [he] at h
            exact h
          have HCA := Lib.hid (fun (t : Int) (A1 : Option Addr) (c1 : Nat) (W : World) (h : Gms W.heap.size W A1 l.games) h2 => can43_c l t A1 c1 W h h2)
          have h6r : rules.length ≤ 6 := by omega
          clear hv hf h4 hz h6 he hT hT2 hT6
          go_enter Try.func9, Try.ntmps9
          go_wp2_with fail
          generalize (w.alloc (.cells #[.int .i64 l.teams, .slice A l.games.length c] 24)) = x1 at *
          refine (HRD.out _ HL.out).mono ?_
          rintro e x11 ⟨rfl, hb⟩
          replace HL := Lib.hid (HL.out.step hb)
          replace HU := Lib.hid (HU.out.step hb)
          replace k0 := cell_of_ans hb k0
          replace k1 := cell_of_ans hb k1
          replace HB := Lib.hid (HB.out.trans (hb.mono HB.out.size))
          clear hb
          go_wp2_with fail
          refine ((HLI.out _ HU.out).mono (fun _ _ h => h.ans)).mono ?_
          rintro e x12 ⟨rfl, hb⟩
          replace HL := Lib.hid (HL.out.step hb)
          replace HU := Lib.hid (HU.out.step hb)
          replace k0 := cell_of_ans hb k0
          replace k1 := cell_of_ans hb k1
          replace HB := Lib.hid (HB.out.trans (hb.mono HB.out.size))
          clear hb
          go_upto_region 3 with fail
          go_quiet (fail)
          have hb : Below x12.heap.size x12 (x12.drewN nq) := below_drewN (Below.refl _ _) nq
          replace HL := Lib.hid (HL.out.step hb)
          replace HU := Lib.hid (HU.out.step hb)
          replace k0 := cell_of_ans hb k0
          replace k1 := cell_of_ans hb k1
          replace HB := Lib.hid (HB.out.trans (hb.mono HB.out.size))
          clear hb
          generalize x12.drewN nq = x0 at *
          have hpos : 0 < l.games.length := by omega
          obtain ⟨bA, oA, rfl, hbA, -⟩ := HL.out hpos
          have HGD := Lib.hid (HL.out.dropG kN)
          have HGT := Lib.hid (HL.out.takeG kN)
          have hdl : (l.games.drop kN).length = l.games.length - kN := List.length_drop ..
          have htl : (l.games.take kN).length = kN := by rw [List.length_take]; omega
          have HDL := Lib.hid hdl
          have HTL := Lib.hid htl
          have hk1 : (kN : Int) ≤ (l.games.length : Int) := by omega
          have hk2 : (kN : Int) ≤ (c : Int) := by omega
          have hk3 : ¬ c < kN := by omega
          have hk4 : ¬ c = kN := by omega
          clear hdl htl
          go_upto_region 4 with fail
          rename_i KK aKK
          obtain ⟨rs, hrs⟩ : ∃ rs, l.games.drop kN ++ l.games.take kN = rs := ⟨_, rfl⟩
          have HRL : Hid (rs.length = l.games.length) := by show _ = _; rw [← hrs, List.length_append, HDL.out, HTL.out]; omega
          rw [hrs] at HOR
          have HRS := Lib.hid hrs
          have HGK : Hid (∀ j, j < rs.length → GmOk l.teams (gmx rs j)) := fun j hj => by
            rw [gmx_lt hj]
            have hm : rs[j] ∈ l.games.drop kN ++ l.games.take kN := by rw [hrs]; exact List.getElem_mem hj
            rcases List.mem_append.1 hm with h | h
            · exact HVV.out.mem (List.mem_of_mem_drop h)
            · exact HVV.out.mem (List.mem_of_mem_take h)
          clear hrs
          have TAIL : ∀ (u4 u5 u6 u10 u11 u12 u13 u14 u15 u16 u17 u18 u19 u20 u21 u22 u23 u24 u25 u26 u27 u28 u29 u30 u31 u32 u33 u34 u35 u36 u37 u38 u39 u40 u41 u42 u43 u44 u45 u46 u47 u48 u49 u50 u51 u52 u53 u54 u55 u56 u57 u58 u59 u60 u61 u62 u63 u64 u65 u66 u67 u68 u69 u70 u71 u72 u73 u74 u75 u76 u77 u78 u79 u80 u81 u82 u83 u84 u85 u86 u87 u88 u89 u90 u91 u92 u93 u94 u95 u96 u97 u98 u99 u100 u101 u102 u103 u104 u105 u106 u107 u108 u109 u110 u111 u112 u113 u114 u115 u116 u117 u118 u119 u120 u121 u122 u123 u124 u125 u126 u127 u128 u129 u130 u131 u132 u133 u134 u135 u136 u137 u138 u139 u140 u141 u142 u143 u144 u145 u146 u147 u148 u149 u150 u151 u152 u153 u154 u155 u156 u157 u158 u159 u160 u161 u162 u163 u164 u165 u166 u167 u168 u169 u170 u171 u172 u173 u174 u175 u176 u177 u178 u179 u180 u181 u182 u183 u184 u185 u186 u187 u188 u189 u190 u191 u192 u193 u194 u195 u196 u197 u198 u199 u200 u201 u202 u203 u204 u205 u206 u207 u208 u209 u210 u211 u212 u213 u214 u215 u216 u217 u218 u219 u220 u221 u222 u223 u224 u225 u226 u227 u228 u229 u230 u231 u232 u233 u234 u235 u236 u237 u238 u239 u240 u241 u242 u243 u244 u245 u246 : Value) (q : Nat) (A9 : Option Addr) (c9 : Nat) (W4 : World), Hid (Below x0.heap.size x0 W4) → Hid (At2 W4 q 24 (.int .i64 l.teams) (.slice A9 l.games.length c9)) → Hid (OwnM 70 x0.heap.size W4 (.slice A9 l.games.length c9) rs) → Hid ((Value.slice A9 l.games.length c9).ownBlock ≠ some q) → Hid (x0.heap.size ≤ q) → KK { tmps := #[.agg #[.int .i64 l.teams, .slice (some ⟨bA, oA, none⟩) l.games.length c], .slice Au rules.length cu, .int .u8 s, .pointer (some ⟨w.heap.size, 0, none⟩), u4, u5, u6, .int .i64 (kN : Int), .int .i64 (d : Int), .pointer (some ⟨q, 0, none⟩), u10, u11, u12, u13, u14, u15, u16, u17, u18, u19, u20, u21, u22, u23, u24, u25, u26, u27, u28, u29, u30, u31, u32, u33, u34, u35, u36, u37, u38, u39, u40, u41, u42, u43, u44, u45, u46, u47, u48, u49, u50, u51, u52, u53, u54, u55, u56, u57, u58, u59, u60, u61, u62, u63, u64, u65, u66, u67, u68, u69, u70, u71, u72, u73, u74, u75, u76, u77, u78, u79, u80, u81, u82, u83, u84, u85, u86, u87, u88, u89, u90, u91, u92, u93, u94, u95, u96, u97, u98, u99, u100, u101, u102, u103, u104, u105, u106, u107, u108, u109, u110, u111, u112, u113, u114, u115, u116, u117, u118, u119, u120, u121, u122, u123, u124, u125, u126, u127, u128, u129, u130, u131, u132, u133, u134, u135, u136, u137, u138, u139, u140, u141, u142, u143, u144, u145, u146, u147, u148, u149, u150, u151, u152, u153, u154, u155, u156, u157, u158, u159, u160, u161, u162, u163, u164, u165, u166, u167, u168, u169, u170, u171, u172, u173, u174, u175, u176, u177, u178, u179, u180, u181, u182, u183, u184, u185, u186, u187, u188, u189, u190, u191, u192, u193, u194, u195, u196, u197, u198, u199, u200, u201, u202, u203, u204, u205, u206, u207, u208, u209, u210, u211, u212, u213, u214, u215, u216, u217, u218, u219, u220, u221, u222, u223, u224, u225, u226, u227, u228, u229, u230, u231, u232, u233, u234, u235, u236, u237, u238, u239, u240, u241, u242, u243, u244, u245, u246], defers := [] } W4 := by
            intro u4 u5 u6 u10 u11 u12 u13 u14 u15 u16 u17 u18 u19 u20 u21 u22 u23 u24 u25 u26 u27 u28 u29 u30 u31 u32 u33 u34 u35 u36 u37 u38 u39 u40 u41 u42 u43 u44 u45 u46 u47 u48 u49 u50 u51 u52 u53 u54 u55 u56 u57 u58 u59 u60 u61 u62 u63 u64 u65 u66 u67 u68 u69 u70 u71 u72 u73 u74 u75 u76 u77 u78 u79 u80 u81 u82 u83 u84 u85 u86 u87 u88 u89 u90 u91 u92 u93 u94 u95 u96 u97 u98 u99 u100 u101 u102 u103 u104 u105 u106 u107 u108 u109 u110 u111 u112 u113 u114 u115 u116 u117 u118 u119 u120 u121 u122 u123 u124 u125 u126 u127 u128 u129 u130 u131 u132 u133 u134 u135 u136 u137 u138 u139 u140 u141 u142 u143 u144 u145 u146 u147 u148 u149 u150 u151 u152 u153 u154 u155 u156 u157 u158 u159 u160 u161 u162 u163 u164 u165 u166 u167 u168 u169 u170 u171 u172 u173 u174 u175 u176 u177 u178 u179 u180 u181 u182 u183 u184 u185 u186 u187 u188 u189 u190 u191 u192 u193 u194 u195 u196 u197 u198 u199 u200 u201 u202 u203 u204 u205 u206 u207 u208 u209 u210 u211 u212 u213 u214 u215 u216 u217 u218 u219 u220 u221 u222 u223 u224 u225 u226 u227 u228 u229 u230 u231 u232 u233 u234 u235 u236 u237 u238 u239 u240 u241 u242 u243 u244 u245 u246 q A9 c9 W4 HB4 HQ HO HNQ HQ0
            refine aKK _ _ ?_
            clear aKK KK HGD HGT HDL HTL hk1 hk2 hk3 hk4 hwk hkN HRS
            have HLx := HL
            have HUx := HU
            have HBx := HB
            have k0x := k0
            have k1x := k1
            have ltx := World.block_lt_of_cell? _ _ k0
            dsimp only at ltx
            have hb := HB4.out
            replace HL := Lib.hid (HL.out.step hb)
            replace HU := Lib.hid (HU.out.step hb)
            replace k0 := cell_of_ans hb k0
            replace k1 := cell_of_ans hb k1
            replace HB := Lib.hid (HB.out.trans (hb.mono HB.out.size))
            clear hb
            obtain ⟨gx, rfl, hgx, hgxl⟩ := HO.out.some_ (by rw [HRL.out]; exact hpos)
            have hgq : gx ≠ q := fun e => HNQ.out (by rw [e]; rfl)
            have hql := HQ.out.lt
            have HX4 := Lib.hid HB4.out
            clear HNQ
            go_upto_region 6 with fail
            have hb : Below W4.heap.size W4 (W4.alloc (.cells #[.int .i64 l.teams, .slice none 0 0] 24)) := (Below.refl _ _).alloc (Nat.le_refl _) _
            have HY : Hid (At2 (W4.alloc (.cells #[.int .i64 l.teams, .slice none 0 0] 24)) W4.heap.size 24 (.int .i64 l.teams) (.slice none 0 0)) := World.alloc_heap_new _ _
            have HZ5 : Hid ((W4.alloc (.cells #[.int .i64 l.teams, .slice none 0 0] 24)).heap.size = W4.heap.size + 1) := by show _ = _; simp
            replace HQ := Lib.hid (HQ.out.step hb)
            replace HO := Lib.hid (HO.out.step hb)
            replace HX4 : Hid (Below x0.heap.size x0 (W4.alloc (.cells #[.int .i64 l.teams, .slice none 0 0] 24))) := HX4.out.trans (hb.mono HX4.out.size)
            have HG5 : Hid (gx < W4.heap.size) := hgxl
            have HQ5 : Hid (q < W4.heap.size) := hql
            have HX0 : Hid (x0.heap.size ≤ W4.heap.size) := HB4.out.size
            have HGX : Hid (x0.heap.size ≤ gx) := hgx
            have HGQ : Hid (gx ≠ q) := hgq
            have HSWL : Hid (∀ j, j < rs.length → gmx (swapL rs (fun j => (s / 2 ^ (j % 8)).tmod 2 == 1)) j = if ((s / 2 ^ (j % 8)).tmod 2 == 1) then swG (gmx rs j) else gmx rs j) := fun j h => swapL_at rs _ j h
            have HSL : Hid ((swapL rs (fun j => (s / 2 ^ (j % 8)).tmod 2 == 1)).length = rs.length) := swapL_len rs _
            have HORX := Lib.hid (HOR.out _ (swapL_sw rs (fun j => (s / 2 ^ (j % 8)).tmod 2 == 1)))
            have HYAT : Hid (∀ j, j < rs.length → gmx (rs.map (shG T d)) j = shG T d (gmx rs j)) := fun j h => sh_at h
            have HYL : Hid ((rs.map (shG T d)).length = rs.length) := by show _ = _; simp
            clear hb hgx hgxl hgq hql HL HU HB k0 k1 HOR HB4
            generalize swapL rs (fun j => (s / 2 ^ (j % 8)).tmod 2 == 1) = xs at *
            generalize rs.map (shG T d) = ys at *
            generalize (W4.alloc (.cells #[.int .i64 l.teams, .slice none 0 0] 24)) = x5 at *
            obtain ⟨q10, hq10⟩ : ∃ q10, W4.heap.size = q10 := ⟨_, rfl⟩
            rw [hq10] at HY HZ5 HG5 HQ5 HX0 ⊢
            clear hq10
            go_wp2_with fail
            go_loopw [11] (fun i wr => ∃ (j : Nat) (Ay : Option Addr) (cy : Nat), j ≤ l.games.length ∧ i = .int .i64 j ∧ At2 wr q 24 (.int .i64 l.teams) (.slice (some ⟨gx, 0, none⟩) l.games.length c9) ∧ At2 wr q10 24 (.int .i64 l.teams) (.slice Ay j cy) ∧ OwnM 70 x0.heap.size wr (.slice (some ⟨gx, 0, none⟩) l.games.length c9) (mixL xs rs j) ∧ OwnM 70 (q10 + 1) wr (.slice Ay j cy) (ys.take j) ∧ Below x0.heap.size x0 wr ∧ q10 + 1 ≤ wr.heap.size) (fun i _ => l.games.length - (intOf i).toNat)
            case atStart => exact ⟨0, none, 0, by omega, rfl, HQ.out, HY.out, by rw [mix_zero]; exact HO.out, by simp; exact OwnM.nil _ _ _, HX4.out, by have := HZ5.out; omega⟩
            case round =>
              clear HQ HY HO HX4 HZ5
              obtain ⟨j, Ay, cy, hj, rfl, hq, hy, hox, hoy, hbx, hzw⟩ := hrel
              obtain ⟨⟨q0, q1⟩, -⟩ := hq.cells
              obtain ⟨⟨e0, e1⟩, ef⟩ := hy.cells
              have k0 := (hbx.cell (p := ⟨w.heap.size, 0, none⟩) ltx).trans k0x
              have k1 := (hbx.cell (p := ⟨w.heap.size, 1, none⟩) ltx).trans k1x
              have HQ := Lib.hid hq
              have HY := Lib.hid hy
              have HOX := Lib.hid hox
              have HOY := Lib.hid hoy
              have HBX := Lib.hid hbx
              have HZW := Lib.hid hzw
              clear hq hy hox hoy hbx hzw ef
              by_cases h1 : j < l.games.length
              · have h1i : (j : Int) < (l.games.length : Int) := by omega
                have hml : (mixL xs rs j).length = l.games.length := by rw [mix_len HSL.out (by rw [HRL.out]; omega)]; exact HRL.out
                obtain ⟨hw5, hfz⟩ := HOX.out.elem (show j < (mixL xs rs j).length by omega)
                rw [mix_at HSL.out (by rw [HRL.out]; exact h1)] at hw5
                obtain ⟨c1, c2, c3, c4, c5⟩ := hw5
                have HFZ := Lib.hid hfz
                have hgw : gx < wr.heap.size := by have := HG5.out; have := HZW.out; omega
                have HA := Lib.hid (HSWL.out j (by rw [HRL.out]; exact h1))
                have HYA := Lib.hid (HYAT.out j (by rw [HRL.out]; exact h1))
                have HMS : Hid (gmx xs j = gmx rs j → mixL xs rs (j + 1) = mixL xs rs j) := fun h => mix_same HSL.out (by rw [HRL.out]; exact h1) h
                have HMC : Hid (mixL xs rs (j + 1) = (mixL xs rs j).set j (gmx xs j)) := mix_succ HSL.out (by rw [HRL.out]; exact h1)
                have HYT : Hid (ys.take (j + 1) = ys.take j ++ [gmx ys j]) := take_snocM (by rw [HYL.out, HRL.out]; exact h1)
                have HYTL : Hid ((ys.take j).length = j) := by show _ = _; rw [List.length_take, HYL.out, HRL.out]; omega
                have HML := Lib.hid hml
                have hgk := HGK.out j (by rw [HRL.out]; exact h1)
                have hga := And.intro hgk.a0 hgk.an
                have hgb := And.intro hgk.b0 hgk.bn
                clear hgk
                clear hfz hml
                generalize gmx xs j = gX at *
                generalize gmx ys j = gY at *
                generalize gmx rs j = gg at *
                obtain ⟨ga, gb, gpa, gpb, gop⟩ := gg
                dsimp only at c1 c2 c3 c4 c5 hga hgb
                go_upto_region 10 with fail
                have hb : Below wr.heap.size wr (wr.alloc (.cells #[.int .i64 ga, .int .i64 gb, .int .i64 gpa, .int .i64 gpb, .bool gop] 70)) := (Below.refl _ _).alloc (Nat.le_refl _) _
                have v0 : (wr.alloc (.cells #[.int .i64 ga, .int .i64 gb, .int .i64 gpa, .int .i64 gpb, .bool gop] 70)).cell? ⟨wr.heap.size, 0, none⟩ = some (.int .i64 ga) := by simp
                have v1 : (wr.alloc (.cells #[.int .i64 ga, .int .i64 gb, .int .i64 gpa, .int .i64 gpb, .bool gop] 70)).cell? ⟨wr.heap.size, 1, none⟩ = some (.int .i64 gb) := by simp
                have v2 : (wr.alloc (.cells #[.int .i64 ga, .int .i64 gb, .int .i64 gpa, .int .i64 gpb, .bool gop] 70)).cell? ⟨wr.heap.size, 2, none⟩ = some (.int .i64 gpa) := by simp
                have v3 : (wr.alloc (.cells #[.int .i64 ga, .int .i64 gb, .int .i64 gpa, .int .i64 gpb, .bool gop] 70)).cell? ⟨wr.heap.size, 3, none⟩ = some (.int .i64 gpb) := by simp
                have v4 : (wr.alloc (.cells #[.int .i64 ga, .int .i64 gb, .int .i64 gpa, .int .i64 gpb, .bool gop] 70)).cell? ⟨wr.heap.size, 4, none⟩ = some (.bool gop) := by simp
                have HV5 : Hid (BoxG (wr.alloc (.cells #[.int .i64 ga, .int .i64 gb, .int .i64 gpa, .int .i64 gpb, .bool gop] 70)) wr.heap.size ⟨ga, gb, gpa, gpb, gop⟩) := World.alloc_heap_new _ _
                have HWS : Hid ((wr.alloc (.cells #[.int .i64 ga, .int .i64 gb, .int .i64 gpa, .int .i64 gpb, .bool gop] 70)).heap.size = wr.heap.size + 1) := by show _ = _; simp
                have HOYr := HOY
                replace HQ := Lib.hid (HQ.out.step hb)
                replace HY := Lib.hid (HY.out.step hb)
                replace HOX := Lib.hid (HOX.out.step hb)
                replace HOY := Lib.hid (HOY.out.step hb)
                replace HBX := Lib.hid (HBX.out.trans (hb.mono HBX.out.size))
                replace q0 := cell_of_ans hb q0
                replace q1 := cell_of_ans hb q1
                replace e0 := cell_of_ans hb e0
                replace e1 := cell_of_ans hb e1
                replace k0 := cell_of_ans hb k0
                replace k1 := cell_of_ans hb k1
                have HGB : Hid (gx < wr.heap.size) := hgw
                have HYB : Hid (∀ g, (Value.slice Ay j cy).ownBlock = some g → g < wr.heap.size ∧ q10 + 1 ≤ g) := fun g e => ⟨(World.ownsRow.lt HOYr.out g e).2, (World.ownsRow.lt HOYr.out g e).1⟩
                have HZB : Hid (q10 < wr.heap.size) := by have := HZW.out; show _ < _; omega
                clear hb c1 c2 c3 c4 c5 HFZ hgw HOYr
                generalize (wr.alloc (.cells #[.int .i64 ga, .int .i64 gb, .int .i64 gpa, .int .i64 gpb, .bool gop] 70)) = wa at *
                obtain ⟨bb, hbb⟩ : ∃ bb, wr.heap.size = bb := ⟨_, rfl⟩
                rw [hbb] at v0 v1 v2 v3 v4 HV5 HWS HGB HYB HZB HZW ⊢
                clear hbb
                have hTT := HTI.out
                have hwa : IntKind.i64.wrap (ga + (d : Int)) = ga + (d : Int) := IntWalk.i64_in _ (by omega)
                have hwb : IntKind.i64.wrap (gb + (d : Int)) = gb + (d : Int) := IntWalk.i64_in _ (by omega)
                obtain ⟨sa, hsa⟩ : ∃ sa, shI T d ga = sa := ⟨_, rfl⟩
                obtain ⟨sb, hsb⟩ : ∃ sb, shI T d gb = sb := ⟨_, rfl⟩
                have hra := shI_rng (T := T) (d := d) (by omega) ga
                have hrb := shI_rng (T := T) (d := d) (by omega) gb
                have hta : (ga + (d : Int)).tmod l.teams = sa := by rw [Int.tmod_eq_emod_of_nonneg (by omega), hTT, ← hsa]; rfl
                have htb2 : (gb + (d : Int)).tmod l.teams = sb := by rw [Int.tmod_eq_emod_of_nonneg (by omega), hTT, ← hsb]; rfl
                rw [hsa] at hra
                rw [hsb] at hrb
                have hwsa : IntKind.i64.wrap sa = sa := IntWalk.i64_in _ (by omega)
                have hwsb : IntKind.i64.wrap sb = sb := IntWalk.i64_in _ (by omega)
                have HYE : Hid (gY = ⟨sa, sb, gpa, gpb, gop⟩) := by show _ = _; rw [HYA.out, ← hsa, ← hsb]; rfl
                clear hTT hsa hsb HYA
                have hvf := HV5.out.cells.2
                have vf0 := hvf 0
                have vf1 := hvf 1
                clear hvf
                generalize ys.take j = yt at *
                have hqb : q < bb := by have := HQ5.out; have := HZB.out; omega
                have HQB : Hid (q < bb) := hqb
                have ltb : w.heap.size < bb := by have := HX0.out; have := HZB.out; omega
                clear hqb
                cases htb : ((s / 2 ^ (j % 8)).tmod 2 == 1)
                · have HM1 : Hid (mixL xs rs (j + 1) = mixL xs rs j) := HMS.out (by rw [HA.out, htb]; rfl)
                  clear HA HMS HMC
                  go_upto_region 12 with fail
                  clear htb
                  refine wp_region_noPanic ?_
                  refine wp_region_any (by kernel_rfl) (wpAny_of_U (S1 := fun W' : World => W'.cell? ⟨bb, 0, none⟩ = some (.int .i64 ga) ∧ W'.cell? ⟨bb, 1, none⟩ = some (.int .i64 gb)) (S2 := fun W' : World => Below bb wa W') (s := 15) _ _ _ _ ?_)
                  change wpAnyU _ _ _ _ _ _ _ _ _ _ wa.drew
                  have hI : ((15 ≠ 15 ∧ True → True) ∧ True) := ⟨fun _ => trivial, trivial⟩
                  have hS1 : wa.drew.cell? ⟨bb, 0, none⟩ = some (.int .i64 ga) ∧ wa.drew.cell? ⟨bb, 1, none⟩ = some (.int .i64 gb) := ⟨by simpa using v0, by simpa using v1⟩
                  have hS2 : Below bb wa wa.drew := (Below.refl _ _).drew
                  clear hI
                  have HVD := Lib.hid (HV5.out.step (Below.refl _ _).drew)
                  generalize wa.drew = yd at *
                  have vfd0 := HVD.out.cells.2 0
                  have vfd1 := HVD.out.cells.2 1
                  refine' U_take (b := false) (i := 0) (v := _) rfl (by kernel_rfl) (by kernel_rfl) (by kernel_rfl) (by decide) (by decide +kernel) (by decide +kernel) (fun _ _ _ h => h) (by kernel_rfl) ⟨fun _ => hS1, hS2⟩ ?_ ?_
                  rotate_left 1
                  · intro Wv hW
                    have hW2 : Below bb wa Wv := hW
                    have g0 := (hW2.cell (p := ⟨w.heap.size, 0, none⟩) ltb).trans k0
                    go_simp
                    first | done | with_reducible rfl | omega
                  try simp only [Act.put, List.getElem_toArray, List.getElem_cons_zero, List.getElem_cons_succ, List.setIfInBounds_toArray, List.set_cons_zero, List.set_cons_succ]
                  refine' U_take (b := true) (i := 1) (v := _) rfl (by kernel_rfl) (by kernel_rfl) (by kernel_rfl) (by decide) (by decide +kernel) (by decide +kernel) (fun _ _ _ h => h) (by kernel_rfl) ⟨fun _ => hS1, hS2⟩ ?_ ?_
                  rotate_left 1
                  · intro Wv hW
                    have hW1 : Wv.cell? ⟨bb, 0, none⟩ = some (.int .i64 ga) ∧ Wv.cell? ⟨bb, 1, none⟩ = some (.int .i64 gb) := hW
                    obtain ⟨v0, v1⟩ := hW1
                    go_simp
                    first | done | with_reducible rfl | omega
                  try simp only [Act.put, List.getElem_toArray, List.getElem_cons_zero, List.getElem_cons_succ, List.setIfInBounds_toArray, List.set_cons_zero, List.set_cons_succ]
                  refine' U_take (b := false) (i := 2) (v := _) rfl (by kernel_rfl) (by kernel_rfl) (by kernel_rfl) (by decide) (by decide +kernel) (by decide +kernel) (fun _ _ _ h => h) (by kernel_rfl) ⟨fun _ => hS1, hS2⟩ ?_ ?_
                  rotate_left 1
                  · intro Wv hW
                    have hW2 : Below bb wa Wv := hW
                    have g0 := (hW2.cell (p := ⟨w.heap.size, 0, none⟩) ltb).trans k0
                    go_simp
                    first | done | with_reducible rfl | omega
                  try simp only [Act.put, List.getElem_toArray, List.getElem_cons_zero, List.getElem_cons_succ, List.setIfInBounds_toArray, List.set_cons_zero, List.set_cons_succ]
                  refine' U_take (b := false) (i := 3) (v := _) rfl (by kernel_rfl) (by kernel_rfl) (by kernel_rfl) (by decide) (by decide +kernel) (by decide +kernel) (fun _ _ _ h => h) (by kernel_rfl) ⟨fun _ => hS1, hS2⟩ ?_ ?_
                  rotate_left 1
                  · intro Wv hW
                    have hW2 : Below bb wa Wv := hW
                    have g0 := (hW2.cell (p := ⟨w.heap.size, 0, none⟩) ltb).trans k0
                    go_simp
                    first | done | with_reducible rfl | omega
                  try simp only [Act.put, List.getElem_toArray, List.getElem_cons_zero, List.getElem_cons_succ, List.setIfInBounds_toArray, List.set_cons_zero, List.set_cons_succ]
                  refine' U_take (b := false) (i := 4) (v := _) rfl (by kernel_rfl) (by kernel_rfl) (by kernel_rfl) (by decide) (by decide +kernel) (by decide +kernel) (fun _ _ _ h => h) (by kernel_rfl) ⟨fun _ => hS1, hS2⟩ ?_ ?_
                  rotate_left 1
                  · intro Wv hW
                    have hW2 : Below bb wa Wv := hW
                    have g0 := (hW2.cell (p := ⟨w.heap.size, 0, none⟩) ltb).trans k0
                    go_simp
                    first | done | with_reducible rfl | omega
                  try simp only [Act.put, List.getElem_toArray, List.getElem_cons_zero, List.getElem_cons_succ, List.setIfInBounds_toArray, List.set_cons_zero, List.set_cons_succ]
                  refine' U_take (b := false) (i := 5) (v := _) rfl (by kernel_rfl) (by kernel_rfl) (by kernel_rfl) (by decide) (by decide +kernel) (by decide +kernel) (fun _ _ _ h => h) (by kernel_rfl) ⟨fun _ => hS1, hS2⟩ ?_ ?_
                  rotate_left 1
                  · intro Wv hW
                    have hW2 : Below bb wa Wv := hW
                    have g0 := (hW2.cell (p := ⟨w.heap.size, 0, none⟩) ltb).trans k0
                    go_simp
                    first | done | with_reducible rfl | omega
                  try simp only [Act.put, List.getElem_toArray, List.getElem_cons_zero, List.getElem_cons_succ, List.setIfInBounds_toArray, List.set_cons_zero, List.set_cons_succ]
                  refine' U_take (b := false) (i := 6) (v := _) rfl (by kernel_rfl) (by kernel_rfl) (by kernel_rfl) (by decide) (by decide +kernel) (by decide +kernel) (fun _ _ _ h => h) (by kernel_rfl) ⟨fun _ => hS1, hS2⟩ ?_ ?_
                  rotate_left 1
                  · intro Wv hW
                    have hW2 : Below bb wa Wv := hW
                    have g0 := (hW2.cell (p := ⟨w.heap.size, 0, none⟩) ltb).trans k0
                    go_simp
                    first | done | with_reducible rfl | omega
                  try simp only [Act.put, List.getElem_toArray, List.getElem_cons_zero, List.getElem_cons_succ, List.setIfInBounds_toArray, List.set_cons_zero, List.set_cons_succ]
                  refine' U_take (b := false) (i := 7) (v := _) rfl (by kernel_rfl) (by kernel_rfl) (by kernel_rfl) (by decide) (by decide +kernel) (by decide +kernel) (fun _ _ _ h => h) (by kernel_rfl) ⟨fun _ => hS1, hS2⟩ ?_ ?_
                  rotate_left 1
                  · intro Wv hW
                    have hW2 : Below bb wa Wv := hW
                    have g0 := (hW2.cell (p := ⟨w.heap.size, 0, none⟩) ltb).trans k0
                    go_simp
                    first | done | with_reducible rfl | omega
                  try simp only [Act.put, List.getElem_toArray, List.getElem_cons_zero, List.getElem_cons_succ, List.setIfInBounds_toArray, List.set_cons_zero, List.set_cons_succ]
                  refine' U_take (b := true) (i := 8) (v := _) rfl (by kernel_rfl) (by kernel_rfl) (by kernel_rfl) (by decide) (by decide +kernel) (by decide +kernel) (fun _ _ _ h => h) (by kernel_rfl) ⟨fun _ => hS1, hS2⟩ ?_ ?_
                  rotate_left 1
                  · intro Wv hW
                    have hW1 : Wv.cell? ⟨bb, 0, none⟩ = some (.int .i64 ga) ∧ Wv.cell? ⟨bb, 1, none⟩ = some (.int .i64 gb) := hW
                    obtain ⟨v0, v1⟩ := hW1
                    go_simp
                    first | done | with_reducible rfl | omega
                  try simp only [Act.put, List.getElem_toArray, List.getElem_cons_zero, List.getElem_cons_succ, List.setIfInBounds_toArray, List.set_cons_zero, List.set_cons_succ]
                  refine' U_take (b := false) (i := 9) (v := _) rfl (by kernel_rfl) (by kernel_rfl) (by kernel_rfl) (by decide) (by decide +kernel) (by decide +kernel) (fun _ _ _ h => h) (by kernel_rfl) ⟨fun _ => hS1, hS2⟩ ?_ ?_
                  rotate_left 1
                  · intro Wv hW
                    have hW2 : Below bb wa Wv := hW
                    have g0 := (hW2.cell (p := ⟨w.heap.size, 0, none⟩) ltb).trans k0
                    go_simp
                    first | done | with_reducible rfl | omega
                  try simp only [Act.put, List.getElem_toArray, List.getElem_cons_zero, List.getElem_cons_succ, List.setIfInBounds_toArray, List.set_cons_zero, List.set_cons_succ]
                  refine' U_take (b := false) (i := 10) (v := _) rfl (by kernel_rfl) (by kernel_rfl) (by kernel_rfl) (by decide) (by decide +kernel) (by decide +kernel) (fun _ _ _ h => h) (by kernel_rfl) ⟨fun _ => hS1, hS2⟩ ?_ ?_
                  rotate_left 1
                  · intro Wv hW
                    have hW2 : Below bb wa Wv := hW
                    have g0 := (hW2.cell (p := ⟨w.heap.size, 0, none⟩) ltb).trans k0
                    go_simp
                    first | done | with_reducible rfl | omega
                  try simp only [Act.put, List.getElem_toArray, List.getElem_cons_zero, List.getElem_cons_succ, List.setIfInBounds_toArray, List.set_cons_zero, List.set_cons_succ]
                  refine' U_take (b := false) (i := 11) (v := _) rfl (by kernel_rfl) (by kernel_rfl) (by kernel_rfl) (by decide) (by decide +kernel) (by decide +kernel) (fun _ _ _ h => h) (by kernel_rfl) ⟨fun _ => hS1, hS2⟩ ?_ ?_
                  rotate_left 1
                  · intro Wv hW
                    have hW2 : Below bb wa Wv := hW
                    have g0 := (hW2.cell (p := ⟨w.heap.size, 0, none⟩) ltb).trans k0
                    go_simp
                    first | done | with_reducible rfl | omega
                  try simp only [Act.put, List.getElem_toArray, List.getElem_cons_zero, List.getElem_cons_succ, List.setIfInBounds_toArray, List.set_cons_zero, List.set_cons_succ]
                  refine' U_take (b := false) (i := 12) (v := _) rfl (by kernel_rfl) (by kernel_rfl) (by kernel_rfl) (by decide) (by decide +kernel) (by decide +kernel) (fun _ _ _ h => h) (by kernel_rfl) ⟨fun _ => hS1, hS2⟩ ?_ ?_
                  rotate_left 1
                  · intro Wv hW
                    have hW2 : Below bb wa Wv := hW
                    have g0 := (hW2.cell (p := ⟨w.heap.size, 0, none⟩) ltb).trans k0
                    go_simp
                    first | done | with_reducible rfl | omega
                  try simp only [Act.put, List.getElem_toArray, List.getElem_cons_zero, List.getElem_cons_succ, List.setIfInBounds_toArray, List.set_cons_zero, List.set_cons_succ]
                  refine' U_take (b := false) (i := 13) (v := _) rfl (by kernel_rfl) (by kernel_rfl) (by kernel_rfl) (by decide) (by decide +kernel) (by decide +kernel) (fun _ _ _ h => h) (by kernel_rfl) ⟨fun _ => hS1, hS2⟩ ?_ ?_
                  rotate_left 1
                  · intro Wv hW
                    have hW2 : Below bb wa Wv := hW
                    have g0 := (hW2.cell (p := ⟨w.heap.size, 0, none⟩) ltb).trans k0
                    go_simp
                    first | done | with_reducible rfl | omega
                  try simp only [Act.put, List.getElem_toArray, List.getElem_cons_zero, List.getElem_cons_succ, List.setIfInBounds_toArray, List.set_cons_zero, List.set_cons_succ]
                  refine' U_take (b := false) (i := 14) (v := _) rfl (by kernel_rfl) (by kernel_rfl) (by kernel_rfl) (by decide) (by decide +kernel) (by decide +kernel) (fun _ _ _ h => h) (by kernel_rfl) ⟨fun _ => hS1, hS2⟩ ?_ ?_
                  rotate_left 1
                  · intro Wv hW
                    have hW2 : Below bb wa Wv := hW
                    have g0 := (hW2.cell (p := ⟨w.heap.size, 0, none⟩) ltb).trans k0
                    go_simp
                    first | done | with_reducible rfl | omega
                  try simp only [Act.put, List.getElem_toArray, List.getElem_cons_zero, List.getElem_cons_succ, List.setIfInBounds_toArray, List.set_cons_zero, List.set_cons_succ]
                  refine U_one (i := 15) (by kernel_rfl) rfl (fun K hK => ?_)
                  try go_simp
                  have hS3 : Below bb wa (yd.setCell ⟨bb, 0, none⟩ (.int .i64 sa)) := hS2.setCell (Nat.le_refl bb) _
                  refine hK.out _ _ ⟨fun h => absurd rfl h.1, hS3⟩ ?_
                  clear hK K
                  try simp only [Act.put, List.getElem_toArray, List.getElem_cons_zero, List.getElem_cons_succ, List.setIfInBounds_toArray, List.set_cons_zero, List.set_cons_succ]
                  refine' U_take (b := false) (i := 16) (v := _) rfl (by kernel_rfl) (by kernel_rfl) (by kernel_rfl) (by decide) (by decide +kernel) (by decide +kernel) (fun _ _ _ h => h) (by kernel_rfl) ⟨fun h => absurd h (by decide +kernel), hS3⟩ ?_ ?_
                  rotate_left 1
                  · intro Wv hW
                    have hW2 : Below bb wa Wv := hW
                    have g0 := (hW2.cell (p := ⟨w.heap.size, 0, none⟩) ltb).trans k0
                    go_simp
                    first | done | with_reducible rfl | omega
                  try simp only [Act.put, List.getElem_toArray, List.getElem_cons_zero, List.getElem_cons_succ, List.setIfInBounds_toArray, List.set_cons_zero, List.set_cons_succ]
                  refine U_one (i := 17) (by kernel_rfl) rfl (fun K hK => ?_)
                  try go_simp
                  refine hK.out _ _ ⟨fun h => absurd h.2 (by decide +kernel), hS3.setCell (Nat.le_refl bb) (.int .i64 sb)⟩ ?_
                  clear hK K
                  try simp only [Act.put, List.getElem_toArray, List.getElem_cons_zero, List.getElem_cons_succ, List.setIfInBounds_toArray, List.set_cons_zero, List.set_cons_succ]
                  refine U_done (by kernel_rfl) ?_ _
                  refine NoPanic.normal ?_
                  try go_simp
                  have hS4 : Below bb wa ((yd.setCell ⟨bb, 0, none⟩ (.int .i64 sa)).setCell ⟨bb, 1, none⟩ (.int .i64 sb)) := hS3.setCell (Nat.le_refl bb) _
                  have HVZ := Lib.hid (HVD.out.set01 sa sb)
                  replace HQ := Lib.hid (HQ.out.low hS4 HQB.out)
                  replace HY := Lib.hid (HY.out.low hS4 HZB.out)
                  replace HOX := Lib.hid (HOX.out.lowB (fun g e => by have e2 : gx = g := Option.some.inj e; have := HGB.out; omega) hS4)
                  replace HOY := Lib.hid (HOY.out.lowB (fun g e => (HYB.out g e).1) hS4)
                  replace HBX := Lib.hid (HBX.out.trans (hS4.mono (by have := HX0.out; have := HZB.out; omega)))
                  have hwz : q10 + 1 ≤ ((yd.setCell ⟨bb, 0, none⟩ (.int .i64 sa)).setCell ⟨bb, 1, none⟩ (.int .i64 sb)).heap.size := by have a := hS4.size; have b := HWS.out; have := HZB.out; omega
                  clear hS1 hS2 hS3 hS4 HVD vfd0 vfd1 v0 v1 v2 v3 v4 HV5 k0 k1
                  try clear q0 q1 e0 e1 vf0 vf1
                  dsimp only at HVZ
                  generalize ((yd.setCell ⟨bb, 0, none⟩ (.int .i64 sa)).setCell ⟨bb, 1, none⟩ (.int .i64 sb)) = wz at *
                  obtain ⟨⟨v0, v1, v2, v3, v4⟩, -⟩ := HVZ.out.cells
                  dsimp only at v0 v1 v2 v3 v4
                  obtain ⟨⟨e0, e1⟩, -⟩ := HY.out.cells
                  have ltz := World.block_lt_of_cell? _ _ e1
                  dsimp only at ltz
                  have ltv := World.block_lt_of_cell? _ _ v0
                  dsimp only at ltv
                  have hyl : yt.length ≤ 1000000 := by have := HYTL.out; omega
                  go_wp2_with (at_builtin; refine wpList_appM (.inr ⟨rfl, rfl⟩) (.tmp 126) (.tmp 128) rfl rfl (q10 + 1) wz _ yt ⟨sa, sb, gpa, gpb, gop⟩ rfl rfl HOY hyl hwz ?_; intro A2 c2 w2 HO2 HB2; have HY2 := Lib.hid (HY.out.low HB2.out (Nat.lt_succ_self q10)); obtain ⟨⟨e20, e21⟩, e2f⟩ := HY2.out.cells; have e2g := e2f 1; clear e2f)
                  have HQ2 := Lib.hid (HQ.out.low HB2.out (show q < q10 + 1 by have := HQ5.out; omega))
                  have HOX2 := Lib.hid (HOX.out.lowB (fun g e => by have e2 : gx = g := Option.some.inj e; have := HG5.out; omega) HB2.out)
                  have HBX2 := Lib.hid (HBX.out.trans (HB2.out.mono (show x0.heap.size ≤ q10 + 1 by have := HX0.out; omega)))
                  have hz2 := HB2.out.size
                  rw [HYTL.out] at HO2
                  try simp only [HYTL.out]
                  have HQ3 := Lib.hid (HQ2.out.farZ (g := q10) (i := 1) (show q10 ≠ q by have := HQ5.out; omega) (.slice A2 (j + 1) c2))
                  have HY3 := Lib.hid (HY2.out.set1 (.slice A2 (j + 1) c2))
                  have HOX3 := Lib.hid (HOX2.out.farQ (q := q10) (o := 1) (fun e => by have e2 : gx = q10 := Option.some.inj e; have := HG5.out; omega) (.slice A2 (j + 1) c2))
                  have HOY3 := Lib.hid (HO2.out.farQ (q := q10) (o := 1) (fun e => by have := (World.ownsRow.lt HO2.out q10 e).1; omega) (.slice A2 (j + 1) c2))
                  have HBX3 := Lib.hid (HBX2.out.setCell (p := ⟨q10, 1, none⟩) HX0.out (.slice A2 (j + 1) c2))
                  have hz3 : q10 + 1 ≤ (w2.setCell ⟨q10, 1, none⟩ (.slice A2 (j + 1) c2)).heap.size := by simp [World.setCell]; omega
                  go_roundw
                  case rel => exact ⟨j + 1, A2, c2, by omega, by go_num, HQ3.out, HY3.out, by rw [HM1.out]; exact HOX3.out, by rw [HYT.out, HYE.out]; exact HOY3.out, HBX3.out, hz3⟩
                  case measure => simp [intOf]; omega
                · have HM1 : Hid (mixL xs rs (j + 1) = (mixL xs rs j).set j ⟨gb, ga, gpb, gpa, gop⟩) := by show _ = _; rw [HMC.out, HA.out, htb]; rfl
                  clear HA HMS HMC
                  obtain ⟨hd5, hfz⟩ := HOX.out.elem (show j < (mixL xs rs j).length by rw [HML.out]; exact h1)
                  obtain ⟨d1, d2, d3, d4, d5⟩ := hd5
                  generalize gmx (mixL xs rs j) j = gm at d1 d2 d3 d4 d5
                  have f0 := hfz (j * 5)
                  have f1 := hfz (j * 5 + 1)
                  have f2 := hfz (j * 5 + 2)
                  have f3 := hfz (j * 5 + 3)
                  have f4 := hfz (j * 5 + 4)
                  clear hfz
                  go_upto_region 12 with fail
                  clear htb f0 f1 f2 f3 f4 d1 d2 d3 d4 d5
                  have ng1 : gx ≠ q := HGQ.out
                  have ng2 : gx ≠ q10 := by have := HG5.out; omega
                  have ng3 : gx ≠ bb := by have := HGB.out; omega
                  have ng4 : (Value.slice Ay j cy).ownBlock ≠ some gx := fun e => by have := (HYB.out gx e).2; have := HG5.out; omega
                  have ng5 : (⟨gx, 0, none⟩ : Addr).block ≠ w.heap.size := by have := HGX.out; show gx ≠ w.heap.size; omega
                  replace HQ := Lib.hid (HQ.out.farSet (k := j) ng1 ⟨gb, ga, gpb, gpa, gop⟩)
                  replace HY := Lib.hid (HY.out.farSet (k := j) ng2 ⟨gb, ga, gpb, gpa, gop⟩)
                  replace HV5 := Lib.hid (HV5.out.farSet (k := j) ng3 ⟨gb, ga, gpb, gpa, gop⟩)
                  replace HOX := Lib.hid (HOX.out.stored70 (show j < (mixL xs rs j).length by rw [HML.out]; exact h1) ⟨gb, ga, gpb, gpa, gop⟩)
                  replace HOY := Lib.hid (HOY.out.farSet (k := j) ng4 ⟨gb, ga, gpb, gpa, gop⟩)
                  replace HBX := Lib.hid (below_setM HBX.out HGX.out j ⟨gb, ga, gpb, gpa, gop⟩)
                  have hkb := HBX.out
                  replace k0 := (hkb.cell (p := ⟨w.heap.size, 0, none⟩) ltx).trans k0x
                  replace k1 := (hkb.cell (p := ⟨w.heap.size, 1, none⟩) ltx).trans k1x
                  replace HWS : Hid ((setM wa gx j ⟨gb, ga, gpb, gpa, gop⟩).heap.size = bb + 1) := by have := HWS.out; show _ = _; simp [setM, World.setCell]; exact this
                  clear ng1 ng2 ng3 ng4 ng5 hkb q0 q1 e0 e1 v0 v1 v2 v3 v4 vf0 vf1
                  unfold setM at HQ HY HV5 HOX HOY HBX k0 k1 HWS
                  dsimp only at HQ HY HV5 HOX HOY HBX k0 k1 HWS
                  generalize (((((wa.setCell ⟨gx, j * 5, none⟩ (.int .i64 gb)).setCell ⟨gx, j * 5 + 1, none⟩ (.int .i64 ga)).setCell ⟨gx, j * 5 + 2, none⟩ (.int .i64 gpb)).setCell ⟨gx, j * 5 + 3, none⟩ (.int .i64 gpa)).setCell ⟨gx, j * 5 + 4, none⟩ (.bool gop)) = wb at *
                  obtain ⟨v0, v1, v2, v3, v4⟩ := HV5.out.cells.1
                  dsimp only at v0 v1 v2 v3 v4
                  refine wp_region_noPanic ?_
                  refine wp_region_any (by kernel_rfl) (wpAny_of_U (S1 := fun W' : World => W'.cell? ⟨bb, 0, none⟩ = some (.int .i64 ga) ∧ W'.cell? ⟨bb, 1, none⟩ = some (.int .i64 gb)) (S2 := fun W' : World => Below bb wb W') (s := 15) _ _ _ _ ?_)
                  change wpAnyU _ _ _ _ _ _ _ _ _ _ wb.drew
                  have hI : ((15 ≠ 15 ∧ True → True) ∧ True) := ⟨fun _ => trivial, trivial⟩
                  have hS1 : wb.drew.cell? ⟨bb, 0, none⟩ = some (.int .i64 ga) ∧ wb.drew.cell? ⟨bb, 1, none⟩ = some (.int .i64 gb) := ⟨by simpa using v0, by simpa using v1⟩
                  have hS2 : Below bb wb wb.drew := (Below.refl _ _).drew
                  clear hI
                  have HVD := Lib.hid (HV5.out.step (Below.refl _ _).drew)
                  generalize wb.drew = yd at *
                  have vfd0 := HVD.out.cells.2 0
                  have vfd1 := HVD.out.cells.2 1
                  refine' U_take (b := false) (i := 0) (v := _) rfl (by kernel_rfl) (by kernel_rfl) (by kernel_rfl) (by decide) (by decide +kernel) (by decide +kernel) (fun _ _ _ h => h) (by kernel_rfl) ⟨fun _ => hS1, hS2⟩ ?_ ?_
                  rotate_left 1
                  · intro Wv hW
                    have hW2 : Below bb wb Wv := hW
                    have g0 := (hW2.cell (p := ⟨w.heap.size, 0, none⟩) ltb).trans k0
                    go_simp
                    first | done | with_reducible rfl | omega
                  try simp only [Act.put, List.getElem_toArray, List.getElem_cons_zero, List.getElem_cons_succ, List.setIfInBounds_toArray, List.set_cons_zero, List.set_cons_succ]
                  refine' U_take (b := true) (i := 1) (v := _) rfl (by kernel_rfl) (by kernel_rfl) (by kernel_rfl) (by decide) (by decide +kernel) (by decide +kernel) (fun _ _ _ h => h) (by kernel_rfl) ⟨fun _ => hS1, hS2⟩ ?_ ?_
                  rotate_left 1
                  · intro Wv hW
                    have hW1 : Wv.cell? ⟨bb, 0, none⟩ = some (.int .i64 ga) ∧ Wv.cell? ⟨bb, 1, none⟩ = some (.int .i64 gb) := hW
                    obtain ⟨v0, v1⟩ := hW1
                    go_simp
                    first | done | with_reducible rfl | omega
                  try simp only [Act.put, List.getElem_toArray, List.getElem_cons_zero, List.getElem_cons_succ, List.setIfInBounds_toArray, List.set_cons_zero, List.set_cons_succ]
                  refine' U_take (b := false) (i := 2) (v := _) rfl (by kernel_rfl) (by kernel_rfl) (by kernel_rfl) (by decide) (by decide +kernel) (by decide +kernel) (fun _ _ _ h => h) (by kernel_rfl) ⟨fun _ => hS1, hS2⟩ ?_ ?_
                  rotate_left 1
                  · intro Wv hW
                    have hW2 : Below bb wb Wv := hW
                    have g0 := (hW2.cell (p := ⟨w.heap.size, 0, none⟩) ltb).trans k0
                    go_simp
                    first | done | with_reducible rfl | omega
                  try simp only [Act.put, List.getElem_toArray, List.getElem_cons_zero, List.getElem_cons_succ, List.setIfInBounds_toArray, List.set_cons_zero, List.set_cons_succ]
                  refine' U_take (b := false) (i := 3) (v := _) rfl (by kernel_rfl) (by kernel_rfl) (by kernel_rfl) (by decide) (by decide +kernel) (by decide +kernel) (fun _ _ _ h => h) (by kernel_rfl) ⟨fun _ => hS1, hS2⟩ ?_ ?_
                  rotate_left 1
                  · intro Wv hW
                    have hW2 : Below bb wb Wv := hW
                    have g0 := (hW2.cell (p := ⟨w.heap.size, 0, none⟩) ltb).trans k0
                    go_simp
                    first | done | with_reducible rfl | omega
                  try simp only [Act.put, List.getElem_toArray, List.getElem_cons_zero, List.getElem_cons_succ, List.setIfInBounds_toArray, List.set_cons_zero, List.set_cons_succ]
                  refine' U_take (b := false) (i := 4) (v := _) rfl (by kernel_rfl) (by kernel_rfl) (by kernel_rfl) (by decide) (by decide +kernel) (by decide +kernel) (fun _ _ _ h => h) (by kernel_rfl) ⟨fun _ => hS1, hS2⟩ ?_ ?_
                  rotate_left 1
                  · intro Wv hW
                    have hW2 : Below bb wb Wv := hW
                    have g0 := (hW2.cell (p := ⟨w.heap.size, 0, none⟩) ltb).trans k0
                    go_simp
                    first | done | with_reducible rfl | omega
                  try simp only [Act.put, List.getElem_toArray, List.getElem_cons_zero, List.getElem_cons_succ, List.setIfInBounds_toArray, List.set_cons_zero, List.set_cons_succ]
                  refine' U_take (b := false) (i := 5) (v := _) rfl (by kernel_rfl) (by kernel_rfl) (by kernel_rfl) (by decide) (by decide +kernel) (by decide +kernel) (fun _ _ _ h => h) (by kernel_rfl) ⟨fun _ => hS1, hS2⟩ ?_ ?_
                  rotate_left 1
                  · intro Wv hW
                    have hW2 : Below bb wb Wv := hW
                    have g0 := (hW2.cell (p := ⟨w.heap.size, 0, none⟩) ltb).trans k0
                    go_simp
                    first | done | with_reducible rfl | omega
                  try simp only [Act.put, List.getElem_toArray, List.getElem_cons_zero, List.getElem_cons_succ, List.setIfInBounds_toArray, List.set_cons_zero, List.set_cons_succ]
                  refine' U_take (b := false) (i := 6) (v := _) rfl (by kernel_rfl) (by kernel_rfl) (by kernel_rfl) (by decide) (by decide +kernel) (by decide +kernel) (fun _ _ _ h => h) (by kernel_rfl) ⟨fun _ => hS1, hS2⟩ ?_ ?_
                  rotate_left 1
                  · intro Wv hW
                    have hW2 : Below bb wb Wv := hW
                    have g0 := (hW2.cell (p := ⟨w.heap.size, 0, none⟩) ltb).trans k0
                    go_simp
                    first | done | with_reducible rfl | omega
                  try simp only [Act.put, List.getElem_toArray, List.getElem_cons_zero, List.getElem_cons_succ, List.setIfInBounds_toArray, List.set_cons_zero, List.set_cons_succ]
                  refine' U_take (b := false) (i := 7) (v := _) rfl (by kernel_rfl) (by kernel_rfl) (by kernel_rfl) (by decide) (by decide +kernel) (by decide +kernel) (fun _ _ _ h => h) (by kernel_rfl) ⟨fun _ => hS1, hS2⟩ ?_ ?_
                  rotate_left 1
                  · intro Wv hW
                    have hW2 : Below bb wb Wv := hW
                    have g0 := (hW2.cell (p := ⟨w.heap.size, 0, none⟩) ltb).trans k0
                    go_simp
                    first | done | with_reducible rfl | omega
                  try simp only [Act.put, List.getElem_toArray, List.getElem_cons_zero, List.getElem_cons_succ, List.setIfInBounds_toArray, List.set_cons_zero, List.set_cons_succ]
                  refine' U_take (b := true) (i := 8) (v := _) rfl (by kernel_rfl) (by kernel_rfl) (by kernel_rfl) (by decide) (by decide +kernel) (by decide +kernel) (fun _ _ _ h => h) (by kernel_rfl) ⟨fun _ => hS1, hS2⟩ ?_ ?_
                  rotate_left 1
                  · intro Wv hW
                    have hW1 : Wv.cell? ⟨bb, 0, none⟩ = some (.int .i64 ga) ∧ Wv.cell? ⟨bb, 1, none⟩ = some (.int .i64 gb) := hW
                    obtain ⟨v0, v1⟩ := hW1
                    go_simp
                    first | done | with_reducible rfl | omega
                  try simp only [Act.put, List.getElem_toArray, List.getElem_cons_zero, List.getElem_cons_succ, List.setIfInBounds_toArray, List.set_cons_zero, List.set_cons_succ]
                  refine' U_take (b := false) (i := 9) (v := _) rfl (by kernel_rfl) (by kernel_rfl) (by kernel_rfl) (by decide) (by decide +kernel) (by decide +kernel) (fun _ _ _ h => h) (by kernel_rfl) ⟨fun _ => hS1, hS2⟩ ?_ ?_
                  rotate_left 1
                  · intro Wv hW
                    have hW2 : Below bb wb Wv := hW
                    have g0 := (hW2.cell (p := ⟨w.heap.size, 0, none⟩) ltb).trans k0
                    go_simp
                    first | done | with_reducible rfl | omega
                  try simp only [Act.put, List.getElem_toArray, List.getElem_cons_zero, List.getElem_cons_succ, List.setIfInBounds_toArray, List.set_cons_zero, List.set_cons_succ]
                  refine' U_take (b := false) (i := 10) (v := _) rfl (by kernel_rfl) (by kernel_rfl) (by kernel_rfl) (by decide) (by decide +kernel) (by decide +kernel) (fun _ _ _ h => h) (by kernel_rfl) ⟨fun _ => hS1, hS2⟩ ?_ ?_
                  rotate_left 1
                  · intro Wv hW
                    have hW2 : Below bb wb Wv := hW
                    have g0 := (hW2.cell (p := ⟨w.heap.size, 0, none⟩) ltb).trans k0
                    go_simp
                    first | done | with_reducible rfl | omega
                  try simp only [Act.put, List.getElem_toArray, List.getElem_cons_zero, List.getElem_cons_succ, List.setIfInBounds_toArray, List.set_cons_zero, List.set_cons_succ]
                  refine' U_take (b := false) (i := 11) (v := _) rfl (by kernel_rfl) (by kernel_rfl) (by kernel_rfl) (by decide) (by decide +kernel) (by decide +kernel) (fun _ _ _ h => h) (by kernel_rfl) ⟨fun _ => hS1, hS2⟩ ?_ ?_
                  rotate_left 1
                  · intro Wv hW
                    have hW2 : Below bb wb Wv := hW
                    have g0 := (hW2.cell (p := ⟨w.heap.size, 0, none⟩) ltb).trans k0
                    go_simp
                    first | done | with_reducible rfl | omega
                  try simp only [Act.put, List.getElem_toArray, List.getElem_cons_zero, List.getElem_cons_succ, List.setIfInBounds_toArray, List.set_cons_zero, List.set_cons_succ]
                  refine' U_take (b := false) (i := 12) (v := _) rfl (by kernel_rfl) (by kernel_rfl) (by kernel_rfl) (by decide) (by decide +kernel) (by decide +kernel) (fun _ _ _ h => h) (by kernel_rfl) ⟨fun _ => hS1, hS2⟩ ?_ ?_
                  rotate_left 1
                  · intro Wv hW
                    have hW2 : Below bb wb Wv := hW
                    have g0 := (hW2.cell (p := ⟨w.heap.size, 0, none⟩) ltb).trans k0
                    go_simp
                    first | done | with_reducible rfl | omega
                  try simp only [Act.put, List.getElem_toArray, List.getElem_cons_zero, List.getElem_cons_succ, List.setIfInBounds_toArray, List.set_cons_zero, List.set_cons_succ]
                  refine' U_take (b := false) (i := 13) (v := _) rfl (by kernel_rfl) (by kernel_rfl) (by kernel_rfl) (by decide) (by decide +kernel) (by decide +kernel) (fun _ _ _ h => h) (by kernel_rfl) ⟨fun _ => hS1, hS2⟩ ?_ ?_
                  rotate_left 1
                  · intro Wv hW
                    have hW2 : Below bb wb Wv := hW
                    have g0 := (hW2.cell (p := ⟨w.heap.size, 0, none⟩) ltb).trans k0
                    go_simp
                    first | done | with_reducible rfl | omega
                  try simp only [Act.put, List.getElem_toArray, List.getElem_cons_zero, List.getElem_cons_succ, List.setIfInBounds_toArray, List.set_cons_zero, List.set_cons_succ]
                  refine' U_take (b := false) (i := 14) (v := _) rfl (by kernel_rfl) (by kernel_rfl) (by kernel_rfl) (by decide) (by decide +kernel) (by decide +kernel) (fun _ _ _ h => h) (by kernel_rfl) ⟨fun _ => hS1, hS2⟩ ?_ ?_
                  rotate_left 1
                  · intro Wv hW
                    have hW2 : Below bb wb Wv := hW
                    have g0 := (hW2.cell (p := ⟨w.heap.size, 0, none⟩) ltb).trans k0
                    go_simp
                    first | done | with_reducible rfl | omega
                  try simp only [Act.put, List.getElem_toArray, List.getElem_cons_zero, List.getElem_cons_succ, List.setIfInBounds_toArray, List.set_cons_zero, List.set_cons_succ]
                  refine U_one (i := 15) (by kernel_rfl) rfl (fun K hK => ?_)
                  try go_simp
                  have hS3 : Below bb wb (yd.setCell ⟨bb, 0, none⟩ (.int .i64 sa)) := hS2.setCell (Nat.le_refl bb) _
                  refine hK.out _ _ ⟨fun h => absurd rfl h.1, hS3⟩ ?_
                  clear hK K
                  try simp only [Act.put, List.getElem_toArray, List.getElem_cons_zero, List.getElem_cons_succ, List.setIfInBounds_toArray, List.set_cons_zero, List.set_cons_succ]
                  refine' U_take (b := false) (i := 16) (v := _) rfl (by kernel_rfl) (by kernel_rfl) (by kernel_rfl) (by decide) (by decide +kernel) (by decide +kernel) (fun _ _ _ h => h) (by kernel_rfl) ⟨fun h => absurd h (by decide +kernel), hS3⟩ ?_ ?_
                  rotate_left 1
                  · intro Wv hW
                    have hW2 : Below bb wb Wv := hW
                    have g0 := (hW2.cell (p := ⟨w.heap.size, 0, none⟩) ltb).trans k0
                    go_simp
                    first | done | with_reducible rfl | omega
                  try simp only [Act.put, List.getElem_toArray, List.getElem_cons_zero, List.getElem_cons_succ, List.setIfInBounds_toArray, List.set_cons_zero, List.set_cons_succ]
                  refine U_one (i := 17) (by kernel_rfl) rfl (fun K hK => ?_)
                  try go_simp
                  refine hK.out _ _ ⟨fun h => absurd h.2 (by decide +kernel), hS3.setCell (Nat.le_refl bb) (.int .i64 sb)⟩ ?_
                  clear hK K
                  try simp only [Act.put, List.getElem_toArray, List.getElem_cons_zero, List.getElem_cons_succ, List.setIfInBounds_toArray, List.set_cons_zero, List.set_cons_succ]
                  refine U_done (by kernel_rfl) ?_ _
                  refine NoPanic.normal ?_
                  try go_simp
                  have hS4 : Below bb wb ((yd.setCell ⟨bb, 0, none⟩ (.int .i64 sa)).setCell ⟨bb, 1, none⟩ (.int .i64 sb)) := hS3.setCell (Nat.le_refl bb) _
                  have HVZ := Lib.hid (HVD.out.set01 sa sb)
                  replace HQ := Lib.hid (HQ.out.low hS4 HQB.out)
                  replace HY := Lib.hid (HY.out.low hS4 HZB.out)
                  replace HOX := Lib.hid (HOX.out.lowB (fun g e => by have e2 : gx = g := Option.some.inj e; have := HGB.out; omega) hS4)
                  replace HOY := Lib.hid (HOY.out.lowB (fun g e => (HYB.out g e).1) hS4)
                  replace HBX := Lib.hid (HBX.out.trans (hS4.mono (by have := HX0.out; have := HZB.out; omega)))
                  have hwz : q10 + 1 ≤ ((yd.setCell ⟨bb, 0, none⟩ (.int .i64 sa)).setCell ⟨bb, 1, none⟩ (.int .i64 sb)).heap.size := by have a := hS4.size; have b := HWS.out; have := HZB.out; omega
                  clear hS1 hS2 hS3 hS4 HVD vfd0 vfd1 v0 v1 v2 v3 v4 HV5 k0 k1
                  try clear q0 q1 e0 e1 vf0 vf1
                  dsimp only at HVZ
                  generalize ((yd.setCell ⟨bb, 0, none⟩ (.int .i64 sa)).setCell ⟨bb, 1, none⟩ (.int .i64 sb)) = wz at *
                  obtain ⟨⟨v0, v1, v2, v3, v4⟩, -⟩ := HVZ.out.cells
                  dsimp only at v0 v1 v2 v3 v4
                  obtain ⟨⟨e0, e1⟩, -⟩ := HY.out.cells
                  have ltz := World.block_lt_of_cell? _ _ e1
                  dsimp only at ltz
                  have ltv := World.block_lt_of_cell? _ _ v0
                  dsimp only at ltv
                  have hyl : yt.length ≤ 1000000 := by have := HYTL.out; omega
                  go_wp2_with (at_builtin; refine wpList_appM (.inr ⟨rfl, rfl⟩) (.tmp 126) (.tmp 128) rfl rfl (q10 + 1) wz _ yt ⟨sa, sb, gpa, gpb, gop⟩ rfl rfl HOY hyl hwz ?_; intro A2 c2 w2 HO2 HB2; have HY2 := Lib.hid (HY.out.low HB2.out (Nat.lt_succ_self q10)); obtain ⟨⟨e20, e21⟩, e2f⟩ := HY2.out.cells; have e2g := e2f 1; clear e2f)
                  have HQ2 := Lib.hid (HQ.out.low HB2.out (show q < q10 + 1 by have := HQ5.out; omega))
                  have HOX2 := Lib.hid (HOX.out.lowB (fun g e => by have e2 : gx = g := Option.some.inj e; have := HG5.out; omega) HB2.out)
                  have HBX2 := Lib.hid (HBX.out.trans (HB2.out.mono (show x0.heap.size ≤ q10 + 1 by have := HX0.out; omega)))
                  have hz2 := HB2.out.size
                  rw [HYTL.out] at HO2
                  try simp only [HYTL.out]
                  have HQ3 := Lib.hid (HQ2.out.farZ (g := q10) (i := 1) (show q10 ≠ q by have := HQ5.out; omega) (.slice A2 (j + 1) c2))
                  have HY3 := Lib.hid (HY2.out.set1 (.slice A2 (j + 1) c2))
                  have HOX3 := Lib.hid (HOX2.out.farQ (q := q10) (o := 1) (fun e => by have e2 : gx = q10 := Option.some.inj e; have := HG5.out; omega) (.slice A2 (j + 1) c2))
                  have HOY3 := Lib.hid (HO2.out.farQ (q := q10) (o := 1) (fun e => by have := (World.ownsRow.lt HO2.out q10 e).1; omega) (.slice A2 (j + 1) c2))
                  have HBX3 := Lib.hid (HBX2.out.setCell (p := ⟨q10, 1, none⟩) HX0.out (.slice A2 (j + 1) c2))
                  have hz3 : q10 + 1 ≤ (w2.setCell ⟨q10, 1, none⟩ (.slice A2 (j + 1) c2)).heap.size := by simp [World.setCell]; omega
                  go_roundw
                  case rel => exact ⟨j + 1, A2, c2, by omega, by go_num, HQ3.out, HY3.out, by rw [HM1.out]; exact HOX3.out, by rw [HYT.out, HYE.out]; exact HOY3.out, HBX3.out, hz3⟩
                  case measure => simp [intOf]; omega
              · obtain rfl : j = l.games.length := by omega
                have h1i : ¬ (l.games.length : Int) < (l.games.length : Int) := by omega
                have hax : mixL xs rs l.games.length = xs := by rw [← HRL.out]; exact mix_all HSL.out
                have hay : ys.take l.games.length = ys := List.take_of_length_le (by rw [HYL.out, HRL.out]; exact Nat.le_refl _)
                rw [hax] at HOX
                rw [hay] at HOY
                have hxl : xs.length = l.games.length := by rw [HSL.out, HRL.out]
                have hyl : ys.length = l.games.length := by rw [HYL.out, HRL.out]
                have HXL := Lib.hid hxl
                have HYLL := Lib.hid hyl
                have HOX' : OwnM 70 x0.heap.size wr (.slice (some ⟨gx, 0, none⟩) xs.length c9) xs := by rw [hxl]; exact HOX.out
                have HOY' : OwnM 70 (q10 + 1) wr (.slice Ay ys.length cy) ys := by rw [hyl]; exact HOY.out
                obtain ⟨p1, p2, p3⟩ := HOX'.parts
                obtain ⟨p4, p5, p6⟩ := HOY'.parts
                rw [hxl] at p1
                rw [hyl] at p4
                have HXS := Lib.hid p3
                have HYS := Lib.hid p6
                have HC9 : Hid (l.games.length ≤ c9 ∧ c9 ≤ 9223372036854775807) := ⟨p1, p2⟩
                have HCY9 : Hid (l.games.length ≤ cy ∧ cy ≤ 9223372036854775807) := ⟨p4, p5⟩
                have hbz := HBX.out.size
                have HL : Hid (Gms wr.heap.size wr (some ⟨bA, oA, none⟩) l.games) := (HLx.out.below HBX.out).more hbz
                have HU : Hid (Byts wr.heap.size wr Au rules) := (HUx.out.below HBX.out).more hbz
                have HB : Hid (Below w.heap.size w wr) := HBx.out.trans (HBX.out.mono HBx.out.size)
                clear hax hay hxl hyl HOX' HOY' p1 p2 p3 p4 p5 p6 hbz HOX HOY HQ HY HBX HLx HUx HBx HSWL HSL HYAT HYL HGK HZW HG5 HQ5 HX0 HGX HGQ HRL
                generalize wr = z0 at *
                have HXC : Hid (∀ (A1 : Option Addr) (c1 : Nat) (W : World), Gms W.heap.size W A1 xs → (l.games.length ≤ c1 ∧ c1 ≤ 9223372036854775807) → Calls Try.prog 18 #[.agg #[.int .i64 l.teams, .slice A1 l.games.length c1]] W (LgQ W l.teams xs)) := fun A1 c1 W h1 h2 => by
                  have h := league18_c ⟨l.teams, xs⟩ A1 c1 W h1 (by show xs.length ≤ c1 ∧ _; rw [HXL.out]; exact h2) (by show xs.length ≤ 1000; rw [HXL.out]; omega)
                  dsimp only at h
                  rw [HXL.out] at h
                  exact h
                have HYC : Hid (∀ (A1 : Option Addr) (c1 : Nat) (W : World), Gms W.heap.size W A1 ys → (l.games.length ≤ c1 ∧ c1 ≤ 9223372036854775807) → Calls Try.prog 18 #[.agg #[.int .i64 l.teams, .slice A1 l.games.length c1]] W (LgQ W l.teams ys)) := fun A1 c1 W h1 h2 => by
                  have h := league18_c ⟨l.teams, ys⟩ A1 c1 W h1 (by show ys.length ≤ c1 ∧ _; rw [HYLL.out]; exact h2) (by show ys.length ≤ 1000; rw [HYLL.out]; omega)
                  dsimp only at h
                  rw [HYLL.out] at h
                  exact h
                have HRX : Hid (∀ (A1 A2 : Option Addr) (c1 c2 : Nat) (W : World), Gms W.heap.size W A1 xs → (xs.length ≤ c1 ∧ c1 ≤ 9223372036854775807) → Byts W.heap.size W A2 rules → (rules.length ≤ c2 ∧ c2 ≤ 9223372036854775807) → Calls Try.prog 19 #[.agg #[.int .i64 l.teams, .slice A1 xs.length c1], .slice A2 rules.length c2] W (ListE W (rankL l rules) 0)) := fun A1 A2 c1 c2 W h1 h2 h3 h4 => by
                  have h := rank19_c ⟨l.teams, xs⟩ A1 A2 c1 c2 rules W h1 h2 h3 h4 (by omega)
                  rw [HORX.out.ex, HORX.out.rx] at h
                  exact h
                have HRY : Hid (∀ (A1 A2 : Option Addr) (c1 c2 : Nat) (W : World), Gms W.heap.size W A1 ys → (ys.length ≤ c1 ∧ c1 ≤ 9223372036854775807) → Byts W.heap.size W A2 rules → (rules.length ≤ c2 ∧ c2 ≤ 9223372036854775807) → Calls Try.prog 19 #[.agg #[.int .i64 l.teams, .slice A1 ys.length c1], .slice A2 rules.length c2] W (ListE W (rankL ⟨l.teams, ys⟩ rules) 0)) := fun A1 A2 c1 c2 W h1 h2 h3 h4 => by
                  have h := rank19_c ⟨l.teams, ys⟩ A1 A2 c1 c2 rules W h1 h2 h3 h4 (by omega)
                  rw [HORX.out.ey] at h
                  exact h
                have HCX : Hid (∀ (t : Int) (A1 : Option Addr) (c1 : Nat) (W : World), Gms W.heap.size W A1 xs → (xs.length ≤ c1 ∧ c1 ≤ 9223372036854775807) → Calls Try.prog 43 #[.agg #[.int .i64 l.teams, .slice A1 xs.length c1], .int .i64 t] W (Ans W (.tuple #[.bool (canL ⟨l.teams, xs⟩ t), .int .i64 (askedL ⟨l.teams, xs⟩ t)]))) := fun t A1 c1 W h h2 => can43_c ⟨l.teams, xs⟩ t A1 c1 W h h2
                have HCYY : Hid (∀ (t : Int) (A1 : Option Addr) (c1 : Nat) (W : World), Gms W.heap.size W A1 ys → (ys.length ≤ c1 ∧ c1 ≤ 9223372036854775807) → Calls Try.prog 43 #[.agg #[.int .i64 l.teams, .slice A1 ys.length c1], .int .i64 t] W (Ans W (.tuple #[.bool (canL ⟨l.teams, ys⟩ t), .int .i64 (askedL ⟨l.teams, ys⟩ t)]))) := fun t A1 c1 W h h2 => can43_c ⟨l.teams, ys⟩ t A1 c1 W h h2
                have HR1 := Lib.hid HORX.out.r1
                have HR3 := Lib.hid HORX.out.r2
                have HRYV := Lib.hid HORX.out.ry
                have HCLF := Lib.hid HORX.out.cl
                have HCXF := Lib.hid HORX.out.cx
                have HCYF := Lib.hid HORX.out.cy
                clear HORX HXL HYLL
                generalize rankL l rules = R1 at *
                generalize rankL ⟨l.teams, ys⟩ rules = R3 at *
                go_wp2_with fail
                refine (HLG.out _ HL.out).mono ?_
                rintro e x1 ⟨A4, c4, rfl, ⟨hg4, hc41, hc42⟩, hb⟩
                replace HL := Lib.hid (HL.out.step hb)
                replace HU := Lib.hid (HU.out.step hb)
                replace HXS := Lib.hid (HXS.out.step hb)
                replace HYS := Lib.hid (HYS.out.step hb)
                replace k0 := cell_of_ans hb k0
                replace k1 := cell_of_ans hb k1
                replace q0 := cell_of_ans hb q0
                replace q1 := cell_of_ans hb q1
                replace e0 := cell_of_ans hb e0
                replace e1 := cell_of_ans hb e1
                replace HB := Lib.hid (HB.out.trans (hb.mono HB.out.size))
                clear hb
                have Hhg4 := Lib.hid hg4
                clear hg4
                go_wp2_with fail
                refine (HCO.out _ HU.out).mono ?_
                rintro e x2 ⟨U4, k4, rfl, ho4, hb⟩
                replace HL := Lib.hid (HL.out.step hb)
                replace HU := Lib.hid (HU.out.step hb)
                replace HXS := Lib.hid (HXS.out.step hb)
                replace HYS := Lib.hid (HYS.out.step hb)
                replace k0 := cell_of_ans hb k0
                replace k1 := cell_of_ans hb k1
                replace q0 := cell_of_ans hb q0
                replace q1 := cell_of_ans hb q1
                replace e0 := cell_of_ans hb e0
                replace e1 := cell_of_ans hb e1
                replace Hhg4 := Lib.hid (Hhg4.out.step hb)
                replace HB := Lib.hid (HB.out.trans (hb.mono HB.out.size))
                clear hb
                obtain ⟨hu4, hv4, hby⟩ := ho4.parts HUR.out
                have Hby4 := Lib.hid hby
                clear hby ho4
                go_wp2_with fail
                refine (HRK.out A4 U4 c4 k4 _ Hhg4.out ⟨hc41, hc42⟩ Hby4.out ⟨hu4, hv4⟩).mono ?_
                rintro e x3 ⟨R4A, r4c, rfl, ⟨hi4, hr4a, hr4b⟩, hb⟩
                replace HL := Lib.hid (HL.out.step hb)
                replace HU := Lib.hid (HU.out.step hb)
                replace HXS := Lib.hid (HXS.out.step hb)
                replace HYS := Lib.hid (HYS.out.step hb)
                replace k0 := cell_of_ans hb k0
                replace k1 := cell_of_ans hb k1
                replace q0 := cell_of_ans hb q0
                replace q1 := cell_of_ans hb q1
                replace e0 := cell_of_ans hb e0
                replace e1 := cell_of_ans hb e1
                replace Hhg4 := Lib.hid (Hhg4.out.step hb)
                replace Hby4 := Lib.hid (Hby4.out.step hb)
                replace HB := Lib.hid (HB.out.trans (hb.mono HB.out.size))
                clear hb
                have Hhi4 := Lib.hid hi4
                clear hi4
                clear Hhg4 Hby4
                go_wp2_with fail
                refine (HXC.out _ c9 _ HXS.out HC9.out).mono ?_
                rintro e x4 ⟨A5, c5, rfl, ⟨hg5, hc51, hc52⟩, hb⟩
                replace HL := Lib.hid (HL.out.step hb)
                replace HU := Lib.hid (HU.out.step hb)
                replace HXS := Lib.hid (HXS.out.step hb)
                replace HYS := Lib.hid (HYS.out.step hb)
                replace k0 := cell_of_ans hb k0
                replace k1 := cell_of_ans hb k1
                replace q0 := cell_of_ans hb q0
                replace q1 := cell_of_ans hb q1
                replace e0 := cell_of_ans hb e0
                replace e1 := cell_of_ans hb e1
                replace Hhi4 := Lib.hid (Hhi4.out.step hb)
                replace HB := Lib.hid (HB.out.trans (hb.mono HB.out.size))
                clear hb
                have Hhg5 := Lib.hid hg5
                clear hg5
                go_wp2_with fail
                refine (HCO.out _ HU.out).mono ?_
                rintro e x5 ⟨U5, k5, rfl, ho5, hb⟩
                replace HL := Lib.hid (HL.out.step hb)
                replace HU := Lib.hid (HU.out.step hb)
                replace HXS := Lib.hid (HXS.out.step hb)
                replace HYS := Lib.hid (HYS.out.step hb)
                replace k0 := cell_of_ans hb k0
                replace k1 := cell_of_ans hb k1
                replace q0 := cell_of_ans hb q0
                replace q1 := cell_of_ans hb q1
                replace e0 := cell_of_ans hb e0
                replace e1 := cell_of_ans hb e1
                replace Hhi4 := Lib.hid (Hhi4.out.step hb)
                replace Hhg5 := Lib.hid (Hhg5.out.step hb)
                replace HB := Lib.hid (HB.out.trans (hb.mono HB.out.size))
                clear hb
                obtain ⟨hu5, hv5, hby⟩ := ho5.parts HUR.out
                have Hby5 := Lib.hid hby
                clear hby ho5
                go_wp2_with fail
                refine (HRX.out A5 U5 c5 k5 _ Hhg5.out ⟨hc51, hc52⟩ Hby5.out ⟨hu5, hv5⟩).mono ?_
                rintro e x6 ⟨R5A, r5c, rfl, ⟨hi5, hr5a, hr5b⟩, hb⟩
                replace HL := Lib.hid (HL.out.step hb)
                replace HU := Lib.hid (HU.out.step hb)
                replace HXS := Lib.hid (HXS.out.step hb)
                replace HYS := Lib.hid (HYS.out.step hb)
                replace k0 := cell_of_ans hb k0
                replace k1 := cell_of_ans hb k1
                replace q0 := cell_of_ans hb q0
                replace q1 := cell_of_ans hb q1
                replace e0 := cell_of_ans hb e0
                replace e1 := cell_of_ans hb e1
                replace Hhi4 := Lib.hid (Hhi4.out.step hb)
                replace Hhg5 := Lib.hid (Hhg5.out.step hb)
                replace Hby5 := Lib.hid (Hby5.out.step hb)
                replace HB := Lib.hid (HB.out.trans (hb.mono HB.out.size))
                clear hb
                have Hhi5 := Lib.hid hi5
                clear hi5
                clear Hhg5 Hby5
                go_wp2_with fail
                refine (HYC.out _ cy _ HYS.out HCY9.out).mono ?_
                rintro e x7 ⟨A6, c6, rfl, ⟨hg6, hc61, hc62⟩, hb⟩
                replace HL := Lib.hid (HL.out.step hb)
                replace HU := Lib.hid (HU.out.step hb)
                replace HXS := Lib.hid (HXS.out.step hb)
                replace HYS := Lib.hid (HYS.out.step hb)
                replace k0 := cell_of_ans hb k0
                replace k1 := cell_of_ans hb k1
                replace q0 := cell_of_ans hb q0
                replace q1 := cell_of_ans hb q1
                replace e0 := cell_of_ans hb e0
                replace e1 := cell_of_ans hb e1
                replace Hhi4 := Lib.hid (Hhi4.out.step hb)
                replace Hhi5 := Lib.hid (Hhi5.out.step hb)
                replace HB := Lib.hid (HB.out.trans (hb.mono HB.out.size))
                clear hb
                have Hhg6 := Lib.hid hg6
                clear hg6
                go_wp2_with fail
                refine (HCO.out _ HU.out).mono ?_
                rintro e x8 ⟨U6, k6, rfl, ho6, hb⟩
                replace HL := Lib.hid (HL.out.step hb)
                replace HU := Lib.hid (HU.out.step hb)
                replace HXS := Lib.hid (HXS.out.step hb)
                replace HYS := Lib.hid (HYS.out.step hb)
                replace k0 := cell_of_ans hb k0
                replace k1 := cell_of_ans hb k1
                replace q0 := cell_of_ans hb q0
                replace q1 := cell_of_ans hb q1
                replace e0 := cell_of_ans hb e0
                replace e1 := cell_of_ans hb e1
                replace Hhi4 := Lib.hid (Hhi4.out.step hb)
                replace Hhi5 := Lib.hid (Hhi5.out.step hb)
                replace Hhg6 := Lib.hid (Hhg6.out.step hb)
                replace HB := Lib.hid (HB.out.trans (hb.mono HB.out.size))
                clear hb
                obtain ⟨hu6, hv6, hby⟩ := ho6.parts HUR.out
                have Hby6 := Lib.hid hby
                clear hby ho6
                go_wp2_with fail
                refine (HRY.out A6 U6 c6 k6 _ Hhg6.out ⟨hc61, hc62⟩ Hby6.out ⟨hu6, hv6⟩).mono ?_
                rintro e x9 ⟨R6A, r6c, rfl, ⟨hi6, hr6a, hr6b⟩, hb⟩
                replace HL := Lib.hid (HL.out.step hb)
                replace HU := Lib.hid (HU.out.step hb)
                replace HXS := Lib.hid (HXS.out.step hb)
                replace HYS := Lib.hid (HYS.out.step hb)
                replace k0 := cell_of_ans hb k0
                replace k1 := cell_of_ans hb k1
                replace q0 := cell_of_ans hb q0
                replace q1 := cell_of_ans hb q1
                replace e0 := cell_of_ans hb e0
                replace e1 := cell_of_ans hb e1
                replace Hhi4 := Lib.hid (Hhi4.out.step hb)
                replace Hhi5 := Lib.hid (Hhi5.out.step hb)
                replace Hhg6 := Lib.hid (Hhg6.out.step hb)
                replace Hby6 := Lib.hid (Hby6.out.step hb)
                replace HB := Lib.hid (HB.out.trans (hb.mono HB.out.size))
                clear hb
                have Hhi6 := Lib.hid hi6
                clear hi6
                clear Hhg6 Hby6
                have hq3 : ((R3.length : Int) != (R1.length : Int)) = false := by rw [HR1.out, HR3.out]; simp
                clear HRK HRX HRY HCO HUR
                go_wp2_with fail
                refine ((ints_self Hhi4.out Hhi5.out ⟨hr4a, hr4b⟩ ⟨hr5a, hr5b⟩).mono (fun _ _ h => h.ans)).mono ?_
                rintro e x10 ⟨rfl, hb⟩
                replace HL := Lib.hid (HL.out.step hb)
                replace HXS := Lib.hid (HXS.out.step hb)
                replace HYS := Lib.hid (HYS.out.step hb)
                replace k0 := cell_of_ans hb k0
                replace k1 := cell_of_ans hb k1
                replace q0 := cell_of_ans hb q0
                replace q1 := cell_of_ans hb q1
                replace e0 := cell_of_ans hb e0
                replace e1 := cell_of_ans hb e1
                replace Hhi4 := Lib.hid (Hhi4.out.step hb)
                replace Hhi5 := Lib.hid (Hhi5.out.step hb)
                replace Hhi6 := Lib.hid (Hhi6.out.step hb)
                replace HB := Lib.hid (HB.out.trans (hb.mono HB.out.size))
                clear hb
                clear Hhi5
                obtain ⟨b4, o4, rfl, hb4, hc4⟩ := Hhi4.out (by rw [HR1.out]; omega)
                obtain ⟨b6, o6, rfl, hb6, hc6⟩ := Hhi6.out (by rw [HR3.out]; omega)
                have HC4 := Lib.hid hc4
                have HC6 := Lib.hid hc6
                clear hc4 hc6 hb4 hb6
                clear Hhi4 Hhi6
                go_wp2_with fail
                go_loopw [19] (fun i wr => ∃ t : Nat, t ≤ T ∧ i = .int .i64 t ∧ Below x10.heap.size x10 wr) (fun i _ => T - (intOf i).toNat)
                case atStart => exact ⟨0, by omega, rfl, Below.refl _ _⟩
                case round =>
                  obtain ⟨t, ht, rfl, hb⟩ := hrel
                  generalize wr = wt at *
                  have HBR := Lib.hid (Below.refl x10.heap.size x10)
                  replace HL := Lib.hid (HL.out.step hb)
                  replace HXS := Lib.hid (HXS.out.step hb)
                  replace HYS := Lib.hid (HYS.out.step hb)
                  replace k0 := cell_of_ans hb k0
                  replace k1 := cell_of_ans hb k1
                  replace q0 := cell_of_ans hb q0
                  replace q1 := cell_of_ans hb q1
                  replace e0 := cell_of_ans hb e0
                  replace e1 := cell_of_ans hb e1
                  replace HBR := Lib.hid (HBR.out.trans (hb.mono HBR.out.size))
                  replace HB := Lib.hid (HB.out.trans (hb.mono HB.out.size))
                  clear hb
                  by_cases h2 : t < T
                  · have hTT := HTI.out
                    have hti : (t : Int) < l.teams := by omega
                    have hT0 : 0 < T := by omega
                    have hsl := shN_lt (T := T) (d := d) hT0 t
                    have hsc := shN_cast (T := T) (d := d) hT0 t
                    have hwt : IntKind.i64.wrap ((t : Int) + (d : Int)) = (t : Int) + (d : Int) := IntWalk.i64_in _ (by omega)
                    have htm : ((t : Int) + (d : Int)).tmod l.teams = ((shN T d t : Nat) : Int) := by rw [hsc, Int.tmod_eq_emod_of_nonneg (by omega), hTT]; rfl
                    have d4 := cell_of_ans HBR.out (HC4.out t (by rw [HR1.out]; omega))
                    have d6 := cell_of_ans HBR.out (HC6.out (shN T d t) (by rw [HR3.out]; omega))
                    rw [HRYV.out t h2] at d6
                    have hta : (t : Int) < (R1.length : Int) := by rw [HR1.out]; omega
                    have htb : ((shN T d t : Nat) : Int) < (R3.length : Int) := by rw [HR3.out]; omega
                    have HF1 := Lib.hid (HCLF.out t h2)
                    have HF2 := Lib.hid (HCXF.out t h2)
                    have HF3 := Lib.hid (HCYF.out t h2)
                    clear HC4 HC6 HRYV HCLF HCXF HCYF hTT hsc
                    obtain ⟨st, hst⟩ : ∃ st, shN T d t = st := ⟨_, rfl⟩
                    rw [hst] at htm d6 htb HF3 hsl
                    clear hst
                    have hwst : IntKind.i64.wrap (st : Int) = (st : Int) := IntWalk.i64_in _ (by omega)
                    generalize ix R1 t = rv at *
                    obtain ⟨cb, hcb⟩ : ∃ cb, canB l t = cb := ⟨_, rfl⟩
                    rw [hcb] at HF1 HF2 HF3
                    clear hcb
                    go_wp2_with fail
                    refine (HLG.out _ HL.out).mono ?_
                    rintro e x11 ⟨A7, c7, rfl, ⟨hg7, hc71, hc72⟩, hb⟩
                    replace HL := Lib.hid (HL.out.step hb)
                    replace HXS := Lib.hid (HXS.out.step hb)
                    replace HYS := Lib.hid (HYS.out.step hb)
                    replace k0 := cell_of_ans hb k0
                    replace k1 := cell_of_ans hb k1
                    replace q0 := cell_of_ans hb q0
                    replace q1 := cell_of_ans hb q1
                    replace e0 := cell_of_ans hb e0
                    replace e1 := cell_of_ans hb e1
                    replace HBR := Lib.hid (HBR.out.trans (hb.mono HBR.out.size))
                    replace d4 := cell_of_ans hb d4
                    replace d6 := cell_of_ans hb d6
                    replace HB := Lib.hid (HB.out.trans (hb.mono HB.out.size))
                    clear hb
                    have Hhg7 := Lib.hid hg7
                    clear hg7
                    go_wp2_with fail
                    refine (HCA.out (t : Int) A7 c7 _ Hhg7.out ⟨hc71, hc72⟩).mono ?_
                    rw [HF1.out.1, HF1.out.2]
                    rintro e x12 ⟨rfl, hb⟩
                    replace HL := Lib.hid (HL.out.step hb)
                    replace HXS := Lib.hid (HXS.out.step hb)
                    replace HYS := Lib.hid (HYS.out.step hb)
                    replace k0 := cell_of_ans hb k0
                    replace k1 := cell_of_ans hb k1
                    replace q0 := cell_of_ans hb q0
                    replace q1 := cell_of_ans hb q1
                    replace e0 := cell_of_ans hb e0
                    replace e1 := cell_of_ans hb e1
                    replace HBR := Lib.hid (HBR.out.trans (hb.mono HBR.out.size))
                    replace d4 := cell_of_ans hb d4
                    replace d6 := cell_of_ans hb d6
                    replace Hhg7 := Lib.hid (Hhg7.out.step hb)
                    replace HB := Lib.hid (HB.out.trans (hb.mono HB.out.size))
                    clear hb
                    clear Hhg7
                    go_wp2_with fail
                    refine (HXC.out _ c9 _ HXS.out HC9.out).mono ?_
                    rintro e x13 ⟨A8, c8, rfl, ⟨hg8, hc81, hc82⟩, hb⟩
                    replace HL := Lib.hid (HL.out.step hb)
                    replace HXS := Lib.hid (HXS.out.step hb)
                    replace HYS := Lib.hid (HYS.out.step hb)
                    replace k0 := cell_of_ans hb k0
                    replace k1 := cell_of_ans hb k1
                    replace q0 := cell_of_ans hb q0
                    replace q1 := cell_of_ans hb q1
                    replace e0 := cell_of_ans hb e0
                    replace e1 := cell_of_ans hb e1
                    replace HBR := Lib.hid (HBR.out.trans (hb.mono HBR.out.size))
                    replace d4 := cell_of_ans hb d4
                    replace d6 := cell_of_ans hb d6
                    replace HB := Lib.hid (HB.out.trans (hb.mono HB.out.size))
                    clear hb
                    have Hhg8 := Lib.hid hg8
                    clear hg8
                    go_wp2_with fail
                    refine (HCX.out (t : Int) A8 c8 _ Hhg8.out ⟨hc81, hc82⟩).mono ?_
                    rw [HF2.out.1, HF2.out.2]
                    rintro e x14 ⟨rfl, hb⟩
                    replace HL := Lib.hid (HL.out.step hb)
                    replace HXS := Lib.hid (HXS.out.step hb)
                    replace HYS := Lib.hid (HYS.out.step hb)
                    replace k0 := cell_of_ans hb k0
                    replace k1 := cell_of_ans hb k1
                    replace q0 := cell_of_ans hb q0
                    replace q1 := cell_of_ans hb q1
                    replace e0 := cell_of_ans hb e0
                    replace e1 := cell_of_ans hb e1
                    replace HBR := Lib.hid (HBR.out.trans (hb.mono HBR.out.size))
                    replace d4 := cell_of_ans hb d4
                    replace d6 := cell_of_ans hb d6
                    replace Hhg8 := Lib.hid (Hhg8.out.step hb)
                    replace HB := Lib.hid (HB.out.trans (hb.mono HB.out.size))
                    clear hb
                    clear Hhg8
                    go_upto_region 24 with fail
                    refine wp_region_noPanic ?_
                    have hS : (fun W' : World => Below x14.heap.size x14 W') x14.drew := (Below.refl _ _).drew
                    refine wp_region_any (by kernel_rfl) (wpAny_of_T (S := fun W' : World => Below x14.heap.size x14 W') (m := 14) _ _ _ _ ?_)
                    refine' T_take (i := 0) (v := _) rfl (by kernel_rfl) (by kernel_rfl) (by kernel_rfl) (by kernel_rfl) (fun _ _ _ h => h) (by kernel_rfl) hS ?_ ?_
                    rotate_left 1
                    · intro Wv hW
                      replace k0 := cell_of_ans hW k0
                      replace k1 := cell_of_ans hW k1
                      replace e0 := cell_of_ans hW e0
                      replace e1 := cell_of_ans hW e1
                      go_simp
                      first | done | with_reducible rfl | omega
                    try simp only [Act.put, List.getElem_toArray, List.getElem_cons_zero, List.getElem_cons_succ, List.setIfInBounds_toArray, List.set_cons_zero, List.set_cons_succ]
                    refine' T_take (i := 2) (v := _) rfl (by kernel_rfl) (by kernel_rfl) (by kernel_rfl) (by kernel_rfl) (fun _ _ _ h => h) (by kernel_rfl) hS ?_ ?_
                    rotate_left 1
                    · intro Wv hW
                      replace k0 := cell_of_ans hW k0
                      replace k1 := cell_of_ans hW k1
                      replace e0 := cell_of_ans hW e0
                      replace e1 := cell_of_ans hW e1
                      go_simp
                      first | done | with_reducible rfl | omega
                    try simp only [Act.put, List.getElem_toArray, List.getElem_cons_zero, List.getElem_cons_succ, List.setIfInBounds_toArray, List.set_cons_zero, List.set_cons_succ]
                    refine' T_take (i := 3) (v := _) rfl (by kernel_rfl) (by kernel_rfl) (by kernel_rfl) (by kernel_rfl) (fun _ _ _ h => h) (by kernel_rfl) hS ?_ ?_
                    rotate_left 1
                    · intro Wv hW
                      replace k0 := cell_of_ans hW k0
                      replace k1 := cell_of_ans hW k1
                      replace e0 := cell_of_ans hW e0
                      replace e1 := cell_of_ans hW e1
                      go_simp
                      first | done | with_reducible rfl | omega
                    try simp only [Act.put, List.getElem_toArray, List.getElem_cons_zero, List.getElem_cons_succ, List.setIfInBounds_toArray, List.set_cons_zero, List.set_cons_succ]
                    refine' T_take (i := 4) (v := _) rfl (by kernel_rfl) (by kernel_rfl) (by kernel_rfl) (by kernel_rfl) (fun _ _ _ h => h) (by kernel_rfl) hS ?_ ?_
                    rotate_left 1
                    · intro Wv hW
                      replace k0 := cell_of_ans hW k0
                      replace k1 := cell_of_ans hW k1
                      replace e0 := cell_of_ans hW e0
                      replace e1 := cell_of_ans hW e1
                      go_simp
                      first | done | with_reducible rfl | omega
                    try simp only [Act.put, List.getElem_toArray, List.getElem_cons_zero, List.getElem_cons_succ, List.setIfInBounds_toArray, List.set_cons_zero, List.set_cons_succ]
                    refine' T_take (i := 5) (v := _) rfl (by kernel_rfl) (by kernel_rfl) (by kernel_rfl) (by kernel_rfl) (fun _ _ _ h => h) (by kernel_rfl) hS ?_ ?_
                    rotate_left 1
                    · intro Wv hW
                      replace k0 := cell_of_ans hW k0
                      replace k1 := cell_of_ans hW k1
                      replace e0 := cell_of_ans hW e0
                      replace e1 := cell_of_ans hW e1
                      go_simp
                      first | done | with_reducible rfl | omega
                    try simp only [Act.put, List.getElem_toArray, List.getElem_cons_zero, List.getElem_cons_succ, List.setIfInBounds_toArray, List.set_cons_zero, List.set_cons_succ]
                    refine' T_take (i := 6) (v := _) rfl (by kernel_rfl) (by kernel_rfl) (by kernel_rfl) (by kernel_rfl) (fun _ _ _ h => h) (by kernel_rfl) hS ?_ ?_
                    rotate_left 1
                    · intro Wv hW
                      replace k0 := cell_of_ans hW k0
                      replace k1 := cell_of_ans hW k1
                      replace e0 := cell_of_ans hW e0
                      replace e1 := cell_of_ans hW e1
                      go_simp
                      first | done | with_reducible rfl | omega
                    try simp only [Act.put, List.getElem_toArray, List.getElem_cons_zero, List.getElem_cons_succ, List.setIfInBounds_toArray, List.set_cons_zero, List.set_cons_succ]
                    refine' T_take (i := 7) (v := _) rfl (by kernel_rfl) (by kernel_rfl) (by kernel_rfl) (by kernel_rfl) (fun _ _ _ h => h) (by kernel_rfl) hS ?_ ?_
                    rotate_left 1
                    · intro Wv hW
                      replace k0 := cell_of_ans hW k0
                      replace k1 := cell_of_ans hW k1
                      replace e0 := cell_of_ans hW e0
                      replace e1 := cell_of_ans hW e1
                      go_simp
                      first | done | with_reducible rfl | omega
                    try simp only [Act.put, List.getElem_toArray, List.getElem_cons_zero, List.getElem_cons_succ, List.setIfInBounds_toArray, List.set_cons_zero, List.set_cons_succ]
                    refine T_ready (rs := [1]) (by kernel_rfl) (by simp) ?_
                    refine TReady.cons rfl (fun K hK => ?_) TReady.nil
                    try go_simp
                    refine ((HYC.out _ cy _ (HYS.out.step hS) HCY9.out)).mono ?_
                    rintro e v1 ⟨A9y, c9y, rfl, ⟨hg9, hc91, hc92⟩, hb⟩
                    have hS2 : Below x14.heap.size x14 v1 := below_cat hb hS
                    have HG9 := Lib.hid hg9
                    clear hg9
                    try go_simp
                    refine hK.out _ _ (fun _ => hS2) (fun _ => ?_)
                    clear hK K hS hb
                    replace hS := hS2
                    clear hS2
                    try simp only [Act.put, List.getElem_toArray, List.getElem_cons_zero, List.getElem_cons_succ, List.setIfInBounds_toArray, List.set_cons_zero, List.set_cons_succ]
                    refine T_ready (rs := [8]) (by kernel_rfl) (by simp) ?_
                    refine TReady.cons rfl (fun K hK => ?_) TReady.nil
                    try go_simp
                    refine ((HCYY.out (st : Int) A9y c9y _ HG9.out ⟨hc91, hc92⟩)).mono ?_
                    rw [HF3.out.1, HF3.out.2]
                    rintro e v2 ⟨rfl, hb⟩
                    have hS2 : Below x14.heap.size x14 v2 := below_cat hb hS
                    try go_simp
                    refine hK.out _ _ (fun _ => hS2) (fun _ => ?_)
                    clear hK K hS hb
                    replace hS := hS2
                    clear hS2
                    try simp only [Act.put, List.getElem_toArray, List.getElem_cons_zero, List.getElem_cons_succ, List.setIfInBounds_toArray, List.set_cons_zero, List.set_cons_succ]
                    refine' T_take (i := 9) (v := _) rfl (by kernel_rfl) (by kernel_rfl) (by kernel_rfl) (by kernel_rfl) (fun _ _ _ h => h) (by kernel_rfl) hS ?_ ?_
                    rotate_left 1
                    · intro Wv hW
                      replace k0 := cell_of_ans hW k0
                      replace k1 := cell_of_ans hW k1
                      replace e0 := cell_of_ans hW e0
                      replace e1 := cell_of_ans hW e1
                      go_simp
                      first | done | with_reducible rfl | omega
                    try simp only [Act.put, List.getElem_toArray, List.getElem_cons_zero, List.getElem_cons_succ, List.setIfInBounds_toArray, List.set_cons_zero, List.set_cons_succ]
                    refine' T_take (i := 10) (v := _) rfl (by kernel_rfl) (by kernel_rfl) (by kernel_rfl) (by kernel_rfl) (fun _ _ _ h => h) (by kernel_rfl) hS ?_ ?_
                    rotate_left 1
                    · intro Wv hW
                      replace k0 := cell_of_ans hW k0
                      replace k1 := cell_of_ans hW k1
                      replace e0 := cell_of_ans hW e0
                      replace e1 := cell_of_ans hW e1
                      go_simp
                      first | done | with_reducible rfl | omega
                    try simp only [Act.put, List.getElem_toArray, List.getElem_cons_zero, List.getElem_cons_succ, List.setIfInBounds_toArray, List.set_cons_zero, List.set_cons_succ]
                    refine' T_take (i := 11) (v := _) rfl (by kernel_rfl) (by kernel_rfl) (by kernel_rfl) (by kernel_rfl) (fun _ _ _ h => h) (by kernel_rfl) hS ?_ ?_
                    rotate_left 1
                    · intro Wv hW
                      replace k0 := cell_of_ans hW k0
                      replace k1 := cell_of_ans hW k1
                      replace e0 := cell_of_ans hW e0
                      replace e1 := cell_of_ans hW e1
                      go_simp
                      first | done | with_reducible rfl | omega
                    try simp only [Act.put, List.getElem_toArray, List.getElem_cons_zero, List.getElem_cons_succ, List.setIfInBounds_toArray, List.set_cons_zero, List.set_cons_succ]
                    refine' T_take (i := 12) (v := _) rfl (by kernel_rfl) (by kernel_rfl) (by kernel_rfl) (by kernel_rfl) (fun _ _ _ h => h) (by kernel_rfl) hS ?_ ?_
                    rotate_left 1
                    · intro Wv hW
                      replace k0 := cell_of_ans hW k0
                      replace k1 := cell_of_ans hW k1
                      replace e0 := cell_of_ans hW e0
                      replace e1 := cell_of_ans hW e1
                      go_simp
                      first | done | with_reducible rfl | omega
                    try simp only [Act.put, List.getElem_toArray, List.getElem_cons_zero, List.getElem_cons_succ, List.setIfInBounds_toArray, List.set_cons_zero, List.set_cons_succ]
                    refine' T_take (i := 13) (v := _) rfl (by kernel_rfl) (by kernel_rfl) (by kernel_rfl) (by kernel_rfl) (fun _ _ _ h => h) (by kernel_rfl) hS ?_ ?_
                    rotate_left 1
                    · intro Wv hW
                      replace k0 := cell_of_ans hW k0
                      replace k1 := cell_of_ans hW k1
                      replace e0 := cell_of_ans hW e0
                      replace e1 := cell_of_ans hW e1
                      go_simp
                      first | done | with_reducible rfl | omega
                    try simp only [Act.put, List.getElem_toArray, List.getElem_cons_zero, List.getElem_cons_succ, List.setIfInBounds_toArray, List.set_cons_zero, List.set_cons_succ]
                    refine T_done (by kernel_rfl) ?_ _
                    refine NoPanic.normal ?_
                    try go_simp
                    have hb := hS
                    clear hS HG9
                    replace HL := Lib.hid (HL.out.step hb)
                    replace HXS := Lib.hid (HXS.out.step hb)
                    replace HYS := Lib.hid (HYS.out.step hb)
                    replace k0 := cell_of_ans hb k0
                    replace k1 := cell_of_ans hb k1
                    replace q0 := cell_of_ans hb q0
                    replace q1 := cell_of_ans hb q1
                    replace e0 := cell_of_ans hb e0
                    replace e1 := cell_of_ans hb e1
                    replace HBR := Lib.hid (HBR.out.trans (hb.mono HBR.out.size))
                    replace d4 := cell_of_ans hb d4
                    replace d6 := cell_of_ans hb d6
                    replace HB := Lib.hid (HB.out.trans (hb.mono HB.out.size))
                    clear hb
                    clear HF1 HF2 HF3 HCA HCX HCYY HXC HYC HLG
                    go_upto_region 25 with fail
                    cases cb
                    · go_quiet (fail)
                      have hb : Below v2.heap.size v2 (v2.drewN nq) := below_drewN (Below.refl _ _) nq
                      replace HL := Lib.hid (HL.out.step hb)
                      replace HXS := Lib.hid (HXS.out.step hb)
                      replace HYS := Lib.hid (HYS.out.step hb)
                      replace k0 := cell_of_ans hb k0
                      replace k1 := cell_of_ans hb k1
                      replace q0 := cell_of_ans hb q0
                      replace q1 := cell_of_ans hb q1
                      replace e0 := cell_of_ans hb e0
                      replace e1 := cell_of_ans hb e1
                      replace HBR := Lib.hid (HBR.out.trans (hb.mono HBR.out.size))
                      replace d4 := cell_of_ans hb d4
                      replace d6 := cell_of_ans hb d6
                      replace HB := Lib.hid (HB.out.trans (hb.mono HB.out.size))
                      clear hb
                      generalize v2.drewN nq = v3 at *
                      go_wp2_with fail
                      go_roundw
                      case rel => exact ⟨t + 1, by omega, by go_num, HBR.out⟩
                      case measure => simp [intOf]; omega
                    · go_quiet (fail)
                      have hb : Below v2.heap.size v2 (v2.drewN nq) := below_drewN (Below.refl _ _) nq
                      replace HL := Lib.hid (HL.out.step hb)
                      replace HXS := Lib.hid (HXS.out.step hb)
                      replace HYS := Lib.hid (HYS.out.step hb)
                      replace k0 := cell_of_ans hb k0
                      replace k1 := cell_of_ans hb k1
                      replace q0 := cell_of_ans hb q0
                      replace q1 := cell_of_ans hb q1
                      replace e0 := cell_of_ans hb e0
                      replace e1 := cell_of_ans hb e1
                      replace HBR := Lib.hid (HBR.out.trans (hb.mono HBR.out.size))
                      replace d4 := cell_of_ans hb d4
                      replace d6 := cell_of_ans hb d6
                      replace HB := Lib.hid (HB.out.trans (hb.mono HB.out.size))
                      clear hb
                      generalize v2.drewN nq = v3 at *
                      go_wp2_with fail
                      go_roundw
                      case rel => exact ⟨t + 1, by omega, by go_num, HBR.out⟩
                      case measure => simp [intOf]; omega
                  · obtain rfl : t = T := by omega
                    have hti : ¬ (t : Int) < l.teams := by have := HTI.out; omega
                    go_wp2_with fail
                    refine (awake16_c _).mono ?_
                    rintro e x15 ⟨rfl, hb⟩
                    replace HL := Lib.hid (HL.out.step hb)
                    replace HXS := Lib.hid (HXS.out.step hb)
                    replace HYS := Lib.hid (HYS.out.step hb)
                    replace k0 := cell_of_ans hb k0
                    replace k1 := cell_of_ans hb k1
                    replace q0 := cell_of_ans hb q0
                    replace q1 := cell_of_ans hb q1
                    replace e0 := cell_of_ans hb e0
                    replace e1 := cell_of_ans hb e1
                    replace HBR := Lib.hid (HBR.out.trans (hb.mono HBR.out.size))
                    replace HB := Lib.hid (HB.out.trans (hb.mono HB.out.size))
                    clear hb
                    go_wp2_with fail
                    go_ret
                    exact ⟨rfl, HB.out⟩
          have TAILH := Lib.hid TAIL
          clear TAIL
          clear aKK HOR HLG HCO HUR HRK HCA
          refine wp_region_noPanic ?_
          have hS : (fun W' : World => Below x0.heap.size x0 W') x0.drew := (Below.refl _ _).drew
          refine wp_region_any (by kernel_rfl) (wpAny_of_T (S := fun W' : World => Below x0.heap.size x0 W') (m := 16) _ _ _ _ ?_)
          replace hS : Below x0.heap.size x0 x0.drew := hS
          change wpAnyT _ _ _ _ _ _ _ _ _ x0.drew
          generalize x0.drew = y0 at *
          refine' T_take (i := 0) (v := _) rfl (by kernel_rfl) (by kernel_rfl) (by kernel_rfl) (by kernel_rfl) (fun _ _ _ h => h) (by kernel_rfl) hS ?_ ?_
          rotate_left 1
          · intro Wv hW
            have g0 := cell_of_ans hW k0
            have g1 := cell_of_ans hW k1
            go_simp
            first | done | with_reducible rfl | omega
          try simp only [Act.put, List.getElem_toArray, List.getElem_cons_zero, List.getElem_cons_succ, List.setIfInBounds_toArray, List.set_cons_zero, List.set_cons_succ]
          refine' T_take (i := 1) (v := _) rfl (by kernel_rfl) (by kernel_rfl) (by kernel_rfl) (by kernel_rfl) (fun _ _ _ h => h) (by kernel_rfl) hS ?_ ?_
          rotate_left 1
          · intro Wv hW
            have g0 := cell_of_ans hW k0
            have g1 := cell_of_ans hW k1
            go_simp
            first | done | with_reducible rfl | omega
          try simp only [Act.put, List.getElem_toArray, List.getElem_cons_zero, List.getElem_cons_succ, List.setIfInBounds_toArray, List.set_cons_zero, List.set_cons_succ]
          refine' T_take (i := 3) (v := _) rfl (by kernel_rfl) (by kernel_rfl) (by kernel_rfl) (by kernel_rfl) (fun _ _ _ h => h) (by kernel_rfl) hS ?_ ?_
          rotate_left 1
          · intro Wv hW
            have g0 := cell_of_ans hW k0
            have g1 := cell_of_ans hW k1
            go_simp
            first | done | with_reducible rfl | omega
          try simp only [Act.put, List.getElem_toArray, List.getElem_cons_zero, List.getElem_cons_succ, List.setIfInBounds_toArray, List.set_cons_zero, List.set_cons_succ]
          refine' T_take (i := 4) (v := _) rfl (by kernel_rfl) (by kernel_rfl) (by kernel_rfl) (by kernel_rfl) (fun _ _ _ h => h) (by kernel_rfl) hS ?_ ?_
          rotate_left 1
          · intro Wv hW
            have g0 := cell_of_ans hW k0
            have g1 := cell_of_ans hW k1
            go_simp
            first | done | with_reducible rfl | omega
          try simp only [Act.put, List.getElem_toArray, List.getElem_cons_zero, List.getElem_cons_succ, List.setIfInBounds_toArray, List.set_cons_zero, List.set_cons_succ]
          refine' T_take (i := 5) (v := _) rfl (by kernel_rfl) (by kernel_rfl) (by kernel_rfl) (by kernel_rfl) (fun _ _ _ h => h) (by kernel_rfl) hS ?_ ?_
          rotate_left 1
          · intro Wv hW
            have g0 := cell_of_ans hW k0
            have g1 := cell_of_ans hW k1
            go_simp
            first | done | with_reducible rfl | omega
          try simp only [Act.put, List.getElem_toArray, List.getElem_cons_zero, List.getElem_cons_succ, List.setIfInBounds_toArray, List.set_cons_zero, List.set_cons_succ]
          refine' T_take (i := 6) (v := _) rfl (by kernel_rfl) (by kernel_rfl) (by kernel_rfl) (by kernel_rfl) (fun _ _ _ h => h) (by kernel_rfl) hS ?_ ?_
          rotate_left 1
          · intro Wv hW
            have g0 := cell_of_ans hW k0
            have g1 := cell_of_ans hW k1
            go_simp
            first | done | with_reducible rfl | omega
          try simp only [Act.put, List.getElem_toArray, List.getElem_cons_zero, List.getElem_cons_succ, List.setIfInBounds_toArray, List.set_cons_zero, List.set_cons_succ]
          refine' T_take (i := 8) (v := _) rfl (by kernel_rfl) (by kernel_rfl) (by kernel_rfl) (by kernel_rfl) (fun _ _ _ h => h) (by kernel_rfl) hS ?_ ?_
          rotate_left 1
          · intro Wv hW
            have g0 := cell_of_ans hW k0
            have g1 := cell_of_ans hW k1
            go_simp
            first | done | with_reducible rfl | omega
          try simp only [Act.put, List.getElem_toArray, List.getElem_cons_zero, List.getElem_cons_succ, List.setIfInBounds_toArray, List.set_cons_zero, List.set_cons_succ]
          refine' T_take (i := 9) (v := _) rfl (by kernel_rfl) (by kernel_rfl) (by kernel_rfl) (by kernel_rfl) (fun _ _ _ h => h) (by kernel_rfl) hS ?_ ?_
          rotate_left 1
          · intro Wv hW
            have g0 := cell_of_ans hW k0
            have g1 := cell_of_ans hW k1
            go_simp
            first | done | with_reducible rfl | omega
          try simp only [Act.put, List.getElem_toArray, List.getElem_cons_zero, List.getElem_cons_succ, List.setIfInBounds_toArray, List.set_cons_zero, List.set_cons_succ]
          refine' T_take (i := 10) (v := _) rfl (by kernel_rfl) (by kernel_rfl) (by kernel_rfl) (by kernel_rfl) (fun _ _ _ h => h) (by kernel_rfl) hS ?_ ?_
          rotate_left 1
          · intro Wv hW
            have g0 := cell_of_ans hW k0
            have g1 := cell_of_ans hW k1
            go_simp
            first | done | with_reducible rfl | omega
          try simp only [Act.put, List.getElem_toArray, List.getElem_cons_zero, List.getElem_cons_succ, List.setIfInBounds_toArray, List.set_cons_zero, List.set_cons_succ]
          refine' T_take (i := 11) (v := _) rfl (by kernel_rfl) (by kernel_rfl) (by kernel_rfl) (by kernel_rfl) (fun _ _ _ h => h) (by kernel_rfl) hS ?_ ?_
          rotate_left 1
          · intro Wv hW
            have g0 := cell_of_ans hW k0
            have g1 := cell_of_ans hW k1
            go_simp
            first | done | with_reducible rfl | omega
          try simp only [Act.put, List.getElem_toArray, List.getElem_cons_zero, List.getElem_cons_succ, List.setIfInBounds_toArray, List.set_cons_zero, List.set_cons_succ]
          refine T_ready (rs := [2, 14]) (by kernel_rfl) (by simp) ?_
          refine TReady.cons rfl (fun K hK => ?_) (TReady.cons rfl (fun K hK => ?_) TReady.nil)
          · try go_simp
            have hS2 : Below x0.heap.size x0 (y0.alloc (.cells #[] 70)) := hS.alloc hS.size _
            have hb : Below y0.heap.size y0 (y0.alloc (.cells #[] 70)) := (Below.refl _ _).alloc (Nat.le_refl _) _
            have HO := Lib.hid (OwnM.made (base := x0.heap.size) (w := y0) hS.size)
            clear hb
            refine hK.out _ _ (fun _ => hS2) (fun _ => ?_)
            clear hK K hS
            have hS := hS2
            clear hS2
            generalize y0.alloc (.cells #[] 70) = y1 at *
            try simp only [Act.put, List.getElem_toArray, List.getElem_cons_zero, List.getElem_cons_succ, List.setIfInBounds_toArray, List.set_cons_zero, List.set_cons_succ]
            refine T_ready (rs := [7, 14]) (by kernel_rfl) (by simp) ?_
            refine TReady.cons rfl (fun K hK => ?_) (TReady.cons rfl (fun K hK => ?_) TReady.nil)
            · refine step_appMs (.tmp 59) (.tmp 63) rfl rfl (B := x0.heap.size) x0.heap.size y1 (.slice (some ⟨y0.heap.size, 0, none⟩) 0 0) [] (l.games.drop kN) _ _ _ rfl rfl HDL.out.symm (Lib.hid (HGD.out.below hS)) HO (by have := HDL.out; have := HTL.out; simp only [List.length_append, List.length_nil]; omega) (l.games.length - kN) (by have := HDL.out; have := HTL.out; simp only [List.length_append, List.length_nil]; omega) hS.size ?_
              intro B2 d2 y2 HO1 HB1 HQQ
              have hS2 : Below x0.heap.size x0 y2 := hS.trans HB1.out
              refine hK.out _ _ (fun _ => hS2) (fun _ => ?_)
              clear hK K hS HB1 HQQ HO
              have hS := hS2
              clear hS2
              have HO := HO1
              clear HO1
              try simp only [Act.put, List.getElem_toArray, List.getElem_cons_zero, List.getElem_cons_succ, List.setIfInBounds_toArray, List.set_cons_zero, List.set_cons_succ]
              refine T_ready (rs := [12, 14]) (by kernel_rfl) (by simp) ?_
              refine TReady.cons rfl (fun K hK => ?_) (TReady.cons rfl (fun K hK => ?_) TReady.nil)
              · refine step_appMs (.tmp 64) (.tmp 68) rfl rfl (B := x0.heap.size) x0.heap.size y2 (.slice B2 (l.games.length - kN) d2) ([] ++ l.games.drop kN) (l.games.take kN) _ _ _ rfl rfl HTL.out.symm (Lib.hid (HGT.out.below hS)) HO (by have := HDL.out; have := HTL.out; simp only [List.length_append, List.length_nil]; omega) l.games.length (by have := HDL.out; have := HTL.out; simp only [List.length_append, List.length_nil]; omega) hS.size ?_
                intro B3 d3 y3 HO1 HB1 HQQ
                have hS2 : Below x0.heap.size x0 y3 := hS.trans HB1.out
                refine hK.out _ _ (fun _ => hS2) (fun _ => ?_)
                clear hK K hS HB1 HQQ HO
                have hS := hS2
                clear hS2
                have HO := HO1
                clear HO1
                try simp only [Act.put, List.getElem_toArray, List.getElem_cons_zero, List.getElem_cons_succ, List.setIfInBounds_toArray, List.set_cons_zero, List.set_cons_succ]
                refine' T_take (i := 13) (v := _) rfl (by kernel_rfl) (by kernel_rfl) (by kernel_rfl) (by kernel_rfl) (fun _ _ _ h => h) (by kernel_rfl) hS ?_ ?_
                rotate_left 1
                · intro Wv hW
                  have g0 := cell_of_ans hW k0
                  have g1 := cell_of_ans hW k1
                  go_simp
                  first | done | with_reducible rfl | omega
                try simp only [Act.put, List.getElem_toArray, List.getElem_cons_zero, List.getElem_cons_succ, List.setIfInBounds_toArray, List.set_cons_zero, List.set_cons_succ]
                refine T_ready (rs := [14]) (by kernel_rfl) (by simp) ?_
                refine TReady.cons rfl (fun K hK => ?_) TReady.nil
                try go_simp
                have hS2 : Below x0.heap.size x0 (y3.alloc (.cells #[.int .i64 0, .slice none 0 0] 24)) := hS.alloc hS.size _
                have hb : Below y3.heap.size y3 (y3.alloc (.cells #[.int .i64 0, .slice none 0 0] 24)) := (Below.refl _ _).alloc (Nat.le_refl _) _
                have HQ : Hid (At2 (y3.alloc (.cells #[.int .i64 0, .slice none 0 0] 24)) y3.heap.size 24 (.int .i64 0) (.slice none 0 0)) := World.alloc_heap_new _ _
                have HQ0 : Hid (x0.heap.size ≤ y3.heap.size) := hS.size
                have HNQ := Lib.hid (HO.out.notIn (Nat.le_refl y3.heap.size))
                replace HO := Lib.hid (HO.out.step hb)
                clear hb
                refine hK.out _ _ (fun _ => hS2) (fun _ => ?_)
                clear hK K hS
                have hS := hS2
                clear hS2
                generalize (y3.alloc (.cells #[.int .i64 0, .slice none 0 0] 24)) = y4 at *
                try simp only [Act.put, List.getElem_toArray, List.getElem_cons_zero, List.getElem_cons_succ, List.setIfInBounds_toArray, List.set_cons_zero, List.set_cons_succ]
                refine T_ready (rs := [15]) (by kernel_rfl) (by simp) ?_
                refine TReady.cons rfl (fun K hK => ?_) TReady.nil
                have e9 : ([] ++ l.games.drop kN) ++ l.games.take kN = rs := by rw [List.nil_append]; exact HRS.out
                rw [e9] at HO
                clear e9
                obtain ⟨⟨m0, m1⟩, mf⟩ := HQ.out.cells
                have mf0 := mf 0
                have mf1 := mf 1
                try go_simp
                have hS2 : Below x0.heap.size x0 ((y4.setCell ⟨y3.heap.size, 0, none⟩ (.int .i64 l.teams)).setCell ⟨y3.heap.size, 1, none⟩ (.slice B3 l.games.length d3)) := (hS.setCell (p := ⟨y3.heap.size, 0, none⟩) HQ0.out _).setCell (p := ⟨y3.heap.size, 1, none⟩) HQ0.out _
                refine hK.out _ _ (fun _ => hS2) (fun _ => ?_)
                clear hK K hS
                have hS := hS2
                clear hS2 m0 m1 mf mf0 mf1
                replace HQ := Lib.hid (HQ.out.set (.int .i64 l.teams) (.slice B3 l.games.length d3))
                replace HO : Hid (OwnM 70 x0.heap.size ((y4.setCell ⟨y3.heap.size, 0, none⟩ (.int .i64 l.teams)).setCell ⟨y3.heap.size, 1, none⟩ (.slice B3 l.games.length d3)) (.slice B3 l.games.length d3) rs) := (HO.out.farQ (q := y3.heap.size) (o := 0) HNQ.out _).farQ (q := y3.heap.size) (o := 1) HNQ.out _
                try simp only [Act.put, List.getElem_toArray, List.getElem_cons_zero, List.getElem_cons_succ, List.setIfInBounds_toArray, List.set_cons_zero, List.set_cons_succ]
                refine T_done (by kernel_rfl) ?_ _
                refine NoPanic.normal ?_
                try go_simp
                exact TAILH.out _ _ _ _ _ _ _ _ _ _ _ _ _ _ _ _ _ _ _ _ _ _ _ _ _ _ _ _ _ _ _ _ _ _ _ _ _ _ _ _ _ _ _ _ _ _ _ _ _ _ _ _ _ _ _ _ _ _ _ _ _ _ _ _ _ _ _ _ _ _ _ _ _ _ _ _ _ _ _ _ _ _ _ _ _ _ _ _ _ _ _ _ _ _ _ _ _ _ _ _ _ _ _ _ _ _ _ _ _ _ _ _ _ _ _ _ _ _ _ _ _ _ _ _ _ _ _ _ _ _ _ _ _ _ _ _ _ _ _ _ _ _ _ _ _ _ _ _ _ _ _ _ _ _ _ _ _ _ _ _ _ _ _ _ _ _ _ _ _ _ _ _ _ _ _ _ _ _ _ _ _ _ _ _ _ _ _ _ _ _ _ _ _ _ _ _ _ _ _ _ _ _ _ _ _ _ _ _ _ _ _ _ _ _ _ _ _ _ _ _ _ _ _ _ _ _ _ _ _ _ _ _ _ _ _ _ _ _ _ _ _ B3 d3 _ (Lib.hid hS) HQ HO HNQ HQ0
              · try go_simp
                have hS2 : Below x0.heap.size x0 (y2.alloc (.cells #[.int .i64 0, .slice none 0 0] 24)) := hS.alloc hS.size _
                have hb : Below y2.heap.size y2 (y2.alloc (.cells #[.int .i64 0, .slice none 0 0] 24)) := (Below.refl _ _).alloc (Nat.le_refl _) _
                have HQ : Hid (At2 (y2.alloc (.cells #[.int .i64 0, .slice none 0 0] 24)) y2.heap.size 24 (.int .i64 0) (.slice none 0 0)) := World.alloc_heap_new _ _
                have HQ0 : Hid (x0.heap.size ≤ y2.heap.size) := hS.size
                have HNQ := Lib.hid (HO.out.notIn (Nat.le_refl y2.heap.size))
                replace HO := Lib.hid (HO.out.step hb)
                clear hb
                refine hK.out _ _ (fun _ => hS2) (fun _ => ?_)
                clear hK K hS
                have hS := hS2
                clear hS2
                generalize (y2.alloc (.cells #[.int .i64 0, .slice none 0 0] 24)) = y3 at *
                try simp only [Act.put, List.getElem_toArray, List.getElem_cons_zero, List.getElem_cons_succ, List.setIfInBounds_toArray, List.set_cons_zero, List.set_cons_succ]
                refine T_ready (rs := [12]) (by kernel_rfl) (by simp) ?_
                refine TReady.cons rfl (fun K hK => ?_) TReady.nil
                refine step_appMs (.tmp 64) (.tmp 68) rfl rfl (B := x0.heap.size) x0.heap.size y3 (.slice B2 (l.games.length - kN) d2) ([] ++ l.games.drop kN) (l.games.take kN) _ _ _ rfl rfl HTL.out.symm (Lib.hid (HGT.out.below hS)) HO (by have := HDL.out; have := HTL.out; simp only [List.length_append, List.length_nil]; omega) l.games.length (by have := HDL.out; have := HTL.out; simp only [List.length_append, List.length_nil]; omega) hS.size ?_
                intro B4 d4 y4 HO1 HB1 HQQ
                have hS2 : Below x0.heap.size x0 y4 := hS.trans HB1.out
                obtain ⟨hq8, hq9⟩ := HQQ.out _ _ _ _ HQ.out HNQ.out
                replace HQ := Lib.hid hq8
                replace HNQ := Lib.hid hq9
                clear hq8 hq9
                refine hK.out _ _ (fun _ => hS2) (fun _ => ?_)
                clear hK K hS HB1 HQQ HO
                have hS := hS2
                clear hS2
                have HO := HO1
                clear HO1
                try simp only [Act.put, List.getElem_toArray, List.getElem_cons_zero, List.getElem_cons_succ, List.setIfInBounds_toArray, List.set_cons_zero, List.set_cons_succ]
                refine' T_take (i := 13) (v := _) rfl (by kernel_rfl) (by kernel_rfl) (by kernel_rfl) (by kernel_rfl) (fun _ _ _ h => h) (by kernel_rfl) hS ?_ ?_
                rotate_left 1
                · intro Wv hW
                  have g0 := cell_of_ans hW k0
                  have g1 := cell_of_ans hW k1
                  go_simp
                  first | done | with_reducible rfl | omega
                try simp only [Act.put, List.getElem_toArray, List.getElem_cons_zero, List.getElem_cons_succ, List.setIfInBounds_toArray, List.set_cons_zero, List.set_cons_succ]
                refine T_ready (rs := [15]) (by kernel_rfl) (by simp) ?_
                refine TReady.cons rfl (fun K hK => ?_) TReady.nil
                have e9 : ([] ++ l.games.drop kN) ++ l.games.take kN = rs := by rw [List.nil_append]; exact HRS.out
                rw [e9] at HO
                clear e9
                obtain ⟨⟨m0, m1⟩, mf⟩ := HQ.out.cells
                have mf0 := mf 0
                have mf1 := mf 1
                try go_simp
                have hS2 : Below x0.heap.size x0 ((y4.setCell ⟨y2.heap.size, 0, none⟩ (.int .i64 l.teams)).setCell ⟨y2.heap.size, 1, none⟩ (.slice B4 l.games.length d4)) := (hS.setCell (p := ⟨y2.heap.size, 0, none⟩) HQ0.out _).setCell (p := ⟨y2.heap.size, 1, none⟩) HQ0.out _
                refine hK.out _ _ (fun _ => hS2) (fun _ => ?_)
                clear hK K hS
                have hS := hS2
                clear hS2 m0 m1 mf mf0 mf1
                replace HQ := Lib.hid (HQ.out.set (.int .i64 l.teams) (.slice B4 l.games.length d4))
                replace HO : Hid (OwnM 70 x0.heap.size ((y4.setCell ⟨y2.heap.size, 0, none⟩ (.int .i64 l.teams)).setCell ⟨y2.heap.size, 1, none⟩ (.slice B4 l.games.length d4)) (.slice B4 l.games.length d4) rs) := (HO.out.farQ (q := y2.heap.size) (o := 0) HNQ.out _).farQ (q := y2.heap.size) (o := 1) HNQ.out _
                try simp only [Act.put, List.getElem_toArray, List.getElem_cons_zero, List.getElem_cons_succ, List.setIfInBounds_toArray, List.set_cons_zero, List.set_cons_succ]
                refine T_done (by kernel_rfl) ?_ _
                refine NoPanic.normal ?_
                try go_simp
                exact TAILH.out _ _ _ _ _ _ _ _ _ _ _ _ _ _ _ _ _ _ _ _ _ _ _ _ _ _ _ _ _ _ _ _ _ _ _ _ _ _ _ _ _ _ _ _ _ _ _ _ _ _ _ _ _ _ _ _ _ _ _ _ _ _ _ _ _ _ _ _ _ _ _ _ _ _ _ _ _ _ _ _ _ _ _ _ _ _ _ _ _ _ _ _ _ _ _ _ _ _ _ _ _ _ _ _ _ _ _ _ _ _ _ _ _ _ _ _ _ _ _ _ _ _ _ _ _ _ _ _ _ _ _ _ _ _ _ _ _ _ _ _ _ _ _ _ _ _ _ _ _ _ _ _ _ _ _ _ _ _ _ _ _ _ _ _ _ _ _ _ _ _ _ _ _ _ _ _ _ _ _ _ _ _ _ _ _ _ _ _ _ _ _ _ _ _ _ _ _ _ _ _ _ _ _ _ _ _ _ _ _ _ _ _ _ _ _ _ _ _ _ _ _ _ _ _ _ _ _ _ _ _ _ _ _ _ _ _ _ _ _ _ _ B4 d4 _ (Lib.hid hS) HQ HO HNQ HQ0
            · try go_simp
              have hS2 : Below x0.heap.size x0 (y1.alloc (.cells #[.int .i64 0, .slice none 0 0] 24)) := hS.alloc hS.size _
              have hb : Below y1.heap.size y1 (y1.alloc (.cells #[.int .i64 0, .slice none 0 0] 24)) := (Below.refl _ _).alloc (Nat.le_refl _) _
              have HQ : Hid (At2 (y1.alloc (.cells #[.int .i64 0, .slice none 0 0] 24)) y1.heap.size 24 (.int .i64 0) (.slice none 0 0)) := World.alloc_heap_new _ _
              have HQ0 : Hid (x0.heap.size ≤ y1.heap.size) := hS.size
              have HNQ := Lib.hid (HO.out.notIn (Nat.le_refl y1.heap.size))
              replace HO := Lib.hid (HO.out.step hb)
              clear hb
              refine hK.out _ _ (fun _ => hS2) (fun _ => ?_)
              clear hK K hS
              have hS := hS2
              clear hS2
              generalize (y1.alloc (.cells #[.int .i64 0, .slice none 0 0] 24)) = y2 at *
              try simp only [Act.put, List.getElem_toArray, List.getElem_cons_zero, List.getElem_cons_succ, List.setIfInBounds_toArray, List.set_cons_zero, List.set_cons_succ]
              refine T_ready (rs := [7]) (by kernel_rfl) (by simp) ?_
              refine TReady.cons rfl (fun K hK => ?_) TReady.nil
              refine step_appMs (.tmp 59) (.tmp 63) rfl rfl (B := x0.heap.size) x0.heap.size y2 (.slice (some ⟨y0.heap.size, 0, none⟩) 0 0) [] (l.games.drop kN) _ _ _ rfl rfl HDL.out.symm (Lib.hid (HGD.out.below hS)) HO (by have := HDL.out; have := HTL.out; simp only [List.length_append, List.length_nil]; omega) (l.games.length - kN) (by have := HDL.out; have := HTL.out; simp only [List.length_append, List.length_nil]; omega) hS.size ?_
              intro B3 d3 y3 HO1 HB1 HQQ
              have hS2 : Below x0.heap.size x0 y3 := hS.trans HB1.out
              obtain ⟨hq8, hq9⟩ := HQQ.out _ _ _ _ HQ.out HNQ.out
              replace HQ := Lib.hid hq8
              replace HNQ := Lib.hid hq9
              clear hq8 hq9
              refine hK.out _ _ (fun _ => hS2) (fun _ => ?_)
              clear hK K hS HB1 HQQ HO
              have hS := hS2
              clear hS2
              have HO := HO1
              clear HO1
              try simp only [Act.put, List.getElem_toArray, List.getElem_cons_zero, List.getElem_cons_succ, List.setIfInBounds_toArray, List.set_cons_zero, List.set_cons_succ]
              refine T_ready (rs := [12]) (by kernel_rfl) (by simp) ?_
              refine TReady.cons rfl (fun K hK => ?_) TReady.nil
              refine step_appMs (.tmp 64) (.tmp 68) rfl rfl (B := x0.heap.size) x0.heap.size y3 (.slice B3 (l.games.length - kN) d3) ([] ++ l.games.drop kN) (l.games.take kN) _ _ _ rfl rfl HTL.out.symm (Lib.hid (HGT.out.below hS)) HO (by have := HDL.out; have := HTL.out; simp only [List.length_append, List.length_nil]; omega) l.games.length (by have := HDL.out; have := HTL.out; simp only [List.length_append, List.length_nil]; omega) hS.size ?_
              intro B4 d4 y4 HO1 HB1 HQQ
              have hS2 : Below x0.heap.size x0 y4 := hS.trans HB1.out
              obtain ⟨hq8, hq9⟩ := HQQ.out _ _ _ _ HQ.out HNQ.out
              replace HQ := Lib.hid hq8
              replace HNQ := Lib.hid hq9
              clear hq8 hq9
              refine hK.out _ _ (fun _ => hS2) (fun _ => ?_)
              clear hK K hS HB1 HQQ HO
              have hS := hS2
              clear hS2
              have HO := HO1
              clear HO1
              try simp only [Act.put, List.getElem_toArray, List.getElem_cons_zero, List.getElem_cons_succ, List.setIfInBounds_toArray, List.set_cons_zero, List.set_cons_succ]
              refine' T_take (i := 13) (v := _) rfl (by kernel_rfl) (by kernel_rfl) (by kernel_rfl) (by kernel_rfl) (fun _ _ _ h => h) (by kernel_rfl) hS ?_ ?_
              rotate_left 1
              · intro Wv hW
                have g0 := cell_of_ans hW k0
                have g1 := cell_of_ans hW k1
                go_simp
                first | done | with_reducible rfl | omega
              try simp only [Act.put, List.getElem_toArray, List.getElem_cons_zero, List.getElem_cons_succ, List.setIfInBounds_toArray, List.set_cons_zero, List.set_cons_succ]
              refine T_ready (rs := [15]) (by kernel_rfl) (by simp) ?_
              refine TReady.cons rfl (fun K hK => ?_) TReady.nil
              have e9 : ([] ++ l.games.drop kN) ++ l.games.take kN = rs := by rw [List.nil_append]; exact HRS.out
              rw [e9] at HO
              clear e9
              obtain ⟨⟨m0, m1⟩, mf⟩ := HQ.out.cells
              have mf0 := mf 0
              have mf1 := mf 1
              try go_simp
              have hS2 : Below x0.heap.size x0 ((y4.setCell ⟨y1.heap.size, 0, none⟩ (.int .i64 l.teams)).setCell ⟨y1.heap.size, 1, none⟩ (.slice B4 l.games.length d4)) := (hS.setCell (p := ⟨y1.heap.size, 0, none⟩) HQ0.out _).setCell (p := ⟨y1.heap.size, 1, none⟩) HQ0.out _
              refine hK.out _ _ (fun _ => hS2) (fun _ => ?_)
              clear hK K hS
              have hS := hS2
              clear hS2 m0 m1 mf mf0 mf1
              replace HQ := Lib.hid (HQ.out.set (.int .i64 l.teams) (.slice B4 l.games.length d4))
              replace HO : Hid (OwnM 70 x0.heap.size ((y4.setCell ⟨y1.heap.size, 0, none⟩ (.int .i64 l.teams)).setCell ⟨y1.heap.size, 1, none⟩ (.slice B4 l.games.length d4)) (.slice B4 l.games.length d4) rs) := (HO.out.farQ (q := y1.heap.size) (o := 0) HNQ.out _).farQ (q := y1.heap.size) (o := 1) HNQ.out _
              try simp only [Act.put, List.getElem_toArray, List.getElem_cons_zero, List.getElem_cons_succ, List.setIfInBounds_toArray, List.set_cons_zero, List.set_cons_succ]
              refine T_done (by kernel_rfl) ?_ _
              refine NoPanic.normal ?_
              try go_simp
              exact TAILH.out _ _ _ _ _ _ _ _ _ _ _ _ _ _ _ _ _ _ _ _ _ _ _ _ _ _ _ _ _ _ _ _ _ _ _ _ _ _ _ _ _ _ _ _ _ _ _ _ _ _ _ _ _ _ _ _ _ _ _ _ _ _ _ _ _ _ _ _ _ _ _ _ _ _ _ _ _ _ _ _ _ _ _ _ _ _ _ _ _ _ _ _ _ _ _ _ _ _ _ _ _ _ _ _ _ _ _ _ _ _ _ _ _ _ _ _ _ _ _ _ _ _ _ _ _ _ _ _ _ _ _ _ _ _ _ _ _ _ _ _ _ _ _ _ _ _ _ _ _ _ _ _ _ _ _ _ _ _ _ _ _ _ _ _ _ _ _ _ _ _ _ _ _ _ _ _ _ _ _ _ _ _ _ _ _ _ _ _ _ _ _ _ _ _ _ _ _ _ _ _ _ _ _ _ _ _ _ _ _ _ _ _ _ _ _ _ _ _ _ _ _ _ _ _ _ _ _ _ _ _ _ _ _ _ _ _ _ _ _ _ _ B4 d4 _ (Lib.hid hS) HQ HO HNQ HQ0
          · try go_simp
            have hS2 : Below x0.heap.size x0 (y0.alloc (.cells #[.int .i64 0, .slice none 0 0] 24)) := hS.alloc hS.size _
            have hb : Below y0.heap.size y0 (y0.alloc (.cells #[.int .i64 0, .slice none 0 0] 24)) := (Below.refl _ _).alloc (Nat.le_refl _) _
            have HQ : Hid (At2 (y0.alloc (.cells #[.int .i64 0, .slice none 0 0] 24)) y0.heap.size 24 (.int .i64 0) (.slice none 0 0)) := World.alloc_heap_new _ _
            have HQ0 : Hid (x0.heap.size ≤ y0.heap.size) := hS.size
            clear hb
            refine hK.out _ _ (fun _ => hS2) (fun _ => ?_)
            clear hK K hS
            have hS := hS2
            clear hS2
            generalize (y0.alloc (.cells #[.int .i64 0, .slice none 0 0] 24)) = y1 at *
            try simp only [Act.put, List.getElem_toArray, List.getElem_cons_zero, List.getElem_cons_succ, List.setIfInBounds_toArray, List.set_cons_zero, List.set_cons_succ]
            refine T_ready (rs := [2]) (by kernel_rfl) (by simp) ?_
            refine TReady.cons rfl (fun K hK => ?_) TReady.nil
            try go_simp
            have hS2 : Below x0.heap.size x0 (y1.alloc (.cells #[] 70)) := hS.alloc hS.size _
            have hb : Below y1.heap.size y1 (y1.alloc (.cells #[] 70)) := (Below.refl _ _).alloc (Nat.le_refl _) _
            have HO := Lib.hid (OwnM.made (base := x0.heap.size) (w := y1) hS.size)
            have HNQ : Hid ((Value.slice (some ⟨y1.heap.size, 0, none⟩) 0 0).ownBlock ≠ some y0.heap.size) := fun e => by have h := HQ.out.lt; have e2 : y1.heap.size = y0.heap.size := Option.some.inj e; omega
            replace HQ := Lib.hid (HQ.out.step hb)
            clear hb
            refine hK.out _ _ (fun _ => hS2) (fun _ => ?_)
            clear hK K hS
            have hS := hS2
            clear hS2
            generalize y1.alloc (.cells #[] 70) = y2 at *
            try simp only [Act.put, List.getElem_toArray, List.getElem_cons_zero, List.getElem_cons_succ, List.setIfInBounds_toArray, List.set_cons_zero, List.set_cons_succ]
            refine T_ready (rs := [7]) (by kernel_rfl) (by simp) ?_
            refine TReady.cons rfl (fun K hK => ?_) TReady.nil
            refine step_appMs (.tmp 59) (.tmp 63) rfl rfl (B := x0.heap.size) x0.heap.size y2 (.slice (some ⟨y1.heap.size, 0, none⟩) 0 0) [] (l.games.drop kN) _ _ _ rfl rfl HDL.out.symm (Lib.hid (HGD.out.below hS)) HO (by have := HDL.out; have := HTL.out; simp only [List.length_append, List.length_nil]; omega) (l.games.length - kN) (by have := HDL.out; have := HTL.out; simp only [List.length_append, List.length_nil]; omega) hS.size ?_
            intro B3 d3 y3 HO1 HB1 HQQ
            have hS2 : Below x0.heap.size x0 y3 := hS.trans HB1.out
            obtain ⟨hq8, hq9⟩ := HQQ.out _ _ _ _ HQ.out HNQ.out
            replace HQ := Lib.hid hq8
            replace HNQ := Lib.hid hq9
            clear hq8 hq9
            refine hK.out _ _ (fun _ => hS2) (fun _ => ?_)
            clear hK K hS HB1 HQQ HO
            have hS := hS2
            clear hS2
            have HO := HO1
            clear HO1
            try simp only [Act.put, List.getElem_toArray, List.getElem_cons_zero, List.getElem_cons_succ, List.setIfInBounds_toArray, List.set_cons_zero, List.set_cons_succ]
            refine T_ready (rs := [12]) (by kernel_rfl) (by simp) ?_
            refine TReady.cons rfl (fun K hK => ?_) TReady.nil
            refine step_appMs (.tmp 64) (.tmp 68) rfl rfl (B := x0.heap.size) x0.heap.size y3 (.slice B3 (l.games.length - kN) d3) ([] ++ l.games.drop kN) (l.games.take kN) _ _ _ rfl rfl HTL.out.symm (Lib.hid (HGT.out.below hS)) HO (by have := HDL.out; have := HTL.out; simp only [List.length_append, List.length_nil]; omega) l.games.length (by have := HDL.out; have := HTL.out; simp only [List.length_append, List.length_nil]; omega) hS.size ?_
            intro B4 d4 y4 HO1 HB1 HQQ
            have hS2 : Below x0.heap.size x0 y4 := hS.trans HB1.out
            obtain ⟨hq8, hq9⟩ := HQQ.out _ _ _ _ HQ.out HNQ.out
            replace HQ := Lib.hid hq8
            replace HNQ := Lib.hid hq9
            clear hq8 hq9
            refine hK.out _ _ (fun _ => hS2) (fun _ => ?_)
            clear hK K hS HB1 HQQ HO
            have hS := hS2
            clear hS2
            have HO := HO1
            clear HO1
            try simp only [Act.put, List.getElem_toArray, List.getElem_cons_zero, List.getElem_cons_succ, List.setIfInBounds_toArray, List.set_cons_zero, List.set_cons_succ]
            refine' T_take (i := 13) (v := _) rfl (by kernel_rfl) (by kernel_rfl) (by kernel_rfl) (by kernel_rfl) (fun _ _ _ h => h) (by kernel_rfl) hS ?_ ?_
            rotate_left 1
            · intro Wv hW
              have g0 := cell_of_ans hW k0
              have g1 := cell_of_ans hW k1
              go_simp
              first | done | with_reducible rfl | omega
            try simp only [Act.put, List.getElem_toArray, List.getElem_cons_zero, List.getElem_cons_succ, List.setIfInBounds_toArray, List.set_cons_zero, List.set_cons_succ]
            refine T_ready (rs := [15]) (by kernel_rfl) (by simp) ?_
            refine TReady.cons rfl (fun K hK => ?_) TReady.nil
            have e9 : ([] ++ l.games.drop kN) ++ l.games.take kN = rs := by rw [List.nil_append]; exact HRS.out
            rw [e9] at HO
            clear e9
            obtain ⟨⟨m0, m1⟩, mf⟩ := HQ.out.cells
            have mf0 := mf 0
            have mf1 := mf 1
            try go_simp
            have hS2 : Below x0.heap.size x0 ((y4.setCell ⟨y0.heap.size, 0, none⟩ (.int .i64 l.teams)).setCell ⟨y0.heap.size, 1, none⟩ (.slice B4 l.games.length d4)) := (hS.setCell (p := ⟨y0.heap.size, 0, none⟩) HQ0.out _).setCell (p := ⟨y0.heap.size, 1, none⟩) HQ0.out _
            refine hK.out _ _ (fun _ => hS2) (fun _ => ?_)
            clear hK K hS
            have hS := hS2
            clear hS2 m0 m1 mf mf0 mf1
            replace HQ := Lib.hid (HQ.out.set (.int .i64 l.teams) (.slice B4 l.games.length d4))
            replace HO : Hid (OwnM 70 x0.heap.size ((y4.setCell ⟨y0.heap.size, 0, none⟩ (.int .i64 l.teams)).setCell ⟨y0.heap.size, 1, none⟩ (.slice B4 l.games.length d4)) (.slice B4 l.games.length d4) rs) := (HO.out.farQ (q := y0.heap.size) (o := 0) HNQ.out _).farQ (q := y0.heap.size) (o := 1) HNQ.out _
            try simp only [Act.put, List.getElem_toArray, List.getElem_cons_zero, List.getElem_cons_succ, List.setIfInBounds_toArray, List.set_cons_zero, List.set_cons_succ]
            refine T_done (by kernel_rfl) ?_ _
            refine NoPanic.normal ?_
            try go_simp
            exact TAILH.out _ _ _ _ _ _ _ _ _ _ _ _ _ _ _ _ _ _ _ _ _ _ _ _ _ _ _ _ _ _ _ _ _ _ _ _ _ _ _ _ _ _ _ _ _ _ _ _ _ _ _ _ _ _ _ _ _ _ _ _ _ _ _ _ _ _ _ _ _ _ _ _ _ _ _ _ _ _ _ _ _ _ _ _ _ _ _ _ _ _ _ _ _ _ _ _ _ _ _ _ _ _ _ _ _ _ _ _ _ _ _ _ _ _ _ _ _ _ _ _ _ _ _ _ _ _ _ _ _ _ _ _ _ _ _ _ _ _ _ _ _ _ _ _ _ _ _ _ _ _ _ _ _ _ _ _ _ _ _ _ _ _ _ _ _ _ _ _ _ _ _ _ _ _ _ _ _ _ _ _ _ _ _ _ _ _ _ _ _ _ _ _ _ _ _ _ _ _ _ _ _ _ _ _ _ _ _ _ _ _ _ _ _ _ _ _ _ _ _ _ _ _ _ _ _ _ _ _ _ _ _ _ _ _ _ _ _ _ _ _ _ B4 d4 _ (Lib.hid hS) HQ HO HNQ HQ0
end Go.Proofs.Ytjokbffdepcpkaa
