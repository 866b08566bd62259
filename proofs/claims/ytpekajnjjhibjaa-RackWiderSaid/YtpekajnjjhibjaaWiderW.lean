/-
  The walk of RackWider.
-/
import Derived.Test.YtpekajnjjhibjaaWiderM
import Derived.Test.YtpekajnjjhibjaaAwk
import Derived.Test.YtpekajnjjhibjaaE6
import Derived.Test.YtpekajnjjhibjaaE7
import Derived.Test.YtpekajnjjhibjaaL2
import Derived.Test.YtpekajnjjhibjaaE3
namespace Go.Proofs.Ytpekajnjjhibjaa
open Go.RowKit
set_option linter.unusedSimpArgs false
set_option linter.unusedVariables false

attribute [local go_sem] Oper.semAt_some
theorem Rgs.isrc {B : Nat} {w : World} {A : Option Addr} {ls : List Rg} (h : Rgs B w A ls) : Src w 2 A ls.length (flatG ls) := by
  refine ⟨flatG_len ls, fun hA => ?_, fun ad hA j u hu => ?_⟩
  · rcases Nat.eq_zero_or_pos ls.length with h0 | h0
    · exact h0
    · obtain ⟨b, off, hA', _⟩ := h h0
      rw [hA] at hA'
      cases hA'
  · have hj : j < ls.length * 2 := by
      rw [← flatG_len]
      exact (List.getElem?_eq_some_iff.1 hu).1
    obtain ⟨b, off, hA', _, hc⟩ := h (by omega)
    rw [hA] at hA'
    injection hA' with e
    subst e
    rw [add_eq]
    obtain ⟨c0, c1⟩ := hc (j / 2) (by omega)
    obtain ⟨a0, a1⟩ := flatG_at ls (j / 2) (by omega)
    rcases (by omega : j = j / 2 * 2 ∨ j = j / 2 * 2 + 1) with e | e
    · rw [e] at hu ⊢
      rw [a0] at hu
      rw [← hu]
      exact c0
    · rw [e] at hu ⊢
      rw [a1] at hu
      rw [← hu, ← Nat.add_assoc]
      exact c1
theorem Lks.isrc {B : Nat} {w : World} {A : Option Addr} {ls : List Lk} (h : Lks B w A ls) : Src w 3 A ls.length (flatK ls) := by
  refine ⟨flatK_len ls, fun hA => ?_, fun ad hA j u hu => ?_⟩
  · rcases Nat.eq_zero_or_pos ls.length with h0 | h0
    · exact h0
    · obtain ⟨b, off, hA', _⟩ := h h0
      rw [hA] at hA'
      cases hA'
  · have hj : j < ls.length * 3 := by
      rw [← flatK_len]
      exact (List.getElem?_eq_some_iff.1 hu).1
    obtain ⟨b, off, hA', _, hc⟩ := h (by omega)
    rw [hA] at hA'
    injection hA' with e
    subst e
    rw [add_eq]
    obtain ⟨c0, c1, c2⟩ := hc (j / 3) (by omega)
    obtain ⟨a0, a1, a2⟩ := flatK_at ls (j / 3) (by omega)
    rcases (by omega : j = j / 3 * 3 ∨ j = j / 3 * 3 + 1 ∨ j = j / 3 * 3 + 2) with e | e | e
    · rw [e] at hu ⊢
      rw [a0] at hu
      rw [← hu]
      exact c0
    · rw [e] at hu ⊢
      rw [a1] at hu
      rw [← hu, ← Nat.add_assoc]
      exact c1
    · rw [e] at hu ⊢
      rw [a2] at hu
      rw [← hu, ← Nat.add_assoc]
      exact c2
theorem OwnG.empty {base : Nat} {w : World} (h : base ≤ w.heap.size) : OwnG 33 base (w.alloc (.cells #[] 33)) (.slice (some ⟨w.heap.size, 0, none⟩) 0 0) [] :=
  ⟨rfl, .inr ⟨w.heap.size, 0, #[], rfl, h, World.alloc_heap_new _ _, Nat.le_refl _, by unfold maxLen; omega, rfl, rfl⟩⟩
theorem OwnK.empty {base : Nat} {w : World} (h : base ≤ w.heap.size) : OwnK 28 base (w.alloc (.cells #[] 28)) (.slice (some ⟨w.heap.size, 0, none⟩) 0 0) [] :=
  ⟨rfl, .inr ⟨w.heap.size, 0, #[], rfl, h, World.alloc_heap_new _ _, Nat.le_refl _, by unfold maxLen; omega, rfl, rfl⟩⟩
section
variable {ops : Array Oper} {rest : List Oper} {o : Oper} {a : Act} {K : Act → World → Prop} {Q : Exit → Act → World → Prop} {E : Prop}
/-- append of a list of ranges to an empty own one -/
theorem step_copyG (s y : Operand) (hgd : o.guard = none) (ho : o.op = .call { callee := .builtin .append, args := #[s, y], argTypes := #[26, 26] }) (base : Nat) (w : World) (u : Value) (A : Option Addr) (c : Nat) (ls : List Rg)
    (hv : a.eval s = u) (hx : a.eval y = .slice A ls.length c) (hown : Hid (OwnG 33 base w u [])) (hsrc : Hid (Src w 2 A ls.length (flatG ls))) (hl : ls.length ≤ 1000000) (hb : base ≤ w.heap.size)
    (hK : ∀ A' c' w', Hid (OwnG 33 base w' (.slice A' ls.length c') ls) → Hid (w.grownBy w' u.ownBlock) → K (a.put o.dst (.slice A' ls.length c')) w') :
    if Region.wanted o (yielded ops a.tmps) = true then Oper.wp Try.prog o a w K Q else E := by
  rw [if_pos (by simp [Region.wanted, hgd])]
  obtain ⟨hu, i, hi, hz, hz1, hz2⟩ := tyG (t := 26) (e := 33) (.inr ⟨rfl, rfl⟩)
  obtain ⟨u', w', hr, h1, h2, h3⟩ := run_append_src (P := Try.prog) (w := w) base 26 o.type 33 i _ 2 16 hu hi hz hz1 hz2 rfl (by decide) u 0 [] hown.out A ls.length c (flatG ls) hsrc.out (one_flatG ls) (by unfold maxLen; omega) (by omega) hb
  rw [Nat.zero_add, List.nil_append] at h1
  obtain ⟨A', c', rfl⟩ := ownsRow_form h1
  unfold Oper.wp execOp
  simp only [ho, resolve, invoke, builtin, Sem.run_bind, Sem.run_pure, Result.andThen_ok, List.map_toArray, List.map_cons, List.map_nil, hv, hx, hr]
  exact hK A' c' w' h1 h2
/-- append of a list of links to an empty one that has been made -/
theorem wpList_copyK (s x : Operand) (hgd : o.guard = none) (ho : o.op = .call { callee := .builtin .append, args := #[s, x], argTypes := #[22, 22] }) {B : Nat} (base : Nat) (w : World) (A : Option Addr) (ls : List Lk) (c : Nat)
    (hv : a.eval s = .slice (some ⟨w.heap.size, 0, none⟩) 0 0) (hx : a.eval x = .slice A ls.length c) (hsrc : Hid (Lks B w A ls)) (hB : B ≤ w.heap.size) (hl : ls.length ≤ 1000000) (hb : base ≤ w.heap.size)
    (h : ∀ A' c' w', Hid (OwnK 28 base w' (.slice A' ls.length c') ls) → Hid (Below base w w') → wpList Try.prog ops Q rest (a.put o.dst (.slice A' ls.length c')) w') :
    wpList Try.prog ops Q (o :: rest) a (w.alloc (.cells #[] 28)) := by
  obtain ⟨hu, i, hi, hz, hz1, hz2⟩ := tyK (t := 22) (e := 28) (.inr ⟨rfl, rfl⟩)
  have hs : Src (w.alloc (.cells #[] 28)) 3 A ls.length (flatK ls) := (hsrc.out.below ((Below.refl B w).alloc hB _)).isrc
  refine wpList_append_src hgd s x 22 ho base 28 i _ 3 24 hu hi hz hz1 hz2 rfl (by decide) _ 0 [] hv (OwnK.empty hb) A ls.length c _ hx hs (one_flatK ls) (by unfold maxLen; omega) (by omega) (by simp; omega) ?_
  intro v' w' h1 h2 _
  rw [List.nil_append, Nat.zero_add] at h1
  obtain ⟨A', c', rfl⟩ := ownsRow_form h1
  refine h A' c' w' h1 ?_
  exact ((Below.refl base w).alloc hb _).grown h2 (by simp; omega) (fun k e => by injection e with e; subst e; exact hb)
end
/-- What the statement says of a rack and a ball that are changed. -/
def WidP (r x : Rk) (xs : List Int) (ball other : List Rg) (bt : Bool) : Prop := readyB x xs other = true → thrErr x xs other = 0 ∧
  (bt = true → subB (sureL r xs ball) (sureL x xs other) = true ∧ (leftV x xs other).1 ≤ (leftV x xs other).2 ∧ (leftV x xs other).2 ≤ (leftV r xs ball).2) ∧
  (bt = false → subB (sureL x xs other) (sureL r xs ball) = true ∧ subB (mayL r xs ball) (mayL x xs other) = true ∧ (leftV x xs other).1 ≤ (leftV r xs ball).1 ∧ (leftV r xs ball).2 ≤ (leftV x xs other).2)
theorem own_low {w w' : World} {base B : Nat} {e : TypeId} {sz n : Nat} {v : Value} {xs : List Value} (h : w.ownsRow base e sz v n xs) (hb : Below B w w') (hlt : ∀ k, v.ownBlock = some k → k < B) : w'.ownsRow base e sz v n xs := by
  obtain ⟨h1, h2⟩ := h
  refine ⟨h1, ?_⟩
  rcases h2 with h2 | ⟨g, cap, cur, rfl, hg, hc, r⟩
  · exact .inl h2
  · exact .inr ⟨g, cap, cur, rfl, hg, (hb.block g (hlt g rfl)).trans hc, r⟩
theorem flatG_set : ∀ (ls : List Rg) (k : Nat) (lo hi : Int), k < ls.length → flatG (ls.set k ⟨lo, hi⟩) = ((flatG ls).set (k * 2) (.int .i64 lo)).set (k * 2 + 1) (.int .i64 hi)
  | x :: xs, 0, lo, hi, _ => by simp [flatG, cellsG]
  | x :: xs, k + 1, lo, hi, h => by
    have := flatG_set xs k lo hi (by simpa using h)
    simp only [flatG, cellsG, List.set_cons_succ, List.flatMap_cons] at *
    rw [this, show (k + 1) * 2 = k * 2 + 2 by omega, show k * 2 + 2 + 1 = (k * 2 + 1) + 2 by omega]
    simp
theorem flatK_sure : ∀ (ls : List Lk) (k : Nat), k < ls.length → flatK (ls.set k ⟨(lx ls k).f, (lx ls k).t, true⟩) = (flatK ls).set (k * 3 + 2) (.bool true)
  | x :: xs, 0, _ => by simp [flatK, cellsK, lx]
  | x :: xs, k + 1, h => by
    have := flatK_sure xs k (by simpa using h)
    simp only [flatK, cellsK, List.set_cons_succ, List.flatMap_cons, lx, List.getD_cons_succ] at *
    rw [this, show (k + 1) * 3 + 2 = (k * 3 + 2) + 3 by omega]
    simp
theorem own_ne_type {w : World} {base : Nat} {e t : TypeId} {sz n q : Nat} {v : Value} {xs : List Value} {cs : Array Value} (h : w.ownsRow base e sz v n xs) (hq : w.heap[q]? = some (.cells cs t)) (hne : e ≠ t) : v.ownBlock ≠ some q := by
  intro hv
  rcases h.2 with ⟨rfl, h0⟩ | ⟨g, cap, cur, rfl, hb, hg, _⟩
  · cases hv
  · have e1 : g = q := by injection hv
    subst e1
    rw [hg] at hq
    injection hq with hq
    injection hq with _ h2
    exact hne h2
theorem OwnG.step {e : TypeId} {base : Nat} {w w' : World} {u : Value} {ls : List Rg} (h : OwnG e base w u ls) (hb : Below w.heap.size w w') : OwnG e base w' u ls := h.kept hb
theorem OwnK.step {e : TypeId} {base : Nat} {w w' : World} {u : Value} {ls : List Lk} (h : OwnK e base w u ls) (hb : Below w.heap.size w w') : OwnK e base w' u ls := h.kept hb
theorem At5.set3 {W : World} {q t : Nat} {v0 v1 v2 v3 v4 : Value} (h : At5 W q t v0 v1 v2 v3 v4) (v : Value) : At5 (W.setCell ⟨q, 3, none⟩ v) q t v0 v1 v2 v v4 := by
  unfold At5 at h ⊢
  simp [World.setCell, Array.getElem?_modify, h]
set_option maxRecDepth 100000 in
set_option maxHeartbeats 16000000 in
theorem wider3_c (r : Rk) (A xA Ab : Option Addr) (c cx cb : Nat) (xs : List Int) (ball : List Rg) (wh at_ lf lt : Int) (lsr : Bool) (w : World) (hl : Lks w.heap.size w A r.links) (hc : r.links.length ≤ c ∧ c ≤ 9223372036854775807) (hx : Ints w.heap.size w xA xs) (hcx : xs.length ≤ cx ∧ cx ≤ 9223372036854775807) (hball : Rgs w.heap.size w Ab ball) (hcb : ball.length ≤ cb ∧ cb ≤ 9223372036854775807)
    (hwh : 0 ≤ wh ∧ wh ≤ 255) (hat : 0 ≤ at_ ∧ at_ ≤ 255) :
    Calls Try.prog 3 #[.agg #[.int .i64 r.rows, .int .i64 r.mid, .int .i64 r.gap, .int .i64 r.reach, .slice A r.links.length c], .slice xA xs.length cx, .slice Ab ball.length cb, .int .u8 wh, .int .u8 at_, .agg #[.int .i64 lf, .int .i64 lt, .bool lsr]] w (Ans w (.bool true)) := by
  have HB := Lib.hid (Below.refl w.heap.size w)
  have HL := Lib.hid hl
  have HX := Lib.hid hx
  have HBa := Lib.hid hball
  clear hl hx hball
  have hb : Below w.heap.size w (w.alloc (.cells #[.int .i64 r.rows, .int .i64 r.mid, .int .i64 r.gap, .int .i64 r.reach, .slice A r.links.length c] 24)) := (Below.refl _ _).alloc (Nat.le_refl _) _
  replace HL := Lib.hid (HL.out.step hb)
  replace HX := Lib.hid (HX.out.step hb)
  replace HBa := Lib.hid (HBa.out.step hb)
  replace HB := Lib.hid (HB.out.trans (hb.mono HB.out.size))
  clear hb
  have k0 : (w.alloc (.cells #[.int .i64 r.rows, .int .i64 r.mid, .int .i64 r.gap, .int .i64 r.reach, .slice A r.links.length c] 24)).cell? ⟨w.heap.size, 0, none⟩ = some (.int .i64 r.rows) := by simp
  have k1 : (w.alloc (.cells #[.int .i64 r.rows, .int .i64 r.mid, .int .i64 r.gap, .int .i64 r.reach, .slice A r.links.length c] 24)).cell? ⟨w.heap.size, 1, none⟩ = some (.int .i64 r.mid) := by simp
  have k2 : (w.alloc (.cells #[.int .i64 r.rows, .int .i64 r.mid, .int .i64 r.gap, .int .i64 r.reach, .slice A r.links.length c] 24)).cell? ⟨w.heap.size, 2, none⟩ = some (.int .i64 r.gap) := by simp
  have k3 : (w.alloc (.cells #[.int .i64 r.rows, .int .i64 r.mid, .int .i64 r.gap, .int .i64 r.reach, .slice A r.links.length c] 24)).cell? ⟨w.heap.size, 3, none⟩ = some (.int .i64 r.reach) := by simp
  have k4 : (w.alloc (.cells #[.int .i64 r.rows, .int .i64 r.mid, .int .i64 r.gap, .int .i64 r.reach, .slice A r.links.length c] 24)).cell? ⟨w.heap.size, 4, none⟩ = some (.slice A r.links.length c) := by simp
  have hb : Below (w.alloc (.cells #[.int .i64 r.rows, .int .i64 r.mid, .int .i64 r.gap, .int .i64 r.reach, .slice A r.links.length c] 24)).heap.size (w.alloc (.cells #[.int .i64 r.rows, .int .i64 r.mid, .int .i64 r.gap, .int .i64 r.reach, .slice A r.links.length c] 24)) ((w.alloc (.cells #[.int .i64 r.rows, .int .i64 r.mid, .int .i64 r.gap, .int .i64 r.reach, .slice A r.links.length c] 24)).alloc (.cells #[.int .i64 lf, .int .i64 lt, .bool lsr] 28)) := (Below.refl _ _).alloc (Nat.le_refl _) _
  replace HL := Lib.hid (HL.out.step hb)
  replace HX := Lib.hid (HX.out.step hb)
  replace HBa := Lib.hid (HBa.out.step hb)
  replace k0 := cell_of_ans hb k0
  replace k1 := cell_of_ans hb k1
  replace k2 := cell_of_ans hb k2
  replace k3 := cell_of_ans hb k3
  replace k4 := cell_of_ans hb k4
  replace HB := Lib.hid (HB.out.trans (hb.mono HB.out.size))
  clear hb
  have j0 : ((w.alloc (.cells #[.int .i64 r.rows, .int .i64 r.mid, .int .i64 r.gap, .int .i64 r.reach, .slice A r.links.length c] 24)).alloc (.cells #[.int .i64 lf, .int .i64 lt, .bool lsr] 28)).cell? ⟨w.heap.size + 1, 0, none⟩ = some (.int .i64 lf) := by simp
  have j1 : ((w.alloc (.cells #[.int .i64 r.rows, .int .i64 r.mid, .int .i64 r.gap, .int .i64 r.reach, .slice A r.links.length c] 24)).alloc (.cells #[.int .i64 lf, .int .i64 lt, .bool lsr] 28)).cell? ⟨w.heap.size + 1, 1, none⟩ = some (.int .i64 lt) := by simp
  have j2 : ((w.alloc (.cells #[.int .i64 r.rows, .int .i64 r.mid, .int .i64 r.gap, .int .i64 r.reach, .slice A r.links.length c] 24)).alloc (.cells #[.int .i64 lf, .int .i64 lt, .bool lsr] 28)).cell? ⟨w.heap.size + 1, 2, none⟩ = some (.bool lsr) := by simp
  cases hrd : readyB r xs ball
  · go_enter Try.func3, Try.ntmps3
    go_wp2_with fail
    generalize ((w.alloc (.cells #[.int .i64 r.rows, .int .i64 r.mid, .int .i64 r.gap, .int .i64 r.reach, .slice A r.links.length c] 24)).alloc (.cells #[.int .i64 lf, .int .i64 lt, .bool lsr] 28)) = x2 at *
    refine (ready15_c r A xA Ab c cx cb xs ball _ HL.out hc HX.out hcx HBa.out hcb).mono ?_
    rw [hrd]
    rintro e w2 ⟨rfl, hb⟩
    replace HL := Lib.hid (HL.out.step hb)
    replace HX := Lib.hid (HX.out.step hb)
    replace HBa := Lib.hid (HBa.out.step hb)
    replace k0 := cell_of_ans hb k0
    replace k1 := cell_of_ans hb k1
    replace k2 := cell_of_ans hb k2
    replace k3 := cell_of_ans hb k3
    replace k4 := cell_of_ans hb k4
    replace j0 := cell_of_ans hb j0
    replace j1 := cell_of_ans hb j1
    replace j2 := cell_of_ans hb j2
    replace HB := Lib.hid (HB.out.trans (hb.mono HB.out.size))
    clear hb
    clear hrd
    go_wp2_with fail
    refine (awake16_c _).mono ?_
    rintro e wz ⟨rfl, hb⟩
    replace HL := Lib.hid (HL.out.step hb)
    replace HX := Lib.hid (HX.out.step hb)
    replace HBa := Lib.hid (HBa.out.step hb)
    replace k0 := cell_of_ans hb k0
    replace k1 := cell_of_ans hb k1
    replace k2 := cell_of_ans hb k2
    replace k3 := cell_of_ans hb k3
    replace k4 := cell_of_ans hb k4
    replace j0 := cell_of_ans hb j0
    replace j1 := cell_of_ans hb j1
    replace j2 := cell_of_ans hb j2
    replace HB := Lib.hid (HB.out.trans (hb.mono HB.out.size))
    clear hb
    go_wp2_with fail
    go_ret
    exact ⟨rfl, HB.out⟩
  have hrd2 := hrd
  rw [readyB, Bool.and_eq_true, decide_eq_true_eq] at hrd2
  obtain ⟨hth, he⟩ := hrd2
  rw [thinB, Bool.and_eq_true, Bool.and_eq_true, decide_eq_true_eq, decide_eq_true_eq, decide_eq_true_eq] at hth
  obtain ⟨hl16, hx15, hb8⟩ := hth
  have hlen : r.links.length ≤ 1000000 := by omega
  have hxl : xs.length ≤ 1000000 := by omega
  have hbl : ball.length ≤ 1000000 := by omega
  go_enter Try.func3, Try.ntmps3
  go_wp2_with fail
  generalize ((w.alloc (.cells #[.int .i64 r.rows, .int .i64 r.mid, .int .i64 r.gap, .int .i64 r.reach, .slice A r.links.length c] 24)).alloc (.cells #[.int .i64 lf, .int .i64 lt, .bool lsr] 28)) = x2 at *
  refine (ready15_c r A xA Ab c cx cb xs ball _ HL.out hc HX.out hcx HBa.out hcb).mono ?_
  rw [hrd]
  rintro e w2 ⟨rfl, hb⟩
  replace HL := Lib.hid (HL.out.step hb)
  replace HX := Lib.hid (HX.out.step hb)
  replace HBa := Lib.hid (HBa.out.step hb)
  replace k0 := cell_of_ans hb k0
  replace k1 := cell_of_ans hb k1
  replace k2 := cell_of_ans hb k2
  replace k3 := cell_of_ans hb k3
  replace k4 := cell_of_ans hb k4
  replace j0 := cell_of_ans hb j0
  replace j1 := cell_of_ans hb j1
  replace j2 := cell_of_ans hb j2
  replace HB := Lib.hid (HB.out.trans (hb.mono HB.out.size))
  clear hb
  clear hrd
  have ltk0 := World.block_lt_of_cell? _ _ k0
  dsimp only at ltk0
  have ltj0 := World.block_lt_of_cell? _ _ j0
  dsimp only at ltj0
  go_upto_region 3 with fail
  rename_i K3 aK3
  have TAIL3 : ∀ (u7 u8 u9 u10 u15 u16 u17 u18 u19 u20 u21 u22 u23 u24 u25 u26 u27 u28 u29 u30 u31 u32 u33 u34 u35 u36 u37 u38 u39 u40 u41 u42 u43 u44 u45 u46 u47 u48 u49 u50 u51 u52 u53 u54 u55 u56 u57 u58 u59 u60 u61 u62 u63 u64 u65 u66 u67 u68 u69 u70 u71 u72 u73 u74 u75 u76 u77 u78 u79 u80 u81 u82 u83 u84 u85 u86 u87 u88 u89 u90 u91 u92 u93 u94 u95 u96 u97 u98 u99 u100 u101 u102 u103 u104 u105 u106 u107 u108 u109 u110 u111 u112 u113 u114 u115 u116 u117 u118 u119 u120 u121 u122 u123 u124 u125 u126 u127 u128 u129 u130 u131 u132 u133 u134 u135 u136 u137 u138 u139 u140 u141 u142 u143 u144 u145 u146 u147 u148 u149 u150 u151 u152 u153 u154 u155 u156 u157 u158 u159 u160 u161 u162 u163 u164 u165 u166 u167 u168 u169 u170 u171 u172 u173 u174 u175 u176 u177 u178 u179 u180 u181 u182 u183 u184 u185 u186 u187 u188 u189 u190 u191 u192 u193 u194 u195 u196 u197 u198 u199 u200 u201 u202 u203 u204 u205 u206 u207 u208 u209 u210 u211 u212 u213 u214 u215 u216 u217 u218 u219 u220 u221 u222 u223 u224 u225 u226 u227 : Value) (q : Nat) (Ao : Option Addr) (co : Nat) (W3 : World), Hid (Below w2.heap.size w2 W3) → Hid (At5 W3 q 24 (.int .i64 r.rows) (.int .i64 r.mid) (.int .i64 r.gap) (.int .i64 r.reach) (.slice A r.links.length c)) → Hid (OwnG 33 w2.heap.size W3 (.slice Ao ball.length co) ball) → w2.heap.size ≤ q → K3 { tmps := #[.agg #[.int .i64 r.rows, .int .i64 r.mid, .int .i64 r.gap, .int .i64 r.reach, .slice A r.links.length c], .slice xA xs.length cx, .slice Ab ball.length cb, .int .u8 wh, .int .u8 at_, .agg #[.int .i64 lf, .int .i64 lt, .bool lsr], .pointer (some ⟨w.heap.size, 0, none⟩), u7, u8, u9, u10, .pointer (some ⟨w.heap.size + 1, 0, none⟩), .bool false, .pointer (some ⟨q, 0, none⟩), .slice Ao ball.length co, u15, u16, u17, u18, u19, u20, u21, u22, u23, u24, u25, u26, u27, u28, u29, u30, u31, u32, u33, u34, u35, u36, u37, u38, u39, u40, u41, u42, u43, u44, u45, u46, u47, u48, u49, u50, u51, u52, u53, u54, u55, u56, u57, u58, u59, u60, u61, u62, u63, u64, u65, u66, u67, u68, u69, u70, u71, u72, u73, u74, u75, u76, u77, u78, u79, u80, u81, u82, u83, u84, u85, u86, u87, u88, u89, u90, u91, u92, u93, u94, u95, u96, u97, u98, u99, u100, u101, u102, u103, u104, u105, u106, u107, u108, u109, u110, u111, u112, u113, u114, u115, u116, u117, u118, u119, u120, u121, u122, u123, u124, u125, u126, u127, u128, u129, u130, u131, u132, u133, u134, u135, u136, u137, u138, u139, u140, u141, u142, u143, u144, u145, u146, u147, u148, u149, u150, u151, u152, u153, u154, u155, u156, u157, u158, u159, u160, u161, u162, u163, u164, u165, u166, u167, u168, u169, u170, u171, u172, u173, u174, u175, u176, u177, u178, u179, u180, u181, u182, u183, u184, u185, u186, u187, u188, u189, u190, u191, u192, u193, u194, u195, u196, u197, u198, u199, u200, u201, u202, u203, u204, u205, u206, u207, u208, u209, u210, u211, u212, u213, u214, u215, u216, u217, u218, u219, u220, u221, u222, u223, u224, u225, u226, u227], defers := [] } W3 := by
    intro u7 u8 u9 u10 u15 u16 u17 u18 u19 u20 u21 u22 u23 u24 u25 u26 u27 u28 u29 u30 u31 u32 u33 u34 u35 u36 u37 u38 u39 u40 u41 u42 u43 u44 u45 u46 u47 u48 u49 u50 u51 u52 u53 u54 u55 u56 u57 u58 u59 u60 u61 u62 u63 u64 u65 u66 u67 u68 u69 u70 u71 u72 u73 u74 u75 u76 u77 u78 u79 u80 u81 u82 u83 u84 u85 u86 u87 u88 u89 u90 u91 u92 u93 u94 u95 u96 u97 u98 u99 u100 u101 u102 u103 u104 u105 u106 u107 u108 u109 u110 u111 u112 u113 u114 u115 u116 u117 u118 u119 u120 u121 u122 u123 u124 u125 u126 u127 u128 u129 u130 u131 u132 u133 u134 u135 u136 u137 u138 u139 u140 u141 u142 u143 u144 u145 u146 u147 u148 u149 u150 u151 u152 u153 u154 u155 u156 u157 u158 u159 u160 u161 u162 u163 u164 u165 u166 u167 u168 u169 u170 u171 u172 u173 u174 u175 u176 u177 u178 u179 u180 u181 u182 u183 u184 u185 u186 u187 u188 u189 u190 u191 u192 u193 u194 u195 u196 u197 u198 u199 u200 u201 u202 u203 u204 u205 u206 u207 u208 u209 u210 u211 u212 u213 u214 u215 u216 u217 u218 u219 u220 u221 u222 u223 u224 u225 u226 u227 q Ao co W3 HB3 HM HO hq
    refine aK3 _ _ ?_
    clear aK3
    have HL := Lib.hid (HL.out.step HB3.out)
    have HX := Lib.hid (HX.out.step HB3.out)
    have HBa := Lib.hid (HBa.out.step HB3.out)
    have k0 := cell_of_ans HB3.out k0
    have k1 := cell_of_ans HB3.out k1
    have k2 := cell_of_ans HB3.out k2
    have k3 := cell_of_ans HB3.out k3
    have k4 := cell_of_ans HB3.out k4
    have j0 := cell_of_ans HB3.out j0
    have j1 := cell_of_ans HB3.out j1
    have j2 := cell_of_ans HB3.out j2
    have hw3 := HB3.out.size
    have hqw := HM.out.lt
    obtain ⟨⟨m0, m1, m2, m3, m4⟩, -⟩ := HM.out.cells
    have HBW : Hid (Below w.heap.size w W3) := HB.out.trans (HB3.out.mono HB.out.size)
    have ltk0 := World.block_lt_of_cell? _ _ k0
    have ltj0 := World.block_lt_of_cell? _ _ j0
    have HOL : Hid (∀ k, (Value.slice Ao ball.length co).ownBlock = some k → k < W3.heap.size) := fun k e => (World.ownsRow.lt HO.out k e).2
    dsimp only at ltk0 ltj0
    go_upto_region 6 with (at_builtin; refine wpList_copyK (.tmp 37) (.tmp 39) rfl rfl W3.heap.size W3 A r.links c rfl rfl HL (Nat.le_refl _) hlen (Nat.le_refl _) ?_; intro Ax cx2 W4 HK4 HB4; have HM4 := HM.out.low HB4.out hqw; obtain ⟨⟨m0, m1, m2, m3, m4⟩, mf⟩ := HM4.cells; have mf4 := mf 4; clear mf)
    rename_i K15 aK15 K6 aK6
    have TAIL15 : ∀ (u7 u8 u9 u10 u16 u17 u18 u19 u20 u21 u22 u23 u24 u25 u26 u27 u28 u29 u30 u31 u32 u33 u34 u35 u36 u37 u38 u39 u40 u41 u42 u43 u44 u45 u46 u47 u48 u49 u50 u51 u52 u53 u54 u55 u56 u57 u58 u59 u60 u61 u62 u63 u64 u65 u66 u67 u68 u69 u70 u71 u72 u73 u74 u75 u76 u77 u78 u79 u80 u81 u82 u83 u84 u85 u86 u87 u88 u89 u90 u91 u92 u93 u94 u95 u96 u97 u98 u99 u100 u101 u102 u103 u104 u105 u106 u107 u108 u109 u110 u111 u112 u113 u114 u115 u116 u117 u118 u119 u120 u121 u122 u123 u124 u125 u126 u127 u128 u129 u130 u131 u132 u133 u134 u135 u136 u137 u138 u139 u140 u141 u142 u143 u144 u145 u146 u147 u148 u149 u150 u151 u152 u153 u154 u155 u156 u157 u158 u159 u160 u161 u162 u163 u164 u165 u166 u167 u168 u169 u170 u171 u172 u173 u174 u175 u176 u177 u178 u179 u180 u181 u182 u183 u184 u185 u186 u187 u188 u189 u190 u191 u192 u193 u194 u195 u196 u197 u198 u199 u200 u201 u202 u203 u204 u205 u206 u207 u208 u209 u210 u211 u212 u213 u214 u215 u216 u217 u218 u219 u220 u221 u222 u223 u224 u225 u226 u227 : Value) (bt : Bool) (x : Rk) (Ax : Option Addr) (cx2 : Nat) (other : List Rg) (Ao : Option Addr) (co : Nat) (W : World) (nx no : Nat), nx = x.links.length → no = other.length → Hid (Below w2.heap.size w2 W) → Hid (At5 W q 24 (.int .i64 x.rows) (.int .i64 x.mid) (.int .i64 x.gap) (.int .i64 x.reach) (.slice Ax nx cx2)) → Hid (Lks W.heap.size W Ax x.links) → (x.links.length ≤ cx2 ∧ cx2 ≤ 9223372036854775807) → x.links.length ≤ 1000000 → Hid (Rgs W.heap.size W Ao other) → (other.length ≤ co ∧ co ≤ 9223372036854775807) → other.length ≤ 1000000 → Hid (WidP r x xs ball other bt) → K15 { tmps := #[.agg #[.int .i64 r.rows, .int .i64 r.mid, .int .i64 r.gap, .int .i64 r.reach, .slice A r.links.length c], .slice xA xs.length cx, .slice Ab ball.length cb, .int .u8 wh, .int .u8 at_, .agg #[.int .i64 lf, .int .i64 lt, .bool lsr], .pointer (some ⟨w.heap.size, 0, none⟩), u7, u8, u9, u10, .pointer (some ⟨w.heap.size + 1, 0, none⟩), .bool false, .pointer (some ⟨q, 0, none⟩), .slice Ao no co, .bool bt, u16, u17, u18, u19, u20, u21, u22, u23, u24, u25, u26, u27, u28, u29, u30, u31, u32, u33, u34, u35, u36, u37, u38, u39, u40, u41, u42, u43, u44, u45, u46, u47, u48, u49, u50, u51, u52, u53, u54, u55, u56, u57, u58, u59, u60, u61, u62, u63, u64, u65, u66, u67, u68, u69, u70, u71, u72, u73, u74, u75, u76, u77, u78, u79, u80, u81, u82, u83, u84, u85, u86, u87, u88, u89, u90, u91, u92, u93, u94, u95, u96, u97, u98, u99, u100, u101, u102, u103, u104, u105, u106, u107, u108, u109, u110, u111, u112, u113, u114, u115, u116, u117, u118, u119, u120, u121, u122, u123, u124, u125, u126, u127, u128, u129, u130, u131, u132, u133, u134, u135, u136, u137, u138, u139, u140, u141, u142, u143, u144, u145, u146, u147, u148, u149, u150, u151, u152, u153, u154, u155, u156, u157, u158, u159, u160, u161, u162, u163, u164, u165, u166, u167, u168, u169, u170, u171, u172, u173, u174, u175, u176, u177, u178, u179, u180, u181, u182, u183, u184, u185, u186, u187, u188, u189, u190, u191, u192, u193, u194, u195, u196, u197, u198, u199, u200, u201, u202, u203, u204, u205, u206, u207, u208, u209, u210, u211, u212, u213, u214, u215, u216, u217, u218, u219, u220, u221, u222, u223, u224, u225, u226, u227], defers := [] } W := by
      clear HOL HB4 HK4 HM4 m0 m1 m2 m3 m4 mf4 HM HO aK6 K6 hq hqw hw3 HBW ltk0 ltj0 HB3 k0 k1 k2 k3 k4 j0 j1 j2 HL HX HBa
      clear Ax cx2 Ao co
      intro u7 u8 u9 u10 u16 u17 u18 u19 u20 u21 u22 u23 u24 u25 u26 u27 u28 u29 u30 u31 u32 u33 u34 u35 u36 u37 u38 u39 u40 u41 u42 u43 u44 u45 u46 u47 u48 u49 u50 u51 u52 u53 u54 u55 u56 u57 u58 u59 u60 u61 u62 u63 u64 u65 u66 u67 u68 u69 u70 u71 u72 u73 u74 u75 u76 u77 u78 u79 u80 u81 u82 u83 u84 u85 u86 u87 u88 u89 u90 u91 u92 u93 u94 u95 u96 u97 u98 u99 u100 u101 u102 u103 u104 u105 u106 u107 u108 u109 u110 u111 u112 u113 u114 u115 u116 u117 u118 u119 u120 u121 u122 u123 u124 u125 u126 u127 u128 u129 u130 u131 u132 u133 u134 u135 u136 u137 u138 u139 u140 u141 u142 u143 u144 u145 u146 u147 u148 u149 u150 u151 u152 u153 u154 u155 u156 u157 u158 u159 u160 u161 u162 u163 u164 u165 u166 u167 u168 u169 u170 u171 u172 u173 u174 u175 u176 u177 u178 u179 u180 u181 u182 u183 u184 u185 u186 u187 u188 u189 u190 u191 u192 u193 u194 u195 u196 u197 u198 u199 u200 u201 u202 u203 u204 u205 u206 u207 u208 u209 u210 u211 u212 u213 u214 u215 u216 u217 u218 u219 u220 u221 u222 u223 u224 u225 u226 u227 bt x Ax cx2 other Ao co W nx no hnx hno HB3 HM HLx hcx2 hlx HOx hco hol HWP
      subst hnx hno
      refine aK15 _ _ ?_
      clear aK15 K15
      have hb := HB3.out
      replace HL := Lib.hid (HL.out.step hb)
      replace HX := Lib.hid (HX.out.step hb)
      replace HBa := Lib.hid (HBa.out.step hb)
      replace k0 := cell_of_ans hb k0
      replace k1 := cell_of_ans hb k1
      replace k2 := cell_of_ans hb k2
      replace k3 := cell_of_ans hb k3
      replace k4 := cell_of_ans hb k4
      replace HB := Lib.hid (HB.out.trans (hb.mono HB.out.size))
      clear hb
      clear HB3 j0 j1 j2 ltk0 ltj0 hwh hat
      obtain ⟨⟨m0, m1, m2, m3, m4⟩, -⟩ := HM.out.cells
      clear HM
      have HFr := Lib.hid (fun (A4 xA4 Ab4 : Option Addr) (c4 cx4 cb4 : Nat) (W : World) h1 h2 h3 h4 h5 h6 => falls17_c r A4 xA4 Ab4 c4 cx4 cb4 xs ball W h1 h2 h3 h4 h5 h6)
      have HLr := Lib.hid (fun (A4 xA4 Ab4 : Option Addr) (c4 cx4 cb4 : Nat) (W : World) h1 h2 h3 h4 h5 h6 => left21_c r A4 xA4 Ab4 c4 cx4 cb4 xs ball W h1 h2 h3 h4 h5 h6)
      have HFx := Lib.hid (fun (A4 xA4 Ab4 : Option Addr) (c4 cx4 cb4 : Nat) (W : World) h1 h2 h3 h4 h5 h6 => falls17_c x A4 xA4 Ab4 c4 cx4 cb4 xs other W h1 h2 h3 h4 h5 h6)
      have HLfx := Lib.hid (fun (A4 xA4 Ab4 : Option Addr) (c4 cx4 cb4 : Nat) (W : World) h1 h2 h3 h4 h5 h6 => left21_c x A4 xA4 Ab4 c4 cx4 cb4 xs other W h1 h2 h3 h4 h5 h6)
      have HRX := Lib.hid (fun (W : World) h1 h2 h3 => ready15_c x Ax xA Ao cx2 cx co xs other W h1 hcx2 h2 hcx h3 hco)
      rw [he] at HFr HLr
      cases hrx : readyB x xs other
      all_goals rw [hrx] at HRX
      · clear hrx HWP HFr HLr HFx HLfx
        go_wp2_with fail
        refine (HRX.out _ HLx.out HX.out HOx.out).mono ?_
        rintro e y1 ⟨rfl, hb⟩
        replace HL := Lib.hid (HL.out.step hb)
        replace HX := Lib.hid (HX.out.step hb)
        replace HBa := Lib.hid (HBa.out.step hb)
        replace k0 := cell_of_ans hb k0
        replace k1 := cell_of_ans hb k1
        replace k2 := cell_of_ans hb k2
        replace k3 := cell_of_ans hb k3
        replace k4 := cell_of_ans hb k4
        replace HLx := Lib.hid (HLx.out.step hb)
        replace HOx := Lib.hid (HOx.out.step hb)
        replace m0 := cell_of_ans hb m0
        replace m1 := cell_of_ans hb m1
        replace m2 := cell_of_ans hb m2
        replace m3 := cell_of_ans hb m3
        replace m4 := cell_of_ans hb m4
        replace HB := Lib.hid (HB.out.trans (hb.mono HB.out.size))
        clear hb
        clear HRX
        go_wp2_with fail
        refine (awake16_c _).mono ?_
        rintro e wz ⟨rfl, hb⟩
        replace HL := Lib.hid (HL.out.step hb)
        replace HX := Lib.hid (HX.out.step hb)
        replace HBa := Lib.hid (HBa.out.step hb)
        replace k0 := cell_of_ans hb k0
        replace k1 := cell_of_ans hb k1
        replace k2 := cell_of_ans hb k2
        replace k3 := cell_of_ans hb k3
        replace k4 := cell_of_ans hb k4
        replace HLx := Lib.hid (HLx.out.step hb)
        replace HOx := Lib.hid (HOx.out.step hb)
        replace m0 := cell_of_ans hb m0
        replace m1 := cell_of_ans hb m1
        replace m2 := cell_of_ans hb m2
        replace m3 := cell_of_ans hb m3
        replace m4 := cell_of_ans hb m4
        replace HB := Lib.hid (HB.out.trans (hb.mono HB.out.size))
        clear hb
        go_wp2_with fail
        go_ret
        exact ⟨rfl, HB.out⟩
      · obtain ⟨hex, hbt, hbf⟩ := HWP.out hrx
        rw [hex] at HFx HLfx
        clear hrx HWP hex
        generalize sureL r xs ball = s1 at *
        generalize sureL x xs other = s2 at *
        generalize mayL r xs ball = p1 at *
        generalize mayL x xs other = p2 at *
        obtain ⟨a1, ha1⟩ : ∃ a1, a1 = ((leftV r xs ball).1 : Int) := ⟨_, rfl⟩
        obtain ⟨a2, ha2⟩ : ∃ a2, a2 = ((leftV r xs ball).2 : Int) := ⟨_, rfl⟩
        obtain ⟨b1, hb1⟩ : ∃ b1, b1 = ((leftV x xs other).1 : Int) := ⟨_, rfl⟩
        obtain ⟨b2, hb2⟩ : ∃ b2, b2 = ((leftV x xs other).2 : Int) := ⟨_, rfl⟩
        rw [← ha1, ← ha2] at HLr
        rw [← hb1, ← hb2] at HLfx
        have HBT : Hid (bt = true → subB s1 s2 = true ∧ b1 ≤ b2 ∧ b2 ≤ a2) := fun h => by obtain ⟨z1, z2, z3⟩ := hbt h; exact ⟨z1, by omega, by omega⟩
        have HBF : Hid (bt = false → subB s2 s1 = true ∧ subB p1 p2 = true ∧ b1 ≤ a1 ∧ a2 ≤ b2) := fun h => by obtain ⟨z1, z2, z3, z4⟩ := hbf h; exact ⟨z1, z2, by omega, by omega⟩
        clear hbt hbf ha1 ha2 hb1 hb2
        go_wp2_with fail
        refine (HRX.out _ HLx.out HX.out HOx.out).mono ?_
        rintro e y1 ⟨rfl, hb⟩
        replace HL := Lib.hid (HL.out.step hb)
        replace HX := Lib.hid (HX.out.step hb)
        replace HBa := Lib.hid (HBa.out.step hb)
        replace k0 := cell_of_ans hb k0
        replace k1 := cell_of_ans hb k1
        replace k2 := cell_of_ans hb k2
        replace k3 := cell_of_ans hb k3
        replace k4 := cell_of_ans hb k4
        replace HLx := Lib.hid (HLx.out.step hb)
        replace HOx := Lib.hid (HOx.out.step hb)
        replace m0 := cell_of_ans hb m0
        replace m1 := cell_of_ans hb m1
        replace m2 := cell_of_ans hb m2
        replace m3 := cell_of_ans hb m3
        replace m4 := cell_of_ans hb m4
        replace HB := Lib.hid (HB.out.trans (hb.mono HB.out.size))
        clear hb
        clear HRX
        go_wp2_with fail
        refine (rack18_c r A c _ HL.out hc hlen).mono ?_
        rintro e y2 ⟨A5, c5, rfl, ⟨hl5, hc5⟩, hb⟩
        replace HL := Lib.hid (HL.out.step hb)
        replace HX := Lib.hid (HX.out.step hb)
        replace HBa := Lib.hid (HBa.out.step hb)
        replace k0 := cell_of_ans hb k0
        replace k1 := cell_of_ans hb k1
        replace k2 := cell_of_ans hb k2
        replace k3 := cell_of_ans hb k3
        replace k4 := cell_of_ans hb k4
        replace HLx := Lib.hid (HLx.out.step hb)
        replace HOx := Lib.hid (HOx.out.step hb)
        replace m0 := cell_of_ans hb m0
        replace m1 := cell_of_ans hb m1
        replace m2 := cell_of_ans hb m2
        replace m3 := cell_of_ans hb m3
        replace m4 := cell_of_ans hb m4
        replace HB := Lib.hid (HB.out.trans (hb.mono HB.out.size))
        clear hb
        have Hhl5 := Lib.hid hl5
        clear hl5
        go_wp2_with fail
        refine (list_c xA xs cx _ HX.out hxl).mono ?_
        rintro e y3 ⟨B5, d5, rfl, ho5, hb⟩
        obtain ⟨hd5, he5, hi5⟩ := isInts_parts (ownsRow_isInts ho5)
        clear ho5
        replace HL := Lib.hid (HL.out.step hb)
        replace HX := Lib.hid (HX.out.step hb)
        replace HBa := Lib.hid (HBa.out.step hb)
        replace k0 := cell_of_ans hb k0
        replace k1 := cell_of_ans hb k1
        replace k2 := cell_of_ans hb k2
        replace k3 := cell_of_ans hb k3
        replace k4 := cell_of_ans hb k4
        replace HLx := Lib.hid (HLx.out.step hb)
        replace HOx := Lib.hid (HOx.out.step hb)
        replace m0 := cell_of_ans hb m0
        replace m1 := cell_of_ans hb m1
        replace m2 := cell_of_ans hb m2
        replace m3 := cell_of_ans hb m3
        replace m4 := cell_of_ans hb m4
        replace Hhl5 := Lib.hid (Hhl5.out.step hb)
        replace HB := Lib.hid (HB.out.trans (hb.mono HB.out.size))
        clear hb
        have Hhi5 := Lib.hid hi5
        clear hi5
        go_wp2_with fail
        refine (ball20_c Ab cb ball _ HBa.out hcb hbl).mono ?_
        rintro e y4 ⟨G5, g5, rfl, ⟨hg5, hh5, hj5⟩, hb⟩
        replace HL := Lib.hid (HL.out.step hb)
        replace HX := Lib.hid (HX.out.step hb)
        replace HBa := Lib.hid (HBa.out.step hb)
        replace k0 := cell_of_ans hb k0
        replace k1 := cell_of_ans hb k1
        replace k2 := cell_of_ans hb k2
        replace k3 := cell_of_ans hb k3
        replace k4 := cell_of_ans hb k4
        replace HLx := Lib.hid (HLx.out.step hb)
        replace HOx := Lib.hid (HOx.out.step hb)
        replace m0 := cell_of_ans hb m0
        replace m1 := cell_of_ans hb m1
        replace m2 := cell_of_ans hb m2
        replace m3 := cell_of_ans hb m3
        replace m4 := cell_of_ans hb m4
        replace Hhl5 := Lib.hid (Hhl5.out.step hb)
        replace Hhi5 := Lib.hid (Hhi5.out.step hb)
        replace HB := Lib.hid (HB.out.trans (hb.mono HB.out.size))
        clear hb
        have Hhg5 := Lib.hid hg5
        clear hg5
        go_wp2_with fail
        refine (HFr.out _ _ _ _ _ _ _ Hhl5.out hc5 Hhi5.out ⟨hd5, he5⟩ Hhg5.out ⟨hh5, hj5⟩).mono ?_
        rintro e y5 ⟨sA1, cs1, mA1, cm1, rfl, ⟨hs1, hs1c⟩, ⟨hp1, hp1c⟩, hb⟩
        replace HL := Lib.hid (HL.out.step hb)
        replace HX := Lib.hid (HX.out.step hb)
        replace HBa := Lib.hid (HBa.out.step hb)
        replace k0 := cell_of_ans hb k0
        replace k1 := cell_of_ans hb k1
        replace k2 := cell_of_ans hb k2
        replace k3 := cell_of_ans hb k3
        replace k4 := cell_of_ans hb k4
        replace HLx := Lib.hid (HLx.out.step hb)
        replace HOx := Lib.hid (HOx.out.step hb)
        replace m0 := cell_of_ans hb m0
        replace m1 := cell_of_ans hb m1
        replace m2 := cell_of_ans hb m2
        replace m3 := cell_of_ans hb m3
        replace m4 := cell_of_ans hb m4
        replace Hhl5 := Lib.hid (Hhl5.out.step hb)
        replace Hhi5 := Lib.hid (Hhi5.out.step hb)
        replace Hhg5 := Lib.hid (Hhg5.out.step hb)
        replace HB := Lib.hid (HB.out.trans (hb.mono HB.out.size))
        clear hb
        have Hhs1 := Lib.hid hs1
        clear hs1
        have Hhp1 := Lib.hid hp1
        clear hp1
        clear Hhl5 Hhi5 Hhg5
        go_wp2_with fail
        refine (rack18_c x Ax cx2 _ HLx.out hcx2 hlx).mono ?_
        rintro e y6 ⟨A6, c6, rfl, ⟨hl6, hc6⟩, hb⟩
        replace HL := Lib.hid (HL.out.step hb)
        replace HX := Lib.hid (HX.out.step hb)
        replace HBa := Lib.hid (HBa.out.step hb)
        replace k0 := cell_of_ans hb k0
        replace k1 := cell_of_ans hb k1
        replace k2 := cell_of_ans hb k2
        replace k3 := cell_of_ans hb k3
        replace k4 := cell_of_ans hb k4
        replace HLx := Lib.hid (HLx.out.step hb)
        replace HOx := Lib.hid (HOx.out.step hb)
        replace m0 := cell_of_ans hb m0
        replace m1 := cell_of_ans hb m1
        replace m2 := cell_of_ans hb m2
        replace m3 := cell_of_ans hb m3
        replace m4 := cell_of_ans hb m4
        replace Hhs1 := Lib.hid (Hhs1.out.step hb)
        replace Hhp1 := Lib.hid (Hhp1.out.step hb)
        replace HB := Lib.hid (HB.out.trans (hb.mono HB.out.size))
        clear hb
        have Hhl6 := Lib.hid hl6
        clear hl6
        go_wp2_with fail
        refine (list_c xA xs cx _ HX.out hxl).mono ?_
        rintro e y7 ⟨B6, d6, rfl, ho6, hb⟩
        obtain ⟨hd6, he6, hi6⟩ := isInts_parts (ownsRow_isInts ho6)
        clear ho6
        replace HL := Lib.hid (HL.out.step hb)
        replace HX := Lib.hid (HX.out.step hb)
        replace HBa := Lib.hid (HBa.out.step hb)
        replace k0 := cell_of_ans hb k0
        replace k1 := cell_of_ans hb k1
        replace k2 := cell_of_ans hb k2
        replace k3 := cell_of_ans hb k3
        replace k4 := cell_of_ans hb k4
        replace HLx := Lib.hid (HLx.out.step hb)
        replace HOx := Lib.hid (HOx.out.step hb)
        replace m0 := cell_of_ans hb m0
        replace m1 := cell_of_ans hb m1
        replace m2 := cell_of_ans hb m2
        replace m3 := cell_of_ans hb m3
        replace m4 := cell_of_ans hb m4
        replace Hhs1 := Lib.hid (Hhs1.out.step hb)
        replace Hhp1 := Lib.hid (Hhp1.out.step hb)
        replace Hhl6 := Lib.hid (Hhl6.out.step hb)
        replace HB := Lib.hid (HB.out.trans (hb.mono HB.out.size))
        clear hb
        have Hhi6 := Lib.hid hi6
        clear hi6
        go_wp2_with fail
        refine (ball20_c Ao co other _ HOx.out hco hol).mono ?_
        rintro e y8 ⟨G6, g6, rfl, ⟨hg6, hh6, hj6⟩, hb⟩
        replace HL := Lib.hid (HL.out.step hb)
        replace HX := Lib.hid (HX.out.step hb)
        replace HBa := Lib.hid (HBa.out.step hb)
        replace k0 := cell_of_ans hb k0
        replace k1 := cell_of_ans hb k1
        replace k2 := cell_of_ans hb k2
        replace k3 := cell_of_ans hb k3
        replace k4 := cell_of_ans hb k4
        replace HLx := Lib.hid (HLx.out.step hb)
        replace HOx := Lib.hid (HOx.out.step hb)
        replace m0 := cell_of_ans hb m0
        replace m1 := cell_of_ans hb m1
        replace m2 := cell_of_ans hb m2
        replace m3 := cell_of_ans hb m3
        replace m4 := cell_of_ans hb m4
        replace Hhs1 := Lib.hid (Hhs1.out.step hb)
        replace Hhp1 := Lib.hid (Hhp1.out.step hb)
        replace Hhl6 := Lib.hid (Hhl6.out.step hb)
        replace Hhi6 := Lib.hid (Hhi6.out.step hb)
        replace HB := Lib.hid (HB.out.trans (hb.mono HB.out.size))
        clear hb
        have Hhg6 := Lib.hid hg6
        clear hg6
        go_wp2_with fail
        refine (HFx.out _ _ _ _ _ _ _ Hhl6.out hc6 Hhi6.out ⟨hd6, he6⟩ Hhg6.out ⟨hh6, hj6⟩).mono ?_
        rintro e y9 ⟨sA2, cs2, mA2, cm2, rfl, ⟨hs2, hs2c⟩, ⟨hp2, hp2c⟩, hb⟩
        replace HL := Lib.hid (HL.out.step hb)
        replace HX := Lib.hid (HX.out.step hb)
        replace HBa := Lib.hid (HBa.out.step hb)
        replace k0 := cell_of_ans hb k0
        replace k1 := cell_of_ans hb k1
        replace k2 := cell_of_ans hb k2
        replace k3 := cell_of_ans hb k3
        replace k4 := cell_of_ans hb k4
        replace HLx := Lib.hid (HLx.out.step hb)
        replace HOx := Lib.hid (HOx.out.step hb)
        replace m0 := cell_of_ans hb m0
        replace m1 := cell_of_ans hb m1
        replace m2 := cell_of_ans hb m2
        replace m3 := cell_of_ans hb m3
        replace m4 := cell_of_ans hb m4
        replace Hhs1 := Lib.hid (Hhs1.out.step hb)
        replace Hhp1 := Lib.hid (Hhp1.out.step hb)
        replace Hhl6 := Lib.hid (Hhl6.out.step hb)
        replace Hhi6 := Lib.hid (Hhi6.out.step hb)
        replace Hhg6 := Lib.hid (Hhg6.out.step hb)
        replace HB := Lib.hid (HB.out.trans (hb.mono HB.out.size))
        clear hb
        have Hhs2 := Lib.hid hs2
        clear hs2
        have Hhp2 := Lib.hid hp2
        clear hp2
        clear Hhl6 Hhi6 Hhg6
        go_wp2_with fail
        refine (rack18_c r A c _ HL.out hc hlen).mono ?_
        rintro e z1 ⟨A7, c7, rfl, ⟨hl7, hc7⟩, hb⟩
        replace HL := Lib.hid (HL.out.step hb)
        replace HX := Lib.hid (HX.out.step hb)
        replace HBa := Lib.hid (HBa.out.step hb)
        replace k0 := cell_of_ans hb k0
        replace k1 := cell_of_ans hb k1
        replace k2 := cell_of_ans hb k2
        replace k3 := cell_of_ans hb k3
        replace k4 := cell_of_ans hb k4
        replace HLx := Lib.hid (HLx.out.step hb)
        replace HOx := Lib.hid (HOx.out.step hb)
        replace m0 := cell_of_ans hb m0
        replace m1 := cell_of_ans hb m1
        replace m2 := cell_of_ans hb m2
        replace m3 := cell_of_ans hb m3
        replace m4 := cell_of_ans hb m4
        replace Hhs1 := Lib.hid (Hhs1.out.step hb)
        replace Hhp1 := Lib.hid (Hhp1.out.step hb)
        replace Hhs2 := Lib.hid (Hhs2.out.step hb)
        replace Hhp2 := Lib.hid (Hhp2.out.step hb)
        replace HB := Lib.hid (HB.out.trans (hb.mono HB.out.size))
        clear hb
        have Hhl7 := Lib.hid hl7
        clear hl7
        go_wp2_with fail
        refine (list_c xA xs cx _ HX.out hxl).mono ?_
        rintro e z2 ⟨B7, d7, rfl, ho7, hb⟩
        obtain ⟨hd7, he7, hi7⟩ := isInts_parts (ownsRow_isInts ho7)
        clear ho7
        replace HL := Lib.hid (HL.out.step hb)
        replace HX := Lib.hid (HX.out.step hb)
        replace HBa := Lib.hid (HBa.out.step hb)
        replace k0 := cell_of_ans hb k0
        replace k1 := cell_of_ans hb k1
        replace k2 := cell_of_ans hb k2
        replace k3 := cell_of_ans hb k3
        replace k4 := cell_of_ans hb k4
        replace HLx := Lib.hid (HLx.out.step hb)
        replace HOx := Lib.hid (HOx.out.step hb)
        replace m0 := cell_of_ans hb m0
        replace m1 := cell_of_ans hb m1
        replace m2 := cell_of_ans hb m2
        replace m3 := cell_of_ans hb m3
        replace m4 := cell_of_ans hb m4
        replace Hhs1 := Lib.hid (Hhs1.out.step hb)
        replace Hhp1 := Lib.hid (Hhp1.out.step hb)
        replace Hhs2 := Lib.hid (Hhs2.out.step hb)
        replace Hhp2 := Lib.hid (Hhp2.out.step hb)
        replace Hhl7 := Lib.hid (Hhl7.out.step hb)
        replace HB := Lib.hid (HB.out.trans (hb.mono HB.out.size))
        clear hb
        have Hhi7 := Lib.hid hi7
        clear hi7
        go_wp2_with fail
        refine (ball20_c Ab cb ball _ HBa.out hcb hbl).mono ?_
        rintro e z3 ⟨G7, g7, rfl, ⟨hg7, hh7, hj7⟩, hb⟩
        replace HL := Lib.hid (HL.out.step hb)
        replace HX := Lib.hid (HX.out.step hb)
        replace HBa := Lib.hid (HBa.out.step hb)
        replace k0 := cell_of_ans hb k0
        replace k1 := cell_of_ans hb k1
        replace k2 := cell_of_ans hb k2
        replace k3 := cell_of_ans hb k3
        replace k4 := cell_of_ans hb k4
        replace HLx := Lib.hid (HLx.out.step hb)
        replace HOx := Lib.hid (HOx.out.step hb)
        replace m0 := cell_of_ans hb m0
        replace m1 := cell_of_ans hb m1
        replace m2 := cell_of_ans hb m2
        replace m3 := cell_of_ans hb m3
        replace m4 := cell_of_ans hb m4
        replace Hhs1 := Lib.hid (Hhs1.out.step hb)
        replace Hhp1 := Lib.hid (Hhp1.out.step hb)
        replace Hhs2 := Lib.hid (Hhs2.out.step hb)
        replace Hhp2 := Lib.hid (Hhp2.out.step hb)
        replace Hhl7 := Lib.hid (Hhl7.out.step hb)
        replace Hhi7 := Lib.hid (Hhi7.out.step hb)
        replace HB := Lib.hid (HB.out.trans (hb.mono HB.out.size))
        clear hb
        have Hhg7 := Lib.hid hg7
        clear hg7
        go_wp2_with fail
        refine (HLr.out _ _ _ _ _ _ _ Hhl7.out hc7 Hhi7.out ⟨hd7, he7⟩ Hhg7.out ⟨hh7, hj7⟩).mono ?_
        rintro e z4 ⟨rfl, hb⟩
        replace HL := Lib.hid (HL.out.step hb)
        replace HX := Lib.hid (HX.out.step hb)
        replace HBa := Lib.hid (HBa.out.step hb)
        replace k0 := cell_of_ans hb k0
        replace k1 := cell_of_ans hb k1
        replace k2 := cell_of_ans hb k2
        replace k3 := cell_of_ans hb k3
        replace k4 := cell_of_ans hb k4
        replace HLx := Lib.hid (HLx.out.step hb)
        replace HOx := Lib.hid (HOx.out.step hb)
        replace m0 := cell_of_ans hb m0
        replace m1 := cell_of_ans hb m1
        replace m2 := cell_of_ans hb m2
        replace m3 := cell_of_ans hb m3
        replace m4 := cell_of_ans hb m4
        replace Hhs1 := Lib.hid (Hhs1.out.step hb)
        replace Hhp1 := Lib.hid (Hhp1.out.step hb)
        replace Hhs2 := Lib.hid (Hhs2.out.step hb)
        replace Hhp2 := Lib.hid (Hhp2.out.step hb)
        replace Hhl7 := Lib.hid (Hhl7.out.step hb)
        replace Hhi7 := Lib.hid (Hhi7.out.step hb)
        replace Hhg7 := Lib.hid (Hhg7.out.step hb)
        replace HB := Lib.hid (HB.out.trans (hb.mono HB.out.size))
        clear hb
        clear Hhl7 Hhi7 Hhg7
        have ltk0 := World.block_lt_of_cell? _ _ k0
        dsimp only at ltk0
        have ltm0 := World.block_lt_of_cell? _ _ m0
        dsimp only at ltm0
        go_upto_region 20 with fail
        have hb : Below z4.heap.size z4 (z4.alloc (.cells #[.int .i64 a1, .int .i64 a2] 44)) := (Below.refl _ _).alloc (Nat.le_refl _) _
        replace HL := Lib.hid (HL.out.step hb)
        replace HX := Lib.hid (HX.out.step hb)
        replace HBa := Lib.hid (HBa.out.step hb)
        replace k0 := cell_of_ans hb k0
        replace k1 := cell_of_ans hb k1
        replace k2 := cell_of_ans hb k2
        replace k3 := cell_of_ans hb k3
        replace k4 := cell_of_ans hb k4
        replace HLx := Lib.hid (HLx.out.step hb)
        replace HOx := Lib.hid (HOx.out.step hb)
        replace m0 := cell_of_ans hb m0
        replace m1 := cell_of_ans hb m1
        replace m2 := cell_of_ans hb m2
        replace m3 := cell_of_ans hb m3
        replace m4 := cell_of_ans hb m4
        replace Hhs1 := Lib.hid (Hhs1.out.step hb)
        replace Hhp1 := Lib.hid (Hhp1.out.step hb)
        replace Hhs2 := Lib.hid (Hhs2.out.step hb)
        replace Hhp2 := Lib.hid (Hhp2.out.step hb)
        replace HB := Lib.hid (HB.out.trans (hb.mono HB.out.size))
        clear hb
        have n0 : (z4.alloc (.cells #[.int .i64 a1, .int .i64 a2] 44)).cell? ⟨z4.heap.size, 0, none⟩ = some (.int .i64 a1) := by simp
        have n1 : (z4.alloc (.cells #[.int .i64 a1, .int .i64 a2] 44)).cell? ⟨z4.heap.size, 1, none⟩ = some (.int .i64 a2) := by simp
        generalize (z4.alloc (.cells #[.int .i64 a1, .int .i64 a2] 44)) = z5 at *
        generalize z4.heap.size = nq at *
        go_wp2_with fail
        refine (rack18_c x Ax cx2 _ HLx.out hcx2 hlx).mono ?_
        rintro e z6 ⟨A8, c8, rfl, ⟨hl8, hc8⟩, hb⟩
        replace HL := Lib.hid (HL.out.step hb)
        replace HX := Lib.hid (HX.out.step hb)
        replace HBa := Lib.hid (HBa.out.step hb)
        replace k0 := cell_of_ans hb k0
        replace k1 := cell_of_ans hb k1
        replace k2 := cell_of_ans hb k2
        replace k3 := cell_of_ans hb k3
        replace k4 := cell_of_ans hb k4
        replace HLx := Lib.hid (HLx.out.step hb)
        replace HOx := Lib.hid (HOx.out.step hb)
        replace m0 := cell_of_ans hb m0
        replace m1 := cell_of_ans hb m1
        replace m2 := cell_of_ans hb m2
        replace m3 := cell_of_ans hb m3
        replace m4 := cell_of_ans hb m4
        replace Hhs1 := Lib.hid (Hhs1.out.step hb)
        replace Hhp1 := Lib.hid (Hhp1.out.step hb)
        replace Hhs2 := Lib.hid (Hhs2.out.step hb)
        replace Hhp2 := Lib.hid (Hhp2.out.step hb)
        replace n0 := cell_of_ans hb n0
        replace n1 := cell_of_ans hb n1
        replace HB := Lib.hid (HB.out.trans (hb.mono HB.out.size))
        clear hb
        have Hhl8 := Lib.hid hl8
        clear hl8
        go_wp2_with fail
        refine (list_c xA xs cx _ HX.out hxl).mono ?_
        rintro e z7 ⟨B8, d8, rfl, ho8, hb⟩
        obtain ⟨hd8, he8, hi8⟩ := isInts_parts (ownsRow_isInts ho8)
        clear ho8
        replace HL := Lib.hid (HL.out.step hb)
        replace HX := Lib.hid (HX.out.step hb)
        replace HBa := Lib.hid (HBa.out.step hb)
        replace k0 := cell_of_ans hb k0
        replace k1 := cell_of_ans hb k1
        replace k2 := cell_of_ans hb k2
        replace k3 := cell_of_ans hb k3
        replace k4 := cell_of_ans hb k4
        replace HLx := Lib.hid (HLx.out.step hb)
        replace HOx := Lib.hid (HOx.out.step hb)
        replace m0 := cell_of_ans hb m0
        replace m1 := cell_of_ans hb m1
        replace m2 := cell_of_ans hb m2
        replace m3 := cell_of_ans hb m3
        replace m4 := cell_of_ans hb m4
        replace Hhs1 := Lib.hid (Hhs1.out.step hb)
        replace Hhp1 := Lib.hid (Hhp1.out.step hb)
        replace Hhs2 := Lib.hid (Hhs2.out.step hb)
        replace Hhp2 := Lib.hid (Hhp2.out.step hb)
        replace n0 := cell_of_ans hb n0
        replace n1 := cell_of_ans hb n1
        replace Hhl8 := Lib.hid (Hhl8.out.step hb)
        replace HB := Lib.hid (HB.out.trans (hb.mono HB.out.size))
        clear hb
        have Hhi8 := Lib.hid hi8
        clear hi8
        go_wp2_with fail
        refine (ball20_c Ao co other _ HOx.out hco hol).mono ?_
        rintro e z8 ⟨G8, g8, rfl, ⟨hg8, hh8, hj8⟩, hb⟩
        replace HL := Lib.hid (HL.out.step hb)
        replace HX := Lib.hid (HX.out.step hb)
        replace HBa := Lib.hid (HBa.out.step hb)
        replace k0 := cell_of_ans hb k0
        replace k1 := cell_of_ans hb k1
        replace k2 := cell_of_ans hb k2
        replace k3 := cell_of_ans hb k3
        replace k4 := cell_of_ans hb k4
        replace HLx := Lib.hid (HLx.out.step hb)
        replace HOx := Lib.hid (HOx.out.step hb)
        replace m0 := cell_of_ans hb m0
        replace m1 := cell_of_ans hb m1
        replace m2 := cell_of_ans hb m2
        replace m3 := cell_of_ans hb m3
        replace m4 := cell_of_ans hb m4
        replace Hhs1 := Lib.hid (Hhs1.out.step hb)
        replace Hhp1 := Lib.hid (Hhp1.out.step hb)
        replace Hhs2 := Lib.hid (Hhs2.out.step hb)
        replace Hhp2 := Lib.hid (Hhp2.out.step hb)
        replace n0 := cell_of_ans hb n0
        replace n1 := cell_of_ans hb n1
        replace Hhl8 := Lib.hid (Hhl8.out.step hb)
        replace Hhi8 := Lib.hid (Hhi8.out.step hb)
        replace HB := Lib.hid (HB.out.trans (hb.mono HB.out.size))
        clear hb
        have Hhg8 := Lib.hid hg8
        clear hg8
        go_wp2_with fail
        refine (HLfx.out _ _ _ _ _ _ _ Hhl8.out hc8 Hhi8.out ⟨hd8, he8⟩ Hhg8.out ⟨hh8, hj8⟩).mono ?_
        rintro e z9 ⟨rfl, hb⟩
        replace HL := Lib.hid (HL.out.step hb)
        replace HX := Lib.hid (HX.out.step hb)
        replace HBa := Lib.hid (HBa.out.step hb)
        replace k0 := cell_of_ans hb k0
        replace k1 := cell_of_ans hb k1
        replace k2 := cell_of_ans hb k2
        replace k3 := cell_of_ans hb k3
        replace k4 := cell_of_ans hb k4
        replace HLx := Lib.hid (HLx.out.step hb)
        replace HOx := Lib.hid (HOx.out.step hb)
        replace m0 := cell_of_ans hb m0
        replace m1 := cell_of_ans hb m1
        replace m2 := cell_of_ans hb m2
        replace m3 := cell_of_ans hb m3
        replace m4 := cell_of_ans hb m4
        replace Hhs1 := Lib.hid (Hhs1.out.step hb)
        replace Hhp1 := Lib.hid (Hhp1.out.step hb)
        replace Hhs2 := Lib.hid (Hhs2.out.step hb)
        replace Hhp2 := Lib.hid (Hhp2.out.step hb)
        replace n0 := cell_of_ans hb n0
        replace n1 := cell_of_ans hb n1
        replace Hhl8 := Lib.hid (Hhl8.out.step hb)
        replace Hhi8 := Lib.hid (Hhi8.out.step hb)
        replace Hhg8 := Lib.hid (Hhg8.out.step hb)
        replace HB := Lib.hid (HB.out.trans (hb.mono HB.out.size))
        clear hb
        clear Hhl8 Hhi8 Hhg8
        have ltn0 := World.block_lt_of_cell? _ _ n0
        dsimp only at ltn0
        go_upto_region 21 with fail
        have hb : Below z9.heap.size z9 (z9.alloc (.cells #[.int .i64 b1, .int .i64 b2] 44)) := (Below.refl _ _).alloc (Nat.le_refl _) _
        replace HL := Lib.hid (HL.out.step hb)
        replace HX := Lib.hid (HX.out.step hb)
        replace HBa := Lib.hid (HBa.out.step hb)
        replace k0 := cell_of_ans hb k0
        replace k1 := cell_of_ans hb k1
        replace k2 := cell_of_ans hb k2
        replace k3 := cell_of_ans hb k3
        replace k4 := cell_of_ans hb k4
        replace HLx := Lib.hid (HLx.out.step hb)
        replace HOx := Lib.hid (HOx.out.step hb)
        replace m0 := cell_of_ans hb m0
        replace m1 := cell_of_ans hb m1
        replace m2 := cell_of_ans hb m2
        replace m3 := cell_of_ans hb m3
        replace m4 := cell_of_ans hb m4
        replace Hhs1 := Lib.hid (Hhs1.out.step hb)
        replace Hhp1 := Lib.hid (Hhp1.out.step hb)
        replace Hhs2 := Lib.hid (Hhs2.out.step hb)
        replace Hhp2 := Lib.hid (Hhp2.out.step hb)
        replace n0 := cell_of_ans hb n0
        replace n1 := cell_of_ans hb n1
        replace HB := Lib.hid (HB.out.trans (hb.mono HB.out.size))
        clear hb
        have o0 : (z9.alloc (.cells #[.int .i64 b1, .int .i64 b2] 44)).cell? ⟨z9.heap.size, 0, none⟩ = some (.int .i64 b1) := by simp
        have o1 : (z9.alloc (.cells #[.int .i64 b1, .int .i64 b2] 44)).cell? ⟨z9.heap.size, 1, none⟩ = some (.int .i64 b2) := by simp
        generalize (z9.alloc (.cells #[.int .i64 b1, .int .i64 b2] 44)) = v1 at *
        generalize z9.heap.size = oq at *
        clear HFr HLr HFx HLfx
        cases bt
        · obtain ⟨z1, z2, z3, z4⟩ := HBF.out rfl
          have Z1 := Lib.hid z1
          have Z2 := Lib.hid z2
          clear z1 z2 HBF HBT
          have SB1 := Lib.hid (fun (W : World) h1 h2 => (show Calls Try.prog 22 #[.slice sA2 s2.length cs2, .slice sA1 s1.length cs1] W (Same W (.bool true)) from by have h := within22_c (B := W.heap.size) sA2 sA1 s2 s1 cs2 cs1 W h1 hs2c h2 hs1c; rwa [Z1.out] at h))
          have SB2 := Lib.hid (fun (W : World) h1 h2 => (show Calls Try.prog 22 #[.slice mA1 p1.length cm1, .slice mA2 p2.length cm2] W (Same W (.bool true)) from by have h := within22_c (B := W.heap.size) mA1 mA2 p1 p2 cm1 cm2 W h1 hp1c h2 hp2c; rwa [Z2.out] at h))
          go_wp2_with fail
          refine (SB1.out _ Hhs2.out Hhs1.out).mono ?_
          rintro e v2 ⟨rfl, rfl⟩
          go_wp2_with fail
          refine (SB2.out _ Hhp1.out Hhp2.out).mono ?_
          rintro e v3 ⟨rfl, rfl⟩
          go_wp2_with fail
          refine (awake16_c _).mono ?_
          rintro e v4 ⟨rfl, hb⟩
          replace HL := Lib.hid (HL.out.step hb)
          replace HX := Lib.hid (HX.out.step hb)
          replace HBa := Lib.hid (HBa.out.step hb)
          replace k0 := cell_of_ans hb k0
          replace k1 := cell_of_ans hb k1
          replace k2 := cell_of_ans hb k2
          replace k3 := cell_of_ans hb k3
          replace k4 := cell_of_ans hb k4
          replace HLx := Lib.hid (HLx.out.step hb)
          replace HOx := Lib.hid (HOx.out.step hb)
          replace m0 := cell_of_ans hb m0
          replace m1 := cell_of_ans hb m1
          replace m2 := cell_of_ans hb m2
          replace m3 := cell_of_ans hb m3
          replace m4 := cell_of_ans hb m4
          replace Hhs1 := Lib.hid (Hhs1.out.step hb)
          replace Hhp1 := Lib.hid (Hhp1.out.step hb)
          replace Hhs2 := Lib.hid (Hhs2.out.step hb)
          replace Hhp2 := Lib.hid (Hhp2.out.step hb)
          replace n0 := cell_of_ans hb n0
          replace n1 := cell_of_ans hb n1
          replace o0 := cell_of_ans hb o0
          replace o1 := cell_of_ans hb o1
          replace HB := Lib.hid (HB.out.trans (hb.mono HB.out.size))
          clear hb
          go_wp2_with fail
          go_ret
          exact ⟨rfl, HB.out⟩
        · obtain ⟨z1, z2, z3⟩ := HBT.out rfl
          have Z1 := Lib.hid z1
          clear z1 HBF HBT
          have SB1 := Lib.hid (fun (W : World) h1 h2 => (show Calls Try.prog 22 #[.slice sA1 s1.length cs1, .slice sA2 s2.length cs2] W (Same W (.bool true)) from by have h := within22_c (B := W.heap.size) sA1 sA2 s1 s2 cs1 cs2 W h1 hs1c h2 hs2c; rwa [Z1.out] at h))
          go_wp2_with fail
          refine (SB1.out _ Hhs1.out Hhs2.out).mono ?_
          rintro e v2 ⟨rfl, rfl⟩
          go_wp2_with fail
          refine (awake16_c _).mono ?_
          rintro e v4 ⟨rfl, hb⟩
          replace HL := Lib.hid (HL.out.step hb)
          replace HX := Lib.hid (HX.out.step hb)
          replace HBa := Lib.hid (HBa.out.step hb)
          replace k0 := cell_of_ans hb k0
          replace k1 := cell_of_ans hb k1
          replace k2 := cell_of_ans hb k2
          replace k3 := cell_of_ans hb k3
          replace k4 := cell_of_ans hb k4
          replace HLx := Lib.hid (HLx.out.step hb)
          replace HOx := Lib.hid (HOx.out.step hb)
          replace m0 := cell_of_ans hb m0
          replace m1 := cell_of_ans hb m1
          replace m2 := cell_of_ans hb m2
          replace m3 := cell_of_ans hb m3
          replace m4 := cell_of_ans hb m4
          replace Hhs1 := Lib.hid (Hhs1.out.step hb)
          replace Hhp1 := Lib.hid (Hhp1.out.step hb)
          replace Hhs2 := Lib.hid (Hhs2.out.step hb)
          replace Hhp2 := Lib.hid (Hhp2.out.step hb)
          replace n0 := cell_of_ans hb n0
          replace n1 := cell_of_ans hb n1
          replace o0 := cell_of_ans hb o0
          replace o1 := cell_of_ans hb o1
          replace HB := Lib.hid (HB.out.trans (hb.mono HB.out.size))
          clear hb
          go_wp2_with fail
          go_ret
          exact ⟨rfl, HB.out⟩
    clear aK15
    have hs35 : W3.heap.size ≤ (W4.setCell ⟨q, 4, none⟩ (.slice Ax r.links.length cx2)).heap.size := by have := HB4.out.size; simpa using this
    have hg : W4.grownBy (W4.setCell ⟨q, 4, none⟩ (.slice Ax r.links.length cx2)) (some q) := only_setCell (World.grownBy.refl _ _) (.inl rfl) _
    have HM5 : Hid (At5 (W4.setCell ⟨q, 4, none⟩ (.slice Ax r.links.length cx2)) q 24 (.int .i64 r.rows) (.int .i64 r.mid) (.int .i64 r.gap) (.int .i64 r.reach) (.slice Ax r.links.length cx2)) := HM4.set4 _
    have HK5 : Hid (OwnK 28 W3.heap.size (W4.setCell ⟨q, 4, none⟩ (.slice Ax r.links.length cx2)) (.slice Ax r.links.length cx2) r.links) := HK4.out.keptBy hg hqw
    have HO5 : Hid (OwnG 33 w2.heap.size (W4.setCell ⟨q, 4, none⟩ (.slice Ax r.links.length cx2)) (.slice Ao ball.length co) ball) := World.ownsRow.kept (HO.out.kept HB4.out) hg (.inr (own_ne_type (HO.out.kept HB4.out) HM4 (by decide)))
    have HB5 : Hid (Below w2.heap.size w2 (W4.setCell ⟨q, 4, none⟩ (.slice Ax r.links.length cx2))) := (HB3.out.trans (HB4.out.mono hw3)).setCell hq _
    clear hg HM4 HK4 HO HB4 m0 m1 m2 m3 m4 mf4 HM HBW k0 k1 k2 k3 k4 j0 j1 j2 HL HX HBa ltk0 ltj0
    generalize (W4.setCell ⟨q, 4, none⟩ (.slice Ax r.links.length cx2)) = W5 at *
    have hw5 := HB5.out.size
    have hb35 : W3.heap.size ≤ W5.heap.size := by have := hs35; omega
    have hq5 := HM5.out.lt
    obtain ⟨hcK1, hcK2, hlK⟩ := HK5.out.parts
    obtain ⟨hcG1, hcG2, hlG⟩ := HO5.out.parts
    have HLK5 := Lib.hid hlK
    have HLG5 := Lib.hid hlG
    clear hlK hlG
    have hb := HB5.out
    replace j0 := cell_of_ans hb j0
    replace j1 := cell_of_ans hb j1
    clear hb
    have ltj0 := World.block_lt_of_cell? _ _ j0
    dsimp only at ltj0
    obtain ⟨hpe, hok, hbr, -, hrg⟩ := thr_parts he
    have hr1 := hok.rows1
    have hb0 : 0 < ball.length := by omega
    have hRr : r.reach ≤ 10 := hok.reach10
    have hRr0 : 0 ≤ r.reach := hok.reach0
    have HTE : Hid (∀ x other, readyB x xs other = true → thrErr x xs other = 0) := fun x other h => by
      rw [readyB, Bool.and_eq_true, decide_eq_true_eq] at h
      exact h.2
    clear hbr hok hpe
    have h4 : wh % 4 = 0 ∨ wh % 4 = 1 ∨ wh % 4 = 2 ∨ wh % 4 = 3 := by omega
    rcases h4 with hw | hw | hw | hw
    · obtain ⟨k, hk⟩ : ∃ k : Nat, at_ % (ball.length : Int) = (k : Int) := ⟨(at_ % (ball.length : Int)).toNat, by have := Int.emod_nonneg at_ (b := (ball.length : Int)) (by omega); omega⟩
      have hkl : k < ball.length := by have := Int.emod_lt_of_pos at_ (b := (ball.length : Int)) (by omega); omega
      have hkli : (k : Int) < (ball.length : Int) := by omega
      have hbz : ¬ (ball.length : Int) = 0 := by omega
      have hbz2 : ((ball.length : Int) == 0) = false := by rw [beq_eq_false_iff_ne]; omega
      have hatm : at_.tmod (ball.length : Int) = (k : Int) := by rw [Int.tmod_eq_emod_of_nonneg hat.1]; exact hk
      have hk63 : (ball.length : Int) ≤ 8 := by omega
      obtain ⟨g5, c5, cur5, eA, hcur5⟩ : ∃ (g5 c5 : Nat) (cur5 : Array Value), Value.slice Ao ball.length co = .slice (some ⟨g5, 0, none⟩) ball.length c5 ∧ W5.heap[g5]? = some (.cells cur5 33) := by
        rcases HO5.out.2 with ⟨_, h0⟩ | ⟨g, cap, cur, e, _, hg, _⟩
        · omega
        · exact ⟨g, cap, cur, e, hg⟩
      injection eA with eA1 _ eA3
      subst eA1 eA3
      have hG5 : w2.heap.size ≤ g5 ∧ g5 < W5.heap.size := World.ownsRow.lt HO5.out g5 rfl
      have hG5q : g5 ≠ q := fun e => own_ne_type HO5.out HM5.out (by decide) (by rw [e]; rfl)
      obtain ⟨f1, f2⟩ := (show ∀ i, W5.frozen? ⟨g5, i, none⟩ = false from fun i => World.ownsRow.frozenAt HO5.out i) |> fun h => (⟨h (k * 2), h (k * 2 + 1)⟩ : _ ∧ _)
      obtain ⟨b, off, eb, hb0', c1, c2⟩ := HLG5.out.at_ hkl
      injection eb with eb
      injection eb with eb1 eb2
      subst eb1 eb2
      rw [Nat.zero_add] at c1 c2
      have hrk := hrg k hkl
      obtain ⟨d, hd⟩ : ∃ d, d = at_ / 64 % 2 := ⟨_, rfl⟩
      have hd0 : 0 ≤ d ∧ d ≤ 1 := by omega
      have hq1 : at_.tdiv 64 = at_ / 64 := Int.tdiv_eq_ediv_of_nonneg hat.1
      have hq2 : (at_ / 64).tmod 2 = d := by rw [hd]; exact Int.tmod_eq_emod_of_nonneg (by omega)
      have hq3 : at_ / 64 % 2 = d := hd.symm
      obtain ⟨lo, hlo⟩ : ∃ lo, lo = (gx ball k).lo := ⟨_, rfl⟩
      obtain ⟨hi, hhi⟩ : ∃ hi, hi = (gx ball k).hi := ⟨_, rfl⟩
      rw [← hlo, ← hhi] at hrk
      rw [← hlo] at c1
      rw [← hhi] at c2
      have hwa : IntKind.i64.wrap at_ = at_ := IntWalk.i64_in _ (by omega)
      have hwd : IntKind.i64.wrap (at_ / 64) = at_ / 64 := IntWalk.i64_in _ (by omega)
      have hs1 : IntKind.i64.wrap (lo - d) = lo - d := IntWalk.i64_in _ (by omega)
      have hs2 : IntKind.i64.wrap (hi + 1) = hi + 1 := IntWalk.i64_in _ (by omega)
      obtain ⟨lo2, hlo2⟩ : ∃ lo2, lo2 = max 0 (lo - d) := ⟨_, rfl⟩
      obtain ⟨hi2, hhi2⟩ : ∃ hi2, hi2 = min 60 (hi + 1) := ⟨_, rfl⟩
      have hm1 : (if d < lo then lo - d else 0) = lo2 := by rw [hlo2]; split <;> omega
      have hm2 : (if hi + 1 < 60 then hi + 1 else 60) = hi2 := by rw [hhi2]; split <;> omega
      have HWP : Hid (WidP r r xs ball (widerG ball k lo2 hi2) false) := fun h => ⟨HTE.out _ _ h, fun h => (by cases h), fun _ => wide_law he (HTE.out _ _ h) (fun u hu => wide_range (by omega) (by omega) hu)⟩
      have HWL : Hid (ball.length = (widerG ball k lo2 hi2).length) := by show _ = _; simp [widerG]
      clear hd hlo2 hhi2 hlo hhi
      go_upto_region 8 with fail
      refine wp_region_noPanic ?_
      have hS : (fun W' : World => Below w2.heap.size W5 W' ∧ W'.cell? ⟨g5, k * 2 + 1, none⟩ = some (.int .i64 hi)) W5.drew := ⟨(Below.refl _ _).drew, c2⟩
      refine wp_region_any (by kernel_rfl) (wpAny_of_T (S := fun W' : World => Below w2.heap.size W5 W' ∧ W'.cell? ⟨g5, k * 2 + 1, none⟩ = some (.int .i64 hi)) (m := 23) _ _ _ _ ?_)
      refine' T_take (i := 0) (v := _) rfl (by kernel_rfl) (by kernel_rfl) (by kernel_rfl) (by kernel_rfl) (fun _ _ _ h => h) (by kernel_rfl) hS ?_ ?_
      rotate_left 1
      · intro Wv hW
        replace c2 := hW.2
        go_simp
        first | done | with_reducible rfl | omega
      try simp only [Act.put, List.setIfInBounds_toArray, List.set_cons_zero, List.set_cons_succ]
      refine' T_take (i := 1) (v := _) rfl (by kernel_rfl) (by kernel_rfl) (by kernel_rfl) (by kernel_rfl) (fun _ _ _ h => h) (by kernel_rfl) hS ?_ ?_
      rotate_left 1
      · intro Wv hW
        replace c2 := hW.2
        go_simp
        first | done | with_reducible rfl | omega
      try simp only [Act.put, List.setIfInBounds_toArray, List.set_cons_zero, List.set_cons_succ]
      refine' T_take (i := 2) (v := _) rfl (by kernel_rfl) (by kernel_rfl) (by kernel_rfl) (by kernel_rfl) (fun _ _ _ h => h) (by kernel_rfl) hS ?_ ?_
      rotate_left 1
      · intro Wv hW
        replace c2 := hW.2
        go_simp
        first | done | with_reducible rfl | omega
      try simp only [Act.put, List.setIfInBounds_toArray, List.set_cons_zero, List.set_cons_succ]
      refine' T_take (i := 3) (v := _) rfl (by kernel_rfl) (by kernel_rfl) (by kernel_rfl) (by kernel_rfl) (fun _ _ _ h => h) (by kernel_rfl) hS ?_ ?_
      rotate_left 1
      · intro Wv hW
        replace c2 := hW.2
        go_simp
        first | done | with_reducible rfl | omega
      try simp only [Act.put, List.setIfInBounds_toArray, List.set_cons_zero, List.set_cons_succ]
      refine' T_take (i := 4) (v := _) rfl (by kernel_rfl) (by kernel_rfl) (by kernel_rfl) (by kernel_rfl) (fun _ _ _ h => h) (by kernel_rfl) hS ?_ ?_
      rotate_left 1
      · intro Wv hW
        replace c2 := hW.2
        go_simp
        first | done | with_reducible rfl | omega
      try simp only [Act.put, List.setIfInBounds_toArray, List.set_cons_zero, List.set_cons_succ]
      refine' T_take (i := 6) (v := _) rfl (by kernel_rfl) (by kernel_rfl) (by kernel_rfl) (by kernel_rfl) (fun _ _ _ h => h) (by kernel_rfl) hS ?_ ?_
      rotate_left 1
      · intro Wv hW
        replace c2 := hW.2
        go_simp
        first | done | with_reducible rfl | omega
      try simp only [Act.put, List.setIfInBounds_toArray, List.set_cons_zero, List.set_cons_succ]
      refine' T_take (i := 7) (v := _) rfl (by kernel_rfl) (by kernel_rfl) (by kernel_rfl) (by kernel_rfl) (fun _ _ _ h => h) (by kernel_rfl) hS ?_ ?_
      rotate_left 1
      · intro Wv hW
        replace c2 := hW.2
        go_simp
        first | done | with_reducible rfl | omega
      try simp only [Act.put, List.setIfInBounds_toArray, List.set_cons_zero, List.set_cons_succ]
      refine' T_take (i := 8) (v := _) rfl (by kernel_rfl) (by kernel_rfl) (by kernel_rfl) (by kernel_rfl) (fun _ _ _ h => h) (by kernel_rfl) hS ?_ ?_
      rotate_left 1
      · intro Wv hW
        replace c2 := hW.2
        go_simp
        first | done | with_reducible rfl | omega
      try simp only [Act.put, List.setIfInBounds_toArray, List.set_cons_zero, List.set_cons_succ]
      refine' T_take (i := 9) (v := _) rfl (by kernel_rfl) (by kernel_rfl) (by kernel_rfl) (by kernel_rfl) (fun _ _ _ h => h) (by kernel_rfl) hS ?_ ?_
      rotate_left 1
      · intro Wv hW
        replace c2 := hW.2
        go_simp
        first | done | with_reducible rfl | omega
      try simp only [Act.put, List.setIfInBounds_toArray, List.set_cons_zero, List.set_cons_succ]
      refine' T_take (i := 12) (v := _) rfl (by kernel_rfl) (by kernel_rfl) (by kernel_rfl) (by kernel_rfl) (fun _ _ _ h => h) (by kernel_rfl) hS ?_ ?_
      rotate_left 1
      · intro Wv hW
        replace c2 := hW.2
        go_simp
        first | done | with_reducible rfl | omega
      try simp only [Act.put, List.setIfInBounds_toArray, List.set_cons_zero, List.set_cons_succ]
      refine' T_take (i := 13) (v := _) rfl (by kernel_rfl) (by kernel_rfl) (by kernel_rfl) (by kernel_rfl) (fun _ _ _ h => h) (by kernel_rfl) hS ?_ ?_
      rotate_left 1
      · intro Wv hW
        replace c2 := hW.2
        go_simp
        first | done | with_reducible rfl | omega
      try simp only [Act.put, List.setIfInBounds_toArray, List.set_cons_zero, List.set_cons_succ]
      refine' T_take (i := 14) (v := _) rfl (by kernel_rfl) (by kernel_rfl) (by kernel_rfl) (by kernel_rfl) (fun _ _ _ h => h) (by kernel_rfl) hS ?_ ?_
      rotate_left 1
      · intro Wv hW
        replace c2 := hW.2
        go_simp
        first | done | with_reducible rfl | omega
      try simp only [Act.put, List.setIfInBounds_toArray, List.set_cons_zero, List.set_cons_succ]
      refine' T_take (i := 15) (v := _) rfl (by kernel_rfl) (by kernel_rfl) (by kernel_rfl) (by kernel_rfl) (fun _ _ _ h => h) (by kernel_rfl) hS ?_ ?_
      rotate_left 1
      · intro Wv hW
        replace c2 := hW.2
        go_simp
        first | done | with_reducible rfl | omega
      try simp only [Act.put, List.setIfInBounds_toArray, List.set_cons_zero, List.set_cons_succ]
      refine' T_take (i := 16) (v := _) rfl (by kernel_rfl) (by kernel_rfl) (by kernel_rfl) (by kernel_rfl) (fun _ _ _ h => h) (by kernel_rfl) hS ?_ ?_
      rotate_left 1
      · intro Wv hW
        replace c2 := hW.2
        go_simp
        first | done | with_reducible rfl | omega
      try simp only [Act.put, List.setIfInBounds_toArray, List.set_cons_zero, List.set_cons_succ]
      refine' T_take (i := 17) (v := _) rfl (by kernel_rfl) (by kernel_rfl) (by kernel_rfl) (by kernel_rfl) (fun _ _ _ h => h) (by kernel_rfl) hS ?_ ?_
      rotate_left 1
      · intro Wv hW
        replace c2 := hW.2
        go_simp
        first | done | with_reducible rfl | omega
      try simp only [Act.put, List.setIfInBounds_toArray, List.set_cons_zero, List.set_cons_succ]
      refine T_ready (rs := [5]) (by kernel_rfl) (by simp) ?_
      refine TReady.cons rfl (fun K hK => ?_) TReady.nil
      have e1 : W5.drew.cell? ⟨g5, k * 2, none⟩ = some (.int .i64 lo) := c1
      try go_simp
      refine hK.out _ _ (fun _ => hS) (fun _ => ?_)
      clear hK K e1
      try simp only [Act.put, List.setIfInBounds_toArray, List.set_cons_zero, List.set_cons_succ]
      refine' T_take (i := 10) (v := _) rfl (by kernel_rfl) (by kernel_rfl) (by kernel_rfl) (by kernel_rfl) (fun _ _ _ h => h) (by kernel_rfl) hS ?_ ?_
      rotate_left 1
      · intro Wv hW
        replace c2 := hW.2
        go_simp
        first | done | with_reducible rfl | omega
      try simp only [Act.put, List.setIfInBounds_toArray, List.set_cons_zero, List.set_cons_succ]
      refine' T_take (i := 11) (v := _) rfl (by kernel_rfl) (by kernel_rfl) (by kernel_rfl) (by kernel_rfl) (fun _ _ _ h => h) (by kernel_rfl) hS ?_ ?_
      rotate_left 1
      · intro Wv hW
        replace c2 := hW.2
        go_simp
        first | done | with_reducible rfl | omega
      try simp only [Act.put, List.setIfInBounds_toArray, List.set_cons_zero, List.set_cons_succ]
      refine' T_take (i := 18) (v := _) rfl (by kernel_rfl) (by kernel_rfl) (by kernel_rfl) (by kernel_rfl) (fun _ _ _ h => h) (by kernel_rfl) hS ?_ ?_
      rotate_left 1
      · intro Wv hW
        replace c2 := hW.2
        go_simp
        first | done | with_reducible rfl | omega
      try simp only [Act.put, List.setIfInBounds_toArray, List.set_cons_zero, List.set_cons_succ]
      refine' T_take (i := 19) (v := _) rfl (by kernel_rfl) (by kernel_rfl) (by kernel_rfl) (by kernel_rfl) (fun _ _ _ h => h) (by kernel_rfl) hS ?_ ?_
      rotate_left 1
      · intro Wv hW
        replace c2 := hW.2
        go_simp
        first | done | with_reducible rfl | omega
      try simp only [Act.put, List.setIfInBounds_toArray, List.set_cons_zero, List.set_cons_succ]
      refine T_ready (rs := [20]) (by kernel_rfl) (by simp) ?_
      refine TReady.cons rfl (fun K hK => ?_) TReady.nil
      have e1 : W5.drew.cell? ⟨g5, k * 2, none⟩ = some (.int .i64 lo) := c1
      have e3 : W5.drew.frozen? ⟨g5, k * 2, none⟩ = false := f1
      try go_simp
      have hS2 : Below w2.heap.size W5 (W5.setCell ⟨g5, k * 2, none⟩ (.int .i64 lo2)).drew ∧ (W5.setCell ⟨g5, k * 2, none⟩ (.int .i64 lo2)).drew.cell? ⟨g5, k * 2 + 1, none⟩ = some (.int .i64 hi) := ⟨((Below.refl _ _).setCell hG5.1 _).drew, (World.cell?_setCell_other W5 ⟨g5, k * 2, none⟩ ⟨g5, k * 2 + 1, none⟩ _ (fun e => by injection e; omega)).trans c2⟩
      refine hK.out _ _ (fun _ => hS2) (fun _ => ?_)
      clear hK K
      replace hS := hS2
      clear hS2 e1 e3
      try simp only [Act.put, List.setIfInBounds_toArray, List.set_cons_zero, List.set_cons_succ]
      refine T_ready (rs := [21]) (by kernel_rfl) (by simp) ?_
      refine TReady.cons rfl (fun K hK => ?_) TReady.nil
      try go_simp
      refine hK.out _ _ (fun _ => hS) (fun _ => ?_)
      clear hK K
      try simp only [Act.put, List.setIfInBounds_toArray, List.set_cons_zero, List.set_cons_succ]
      refine' T_take (i := 22) (v := _) rfl (by kernel_rfl) (by kernel_rfl) (by kernel_rfl) (by kernel_rfl) (fun _ _ _ h => h) (by kernel_rfl) hS ?_ ?_
      rotate_left 1
      · intro Wv hW
        replace c2 := hW.2
        go_simp
        first | done | with_reducible rfl | omega
      try simp only [Act.put, List.setIfInBounds_toArray, List.set_cons_zero, List.set_cons_succ]
      refine T_ready (rs := [23]) (by kernel_rfl) (by simp) ?_
      refine TReady.cons rfl (fun K hK => ?_) TReady.nil
      have e2 := hS.2
      have e4 : W5.frozen? ⟨g5, k * 2 + 1, none⟩ = false := f2
      try go_simp
      refine hK.out _ _ (fun h => absurd h (by decide)) (fun _ => ?_)
      clear hK K
      try simp only [Act.put, List.setIfInBounds_toArray, List.set_cons_zero, List.set_cons_succ]
      refine T_done (by kernel_rfl) ?_ _
      refine NoPanic.normal ?_
      try go_simp
      obtain ⟨hs3, hg3⟩ := World.ownsRow.stored HO5.out (k * 2) (.int .i64 lo2)
      obtain ⟨hs4, hg4⟩ := World.ownsRow.stored hs3 (k * 2 + 1) (.int .i64 hi2)
      rw [← flatG_set ball k lo2 hi2 hkl] at hs4
      have hg6 := only_drewN (hg3.trans hg4) 1
      have HO6 : Hid (OwnG 33 w2.heap.size ((W5.setCell ⟨g5, k * 2, none⟩ (.int .i64 lo2)).setCell ⟨g5, k * 2 + 1, none⟩ (.int .i64 hi2)).drew (.slice (some ⟨g5, 0, none⟩) (widerG ball k lo2 hi2).length co) (widerG ball k lo2 hi2)) := by
        show OwnG _ _ _ _ _
        unfold OwnG
        rw [← HWL.out]
        exact World.ownsRow.drew hs4
      have HM6 : Hid (At5 ((W5.setCell ⟨g5, k * 2, none⟩ (.int .i64 lo2)).setCell ⟨g5, k * 2 + 1, none⟩ (.int .i64 hi2)).drew q 24 (.int .i64 r.rows) (.int .i64 r.mid) (.int .i64 r.gap) (.int .i64 r.reach) (.slice Ax r.links.length cx2)) := ((HM5.out.far (q' := g5) (i := k * 2) (fun e => hG5q e.symm) _).far (q' := g5) (i := k * 2 + 1) (fun e => hG5q e.symm) _).step (Below.refl _ _).drew
      have HK6 : Hid (OwnK 28 W3.heap.size ((W5.setCell ⟨g5, k * 2, none⟩ (.int .i64 lo2)).setCell ⟨g5, k * 2 + 1, none⟩ (.int .i64 hi2)).drew (.slice Ax r.links.length cx2) r.links) := World.ownsRow.kept HK5.out hg6 (.inr (own_ne_type HK5.out hcur5 (by decide)))
      have HB6 : Hid (Below w2.heap.size w2 ((W5.setCell ⟨g5, k * 2, none⟩ (.int .i64 lo2)).setCell ⟨g5, k * 2 + 1, none⟩ (.int .i64 hi2)).drew) := ((HB5.out.setCell hG5.1 _).setCell hG5.1 _).drew
      generalize ((W5.setCell ⟨g5, k * 2, none⟩ (.int .i64 lo2)).setCell ⟨g5, k * 2 + 1, none⟩ (.int .i64 hi2)).drew = W6 at *
      obtain ⟨hc1, hc2, hc3⟩ := HK6.out.parts
      obtain ⟨hd1, hd2, hd3⟩ := HO6.out.parts
      exact TAIL15 _ _ _ _ _ _ _ _ _ _ _ _ _ _ _ _ _ _ _ _ _ _ _ _ _ _ _ _ _ _ _ _ _ _ _ _ _ _ _ _ _ _ _ _ _ _ _ _ _ _ _ _ _ _ _ _ _ _ _ _ _ _ _ _ _ _ _ _ _ _ _ _ _ _ _ _ _ _ _ _ _ _ _ _ _ _ _ _ _ _ _ _ _ _ _ _ _ _ _ _ _ _ _ _ _ _ _ _ _ _ _ _ _ _ _ _ _ _ _ _ _ _ _ _ _ _ _ _ _ _ _ _ _ _ _ _ _ _ _ _ _ _ _ _ _ _ _ _ _ _ _ _ _ _ _ _ _ _ _ _ _ _ _ _ _ _ _ _ _ _ _ _ _ _ _ _ _ _ _ _ _ _ _ _ _ _ _ _ _ _ _ _ _ _ _ _ _ _ _ _ _ _ _ _ _ _ _ _ _ _ _ _ _ _ _ _ false r Ax cx2 (widerG ball k lo2 hi2) (some ⟨g5, 0, none⟩) co W6 r.links.length ball.length rfl HWL.out HB6 HM6 hc3 ⟨hc1, hc2⟩ hlen hd3 ⟨hd1, hd2⟩ (by rw [← HWL.out]; exact hbl) HWP
    · obtain ⟨⟨m0, m1, m2, m3, m4⟩, -⟩ := HM5.out.cells
      have HWP : Hid (WidP r (moreK r lf lt) xs ball ball false) := fun h => ⟨HTE.out _ _ h, fun h => (by cases h), fun _ => wide_law he (HTE.out _ _ h) (fun u hu => wide_link pinS_lt hu)⟩
      go_wp2_with (at_builtin; refine wpList_appK (t := 22) (e := 28) (.inr ⟨rfl, rfl⟩) (.tmp 83) (.tmp 89) rfl rfl W3.heap.size W5 _ r.links ⟨lf, lt, false⟩ rfl rfl HK5 hlen hb35 ?_; intro A9 c9 W6 HK6 HB6; have HM6 := HM5.out.low HB6.out hqw; obtain ⟨⟨m0, m1, m2, m3, m4⟩, mf⟩ := HM6.cells; have mf4 := mf 4; clear mf)
      have hg : W6.grownBy (W6.setCell ⟨q, 4, none⟩ (.slice A9 (r.links.length + 1) c9)) (some q) := only_setCell (World.grownBy.refl _ _) (.inl rfl) _
      have HM7 : Hid (At5 (W6.setCell ⟨q, 4, none⟩ (.slice A9 (r.links.length + 1) c9)) q 24 (.int .i64 r.rows) (.int .i64 r.mid) (.int .i64 r.gap) (.int .i64 r.reach) (.slice A9 (r.links.length + 1) c9)) := HM6.set4 _
      have HK7 : Hid (OwnK 28 W3.heap.size (W6.setCell ⟨q, 4, none⟩ (.slice A9 (r.links.length + 1) c9)) (.slice A9 (r.links.length + 1) c9) (r.links ++ [⟨lf, lt, false⟩])) := HK6.out.keptBy hg hqw
      have HO7 : Hid (OwnG 33 w2.heap.size (W6.setCell ⟨q, 4, none⟩ (.slice A9 (r.links.length + 1) c9)) (.slice Ao ball.length co) ball) := World.ownsRow.kept (own_low HO5.out HB6.out HOL.out) hg (.inr (own_ne_type (own_low HO5.out HB6.out HOL.out) HM6 (by decide)))
      have HB7 : Hid (Below w2.heap.size w2 (W6.setCell ⟨q, 4, none⟩ (.slice A9 (r.links.length + 1) c9))) := (HB5.out.trans (HB6.out.mono hw3)).setCell hq _
      generalize (W6.setCell ⟨q, 4, none⟩ (.slice A9 (r.links.length + 1) c9)) = W7 at *
      obtain ⟨hd1, hd2, hd3⟩ := HO7.out.parts
      have hml : (r.links ++ [(⟨lf, lt, false⟩ : Lk)]).length = r.links.length + 1 := by simp
      have HK7' : OwnK 28 W3.heap.size W7 (.slice A9 (r.links ++ [(⟨lf, lt, false⟩ : Lk)]).length c9) (r.links ++ [⟨lf, lt, false⟩]) := by rw [hml]; exact HK7.out
      obtain ⟨hc1, hc2, hc3⟩ := HK7'.parts
      exact TAIL15 _ _ _ _ _ _ _ _ _ _ _ _ _ _ _ _ _ _ _ _ _ _ _ _ _ _ _ _ _ _ _ _ _ _ _ _ _ _ _ _ _ _ _ _ _ _ _ _ _ _ _ _ _ _ _ _ _ _ _ _ _ _ _ _ _ _ _ _ _ _ _ _ _ _ _ _ _ _ _ _ _ _ _ _ _ _ _ _ _ _ _ _ _ _ _ _ _ _ _ _ _ _ _ _ _ _ _ _ _ _ _ _ _ _ _ _ _ _ _ _ _ _ _ _ _ _ _ _ _ _ _ _ _ _ _ _ _ _ _ _ _ _ _ _ _ _ _ _ _ _ _ _ _ _ _ _ _ _ _ _ _ _ _ _ _ _ _ _ _ _ _ _ _ _ _ _ _ _ _ _ _ _ _ _ _ _ _ _ _ _ _ _ _ _ _ _ _ _ _ _ _ _ _ _ _ _ _ _ _ _ _ _ _ _ _ _ false (moreK r lf lt) A9 c9 ball Ao co W7 (r.links.length + 1) ball.length hml.symm rfl HB7 HM7 hc3 ⟨hc1, hc2⟩ (by show (r.links ++ [(⟨lf, lt, false⟩ : Lk)]).length ≤ _; omega) hd3 ⟨hd1, hd2⟩ hbl HWP
    · obtain ⟨⟨m0, m1, m2, m3, m4⟩, mf⟩ := HM5.out.cells
      have mf3 := mf 3
      clear mf
      obtain ⟨d, hd⟩ : ∃ d, d = at_ % 3 := ⟨_, rfl⟩
      have hd0 : 0 ≤ d ∧ d ≤ 2 := by omega
      have hq2 : at_.tmod 3 = d := by rw [hd]; exact Int.tmod_eq_emod_of_nonneg hat.1
      have hq3 : at_ % 3 = d := hd.symm
      have hwa : IntKind.i64.wrap at_ = at_ := IntWalk.i64_in _ (by omega)
      have hs1 : IntKind.i64.wrap (r.reach + 1) = r.reach + 1 := IntWalk.i64_in _ (by omega)
      have hs2 : IntKind.i64.wrap (r.reach + 1 + d) = r.reach + 1 + d := IntWalk.i64_in _ (by omega)
      obtain ⟨n, hn⟩ : ∃ n, n = min 10 (r.reach + 1 + d) := ⟨_, rfl⟩
      have hm1 : (if r.reach + 1 + d < 10 then r.reach + 1 + d else 10) = n := by rw [hn]; split <;> omega
      have HWP : Hid (WidP r (reachK r n) xs ball ball true) := fun h => ⟨HTE.out _ _ h, fun _ => better_law he (HTE.out _ _ h) (fun u hu => better_reach pinS_lt (by omega) hu), fun h => (by cases h)⟩
      clear hd hn
      go_wp2_with fail
      have hg : W5.grownBy (W5.setCell ⟨q, 3, none⟩ (.int .i64 n)) (some q) := only_setCell (World.grownBy.refl _ _) (.inl rfl) _
      have HM7 : Hid (At5 (W5.setCell ⟨q, 3, none⟩ (.int .i64 n)) q 24 (.int .i64 r.rows) (.int .i64 r.mid) (.int .i64 r.gap) (.int .i64 n) (.slice Ax r.links.length cx2)) := HM5.out.set3 _
      have HK7 : Hid (OwnK 28 W3.heap.size (W5.setCell ⟨q, 3, none⟩ (.int .i64 n)) (.slice Ax r.links.length cx2) r.links) := HK5.out.keptBy hg hqw
      have HO7 : Hid (OwnG 33 w2.heap.size (W5.setCell ⟨q, 3, none⟩ (.int .i64 n)) (.slice Ao ball.length co) ball) := World.ownsRow.kept HO5.out hg (.inr (own_ne_type HO5.out HM5.out (by decide)))
      have HB7 : Hid (Below w2.heap.size w2 (W5.setCell ⟨q, 3, none⟩ (.int .i64 n))) := HB5.out.setCell hq _
      generalize (W5.setCell ⟨q, 3, none⟩ (.int .i64 n)) = W7 at *
      obtain ⟨hd1, hd2, hd3⟩ := HO7.out.parts
      obtain ⟨hc1, hc2, hc3⟩ := HK7.out.parts
      have hbt : decide (2 ≤ wh % 4) = true := by rw [hw]; rfl
      try rw [hbt]
      exact TAIL15 _ _ _ _ _ _ _ _ _ _ _ _ _ _ _ _ _ _ _ _ _ _ _ _ _ _ _ _ _ _ _ _ _ _ _ _ _ _ _ _ _ _ _ _ _ _ _ _ _ _ _ _ _ _ _ _ _ _ _ _ _ _ _ _ _ _ _ _ _ _ _ _ _ _ _ _ _ _ _ _ _ _ _ _ _ _ _ _ _ _ _ _ _ _ _ _ _ _ _ _ _ _ _ _ _ _ _ _ _ _ _ _ _ _ _ _ _ _ _ _ _ _ _ _ _ _ _ _ _ _ _ _ _ _ _ _ _ _ _ _ _ _ _ _ _ _ _ _ _ _ _ _ _ _ _ _ _ _ _ _ _ _ _ _ _ _ _ _ _ _ _ _ _ _ _ _ _ _ _ _ _ _ _ _ _ _ _ _ _ _ _ _ _ _ _ _ _ _ _ _ _ _ _ _ _ _ _ _ _ _ _ _ _ _ _ _ true (reachK r n) Ax cx2 ball Ao co W7 r.links.length ball.length rfl rfl HB7 HM7 hc3 ⟨hc1, hc2⟩ hlen hd3 ⟨hd1, hd2⟩ hbl HWP
    · obtain ⟨⟨m0, m1, m2, m3, m4⟩, -⟩ := HM5.out.cells
      by_cases hl0 : 0 < r.links.length
      · have hl0i : (0 : Int) < (r.links.length : Int) := by omega
        have hlne : ¬ r.links = [] := fun e => by rw [e] at hl0; simp at hl0
        obtain ⟨k, hk⟩ : ∃ k : Nat, at_ % (r.links.length : Int) = (k : Int) := ⟨(at_ % (r.links.length : Int)).toNat, by have := Int.emod_nonneg at_ (b := (r.links.length : Int)) (by omega); omega⟩
        have hkl : k < r.links.length := by have := Int.emod_lt_of_pos at_ (b := (r.links.length : Int)) (by omega); omega
        have hkli : (k : Int) < (r.links.length : Int) := by omega
        have hbz : ¬ (r.links.length : Int) = 0 := by omega
        have hbz2 : ((r.links.length : Int) == 0) = false := by rw [beq_eq_false_iff_ne]; omega
        have hatm : at_.tmod (r.links.length : Int) = (k : Int) := by rw [Int.tmod_eq_emod_of_nonneg hat.1]; exact hk
        have hwa : IntKind.i64.wrap at_ = at_ := IntWalk.i64_in _ (by omega)
        obtain ⟨g5, c5, cur5, eA, hcur5⟩ : ∃ (g5 c5 : Nat) (cur5 : Array Value), Value.slice Ax r.links.length cx2 = .slice (some ⟨g5, 0, none⟩) r.links.length c5 ∧ W5.heap[g5]? = some (.cells cur5 28) := by
          rcases HK5.out.2 with ⟨_, h0⟩ | ⟨g, cap, cur, e, _, hg, _⟩
          · omega
          · exact ⟨g, cap, cur, e, hg⟩
        injection eA with eA1 _ eA3
        subst eA1 eA3
        have hG5 : W3.heap.size ≤ g5 ∧ g5 < W5.heap.size := World.ownsRow.lt HK5.out g5 rfl
        have hG5q : g5 ≠ q := by omega
        have f2 : W5.frozen? ⟨g5, k * 3 + 2, none⟩ = false := World.ownsRow.frozenAt HK5.out _
        obtain ⟨b, off, eb, hb0', c1, c2, c3⟩ := HLK5.out.at_ hkl
        injection eb with eb
        injection eb with eb1 eb2
        subst eb1 eb2
        rw [Nat.zero_add] at c3
        have HWP : Hid (WidP r (sureK r k) xs ball ball true) := fun h => ⟨HTE.out _ _ h, fun _ => better_law he (HTE.out _ _ h) (fun u hu => better_sure pinS_lt hu), fun h => (by cases h)⟩
        clear c1 c2
        go_upto_region 14 with fail
        refine wp_region_noPanic ?_
        have hS : (fun W' : World => Below W3.heap.size W5 W') W5.drew := (Below.refl _ _).drew
        refine wp_region_any (by kernel_rfl) (wpAny_of_T (S := fun W' : World => Below W3.heap.size W5 W') (m := 11) _ _ _ _ ?_)
        refine' T_take (i := 0) (v := _) rfl (by kernel_rfl) (by kernel_rfl) (by kernel_rfl) (by kernel_rfl) (fun _ _ _ h => h) (by kernel_rfl) hS ?_ ?_
        rotate_left 1
        · intro Wv hW
          replace m4 := (hW.cell (p := ⟨q, 4, none⟩) hqw).trans m4
          go_simp
          first | done | with_reducible rfl | omega
        try simp only [Act.put, List.setIfInBounds_toArray, List.set_cons_zero, List.set_cons_succ]
        refine' T_take (i := 1) (v := _) rfl (by kernel_rfl) (by kernel_rfl) (by kernel_rfl) (by kernel_rfl) (fun _ _ _ h => h) (by kernel_rfl) hS ?_ ?_
        rotate_left 1
        · intro Wv hW
          replace m4 := (hW.cell (p := ⟨q, 4, none⟩) hqw).trans m4
          go_simp
          first | done | with_reducible rfl | omega
        try simp only [Act.put, List.setIfInBounds_toArray, List.set_cons_zero, List.set_cons_succ]
        refine' T_take (i := 2) (v := _) rfl (by kernel_rfl) (by kernel_rfl) (by kernel_rfl) (by kernel_rfl) (fun _ _ _ h => h) (by kernel_rfl) hS ?_ ?_
        rotate_left 1
        · intro Wv hW
          replace m4 := (hW.cell (p := ⟨q, 4, none⟩) hqw).trans m4
          go_simp
          first | done | with_reducible rfl | omega
        try simp only [Act.put, List.setIfInBounds_toArray, List.set_cons_zero, List.set_cons_succ]
        refine' T_take (i := 3) (v := _) rfl (by kernel_rfl) (by kernel_rfl) (by kernel_rfl) (by kernel_rfl) (fun _ _ _ h => h) (by kernel_rfl) hS ?_ ?_
        rotate_left 1
        · intro Wv hW
          replace m4 := (hW.cell (p := ⟨q, 4, none⟩) hqw).trans m4
          go_simp
          first | done | with_reducible rfl | omega
        try simp only [Act.put, List.setIfInBounds_toArray, List.set_cons_zero, List.set_cons_succ]
        refine' T_take (i := 4) (v := _) rfl (by kernel_rfl) (by kernel_rfl) (by kernel_rfl) (by kernel_rfl) (fun _ _ _ h => h) (by kernel_rfl) hS ?_ ?_
        rotate_left 1
        · intro Wv hW
          replace m4 := (hW.cell (p := ⟨q, 4, none⟩) hqw).trans m4
          go_simp
          first | done | with_reducible rfl | omega
        try simp only [Act.put, List.setIfInBounds_toArray, List.set_cons_zero, List.set_cons_succ]
        refine' T_take (i := 5) (v := _) rfl (by kernel_rfl) (by kernel_rfl) (by kernel_rfl) (by kernel_rfl) (fun _ _ _ h => h) (by kernel_rfl) hS ?_ ?_
        rotate_left 1
        · intro Wv hW
          replace m4 := (hW.cell (p := ⟨q, 4, none⟩) hqw).trans m4
          go_simp
          first | done | with_reducible rfl | omega
        try simp only [Act.put, List.setIfInBounds_toArray, List.set_cons_zero, List.set_cons_succ]
        refine' T_take (i := 6) (v := _) rfl (by kernel_rfl) (by kernel_rfl) (by kernel_rfl) (by kernel_rfl) (fun _ _ _ h => h) (by kernel_rfl) hS ?_ ?_
        rotate_left 1
        · intro Wv hW
          replace m4 := (hW.cell (p := ⟨q, 4, none⟩) hqw).trans m4
          go_simp
          first | done | with_reducible rfl | omega
        try simp only [Act.put, List.setIfInBounds_toArray, List.set_cons_zero, List.set_cons_succ]
        refine' T_take (i := 7) (v := _) rfl (by kernel_rfl) (by kernel_rfl) (by kernel_rfl) (by kernel_rfl) (fun _ _ _ h => h) (by kernel_rfl) hS ?_ ?_
        rotate_left 1
        · intro Wv hW
          replace m4 := (hW.cell (p := ⟨q, 4, none⟩) hqw).trans m4
          go_simp
          first | done | with_reducible rfl | omega
        try simp only [Act.put, List.setIfInBounds_toArray, List.set_cons_zero, List.set_cons_succ]
        refine' T_take (i := 8) (v := _) rfl (by kernel_rfl) (by kernel_rfl) (by kernel_rfl) (by kernel_rfl) (fun _ _ _ h => h) (by kernel_rfl) hS ?_ ?_
        rotate_left 1
        · intro Wv hW
          replace m4 := (hW.cell (p := ⟨q, 4, none⟩) hqw).trans m4
          go_simp
          first | done | with_reducible rfl | omega
        try simp only [Act.put, List.setIfInBounds_toArray, List.set_cons_zero, List.set_cons_succ]
        refine' T_take (i := 9) (v := _) rfl (by kernel_rfl) (by kernel_rfl) (by kernel_rfl) (by kernel_rfl) (fun _ _ _ h => h) (by kernel_rfl) hS ?_ ?_
        rotate_left 1
        · intro Wv hW
          replace m4 := (hW.cell (p := ⟨q, 4, none⟩) hqw).trans m4
          go_simp
          first | done | with_reducible rfl | omega
        try simp only [Act.put, List.setIfInBounds_toArray, List.set_cons_zero, List.set_cons_succ]
        refine T_ready (rs := [10]) (by kernel_rfl) (by simp) ?_
        refine TReady.cons rfl (fun K hK => ?_) TReady.nil
        have e4 : W5.frozen? ⟨g5, k * 3 + 2, none⟩ = false := f2
        have e5 := c3
        try go_simp
        refine hK.out _ _ (fun _ => ((Below.refl _ _).setCell hG5.1 _).drew) (fun _ => ?_)
        have hS2 : Below W3.heap.size W5 (W5.setCell ⟨g5, k * 3 + 2, none⟩ (.bool true)).drew := ((Below.refl _ _).setCell hG5.1 _).drew
        clear hK K
        replace hS := hS2
        clear hS2 e4 e5
        try simp only [Act.put, List.setIfInBounds_toArray, List.set_cons_zero, List.set_cons_succ]
        refine T_done (by kernel_rfl) ?_ _
        refine NoPanic.normal ?_
        try go_simp
        obtain ⟨hs3, hg3⟩ := World.ownsRow.stored HK5.out (k * 3 + 2) (.bool true)
        rw [← flatK_sure r.links k hkl] at hs3
        have hg6 := only_drewN hg3 1
        have hsl : r.links.length = (sureK r k).links.length := by simp [sureK]
        have HK7 : Hid (OwnK 28 W3.heap.size (W5.setCell ⟨g5, k * 3 + 2, none⟩ (.bool true)).drew (.slice (some ⟨g5, 0, none⟩) (sureK r k).links.length cx2) (sureK r k).links) := by
          show OwnK _ _ _ _ _
          unfold OwnK
          rw [← hsl]
          exact World.ownsRow.drew hs3
        have HM7 : Hid (At5 (W5.setCell ⟨g5, k * 3 + 2, none⟩ (.bool true)).drew q 24 (.int .i64 r.rows) (.int .i64 r.mid) (.int .i64 r.gap) (.int .i64 r.reach) (.slice (some ⟨g5, 0, none⟩) r.links.length cx2)) := (HM5.out.far (q' := g5) (i := k * 3 + 2) (fun e => hG5q e.symm) _).step (Below.refl _ _).drew
        have HO7 : Hid (OwnG 33 w2.heap.size (W5.setCell ⟨g5, k * 3 + 2, none⟩ (.bool true)).drew (.slice Ao ball.length co) ball) := World.ownsRow.kept HO5.out hg6 (.inr (own_ne_type HO5.out hcur5 (by decide)))
        have HB7 : Hid (Below w2.heap.size w2 (W5.setCell ⟨g5, k * 3 + 2, none⟩ (.bool true)).drew) := (HB5.out.setCell (show w2.heap.size ≤ g5 by omega) _).drew
        generalize (W5.setCell ⟨g5, k * 3 + 2, none⟩ (.bool true)).drew = W7 at *
        obtain ⟨hd1, hd2, hd3⟩ := HO7.out.parts
        obtain ⟨hc1, hc2, hc3⟩ := HK7.out.parts
        have hbt : decide (2 ≤ wh % 4) = true := by rw [hw]; rfl
        try rw [hbt]
        exact TAIL15 _ _ _ _ _ _ _ _ _ _ _ _ _ _ _ _ _ _ _ _ _ _ _ _ _ _ _ _ _ _ _ _ _ _ _ _ _ _ _ _ _ _ _ _ _ _ _ _ _ _ _ _ _ _ _ _ _ _ _ _ _ _ _ _ _ _ _ _ _ _ _ _ _ _ _ _ _ _ _ _ _ _ _ _ _ _ _ _ _ _ _ _ _ _ _ _ _ _ _ _ _ _ _ _ _ _ _ _ _ _ _ _ _ _ _ _ _ _ _ _ _ _ _ _ _ _ _ _ _ _ _ _ _ _ _ _ _ _ _ _ _ _ _ _ _ _ _ _ _ _ _ _ _ _ _ _ _ _ _ _ _ _ _ _ _ _ _ _ _ _ _ _ _ _ _ _ _ _ _ _ _ _ _ _ _ _ _ _ _ _ _ _ _ _ _ _ _ _ _ _ _ _ _ _ _ _ _ _ _ _ _ _ _ _ _ _ true (sureK r k) (some ⟨g5, 0, none⟩) cx2 ball Ao co W7 r.links.length ball.length hsl rfl HB7 HM7 hc3 ⟨hc1, hc2⟩ (by rw [← hsl]; exact hlen) hd3 ⟨hd1, hd2⟩ hbl HWP
      · have hlz : (r.links = []) = True := by simp; exact List.eq_nil_of_length_eq_zero (by omega)
        have HWP : Hid (WidP r r xs ball ball true) := fun h => ⟨HTE.out _ _ h, fun _ => better_law he (HTE.out _ _ h) (fun u hu => ⟨u, hu, Sub.rfl⟩), fun h => (by cases h)⟩
        go_wp2_with fail
        obtain ⟨hd1, hd2, hd3⟩ := HO5.out.parts
        obtain ⟨hc1, hc2, hc3⟩ := HK5.out.parts
        have hbt : decide (2 ≤ wh % 4) = true := by rw [hw]; rfl
        try rw [hbt]
        exact TAIL15 _ _ _ _ _ _ _ _ _ _ _ _ _ _ _ _ _ _ _ _ _ _ _ _ _ _ _ _ _ _ _ _ _ _ _ _ _ _ _ _ _ _ _ _ _ _ _ _ _ _ _ _ _ _ _ _ _ _ _ _ _ _ _ _ _ _ _ _ _ _ _ _ _ _ _ _ _ _ _ _ _ _ _ _ _ _ _ _ _ _ _ _ _ _ _ _ _ _ _ _ _ _ _ _ _ _ _ _ _ _ _ _ _ _ _ _ _ _ _ _ _ _ _ _ _ _ _ _ _ _ _ _ _ _ _ _ _ _ _ _ _ _ _ _ _ _ _ _ _ _ _ _ _ _ _ _ _ _ _ _ _ _ _ _ _ _ _ _ _ _ _ _ _ _ _ _ _ _ _ _ _ _ _ _ _ _ _ _ _ _ _ _ _ _ _ _ _ _ _ _ _ _ _ _ _ _ _ _ _ _ _ _ _ _ _ _ true r Ax cx2 ball Ao co W5 r.links.length ball.length rfl rfl HB5 HM5 hc3 ⟨hc1, hc2⟩ hlen hd3 ⟨hd1, hd2⟩ hbl HWP
  clear aK3
  obtain ⟨n0, hn0⟩ : ∃ n0, n0 = w2.heap.size := ⟨_, rfl⟩
  have HNN := Lib.hid hn0
  clear hn0
  refine wp_region_noPanic ?_
  have hS : (fun W' : World => Below n0 w2 W') w2.drew := (Below.refl _ _).drew
  refine wp_region_any (by kernel_rfl) (wpAny_of_T (S := fun W' : World => Below n0 w2 W') (m := 7) _ _ _ _ ?_)
  refine' T_take (i := 0) (v := _) rfl (by kernel_rfl) (by kernel_rfl) (by kernel_rfl) (by kernel_rfl) (fun _ _ _ h => h) (by kernel_rfl) hS ?_ ?_
  rotate_left 1
  · intro Wv hW
    replace k0 := cell_of_ans (HNN.out ▸ hW) k0
    replace k1 := cell_of_ans (HNN.out ▸ hW) k1
    replace k2 := cell_of_ans (HNN.out ▸ hW) k2
    replace k3 := cell_of_ans (HNN.out ▸ hW) k3
    replace k4 := cell_of_ans (HNN.out ▸ hW) k4
    go_simp
    first | done | with_reducible rfl | omega
  try simp only [Act.put, List.setIfInBounds_toArray, List.set_cons_zero, List.set_cons_succ]
  refine' T_take (i := 2) (v := _) rfl (by kernel_rfl) (by kernel_rfl) (by kernel_rfl) (by kernel_rfl) (fun _ _ _ h => h) (by kernel_rfl) hS ?_ ?_
  rotate_left 1
  · intro Wv hW
    replace k0 := cell_of_ans (HNN.out ▸ hW) k0
    replace k1 := cell_of_ans (HNN.out ▸ hW) k1
    replace k2 := cell_of_ans (HNN.out ▸ hW) k2
    replace k3 := cell_of_ans (HNN.out ▸ hW) k3
    replace k4 := cell_of_ans (HNN.out ▸ hW) k4
    go_simp
    first | done | with_reducible rfl | omega
  try simp only [Act.put, List.setIfInBounds_toArray, List.set_cons_zero, List.set_cons_succ]
  refine T_ready (rs := [1, 4]) (by kernel_rfl) (by simp) ?_
  refine TReady.cons rfl (fun K hK => ?_) (TReady.cons rfl (fun K hK => ?_) TReady.nil)
  · try go_simp
    obtain ⟨e1, he1⟩ : ∃ e1, e1 = w2.heap.size := ⟨_, rfl⟩
    have HE : Hid (OwnG 33 n0 ((w2.alloc (.cells #[] 33)).drew) (.slice (some ⟨e1, 0, none⟩) 0 0) []) := by rw [he1]; exact OwnG.empty (w := w2.drew) (by have := hS.size; have := HNN.out; omega)
    refine hK.out _ _ (fun _ => hS.alloc (by have := hS.size; have := HNN.out; omega) _) (fun hS2 => ?_)
    replace hS := hS2 (by decide)
    clear hS2 hK K
    try simp only [Act.put, List.setIfInBounds_toArray, List.set_cons_zero, List.set_cons_succ]
    try simp only [← he1]
    generalize (w2.alloc (.cells #[] 33)).drew = V1 at *
    clear he1
    refine T_ready (rs := [3, 4]) (by kernel_rfl) (by simp) ?_
    refine TReady.cons rfl (fun K hK => ?_) (TReady.cons rfl (fun K hK => ?_) TReady.nil)
    · have HSR := Lib.hid ((HBa.out.below (HNN.out ▸ hS)).isrc)
      refine step_copyG (.tmp 34) (.tmp 35) rfl rfl n0 V1 _ Ab cb ball rfl rfl HE HSR hbl (by have := hS.size; have := HNN.out; omega) ?_
      intro A3 c3 V2 HO HG3
      have hS2 : Below n0 w2 V2 := hS.grown HG3.out (by have := hS.size; have := HNN.out; omega) (fun k e => (World.ownsRow.lt HE.out k e).1)
      clear HSR HG3 HE
      refine hK.out _ _ (fun _ => hS2) (fun _ => ?_)
      clear hK K hS
      have hS := hS2
      clear hS2
      try simp only [Act.put, List.setIfInBounds_toArray, List.set_cons_zero, List.set_cons_succ]
      refine T_ready (rs := [4]) (by kernel_rfl) (by simp) ?_
      refine TReady.cons rfl (fun K hK => ?_) TReady.nil
      try go_simp
      obtain ⟨q1, hq1⟩ : ∃ q1, q1 = V2.heap.size := ⟨_, rfl⟩
      have HZ : Hid (At5 (V2.alloc (.cells #[.int .i64 0, .int .i64 0, .int .i64 0, .int .i64 0, .slice none 0 0] 24)) q1 24 (.int .i64 0) (.int .i64 0) (.int .i64 0) (.int .i64 0) (.slice none 0 0)) := by rw [hq1]; exact (show At5 _ _ _ _ _ _ _ _ from World.alloc_heap_new V2 _)
      have hql : q1 < (V2.alloc (.cells #[.int .i64 0, .int .i64 0, .int .i64 0, .int .i64 0, .slice none 0 0] 24)).heap.size := by rw [hq1]; simp
      have hqq : n0 ≤ q1 := by have := hS.size; have := HNN.out; omega
      replace HO : Hid (OwnG 33 n0 (V2.alloc (.cells #[.int .i64 0, .int .i64 0, .int .i64 0, .int .i64 0, .slice none 0 0] 24)) (.slice A3 ball.length c3) ball) := HO.out.kept ((Below.refl _ _).alloc (Nat.le_refl _) _)
      refine hK.out _ _ (fun _ => hS.alloc (by have := hS.size; have := HNN.out; omega) _) (fun hS2 => ?_)
      replace hS := hS2 (by decide)
      clear hS2 hK K
      try simp only [Act.put, List.setIfInBounds_toArray, List.set_cons_zero, List.set_cons_succ]
      try simp only [← hq1]
      generalize V2.alloc (.cells #[.int .i64 0, .int .i64 0, .int .i64 0, .int .i64 0, .slice none 0 0] 24) = V3 at *
      clear hq1
      refine T_ready (rs := [5]) (by kernel_rfl) (by simp) ?_
      refine TReady.cons rfl (fun K hK => ?_) TReady.nil
      obtain ⟨⟨z0, z1, z2, z3, z4⟩, zf⟩ := HZ.out.cells
      have zf0 := zf 0
      have zf1 := zf 1
      have zf2 := zf 2
      have zf3 := zf 3
      have zf4 := zf 4
      clear zf
      try go_simp
      have HM := Lib.hid (HZ.out.set (.int .i64 r.rows) (.int .i64 r.mid) (.int .i64 r.gap) (.int .i64 r.reach) (.slice A r.links.length c))
      have HO2 : Hid (OwnG 33 n0 (((((V3.setCell ⟨q1, 0, none⟩ (.int .i64 r.rows)).setCell ⟨q1, 1, none⟩ (.int .i64 r.mid)).setCell ⟨q1, 2, none⟩ (.int .i64 r.gap)).setCell ⟨q1, 3, none⟩ (.int .i64 r.reach)).setCell ⟨q1, 4, none⟩ (.slice A r.links.length c)) (.slice A3 ball.length c3) ball) := World.ownsRow.kept HO.out (grown_five _ _ _ _ _ _ _) (.inr (own_ne_type HO.out HZ.out (by decide)))
      have hS2 : Below n0 w2 (((((V3.setCell ⟨q1, 0, none⟩ (.int .i64 r.rows)).setCell ⟨q1, 1, none⟩ (.int .i64 r.mid)).setCell ⟨q1, 2, none⟩ (.int .i64 r.gap)).setCell ⟨q1, 3, none⟩ (.int .i64 r.reach)).setCell ⟨q1, 4, none⟩ (.slice A r.links.length c)) := below_five hS hqq _ _ _ _ _
      refine hK.out _ _ (fun _ => hS2) (fun _ => ?_)
      clear hK K hS z0 z1 z2 z3 z4 zf0 zf1 zf2 zf3 zf4 HZ HO
      have hS := hS2
      clear hS2
      try simp only [Act.put, List.setIfInBounds_toArray, List.set_cons_zero, List.set_cons_succ]
      generalize (((((V3.setCell ⟨q1, 0, none⟩ (.int .i64 r.rows)).setCell ⟨q1, 1, none⟩ (.int .i64 r.mid)).setCell ⟨q1, 2, none⟩ (.int .i64 r.gap)).setCell ⟨q1, 3, none⟩ (.int .i64 r.reach)).setCell ⟨q1, 4, none⟩ (.slice A r.links.length c)) = V4 at *
      refine' T_take (i := 6) (v := _) rfl (by kernel_rfl) (by kernel_rfl) (by kernel_rfl) (by kernel_rfl) (fun _ _ _ h => h) (by kernel_rfl) hS ?_ ?_
      rotate_left 1
      · intro Wv hW
        replace k0 := cell_of_ans (HNN.out ▸ hW) k0
        replace k1 := cell_of_ans (HNN.out ▸ hW) k1
        replace k2 := cell_of_ans (HNN.out ▸ hW) k2
        replace k3 := cell_of_ans (HNN.out ▸ hW) k3
        replace k4 := cell_of_ans (HNN.out ▸ hW) k4
        go_simp
        first | done | with_reducible rfl | omega
      try simp only [Act.put, List.setIfInBounds_toArray, List.set_cons_zero, List.set_cons_succ]
      refine T_done (by kernel_rfl) ?_ _
      refine NoPanic.normal ?_
      try go_simp
      have hnn := HNN.out
      subst hnn
      exact TAIL3 _ _ _ _ _ _ _ _ _ _ _ _ _ _ _ _ _ _ _ _ _ _ _ _ _ _ _ _ _ _ _ _ _ _ _ _ _ _ _ _ _ _ _ _ _ _ _ _ _ _ _ _ _ _ _ _ _ _ _ _ _ _ _ _ _ _ _ _ _ _ _ _ _ _ _ _ _ _ _ _ _ _ _ _ _ _ _ _ _ _ _ _ _ _ _ _ _ _ _ _ _ _ _ _ _ _ _ _ _ _ _ _ _ _ _ _ _ _ _ _ _ _ _ _ _ _ _ _ _ _ _ _ _ _ _ _ _ _ _ _ _ _ _ _ _ _ _ _ _ _ _ _ _ _ _ _ _ _ _ _ _ _ _ _ _ _ _ _ _ _ _ _ _ _ _ _ _ _ _ _ _ _ _ _ _ _ _ _ _ _ _ _ _ _ _ _ _ _ _ _ _ _ _ _ _ _ _ _ _ _ _ _ _ _ _ _ _ q1 A3 c3 _ hS HM HO2 hqq
    · try go_simp
      have hel : e1 < V1.heap.size := (World.ownsRow.lt HE.out e1 rfl).2
      obtain ⟨q1, hq1⟩ : ∃ q1, q1 = V1.heap.size := ⟨_, rfl⟩
      have HZ : Hid (At5 (V1.alloc (.cells #[.int .i64 0, .int .i64 0, .int .i64 0, .int .i64 0, .slice none 0 0] 24)) q1 24 (.int .i64 0) (.int .i64 0) (.int .i64 0) (.int .i64 0) (.slice none 0 0)) := by rw [hq1]; exact (show At5 _ _ _ _ _ _ _ _ from World.alloc_heap_new V1 _)
      have hql : q1 < (V1.alloc (.cells #[.int .i64 0, .int .i64 0, .int .i64 0, .int .i64 0, .slice none 0 0] 24)).heap.size := by rw [hq1]; simp
      have hqq : n0 ≤ q1 := by have := hS.size; have := HNN.out; omega
      replace HE : Hid (OwnG 33 n0 (V1.alloc (.cells #[.int .i64 0, .int .i64 0, .int .i64 0, .int .i64 0, .slice none 0 0] 24)) (.slice (some ⟨e1, 0, none⟩) 0 0) []) := HE.out.kept ((Below.refl _ _).alloc (Nat.le_refl _) _)
      have hne : e1 ≠ q1 := by have h := (World.ownsRow.lt HE.out e1 rfl).2; have h2 : e1 < V1.heap.size := hel; omega
      refine hK.out _ _ (fun _ => hS.alloc (by have := hS.size; have := HNN.out; omega) _) (fun hS2 => ?_)
      replace hS := hS2 (by decide)
      clear hS2 hK K
      try simp only [Act.put, List.setIfInBounds_toArray, List.set_cons_zero, List.set_cons_succ]
      try simp only [← hq1]
      generalize V1.alloc (.cells #[.int .i64 0, .int .i64 0, .int .i64 0, .int .i64 0, .slice none 0 0] 24) = V5 at *
      clear hq1
      refine T_ready (rs := [3]) (by kernel_rfl) (by simp) ?_
      refine TReady.cons rfl (fun K hK => ?_) TReady.nil
      have HSR := Lib.hid ((HBa.out.below (HNN.out ▸ hS)).isrc)
      refine step_copyG (.tmp 34) (.tmp 35) rfl rfl n0 V5 _ Ab cb ball rfl rfl HE HSR hbl (by have := hS.size; have := HNN.out; omega) ?_
      intro A3 c3 V6 HO HG3
      have hS2 : Below n0 w2 V6 := hS.grown HG3.out (by have := hS.size; have := HNN.out; omega) (fun k e => (World.ownsRow.lt HE.out k e).1)
      replace HZ : Hid (At5 V6 q1 24 (.int .i64 0) (.int .i64 0) (.int .i64 0) (.int .i64 0) (.slice none 0 0)) := (HG3.out.block q1 hql (fun e => hne (by injection e with e; exact e.symm))).trans HZ.out
      replace hql := Nat.lt_of_lt_of_le hql HG3.out.size
      clear hne
      clear HSR HG3 HE
      refine hK.out _ _ (fun _ => hS2) (fun _ => ?_)
      clear hK K hS
      have hS := hS2
      clear hS2
      try simp only [Act.put, List.setIfInBounds_toArray, List.set_cons_zero, List.set_cons_succ]
      refine T_ready (rs := [5]) (by kernel_rfl) (by simp) ?_
      refine TReady.cons rfl (fun K hK => ?_) TReady.nil
      obtain ⟨⟨z0, z1, z2, z3, z4⟩, zf⟩ := HZ.out.cells
      have zf0 := zf 0
      have zf1 := zf 1
      have zf2 := zf 2
      have zf3 := zf 3
      have zf4 := zf 4
      clear zf
      try go_simp
      have HM := Lib.hid (HZ.out.set (.int .i64 r.rows) (.int .i64 r.mid) (.int .i64 r.gap) (.int .i64 r.reach) (.slice A r.links.length c))
      have HO2 : Hid (OwnG 33 n0 (((((V6.setCell ⟨q1, 0, none⟩ (.int .i64 r.rows)).setCell ⟨q1, 1, none⟩ (.int .i64 r.mid)).setCell ⟨q1, 2, none⟩ (.int .i64 r.gap)).setCell ⟨q1, 3, none⟩ (.int .i64 r.reach)).setCell ⟨q1, 4, none⟩ (.slice A r.links.length c)) (.slice A3 ball.length c3) ball) := World.ownsRow.kept HO.out (grown_five _ _ _ _ _ _ _) (.inr (own_ne_type HO.out HZ.out (by decide)))
      have hS2 : Below n0 w2 (((((V6.setCell ⟨q1, 0, none⟩ (.int .i64 r.rows)).setCell ⟨q1, 1, none⟩ (.int .i64 r.mid)).setCell ⟨q1, 2, none⟩ (.int .i64 r.gap)).setCell ⟨q1, 3, none⟩ (.int .i64 r.reach)).setCell ⟨q1, 4, none⟩ (.slice A r.links.length c)) := below_five hS hqq _ _ _ _ _
      refine hK.out _ _ (fun _ => hS2) (fun _ => ?_)
      clear hK K hS z0 z1 z2 z3 z4 zf0 zf1 zf2 zf3 zf4 HZ HO
      have hS := hS2
      clear hS2
      try simp only [Act.put, List.setIfInBounds_toArray, List.set_cons_zero, List.set_cons_succ]
      generalize (((((V6.setCell ⟨q1, 0, none⟩ (.int .i64 r.rows)).setCell ⟨q1, 1, none⟩ (.int .i64 r.mid)).setCell ⟨q1, 2, none⟩ (.int .i64 r.gap)).setCell ⟨q1, 3, none⟩ (.int .i64 r.reach)).setCell ⟨q1, 4, none⟩ (.slice A r.links.length c)) = V7 at *
      refine' T_take (i := 6) (v := _) rfl (by kernel_rfl) (by kernel_rfl) (by kernel_rfl) (by kernel_rfl) (fun _ _ _ h => h) (by kernel_rfl) hS ?_ ?_
      rotate_left 1
      · intro Wv hW
        replace k0 := cell_of_ans (HNN.out ▸ hW) k0
        replace k1 := cell_of_ans (HNN.out ▸ hW) k1
        replace k2 := cell_of_ans (HNN.out ▸ hW) k2
        replace k3 := cell_of_ans (HNN.out ▸ hW) k3
        replace k4 := cell_of_ans (HNN.out ▸ hW) k4
        go_simp
        first | done | with_reducible rfl | omega
      try simp only [Act.put, List.setIfInBounds_toArray, List.set_cons_zero, List.set_cons_succ]
      refine T_done (by kernel_rfl) ?_ _
      refine NoPanic.normal ?_
      try go_simp
      have hnn := HNN.out
      subst hnn
      exact TAIL3 _ _ _ _ _ _ _ _ _ _ _ _ _ _ _ _ _ _ _ _ _ _ _ _ _ _ _ _ _ _ _ _ _ _ _ _ _ _ _ _ _ _ _ _ _ _ _ _ _ _ _ _ _ _ _ _ _ _ _ _ _ _ _ _ _ _ _ _ _ _ _ _ _ _ _ _ _ _ _ _ _ _ _ _ _ _ _ _ _ _ _ _ _ _ _ _ _ _ _ _ _ _ _ _ _ _ _ _ _ _ _ _ _ _ _ _ _ _ _ _ _ _ _ _ _ _ _ _ _ _ _ _ _ _ _ _ _ _ _ _ _ _ _ _ _ _ _ _ _ _ _ _ _ _ _ _ _ _ _ _ _ _ _ _ _ _ _ _ _ _ _ _ _ _ _ _ _ _ _ _ _ _ _ _ _ _ _ _ _ _ _ _ _ _ _ _ _ _ _ _ _ _ _ _ _ _ _ _ _ _ _ _ _ _ _ _ _ q1 A3 c3 _ hS HM HO2 hqq
  · try go_simp
    obtain ⟨q1, hq1⟩ : ∃ q1, q1 = w2.heap.size := ⟨_, rfl⟩
    have HZ : Hid (At5 ((w2.alloc (.cells #[.int .i64 0, .int .i64 0, .int .i64 0, .int .i64 0, .slice none 0 0] 24)).drew) q1 24 (.int .i64 0) (.int .i64 0) (.int .i64 0) (.int .i64 0) (.slice none 0 0)) := by rw [hq1]; exact (show At5 _ _ _ _ _ _ _ _ from World.alloc_heap_new w2.drew _)
    have hql : q1 < ((w2.alloc (.cells #[.int .i64 0, .int .i64 0, .int .i64 0, .int .i64 0, .slice none 0 0] 24)).drew).heap.size := by rw [hq1]; simp
    have hqq : n0 ≤ q1 := by have := hS.size; have := HNN.out; omega
    refine hK.out _ _ (fun _ => hS.alloc (by have := hS.size; have := HNN.out; omega) _) (fun hS2 => ?_)
    replace hS := hS2 (by decide)
    clear hS2 hK K
    try simp only [Act.put, List.setIfInBounds_toArray, List.set_cons_zero, List.set_cons_succ]
    try simp only [← hq1]
    generalize (w2.alloc (.cells #[.int .i64 0, .int .i64 0, .int .i64 0, .int .i64 0, .slice none 0 0] 24)).drew = V8 at *
    clear hq1
    refine T_ready (rs := [1]) (by kernel_rfl) (by simp) ?_
    refine TReady.cons rfl (fun K hK => ?_) TReady.nil
    try go_simp
    obtain ⟨e1, he1⟩ : ∃ e1, e1 = V8.heap.size := ⟨_, rfl⟩
    have HE : Hid (OwnG 33 n0 (V8.alloc (.cells #[] 33)) (.slice (some ⟨e1, 0, none⟩) 0 0) []) := by rw [he1]; exact OwnG.empty (w := V8) (by have := hS.size; have := HNN.out; omega)
    replace HZ : Hid (At5 (V8.alloc (.cells #[] 33)) q1 24 (.int .i64 0) (.int .i64 0) (.int .i64 0) (.int .i64 0) (.slice none 0 0)) := HZ.out.step ((Below.refl _ _).alloc (Nat.le_refl _) _)
    have hne : e1 ≠ q1 := by omega
    replace hql : q1 < (V8.alloc (.cells #[] 33)).heap.size := Nat.lt_of_lt_of_le hql (by simp)
    refine hK.out _ _ (fun _ => hS.alloc (by have := hS.size; have := HNN.out; omega) _) (fun hS2 => ?_)
    replace hS := hS2 (by decide)
    clear hS2 hK K
    try simp only [Act.put, List.setIfInBounds_toArray, List.set_cons_zero, List.set_cons_succ]
    try simp only [← he1]
    generalize V8.alloc (.cells #[] 33) = V9 at *
    clear he1
    refine T_ready (rs := [3]) (by kernel_rfl) (by simp) ?_
    refine TReady.cons rfl (fun K hK => ?_) TReady.nil
    have HSR := Lib.hid ((HBa.out.below (HNN.out ▸ hS)).isrc)
    refine step_copyG (.tmp 34) (.tmp 35) rfl rfl n0 V9 _ Ab cb ball rfl rfl HE HSR hbl (by have := hS.size; have := HNN.out; omega) ?_
    intro A3 c3 V10 HO HG3
    have hS2 : Below n0 w2 V10 := hS.grown HG3.out (by have := hS.size; have := HNN.out; omega) (fun k e => (World.ownsRow.lt HE.out k e).1)
    replace HZ : Hid (At5 V10 q1 24 (.int .i64 0) (.int .i64 0) (.int .i64 0) (.int .i64 0) (.slice none 0 0)) := (HG3.out.block q1 hql (fun e => hne (by injection e with e; exact e.symm))).trans HZ.out
    replace hql := Nat.lt_of_lt_of_le hql HG3.out.size
    clear hne
    clear HSR HG3 HE
    refine hK.out _ _ (fun _ => hS2) (fun _ => ?_)
    clear hK K hS
    have hS := hS2
    clear hS2
    try simp only [Act.put, List.setIfInBounds_toArray, List.set_cons_zero, List.set_cons_succ]
    refine T_ready (rs := [5]) (by kernel_rfl) (by simp) ?_
    refine TReady.cons rfl (fun K hK => ?_) TReady.nil
    obtain ⟨⟨z0, z1, z2, z3, z4⟩, zf⟩ := HZ.out.cells
    have zf0 := zf 0
    have zf1 := zf 1
    have zf2 := zf 2
    have zf3 := zf 3
    have zf4 := zf 4
    clear zf
    try go_simp
    have HM := Lib.hid (HZ.out.set (.int .i64 r.rows) (.int .i64 r.mid) (.int .i64 r.gap) (.int .i64 r.reach) (.slice A r.links.length c))
    have HO2 : Hid (OwnG 33 n0 (((((V10.setCell ⟨q1, 0, none⟩ (.int .i64 r.rows)).setCell ⟨q1, 1, none⟩ (.int .i64 r.mid)).setCell ⟨q1, 2, none⟩ (.int .i64 r.gap)).setCell ⟨q1, 3, none⟩ (.int .i64 r.reach)).setCell ⟨q1, 4, none⟩ (.slice A r.links.length c)) (.slice A3 ball.length c3) ball) := World.ownsRow.kept HO.out (grown_five _ _ _ _ _ _ _) (.inr (own_ne_type HO.out HZ.out (by decide)))
    have hS2 : Below n0 w2 (((((V10.setCell ⟨q1, 0, none⟩ (.int .i64 r.rows)).setCell ⟨q1, 1, none⟩ (.int .i64 r.mid)).setCell ⟨q1, 2, none⟩ (.int .i64 r.gap)).setCell ⟨q1, 3, none⟩ (.int .i64 r.reach)).setCell ⟨q1, 4, none⟩ (.slice A r.links.length c)) := below_five hS hqq _ _ _ _ _
    refine hK.out _ _ (fun _ => hS2) (fun _ => ?_)
    clear hK K hS z0 z1 z2 z3 z4 zf0 zf1 zf2 zf3 zf4 HZ HO
    have hS := hS2
    clear hS2
    try simp only [Act.put, List.setIfInBounds_toArray, List.set_cons_zero, List.set_cons_succ]
    generalize (((((V10.setCell ⟨q1, 0, none⟩ (.int .i64 r.rows)).setCell ⟨q1, 1, none⟩ (.int .i64 r.mid)).setCell ⟨q1, 2, none⟩ (.int .i64 r.gap)).setCell ⟨q1, 3, none⟩ (.int .i64 r.reach)).setCell ⟨q1, 4, none⟩ (.slice A r.links.length c)) = V11 at *
    refine' T_take (i := 6) (v := _) rfl (by kernel_rfl) (by kernel_rfl) (by kernel_rfl) (by kernel_rfl) (fun _ _ _ h => h) (by kernel_rfl) hS ?_ ?_
    rotate_left 1
    · intro Wv hW
      replace k0 := cell_of_ans (HNN.out ▸ hW) k0
      replace k1 := cell_of_ans (HNN.out ▸ hW) k1
      replace k2 := cell_of_ans (HNN.out ▸ hW) k2
      replace k3 := cell_of_ans (HNN.out ▸ hW) k3
      replace k4 := cell_of_ans (HNN.out ▸ hW) k4
      go_simp
      first | done | with_reducible rfl | omega
    try simp only [Act.put, List.setIfInBounds_toArray, List.set_cons_zero, List.set_cons_succ]
    refine T_done (by kernel_rfl) ?_ _
    refine NoPanic.normal ?_
    try go_simp
    have hnn := HNN.out
    subst hnn
    exact TAIL3 _ _ _ _ _ _ _ _ _ _ _ _ _ _ _ _ _ _ _ _ _ _ _ _ _ _ _ _ _ _ _ _ _ _ _ _ _ _ _ _ _ _ _ _ _ _ _ _ _ _ _ _ _ _ _ _ _ _ _ _ _ _ _ _ _ _ _ _ _ _ _ _ _ _ _ _ _ _ _ _ _ _ _ _ _ _ _ _ _ _ _ _ _ _ _ _ _ _ _ _ _ _ _ _ _ _ _ _ _ _ _ _ _ _ _ _ _ _ _ _ _ _ _ _ _ _ _ _ _ _ _ _ _ _ _ _ _ _ _ _ _ _ _ _ _ _ _ _ _ _ _ _ _ _ _ _ _ _ _ _ _ _ _ _ _ _ _ _ _ _ _ _ _ _ _ _ _ _ _ _ _ _ _ _ _ _ _ _ _ _ _ _ _ _ _ _ _ _ _ _ _ _ _ _ _ _ _ _ _ _ _ _ _ _ _ _ _ q1 A3 c3 _ hS HM HO2 hqq
end Go.Proofs.Ytpekajnjjhibjaa
