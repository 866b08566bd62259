/-
  seen: games that words are told of; ranges; proofs of games (carried over from the proofs of the chapter 03).
-/
import Derived.Test.YtenpiinkbfancaaSnB
import Derived.Maps.AppendAt
import Derived.Deep.DeepAppendRoom
namespace Go.Proofs.Ytenpiinkbfancaa.Sn
open Go.RowKit
set_option linter.unusedSimpArgs false
set_option linter.unusedVariables false

section
open Go.RowKit
theorem infoInt : (Try.prog.info? 3).map (fun i => (i.zero, i.size, i.bytes)) = some (some (.int .i64 0), 1, 8) := by kernel_rfl
theorem infoInts : (Try.prog.info? 42).map (fun i => (i.zero, i.size, i.bytes)) = some (some (.slice none 0 0), 1, 24) := by kernel_rfl
/-- Value v is an own slice of n own slices; row j holds rows j. -/
def Rws (base : Nat) (w : World) (v : Value) (n : Nat) (vs : List Value) (rows : Nat → List Int) : Prop :=
  w.ownsRow base 42 1 v n vs ∧ (∀ j, j < n → ∃ u, vs[j]? = some u ∧ w.ownsRow base 3 1 u (rows j).length ((rows j).map (Value.int .i64)) ∧ (u.ownBlock = none ∨ u.ownBlock ≠ v.ownBlock)) ∧
    ∀ (i j : Nat) (u u' : Value), i < j → vs[i]? = some u → vs[j]? = some u' → (u.ownBlock = none ∨ u.ownBlock ≠ u'.ownBlock)
theorem Rws.len {base : Nat} {w : World} {v : Value} {n : Nat} {vs : List Value} {rows : Nat → List Int} (h : Rws base w v n vs rows) : vs.length = n := by have := h.1.1; omega
theorem Rws.nil (base : Nat) (w : World) (rows : Nat → List Int) : Rws base w (.slice none 0 0) 0 [] rows :=
  ⟨World.ownsRow_nil _ _ _ _, fun j hj => by omega, fun i j u u' _ h => by simp at h⟩
theorem Rws.kept {base : Nat} {w w' : World} {v : Value} {n : Nat} {vs : List Value} {rows : Nat → List Int} (h : Rws base w v n vs rows) (hg : Below w.heap.size w w') : Rws base w' v n vs rows := by
  obtain ⟨h1, h2, h3⟩ := h
  have k : ∀ {u : Value} {e : TypeId} {m : Nat} {us : List Value}, w.ownsRow base e 1 u m us → w'.ownsRow base e 1 u m us := fun {u e m us} hu => hu.kept (only_below hg none) (by cases u.ownBlock <;> simp)
  refine ⟨k h1, fun j hj => ?_, h3⟩
  obtain ⟨u, a, b, c⟩ := h2 j hj
  exact ⟨u, a, k b, c⟩
theorem Rws.push {base : Nat} {w w1 w2 : World} {v v' u : Value} {n : Nat} {vs : List Value} {rows : Nat → List Int} (h : Rws base w v n vs rows) (hb : Below w.heap.size w w1) (hB : base ≤ w.heap.size)
    (hu : w1.ownsRow w.heap.size 3 1 u (rows n).length ((rows n).map (Value.int .i64))) (hg : w1.grownBy w2 v.ownBlock) (hv : v'.ownBlock = v.ownBlock ∨ v'.ownBlock = some w1.heap.size)
    (ho : w2.ownsRow base 42 1 v' (n + 1) (vs ++ [u])) : Rws base w2 v' (n + 1) (vs ++ [u]) rows := by
  have hl := h.len
  have hvlt : ∀ k, v.ownBlock = some k → k < w.heap.size := fun k e => (h.1.lt k e).2
  have hult := hu.lt
  have hu2 : w2.ownsRow w.heap.size 3 1 u (rows n).length ((rows n).map (Value.int .i64)) := hu.kept hg (by
    cases e : u.ownBlock with
    | none => exact .inl rfl
    | some k =>
      refine .inr fun e' => ?_
      have a := hvlt k e'.symm
      have b := (hult k e).1
      omega)
  have hsz := hb.size
  refine ⟨ho, fun j hj => ?_, fun i j x y hij hx hy => ?_⟩
  · by_cases e : j = n
    · subst e
      refine ⟨u, by rw [List.getElem?_append_right (by omega)]; simp [hl], ownsRow_base hu2 hB, ?_⟩
      cases e : u.ownBlock with
      | none => exact .inl rfl
      | some k =>
        have a := hult k e
        refine .inr fun e' => ?_
        rcases hv with hv | hv
        · rw [hv] at e'
          have := hvlt k e'.symm
          omega
        · rw [hv] at e'
          injection e' with e'
          omega
    · obtain ⟨x, a, b, c⟩ := h.2.1 j (by omega)
      refine ⟨x, by rw [List.getElem?_append_left (by omega)]; exact a, (b.kept (only_below hb none) (by cases x.ownBlock <;> simp)).kept hg c, ?_⟩
      cases e : x.ownBlock with
      | none => exact .inl rfl
      | some k =>
        rcases hv with hv | hv
        · rw [hv]; rw [e] at c; exact c
        · have d := (b.lt k e).2
          rw [hv]
          refine .inr fun e' => ?_
          injection e' with e'
          omega
  · have hj : j < n + 1 := by
      have := (List.getElem?_eq_some_iff.1 hy).1
      rw [List.length_append] at this
      simp at this
      omega
    by_cases e : j = n
    · subst e
      rw [List.getElem?_append_right (by omega)] at hy
      rw [List.getElem?_append_left (by omega)] at hx
      simp [hl] at hy
      subst hy
      obtain ⟨x', a, b, c⟩ := h.2.1 i (by omega)
      rw [hx] at a
      injection a with a
      subst a
      cases e : x.ownBlock with
      | none => exact .inl rfl
      | some k =>
        have d := (b.lt k e).2
        refine .inr fun e' => ?_
        have := (hult k e'.symm).1
        omega
    · rw [List.getElem?_append_left (by omega)] at hy hx
      exact h.2.2 i j x y hij hx hy
theorem src_one (w : World) (u : Value) : Src (w.alloc (.cells #[u] 42)) 1 (some ⟨w.heap.size, 0, none⟩) 1 [u] := by
  refine ⟨rfl, (fun h => by cases h), fun ad hA j x hx => ?_⟩
  injection hA with hA
  subst hA
  cases j with
  | zero =>
    simp at hx
    subst hx
    rw [add_eq]
    simp
  | succ j => simp at hx
theorem one_slices {base : Nat} {w : World} {e : TypeId} {u : Value} {n : Nat} {xs : List Value} (h : w.ownsRow base e 1 u n xs) : ∀ x ∈ [u], x.oneCell' = true := by
  obtain ⟨A, c, rfl⟩ := ownsRow_form h
  intro x hx
  simp at hx
  subst hx
  rfl
theorem le_alloc {b : Nat} {w w1 : World} {o : Obj} (h : b ≤ w.heap.size) (hb : Below w.heap.size w w1) : b ≤ (w1.alloc o).heap.size := by
  have := hb.size
  rw [World.size_alloc]
  omega
theorem own_ne (u : Value) : u.ownBlock = none ∨ u.ownBlock ≠ none := by cases u.ownBlock <;> simp
theorem Rws.congr {base : Nat} {w : World} {v : Value} {n : Nat} {vs : List Value} {rows rows' : Nat → List Int} (h : Rws base w v n vs rows) (e : ∀ j, j < n → rows' j = rows j) : Rws base w v n vs rows' :=
  ⟨h.1, fun j hj => by rw [e j hj]; exact h.2.1 j hj, h.2.2⟩
/-- An own list of numbers, in a block from base on. -/
def OwnI (base : Nat) (w : World) (u : Value) (xs : List Int) : Prop := w.ownsRow base 3 1 u xs.length (xs.map (Value.int .i64))
theorem OwnI.nil (base : Nat) (w : World) : OwnI base w (.slice none 0 0) [] := World.ownsRow_nil _ _ _ _
theorem OwnI.form {base : Nat} {w : World} {u : Value} {xs : List Int} (h : OwnI base w u xs) : ∃ A c, u = .slice A xs.length c := ownsRow_form h
theorem OwnI.kept {base : Nat} {w w' : World} {u : Value} {xs : List Int} (h : OwnI base w u xs) (hb : Below w.heap.size w w') : OwnI base w' u xs := World.ownsRow.kept h (only_below hb none) (by cases u.ownBlock <;> simp)
theorem src_int (w : World) (y : Int) : Src (w.alloc (.cells #[.int .i64 y] 3)) 1 (some ⟨w.heap.size, 0, none⟩) 1 [.int .i64 y] := by
  refine ⟨rfl, (fun h => by cases h), fun ad hA j x hx => ?_⟩
  injection hA with hA
  subst hA
  cases j with
  | zero =>
    simp at hx
    subst hx
    rw [add_eq]
    simp
  | succ j => simp at hx
theorem own_below {base : Nat} {w w1 : World} {o : Obj} {e : TypeId} {u : Value} {n : Nat} {xs : List Value} (hown : w.ownsRow base e 1 u n xs) (hB : base ≤ w.heap.size) (hg : (w.alloc o).grownBy w1 u.ownBlock) : Below base w w1 :=
  ((Below.refl base w).alloc hB o).grown hg (by simp; omega) (fun k e => (hown.lt k e).1)
section
variable {ops : Array Oper} {rest : List Oper} {o : Oper} {a : Act} {Q : Exit → Act → World → Prop}
theorem wpList_app_int (s x : Operand) (hgd : o.guard = none) (ho : o.op = .call { callee := .builtin .append, args := #[s, x], argTypes := #[42, 42] }) (base : Nat) (w : World) (u : Value) (xs : List Int) (y : Int)
    (hv : a.eval s = u) (hx : a.eval x = .slice (some ⟨w.heap.size, 0, none⟩) 1 1) (hown : Hid (OwnI base w u xs)) (hl : xs.length ≤ 1000000) (hb : base ≤ w.heap.size)
    (h : ∀ A c w', Hid (OwnI base w' (.slice A (xs.length + 1) c) (xs ++ [y])) → Hid (Below base w w') → wpList Try.prog ops Q rest (a.put o.dst (.slice A (xs.length + 1) c)) w') :
    wpList Try.prog ops Q (o :: rest) a (w.alloc (.cells #[.int .i64 y] 3)) := by
  obtain ⟨i0, hi, hz0, hz1, hz2⟩ := info_parts infoInt
  have hO : w.ownsRow base 3 1 u xs.length (xs.map (Value.int .i64)) := hown
  refine wpList_append_src hgd s x 42 ho base 3 i0 (.int .i64 0) 1 8 Try.underlying42 hi hz0 hz1 hz2 rfl (by decide) u xs.length (xs.map (Value.int .i64)) hv (hO.alloc _) (some ⟨w.heap.size, 0, none⟩) 1 1 [.int .i64 y] hx (src_int w y) (one_ints [y]) (by unfold maxLen; omega) (by omega) (by simp; omega) ?_
  intro v' w' h1 h2 _
  obtain ⟨A, c, rfl⟩ := ownsRow_form h1
  refine h A c w' ?_ (own_below hO hb h2)
  show OwnI _ _ _ _
  unfold OwnI
  simpa using h1
theorem wpList_app_row (s x : Operand) (hgd : o.guard = none) (ho : o.op = .call { callee := .builtin .append, args := #[s, x], argTypes := #[29, 29] }) (base : Nat) (w w1 : World) (v : Value) (k : Nat) (vs : List Value) (rows : Nat → List Int) (Au : Option Addr) (m cu : Nat)
    (hv : a.eval s = v) (hx : a.eval x = .slice (some ⟨w1.heap.size, 0, none⟩) 1 1) (hR : Hid (Rws base w v k vs rows)) (hm : (rows k).length = m) (hu : Hid (OwnI w.heap.size w1 (.slice Au m cu) (rows k))) (hW : Hid (Below w.heap.size w w1)) (hl : k ≤ 1000000) (hb : base ≤ w.heap.size)
    (h : ∀ A c vs' w', Hid (Rws base w' (.slice A (k + 1) c) (k + 1) vs' rows) → Hid (Below base w w') → wpList Try.prog ops Q rest (a.put o.dst (.slice A (k + 1) c)) w') :
    wpList Try.prog ops Q (o :: rest) a (w1.alloc (.cells #[.slice Au m cu] 42)) := by
  subst hm
  obtain ⟨i1, hi', hy0, hy1, hy2⟩ := info_parts infoInts
  have hO := hR.out.1
  have hO1 : (w1.alloc (.cells #[.slice Au (rows k).length cu] 42)).ownsRow base 42 1 v k vs := (hO.kept (only_below hW.out none) (own_ne v)).alloc _
  have hU : w1.ownsRow w.heap.size 3 1 (.slice Au (rows k).length cu) (rows k).length ((rows k).map (Value.int .i64)) := hu.out
  refine wpList_append_src hgd s x 29 ho base 42 i1 (.slice none 0 0) 1 24 Try.underlying29 hi' hy0 hy1 hy2 rfl (by decide) v k vs hv hO1 (some ⟨w1.heap.size, 0, none⟩) 1 1 [.slice Au (rows k).length cu] hx (src_one w1 _) (one_slices hU) (by unfold maxLen; omega) (by omega) (le_alloc hb hW.out) ?_
  intro v' w' h1 h2 h3
  obtain ⟨A, c, rfl⟩ := ownsRow_form h1
  have hb1 : Below w.heap.size w (w1.alloc (.cells #[.slice Au (rows k).length cu] 42)) := hW.out.alloc hW.out.size _
  exact h A c _ w' (hR.out.push hb1 hb (hU.alloc _) h2 h3 h1) ((hb1.mono hb).grown h2 (le_alloc hb hW.out) (fun j e => (hO.lt j e).1))
end
/-- A new own list of numbers. -/
def NewO (w : World) (xs : List Int) (e : Ending) (w' : World) : Prop := ∃ A c, e = .returned (.slice A xs.length c) ∧ OwnI w.heap.size w' (.slice A xs.length c) xs ∧ Below w.heap.size w w'
end

section
open Go.RowKit
theorem laneOk {frn : Int} {ws : List Wd} (h : laneErr frn ws = 0) : ws.length ≤ 30 ∧ 1 ≤ frn ∧ frn ≤ 5 ∧ ∀ k, k < ws.length → wordB frn (wx ws k) = true := by
  unfold laneErr at h
  split at h
  · split at h
    · rename_i h1 h2
      rw [Bool.and_eq_true, inB_eq, allB_iff] at h2
      exact ⟨h1, h2.1.1, h2.1.2, h2.2⟩
    · cases h
  · cases h
/-- A new watch. -/
def WPost (w : World) (frn : Int) (A : Option Addr) (c : Nat) (ws : List Wd) (e : Ending) (w' : World) : Prop :=
  ∃ p b, e = .returned (.tuple #[.pointer (some ⟨p, 0, none⟩), .int .i64 0]) ∧ w.heap.size ≤ p ∧ p < w'.heap.size ∧ w.heap.size ≤ b ∧ Wat w.heap.size w' p b 0 frn A c ws ∧ Below w.heap.size w w'
set_option maxRecDepth 100000 in
set_option maxHeartbeats 4000000 in
theorem watched_ok (A : Option Addr) (ws : List Wd) (c : Nat) (frn : Int) (w : World) (hw : Wds w.heap.size w A ws) (hc : ws.length ≤ c ∧ c ≤ 9223372036854775807) (h : laneErr frn ws = 0) :
    Calls Try.prog 121 #[.agg #[.int .i64 frn, .slice A ws.length c]] w (WPost w frn A c ws) := by
  have hb0 : Below w.heap.size w (w.alloc (.cells #[.int .i64 frn, .slice A ws.length c] 40)) := (Below.refl _ _).alloc (Nat.le_refl _) _
  have k0 : (w.alloc (.cells #[.int .i64 frn, .slice A ws.length c] 40)).cell? ⟨w.heap.size, 0, none⟩ = some (.int .i64 frn) := by simp
  have k1 : (w.alloc (.cells #[.int .i64 frn, .slice A ws.length c] 40)).cell? ⟨w.heap.size, 1, none⟩ = some (.slice A ws.length c) := by simp
  have HC := Lib.hid (checkLane_c A ws c frn _ (Nat.le_refl _) (hw.step hb0) hc)
  rw [h] at HC
  have HB0 := Lib.hid hb0
  have HW := Lib.hid hw
  clear hb0 hw h
  go_enter Try.func121, Try.ntmps121
  go_wp2_with fail
  generalize w.alloc (.cells #[.int .i64 frn, .slice A ws.length c] 40) = W0 at k0 k1 HC HB0 ⊢
  refine HC.out.mono ?_
  rintro e w1 ⟨rfl, hb1⟩
  replace k0 := cell_of_ans hb1 k0
  replace k1 := cell_of_ans hb1 k1
  have HB1 : Hid (Below w.heap.size w w1) := HB0.out.trans (hb1.mono HB0.out.size)
  clear hb1
  have hmm := @run_makeMap Try.prog
  go_wp2_with fail
  go_ret2
  have hb := HB1.out
  have hz := hb.size
  have hb2 : Below w1.heap.size w1 (w1.alloc (.map #[] 0)) := (Below.refl _ _).alloc (Nat.le_refl _) _
  have hk := (Known.made w1 (explB frn ws)).step (w' := (w1.alloc (.map #[] 0)).alloc (.cells #[.int .i64 frn, .slice A ws.length c, .map (some w1.heap.size)] 134)) ((Below.refl _ _).alloc (Nat.le_refl _) _)
  have hb3 : Below w.heap.size w ((w1.alloc (.map #[] 0)).alloc (.cells #[.int .i64 frn, .slice A ws.length c, .map (some w1.heap.size)] 134)) := (hb.alloc hz _).alloc (by simp; omega) _
  refine ⟨w1.heap.size + 1, w1.heap.size, rfl, by omega, by simp, hz, ⟨?_, ?_, ?_, HW.out.below hb3, hk⟩, hb3⟩
  all_goals go_simp
/-- Are numbers those of tellers, rising? -/
noncomputable def riseB (ts : List Int) : Bool := allB ts.length fun k => inB (ix ts k) 0 3 && (decide (k = 0) || decide (ix ts (k - 1) < ix ts k))
/-- Is a teller in a list? -/
def offT (ts : List Int) (j : Nat) : Bool := ts.any fun t => t == (j : Int)
theorem offT_snoc (ts : List Int) (t : Int) (j : Nat) : offT (ts ++ [t]) j = (offT ts j || t == (j : Int)) := by simp [offT, List.any_append]
noncomputable def askErr (frn : Int) (ws : List Wd) (ts : List Int) : Int := if laneErr frn ws = 0 then (if riseB ts then 0 else 2) else laneErr frn ws
def B4 (w : World) (g : Nat) (o : Nat → Bool) : Prop := w.heap[g]? = some (.cells #[.bool (o 0), .bool (o 1), .bool (o 2), .bool (o 3)] 129 (0, 0))
theorem B4.lt {w : World} {g : Nat} {o : Nat → Bool} (h : B4 w g o) : g < w.heap.size := (Array.getElem?_eq_some_iff.1 h).1
theorem B4.cells {w : World} {g : Nat} {o : Nat → Bool} (h : B4 w g o) : w.cell? ⟨g, 0, none⟩ = some (.bool (o 0)) ∧ w.cell? ⟨g, 1, none⟩ = some (.bool (o 1)) ∧ w.cell? ⟨g, 2, none⟩ = some (.bool (o 2)) ∧ w.cell? ⟨g, 3, none⟩ = some (.bool (o 3)) ∧ ∀ j, w.frozen? ⟨g, j, none⟩ = false := by
  unfold B4 at h
  simp [World.cell?, World.frozen?, h]
theorem B4.cell {w : World} {g : Nat} {o : Nat → Bool} (h : B4 w g o) {j : Nat} (hj : j < 4) : w.cell? ⟨g, j, none⟩ = some (.bool (o j)) := by
  obtain ⟨h0, h1, h2, h3, -⟩ := h.cells
  rcases (by omega : j = 0 ∨ j = 1 ∨ j = 2 ∨ j = 3) with rfl | rfl | rfl | rfl <;> assumption
theorem B4.below {w w' : World} {g : Nat} {o : Nat → Bool} (h : B4 w g o) (hb : Below w.heap.size w w') : B4 w' g o := (hb.block g h.lt).trans h
theorem B4.set {w : World} {g : Nat} {o : Nat → Bool} (h : B4 w g o) {n : Nat} (hn : n < 4) (o' : Nat → Bool) (ho : ∀ j, j < 4 → o' j = if j = n then true else o j) : B4 (w.setCell ⟨g, n, none⟩ (.bool true)) g o' := by
  unfold B4 at h ⊢
  rw [ho 0 (by omega), ho 1 (by omega), ho 2 (by omega), ho 3 (by omega)]
  rcases (by omega : n = 0 ∨ n = 1 ∨ n = 2 ∨ n = 3) with rfl | rfl | rfl | rfl <;> simp [World.setCell, Array.getElem?_modify, h]
theorem B4.same {w : World} {g : Nat} {o : Nat → Bool} (h : B4 w g o) : w.setCell ⟨g, 0, none⟩ (.bool (o 0)) = w ∧ w.setCell ⟨g, 1, none⟩ (.bool (o 1)) = w ∧ w.setCell ⟨g, 2, none⟩ (.bool (o 2)) = w ∧ w.setCell ⟨g, 3, none⟩ (.bool (o 3)) = w :=
  ⟨set_same h rfl, set_same h rfl, set_same h rfl, set_same h rfl⟩
theorem B4.all {w : World} {g : Nat} {o : Nat → Bool} (h : B4 w g o) (o' : Nat → Bool) : B4 ((((w.setCell ⟨g, 0, none⟩ (.bool (o' 0))).setCell ⟨g, 1, none⟩ (.bool (o' 1))).setCell ⟨g, 2, none⟩ (.bool (o' 2))).setCell ⟨g, 3, none⟩ (.bool (o' 3))) g o' := by
  unfold B4 at h ⊢
  simp [World.setCell, Array.getElem?_modify, h]
theorem sets_grown (w : World) (g : Nat) (a b c d : Value) : w.grownBy ((((w.setCell ⟨g, 0, none⟩ a).setCell ⟨g, 1, none⟩ b).setCell ⟨g, 2, none⟩ c).setCell ⟨g, 3, none⟩ d) (some g) :=
  only_setCell (only_setCell (only_setCell (only_setCell (World.grownBy.refl w (some g)) (.inl rfl) _) (.inl rfl) _) (.inl rfl) _) (.inl rfl) _
theorem Wat.grown {B : Nat} {w w' : World} {p b n g : Nat} {frn : Int} {A : Option Addr} {c : Nat} {ws : List Wd} (h : Wat B w p b n frn A c ws) (hg : w.grownBy w' (some g)) (h1 : p ≠ g) (h2 : b ≠ g) (h3 : B ≤ g) : Wat B w' p b n frn A c ws :=
  ⟨cell_grown hg h.cn h1, cell_grown hg h.cl h1, cell_grown hg h.cm h1, h.wd.grown hg h3, h.kn.kept hg (by simpa using h2)⟩
theorem below_drew_r (X : World) : Below X.heap.size X X.drew := (Below.refl _ _).drew
theorem B4.new (w : World) (a b c d : Bool) (o : Nat → Bool) (h : o 0 = a ∧ o 1 = b ∧ o 2 = c ∧ o 3 = d) : B4 (w.alloc (.cells #[.bool a, .bool b, .bool c, .bool d] 129)) w.heap.size o := by
  obtain ⟨rfl, rfl, rfl, rfl⟩ := h
  exact World.alloc_heap_new _ _
def APost (w : World) (frn : Int) (A : Option Addr) (c : Nat) (ws : List Wd) (o : Nat → Bool) (e : Ending) (w' : World) : Prop :=
  ∃ p b, e = .returned (.tuple #[.pointer (some ⟨p, 0, none⟩), .agg #[.bool (o 0), .bool (o 1), .bool (o 2), .bool (o 3)], .int .i64 0]) ∧ w.heap.size ≤ p ∧ p < w'.heap.size ∧ w.heap.size ≤ b ∧ Wat w.heap.size w' p b 0 frn A c ws ∧ Below w.heap.size w w'
theorem take_snoc {xs : List Int} {k : Nat} (h : k < xs.length) : xs.take (k + 1) = xs.take k ++ [ix xs k] := by rw [List.take_succ_eq_append_getElem h, ix_lt h]
theorem rise_no {ts : List Int} {k : Nat} (h : k < ts.length) (hk : (inB (ix ts k) 0 3 && (decide (k = 0) || decide (ix ts (k - 1) < ix ts k))) = false) : riseB ts = false := allB_false h hk
set_option maxRecDepth 100000 in
set_option maxHeartbeats 8000000 in
theorem asked_core (A At : Option Addr) (ws : List Wd) (ts : List Int) (c ct : Nat) (frn : Int) (w : World) (hw : Wds w.heap.size w A ws) (ht : Ints w.heap.size w At ts) (hc : ws.length ≤ c ∧ c ≤ 9223372036854775807) (hct : ts.length ≤ ct ∧ ct ≤ 9223372036854775807) (h : laneErr frn ws = 0) :
    Calls Try.prog 64 #[.agg #[.int .i64 frn, .slice A ws.length c], .slice At ts.length ct] w fun e w' => (riseB ts = false ∧ Ans w (.tuple #[.pointer none, .agg #[.bool false, .bool false, .bool false, .bool false], .int .i64 2]) e w') ∨ (riseB ts = true ∧ APost w frn A c ws (offT ts) e w') := by
  have hb0 : Below w.heap.size w ((w.alloc (.cells #[.int .i64 frn, .slice A ws.length c] 40)).alloc (.cells #[.bool false, .bool false, .bool false, .bool false] 129)) := ((Below.refl _ _).alloc (Nat.le_refl _) _).alloc (by simp) _
  have k0 : ((w.alloc (.cells #[.int .i64 frn, .slice A ws.length c] 40)).alloc (.cells #[.bool false, .bool false, .bool false, .bool false] 129)).cell? ⟨w.heap.size, 0, none⟩ = some (.int .i64 frn) := by go_simp
  have k1 : ((w.alloc (.cells #[.int .i64 frn, .slice A ws.length c] 40)).alloc (.cells #[.bool false, .bool false, .bool false, .bool false] 129)).cell? ⟨w.heap.size, 1, none⟩ = some (.slice A ws.length c) := by go_simp
  have hZ : B4 ((w.alloc (.cells #[.int .i64 frn, .slice A ws.length c] 40)).alloc (.cells #[.bool false, .bool false, .bool false, .bool false] 129)) (w.heap.size + 1) (fun _ => false) := by
    have := B4.new (w.alloc (.cells #[.int .i64 frn, .slice A ws.length c] 40)) false false false false (fun _ => false) ⟨rfl, rfl, rfl, rfl⟩
    rwa [World.size_alloc] at this
  have HC := Lib.hid (watched_ok A ws c frn _ (hw.step hb0) hc h)
  have HB0 := Lib.hid hb0
  have HZ := Lib.hid hZ
  have HT := Lib.hid (ht.step hb0)
  have HWD := Lib.hid hw
  clear hb0 hw hZ ht
  go_enter Try.func64, Try.ntmps64
  go_wp2_with fail
  generalize ((w.alloc (.cells #[.int .i64 frn, .slice A ws.length c] 40)).alloc (.cells #[.bool false, .bool false, .bool false, .bool false] 129)) = W0 at k0 k1 HC HB0 HZ HT ⊢
  refine HC.out.mono ?_
  rintro e w1 ⟨p, b, rfl, hp1, hp2, hb1, hWat, hbw⟩
  have HZ1 := Lib.hid (HZ.out.below hbw)
  have HT1 := Lib.hid (HT.out.step hbw)
  have HB1 : Hid (Below w.heap.size w w1) := HB0.out.trans (hbw.mono HB0.out.size)
  have HWA := Lib.hid hWat
  have hs1 := hbw.size
  have hs0 := HB0.out.size
  have hB1s := HB1.out.size
  have hsz := HZ.out.lt
  clear hbw hWat HZ HT HC
  go_wp2_with fail
  have hb2 : Below w1.heap.size w1 (w1.alloc (.cells #[.bool false, .bool false, .bool false, .bool false] 129)) := (Below.refl _ _).alloc (Nat.le_refl _) _
  have HO : Hid (B4 (w1.alloc (.cells #[.bool false, .bool false, .bool false, .bool false] 129)) w1.heap.size (offT (ts.take 0))) := B4.new w1 false false false false _ ⟨rfl, rfl, rfl, rfl⟩
  have HB2 := Lib.hid hb2
  have hz2 : w1.heap.size < (w1.alloc (.cells #[.bool false, .bool false, .bool false, .bool false] 129)).heap.size := by simp
  clear hb2
  generalize hW2 : w1.alloc (.cells #[.bool false, .bool false, .bool false, .bool false] 129) = W2 at HO HB2 hz2 ⊢
  clear hW2
  obtain ⟨g, hg⟩ : ∃ g, g = w1.heap.size := ⟨_, rfl⟩
  have HB2' : Hid (Below g w1 W2) := by rw [hg]; exact HB2.out
  have hgz : g < W2.heap.size := by omega
  have hgw : w1.heap.size ≤ g := by omega
  rw [← hg] at HO ⊢
  clear hg hz2 HB2
  go_loopw [23] (fun i wr => ∃ k : Nat, k ≤ ts.length ∧ i = .int .i64 k ∧ AllB k (fun k => inB (ix ts k) 0 3 && (decide (k = 0) || decide (ix ts (k - 1) < ix ts k))) ∧ B4 wr g (offT (ts.take k)) ∧ Below g w1 wr) (fun i _ => ts.length - (intOf i).toNat)
  case atStart => exact ⟨0, by omega, rfl, fun j hj => by omega, HO.out, HB2'.out⟩
  case round =>
    obtain ⟨k, hk, rfl, hAll, hO, hbr⟩ := hrel
    have HALL := Lib.hid hAll
    have HOr := Lib.hid hO
    have HBr := Lib.hid hbr
    have HZr := Lib.hid (HZ1.out.below (hbr.mono hgw))
    have hzr := hbr.size
    clear hAll hO hbr
    by_cases h1 : k < ts.length
    · obtain ⟨bt, ot, rfl, hbt, hct0⟩ := HT1.out.at_ h1
      have hct1 : wr.cell? ⟨bt, ot + k, none⟩ = some (.int .i64 (ix ts k)) := ((HBr.out.mono hgw).cell (p := ⟨bt, ot + k, none⟩) hbt).trans hct0
      clear hct0
      obtain ⟨c0, c1, c2, c3, c4⟩ := HZr.out.cells
      have f0 := c4 0
      have f1 := c4 1
      have f2 := c4 2
      have f3 := c4 3
      obtain ⟨v1, v2, v3, v4⟩ := HZr.out.same
      clear c4
      have hki : (k : Int) < (ts.length : Int) := by omega
      cases t1 : inB (ix ts k) 0 3
      · have HNO := Lib.hid (rise_no h1 (show (inB (ix ts k) 0 3 && _) = false by rw [t1]; rfl))
        go_wp2_with (go_at_call 65; refine (within_c _ _ _ _).mono ?_; rintro e w3 ⟨rfl, rfl⟩)
        exact bodyPost_ret (v := .tuple #[.pointer none, .agg #[.bool false, .bool false, .bool false, .bool false], .int .i64 2]) (by simp [results, Try.results64, go_sem, c0, c1, c2, c3]) rfl (.inl ⟨HNO.out, rfl, HB1.out.trans (HBr.out.mono (by omega))⟩)
      · obtain ⟨ht0, ht3⟩ := (inB_eq _ _ _).1 t1
        have HT1' := Lib.hid t1
        obtain ⟨tn, htn⟩ : ∃ tn : Nat, ix ts k = (tn : Int) := ⟨(ix ts k).toNat, by omega⟩
        have HTN := Lib.hid htn
        rw [htn] at hct1 ht3 ht0 t1
        have htn4 : tn < 4 := by omega
        have htni : (tn : Int) < 4 := by omega
        have hgf := HOr.out.cells.2.2.2.2 tn
        have hgc := HOr.out.cell htn4
        have hgw2 : g < wr.heap.size := HOr.out.lt
        clear htn
        by_cases hk0 : k = 0
        · have HY : Hid ((inB (ix ts k) 0 3 && (decide (k = 0) || decide (ix ts (k - 1) < ix ts k))) = true) := by show _ = _; rw [HT1'.out, hk0]; rfl
          have hk0i : ¬ (0 : Int) < (k : Int) := by omega
          clear hk0
          go_wp2_with (go_at_call 65; refine (within_c _ _ _ _).mono ?_; rintro e w3 ⟨rfl, rfl⟩)
          go_roundw
          case rel =>
            have hst : B4 (wr.setCell ⟨g, tn, none⟩ (.bool true)) g (offT (ts.take (k + 1))) := HOr.out.set (by omega) _ (fun j _ => by
              rw [take_snoc h1, offT_snoc, HTN.out]
              by_cases e : j = tn
              · subst e; simp
              · rw [if_neg e, show ((tn : Int) == (j : Int)) = false by simp; omega, Bool.or_false])
            exact ⟨k + 1, by omega, by go_num, HALL.out.succ HY.out, hst, HBr.out.setCell (by dsimp only; omega) _⟩
          case measure => simp [intOf]; omega
        · have hct2 : wr.cell? ⟨bt, ot + (k - 1), none⟩ = some (.int .i64 (ix ts (k - 1))) := by
            obtain ⟨bt', ot', hA, _, hx⟩ := HT1.out.at_ (k := k - 1) (by omega)
            injection hA with hA
            injection hA with hA1 hA2
            subst hA1 hA2
            exact ((HBr.out.mono hgw).cell (p := ⟨bt, ot + (k - 1), none⟩) hbt).trans hx
          have hk0i : (0 : Int) < (k : Int) := by omega
          have hk1i : (0 : Int) ≤ (k : Int) - 1 := by omega
          have hk2i : (k : Int) - 1 < (ts.length : Int) := by omega
          by_cases hle : (tn : Int) ≤ ix ts (k - 1)
          · have HNO := Lib.hid (rise_no h1 (show (inB (ix ts k) 0 3 && (decide (k = 0) || decide (ix ts (k - 1) < ix ts k))) = false by rw [decide_eq_false hk0, HTN.out, decide_eq_false (show ¬ ix ts (k - 1) < (tn : Int) by omega)]; simp))
            generalize ix ts (k - 1) = tp at hct2 hle
            clear hk0
            go_wp2_with (go_at_call 65; refine (within_c _ _ _ _).mono ?_; rintro e w3 ⟨rfl, rfl⟩)
            exact bodyPost_ret (v := .tuple #[.pointer none, .agg #[.bool false, .bool false, .bool false, .bool false], .int .i64 2]) (by simp [results, Try.results64, go_sem, c0, c1, c2, c3]) rfl (.inl ⟨HNO.out, rfl, HB1.out.trans (HBr.out.mono (by omega))⟩)
          · have HY : Hid ((inB (ix ts k) 0 3 && (decide (k = 0) || decide (ix ts (k - 1) < ix ts k))) = true) := by show _ = _; rw [HT1'.out, decide_eq_false hk0, HTN.out, decide_eq_true (show ix ts (k - 1) < (tn : Int) by omega)]; rfl
            generalize ix ts (k - 1) = tp at hct2 hle
            clear hk0
            go_wp2_with (go_at_call 65; refine (within_c _ _ _ _).mono ?_; rintro e w3 ⟨rfl, rfl⟩)
            go_roundw
            case rel =>
              have hst : B4 (wr.setCell ⟨g, tn, none⟩ (.bool true)) g (offT (ts.take (k + 1))) := HOr.out.set (by omega) _ (fun j _ => by
                rw [take_snoc h1, offT_snoc, HTN.out]
                by_cases e : j = tn
                · subst e; simp
                · rw [if_neg e, show ((tn : Int) == (j : Int)) = false by simp; omega, Bool.or_false])
              exact ⟨k + 1, by omega, by go_num, HALL.out.succ HY.out, hst, HBr.out.setCell (by dsimp only; omega) _⟩
            case measure => simp [intOf]; omega
    · obtain rfl : k = ts.length := by omega
      have HY : Hid (riseB ts = true) := allB_true HALL.out
      have HOe : Hid (B4 wr g (offT ts)) := by have := HOr.out; rwa [List.take_length] at this
      have HKW := Lib.hid (HWA.out.step (HBr.out.mono hgw) hs1)
      obtain ⟨d0, d1, d2, d3, d4⟩ := HOe.out.cells
      obtain ⟨c0, c1, c2, c3, c4⟩ := HZr.out.cells
      have f0 := c4 0
      have f1 := c4 1
      have f2 := c4 2
      have f3 := c4 3
      have hgz1 : g ≠ w.heap.size + 1 := by omega
      have hgz2 : w.heap.size + 1 ≠ g := by omega
      have hgz3 := HZr.out.lt
      clear c4 d4 HOr
      obtain ⟨o, ho⟩ : ∃ o, offT ts = o := ⟨_, rfl⟩
      rw [ho] at HOe d0 d1 d2 d3
      have HOQ := Lib.hid ho
      clear ho
      go_wp2_with fail
      go_region_held3 (fun w' => w'.cell? ⟨g, 0, none⟩ = some (.bool (o 0)) ∧ w'.cell? ⟨g, 1, none⟩ = some (.bool (o 1)) ∧ w'.cell? ⟨g, 2, none⟩ = some (.bool (o 2)) ∧ w'.cell? ⟨g, 3, none⟩ = some (.bool (o 3))) (go_keep) (first | fail)
      go_wp2_with fail
      have hb : Below w.heap.size w wr := HB1.out.trans (HBr.out.mono (by omega))
      have hgr := sets_grown wr (w.heap.size + 1) (.bool (o 0)) (.bool (o 1)) (.bool (o 2)) (.bool (o 3))
      have hbf := hb.grown hgr hb.size (fun j e => by injection e with e; subst e; omega)
      have hst := HZr.out.all o
      have hk1 := HKW.out
      have hpz := World.block_lt_of_cell? wr _ hk1.cn
      dsimp only at hpz
      have hk2 : Wat w.heap.size wr p b 0 frn A c ws := ⟨hk1.cn, hk1.cl, hk1.cm, HWD.out.below hb, hk1.kn⟩
      have hk3 := hk2.grown hgr (by omega) (by omega) (by omega)
      obtain ⟨e0, e1, e2, e3, -⟩ := hst.cells
      have hsf := hgr.size
      exact bodyPost_ret (v := .tuple #[.pointer (some ⟨p, 0, none⟩), .agg #[.bool (o 0), .bool (o 1), .bool (o 2), .bool (o 3)], .int .i64 0]) (by simp [results, Try.results64, go_sem, e0, e1, e2, e3]) rfl (.inr ⟨HY.out, by rw [HOQ.out]; exact ⟨p, b, rfl, by omega, Nat.lt_of_lt_of_le hpz hsf, by omega, hk3.step (below_drew_r _) hbf.size, hbf.drew⟩⟩)
section
variable (A At : Option Addr) (ws : List Wd) (ts : List Int) (c ct : Nat) (frn : Int) (w : World) (hw : Wds w.heap.size w A ws) (ht : Ints w.heap.size w At ts) (hc : ws.length ≤ c ∧ c ≤ 9223372036854775807) (hct : ts.length ≤ ct ∧ ct ≤ 9223372036854775807)
include hw ht hc hct
theorem asked_ok (h : askErr frn ws ts = 0) : Calls Try.prog 64 #[.agg #[.int .i64 frn, .slice A ws.length c], .slice At ts.length ct] w (APost w frn A c ws (offT ts)) := by
  unfold askErr at h
  by_cases hl : laneErr frn ws = 0
  · rw [if_pos hl] at h
    refine (asked_core A At ws ts c ct frn w hw ht hc hct hl).mono fun e w' h' => ?_
    rcases h' with ⟨h1, _⟩ | ⟨_, h2⟩
    · rw [h1] at h; cases h
    · exact h2
  · rw [if_neg hl] at h
    exact absurd h hl
end
theorem askOk {frn : Int} {ws : List Wd} {ts : List Int} (h : askErr frn ws ts = 0) : laneErr frn ws = 0 ∧ riseB ts = true := by
  unfold askErr at h
  by_cases hl : laneErr frn ws = 0
  · rw [if_pos hl] at h
    refine ⟨hl, ?_⟩
    cases hr : riseB ts
    · rw [hr] at h; cases h
    · rfl
  · rw [if_neg hl] at h
    exact absurd h hl
end

section
open Go.RowKit
noncomputable def exErr (frn : Int) (ws : List Wd) (ts : List Int) : Int := if askErr frn ws ts = 0 then (if explB frn ws (offT ts) then 0 else 9) else askErr frn ws ts
end

section
open Go.RowKit
def EdBad (w : World) (er : Int) (e : Ending) (w' : World) : Prop :=
  ∃ P a b c d, e = .returned (.tuple #[.pointer P, .agg #[.bool a, .bool b, .bool c, .bool d], .int .i64 er]) ∧ Below w.heap.size w w'
def EdOk (w : World) (frn : Int) (A : Option Addr) (c : Nat) (ws : List Wd) (o : Nat → Bool) (e : Ending) (w' : World) : Prop :=
  ∃ p b, e = .returned (.tuple #[.pointer (some ⟨p, 0, none⟩), .agg #[.bool (o 0), .bool (o 1), .bool (o 2), .bool (o 3)], .int .i64 0]) ∧ w.heap.size ≤ p ∧ p < w'.heap.size ∧ w.heap.size ≤ b ∧ Wat w.heap.size w' p b 1 frn A c ws ∧ Below w.heap.size w w'
set_option maxRecDepth 100000 in
set_option maxHeartbeats 8000000 in
theorem explained_core (A At : Option Addr) (ws : List Wd) (ts : List Int) (c ct : Nat) (frn : Int) (w : World) (hw : Wds w.heap.size w A ws) (ht : Ints w.heap.size w At ts) (hc : ws.length ≤ c ∧ c ≤ 9223372036854775807) (hct : ts.length ≤ ct ∧ ct ≤ 9223372036854775807) (h : askErr frn ws ts = 0) : Calls Try.prog 44 #[.agg #[.int .i64 frn, .slice A ws.length c], .slice At ts.length ct] w fun e w' => (explB frn ws (offT ts) = false ∧ EdBad w 9 e w') ∨ (explB frn ws (offT ts) = true ∧ EdOk w frn A c ws (offT ts) e w') := by
  have hb0 : Below w.heap.size w ((w.alloc (.cells #[.int .i64 frn, .slice A ws.length c] 40)).alloc (.cells #[.bool false, .bool false, .bool false, .bool false] 129)) := ((Below.refl _ _).alloc (Nat.le_refl _) _).alloc (by simp) _
  have k0 : ((w.alloc (.cells #[.int .i64 frn, .slice A ws.length c] 40)).alloc (.cells #[.bool false, .bool false, .bool false, .bool false] 129)).cell? ⟨w.heap.size, 0, none⟩ = some (.int .i64 frn) := by go_simp
  have k1 : ((w.alloc (.cells #[.int .i64 frn, .slice A ws.length c] 40)).alloc (.cells #[.bool false, .bool false, .bool false, .bool false] 129)).cell? ⟨w.heap.size, 1, none⟩ = some (.slice A ws.length c) := by go_simp
  have hZ : B4 ((w.alloc (.cells #[.int .i64 frn, .slice A ws.length c] 40)).alloc (.cells #[.bool false, .bool false, .bool false, .bool false] 129)) (w.heap.size + 1) (fun _ => false) := by
    have := B4.new (w.alloc (.cells #[.int .i64 frn, .slice A ws.length c] 40)) false false false false (fun _ => false) ⟨rfl, rfl, rfl, rfl⟩
    rwa [World.size_alloc] at this
  have HB0 := Lib.hid hb0
  have HZ := Lib.hid hZ
  have HC := Lib.hid (asked_ok A At ws ts c ct frn _ (hw.step hb0) (ht.step hb0) hc hct h)
  obtain ⟨hl, -⟩ := askOk h
  obtain ⟨h30, hf1, hf5, hok⟩ := laneOk hl
  have HOK := Lib.hid hok
  have HWD := Lib.hid hw
  obtain ⟨m, rfl⟩ : ∃ m : Nat, frn = (m : Int) := ⟨frn.toNat, by omega⟩
  have hm5 : m ≤ 5 := by omega
  clear h hl hok hb0 hZ
  generalize offT ts = o at HC ⊢
  go_enter Try.func44, Try.ntmps44
  go_wp2_with fail
  generalize ((w.alloc (.cells #[.int .i64 (m : Int), .slice A ws.length c] 40)).alloc (.cells #[.bool false, .bool false, .bool false, .bool false] 129)) = W0 at k0 k1 HC HB0 HZ ⊢
  refine HC.out.mono ?_
  rintro e w1 ⟨p, b, rfl, hp1, hp2, hb1, hWat, hbw⟩
  have hb2 : Below w1.heap.size w1 (w1.alloc (.cells #[.bool (o 0), .bool (o 1), .bool (o 2), .bool (o 3)] 129)) := (Below.refl _ _).alloc (Nat.le_refl _) _
  have HO : Hid (B4 (w1.alloc (.cells #[.bool (o 0), .bool (o 1), .bool (o 2), .bool (o 3)] 129)) w1.heap.size o) := B4.new w1 _ _ _ _ _ ⟨rfl, rfl, rfl, rfl⟩
  have HWA := Lib.hid (hWat.step hb2 hbw.size)
  have HZ2 := Lib.hid ((HZ.out.below hbw).below hb2)
  have HB2 : Hid (Below W0.heap.size W0 (w1.alloc (.cells #[.bool (o 0), .bool (o 1), .bool (o 2), .bool (o 3)] 129))) := hbw.alloc hbw.size _
  have hs0 := HB0.out.size
  have hs1 := hbw.size
  have hzl := HZ.out.lt
  clear hWat hbw hb2
  go_wp2_with fail
  generalize w1.alloc (.cells #[.bool (o 0), .bool (o 1), .bool (o 2), .bool (o 3)] 129) = w2 at HO HWA HZ2 HB2 ⊢
  obtain ⟨g8, hg8⟩ : ∃ g, g = w1.heap.size := ⟨_, rfl⟩
  rw [← hg8] at HO ⊢
  have hg8' : W0.heap.size ≤ g8 := by omega
  have hpg : p < g8 := by omega
  clear hg8
  obtain ⟨d0, d1, d2, d3, -⟩ := HO.out.cells
  refine (explain_c p b 0 c m o A ws w2 HB2.out.size (World.block_lt_of_cell? w2 _ HWA.out.cn) hb1 HWA.out (by omega) HOK.out hm5 (by omega)).mono ?_
  rintro e w3 ⟨rfl, hW3, hg⟩
  have HG := Lib.hid hg
  have HW3 := Lib.hid hW3
  have hbl := HWA.out.kn.lt
  have hbg : b ≠ g8 := fun e => by
    obtain ⟨D, ⟨es, cl, hx, _⟩, _⟩ := HWA.out.kn
    have := HO.out
    rw [← e] at this
    unfold B4 at this
    rw [this] at hx
    cases hx
  have HO3 : Hid (B4 w3 g8 o) := (hg.block g8 HO.out.lt (fun e => by injection e with e; exact hbg e.symm)).trans HO.out
  have HZ3 : Hid (B4 w3 (w.heap.size + 1) (fun _ => false)) := (hg.block _ HZ2.out.lt (fun e => by injection e with e; omega)).trans HZ2.out
  have HBF : Hid (Below w.heap.size w w3) := (HB0.out.trans (HB2.out.mono hs0)).grown hg (Nat.le_trans hs0 HB2.out.size) (fun j e => by injection e with e; subst e; omega)
  obtain ⟨d0, d1, d2, d3, -⟩ := HO3.out.cells
  obtain ⟨c0, c1, c2, c3, c4⟩ := HZ3.out.cells
  have f0 := c4 0
  have f1 := c4 1
  have f2 := c4 2
  have f3 := c4 3
  have hne1 : g8 ≠ w.heap.size + 1 := by omega
  have hne2 : w.heap.size + 1 ≠ g8 := by omega
  have hzl3 := HZ3.out.lt
  clear c4 hW3 hg
  cases hex : explB (m : Int) ws o
  all_goals
    have HEX := Lib.hid hex
    clear hex
    go_wp2_with fail
    go_region_held3 (fun w' => w'.cell? ⟨g8, 0, none⟩ = some (.bool (o 0)) ∧ w'.cell? ⟨g8, 1, none⟩ = some (.bool (o 1)) ∧ w'.cell? ⟨g8, 2, none⟩ = some (.bool (o 2)) ∧ w'.cell? ⟨g8, 3, none⟩ = some (.bool (o 3))) (go_keep) (first | fail)
    go_wp2_with fail
    have hgr := sets_grown w3 (w.heap.size + 1) (.bool (o 0)) (.bool (o 1)) (.bool (o 2)) (.bool (o 3))
    have hbf := HBF.out.grown hgr HBF.out.size (fun j e => by injection e with e; subst e; omega)
    obtain ⟨e0, e1, e2, e3, -⟩ := (HZ3.out.all o).cells
  · exact bodyPost_ret (v := .tuple #[.pointer (some ⟨p, 0, none⟩), .agg #[.bool (o 0), .bool (o 1), .bool (o 2), .bool (o 3)], .int .i64 9]) (by simp [results, Try.results44, go_sem, e0, e1, e2, e3]) rfl (.inl ⟨HEX.out, _, _, _, _, _, rfl, hbf.drew⟩)
  · have hk1 := HW3.out
    have hpz := World.block_lt_of_cell? w3 _ hk1.cn
    dsimp only at hpz
    have hk2 : Wat w.heap.size w3 p b 1 (m : Int) A c ws := ⟨hk1.cn, hk1.cl, hk1.cm, HWD.out.below HBF.out, hk1.kn⟩
    have hk3 := hk2.grown hgr (by omega) (by omega) (by omega)
    exact bodyPost_ret (v := .tuple #[.pointer (some ⟨p, 0, none⟩), .agg #[.bool (o 0), .bool (o 1), .bool (o 2), .bool (o 3)], .int .i64 0]) (by simp [results, Try.results44, go_sem, e0, e1, e2, e3]) rfl (.inr ⟨HEX.out, p, b, rfl, by omega, Nat.lt_of_lt_of_le hpz hgr.size, by omega, hk3.step (below_drew_r _) hbf.size, hbf.drew⟩)
section
variable (A At : Option Addr) (ws : List Wd) (ts : List Int) (c ct : Nat) (frn : Int) (w : World) (hw : Wds w.heap.size w A ws) (ht : Ints w.heap.size w At ts) (hc : ws.length ≤ c ∧ c ≤ 9223372036854775807) (hct : ts.length ≤ ct ∧ ct ≤ 9223372036854775807)
include hw ht hc hct
theorem explained_ok (h : exErr frn ws ts = 0) : Calls Try.prog 44 #[.agg #[.int .i64 frn, .slice A ws.length c], .slice At ts.length ct] w (EdOk w frn A c ws (offT ts)) := by
  unfold exErr at h
  by_cases hl : askErr frn ws ts = 0
  · rw [if_pos hl] at h
    refine (explained_core A At ws ts c ct frn w hw ht hc hct hl).mono fun e w' h' => ?_
    rcases h' with ⟨h1, _⟩ | ⟨_, h2⟩
    · rw [h1] at h; cases h
    · exact h2
  · rw [if_neg hl] at h
    exact absurd h hl
end
theorem exOk {frn : Int} {ws : List Wd} {ts : List Int} (h : exErr frn ws ts = 0) : askErr frn ws ts = 0 ∧ explB frn ws (offT ts) = true := by
  unfold exErr at h
  by_cases hl : askErr frn ws ts = 0
  · rw [if_pos hl] at h
    refine ⟨hl, ?_⟩
    cases hr : explB frn ws (offT ts)
    · rw [hr] at h; cases h
    · rfl
  · rw [if_neg hl] at h
    exact absurd h hl
end

section
open Go.RowKit
/-- The array of tellers with one more of them. -/
def setO (o : Nat → Bool) (k : Nat) : Nat → Bool := fun j => if j = k then true else o j
/-- What was there is there as it was, but for the blocks of S. -/
structure Chg (w w' : World) (S : Nat → Prop) : Prop where
  os : w'.os = w.os
  tape : w'.tape = w.tape
  output : w'.output = w.output
  size : w.heap.size ≤ w'.heap.size
  block : ∀ i, i < w.heap.size → ¬ S i → w'.heap[i]? = w.heap[i]?
theorem Chg.refl (w : World) (S : Nat → Prop) : Chg w w S := ⟨rfl, rfl, rfl, Nat.le_refl _, fun _ _ _ => rfl⟩
theorem Chg.ofBelow {w w' : World} (h : Below w.heap.size w w') (S : Nat → Prop) : Chg w w' S := ⟨h.os, h.tape, h.output, h.size, fun i hi _ => h.block i hi⟩
theorem Chg.ofGrown {w w' : World} {row : Option Nat} (h : w.grownBy w' row) {S : Nat → Prop} (hS : ∀ i, some i = row → S i) : Chg w w' S :=
  ⟨h.os, h.tape, h.output, h.size, fun i hi hn => h.block i hi (fun e => hn (hS i e))⟩
theorem Chg.trans {w w' w'' : World} {S T : Nat → Prop} (h : Chg w w' S) (h' : Chg w' w'' T) (hT : ∀ i, i < w.heap.size → T i → S i) : Chg w w'' S :=
  ⟨h'.os.trans h.os, h'.tape.trans h.tape, h'.output.trans h.output, Nat.le_trans h.size h'.size, fun i hi hn => (h'.block i (Nat.lt_of_lt_of_le hi h.size) (fun e => hn (hT i hi e))).trans (h.block i hi hn)⟩
theorem Chg.cell {w w' : World} {S : Nat → Prop} (h : Chg w w' S) {p : Addr} {v : Value} (hc : w.cell? p = some v) (hn : ¬ S p.block) : w'.cell? p = some v := by
  have e := h.block p.block (World.block_lt_of_cell? w p hc) hn
  unfold World.cell? at hc ⊢
  rw [e]
  exact hc
theorem Chg.grown {w w' : World} {S : Nat → Prop} {b : Nat} (h : Chg w w' S) (hS : ∀ i, i < w.heap.size → S i → i = b) : w.grownBy w' (some b) :=
  ⟨h.os, h.tape, h.output, h.size, fun i hi hn => h.block i hi (fun e => hn (by rw [hS i hi e]))⟩
theorem Chg.below {w w' : World} {S : Nat → Prop} {B : Nat} (h : Chg w w' S) (hB : B ≤ w.heap.size) (hS : ∀ i, i < w.heap.size → S i → B ≤ i) : Below B w w' :=
  ⟨h.os, h.tape, h.output, h.size, fun i hi => h.block i (by omega) (fun e => by have := hS i (by omega) e; omega)⟩
end

section
open Go.RowKit
theorem upTo_mem {f s : Nat} (h : f ≤ 10) (h2 : s ≤ f) : (f, s) ∈ upTo 11 0 := by
  simp [upTo, List.mem_flatMap]
  omega
end

section
open Go.RowKit
/-- Block g holds one range. -/
def P2 (w : World) (g : Nat) (a b : Int) : Prop := w.heap[g]? = some (.cells #[.int .i64 a, .int .i64 b] 34 (0, 0))
section
variable {w w' : World} {g : Nat} {a b : Int}
theorem P2.lt (h : P2 w g a b) : g < w.heap.size := (Array.getElem?_eq_some_iff.1 h).1
theorem P2.cells (h : P2 w g a b) : w.cell? ⟨g, 0, none⟩ = some (.int .i64 a) ∧ w.cell? ⟨g, 1, none⟩ = some (.int .i64 b) ∧ ∀ o, w.frozen? ⟨g, o, none⟩ = false := by
  unfold P2 at h
  simp [World.cell?, World.frozen?, h]
theorem P2.below (h : P2 w g a b) (hb : Below w.heap.size w w') : P2 w' g a b := (hb.block g h.lt).trans h
theorem P2.set (h : P2 w g a b) (x y : Int) : P2 ((w.setCell ⟨g, 0, none⟩ (.int .i64 x)).setCell ⟨g, 1, none⟩ (.int .i64 y)) g x y := by
  unfold P2 at h ⊢
  simp [World.setCell, Array.getElem?_modify, h]
theorem P2.same (h : P2 w g a b) : w.setCell ⟨g, 0, none⟩ (.int .i64 a) = w ∧ w.setCell ⟨g, 1, none⟩ (.int .i64 b) = w := ⟨set_same h rfl, set_same h rfl⟩
theorem P2.far (h : P2 w g a b) {ad : Addr} (hp : g ≠ ad.block) (u : Value) : P2 (w.setCell ad u) g a b := (Below.heap_setCell w ad u g hp).trans h
end
/-- A list of ranges. -/
def px (rs : List (Int × Int)) (k : Nat) : Int × Int := rs.getD k (0, 0)
def Rgs (B : Nat) (w : World) (A : Option Addr) (rs : List (Int × Int)) : Prop :=
  0 < rs.length → ∃ b off, A = some ⟨b, off, none⟩ ∧ b < B ∧ ∀ k, k < rs.length → w.cell? ⟨b, off + k * 2, none⟩ = some (.int .i64 (px rs k).1) ∧ w.cell? ⟨b, off + k * 2 + 1, none⟩ = some (.int .i64 (px rs k).2)
theorem Rgs.step {w w' : World} {A : Option Addr} {rs : List (Int × Int)} (h : Rgs w.heap.size w A rs) (hb : Below w.heap.size w w') : Rgs w'.heap.size w' A rs := fun hp => by
  obtain ⟨b, off, hA, hlt, hc⟩ := h hp
  have := hb.size
  exact ⟨b, off, hA, by omega, fun k hk => ⟨(hb.cell (p := ⟨b, off + k * 2, none⟩) hlt).trans (hc k hk).1, (hb.cell (p := ⟨b, off + k * 2 + 1, none⟩) hlt).trans (hc k hk).2⟩⟩
def flatR (rs : List (Int × Int)) : List Value := rs.flatMap fun p => [.int .i64 p.1, .int .i64 p.2]
theorem flatR_at : ∀ (rs : List (Int × Int)) (k : Nat), k < rs.length → (flatR rs)[k * 2]? = some (.int .i64 (px rs k).1) ∧ (flatR rs)[k * 2 + 1]? = some (.int .i64 (px rs k).2)
  | x :: xs, 0, _ => by simp [flatR, px]
  | x :: xs, k + 1, h => by
    have := flatR_at xs k (by simpa using h)
    simp only [flatR, List.flatMap_cons, px, List.getD_cons_succ] at *
    rw [show (k + 1) * 2 = k * 2 + 2 by omega]
    simpa using this
theorem flatR_append (rs ss : List (Int × Int)) : flatR (rs ++ ss) = flatR rs ++ flatR ss := by simp [flatR]
def OwnR (base : Nat) (w : World) (u : Value) (rs : List (Int × Int)) : Prop := w.ownsRow base 34 2 u rs.length (flatR rs)
theorem OwnR.form {base : Nat} {w : World} {u : Value} {rs : List (Int × Int)} (h : OwnR base w u rs) : ∃ A c, u = .slice A rs.length c := ownsRow_form h
theorem OwnR.rgs {base : Nat} {w : World} {A : Option Addr} {n c : Nat} {rs : List (Int × Int)} (h : OwnR base w (.slice A n c) rs) : rs.length ≤ c ∧ c ≤ 9223372036854775807 ∧ Rgs w.heap.size w A rs := by
  rcases h.2 with ⟨e, h0⟩ | ⟨g, cap, cur, e, hb, hg, hn, hm, hs, ht⟩
  · injection e with e1 e2 e3
    subst e1 e3
    exact ⟨by omega, by omega, fun hp => by omega⟩
  · injection e with e1 e2 e3
    subst e1 e3
    refine ⟨hn, by unfold maxLen at hm; omega, fun hp => ⟨g, 0, rfl, (Array.getElem?_eq_some_iff.1 hg).1, fun k hk => ?_⟩⟩
    obtain ⟨a1, a2⟩ := flatR_at rs k hk
    have b1 := h.cells (g := g) rfl _ _ a1
    have b2 := h.cells (g := g) rfl _ _ a2
    rw [add_eq] at b1 b2
    exact ⟨b1, by rw [Nat.add_assoc]; exact b2⟩
theorem infoRg : (Try.prog.info? 34).map (fun i => (i.zero, i.size, i.bytes)) = some (some (.agg #[.int .i64 0, .int .i64 0]), 2, 16) := by kernel_rfl
theorem one_flat (rs : List (Int × Int)) : ∀ v ∈ flatR rs, v.oneCell' = true := by
  intro v hv
  simp only [flatR, List.mem_flatMap] at hv
  obtain ⟨p, _, hv⟩ := hv
  simp at hv
  rcases hv with rfl | rfl <;> rfl
theorem lo_bd {xs : List Int} (h : ∀ x ∈ xs, 0 ≤ x ∧ x ≤ 10) : 0 ≤ loS xs ∧ loS xs ≤ 10 := by
  have key : ∀ (xs : List Int) (a : Int), (∀ x ∈ xs, 0 ≤ x ∧ x ≤ 10) → 0 ≤ a ∧ a ≤ 10 → 0 ≤ xs.foldl min a ∧ xs.foldl min a ≤ 10 := by
    intro xs
    induction xs with
    | nil => exact fun a _ h => h
    | cons x xs ih => exact fun a hx ha => ih _ (fun y hy => hx y (List.mem_cons_of_mem _ hy)) (by have := hx x (List.mem_cons_self ..); omega)
  cases xs with
  | nil => simp [loS]
  | cons x xs => exact key xs x (fun y hy => h y (List.mem_cons_of_mem _ hy)) (h x (List.mem_cons_self ..))
theorem hi_bd {xs : List Int} (h : ∀ x ∈ xs, 0 ≤ x ∧ x ≤ 10) : 0 ≤ hiS xs ∧ hiS xs ≤ 10 := by
  have key : ∀ (xs : List Int) (a : Int), (∀ x ∈ xs, 0 ≤ x ∧ x ≤ 10) → 0 ≤ a ∧ a ≤ 10 → 0 ≤ xs.foldl max a ∧ xs.foldl max a ≤ 10 := by
    intro xs
    induction xs with
    | nil => exact fun a _ h => h
    | cons x xs ih => exact fun a hx ha => ih _ (fun y hy => hx y (List.mem_cons_of_mem _ hy)) (by have := hx x (List.mem_cons_self ..); omega)
  cases xs with
  | nil => simp [hiS]
  | cons x xs => exact key xs x (fun y hy => h y (List.mem_cons_of_mem _ hy)) (h x (List.mem_cons_self ..))
theorem snds_bd (ws : List Wd) (f : Int) (o : Nat → Bool) : ∀ x ∈ snds (gamesL ws f o), 0 ≤ x ∧ x ≤ 10 := by
  intro x hx
  simp only [snds, List.mem_map] at hx
  obtain ⟨p, hp, rfl⟩ := hx
  have := gamesL_bd hp
  omega
noncomputable def rangesL (ws : List Wd) (o : Nat → Bool) : Nat → List (Int × Int)
  | 0 => []
  | k + 1 => rangesL ws o k ++ [(loS (fsts (gamesL ws (k : Int) o)), hiS (fsts (gamesL ws (k : Int) o))), (loS (snds (gamesL ws (k : Int) o)), hiS (snds (gamesL ws (k : Int) o)))]
noncomputable def cntLo (ws : List Wd) (o : Nat → Bool) : Nat → Int
  | 0 => 0
  | k + 1 => cntLo ws o k + 10 - hiS (snds (gamesL ws (k : Int) o))
noncomputable def cntHi (ws : List Wd) (o : Nat → Bool) : Nat → Int
  | 0 => 0
  | k + 1 => cntHi ws o k + 10 - loS (snds (gamesL ws (k : Int) o))
theorem rangesL_len (ws : List Wd) (o : Nat → Bool) : ∀ k, (rangesL ws o k).length = 2 * k
  | 0 => rfl
  | k + 1 => by rw [rangesL, List.length_append, rangesL_len ws o k]; simp; omega
theorem cnt_bd (ws : List Wd) (o : Nat → Bool) : ∀ k : Nat, (0 ≤ cntLo ws o k ∧ cntLo ws o k ≤ 10 * (k : Int)) ∧ (0 ≤ cntHi ws o k ∧ cntHi ws o k ≤ 10 * (k : Int))
  | 0 => by simp [cntLo, cntHi]
  | k + 1 => by
    have h := cnt_bd ws o k
    have h1 := lo_bd (snds_bd ws (k : Int) o)
    have h2 := hi_bd (snds_bd ws (k : Int) o)
    simp only [cntLo, cntHi]
    omega
theorem sets2 (w : World) (g : Nat) (a b : Value) : w.grownBy ((w.setCell ⟨g, 0, none⟩ a).setCell ⟨g, 1, none⟩ b) (some g) := only_setCell (only_setCell (World.grownBy.refl w (some g)) (.inl rfl) _) (.inl rfl) _
def RgPost (w : World) (rs : List (Int × Int)) (lo hi : Int) (e : Ending) (w' : World) : Prop :=
  ∃ A c, e = .returned (.tuple #[.slice A rs.length c, .agg #[.int .i64 lo, .int .i64 hi], .int .i64 0]) ∧ (rs.length ≤ c ∧ c ≤ 9223372036854775807) ∧ Rgs w'.heap.size w' A rs ∧ Below w.heap.size w w'
set_option maxRecDepth 100000 in
set_option maxHeartbeats 8000000 in
theorem ranges_ok (A At : Option Addr) (ws : List Wd) (ts : List Int) (c ct : Nat) (frn : Int) (w : World) (hw : Wds w.heap.size w A ws) (ht : Ints w.heap.size w At ts) (hc : ws.length ≤ c ∧ c ≤ 9223372036854775807) (hct : ts.length ≤ ct ∧ ct ≤ 9223372036854775807) (h : exErr frn ws ts = 0) : Calls Try.prog 11 #[.agg #[.int .i64 frn, .slice A ws.length c], .slice At ts.length ct] w (RgPost w (rangesL ws (offT ts) frn.toNat) (cntLo ws (offT ts) frn.toNat) (cntHi ws (offT ts) frn.toNat)) := by
  have hb0 : Below w.heap.size w ((w.alloc (.cells #[.int .i64 frn, .slice A ws.length c] 40)).alloc (.cells #[.int .i64 0, .int .i64 0] 34)) := ((Below.refl _ _).alloc (Nat.le_refl _) _).alloc (by simp) _
  have k0 : ((w.alloc (.cells #[.int .i64 frn, .slice A ws.length c] 40)).alloc (.cells #[.int .i64 0, .int .i64 0] 34)).cell? ⟨w.heap.size, 0, none⟩ = some (.int .i64 frn) := by go_simp
  have k1 : ((w.alloc (.cells #[.int .i64 frn, .slice A ws.length c] 40)).alloc (.cells #[.int .i64 0, .int .i64 0] 34)).cell? ⟨w.heap.size, 1, none⟩ = some (.slice A ws.length c) := by go_simp
  have hP : P2 ((w.alloc (.cells #[.int .i64 frn, .slice A ws.length c] 40)).alloc (.cells #[.int .i64 0, .int .i64 0] 34)) (w.heap.size + 1) 0 0 := by
    have := World.alloc_heap_new (w.alloc (.cells #[.int .i64 frn, .slice A ws.length c] 40)) (.cells #[.int .i64 0, .int .i64 0] 34)
    rwa [World.size_alloc] at this
  have HP := Lib.hid hP
  have HC := Lib.hid (explained_ok A At ws ts c ct frn _ (hw.step hb0) (ht.step hb0) hc hct h)
  have HB0 := Lib.hid hb0
  obtain ⟨hl, -⟩ := askOk (exOk h).1
  obtain ⟨h30, hf1, hf5, hok⟩ := laneOk hl
  have HOK := Lib.hid hok
  have HWD := Lib.hid hw
  obtain ⟨m, rfl⟩ : ∃ m : Nat, frn = (m : Int) := ⟨frn.toNat, by omega⟩
  have hm5 : m ≤ 5 := by omega
  rw [Int.toNat_natCast]
  clear h hl hok hb0 hP
  generalize offT ts = o at HC ⊢
  go_enter Try.func11, Try.ntmps11
  go_wp2_with fail
  generalize ((w.alloc (.cells #[.int .i64 (m : Int), .slice A ws.length c] 40)).alloc (.cells #[.int .i64 0, .int .i64 0] 34)) = W0 at k0 k1 HC HB0 HP ⊢
  refine HC.out.mono ?_
  rintro e w1 ⟨p, b, rfl, hp1, hp2, hb1, hWat, hbw⟩
  have hb2 : Below w1.heap.size w1 (w1.alloc (.cells #[.bool (o 0), .bool (o 1), .bool (o 2), .bool (o 3)] 129)) := (Below.refl _ _).alloc (Nat.le_refl _) _
  have HO : Hid (B4 (w1.alloc (.cells #[.bool (o 0), .bool (o 1), .bool (o 2), .bool (o 3)] 129)) w1.heap.size o) := B4.new w1 _ _ _ _ _ ⟨rfl, rfl, rfl, rfl⟩
  have HWA := Lib.hid (hWat.step hb2 hbw.size)
  have HP1 := Lib.hid ((HP.out.below hbw).below hb2)
  have HB2 : Hid (Below w.heap.size w (w1.alloc (.cells #[.bool (o 0), .bool (o 1), .bool (o 2), .bool (o 3)] 129))) := (HB0.out.trans (hbw.mono HB0.out.size)).alloc (Nat.le_trans HB0.out.size hbw.size) _
  have k2 := HWA.out.cn
  have hpl := HP.out.lt
  have hs0 := HB0.out.size
  have hs1 := hbw.size
  clear hWat hbw hb2
  go_wp2_with fail
  generalize hw2 : w1.alloc (.cells #[.bool (o 0), .bool (o 1), .bool (o 2), .bool (o 3)] 129) = w2 at HO HWA HP1 HB2 k2 ⊢
  have hp3 : p < w2.heap.size := World.block_lt_of_cell? w2 _ k2
  obtain ⟨g8, hg8⟩ : ∃ g, g = w1.heap.size := ⟨_, rfl⟩
  rw [← hg8] at HO ⊢
  have hg8' : w.heap.size + 1 < g8 := by omega
  have hs2 : W0.heap.size ≤ w2.heap.size := by have := HO.out.lt; omega
  clear hw2 hg8
  obtain ⟨i0, hi, hz0, hz1, hz2⟩ := info_parts infoRg
  have hpp : w.heap.size + 1 < p := by omega
  have hbp : w.heap.size + 1 < b := by omega
  go_loopw [28, 4] (fun i v wr => ∃ k : Nat, k ≤ m ∧ i = .int .i64 k ∧ OwnR w2.heap.size wr v (rangesL ws o k) ∧ P2 wr (w.heap.size + 1) (cntLo ws o k) (cntHi ws o k) ∧ w2.grownBy wr (some (w.heap.size + 1))) (fun i _ _ => m - (intOf i).toNat)
  case atStart => exact ⟨0, by omega, rfl, World.ownsRow_nil _ _ _ _, HP1.out, World.grownBy.refl _ _⟩
  case round =>
    obtain ⟨k, hk, rfl, hO, hPk, hgr⟩ := hrel
    have HOR := Lib.hid hO
    have HPk := Lib.hid hPk
    have HGr := Lib.hid hgr
    have hzr := hgr.size
    have hB4 : B4 wr g8 o := (hgr.block g8 HO.out.lt (fun e => by injection e with e; omega)).trans HO.out
    have hW2 : Wat w.heap.size w2 p b 1 (m : Int) A c ws := ⟨HWA.out.cn, HWA.out.cl, HWA.out.cm, HWD.out.below HB2.out, HWA.out.kn⟩
    have hWr := hW2.grown hgr (by omega) (by omega) (by omega)
    have hcb := cnt_bd ws o k
    have hrl : (rangesL ws o k).length ≤ 10 := by rw [rangesL_len]; omega
    have hgl := HPk.out.lt
    have HCN : Hid (cntLo ws o (k + 1) = cntLo ws o k + 10 - hiS (snds (gamesL ws (k : Int) o)) ∧ cntHi ws o (k + 1) = cntHi ws o k + 10 - loS (snds (gamesL ws (k : Int) o))) := ⟨rfl, rfl⟩
    have HRN : Hid (rangesL ws o (k + 1) = rangesL ws o k ++ [(loS (fsts (gamesL ws (k : Int) o)), hiS (fsts (gamesL ws (k : Int) o))), (loS (snds (gamesL ws (k : Int) o)), hiS (snds (gamesL ws (k : Int) o)))]) := rfl
    clear hO hPk hgr hW2
    by_cases h1 : k < m
    · obtain ⟨d0, d1, d2, d3, -⟩ := hB4.cells
      have hki : (k : Int) < (m : Int) := by omega
      have HF := Lib.hid (frame_c (B := wr.heap.size) p c (k : Int) (m : Int) o A ws wr (Nat.le_refl _) (by omega) hWr.cn hWr.cl (hWr.wd.more (by omega)) (by omega) HOK.out)
      have hb2 := lo_bd (snds_bd ws (k : Int) o)
      have hb3 := hi_bd (snds_bd ws (k : Int) o)
      clear hB4 hWr
      generalize loS (fsts (gamesL ws (k : Int) o)) = a1 at *
      generalize hiS (fsts (gamesL ws (k : Int) o)) = a2 at *
      generalize loS (snds (gamesL ws (k : Int) o)) = a3 at *
      generalize hiS (snds (gamesL ws (k : Int) o)) = a4 at *
      generalize ((gamesL ws (k : Int) o).length : Int) = a5 at *
      generalize rangesL ws o k = rs at *
      generalize cntLo ws o k = cl at *
      generalize cntHi ws o k = ch at *
      obtain ⟨Av, cv, rfl⟩ := OwnR.form HOR.out
      go_wp2_with fail
      refine HF.out.mono ?_
      rintro e w3 ⟨rfl, hb4⟩
      have hb5 : Below wr.heap.size wr (w3.alloc (.cells #[.int .i64 a1, .int .i64 a2, .int .i64 a3, .int .i64 a4] 135)) := hb4.alloc hb4.size _
      have hO4 : Hid ((w3.alloc (.cells #[.int .i64 a1, .int .i64 a2, .int .i64 a3, .int .i64 a4] 135)).ownsRow w2.heap.size 34 2 (.slice Av rs.length cv) rs.length (flatR rs)) := World.ownsRow.kept HOR.out (only_below hb5 none) (by cases (Value.slice Av rs.length cv).ownBlock <;> simp)
      have hSrc : Hid (Src (w3.alloc (.cells #[.int .i64 a1, .int .i64 a2, .int .i64 a3, .int .i64 a4] 135)) 2 (some ⟨w3.heap.size, 0, none⟩) 2 (flatR [(a1, a2), (a3, a4)])) := by
        refine ⟨rfl, (fun h => by cases h), fun ad hA j x hx => ?_⟩
        injection hA with hA
        subst hA
        rw [add_eq]
        have hj : j < 4 := (List.getElem?_eq_some_iff.1 hx).1
        rcases (by omega : j = 0 ∨ j = 1 ∨ j = 2 ∨ j = 3) with rfl | rfl | rfl | rfl
        all_goals
          simp [flatR] at hx
          subst hx
          simp
      have HB5 := Lib.hid hb5
      have hz5 := hb5.size
      have hz4 := hb4.size
      have HT : Hid ((w3.alloc (.cells #[.int .i64 a1, .int .i64 a2, .int .i64 a3, .int .i64 a4] 135)).heap[w3.heap.size]? = some (.cells #[.int .i64 a1, .int .i64 a2, .int .i64 a3, .int .i64 a4] 135 (0, 0))) := World.alloc_heap_new _ _
      have hz6 : w3.heap.size < (w3.alloc (.cells #[.int .i64 a1, .int .i64 a2, .int .i64 a3, .int .i64 a4] 135)).heap.size := by simp
      clear hb4 hb5 HF
      go_upto_region 8 with fail
      generalize w3.alloc (.cells #[.int .i64 a1, .int .i64 a2, .int .i64 a3, .int .i64 a4] 135) = w4 at hO4 hSrc HB5 HT hz6 hz5 ⊢
      have hobk : ∀ j, (Value.slice Av rs.length cv).ownBlock = some j → w2.heap.size ≤ j ∧ j < wr.heap.size := HOR.out.lt
      have HOBK := Lib.hid hobk
      clear hobk
      go_wp2_with (at_builtin; refine wpList_append_src rfl (.tmp 38) (.tmp 39) 32 rfl w2.heap.size 34 i0 (.agg #[.int .i64 0, .int .i64 0]) 2 16 Try.underlying32 hi hz0 hz1 hz2 rfl (by decide) (.slice Av rs.length cv) rs.length (flatR rs) rfl hO4.out (some ⟨w3.heap.size, 0, none⟩) 2 2 (flatR [(a1, a2), (a3, a4)]) rfl hSrc.out (one_flat _) (by unfold maxLen; omega) (by omega) (by omega) ?_; intro u w5 hown5 hgr5 hob5; obtain ⟨Au, cu, rfl⟩ := ownsRow_form hown5; have HO5 := Lib.hid hown5; have HG5 := Lib.hid hgr5; have HT5 : Hid (w5.heap[w3.heap.size]? = some (.cells #[.int .i64 a1, .int .i64 a2, .int .i64 a3, .int .i64 a4] 135 (0, 0))) := (hgr5.block _ hz6 (fun e => by have := (HOBK.out _ e.symm).2; omega)).trans HT.out; have HP5 : Hid (P2 w5 (w.heap.size + 1) cl ch) := (hgr5.block _ (by omega) (fun e => by have := (HOBK.out _ e.symm).1; omega)).trans (HPk.out.below HB5.out); obtain ⟨c0, c1, c2⟩ := HP5.out.cells; have f0 := c2 0; have f1 := c2 1; have t2 : w5.cell? ⟨w3.heap.size, 2, none⟩ = some (.int .i64 a3) := (by have := HT5.out; simp [World.cell?, this]); have t3 : w5.cell? ⟨w3.heap.size, 3, none⟩ = some (.int .i64 a4) := (by have := HT5.out; simp [World.cell?, this]); clear hown5 hgr5 hob5 c2)
      go_roundw
      case rel =>
        have hbw5 : Below w2.heap.size wr w5 := (HB5.out.mono hzr).grown HG5.out (by omega) (fun j e => (HOBK.out j e).1)
        have hg5 : w2.grownBy w5 (some (w.heap.size + 1)) := ⟨hbw5.os.trans HGr.out.os, hbw5.tape.trans HGr.out.tape, hbw5.output.trans HGr.out.output, Nat.le_trans HGr.out.size hbw5.size, fun j hj hne => (hbw5.block j hj).trans (HGr.out.block j hj hne)⟩
        have hso := sets2 w5 (w.heap.size + 1) (.int .i64 (cl + 10 - a4)) (.int .i64 (ch + 10 - a3))
        have ho : OwnR w2.heap.size w5 (.slice Au (rs.length + 2) cu) (rs ++ [(a1, a2), (a3, a4)]) := by
          unfold OwnR
          rw [flatR_append, List.length_append]
          exact HO5.out
        refine ⟨k + 1, by omega, by go_num, ?_, ?_, ⟨hso.os.trans hg5.os, hso.tape.trans hg5.tape, hso.output.trans hg5.output, Nat.le_trans hg5.size hso.size, fun j hj hne => (hso.block j (Nat.lt_of_lt_of_le hj hg5.size) hne).trans (hg5.block j hj hne)⟩⟩
        · rw [HRN.out]
          exact World.ownsRow.kept ho hso (.inr fun e => by have := (World.ownsRow.lt ho _ e).1; omega)
        · rw [HCN.out.1, HCN.out.2]
          exact HP5.out.set _ _
      case measure => simp [intOf]; omega
    · obtain rfl : k = m := by omega
      obtain ⟨c0, c1, c2⟩ := HPk.out.cells
      have f0 := c2 0
      have f1 := c2 1
      obtain ⟨v1, v2⟩ := HPk.out.same
      obtain ⟨Av, cv, rfl⟩ := OwnR.form HOR.out
      have HGr' : Hid (Below w.heap.size w wr) := HB2.out.grown HGr.out HB2.out.size (fun j e => by injection e with e; subst e; omega)
      clear c2 hWr hB4
      generalize rangesL ws o k = rs at *
      generalize cntLo ws o k = cl at *
      generalize cntHi ws o k = ch at *
      go_wp2_with fail
      go_region_held3 (fun w' => w'.cell? ⟨w.heap.size + 1, 0, none⟩ = some (.int .i64 cl) ∧ w'.cell? ⟨w.heap.size + 1, 1, none⟩ = some (.int .i64 ch)) (go_keep) (first | fail)
      go_wp2_with fail
      obtain ⟨r1, r2, r3⟩ := HOR.out.rgs
      exact bodyPost_ret (v := .tuple #[.slice Av rs.length cv, .agg #[.int .i64 cl, .int .i64 ch], .int .i64 0]) (by simp [results, Try.results11, go_sem, c0, c1]) rfl ⟨Av, cv, rfl, ⟨r1, r2⟩, r3.step (below_drew_r _), HGr'.out.drew⟩
end

section
open Go.RowKit
set_option maxRecDepth 100000 in
set_option maxHeartbeats 8000000 in
theorem fault_c (A : Option Addr) (ws : List Wd) (c : Nat) (frn : Int) (w : World) (hw : Wds w.heap.size w A ws) (hc : ws.length ≤ c ∧ c ≤ 9223372036854775807) :
    Calls Try.prog 7 #[.agg #[.int .i64 frn, .slice A ws.length c]] w (Ans w (.int .i64 (laneErr frn ws))) := by
  have hb0 : Below w.heap.size w (w.alloc (.cells #[.int .i64 frn, .slice A ws.length c] 24)) := (Below.refl _ _).alloc (Nat.le_refl _) _
  have HB0 := Lib.hid hb0
  have HW := Lib.hid (hw.step hb0)
  have k0 : (w.alloc (.cells #[.int .i64 frn, .slice A ws.length c] 24)).cell? ⟨w.heap.size, 0, none⟩ = some (.int .i64 frn) := by simp
  have k1 : (w.alloc (.cells #[.int .i64 frn, .slice A ws.length c] 24)).cell? ⟨w.heap.size, 1, none⟩ = some (.slice A ws.length c) := by simp
  clear hb0 hw
  by_cases h1 : ws.length ≤ 30
  · cases h2 : inB frn 1 5
    · have HR : Hid (laneErr frn ws = 1) := by show _ = _; simp [laneErr, h1, h2]
      go_enter Try.func7, Try.ntmps7
      go_wp2_with (go_at_call 41; refine (in_c _ _ _ _).mono ?_; rintro e w1 ⟨rfl, rfl⟩)
      go_ret
      exact ⟨ret_int HR.out.symm, HB0.out⟩
    · obtain ⟨hf1, hf5⟩ := (inB_eq _ _ _).1 h2
      have HR : Hid (laneErr frn ws = if allB ws.length (fun k => wordB frn (wx ws k)) then 0 else 1) := by show _ = _; simp [laneErr, h1, h2]
      go_enter Try.func7, Try.ntmps7
      go_wp2_with (go_at_call 41; refine (in_c _ _ _ _).mono ?_; rintro e w1 ⟨rfl, rfl⟩)
      generalize w.alloc (.cells #[.int .i64 frn, .slice A ws.length c] 24) = W0 at k0 k1 HB0 HW ⊢
      go_loopw [3] (fun i wr => ∃ k : Nat, k ≤ ws.length ∧ i = .int .i64 k ∧ AllB k (fun k => wordB frn (wx ws k)) ∧ Below W0.heap.size W0 wr) (fun i _ => ws.length - (intOf i).toNat)
      case atStart => exact ⟨0, by omega, rfl, fun j hj => by omega, Below.refl _ _⟩
      case round =>
        obtain ⟨k, hk, rfl, hp, hbr⟩ := hrel
        have HP := Lib.hid hp
        have HBr := Lib.hid hbr
        have q0 := cell_of_ans hbr k0
        have q1 := cell_of_ans hbr k1
        have hWr := HW.out.step hbr
        have hlt : w.heap.size < wr.heap.size := World.block_lt_of_cell? wr _ q0
        clear hp hbr
        by_cases hk1 : k < ws.length
        · obtain ⟨b, off, rfl, _, c1, c2, c3, c4, c5⟩ := hWr.at_ hk1
          have HX : Hid (wordB frn (wx ws k) = (inB (wx ws k).fr 0 (frn - 1) && (inB (wx ws k).ba 0 1 && (inB (wx ws k).te 0 3 && (decide (0 ≤ (wx ws k).lo) && (decide ((wx ws k).lo ≤ (wx ws k).hi) && decide ((wx ws k).hi ≤ 10))))))) := rfl
          clear hWr
          obtain ⟨x, hx⟩ : ∃ x, wx ws k = x := ⟨_, rfl⟩
          rw [hx] at c1 c2 c3 c4 c5 HX
          obtain ⟨xf, xb, xt, xl, xh⟩ := x
          have HXX := Lib.hid hx
          clear hx
          dsimp only at c1 c2 c3 c4 c5 HX
          have hw0 : W0.heap.size ≤ wr.heap.size := HBr.out.size
          cases t0 : inB xf 0 (frn - 1)
          · have HNO : Hid (wordB frn (wx ws k) = false) := by
              show _ = _
              rw [HXX.out, HX.out]
              rw [t0]; rfl
            have HA : Hid (allB ws.length (fun k => wordB frn (wx ws k)) = false) := allB_false hk1 HNO.out
            go_wp2_with (go_at_call 41; refine (in_c _ _ _ _).mono ?_; rintro e w1 ⟨rfl, rfl⟩)
            go_ret
            exact ⟨ret_int (by rw [HR.out, HA.out]; rfl), HB0.out.trans ((HBr.out.alloc hw0 _).mono HB0.out.size)⟩
          · cases t1 : inB xb 0 1
            · have HNO : Hid (wordB frn (wx ws k) = false) := by
                show _ = _
                rw [HXX.out, HX.out]
                rw [t1, Bool.false_and, Bool.and_false]
              have HA : Hid (allB ws.length (fun k => wordB frn (wx ws k)) = false) := allB_false hk1 HNO.out
              go_wp2_with (go_at_call 41; refine (in_c _ _ _ _).mono ?_; rintro e w1 ⟨rfl, rfl⟩)
              go_ret
              exact ⟨ret_int (by rw [HR.out, HA.out]; rfl), HB0.out.trans ((HBr.out.alloc hw0 _).mono HB0.out.size)⟩
            · cases t2 : inB xt 0 3
              · have HNO : Hid (wordB frn (wx ws k) = false) := by
                  show _ = _
                  rw [HXX.out, HX.out]
                  rw [t2, Bool.false_and, Bool.and_false, Bool.and_false]
                have HA : Hid (allB ws.length (fun k => wordB frn (wx ws k)) = false) := allB_false hk1 HNO.out
                go_wp2_with (go_at_call 41; refine (in_c _ _ _ _).mono ?_; rintro e w1 ⟨rfl, rfl⟩)
                go_ret
                exact ⟨ret_int (by rw [HR.out, HA.out]; rfl), HB0.out.trans ((HBr.out.alloc hw0 _).mono HB0.out.size)⟩
              · cases t3 : inB xl 0 xh
                · have HNO : Hid (wordB frn (wx ws k) = false) := by
                    show _ = _
                    rw [HXX.out, HX.out]
                    simp only [inB, Bool.and_eq_false_iff, decide_eq_false_iff_not] at t3 ⊢; omega
                  have HA : Hid (allB ws.length (fun k => wordB frn (wx ws k)) = false) := allB_false hk1 HNO.out
                  go_wp2_with (go_at_call 41; refine (in_c _ _ _ _).mono ?_; rintro e w1 ⟨rfl, rfl⟩)
                  go_ret
                  exact ⟨ret_int (by rw [HR.out, HA.out]; rfl), HB0.out.trans ((HBr.out.alloc hw0 _).mono HB0.out.size)⟩
                · by_cases t4 : xh ≤ 10
                  · obtain ⟨y0, y1⟩ := (inB_eq _ _ _).1 t3
                    have HY : Hid (wordB frn (wx ws k) = true) := by
                      show _ = _
                      rw [HXX.out, HX.out, t0, t1, t2, decide_eq_true y0, decide_eq_true y1, decide_eq_true t4]
                      rfl
                    go_wp2_with (go_at_call 41; refine (in_c _ _ _ _).mono ?_; rintro e w1 ⟨rfl, rfl⟩)
                    go_roundw
                    case rel => exact ⟨k + 1, by omega, by go_num, HP.out.succ HY.out, HBr.out.alloc hw0 _⟩
                    case measure => simp [intOf]; omega
                  · have HNO : Hid (wordB frn (wx ws k) = false) := by
                      show _ = _
                      rw [HXX.out, HX.out]
                      simp only [Bool.and_eq_false_iff, decide_eq_false_iff_not]; omega
                    have HA : Hid (allB ws.length (fun k => wordB frn (wx ws k)) = false) := allB_false hk1 HNO.out
                    go_wp2_with (go_at_call 41; refine (in_c _ _ _ _).mono ?_; rintro e w1 ⟨rfl, rfl⟩)
                    go_ret
                    exact ⟨ret_int (by rw [HR.out, HA.out]; rfl), HB0.out.trans ((HBr.out.alloc hw0 _).mono HB0.out.size)⟩
        · obtain rfl : k = ws.length := by omega
          have HA : Hid (allB ws.length (fun k => wordB frn (wx ws k)) = true) := allB_true HP.out
          clear hWr
          go_wp2_with fail
          go_ret
          exact ⟨ret_int (by rw [HR.out, HA.out]; rfl), HB0.out.trans (HBr.out.mono HB0.out.size)⟩
  · have HR : Hid (laneErr frn ws = 3) := by show _ = _; simp [laneErr, h1]
    go_enter Try.func7, Try.ntmps7
    go_wp2_with fail
    go_ret
    exact ⟨ret_int HR.out.symm, HB0.out⟩
end

section
open Go.RowKit
/-- What stands behind the first k balls. -/
def behN (xs : List Int) : Nat → Int
  | 0 => 10
  | k + 1 => behN xs k - ix xs k
def behR (game : List (List Int)) (f b : Nat) : Int := behN (rx game f) (min (b + 1) (rx game f).length)
theorem behN_bd {xs : List Int} (h : ∀ j, j < xs.length → 0 ≤ ix xs j ∧ ix xs j ≤ 10) : ∀ k, k ≤ xs.length → 10 - 10 * (k : Int) ≤ behN xs k ∧ behN xs k ≤ 10
  | 0, _ => by simp [behN]
  | k + 1, hk => by
    have h1 := behN_bd h k (by omega)
    have h2 := h k (by omega)
    simp only [behN]
    omega
set_option maxHeartbeats 2000000 in
theorem behind_c {B : Nat} (Ag : Option Addr) (game : List (List Int)) (cg f b : Nat) (w : World) (hg : Grd B w Ag game) (hcg : game.length ≤ cg ∧ cg ≤ 9223372036854775807) (hf : f < game.length) (hb : b ≤ 1) (hv : ∀ j, j < (rx game f).length → 0 ≤ ix (rx game f) j ∧ ix (rx game f) j ≤ 10) :
    Calls Try.prog 43 #[.slice Ag game.length cg, .int .i64 (f : Int), .int .i64 (b : Int)] w (Same w (.int .i64 (behR game f b))) := by
  obtain ⟨bg, og, Ax, cx, rfl, _, hc0, hcx, hcx2, hi⟩ := hg.at_ hf
  have HI := Lib.hid hi
  have HV := Lib.hid hv
  have hfi : (f : Int) < (game.length : Int) := by omega
  have HR : Hid (behR game f b = behN (rx game f) (min (b + 1) (rx game f).length)) := rfl
  generalize rx game f = xs at *
  clear hg hi hv
  go_enter Try.func43, Try.ntmps43
  go_wp2_with fail
  go_loop [8, 7] (fun i v => ∃ k : Nat, k ≤ b + 1 ∧ k ≤ xs.length ∧ i = .int .i64 k ∧ v = .int .i64 (behN xs k)) (fun i _ => 3 - (intOf i).toNat)
  case atStart => exact ⟨0, by omega, by omega, rfl, rfl⟩
  case round =>
    obtain ⟨k, hk, hk2, rfl, rfl⟩ := hrel
    have hbd := behN_bd HV.out k hk2
    by_cases h1 : k ≤ b
    · have h1i : (k : Int) ≤ (b : Int) := by omega
      by_cases h2 : k < xs.length
      · obtain ⟨b2, o2, rfl, _, c2⟩ := HI.out.at_ h2
        have h2i : (k : Int) < (xs.length : Int) := by omega
        have hx := HV.out k h2
        have HS : Hid (behN xs (k + 1) = behN xs k - ix xs k) := rfl
        generalize behN xs k = n at *
        generalize ix xs k = y at *
        go_wp2_with fail
        go_round
        case rel => exact ⟨k + 1, by omega, by omega, by go_num, by rw [HS.out]⟩
        case measure => simp [intOf]; omega
      · have h2i : ¬ (k : Int) < (xs.length : Int) := by omega
        obtain rfl : k = xs.length := by omega
        have HE : Hid (behR game f b = behN xs xs.length) := by show _ = _; rw [HR.out, Nat.min_eq_right (by omega)]
        go_wp2_with fail
        go_ret
        exact ⟨ret_int HE.out.symm, rfl⟩
    · have h1i : ¬ (k : Int) ≤ (b : Int) := by omega
      obtain rfl : k = b + 1 := by omega
      have HE : Hid (behR game f b = behN xs (b + 1)) := by show _ = _; rw [HR.out, Nat.min_eq_left (by omega)]
      generalize behN xs (b + 1) = y at *
      go_wp2_with fail
      go_ret
      exact ⟨ret_int HE.out.symm, rfl⟩
end

section
open Go.RowKit
def cellsW (x : Wd) : List Value := [.int .i64 x.fr, .int .i64 x.ba, .int .i64 x.te, .int .i64 x.lo, .int .i64 x.hi]
def flatW (ws : List Wd) : List Value := ws.flatMap cellsW
theorem flatW_append (ws vs : List Wd) : flatW (ws ++ vs) = flatW ws ++ flatW vs := by simp [flatW]
theorem one_flatW (ws : List Wd) : ∀ v ∈ flatW ws, v.oneCell' = true := by
  intro v hv
  simp only [flatW, cellsW, List.mem_flatMap] at hv
  obtain ⟨p, _, hv⟩ := hv
  simp at hv
  rcases hv with rfl | rfl | rfl | rfl | rfl <;> rfl
def OwnW (e : TypeId) (base : Nat) (w : World) (u : Value) (ws : List Wd) : Prop := w.ownsRow base e 5 u ws.length (flatW ws)
theorem OwnW.form {e : TypeId} {base : Nat} {w : World} {u : Value} {ws : List Wd} (h : OwnW e base w u ws) : ∃ A c, u = .slice A ws.length c := ownsRow_form h
theorem OwnW.nil (e : TypeId) (base : Nat) (w : World) : OwnW e base w (.slice none 0 0) [] := World.ownsRow_nil _ _ _ _
theorem infoW85 : (Try.prog.info? 82).map (fun i => (i.zero, i.size, i.bytes)) = some (some (.agg #[.int .i64 0, .int .i64 0, .int .i64 0, .int .i64 0, .int .i64 0]), 5, 40) := by kernel_rfl
theorem infoW56 : (Try.prog.info? 123).map (fun i => (i.zero, i.size, i.bytes)) = some (some (.agg #[.int .i64 0, .int .i64 0, .int .i64 0, .int .i64 0, .int .i64 0]), 5, 40) := by kernel_rfl
/-- The slice types of words: the program's, the reference's. -/
def WordTy (t e : TypeId) : Prop := (t = 38 ∧ e = 82) ∨ (t = 22 ∧ e = 123)
theorem wordTy {t e : TypeId} (h : WordTy t e) : Try.prog.underlying t = some (.slice e) ∧ ∃ i, Try.prog.info? e = some i ∧ i.zero = some (.agg #[.int .i64 0, .int .i64 0, .int .i64 0, .int .i64 0, .int .i64 0]) ∧ i.size = 5 ∧ i.bytes = 40 := by
  rcases h with ⟨rfl, rfl⟩ | ⟨rfl, rfl⟩
  · obtain ⟨i, a, b, c, d⟩ := info_parts infoW85
    exact ⟨Try.underlying38, i, a, b, c, d⟩
  · obtain ⟨i, a, b, c, d⟩ := info_parts infoW56
    exact ⟨Try.underlying22, i, a, b, c, d⟩
theorem src_word (w : World) (x : Wd) (e : TypeId) : Src (w.alloc (.cells #[.int .i64 x.fr, .int .i64 x.ba, .int .i64 x.te, .int .i64 x.lo, .int .i64 x.hi] e)) 5 (some ⟨w.heap.size, 0, none⟩) 1 (flatW [x]) := by
  refine ⟨rfl, (fun h => by cases h), fun ad hA j u hu => ?_⟩
  injection hA with hA
  subst hA
  rw [add_eq]
  rcases j with _ | _ | _ | _ | _ | j <;> simp [flatW, cellsW] at hu
  all_goals
    subst hu
    simp
/-- A number of words are appended; what was there is kept but for the own block. -/
structure AppW (e : TypeId) (base : Nat) (w : World) (u : Value) (ws vs : List Wd) (w' : World) (u' : Value) : Prop where
  own : OwnW e base w' u' (ws ++ vs)
  grw : w.grownBy w' u.ownBlock
  alt : u'.ownBlock = u.ownBlock ∨ u'.ownBlock = some w.heap.size
theorem run_app_words {t e : TypeId} (hT : WordTy t e) {base : Nat} {w : World} {u : Value} {ws vs : List Wd} (ty : TypeId) (A : Option Addr) (m c : Nat) (hm : m = vs.length) (hown : OwnW e base w u ws) (hs : Src w 5 A m (flatW vs)) (hl : ws.length ≤ 1000000) (hl2 : vs.length ≤ 1000000) (hb : base ≤ w.heap.size) :
    ∃ u' w', (Builtin.append_ #[t, t] ty #[u, .slice A m c]).run Try.prog w = .ok u' w' ∧ AppW e base w u ws vs w' u' := by
  subst hm
  obtain ⟨hu, i, hi, hz, hz1, hz2⟩ := wordTy hT
  obtain ⟨u', w', hr, h1, h2, h3⟩ := run_append_src (P := Try.prog) base t ty e i _ 5 40 hu hi hz hz1 hz2 rfl (by decide) u ws.length (flatW ws) hown A vs.length c (flatW vs) hs (one_flatW vs) (by unfold maxLen; omega) (by omega) hb
  refine ⟨u', w', hr, ?_, h2, h3⟩
  unfold OwnW
  rw [flatW_append, List.length_append]
  exact h1
theorem wpList_words {t e : TypeId} (hT : WordTy t e) {ops : Array Oper} {rest : List Oper} {o : Oper} {a : Act} {Q : Exit → Act → World → Prop} (s x : Operand) (hgd : o.guard = none) (ho : o.op = .call { callee := .builtin .append, args := #[s, x], argTypes := #[t, t] })
    (base : Nat) (w : World) (u : Value) (ws vs : List Wd) (A : Option Addr) (m c : Nat) (hm : m = vs.length) (hv : a.eval s = u) (hx : a.eval x = .slice A m c) (hown : OwnW e base w u ws) (hs : Src w 5 A m (flatW vs)) (hl : ws.length ≤ 1000000) (hl2 : vs.length ≤ 1000000) (hb : base ≤ w.heap.size)
    (h : ∀ u' w', Hid (AppW e base w u ws vs w' u') → wpList Try.prog ops Q rest (a.put o.dst u') w') : wpList Try.prog ops Q (o :: rest) a w := by
  refine wpList_plain hgd fun K hK => ?_
  obtain ⟨u', w', hr, hA⟩ := run_app_words hT o.type A m c hm hown hs hl hl2 hb
  unfold Oper.wp execOp
  simp only [ho, resolve, invoke, builtin, Sem.run_bind, Sem.run_pure, Result.andThen_ok, List.map_toArray, List.map_cons, List.map_nil, hv, hx, hr]
  exact hK _ _ (h u' w' hA)
/-- Block g: a number, a list. -/
def LB (w : World) (g : Nat) (fr : Int) (u : Value) (ty : TypeId) : Prop := w.heap[g]? = some (.cells #[.int .i64 fr, u] ty (0, 0))
section
variable {w w' : World} {g : Nat} {fr : Int} {u : Value} {ty : TypeId}
theorem LB.lt (h : LB w g fr u ty) : g < w.heap.size := (Array.getElem?_eq_some_iff.1 h).1
theorem LB.cells (h : LB w g fr u ty) : w.cell? ⟨g, 0, none⟩ = some (.int .i64 fr) ∧ w.cell? ⟨g, 1, none⟩ = some u ∧ ∀ o, w.frozen? ⟨g, o, none⟩ = false := by
  unfold LB at h
  simp [World.cell?, World.frozen?, h]
theorem LB.below (h : LB w g fr u ty) (hb : Below w.heap.size w w') : LB w' g fr u ty := (hb.block g h.lt).trans h
theorem LB.set (h : LB w g fr u ty) (x : Value) : LB (w.setCell ⟨g, 1, none⟩ x) g fr x ty := by
  unfold LB at h ⊢
  simp [World.setCell, Array.getElem?_modify, h]
end
/-- A lane with these words. -/
def LanePost (t : TypeId) (w : World) (fr : Int) (ws : List Wd) (e : Ending) (w' : World) : Prop :=
  ∃ A c, e = .returned (.agg #[.int .i64 fr, .slice A ws.length c]) ∧ OwnW t w.heap.size w' (.slice A ws.length c) ws ∧ Below w.heap.size w w'
end

section
open Go.RowKit
theorem take_succ_wx {ws : List Wd} {k : Nat} (h : k < ws.length) : ws.take (k + 1) = ws.take k ++ [wx ws k] := by
  rw [List.take_add_one, wx_lt h, List.getElem?_eq_getElem h]; rfl
theorem lane_app {W0 wr wy w2 : World} {g : Nat} {fr : Int} {u u' : Value} {ty e : TypeId} {ws vs : List Wd} (hg : g < W0.heap.size) (hC : Chg W0 wr (fun i => i = g)) (hb : Below wr.heap.size wr wy) (hL : LB wr g fr u ty) (hO : OwnW e W0.heap.size wy u ws) (hA : AppW e W0.heap.size wy u ws vs w2 u') : LB w2 g fr u ty := by
  refine (hA.grw.block g ?_ fun e => ?_).trans (hL.below hb)
  · have := hL.lt; have := hb.size; omega
  · have := (World.ownsRow.lt hO g e.symm).1; omega
theorem lane_round {W0 wr wy w2 : World} {g : Nat} {fr : Int} {u u' : Value} {ty e : TypeId} {ws vs : List Wd} (hg : g < W0.heap.size) (hC : Chg W0 wr (fun i => i = g)) (hb : Below wr.heap.size wr wy) (hL : LB wr g fr u ty) (hO : OwnW e W0.heap.size wy u ws) (hA : AppW e W0.heap.size wy u ws vs w2 u') :
    LB (w2.setCell ⟨g, 1, none⟩ u') g fr u' ty ∧ OwnW e W0.heap.size (w2.setCell ⟨g, 1, none⟩ u') u' (ws ++ vs) ∧ Chg W0 (w2.setCell ⟨g, 1, none⟩ u') (fun i => i = g) := by
  have h2 := lane_app hg hC hb hL hO hA
  have hS : w2.grownBy (w2.setCell ⟨g, 1, none⟩ u') (some g) := only_setCell (World.grownBy.refl w2 (some g)) (.inl rfl) _
  refine ⟨h2.set u', World.ownsRow.kept hA.own hS (.inr fun e => ?_), ?_⟩
  · have := (World.ownsRow.lt hA.own g e).1; omega
  · refine ((hC.trans (Chg.ofBelow hb _) fun i _ h => h).trans (Chg.ofGrown hA.grw (S := fun i => some i = u.ownBlock) fun i e => e) fun i hi e => ?_).trans (Chg.ofGrown hS fun i e => by injection e) fun i _ h => h
    have := (World.ownsRow.lt hO i e.symm).1; omega
set_option maxRecDepth 100000 in
set_option maxHeartbeats 8000000 in
theorem lane_c (A : Option Addr) (ws : List Wd) (c : Nat) (frn : Int) (w : World) (hw : Wds w.heap.size w A ws) (hc : ws.length ≤ c ∧ c ≤ 9223372036854775807) (hl : ws.length ≤ 1000000) :
    Calls Try.prog 12 #[.agg #[.int .i64 frn, .slice A ws.length c]] w (LanePost 82 w frn ws) := by
  have hb0 : Below w.heap.size w (((w.alloc (.cells #[.int .i64 frn, .slice A ws.length c] 24)).alloc (.cells #[.int .i64 0, .slice none 0 0] 40)).alloc (.cells #[.int .i64 frn, .slice none 0 0] 40)) := (((Below.refl _ _).alloc (Nat.le_refl _) _).alloc (by simp) _).alloc (by simp; omega) _
  have k0 : (((w.alloc (.cells #[.int .i64 frn, .slice A ws.length c] 24)).alloc (.cells #[.int .i64 0, .slice none 0 0] 40)).alloc (.cells #[.int .i64 frn, .slice none 0 0] 40)).cell? ⟨w.heap.size, 1, none⟩ = some (.slice A ws.length c) := by go_simp
  have hL : LB (((w.alloc (.cells #[.int .i64 frn, .slice A ws.length c] 24)).alloc (.cells #[.int .i64 0, .slice none 0 0] 40)).alloc (.cells #[.int .i64 frn, .slice none 0 0] 40)) (w.heap.size + 1 + 1) frn (.slice none 0 0) 40 := by
    have := World.alloc_heap_new ((w.alloc (.cells #[.int .i64 frn, .slice A ws.length c] 24)).alloc (.cells #[.int .i64 0, .slice none 0 0] 40)) (.cells #[.int .i64 frn, .slice none 0 0] 40)
    simpa [LB] using this
  have hsz : (((w.alloc (.cells #[.int .i64 frn, .slice A ws.length c] 24)).alloc (.cells #[.int .i64 0, .slice none 0 0] 40)).alloc (.cells #[.int .i64 frn, .slice none 0 0] 40)).heap.size = w.heap.size + 1 + 1 + 1 := by simp
  have hz1 : (((w.alloc (.cells #[.int .i64 frn, .slice A ws.length c] 24)).alloc (.cells #[.int .i64 0, .slice none 0 0] 40)).alloc (.cells #[.int .i64 frn, .slice none 0 0] 40)).heap[w.heap.size + 1]? = some (.cells #[.int .i64 0, .slice none 0 0] 40 (0, 0)) := by
    rw [heap_alloc_old _ _ (by simp)]
    have := World.alloc_heap_new (w.alloc (.cells #[.int .i64 frn, .slice A ws.length c] 24)) (.cells #[.int .i64 0, .slice none 0 0] 40)
    simpa using this
  have HW := Lib.hid hw
  clear hw
  go_enter Try.func12, Try.ntmps12
  go_wp2_with fail
  have HB0 := Lib.hid hb0
  have HL := Lib.hid hL
  have HZ1 := Lib.hid hz1
  clear hb0 hL hz1
  generalize hW0 : (((w.alloc (.cells #[.int .i64 frn, .slice A ws.length c] 24)).alloc (.cells #[.int .i64 0, .slice none 0 0] 40)).alloc (.cells #[.int .i64 frn, .slice none 0 0] 40)) = W0 at k0 HL HB0 HZ1 hsz ⊢
  clear hW0
  go_loopw [4] (fun i wr => ∃ (k : Nat) (u : Value), k ≤ ws.length ∧ i = .int .i64 k ∧ LB wr (w.heap.size + 1 + 1) frn u 40 ∧ OwnW 82 W0.heap.size wr u (ws.take k) ∧ Chg W0 wr (fun i => i = w.heap.size + 1 + 1)) (fun i _ => ws.length - (intOf i).toNat)
  case atStart => exact ⟨0, _, by omega, rfl, HL.out, OwnW.nil _ _ _, Chg.refl _ _⟩
  case round =>
    obtain ⟨k, u, hk, rfl, hL, hO, hC⟩ := hrel
    have HOk := Lib.hid hO
    have HCk := Lib.hid hC
    have HLk := Lib.hid hL
    have HBk : Hid (Below w.heap.size w wr) := HB0.out.trans (hC.below (by omega) fun i _ e => by omega)
    have q0 : wr.cell? ⟨w.heap.size, 1, none⟩ = some (.slice A ws.length c) := hC.cell k0 (by dsimp only; omega)
    obtain ⟨l0, l1, l2⟩ := hL.cells
    have l3 := hL.lt
    have hz := hC.size
    have l4 := l2 1
    by_cases h1 : k < ws.length
    · obtain ⟨b, off, hA, hblt, c1, c2, c3, c4, c5⟩ := (HW.out.below HBk.out).at_ h1
      have HAA := Lib.hid hA
      obtain ⟨Au, cu, hu⟩ := hO.form
      have hlt : (ws.take k).length = k := by rw [List.length_take]; omega
      rw [hlt] at hu
      subst hu
      have HT := Lib.hid (take_succ_wx h1)
      have h1i : (k : Int) < (ws.length : Int) := by omega
      obtain ⟨x, hx⟩ : ∃ x, wx ws k = x := ⟨_, rfl⟩
      rw [hx] at c1 c2 c3 c4 c5 HT
      obtain ⟨xf, xb, xt, xl, xh⟩ := x
      dsimp only at c1 c2 c3 c4 c5
      have hb1 : Below wr.heap.size wr (wr.alloc (.cells #[.int .i64 xf, .int .i64 xb, .int .i64 xt, .int .i64 xl, .int .i64 xh] 123)) := (Below.refl _ _).alloc (Nat.le_refl _) _
      have hb2 : Below wr.heap.size wr ((wr.alloc (.cells #[.int .i64 xf, .int .i64 xb, .int .i64 xt, .int .i64 xl, .int .i64 xh] 123)).alloc (.cells #[.int .i64 xf, .int .i64 xb, .int .i64 xt, .int .i64 xl, .int .i64 xh] 82)) := hb1.alloc (by simp) _
      have HO2 : Hid (OwnW 82 W0.heap.size ((wr.alloc (.cells #[.int .i64 xf, .int .i64 xb, .int .i64 xt, .int .i64 xl, .int .i64 xh] 123)).alloc (.cells #[.int .i64 xf, .int .i64 xb, .int .i64 xt, .int .i64 xl, .int .i64 xh] 82)) (.slice Au k cu) (ws.take k)) := World.ownsRow.kept hO (only_below hb2 none) (own_ne _)
      have HS := Lib.hid (src_word (wr.alloc (.cells #[.int .i64 xf, .int .i64 xb, .int .i64 xt, .int .i64 xl, .int .i64 xh] 123)) ⟨xf, xb, xt, xl, xh⟩ 82)
      rw [World.size_alloc] at HS
      have HLA : Hid ((ws.take k).length ≤ 1000000) := by show _ ≤ _; omega
      have hg : w.heap.size + 1 + 1 < W0.heap.size := by omega
      have HLA2 : Hid ((ws.take k ++ [(⟨xf, xb, xt, xl, xh⟩ : Wd)]).length = k + 1) := by show _ = _; rw [List.length_append, hlt]; rfl
      have HBS : Hid (W0.heap.size ≤ ((wr.alloc (.cells #[.int .i64 xf, .int .i64 xb, .int .i64 xt, .int .i64 xl, .int .i64 xh] 123)).alloc (.cells #[.int .i64 xf, .int .i64 xb, .int .i64 xt, .int .i64 xl, .int .i64 xh] 82)).heap.size) := Nat.le_trans hz hb2.size
      have HB2 := Lib.hid hb2
      have HLT := Lib.hid hlt
      subst hA
      clear hL hO hC hb1 hb2 hx hlt l2
      go_wp2_with (at_builtin; refine wpList_words (t := 38) (e := 82) (.inl ⟨rfl, rfl⟩) (.tmp 22) (.tmp 35) rfl rfl W0.heap.size _ (.slice Au k cu) (ws.take k) [⟨xf, xb, xt, xl, xh⟩] (some ⟨wr.heap.size + 1, 0, none⟩) 1 1 rfl rfl rfl HO2.out HS.out HLA.out (by simp) HBS.out ?_; intro u' w2 HA; obtain ⟨A2, c2', e2⟩ := HA.out.own.form; rw [HLA2.out] at e2; subst e2; obtain ⟨l5, l6, l7⟩ := (lane_app hg HCk.out HB2.out HLk.out HO2.out HA.out).cells; have l8 := l7 1)
      go_roundw
      case rel =>
        obtain ⟨r1, r2, r3⟩ := lane_round hg HCk.out HB2.out HLk.out HO2.out HA.out
        exact ⟨k + 1, _, by omega, by go_num, r1, by rw [HT.out]; exact r2, r3⟩
      case measure => simp [intOf]; omega
    · have hke : k = ws.length := by omega
      have h1i : ¬ (k : Int) < (ws.length : Int) := by omega
      obtain ⟨Au, cu, hu⟩ := hO.form
      rw [List.take_of_length_le (by omega)] at hu
      subst hu
      have hz2 : wr.heap[w.heap.size + 1]? = some (.cells #[.int .i64 0, .slice none 0 0] 40 (0, 0)) := (hC.block _ (by omega) (by omega)).trans HZ1.out
      have HZ2 := Lib.hid hz2
      have z1 : wr.frozen? ⟨w.heap.size + 1, 0, none⟩ = false := by simp [World.frozen?, hz2]
      have z2 : wr.frozen? ⟨w.heap.size + 1, 1, none⟩ = false := by simp [World.frozen?, hz2]
      have y1 : wr.cell? ⟨w.heap.size + 1, 0, none⟩ = some (.int .i64 0) := by simp [World.cell?, hz2]
      have y2 : wr.cell? ⟨w.heap.size + 1, 1, none⟩ = some (.slice none 0 0) := by simp [World.cell?, hz2]
      clear hL hO hC l2 hz2
      go_wp2_with fail
      have hd : Below w.heap.size w ((wr.setCell ⟨w.heap.size + 1, 0, none⟩ (.int .i64 frn)).setCell ⟨w.heap.size + 1, 1, none⟩ (.slice Au ws.length cu)) := (HBk.out.setCell (by dsimp only; omega) _).setCell (by dsimp only; omega) _
      refine bodyPost_ret (v := .agg #[.int .i64 frn, .slice Au ws.length cu]) (by simp [results, Try.results12, go_sem, World.cell?, World.setCell, Array.getElem?_modify, HZ2.out]) rfl ?_
      have HO3 := HOk.out
      rw [List.take_of_length_le (by omega)] at HO3
      have hS : wr.grownBy ((wr.setCell ⟨w.heap.size + 1, 0, none⟩ (.int .i64 frn)).setCell ⟨w.heap.size + 1, 1, none⟩ (.slice Au ws.length cu)) (some (w.heap.size + 1)) := sets2 _ _ _ _
      have HO4 : OwnW 82 W0.heap.size ((wr.setCell ⟨w.heap.size + 1, 0, none⟩ (.int .i64 frn)).setCell ⟨w.heap.size + 1, 1, none⟩ (.slice Au ws.length cu)) (.slice Au ws.length cu) ws := World.ownsRow.kept HO3 hS (.inr fun e => by
        have := (World.ownsRow.lt HO3 _ e).1; omega)
      exact ⟨Au, cu, rfl, ownsRow_base HO4 (by omega), hd⟩
end

section
open Go.RowKit
theorem rx_snoc {rs : List (List Int)} {x : List Int} : rx (rs ++ [x]) rs.length = x := by unfold rx; simp
theorem rx_keep {rs : List (List Int)} {x : List Int} {j : Nat} (h : j < rs.length) : rx (rs ++ [x]) j = rx rs j := by unfold rx; simp [List.getElem?_append_left h]
def OwnRows (w : World) (rs : List (List Int)) (e : Ending) (w' : World) : Prop := ∃ A c vs, e = .returned (.slice A rs.length c) ∧ Rws w.heap.size w' (.slice A rs.length c) rs.length vs (rx rs) ∧ Below w.heap.size w w'
end

section
open Go.RowKit
theorem upTo_bds {p : Nat × Nat} (h : p ∈ upTo 11 0) : p.1 ≤ 10 ∧ p.2 ≤ p.1 := by
  simp [upTo, List.mem_flatMap] at h
  obtain ⟨a, ha, b, hb, rfl⟩ := h
  dsimp only
  omega
end

section
open Go.RowKit
def thinB (ws : List Wd) (ts : List Int) : Bool := decide (ws.length ≤ 35) && decide (ts.length ≤ 8)
set_option maxHeartbeats 1000000 in
theorem thin_c (A At : Option Addr) (ws : List Wd) (ts : List Int) (c ct : Nat) (frn : Int) (w : World) : Calls Try.prog 6 #[.agg #[.int .i64 frn, .slice A ws.length c], .slice At ts.length ct] w (Ans w (.bool (thinB ws ts))) := by
  have hb0 : Below w.heap.size w (w.alloc (.cells #[.int .i64 frn, .slice A ws.length c] 24)) := (Below.refl _ _).alloc (Nat.le_refl _) _
  have HB0 := Lib.hid hb0
  clear hb0
  by_cases h1 : ws.length ≤ 35
  · have h1i : (ws.length : Int) ≤ 35 := by omega
    by_cases h2 : ts.length ≤ 8
    · have h2i : (ts.length : Int) ≤ 8 := by omega
      go_enter Try.func6, Try.ntmps6
      go_wp2_with fail
      go_ret
      exact ⟨ret_bool (by simp [thinB, h1, h2]), HB0.out⟩
    · have h2i : ¬ (ts.length : Int) ≤ 8 := by omega
      go_enter Try.func6, Try.ntmps6
      go_wp2_with fail
      go_ret
      exact ⟨ret_bool (by simp [thinB, h1, h2]), HB0.out⟩
  · have h1i : ¬ (ws.length : Int) ≤ 35 := by omega
    go_enter Try.func6, Try.ntmps6
    go_wp2_with fail
    go_ret
    exact ⟨ret_bool (by simp [thinB, h1]), HB0.out⟩
end

section
open Go.RowKit
/-- The tellers below k whose bits are 1. -/
def chTo (b k : Nat) : List Int := ((List.range k).filter fun j => b.testBit j).map fun (j : Nat) => (j : Int)
theorem chTo_yes {b k : Nat} (h : b.testBit k = true) : chTo b (k + 1) = chTo b k ++ [(k : Int)] := by simp [chTo, List.range_succ, List.filter_append, h]
theorem chTo_no {b k : Nat} (h : b.testBit k = false) : chTo b (k + 1) = chTo b k := by simp [chTo, List.range_succ, List.filter_append, h]
theorem chTo_len (b k : Nat) : (chTo b k).length ≤ k := by
  unfold chTo
  rw [List.length_map]
  exact Nat.le_trans (List.length_filter_le _ _) (by simp)
theorem bit_test (b k : Nat) : (((b : Int) / 2 ^ k).tmod 2 == 1) = b.testBit k := by
  have h1 : ((b : Int) / 2 ^ k) = ((b / 2 ^ k : Nat) : Int) := by simp
  have h2 : (((b / 2 ^ k : Nat) : Int).tmod 2) = ((b / 2 ^ k % 2 : Nat) : Int) := rfl
  rw [h1, h2, Nat.testBit_eq_decide_div_mod_eq]
  exact Bool.eq_iff_iff.2 (by simp; omega)
set_option maxRecDepth 100000 in
set_option maxHeartbeats 4000000 in
theorem chosen_c (b : Nat) (hb : b < 256) (w : World) : Calls Try.prog 13 #[.int .u8 (b : Int)] w (NewO w (chTo b 4)) := by
  go_enter Try.func13, Try.ntmps13
  go_wp2_with fail
  go_loopw [4, 3] (fun i v wr => ∃ k : Nat, k ≤ 4 ∧ i = .int .i64 k ∧ OwnI w.heap.size wr v (chTo b k) ∧ Below w.heap.size w wr) (fun i _ _ => 4 - (intOf i).toNat)
  case atStart => exact ⟨0, by omega, rfl, World.ownsRow_nil _ _ _ _, Below.refl _ _⟩
  case round =>
    obtain ⟨k, hk, rfl, hO, hbr⟩ := hrel
    have HO := Lib.hid hO
    have HB := Lib.hid hbr
    have hz := hbr.size
    by_cases h1 : k < 4
    · have h1i : (k : Int) < 4 := by omega
      have hbt := bit_test b k
      obtain ⟨Av, cv, rfl⟩ := ownsRow_form hO
      have HL : Hid ((chTo b k).length ≤ 1000000) := by show _ ≤ _; have := chTo_len b k; omega
      clear hO hbr
      cases ht : b.testBit k
      · rw [ht] at hbt
        have HX := Lib.hid (chTo_no ht)
        clear ht
        go_wp2_with fail
        go_roundw
        case rel => exact ⟨k + 1, by omega, by go_num, by rw [HX.out]; exact HO.out, HB.out⟩
        case measure => simp [intOf]; omega
      · rw [ht] at hbt
        have HX := Lib.hid (chTo_yes ht)
        have HXL : Hid ((chTo b (k + 1)).length = (chTo b k).length + 1) := by show _ = _; rw [HX.out, List.length_append]; rfl
        clear ht
        go_wp2_with (at_builtin; refine wpList_app_int (.tmp 15) (.tmp 17) rfl rfl w.heap.size wr _ (chTo b k) _ rfl rfl HO HL.out hz ?_; intro A' c' w2 HU2 HB2)
        go_roundw
        case rel => exact ⟨k + 1, by omega, by go_num, by rw [HX.out, ]; exact HU2.out, HB.out.trans HB2.out⟩
        case measure => simp [intOf]; omega
    · have h1i : ¬ (k : Int) < 4 := by omega
      obtain ⟨Av, cv, rfl⟩ := ownsRow_form hO
      clear hO hbr
      go_wp2_with fail
      go_ret
      obtain rfl : k = 4 := by omega
      exact ⟨_, _, rfl, HO.out, HB.out⟩
theorem chTo_off (b j : Nat) (hj : j < 4) : offT (chTo b 4) j = b.testBit j := by
  rcases (by omega : j = 0 ∨ j = 1 ∨ j = 2 ∨ j = 3) with rfl | rfl | rfl | rfl <;>
    (cases h0 : b.testBit 0 <;> cases h1 : b.testBit 1 <;> cases h2 : b.testBit 2 <;> cases h3 : b.testBit 3 <;> simp [chTo, offT, List.range_succ, h0, h1, h2, h3])
theorem chTo_rise (b : Nat) : riseB (chTo b 4) = true := by
  cases h0 : b.testBit 0 <;> cases h1 : b.testBit 1 <;> cases h2 : b.testBit 2 <;> cases h3 : b.testBit 3 <;> simp [chTo, riseB, allB, List.range_succ, h0, h1, h2, h3, ix, inB]
end

end Go.Proofs.Ytenpiinkbfancaa.Sn
