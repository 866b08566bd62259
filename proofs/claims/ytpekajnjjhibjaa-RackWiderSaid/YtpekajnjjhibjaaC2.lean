/-
  Convert, ProveConvert.
-/
import Derived.Test.YtpekajnjjhibjaaC1
namespace Go.Proofs.Ytpekajnjjhibjaa
open Go.RowKit
set_option linter.unusedSimpArgs false
set_option linter.unusedVariables false

/-- Straight ball number n, in their order. -/
def lineS (n : Nat) : Int := ((n / 7 : Nat) : Int)
def lineD (n : Nat) : Int := ((n % 7 : Nat) : Int) - 3
noncomputable def cvN (r : Rk) (s : Nat) (cf : Nat → Bool) (n : Nat) : Bool := convB r s (lineS n) (lineD n) cf
noncomputable def convO (r : Rk) (s : Nat) (cf : Nat → Bool) : Option Nat := (List.range 427).find? (cvN r s cf)
theorem line_at (i j : Nat) (hj : j < 7) : lineS (7 * i + j) = (i : Int) ∧ lineD (7 * i + j) = (j : Int) - 3 := by
  constructor
  · unfold lineS; congr 1; omega
  · unfold lineD; congr 2; omega
theorem convO_some {r : Rk} {s : Nat} {cf : Nat → Bool} {n : Nat} (hn : n < 427) (h : cvN r s cf n = true) (h0 : ∀ m, m < n → cvN r s cf m = false) : convO r s cf = some n := by
  unfold convO
  rw [List.find?_range_eq_some]
  exact ⟨h, List.mem_range.2 hn, fun j hj => by simp [h0 j hj]⟩
theorem convO_none {r : Rk} {s : Nat} {cf : Nat → Bool} (h0 : ∀ m, m < 427 → cvN r s cf m = false) : convO r s cf = none := by
  unfold convO
  rw [List.find?_eq_none]
  intro x hx
  rw [h0 x (List.mem_range.1 hx)]
  simp
/-- Which links carry: all, or those that surely do. -/
def carryOf (ls : List Lk) (may : Bool) (i : Nat) : Bool := may || (lx ls i).s
def fnOf (may : Bool) : Nat := if may then 57 else 56
theorem enters56 : Enters 56 := fun _ _ => enters_of Try.func56 (by kernel_rfl) rfl _ _
theorem enters57 : Enters 57 := fun _ _ => enters_of Try.func57 (by kernel_rfl) rfl _ _
theorem entersOf (may : Bool) : Enters (fnOf may) := by
  cases may
  · exact enters56
  · exact enters57
theorem carryOf_c (ls : List Lk) (may : Bool) : ∀ i, i < ls.length → ∀ W, Calls Try.prog (fnOf may) #[lV (lx ls i), .int .i64 (i : Int), .int .i64 0] W (Ans W (.bool (carryOf ls may i))) := fun i _ W => by
  cases may
  · exact surely_c (lx ls i) i 0 W
  · exact maybe_c (lx ls i) i 0 W
/-- The error of Convert. -/
noncomputable def cvErr (r : Rk) (xs : List Int) (may : Bool) : Int := if pinErr r xs = 0 then (if (convO r (pinS r xs) (carryOf r.links may)).isSome then 0 else 9) else pinErr r xs
noncomputable def cvLn (r : Rk) (xs : List Int) (may : Bool) : Int × Int := if pinErr r xs = 0 then (match convO r (pinS r xs) (carryOf r.links may) with | some n => (lineS n, lineD n) | none => (0, 0)) else (0, 0)
def At2 (W : World) (q t : Nat) (a b : Int) : Prop := W.heap[q]? = some (.cells #[.int .i64 a, .int .i64 b] t)
theorem At2.lt {W : World} {q t : Nat} {a b : Int} (h : At2 W q t a b) : q < W.heap.size := (Array.getElem?_eq_some_iff.1 h).1
theorem At2.step {W W' : World} {q t : Nat} {a b : Int} (h : At2 W q t a b) (hb : Below W.heap.size W W') : At2 W' q t a b := (hb.block q h.lt).trans h
theorem At2.cells {W : World} {q t : Nat} {a b : Int} (h : At2 W q t a b) : (W.cell? ⟨q, 0, none⟩ = some (.int .i64 a) ∧ W.cell? ⟨q, 1, none⟩ = some (.int .i64 b)) ∧ ∀ i, W.frozen? ⟨q, i, none⟩ = false := by
  unfold At2 at h
  simp [World.cell?, World.frozen?, h]
theorem At2.set {W : World} {q t : Nat} {a b : Int} (h : At2 W q t a b) (c d : Int) : At2 ((W.setCell ⟨q, 0, none⟩ (.int .i64 c)).setCell ⟨q, 1, none⟩ (.int .i64 d)) q t c d := by
  unfold At2 at h ⊢
  simp [World.setCell, Array.getElem?_modify, h]
theorem At2.far {W : World} {q q' t i : Nat} {a b : Int} (h : At2 W q t a b) (hne : q ≠ q') (v : Value) : At2 (W.setCell ⟨q', i, none⟩ v) q t a b := (Below.heap_setCell W _ v q hne).trans h

/-- Does a straight ball surely convert a leave? -/
noncomputable def provB (r : Rk) (xs : List Int) (st dr : Int) : Bool := decide (pinErr r xs = 0) && (inB st 0 60 && (inB dr (-3) 3 && convB r (pinS r xs) st dr (carryOf r.links false)))
set_option maxRecDepth 100000 in
set_option maxHeartbeats 8000000 in
theorem prove_c (r : Rk) (A xA : Option Addr) (c cx : Nat) (xs : List Int) (st dr : Int) (w : World) (hl : Lks w.heap.size w A r.links) (hc : r.links.length ≤ c ∧ c ≤ 9223372036854775807) (hx : Ints w.heap.size w xA xs) (hcx : xs.length ≤ cx ∧ cx ≤ 9223372036854775807) :
    Calls Try.prog 25 #[.agg #[.int .i64 r.rows, .int .i64 r.mid, .int .i64 r.gap, .int .i64 r.reach, .slice A r.links.length c], .slice xA xs.length cx, .agg #[.int .i64 st, .int .i64 dr]] w (Ans w (.bool (provB r xs st dr))) := by
  have HB := Lib.hid (Below.refl w.heap.size w)
  have HL := Lib.hid hl
  have HX := Lib.hid hx
  clear hl hx
  have hb : Below w.heap.size w (w.alloc (.cells #[.int .i64 r.rows, .int .i64 r.mid, .int .i64 r.gap, .int .i64 r.reach, .slice A r.links.length c] 39)) := (Below.refl _ _).alloc (Nat.le_refl _) _
  replace HL := Lib.hid (HL.out.step hb)
  replace HX := Lib.hid (HX.out.step hb)
  replace HB := Lib.hid (HB.out.trans (hb.mono HB.out.size))
  clear hb
  have k0 : (w.alloc (.cells #[.int .i64 r.rows, .int .i64 r.mid, .int .i64 r.gap, .int .i64 r.reach, .slice A r.links.length c] 39)).cell? ⟨w.heap.size, 0, none⟩ = some (.int .i64 r.rows) := by simp
  have k1 : (w.alloc (.cells #[.int .i64 r.rows, .int .i64 r.mid, .int .i64 r.gap, .int .i64 r.reach, .slice A r.links.length c] 39)).cell? ⟨w.heap.size, 1, none⟩ = some (.int .i64 r.mid) := by simp
  have k2 : (w.alloc (.cells #[.int .i64 r.rows, .int .i64 r.mid, .int .i64 r.gap, .int .i64 r.reach, .slice A r.links.length c] 39)).cell? ⟨w.heap.size, 2, none⟩ = some (.int .i64 r.gap) := by simp
  have k3 : (w.alloc (.cells #[.int .i64 r.rows, .int .i64 r.mid, .int .i64 r.gap, .int .i64 r.reach, .slice A r.links.length c] 39)).cell? ⟨w.heap.size, 3, none⟩ = some (.int .i64 r.reach) := by simp
  have k4 : (w.alloc (.cells #[.int .i64 r.rows, .int .i64 r.mid, .int .i64 r.gap, .int .i64 r.reach, .slice A r.links.length c] 39)).cell? ⟨w.heap.size, 4, none⟩ = some (.slice A r.links.length c) := by simp
  have hb : Below (w.alloc (.cells #[.int .i64 r.rows, .int .i64 r.mid, .int .i64 r.gap, .int .i64 r.reach, .slice A r.links.length c] 39)).heap.size (w.alloc (.cells #[.int .i64 r.rows, .int .i64 r.mid, .int .i64 r.gap, .int .i64 r.reach, .slice A r.links.length c] 39)) ((w.alloc (.cells #[.int .i64 r.rows, .int .i64 r.mid, .int .i64 r.gap, .int .i64 r.reach, .slice A r.links.length c] 39)).alloc (.cells #[.int .i64 st, .int .i64 dr] 51)) := (Below.refl _ _).alloc (Nat.le_refl _) _
  replace HL := Lib.hid (HL.out.step hb)
  replace HX := Lib.hid (HX.out.step hb)
  replace k0 := cell_of_ans hb k0
  replace k1 := cell_of_ans hb k1
  replace k2 := cell_of_ans hb k2
  replace k3 := cell_of_ans hb k3
  replace k4 := cell_of_ans hb k4
  replace HB := Lib.hid (HB.out.trans (hb.mono HB.out.size))
  clear hb
  have s0 : ((w.alloc (.cells #[.int .i64 r.rows, .int .i64 r.mid, .int .i64 r.gap, .int .i64 r.reach, .slice A r.links.length c] 39)).alloc (.cells #[.int .i64 st, .int .i64 dr] 51)).cell? ⟨w.heap.size + 1, 0, none⟩ = some (.int .i64 st) := by simp
  have s1 : ((w.alloc (.cells #[.int .i64 r.rows, .int .i64 r.mid, .int .i64 r.gap, .int .i64 r.reach, .slice A r.links.length c] 39)).alloc (.cells #[.int .i64 st, .int .i64 dr] 51)).cell? ⟨w.heap.size + 1, 1, none⟩ = some (.int .i64 dr) := by simp
  have HPV : Hid (provB r xs st dr = (decide (pinErr r xs = 0) && (inB st 0 60 && (inB dr (-3) 3 && convB r (pinS r xs) st dr (carryOf r.links false))))) := rfl
  by_cases he : pinErr r xs = 0
  · have hr := rackOk (pinErr_rack he)
    have hpl := pinS_lt (r := r) (xs := xs)
    rw [decide_eq_true he] at HPV
    go_enter Try.func25, Try.ntmps25
    go_wp2_with fail
    generalize ((w.alloc (.cells #[.int .i64 r.rows, .int .i64 r.mid, .int .i64 r.gap, .int .i64 r.reach, .slice A r.links.length c] 39)).alloc (.cells #[.int .i64 st, .int .i64 dr] 51)) = x2 at *
    skip
    refine (pinned_c r A xA c cx xs _ HL.out hc HX.out hcx).mono ?_
    rw [he]
    rintro e x1 ⟨rfl, hb⟩
    replace HL := Lib.hid (HL.out.step hb)
    replace HX := Lib.hid (HX.out.step hb)
    replace k0 := cell_of_ans hb k0
    replace k1 := cell_of_ans hb k1
    replace k2 := cell_of_ans hb k2
    replace k3 := cell_of_ans hb k3
    replace k4 := cell_of_ans hb k4
    replace s0 := cell_of_ans hb s0
    replace s1 := cell_of_ans hb s1
    replace HB := Lib.hid (HB.out.trans (hb.mono HB.out.size))
    clear hb
    generalize pinS r xs = pins at *
    clear he
    have ltk0 := World.block_lt_of_cell? _ _ k0
    dsimp only at ltk0
    have lts0 := World.block_lt_of_cell? _ _ s0
    dsimp only at lts0
    cases e1 : inB st 0 60
    · rw [e1] at HPV
      go_wp2_with (go_at_call 65; refine (within_c _ _ _ _).mono ?_; rintro e w1 ⟨rfl, rfl⟩)
      go_ret
      exact ⟨ret_bool (by rw [HPV.out]; rfl), HB.out⟩
    · cases e2 : inB dr (-3) 3
      · rw [e1, e2] at HPV
        go_wp2_with (go_at_call 65; refine (within_c _ _ _ _).mono ?_; rintro e w1 ⟨rfl, rfl⟩)
        go_ret
        exact ⟨ret_bool (by rw [HPV.out]; rfl), HB.out⟩
      · rw [e1, e2] at HPV
        obtain ⟨ha1, ha2⟩ := (inB_eq _ _ _).1 e1
        obtain ⟨ha3, ha4⟩ := (inB_eq _ _ _).1 e2
        have HCV : Hid (∀ W, Lks W.heap.size W A r.links → Calls Try.prog 64 #[.agg #[.int .i64 r.rows, .int .i64 r.mid, .int .i64 r.gap, .int .i64 r.reach, .slice A r.links.length c, .int .u16 (pins : Int)], .agg #[.int .i64 st, .int .i64 dr], .agg #[.func (.func 56) #[] #[]]] W (Ans W (.bool (convB r pins st dr (carryOf r.links false))))) := fun W h => converts_c r A c pins 56 st dr (carryOf r.links false) W hr hpl ha1 ha2 ha3 ha4 h hc enters56 (carryOf_c r.links false)
        go_wp2_with (go_at_call 65; refine (within_c _ _ _ _).mono ?_; rintro e w1 ⟨rfl, rfl⟩)
        refine (HCV.out _ HL.out).mono ?_
        rintro e x2 ⟨rfl, hb⟩
        replace HL := Lib.hid (HL.out.step hb)
        replace HX := Lib.hid (HX.out.step hb)
        replace k0 := cell_of_ans hb k0
        replace k1 := cell_of_ans hb k1
        replace k2 := cell_of_ans hb k2
        replace k3 := cell_of_ans hb k3
        replace k4 := cell_of_ans hb k4
        replace s0 := cell_of_ans hb s0
        replace s1 := cell_of_ans hb s1
        replace HB := Lib.hid (HB.out.trans (hb.mono HB.out.size))
        clear hb
        go_wp2_with fail
        go_ret
        exact ⟨ret_bool (by rw [HPV.out]; rfl), HB.out⟩
  · have hne : (pinErr r xs == 0) = false := by simp [he]
    rw [decide_eq_false he] at HPV
    clear he
    go_enter Try.func25, Try.ntmps25
    go_wp2_with fail
    generalize ((w.alloc (.cells #[.int .i64 r.rows, .int .i64 r.mid, .int .i64 r.gap, .int .i64 r.reach, .slice A r.links.length c] 39)).alloc (.cells #[.int .i64 st, .int .i64 dr] 51)) = x2 at *
    refine (pinned_c r A xA c cx xs _ HL.out hc HX.out hcx).mono ?_
    rintro e x3 ⟨rfl, hb⟩
    replace HL := Lib.hid (HL.out.step hb)
    replace HX := Lib.hid (HX.out.step hb)
    replace k0 := cell_of_ans hb k0
    replace k1 := cell_of_ans hb k1
    replace k2 := cell_of_ans hb k2
    replace k3 := cell_of_ans hb k3
    replace k4 := cell_of_ans hb k4
    replace s0 := cell_of_ans hb s0
    replace s1 := cell_of_ans hb s1
    replace HB := Lib.hid (HB.out.trans (hb.mono HB.out.size))
    clear hb
    go_wp2_with fail
    go_ret
    exact ⟨ret_bool (by rw [HPV.out]; rfl), HB.out⟩

set_option maxRecDepth 100000 in
set_option maxHeartbeats 16000000 in
theorem convert_c (r : Rk) (A xA : Option Addr) (c cx : Nat) (xs : List Int) (may : Bool) (w : World) (hl : Lks w.heap.size w A r.links) (hc : r.links.length ≤ c ∧ c ≤ 9223372036854775807) (hx : Ints w.heap.size w xA xs) (hcx : xs.length ≤ cx ∧ cx ≤ 9223372036854775807) :
    Calls Try.prog 24 #[.agg #[.int .i64 r.rows, .int .i64 r.mid, .int .i64 r.gap, .int .i64 r.reach, .slice A r.links.length c], .slice xA xs.length cx, .bool may] w (Ans w (.tuple #[.agg #[.int .i64 (cvLn r xs may).1, .int .i64 (cvLn r xs may).2], .int .i64 (cvErr r xs may)])) := by
  have HB := Lib.hid (Below.refl w.heap.size w)
  have HL := Lib.hid hl
  have HX := Lib.hid hx
  clear hl hx
  have hb : Below w.heap.size w (w.alloc (.cells #[.int .i64 r.rows, .int .i64 r.mid, .int .i64 r.gap, .int .i64 r.reach, .slice A r.links.length c] 39)) := (Below.refl _ _).alloc (Nat.le_refl _) _
  replace HL := Lib.hid (HL.out.step hb)
  replace HX := Lib.hid (HX.out.step hb)
  replace HB := Lib.hid (HB.out.trans (hb.mono HB.out.size))
  clear hb
  have k0 : (w.alloc (.cells #[.int .i64 r.rows, .int .i64 r.mid, .int .i64 r.gap, .int .i64 r.reach, .slice A r.links.length c] 39)).cell? ⟨w.heap.size, 0, none⟩ = some (.int .i64 r.rows) := by simp
  have k1 : (w.alloc (.cells #[.int .i64 r.rows, .int .i64 r.mid, .int .i64 r.gap, .int .i64 r.reach, .slice A r.links.length c] 39)).cell? ⟨w.heap.size, 1, none⟩ = some (.int .i64 r.mid) := by simp
  have k2 : (w.alloc (.cells #[.int .i64 r.rows, .int .i64 r.mid, .int .i64 r.gap, .int .i64 r.reach, .slice A r.links.length c] 39)).cell? ⟨w.heap.size, 2, none⟩ = some (.int .i64 r.gap) := by simp
  have k3 : (w.alloc (.cells #[.int .i64 r.rows, .int .i64 r.mid, .int .i64 r.gap, .int .i64 r.reach, .slice A r.links.length c] 39)).cell? ⟨w.heap.size, 3, none⟩ = some (.int .i64 r.reach) := by simp
  have k4 : (w.alloc (.cells #[.int .i64 r.rows, .int .i64 r.mid, .int .i64 r.gap, .int .i64 r.reach, .slice A r.links.length c] 39)).cell? ⟨w.heap.size, 4, none⟩ = some (.slice A r.links.length c) := by simp
  have hb : Below (w.alloc (.cells #[.int .i64 r.rows, .int .i64 r.mid, .int .i64 r.gap, .int .i64 r.reach, .slice A r.links.length c] 39)).heap.size (w.alloc (.cells #[.int .i64 r.rows, .int .i64 r.mid, .int .i64 r.gap, .int .i64 r.reach, .slice A r.links.length c] 39)) ((w.alloc (.cells #[.int .i64 r.rows, .int .i64 r.mid, .int .i64 r.gap, .int .i64 r.reach, .slice A r.links.length c] 39)).alloc (.cells #[.int .i64 0, .int .i64 0] 51)) := (Below.refl _ _).alloc (Nat.le_refl _) _
  replace HL := Lib.hid (HL.out.step hb)
  replace HX := Lib.hid (HX.out.step hb)
  replace k0 := cell_of_ans hb k0
  replace k1 := cell_of_ans hb k1
  replace k2 := cell_of_ans hb k2
  replace k3 := cell_of_ans hb k3
  replace k4 := cell_of_ans hb k4
  replace HB := Lib.hid (HB.out.trans (hb.mono HB.out.size))
  clear hb
  have HZ : Hid (At2 ((w.alloc (.cells #[.int .i64 r.rows, .int .i64 r.mid, .int .i64 r.gap, .int .i64 r.reach, .slice A r.links.length c] 39)).alloc (.cells #[.int .i64 0, .int .i64 0] 51)) (w.heap.size + 1) 51 0 0) := by show At2 _ _ _ _ _; unfold At2; rw [show w.heap.size + 1 = (w.alloc (.cells #[.int .i64 r.rows, .int .i64 r.mid, .int .i64 r.gap, .int .i64 r.reach, .slice A r.links.length c] 39)).heap.size by simp]; exact World.alloc_heap_new _ _
  have HCE : Hid (cvErr r xs may = if pinErr r xs = 0 then (if (convO r (pinS r xs) (carryOf r.links may)).isSome then 0 else 9) else pinErr r xs) := rfl
  have HCL : Hid (cvLn r xs may = if pinErr r xs = 0 then (match convO r (pinS r xs) (carryOf r.links may) with | some n => (lineS n, lineD n) | none => (0, 0)) else (0, 0)) := rfl
  by_cases he : pinErr r xs = 0
  · rw [if_pos he] at HCE HCL
    have hr := rackOk (pinErr_rack he)
    have hpl := pinS_lt (r := r) (xs := xs)
    cases may
    all_goals
      go_enter Try.func24, Try.ntmps24
      go_wp2_with fail
      refine wp_scope_straight ?_
      go_wp2_with fail
      generalize ((w.alloc (.cells #[.int .i64 r.rows, .int .i64 r.mid, .int .i64 r.gap, .int .i64 r.reach, .slice A r.links.length c] 39)).alloc (.cells #[.int .i64 0, .int .i64 0] 51)) = x2 at *
      refine (pinned_c r A xA c cx xs _ HL.out hc HX.out hcx).mono ?_
      rw [he]
      rintro e x3 ⟨rfl, hb⟩
      replace HL := Lib.hid (HL.out.step hb)
      replace HX := Lib.hid (HX.out.step hb)
      replace k0 := cell_of_ans hb k0
      replace k1 := cell_of_ans hb k1
      replace k2 := cell_of_ans hb k2
      replace k3 := cell_of_ans hb k3
      replace k4 := cell_of_ans hb k4
      replace HZ := Lib.hid (HZ.out.step hb)
      replace HB := Lib.hid (HB.out.trans (hb.mono HB.out.size))
      clear hb
      generalize pinS r xs = pins at *
      clear he
      go_wp2_with fail
    · have ltk0 := World.block_lt_of_cell? _ _ k0
      dsimp only at ltk0
      have hb : Below x3.heap.size x3 (x3.alloc (.cells #[.func (.func 56) #[] #[]] 112)) := (Below.refl _ _).alloc (Nat.le_refl _) _
      replace HL := Lib.hid (HL.out.step hb)
      replace HX := Lib.hid (HX.out.step hb)
      replace k0 := cell_of_ans hb k0
      replace k1 := cell_of_ans hb k1
      replace k2 := cell_of_ans hb k2
      replace k3 := cell_of_ans hb k3
      replace k4 := cell_of_ans hb k4
      replace HZ := Lib.hid (HZ.out.step hb)
      replace HB := Lib.hid (HB.out.trans (hb.mono HB.out.size))
      clear hb
      have c0 : (x3.alloc (.cells #[.func (.func 56) #[] #[]] 112)).cell? ⟨x3.heap.size, 0, none⟩ = some (.func (.func 56) #[] #[]) := by simp
      have hb : Below (x3.alloc (.cells #[.func (.func 56) #[] #[]] 112)).heap.size (x3.alloc (.cells #[.func (.func 56) #[] #[]] 112)) ((x3.alloc (.cells #[.func (.func 56) #[] #[]] 112)).alloc (.cells #[.int .i64 0, .int .i64 0] 51)) := (Below.refl _ _).alloc (Nat.le_refl _) _
      replace HL := Lib.hid (HL.out.step hb)
      replace HX := Lib.hid (HX.out.step hb)
      replace k0 := cell_of_ans hb k0
      replace k1 := cell_of_ans hb k1
      replace k2 := cell_of_ans hb k2
      replace k3 := cell_of_ans hb k3
      replace k4 := cell_of_ans hb k4
      replace HZ := Lib.hid (HZ.out.step hb)
      replace c0 := cell_of_ans hb c0
      replace HB := Lib.hid (HB.out.trans (hb.mono HB.out.size))
      clear hb
      have HFo : Hid (At2 ((x3.alloc (.cells #[.func (.func 56) #[] #[]] 112)).alloc (.cells #[.int .i64 0, .int .i64 0] 51)) (x3.heap.size + 1) 51 0 0) := by show At2 _ _ _ _ _; unfold At2; rw [show x3.heap.size + 1 = (x3.alloc (.cells #[.func (.func 56) #[] #[]] 112)).heap.size by simp]; exact World.alloc_heap_new _ _
      generalize ((x3.alloc (.cells #[.func (.func 56) #[] #[]] 112)).alloc (.cells #[.int .i64 0, .int .i64 0] 51)) = x5 at *
      obtain ⟨cq, hcq⟩ : ∃ cq, cq = x3.heap.size := ⟨_, rfl⟩
      rw [← hcq] at c0 HFo ltk0
      simp only [← hcq]
      have hwq : w.heap.size < cq := ltk0
      skip
      clear hcq ltk0
      have hz5 := HZ.out.lt
      have hf5 := HFo.out.lt
      have hne1 : Hid (w.heap.size + 1 ≠ cq + 1) := by show _ ≠ _; omega
      refine wp_label ?_
      go_wp2_with fail
      go_loopw [30, 12] (fun i f wr => ∃ i' : Nat, i' ≤ 61 ∧ i = .int .i64 i' ∧ f = .bool false ∧ (∀ m, m < 7 * i' → cvN r pins (carryOf r.links false) m = false) ∧ Below x5.heap.size x5 wr) (fun i _ _ => 61 - (intOf i).toNat)
      case atStart => exact ⟨0, by omega, rfl, rfl, fun m hm => by omega, Below.refl _ _⟩
      case round =>
        obtain ⟨i, hi, rfl, rfl, hno, hb⟩ := hrel
        have HNO := Lib.hid hno
        have HBI := Lib.hid hb
        clear hno hb
        by_cases h1 : i < 61
        · have h1i : (i : Int) < 61 := by omega
          go_wp2_with fail
          go_loopw [14, 12] (fun d f wt => ∃ j : Nat, j ≤ 7 ∧ d = .int .i64 ((j : Int) - 3) ∧ f = .bool false ∧ (∀ m, m < 7 * i + j → cvN r pins (carryOf r.links false) m = false) ∧ Below x5.heap.size x5 wt) (fun d _ _ => (4 - intOf d).toNat)
          case atStart => exact ⟨0, by omega, rfl, rfl, fun m hm => HNO.out m (by omega), HBI.out⟩
          case round =>
            obtain ⟨j, hj, rfl, rfl, hno, hb⟩ := hrel
            rename World => wt
            have HNJ := Lib.hid hno
            have HBJ := Lib.hid hb
            by_cases h2 : j < 7
            · have h2i : (j : Int) - 3 ≤ 3 := by omega
              have t0 := cell_of_ans hb k0
              have t1 := cell_of_ans hb k1
              have t2 := cell_of_ans hb k2
              have t3 := cell_of_ans hb k3
              have t4 := cell_of_ans hb k4
              have d0 := cell_of_ans hb c0
              have lt0 := World.block_lt_of_cell? _ _ t0
              have lt1 := World.block_lt_of_cell? _ _ d0
              dsimp only at lt0 lt1
              have hbl : Below x5.heap.size x5 (wt.alloc (.cells #[.int .i64 (i : Int), .int .i64 ((j : Int) - 3)] 51)) := hb.alloc hb.size _
              have HBL := Lib.hid hbl
              have HLl := Lib.hid (HL.out.step hbl)
              have HCN : Hid (cvN r pins (carryOf r.links false) (7 * i + j) = convB r pins (i : Int) ((j : Int) - 3) (carryOf r.links false)) := by
                show _ = _
                rw [cvN, (line_at i j h2).1, (line_at i j h2).2]
              have HCV := Lib.hid (converts_c r A c pins 56 (i : Int) ((j : Int) - 3) (carryOf r.links false) (wt.alloc (.cells #[.int .i64 (i : Int), .int .i64 ((j : Int) - 3)] 51)) hr hpl (by omega) (by omega) (by omega) (by omega) HLl.out hc enters56 (carryOf_c r.links false))
              have hw : IntKind.i64.wrap ((j : Int) - 3 + 1) = (j : Int) - 3 + 1 := IntWalk.i64_in _ (by omega)
              have l0 : (wt.alloc (.cells #[.int .i64 (i : Int), .int .i64 ((j : Int) - 3)] 51)).cell? ⟨wt.heap.size, 0, none⟩ = some (.int .i64 (i : Int)) := by simp
              have l1 : (wt.alloc (.cells #[.int .i64 (i : Int), .int .i64 ((j : Int) - 3)] 51)).cell? ⟨wt.heap.size, 1, none⟩ = some (.int .i64 ((j : Int) - 3)) := by simp
              cases e1 : convB r pins (i : Int) ((j : Int) - 3) (carryOf r.links false)
              · rw [e1] at HCV HCN
                clear e1 hno hb hbl
                go_wp2_with fail
                refine HCV.out.mono ?_
                rintro e w3 ⟨rfl, hb3⟩
                have HB3 := Lib.hid hb3
                clear hb3
                go_wp2_with fail
                go_roundw
                case rel => exact ⟨j + 1, by omega, by congr 1; omega, rfl, fun m hm => (by
                  by_cases e : m = 7 * i + j
                  · rw [e]; exact HCN.out
                  · exact HNJ.out m (by omega)), HBL.out.trans (HB3.out.mono HBL.out.size)⟩
                case measure => simp [intOf]; omega
              · rw [e1] at HCV HCN
                have HCO : Hid (convO r pins (carryOf r.links false) = some (7 * i + j)) := convO_some (by omega) HCN.out HNJ.out
                have HLA : Hid (lineS (7 * i + j) = (i : Int) ∧ lineD (7 * i + j) = (j : Int) - 3) := line_at i j h2
                clear e1 hno hb hbl
                go_wp2_with fail
                refine HCV.out.mono ?_
                rintro e w3 ⟨rfl, hb3⟩
                have HBW : Hid (Below x5.heap.size x5 w3) := HBL.out.trans (hb3.mono HBL.out.size)
                replace l0 := cell_of_ans hb3 l0
                replace l1 := cell_of_ans hb3 l1
                clear hb3
                have HZ3 := Lib.hid (HZ.out.step HBW.out)
                have HF3 := Lib.hid (HFo.out.step HBW.out)
                have HF4 := Lib.hid (HF3.out.set (i : Int) ((j : Int) - 3))
                have HZ4 := Lib.hid ((HZ3.out.far (i := 0) hne1.out (.int .i64 (i : Int))).far (i := 1) hne1.out (.int .i64 ((j : Int) - 3)))
                have HB4 : Hid (Below w.heap.size w ((w3.setCell ⟨cq + 1, 0, none⟩ (.int .i64 (i : Int))).setCell ⟨cq + 1, 1, none⟩ (.int .i64 ((j : Int) - 3)))) := ((HB.out.trans (HBW.out.mono HB.out.size)).setCell (by dsimp only; omega) _).setCell (by dsimp only; omega) _
                obtain ⟨⟨f0, f1⟩, ff⟩ := HF3.out.cells
                have ff0 := ff 0
                have ff1 := ff 1
                clear ff k0 k1 k2 k3 k4 t0 t1 t2 t3 t4 c0 d0
                go_upto_region 18 with fail
                generalize (w3.setCell ⟨cq + 1, 0, none⟩ (.int .i64 (i : Int))).setCell ⟨cq + 1, 1, none⟩ (.int .i64 ((j : Int) - 3)) = w4 at *
                obtain ⟨⟨g0, g1⟩, -⟩ := HF4.out.cells
                obtain ⟨⟨z0, z1⟩, zf⟩ := HZ4.out.cells
                have zf0 := zf 0
                have zf1 := zf 1
                have HF := Lib.hid (HZ4.out.set ((i : Int)) ((j : Int) - 3))
                have HBF : Hid (Below w.heap.size w ((w4.setCell ⟨w.heap.size + 1, 0, none⟩ (.int .i64 ((i : Int)))).setCell ⟨w.heap.size + 1, 1, none⟩ (.int .i64 ((j : Int) - 3)))) := (HB4.out.setCell (by simp) _).setCell (by simp) _
                clear zf
                go_wp2_with fail
                generalize (w4.setCell ⟨w.heap.size + 1, 0, none⟩ (.int .i64 ((i : Int)))).setCell ⟨w.heap.size + 1, 1, none⟩ (.int .i64 ((j : Int) - 3)) = W9 at *
                obtain ⟨⟨y0, y1⟩, -⟩ := HF.out.cells
                refine bodyPost_ret (v := .tuple #[.agg #[.int .i64 ((i : Int)), .int .i64 ((j : Int) - 3)], .int .i64 (0)]) (by simp [results, Try.results24, go_sem, y0, y1]) rfl ?_
                exact ⟨by rw [HCL.out, HCE.out, HCO.out]; simp [HLA.out.1, HLA.out.2], HBF.out⟩
            · have h2i : ¬ (j : Int) - 3 ≤ 3 := by omega
              obtain rfl : j = 7 := by omega
              clear hno hb
              go_wp2_with fail
              go_roundw
              case rel => exact ⟨i + 1, by omega, by go_num, rfl, fun m hm => HNJ.out m (by omega), HBJ.out⟩
              case measure => simp [intOf]; omega
        · have h1i : ¬ (i : Int) < 61 := by omega
          obtain rfl : i = 61 := by omega
          have HCO : Hid (convO r pins (carryOf r.links false) = none) := convO_none fun m hm => HNO.out m (by omega)
          have HZ3 := Lib.hid (HZ.out.step HBI.out)
          have HB4 : Hid (Below w.heap.size w wr) := HB.out.trans (HBI.out.mono HB.out.size)
          clear k0 k1 k2 k3 k4 c0
          obtain ⟨⟨z0, z1⟩, zf⟩ := HZ3.out.cells
          have zf0 := zf 0
          have zf1 := zf 1
          have HF := Lib.hid (HZ3.out.set (0) (0))
          have HBF : Hid (Below w.heap.size w ((wr.setCell ⟨w.heap.size + 1, 0, none⟩ (.int .i64 (0))).setCell ⟨w.heap.size + 1, 1, none⟩ (.int .i64 (0)))) := (HB4.out.setCell (by simp) _).setCell (by simp) _
          clear zf
          go_wp2_with fail
          generalize (wr.setCell ⟨w.heap.size + 1, 0, none⟩ (.int .i64 (0))).setCell ⟨w.heap.size + 1, 1, none⟩ (.int .i64 (0)) = W9 at *
          obtain ⟨⟨y0, y1⟩, -⟩ := HF.out.cells
          refine bodyPost_ret (v := .tuple #[.agg #[.int .i64 (0), .int .i64 (0)], .int .i64 (9)]) (by simp [results, Try.results24, go_sem, y0, y1]) rfl ?_
          exact ⟨by rw [HCL.out, HCE.out, HCO.out]; simp, HBF.out⟩
    · have ltk0 := World.block_lt_of_cell? _ _ k0
      dsimp only at ltk0
      have hb : Below x3.heap.size x3 (x3.alloc (.cells #[.func (.func 57) #[] #[]] 112)) := (Below.refl _ _).alloc (Nat.le_refl _) _
      replace HL := Lib.hid (HL.out.step hb)
      replace HX := Lib.hid (HX.out.step hb)
      replace k0 := cell_of_ans hb k0
      replace k1 := cell_of_ans hb k1
      replace k2 := cell_of_ans hb k2
      replace k3 := cell_of_ans hb k3
      replace k4 := cell_of_ans hb k4
      replace HZ := Lib.hid (HZ.out.step hb)
      replace HB := Lib.hid (HB.out.trans (hb.mono HB.out.size))
      clear hb
      have c0 : (x3.alloc (.cells #[.func (.func 57) #[] #[]] 112)).cell? ⟨x3.heap.size, 0, none⟩ = some (.func (.func 57) #[] #[]) := by simp
      have hb : Below (x3.alloc (.cells #[.func (.func 57) #[] #[]] 112)).heap.size (x3.alloc (.cells #[.func (.func 57) #[] #[]] 112)) ((x3.alloc (.cells #[.func (.func 57) #[] #[]] 112)).alloc (.cells #[.int .i64 0, .int .i64 0] 51)) := (Below.refl _ _).alloc (Nat.le_refl _) _
      replace HL := Lib.hid (HL.out.step hb)
      replace HX := Lib.hid (HX.out.step hb)
      replace k0 := cell_of_ans hb k0
      replace k1 := cell_of_ans hb k1
      replace k2 := cell_of_ans hb k2
      replace k3 := cell_of_ans hb k3
      replace k4 := cell_of_ans hb k4
      replace HZ := Lib.hid (HZ.out.step hb)
      replace c0 := cell_of_ans hb c0
      replace HB := Lib.hid (HB.out.trans (hb.mono HB.out.size))
      clear hb
      have HFo : Hid (At2 ((x3.alloc (.cells #[.func (.func 57) #[] #[]] 112)).alloc (.cells #[.int .i64 0, .int .i64 0] 51)) (x3.heap.size + 1) 51 0 0) := by show At2 _ _ _ _ _; unfold At2; rw [show x3.heap.size + 1 = (x3.alloc (.cells #[.func (.func 57) #[] #[]] 112)).heap.size by simp]; exact World.alloc_heap_new _ _
      generalize ((x3.alloc (.cells #[.func (.func 57) #[] #[]] 112)).alloc (.cells #[.int .i64 0, .int .i64 0] 51)) = x5 at *
      obtain ⟨cq, hcq⟩ : ∃ cq, cq = x3.heap.size := ⟨_, rfl⟩
      rw [← hcq] at c0 HFo ltk0
      simp only [← hcq]
      have hwq : w.heap.size < cq := ltk0
      skip
      clear hcq ltk0
      have hz5 := HZ.out.lt
      have hf5 := HFo.out.lt
      have hne1 : Hid (w.heap.size + 1 ≠ cq + 1) := by show _ ≠ _; omega
      refine wp_label ?_
      go_wp2_with fail
      go_loopw [30, 12] (fun i f wr => ∃ i' : Nat, i' ≤ 61 ∧ i = .int .i64 i' ∧ f = .bool false ∧ (∀ m, m < 7 * i' → cvN r pins (carryOf r.links true) m = false) ∧ Below x5.heap.size x5 wr) (fun i _ _ => 61 - (intOf i).toNat)
      case atStart => exact ⟨0, by omega, rfl, rfl, fun m hm => by omega, Below.refl _ _⟩
      case round =>
        obtain ⟨i, hi, rfl, rfl, hno, hb⟩ := hrel
        have HNO := Lib.hid hno
        have HBI := Lib.hid hb
        clear hno hb
        by_cases h1 : i < 61
        · have h1i : (i : Int) < 61 := by omega
          go_wp2_with fail
          go_loopw [14, 12] (fun d f wt => ∃ j : Nat, j ≤ 7 ∧ d = .int .i64 ((j : Int) - 3) ∧ f = .bool false ∧ (∀ m, m < 7 * i + j → cvN r pins (carryOf r.links true) m = false) ∧ Below x5.heap.size x5 wt) (fun d _ _ => (4 - intOf d).toNat)
          case atStart => exact ⟨0, by omega, rfl, rfl, fun m hm => HNO.out m (by omega), HBI.out⟩
          case round =>
            obtain ⟨j, hj, rfl, rfl, hno, hb⟩ := hrel
            rename World => wt
            have HNJ := Lib.hid hno
            have HBJ := Lib.hid hb
            by_cases h2 : j < 7
            · have h2i : (j : Int) - 3 ≤ 3 := by omega
              have t0 := cell_of_ans hb k0
              have t1 := cell_of_ans hb k1
              have t2 := cell_of_ans hb k2
              have t3 := cell_of_ans hb k3
              have t4 := cell_of_ans hb k4
              have d0 := cell_of_ans hb c0
              have lt0 := World.block_lt_of_cell? _ _ t0
              have lt1 := World.block_lt_of_cell? _ _ d0
              dsimp only at lt0 lt1
              have hbl : Below x5.heap.size x5 (wt.alloc (.cells #[.int .i64 (i : Int), .int .i64 ((j : Int) - 3)] 51)) := hb.alloc hb.size _
              have HBL := Lib.hid hbl
              have HLl := Lib.hid (HL.out.step hbl)
              have HCN : Hid (cvN r pins (carryOf r.links true) (7 * i + j) = convB r pins (i : Int) ((j : Int) - 3) (carryOf r.links true)) := by
                show _ = _
                rw [cvN, (line_at i j h2).1, (line_at i j h2).2]
              have HCV := Lib.hid (converts_c r A c pins 57 (i : Int) ((j : Int) - 3) (carryOf r.links true) (wt.alloc (.cells #[.int .i64 (i : Int), .int .i64 ((j : Int) - 3)] 51)) hr hpl (by omega) (by omega) (by omega) (by omega) HLl.out hc enters57 (carryOf_c r.links true))
              have hw : IntKind.i64.wrap ((j : Int) - 3 + 1) = (j : Int) - 3 + 1 := IntWalk.i64_in _ (by omega)
              have l0 : (wt.alloc (.cells #[.int .i64 (i : Int), .int .i64 ((j : Int) - 3)] 51)).cell? ⟨wt.heap.size, 0, none⟩ = some (.int .i64 (i : Int)) := by simp
              have l1 : (wt.alloc (.cells #[.int .i64 (i : Int), .int .i64 ((j : Int) - 3)] 51)).cell? ⟨wt.heap.size, 1, none⟩ = some (.int .i64 ((j : Int) - 3)) := by simp
              cases e1 : convB r pins (i : Int) ((j : Int) - 3) (carryOf r.links true)
              · rw [e1] at HCV HCN
                clear e1 hno hb hbl
                go_wp2_with fail
                refine HCV.out.mono ?_
                rintro e w3 ⟨rfl, hb3⟩
                have HB3 := Lib.hid hb3
                clear hb3
                go_wp2_with fail
                go_roundw
                case rel => exact ⟨j + 1, by omega, by congr 1; omega, rfl, fun m hm => (by
                  by_cases e : m = 7 * i + j
                  · rw [e]; exact HCN.out
                  · exact HNJ.out m (by omega)), HBL.out.trans (HB3.out.mono HBL.out.size)⟩
                case measure => simp [intOf]; omega
              · rw [e1] at HCV HCN
                have HCO : Hid (convO r pins (carryOf r.links true) = some (7 * i + j)) := convO_some (by omega) HCN.out HNJ.out
                have HLA : Hid (lineS (7 * i + j) = (i : Int) ∧ lineD (7 * i + j) = (j : Int) - 3) := line_at i j h2
                clear e1 hno hb hbl
                go_wp2_with fail
                refine HCV.out.mono ?_
                rintro e w3 ⟨rfl, hb3⟩
                have HBW : Hid (Below x5.heap.size x5 w3) := HBL.out.trans (hb3.mono HBL.out.size)
                replace l0 := cell_of_ans hb3 l0
                replace l1 := cell_of_ans hb3 l1
                clear hb3
                have HZ3 := Lib.hid (HZ.out.step HBW.out)
                have HF3 := Lib.hid (HFo.out.step HBW.out)
                have HF4 := Lib.hid (HF3.out.set (i : Int) ((j : Int) - 3))
                have HZ4 := Lib.hid ((HZ3.out.far (i := 0) hne1.out (.int .i64 (i : Int))).far (i := 1) hne1.out (.int .i64 ((j : Int) - 3)))
                have HB4 : Hid (Below w.heap.size w ((w3.setCell ⟨cq + 1, 0, none⟩ (.int .i64 (i : Int))).setCell ⟨cq + 1, 1, none⟩ (.int .i64 ((j : Int) - 3)))) := ((HB.out.trans (HBW.out.mono HB.out.size)).setCell (by dsimp only; omega) _).setCell (by dsimp only; omega) _
                obtain ⟨⟨f0, f1⟩, ff⟩ := HF3.out.cells
                have ff0 := ff 0
                have ff1 := ff 1
                clear ff k0 k1 k2 k3 k4 t0 t1 t2 t3 t4 c0 d0
                go_upto_region 18 with fail
                generalize (w3.setCell ⟨cq + 1, 0, none⟩ (.int .i64 (i : Int))).setCell ⟨cq + 1, 1, none⟩ (.int .i64 ((j : Int) - 3)) = w4 at *
                obtain ⟨⟨g0, g1⟩, -⟩ := HF4.out.cells
                obtain ⟨⟨z0, z1⟩, zf⟩ := HZ4.out.cells
                have zf0 := zf 0
                have zf1 := zf 1
                have HF := Lib.hid (HZ4.out.set ((i : Int)) ((j : Int) - 3))
                have HBF : Hid (Below w.heap.size w ((w4.setCell ⟨w.heap.size + 1, 0, none⟩ (.int .i64 ((i : Int)))).setCell ⟨w.heap.size + 1, 1, none⟩ (.int .i64 ((j : Int) - 3)))) := (HB4.out.setCell (by simp) _).setCell (by simp) _
                clear zf
                go_wp2_with fail
                generalize (w4.setCell ⟨w.heap.size + 1, 0, none⟩ (.int .i64 ((i : Int)))).setCell ⟨w.heap.size + 1, 1, none⟩ (.int .i64 ((j : Int) - 3)) = W9 at *
                obtain ⟨⟨y0, y1⟩, -⟩ := HF.out.cells
                refine bodyPost_ret (v := .tuple #[.agg #[.int .i64 ((i : Int)), .int .i64 ((j : Int) - 3)], .int .i64 (0)]) (by simp [results, Try.results24, go_sem, y0, y1]) rfl ?_
                exact ⟨by rw [HCL.out, HCE.out, HCO.out]; simp [HLA.out.1, HLA.out.2], HBF.out⟩
            · have h2i : ¬ (j : Int) - 3 ≤ 3 := by omega
              obtain rfl : j = 7 := by omega
              clear hno hb
              go_wp2_with fail
              go_roundw
              case rel => exact ⟨i + 1, by omega, by go_num, rfl, fun m hm => HNJ.out m (by omega), HBJ.out⟩
              case measure => simp [intOf]; omega
        · have h1i : ¬ (i : Int) < 61 := by omega
          obtain rfl : i = 61 := by omega
          have HCO : Hid (convO r pins (carryOf r.links true) = none) := convO_none fun m hm => HNO.out m (by omega)
          have HZ3 := Lib.hid (HZ.out.step HBI.out)
          have HB4 : Hid (Below w.heap.size w wr) := HB.out.trans (HBI.out.mono HB.out.size)
          clear k0 k1 k2 k3 k4 c0
          obtain ⟨⟨z0, z1⟩, zf⟩ := HZ3.out.cells
          have zf0 := zf 0
          have zf1 := zf 1
          have HF := Lib.hid (HZ3.out.set (0) (0))
          have HBF : Hid (Below w.heap.size w ((wr.setCell ⟨w.heap.size + 1, 0, none⟩ (.int .i64 (0))).setCell ⟨w.heap.size + 1, 1, none⟩ (.int .i64 (0)))) := (HB4.out.setCell (by simp) _).setCell (by simp) _
          clear zf
          go_wp2_with fail
          generalize (wr.setCell ⟨w.heap.size + 1, 0, none⟩ (.int .i64 (0))).setCell ⟨w.heap.size + 1, 1, none⟩ (.int .i64 (0)) = W9 at *
          obtain ⟨⟨y0, y1⟩, -⟩ := HF.out.cells
          refine bodyPost_ret (v := .tuple #[.agg #[.int .i64 (0), .int .i64 (0)], .int .i64 (9)]) (by simp [results, Try.results24, go_sem, y0, y1]) rfl ?_
          exact ⟨by rw [HCL.out, HCE.out, HCO.out]; simp, HBF.out⟩
  · rw [if_neg he] at HCE HCL
    have hne : (pinErr r xs != 0) = true := by simp [he]
    clear he
    go_enter Try.func24, Try.ntmps24
    go_wp2_with fail
    refine wp_scope_straight ?_
    go_wp2_with fail
    generalize ((w.alloc (.cells #[.int .i64 r.rows, .int .i64 r.mid, .int .i64 r.gap, .int .i64 r.reach, .slice A r.links.length c] 39)).alloc (.cells #[.int .i64 0, .int .i64 0] 51)) = x2 at *
    refine (pinned_c r A xA c cx xs _ HL.out hc HX.out hcx).mono ?_
    rintro e x3 ⟨rfl, hb⟩
    replace HL := Lib.hid (HL.out.step hb)
    replace HX := Lib.hid (HX.out.step hb)
    replace k0 := cell_of_ans hb k0
    replace k1 := cell_of_ans hb k1
    replace k2 := cell_of_ans hb k2
    replace k3 := cell_of_ans hb k3
    replace k4 := cell_of_ans hb k4
    replace HZ := Lib.hid (HZ.out.step hb)
    replace HB := Lib.hid (HB.out.trans (hb.mono HB.out.size))
    clear hb
    obtain ⟨⟨z0, z1⟩, zf⟩ := HZ.out.cells
    have zf0 := zf 0
    have zf1 := zf 1
    have HF := Lib.hid (HZ.out.set (0) (0))
    have HBF : Hid (Below w.heap.size w ((x3.setCell ⟨w.heap.size + 1, 0, none⟩ (.int .i64 (0))).setCell ⟨w.heap.size + 1, 1, none⟩ (.int .i64 (0)))) := (HB.out.setCell (by simp) _).setCell (by simp) _
    clear zf
    go_wp2_with fail
    generalize (x3.setCell ⟨w.heap.size + 1, 0, none⟩ (.int .i64 (0))).setCell ⟨w.heap.size + 1, 1, none⟩ (.int .i64 (0)) = W9 at *
    obtain ⟨⟨y0, y1⟩, -⟩ := HF.out.cells
    refine bodyPost_ret (v := .tuple #[.agg #[.int .i64 (0), .int .i64 (0)], .int .i64 (pinErr r xs)]) (by simp [results, Try.results24, go_sem, y0, y1]) rfl ?_
    exact ⟨by rw [HCL.out, HCE.out], HBF.out⟩
end Go.Proofs.Ytpekajnjjhibjaa
