/-
  seen: games that words are told of; ranges; proofs of games (carried over from the proofs of the chapter 03).
-/
import Derived.Test.YtenpiinkbfancaaSnC
import Derived.IntWalk
namespace Go.Proofs.Ytenpiinkbfancaa.Sn
open Go.RowKit
set_option linter.unusedSimpArgs false
set_option linter.unusedVariables false

section
open Go.RowKit
theorem foldl_min_le : ∀ (xs : List Int) (a : Int), xs.foldl min a ≤ a ∧ (∀ x ∈ xs, xs.foldl min a ≤ x) ∧ (xs.foldl min a = a ∨ xs.foldl min a ∈ xs)
  | [], a => ⟨Int.le_refl _, (fun x h => by cases h), .inl rfl⟩
  | y :: ys, a => by
    obtain ⟨h1, h2, h3⟩ := foldl_min_le ys (min a y)
    simp only [List.foldl_cons]
    refine ⟨by omega, fun x hx => ?_, ?_⟩
    · rcases List.mem_cons.1 hx with rfl | hx
      · omega
      · exact h2 x hx
    · rcases h3 with h3 | h3
      · rw [h3]
        rcases (by omega : min a y = a ∨ min a y = y) with e | e
        · exact .inl e
        · exact .inr (by rw [e]; exact List.mem_cons_self ..)
      · exact .inr (List.mem_cons_of_mem _ h3)
theorem foldl_max_le : ∀ (xs : List Int) (a : Int), a ≤ xs.foldl max a ∧ (∀ x ∈ xs, x ≤ xs.foldl max a) ∧ (xs.foldl max a = a ∨ xs.foldl max a ∈ xs)
  | [], a => ⟨Int.le_refl _, (fun x h => by cases h), .inl rfl⟩
  | y :: ys, a => by
    obtain ⟨h1, h2, h3⟩ := foldl_max_le ys (max a y)
    simp only [List.foldl_cons]
    refine ⟨by omega, fun x hx => ?_, ?_⟩
    · rcases List.mem_cons.1 hx with rfl | hx
      · omega
      · exact h2 x hx
    · rcases h3 with h3 | h3
      · rw [h3]
        rcases (by omega : max a y = a ∨ max a y = y) with e | e
        · exact .inl e
        · exact .inr (by rw [e]; exact List.mem_cons_self ..)
      · exact .inr (List.mem_cons_of_mem _ h3)
theorem loS_le {xs : List Int} {x : Int} (h : x ∈ xs) : loS xs ≤ x := by
  cases xs with
  | nil => cases h
  | cons y ys =>
    obtain ⟨h1, h2, _⟩ := foldl_min_le ys y
    show ys.foldl min y ≤ x
    rcases List.mem_cons.1 h with rfl | h
    · exact h1
    · exact h2 x h
theorem hiS_le {xs : List Int} {x : Int} (h : x ∈ xs) : x ≤ hiS xs := by
  cases xs with
  | nil => cases h
  | cons y ys =>
    obtain ⟨h1, h2, _⟩ := foldl_max_le ys y
    show x ≤ ys.foldl max y
    rcases List.mem_cons.1 h with rfl | h
    · exact h1
    · exact h2 x h
theorem px_app1 {a b : List (Int × Int)} {i : Nat} (h : i < a.length) : px (a ++ b) i = px a i := by unfold px; simp [List.getElem?_append_left h]
theorem px_app2 {a b : List (Int × Int)} {i : Nat} (h : a.length ≤ i) : px (a ++ b) i = px b (i - a.length) := by unfold px; simp [List.getElem?_append_right h]
/-- Place 2f and 2f + 1 of the ranges. -/
theorem rangesL_at (ws : List Wd) (o : Nat → Bool) : ∀ m f, f < m → px (rangesL ws o m) (2 * f) = (loS (fsts (gamesL ws (f : Int) o)), hiS (fsts (gamesL ws (f : Int) o))) ∧ px (rangesL ws o m) (2 * f + 1) = (loS (snds (gamesL ws (f : Int) o)), hiS (snds (gamesL ws (f : Int) o)))
  | 0, f, h => by omega
  | m + 1, f, h => by
    have hl := rangesL_len ws o m
    rw [rangesL]
    by_cases e : f = m
    · subst e
      rw [px_app2 (by omega), px_app2 (by omega), hl]
      rw [show 2 * f - 2 * f = 0 by omega, show 2 * f + 1 - 2 * f = 1 by omega]
      exact ⟨rfl, rfl⟩
    · rw [px_app1 (by omega), px_app1 (by omega)]
      exact rangesL_at ws o m f (by omega)
end

section
open Go.RowKit
/-- A new row of numbers, then it is appended to the rows. -/
theorem wpList_newrowsN {ops : Array Oper} {rest : List Oper} {o : Oper} {a : Act} {Q : Exit → Act → World → Prop} (s x : Operand) (hgd : o.guard = none) (ho : o.op = .call { callee := .builtin .append, args := #[s, x], argTypes := #[29, 29] })
    (base : Nat) (w : World) (v : Value) (vs : List Value) (rows : List (List Int)) (xs : List Int) (cs : Array Value) (n : Nat) (hcs : cs = (xs.map (Value.int .i64)).toArray) (hn : n = xs.length) (h0 : xs.length ≤ 1000) (hv : a.eval s = v) (hx : a.eval x = .slice (some ⟨w.heap.size + 1, 0, none⟩) 1 1) (hR : Rws base w v rows.length vs (rx rows)) (hl : rows.length ≤ 1000000) (hb : base ≤ w.heap.size)
    (h : ∀ A c vs' w', Hid (Rws base w' (.slice A (rows.length + 1) c) (rows.length + 1) vs' (rx (rows ++ [xs]))) → Hid (Below base w w') → wpList Try.prog ops Q rest (a.put o.dst (.slice A (rows.length + 1) c)) w') :
    wpList Try.prog ops Q (o :: rest) a ((w.alloc (.cells cs 3)).alloc (.cells #[.slice (some ⟨w.heap.size, 0, none⟩) n n] 42)) := by
  subst hcs hn
  have hu : OwnI w.heap.size (w.alloc (.cells (xs.map (Value.int .i64)).toArray 3)) (.slice (some ⟨w.heap.size, 0, none⟩) xs.length xs.length) xs :=
    ⟨by simp, .inr ⟨w.heap.size, xs.length, (xs.map (Value.int .i64)).toArray, rfl, Nat.le_refl _, World.alloc_heap_new _ _, Nat.le_refl _, by unfold maxLen; omega, by simp, by simp [List.take_of_length_le]⟩⟩
  have hb1 : Below w.heap.size w (w.alloc (.cells (xs.map (Value.int .i64)).toArray 3)) := (Below.refl _ _).alloc (Nat.le_refl _) _
  have e : rx (rows ++ [xs]) rows.length = xs := rx_snoc
  refine wpList_app_row s x hgd ho base w (w.alloc (.cells (xs.map (Value.int .i64)).toArray 3)) v rows.length vs (rx (rows ++ [xs])) (some ⟨w.heap.size, 0, none⟩) xs.length xs.length hv (by rw [hx]; simp) (hR.congr fun j hj => rx_keep hj) (by rw [e]) (by show OwnI _ _ _ _; rw [e]; exact hu) hb1 hl hb h
/-- A list of words of 16 bits. -/
def U16s (B : Nat) (w : World) (A : Option Addr) (ws : List Int) : Prop :=
  0 < ws.length → ∃ b off, A = some ⟨b, off, none⟩ ∧ b < B ∧ ∀ k, k < ws.length → w.cell? ⟨b, off + k, none⟩ = some (.int .u16 (ix ws k)) ∧ 0 ≤ ix ws k ∧ ix ws k ≤ 65535
theorem U16s.step {w w' : World} {A : Option Addr} {xs : List Int} (h : U16s w.heap.size w A xs) (hb : Below w.heap.size w w') : U16s w'.heap.size w' A xs := fun hp => by
  obtain ⟨b, off, hA, hlt, hc⟩ := h hp
  exact ⟨b, off, hA, Nat.lt_of_lt_of_le hlt hb.size, fun k hk => ⟨(hb.cell (p := ⟨b, off + k, none⟩) hlt).trans (hc k hk).1, (hc k hk).2⟩⟩
/-- One of some words. -/
def numF (ws : List Int) (k : Nat) : Int := if ws.length = 0 then 0 else ix ws (k % ws.length)
theorem numF_bd {B : Nat} {w : World} {A : Option Addr} {ws : List Int} (h : U16s B w A ws) (k : Nat) : 0 ≤ numF ws k ∧ numF ws k ≤ 65535 := by
  unfold numF
  split
  · omega
  · obtain ⟨b, off, _, _, hc⟩ := h (by omega)
    exact (hc _ (Nat.mod_lt _ (by omega))).2
set_option maxHeartbeats 400000 in
theorem number_c {B : Nat} (A : Option Addr) (ws : List Int) (c k : Nat) (w : World) (h : U16s B w A ws) (hk : k ≤ 1000000) (_hc : ws.length ≤ c ∧ c ≤ 9223372036854775807) :
    Calls Try.prog 42 #[.slice A ws.length c, .int .i64 (k : Int)] w (Same w (.int .i64 (numF ws k))) := by
  by_cases h0 : ws.length = 0
  · have h0' : ((ws.length : Int) == 0) = true := by simp [h0]
    have HR : Hid (numF ws k = 0) := by show _ = _; simp [numF, h0]
    clear h0
    go_enter Try.func42, Try.ntmps42
    go_wp2
    go_ret
    exact ⟨ret_int HR.out.symm, rfl⟩
  · have h0' : ((ws.length : Int) == 0) = false := by rw [beq_eq_false_iff_ne]; omega
    obtain ⟨b, off, rfl, _, hcl⟩ := h (by omega)
    have hlt := Nat.mod_lt k (show 0 < ws.length by omega)
    obtain ⟨h1, h2, h3⟩ := hcl _ hlt
    have HR : Hid (numF ws k = ix ws (k % ws.length)) := by show _ = _; simp [numF, h0]
    clear hcl
    have e : ((k : Int) % (ws.length : Int)) = ((k % ws.length : Nat) : Int) := by simp
    have hp : 0 < ws.length := by omega
    clear h0
    generalize hj : k % ws.length = j at *
    have HJ := Lib.hid hj
    clear hj
    go_enter Try.func42, Try.ntmps42
    go_wp2
    go_ret
    exact ⟨ret_int HR.out.symm, rfl⟩
/-- A frame by words; a game. -/
def trueA (ns : List Int) (f : Nat) : Int := numF ns (2 * f) % 11
def trueR (ns : List Int) (f : Nat) : List Int := if trueA ns f = 10 then [10] else [trueA ns f, numF ns (2 * f + 1) % (11 - trueA ns f)]
def trueG (ns : List Int) (m : Nat) : List (List Int) := (List.range m).map (trueR ns)
theorem trueG_succ (ns : List Int) (k : Nat) : trueG ns (k + 1) = trueG ns k ++ [trueR ns k] := by simp [trueG, List.range_succ]
theorem trueG_len (ns : List Int) (m : Nat) : (trueG ns m).length = m := by simp [trueG]
set_option maxRecDepth 100000 in
set_option maxHeartbeats 4000000 in
theorem true_c (An : Option Addr) (ns : List Int) (cn m : Nat) (w : World) (hn : U16s w.heap.size w An ns) (hcn : ns.length ≤ cn ∧ cn ≤ 9223372036854775807) (hm : m ≤ 1000) :
    Calls Try.prog 9 #[.int .i64 (m : Int), .slice An ns.length cn] w (OwnRows w (trueG ns m)) := by
  have HN := Lib.hid hn
  clear hn
  go_enter Try.func9, Try.ntmps9
  go_wp2_with fail
  go_loopw [6, 5] (fun i v wr => ∃ (k : Nat) (vs : List Value), k ≤ m ∧ i = .int .i64 k ∧ Rws w.heap.size wr v (trueG ns k).length vs (rx (trueG ns k)) ∧ Below w.heap.size w wr) (fun i _ _ => m - (intOf i).toNat)
  case atStart => exact ⟨0, [], by omega, rfl, Rws.nil _ _ _, Below.refl _ _⟩
  case round =>
    obtain ⟨k, vs, hk, rfl, hR, hb⟩ := hrel
    by_cases h1 : k < m
    · have h1i : (k : Int) < (m : Int) := by omega
      have HR := Lib.hid hR
      have HB := Lib.hid hb
      have hz := hb.size
      have HNk := Lib.hid (HN.out.step hb)
      obtain ⟨n0, n1⟩ := numF_bd HNk.out (2 * k)
      obtain ⟨n2, n3⟩ := numF_bd HNk.out (2 * k + 1)
      have H1 := Lib.hid (number_c An ns cn (2 * k) wr HNk.out (by omega) hcn)
      have H2 := Lib.hid (number_c An ns cn (2 * k + 1) wr HNk.out (by omega) hcn)
      have HX := Lib.hid (trueG_succ ns k)
      have HT : Hid (trueR ns k = if trueA ns k = 10 then [10] else [trueA ns k, numF ns (2 * k + 1) % (11 - trueA ns k)]) := rfl
      have HA : Hid (trueA ns k = numF ns (2 * k) % 11) := rfl
      have HL : Hid ((trueG ns k).length ≤ 1000000) := by show _ ≤ _; rw [trueG_len]; omega
      have HXL : Hid ((trueG ns (k + 1)).length = (trueG ns k).length + 1) := by show _ = _; rw [trueG_len, trueG_len]
      have HT1 : Hid True := trivial
      have z1 : IntKind.i64.wrap (2 * (k : Int)) = ((2 * k : Nat) : Int) := by rw [IntWalk.i64_in _ (by omega)]; omega
      have z2 : IntKind.i64.wrap (((2 * k : Nat) : Int) + 1) = ((2 * k + 1 : Nat) : Int) := by rw [IntWalk.i64_in _ (by omega)]; omega
      generalize hx1 : numF ns (2 * k) = x1 at *
      generalize hx2 : numF ns (2 * k + 1) = x2 at *
      generalize hj2 : 2 * k + 1 = j2 at *
      generalize hj1 : 2 * k = j1 at *
      have HJ1 := Lib.hid hj1
      have HJ2 := Lib.hid hj2
      have HX1 := Lib.hid hx1
      have HX2 := Lib.hid hx2
      have z3 : x1.tmod 11 = x1 % 11 := Int.tmod_eq_emod_of_nonneg n0
      obtain ⟨a, ha⟩ : ∃ a, a = x1 % 11 := ⟨_, rfl⟩
      have ha0 : 0 ≤ a := by omega
      have ha1 : a ≤ 10 := by omega
      have HAA : Hid (trueA ns k = a) := HA.out.trans ha.symm
      rw [← ha] at z3
      have z4 : IntKind.i64.wrap a = a := IntWalk.i64_in _ (by omega)
      clear hR hb hj1 hj2 hx1 hx2 ha
      by_cases h10 : a = 10
      · have h10b : (a == 10) = true := by simp [h10]
        have HTR : Hid (trueR ns k = [10]) := by show _ = _; rw [HT.out, HAA.out, if_pos h10]
        clear h10
        go_wp2_with (first | (clear HT1; go_at_call 42; refine H1.out.mono ?_; rintro e w1 ⟨rfl, rfl⟩) | (at_builtin; refine wpList_newrowsN (.tmp 20) (.tmp 22) rfl rfl w.heap.size _ _ vs (trueG ns k) [10] _ 1 rfl rfl (by decide) rfl rfl HR.out HL.out hz ?_; intro A' c' vs' w2 HR3 HB3))
        go_roundw
        case rel => exact ⟨k + 1, vs', by omega, by go_num, by rw [HXL.out, HX.out, HTR.out]; exact HR3.out, HB.out.trans HB3.out⟩
        case measure => simp [intOf]; omega
      · have h10b : (a == 10) = false := by simp [h10]
        have z5 : IntKind.i64.wrap (11 - a) = 11 - a := IntWalk.i64_in _ (by omega)
        have z6 : x2.tmod (11 - a) = x2 % (11 - a) := Int.tmod_eq_emod_of_nonneg n2
        have m0 := Int.emod_nonneg x2 (b := 11 - a) (by omega)
        have m1 := Int.emod_lt_of_pos x2 (b := 11 - a) (by omega)
        have z7 : IntKind.i64.wrap (x2 % (11 - a)) = x2 % (11 - a) := IntWalk.i64_in _ (by omega)
        have z8 : ¬ (11 - a = 0) := by omega
        have z9 : (11 - a == 0) = false := by rw [beq_eq_false_iff_ne]; omega
        have HTR : Hid (trueR ns k = [a, x2 % (11 - a)]) := by show _ = _; rw [HT.out, HAA.out, if_neg h10]
        clear h10 m0 m1
        go_wp2_with (first | (clear HT1; go_at_call 42; refine H1.out.mono ?_; rintro e w1 ⟨rfl, rfl⟩) | (go_at_call 42; refine H2.out.mono ?_; rintro e w1 ⟨rfl, rfl⟩) | (at_builtin; refine wpList_newrowsN (.tmp 24) (.tmp 35) rfl rfl w.heap.size _ _ vs (trueG ns k) [a, x2 % (11 - a)] _ 2 rfl rfl (by simp) rfl rfl HR.out HL.out hz ?_; intro A' c' vs' w2 HR3 HB3))
        go_roundw
        case rel => exact ⟨k + 1, vs', by omega, by go_num, by rw [HXL.out, HX.out, HTR.out]; exact HR3.out, HB.out.trans HB3.out⟩
        case measure => simp [intOf]; omega
    · obtain rfl : k = m := by omega
      have h1i : ¬ (k : Int) < (k : Int) := by omega
      obtain ⟨A, c, rfl⟩ := ownsRow_form hR.1
      go_wp2_with fail
      go_ret
      exact ⟨A, c, vs, rfl, hR, hb⟩
end

section
open Go.RowKit
theorem word_ok {m : Int} {x : Wd} (h : wordB m x = true) : 0 ≤ x.fr ∧ x.fr ≤ m - 1 ∧ 0 ≤ x.ba ∧ x.ba ≤ 1 ∧ 0 ≤ x.te ∧ x.te ≤ 3 ∧ 0 ≤ x.lo ∧ x.lo ≤ x.hi ∧ x.hi ≤ 10 := by
  simp only [wordB, Bool.and_eq_true, inB_eq, decide_eq_true_eq] at h
  omega
/-- A word made anew. -/
def toldLo (n wide y : Int) : Int := max 0 (n - y % (wide + 1))
def toldHi (n wide lo : Int) : Int := max n (min 10 (lo + wide))
def toldW (game : List (List Int)) (ns : List Int) (b i : Nat) (x : Wd) : Wd :=
  if b.testBit x.te.toNat then x else ⟨x.fr, x.ba, x.te, toldLo (behR game x.fr.toNat x.ba.toNat) (x.hi - x.lo) (numF ns (3 * i + 2)), toldHi (behR game x.fr.toNat x.ba.toNat) (x.hi - x.lo) (toldLo (behR game x.fr.toNat x.ba.toNat) (x.hi - x.lo) (numF ns (3 * i + 2)))⟩
def toldL (game : List (List Int)) (ns : List Int) (b : Nat) (ws : List Wd) : List Wd := (List.range ws.length).map fun i => toldW game ns b i (wx ws i)
theorem toldL_len (game : List (List Int)) (ns : List Int) (b : Nat) (ws : List Wd) : (toldL game ns b ws).length = ws.length := by simp [toldL]
theorem toldL_snoc (game : List (List Int)) (ns : List Int) (b : Nat) (ws : List Wd) (x : Wd) : toldL game ns b (ws ++ [x]) = toldL game ns b ws ++ [toldW game ns b ws.length x] := by
  unfold toldL
  rw [List.length_append, List.length_singleton, List.range_succ, List.map_append]
  congr 1
  · refine List.map_congr_left fun i hi => ?_
    rw [List.mem_range] at hi
    rw [wx_lt (by rw [List.length_append]; omega), wx_lt hi, List.getElem_append_left hi]
  · simp [wx]
theorem bit_zero (b k : Nat) : (((b : Int) / 2 ^ k).tmod 2 == 0) = !b.testBit k := by
  have h1 : ((b : Int) / 2 ^ k) = ((b / 2 ^ k : Nat) : Int) := by simp
  have h2 : (((b / 2 ^ k : Nat) : Int).tmod 2) = ((b / 2 ^ k % 2 : Nat) : Int) := rfl
  rw [h1, h2, Nat.testBit_eq_decide_div_mod_eq]
  refine Bool.eq_iff_iff.2 ?_
  simp only [beq_iff_eq, Bool.not_eq_true', decide_eq_false_iff_not]
  omega
def W5b (w : World) (q : Nat) (a b c d e : Int) : Prop := w.heap[q]? = some (.cells #[.int .i64 a, .int .i64 b, .int .i64 c, .int .i64 d, .int .i64 e] 123 (0, 0))
theorem W5b.cells {w : World} {q : Nat} {a b c d e : Int} (h : W5b w q a b c d e) : w.cell? ⟨q, 0, none⟩ = some (.int .i64 a) ∧ w.cell? ⟨q, 1, none⟩ = some (.int .i64 b) ∧ w.cell? ⟨q, 2, none⟩ = some (.int .i64 c) ∧ w.cell? ⟨q, 3, none⟩ = some (.int .i64 d) ∧ w.cell? ⟨q, 4, none⟩ = some (.int .i64 e) ∧ w.frozen? ⟨q, 3, none⟩ = false ∧ w.frozen? ⟨q, 4, none⟩ = false := by
  unfold W5b at h
  simp [World.cell?, World.frozen?, h]
theorem W5b.set {w : World} {q : Nat} {a b c d e : Int} (h : W5b w q a b c d e) (n : Nat) (x y : Int) : W5b (((w.drewN n).setCell ⟨q, 3, none⟩ (.int .i64 x)).setCell ⟨q, 4, none⟩ (.int .i64 y)) q a b c x y := by
  unfold W5b at *
  have h' : (w.drewN n).heap[q]? = _ := h
  simp [World.setCell, Array.getElem?_modify]
  exact ⟨_, h, rfl⟩
theorem W5b.new (w : World) (a b c d e : Int) : W5b (w.alloc (.cells #[.int .i64 a, .int .i64 b, .int .i64 c, .int .i64 d, .int .i64 e] 123)) w.heap.size a b c d e := World.alloc_heap_new _ _
set_option maxRecDepth 100000 in
set_option maxHeartbeats 16000000 in
theorem told_c (A Ag An : Option Addr) (ws : List Wd) (game : List (List Int)) (ns : List Int) (c cg cn bt m : Nat) (frn : Int) (w : World) (hw : Wds w.heap.size w A ws) (hgm : Grd w.heap.size w Ag game) (hn : U16s w.heap.size w An ns) (hc : ws.length ≤ c ∧ c ≤ 9223372036854775807) (hcg : game.length ≤ cg ∧ cg ≤ 9223372036854775807) (hcn : ns.length ≤ cn ∧ cn ≤ 9223372036854775807) (hl : ws.length ≤ 100000) (hbt : bt < 256)
    (hgl : game.length = m) (hok : ∀ j, j < ws.length → wordB (m : Int) (wx ws j) = true) (hv : ∀ f, f < game.length → ∀ j, j < (rx game f).length → 0 ≤ ix (rx game f) j ∧ ix (rx game f) j ≤ 10) (hbd : ∀ f, f < m → ∀ b, b ≤ 1 → 0 ≤ behR game f b ∧ behR game f b ≤ 10) :
    Calls Try.prog 10 #[.agg #[.int .i64 frn, .slice A ws.length c], .slice Ag game.length cg, .slice An ns.length cn, .int .u8 (bt : Int)] w (LanePost 123 w frn (toldL game ns bt ws)) := by
  have hb0 : Below w.heap.size w (((w.alloc (.cells #[.int .i64 frn, .slice A ws.length c] 24)).alloc (.cells #[.int .i64 0, .slice none 0 0] 24)).alloc (.cells #[.int .i64 frn, .slice none 0 0] 24)) := (((Below.refl _ _).alloc (Nat.le_refl _) _).alloc (by simp) _).alloc (by simp; omega) _
  have k0 : (((w.alloc (.cells #[.int .i64 frn, .slice A ws.length c] 24)).alloc (.cells #[.int .i64 0, .slice none 0 0] 24)).alloc (.cells #[.int .i64 frn, .slice none 0 0] 24)).cell? ⟨w.heap.size, 1, none⟩ = some (.slice A ws.length c) := by go_simp
  have kf : (((w.alloc (.cells #[.int .i64 frn, .slice A ws.length c] 24)).alloc (.cells #[.int .i64 0, .slice none 0 0] 24)).alloc (.cells #[.int .i64 frn, .slice none 0 0] 24)).cell? ⟨w.heap.size, 0, none⟩ = some (.int .i64 frn) := by go_simp
  have hL : LB (((w.alloc (.cells #[.int .i64 frn, .slice A ws.length c] 24)).alloc (.cells #[.int .i64 0, .slice none 0 0] 24)).alloc (.cells #[.int .i64 frn, .slice none 0 0] 24)) (w.heap.size + 1 + 1) frn (.slice none 0 0) 24 := by
    have := World.alloc_heap_new ((w.alloc (.cells #[.int .i64 frn, .slice A ws.length c] 24)).alloc (.cells #[.int .i64 0, .slice none 0 0] 24)) (.cells #[.int .i64 frn, .slice none 0 0] 24)
    simpa [LB] using this
  have hsz : (((w.alloc (.cells #[.int .i64 frn, .slice A ws.length c] 24)).alloc (.cells #[.int .i64 0, .slice none 0 0] 24)).alloc (.cells #[.int .i64 frn, .slice none 0 0] 24)).heap.size = w.heap.size + 1 + 1 + 1 := by simp
  have hz1 : (((w.alloc (.cells #[.int .i64 frn, .slice A ws.length c] 24)).alloc (.cells #[.int .i64 0, .slice none 0 0] 24)).alloc (.cells #[.int .i64 frn, .slice none 0 0] 24)).heap[w.heap.size + 1]? = some (.cells #[.int .i64 0, .slice none 0 0] 24 (0, 0)) := by
    rw [heap_alloc_old _ _ (by simp)]
    have := World.alloc_heap_new (w.alloc (.cells #[.int .i64 frn, .slice A ws.length c] 24)) (.cells #[.int .i64 0, .slice none 0 0] 24)
    simpa using this
  have HW := Lib.hid hw
  have HGM := Lib.hid hgm
  have HN := Lib.hid hn
  have HGL := Lib.hid hgl
  have HOK := Lib.hid hok
  have HV := Lib.hid hv
  have HBD := Lib.hid hbd
  have HWL := Lib.hid hl
  clear hw hgm hn hok hv hbd hgl hl
  go_enter Try.func10, Try.ntmps10
  go_wp2_with fail
  have HB0 := Lib.hid hb0
  have HL := Lib.hid hL
  have HZ1 := Lib.hid hz1
  clear hb0 hL hz1
  generalize hW0 : (((w.alloc (.cells #[.int .i64 frn, .slice A ws.length c] 24)).alloc (.cells #[.int .i64 0, .slice none 0 0] 24)).alloc (.cells #[.int .i64 frn, .slice none 0 0] 24)) = W0 at k0 kf HL HB0 HZ1 hsz ⊢
  clear hW0
  go_loopw [10] (fun i wr => ∃ (k : Nat) (u : Value), k ≤ ws.length ∧ i = .int .i64 k ∧ LB wr (w.heap.size + 1 + 1) frn u 24 ∧ OwnW 123 W0.heap.size wr u (toldL game ns bt (ws.take k)) ∧ Chg W0 wr (fun i => i = w.heap.size + 1 + 1)) (fun i _ => ws.length - (intOf i).toNat)
  case atStart => exact ⟨0, _, by omega, rfl, HL.out, OwnW.nil _ _ _, Chg.refl _ _⟩
  case round =>
    obtain ⟨k, u, hk, rfl, hL, hO, hC⟩ := hrel
    have HOk := Lib.hid hO
    have HCk := Lib.hid hC
    have HLk := Lib.hid hL
    have HBk : Hid (Below w.heap.size w wr) := HB0.out.trans (hC.below (by omega) fun i _ e => by omega)
    have q0 : wr.cell? ⟨w.heap.size, 1, none⟩ = some (.slice A ws.length c) := hC.cell k0 (by dsimp only; omega)
    obtain ⟨l0, l1, l2⟩ := hL.cells
    have l3 := hL.lt
    have hz := hC.size
    have l4 := l2 1
    by_cases h1 : k < ws.length
    · obtain ⟨b, off, hA, hblt, c1, c2, c3, c4, c5⟩ := (HW.out.below HBk.out).at_ h1
      obtain ⟨Au, cu, hu⟩ := hO.form
      have HLK : Hid ((toldL game ns bt (ws.take k)).length = k) := by show _ = _; rw [toldL_len, List.length_take]; omega
      rw [HLK.out] at hu
      subst hu
      have h1i : (k : Int) < (ws.length : Int) := by omega
      have HT := Lib.hid (take_succ_wx h1)
      have HTL : Hid ((ws.take k).length = k) := by show _ = _; rw [List.length_take]; omega
      have hwb := HOK.out k h1
      have hkb : k ≤ 100000 := by have := HWL.out; omega
      have HLA : Hid ((toldL game ns bt (ws.take k)).length ≤ 1000000) := by show _ ≤ _; rw [HLK.out]; omega
      have hg : w.heap.size + 1 + 1 < W0.heap.size := by omega
      obtain ⟨x, hx⟩ : ∃ x, wx ws k = x := ⟨_, rfl⟩
      rw [hx] at c1 c2 c3 c4 c5 HT hwb
      obtain ⟨xf, xb, xt, xl, xh⟩ := x
      dsimp only at c1 c2 c3 c4 c5
      have hwb2 := word_ok hwb
      dsimp only at hwb2
      obtain ⟨y1, y2, y3, y4, y5, y6, y7, y8, y9⟩ := hwb2
      obtain ⟨fn, rfl⟩ : ∃ n : Nat, xf = (n : Int) := ⟨xf.toNat, by omega⟩
      obtain ⟨bn, rfl⟩ : ∃ n : Nat, xb = (n : Int) := ⟨xb.toNat, by omega⟩
      obtain ⟨tn, rfl⟩ : ∃ n : Nat, xt = (n : Int) := ⟨xt.toNat, by omega⟩
      have HTW : Hid (toldW game ns bt k ⟨(fn : Int), (bn : Int), (tn : Int), xl, xh⟩ = if bt.testBit tn then ⟨(fn : Int), (bn : Int), (tn : Int), xl, xh⟩ else ⟨(fn : Int), (bn : Int), (tn : Int), toldLo (behR game fn bn) (xh - xl) (numF ns (3 * k + 2)), toldHi (behR game fn bn) (xh - xl) (toldLo (behR game fn bn) (xh - xl) (numF ns (3 * k + 2)))⟩) := rfl
      have htn : tn ≤ 3 := by omega
      have hfn : fn < game.length := by have := HGL.out; omega
      have hbn : bn ≤ 1 := by omega
      subst hA
      have hbx : Below wr.heap.size wr (wr.alloc (.cells #[.int .i64 (fn : Int), .int .i64 (bn : Int), .int .i64 (tn : Int), .int .i64 xl, .int .i64 xh] 123)) := (Below.refl _ _).alloc (Nat.le_refl _) _
      have HNEW := Lib.hid (W5b.new wr (fn : Int) (bn : Int) (tn : Int) xl xh)
      obtain ⟨z0, z1, z2, z3, z4, z5, z6⟩ := HNEW.out.cells
      have HBx := Lib.hid hbx
      have hw32 : IntKind.u64.wrap (tn : Int) = (tn : Int) := by simp only [IntKind.wrap, IntKind.bits, IntKind.signed]; simp; omega
      clear hL hO hC hbx hx l2 hwb
      go_upto_region 6 with fail
      generalize wr.alloc (.cells #[.int .i64 (fn : Int), .int .i64 (bn : Int), .int .i64 (tn : Int), .int .i64 xl, .int .i64 xh] 123) = wx2 at z0 z1 z2 z3 z4 z5 z6 HNEW HBx ⊢
      have hbz := bit_zero bt tn
      cases hbit : bt.testBit tn
      · rw [hbit] at hbz
        obtain ⟨n0, n1⟩ := HBD.out fn (by have := HGL.out; omega) bn hbn
        have hd : ∀ n, Below wx2.heap.size wx2 (wx2.drewN n) := fun n => below_drewN (Below.refl _ _) n
        have hBw : Below w.heap.size w wx2 := HBk.out.trans (HBx.out.mono HBk.out.size)
        have hG2 : ∀ n, Grd (wx2.drewN n).heap.size (wx2.drewN n) Ag game := fun n => HGM.out.step (hBw.trans (hd n |>.mono hBw.size))
        have hN2 : ∀ n, U16s (wx2.drewN n).heap.size (wx2.drewN n) An ns := fun n => HN.out.step (hBw.trans (hd n |>.mono hBw.size))
        have HBe : Hid (∀ n, Calls Try.prog 43 #[.slice Ag game.length cg, .int .i64 (fn : Int), .int .i64 (bn : Int)] (wx2.drewN n) fun e w' => e = .returned (.int .i64 (behR game fn bn)) ∧ w' = wx2.drewN n) := fun n => (behind_c Ag game cg fn bn _ (hG2 n) hcg hfn hbn (HV.out fn hfn)).mono fun e w' h => ⟨h.1, h.2.symm⟩
        have HNu : Hid (∀ n, Calls Try.prog 42 #[.slice An ns.length cn, .int .i64 ((3 * k + 2 : Nat) : Int)] (wx2.drewN n) (Same (wx2.drewN n) (.int .i64 (numF ns (3 * k + 2))))) := fun n => number_c An ns cn (3 * k + 2) _ (hN2 n) (by omega) hcn
        obtain ⟨y10, y11⟩ := numF_bd (hN2 0) (3 * k + 2)
        rw [hbit, if_neg (by simp)] at HTW
        generalize hbe : behR game fn bn = be at *
        generalize hy : numF ns (3 * k + 2) = y at *
        obtain ⟨wi, hwi⟩ : ∃ wi, wi = xh - xl := ⟨_, rfl⟩
        rw [← hwi] at HTW
        have e1 : IntKind.i64.wrap (xh - xl) = wi := by rw [hwi]; exact IntWalk.i64_in _ (by omega)
        have e2 : IntKind.i64.wrap (3 * (k : Int)) = 3 * (k : Int) := IntWalk.i64_in _ (by omega)
        have e3 : IntKind.i64.wrap (3 * (k : Int) + 2) = ((3 * k + 2 : Nat) : Int) := by rw [IntWalk.i64_in _ (by omega)]; omega
        have e4 : IntKind.i64.wrap (wi + 1) = wi + 1 := IntWalk.i64_in _ (by omega)
        have e5 : y.tmod (wi + 1) = y % (wi + 1) := Int.tmod_eq_emod_of_nonneg y10
        have e6 := Int.emod_nonneg y (b := wi + 1) (by omega)
        have e7 := Int.emod_lt_of_pos y (b := wi + 1) (by omega)
        have e8 : ¬ (wi + 1 = 0) := by omega
        have e9 : (wi + 1 == 0) = false := by rw [beq_eq_false_iff_ne]; omega
        have HLO : Hid (toldLo be wi y = max 0 (be - y % (wi + 1))) := rfl
        obtain ⟨r, hr⟩ : ∃ r, r = y % (wi + 1) := ⟨_, rfl⟩
        rw [← hr] at e5 e6 e7 HLO
        have e10 : IntKind.i64.wrap r = r := IntWalk.i64_in _ (by omega)
        have e11 : IntKind.i64.wrap (be - r) = be - r := IntWalk.i64_in _ (by omega)
        have e12 : (if r < be then be - r else 0) = toldLo be wi y := by rw [HLO.out]; split <;> omega
        have f1 : 0 ≤ toldLo be wi y := by rw [HLO.out]; omega
        have f2 : toldLo be wi y ≤ 10 := by rw [HLO.out]; omega
        have HHI : Hid (toldHi be wi (toldLo be wi y) = max be (min 10 (toldLo be wi y + wi))) := rfl
        generalize toldLo be wi y = lo at *
        generalize toldHi be wi lo = hi at *
        have e13 : IntKind.i64.wrap (lo + wi) = lo + wi := IntWalk.i64_in _ (by omega)
        have e14 : (if be < (if lo + wi < 10 then lo + wi else 10) then (if lo + wi < 10 then lo + wi else 10) else be) = hi := by
          rw [HHI.out]
          split <;> split <;> omega
        generalize hj : 3 * k + 2 = j at *
        have HJ := Lib.hid hj
        have HJ2 := Lib.hid hbe
        clear hbit hwi hr f1 f2 hG2 hN2 hBw hy hbe hj n0 n1 e6 e7
        go_wp2_with fail
        go_quiet ((first | (go_at_call 43; exact Calls.quiet_of_same (HBe.out _))))
        go_upto_region 10 with (go_at_call 42; refine (HNu.out _).mono ?_; rintro e w9 ⟨rfl, rfl⟩)
        have HNEW3 := Lib.hid (HNEW.out.set nq lo hi)
        have hb3 : Below wr.heap.size wr (((wx2.drewN nq).setCell ⟨wr.heap.size, 3, none⟩ (.int .i64 lo)).setCell ⟨wr.heap.size, 4, none⟩ (.int .i64 hi)) := ((below_drewN HBx.out nq).setCell (Nat.le_refl _) _).setCell (Nat.le_refl _) _
        have HB3 := Lib.hid hb3
        clear z0 z1 z2 z3 z4 z5 z6 hb3 e12 e14
        obtain ⟨z0, z1, z2, z3, z4, z5, z6⟩ := HNEW3.out.cells
        generalize ((wx2.drewN nq).setCell ⟨wr.heap.size, 3, none⟩ (.int .i64 lo)).setCell ⟨wr.heap.size, 4, none⟩ (.int .i64 hi) = w3 at z0 z1 z2 z3 z4 z5 z6 HNEW3 HB3 ⊢
        have HX : Hid (toldL game ns bt (ws.take (k + 1)) = toldL game ns bt (ws.take k) ++ [⟨fn, bn, tn, lo, hi⟩]) := by
          show _ = _
          rw [HT.out, toldL_snoc, HTL.out, HTW.out]
        have l1' := cell_of_ans HB3.out l1
        have l4' : w3.frozen? ⟨w.heap.size + 1 + 1, 1, none⟩ = false := (HB3.out.frozen (p := ⟨w.heap.size + 1 + 1, 1, none⟩) l3).trans l4
        have hb2 : Below wr.heap.size wr (w3.alloc (.cells #[.int .i64 (fn), .int .i64 (bn), .int .i64 (tn), .int .i64 (lo), .int .i64 (hi)] 123)) := HB3.out.alloc HB3.out.size _
        have HO2 : Hid (OwnW 123 W0.heap.size (w3.alloc (.cells #[.int .i64 (fn), .int .i64 (bn), .int .i64 (tn), .int .i64 (lo), .int .i64 (hi)] 123)) (.slice Au k cu) (toldL game ns bt (ws.take k))) := World.ownsRow.kept HOk.out (only_below hb2 none) (own_ne _)
        have HS := Lib.hid (src_word w3 ⟨fn, bn, tn, lo, hi⟩ 123)
        have HBS : Hid (W0.heap.size ≤ (w3.alloc (.cells #[.int .i64 (fn), .int .i64 (bn), .int .i64 (tn), .int .i64 (lo), .int .i64 (hi)] 123)).heap.size) := Nat.le_trans hz hb2.size
        have HB2 := Lib.hid hb2
        have HLA2 : Hid ((toldL game ns bt (ws.take k) ++ [(⟨fn, bn, tn, lo, hi⟩ : Wd)]).length = k + 1) := by show _ = _; rw [List.length_append, HLK.out]; rfl
        clear hb2
        go_wp2_with (at_builtin; refine wpList_words (t := 22) (e := 123) (.inr ⟨rfl, rfl⟩) (.tmp 68) (.tmp 70) rfl rfl W0.heap.size _ (.slice Au k cu) (toldL game ns bt (ws.take k)) [⟨fn, bn, tn, lo, hi⟩] (some ⟨w3.heap.size, 0, none⟩) 1 1 rfl rfl rfl HO2.out HS.out HLA.out (by simp) HBS.out ?_; intro u' w2 HA; obtain ⟨A2, c2', e2⟩ := HA.out.own.form; rw [HLA2.out] at e2; subst e2; obtain ⟨l5, l6, l7⟩ := (lane_app hg HCk.out HB2.out HLk.out HO2.out HA.out).cells; have l8 := l7 1)
        go_roundw
        case rel =>
          obtain ⟨r1, r2, r3⟩ := lane_round hg HCk.out HB2.out HLk.out HO2.out HA.out
          exact ⟨k + 1, _, by omega, by go_num, r1, by rw [HX.out]; exact r2, r3⟩
        case measure => simp [intOf]; omega
      · rw [hbit] at hbz
        rw [hbit, if_pos rfl] at HTW
        clear hbit
        go_upto_region 10 with fail
        have HB3 := HBx
        obtain ⟨w3, rfl⟩ : ∃ w3 : World, w3 = wx2 := ⟨_, rfl⟩
        have HX : Hid (toldL game ns bt (ws.take (k + 1)) = toldL game ns bt (ws.take k) ++ [⟨fn, bn, tn, xl, xh⟩]) := by
          show _ = _
          rw [HT.out, toldL_snoc, HTL.out, HTW.out]
        have l1' := cell_of_ans HB3.out l1
        have l4' : w3.frozen? ⟨w.heap.size + 1 + 1, 1, none⟩ = false := (HB3.out.frozen (p := ⟨w.heap.size + 1 + 1, 1, none⟩) l3).trans l4
        have hb2 : Below wr.heap.size wr (w3.alloc (.cells #[.int .i64 (fn), .int .i64 (bn), .int .i64 (tn), .int .i64 (xl), .int .i64 (xh)] 123)) := HB3.out.alloc HB3.out.size _
        have HO2 : Hid (OwnW 123 W0.heap.size (w3.alloc (.cells #[.int .i64 (fn), .int .i64 (bn), .int .i64 (tn), .int .i64 (xl), .int .i64 (xh)] 123)) (.slice Au k cu) (toldL game ns bt (ws.take k))) := World.ownsRow.kept HOk.out (only_below hb2 none) (own_ne _)
        have HS := Lib.hid (src_word w3 ⟨fn, bn, tn, xl, xh⟩ 123)
        have HBS : Hid (W0.heap.size ≤ (w3.alloc (.cells #[.int .i64 (fn), .int .i64 (bn), .int .i64 (tn), .int .i64 (xl), .int .i64 (xh)] 123)).heap.size) := Nat.le_trans hz hb2.size
        have HB2 := Lib.hid hb2
        have HLA2 : Hid ((toldL game ns bt (ws.take k) ++ [(⟨fn, bn, tn, xl, xh⟩ : Wd)]).length = k + 1) := by show _ = _; rw [List.length_append, HLK.out]; rfl
        clear hb2
        go_wp2_with (at_builtin; refine wpList_words (t := 22) (e := 123) (.inr ⟨rfl, rfl⟩) (.tmp 68) (.tmp 70) rfl rfl W0.heap.size _ (.slice Au k cu) (toldL game ns bt (ws.take k)) [⟨fn, bn, tn, xl, xh⟩] (some ⟨w3.heap.size, 0, none⟩) 1 1 rfl rfl rfl HO2.out HS.out HLA.out (by simp) HBS.out ?_; intro u' w2 HA; obtain ⟨A2, c2', e2⟩ := HA.out.own.form; rw [HLA2.out] at e2; subst e2; obtain ⟨l5, l6, l7⟩ := (lane_app hg HCk.out HB2.out HLk.out HO2.out HA.out).cells; have l8 := l7 1)
        go_roundw
        case rel =>
          obtain ⟨r1, r2, r3⟩ := lane_round hg HCk.out HB2.out HLk.out HO2.out HA.out
          exact ⟨k + 1, _, by omega, by go_num, r1, by rw [HX.out]; exact r2, r3⟩
        case measure => simp [intOf]; omega
    · have hke : k = ws.length := by omega
      have h1i : ¬ (k : Int) < (ws.length : Int) := by omega
      obtain ⟨Au, cu, hu⟩ := hO.form
      rw [List.take_of_length_le (by omega), toldL_len] at hu
      subst hu
      have hz2 : wr.heap[w.heap.size + 1]? = some (.cells #[.int .i64 0, .slice none 0 0] 24 (0, 0)) := (hC.block _ (by omega) (by omega)).trans HZ1.out
      have HZ2 := Lib.hid hz2
      have z1 : wr.frozen? ⟨w.heap.size + 1, 0, none⟩ = false := by simp [World.frozen?, hz2]
      have z2 : wr.frozen? ⟨w.heap.size + 1, 1, none⟩ = false := by simp [World.frozen?, hz2]
      have y1 : wr.cell? ⟨w.heap.size + 1, 0, none⟩ = some (.int .i64 0) := by simp [World.cell?, hz2]
      have y2 : wr.cell? ⟨w.heap.size + 1, 1, none⟩ = some (.slice none 0 0) := by simp [World.cell?, hz2]
      clear hL hO hC l2 hz2
      go_wp2_with fail
      have hd : Below w.heap.size w ((wr.setCell ⟨w.heap.size + 1, 0, none⟩ (.int .i64 frn)).setCell ⟨w.heap.size + 1, 1, none⟩ (.slice Au ws.length cu)) := (HBk.out.setCell (by dsimp only; omega) _).setCell (by dsimp only; omega) _
      have HO3 := HOk.out
      rw [List.take_of_length_le (by omega)] at HO3
      have hS : wr.grownBy ((wr.setCell ⟨w.heap.size + 1, 0, none⟩ (.int .i64 frn)).setCell ⟨w.heap.size + 1, 1, none⟩ (.slice Au ws.length cu)) (some (w.heap.size + 1)) := sets2 _ _ _ _
      have HO4 : OwnW 123 W0.heap.size ((wr.setCell ⟨w.heap.size + 1, 0, none⟩ (.int .i64 frn)).setCell ⟨w.heap.size + 1, 1, none⟩ (.slice Au ws.length cu)) (.slice Au ws.length cu) (toldL game ns bt ws) := World.ownsRow.kept HO3 hS (.inr fun e => by
        have := (World.ownsRow.lt HO3 _ e).1; omega)
      refine bodyPost_ret (v := .agg #[.int .i64 frn, .slice Au ws.length cu]) (by simp [results, Try.results10, go_sem, World.cell?, World.setCell, Array.getElem?_modify, HZ2.out]) rfl ?_
      have HTLL : Hid ((toldL game ns bt ws).length = ws.length) := toldL_len _ _ _ _
      have HO5 := ownsRow_base HO4 (show w.heap.size ≤ W0.heap.size by omega)
      refine ⟨Au, cu, by rw [HTLL.out], ?_, hd⟩
      rw [HTLL.out]
      exact HO5
end

section
open Go.RowKit
theorem wx_mem {ws : List Wd} {k : Nat} (h : k < ws.length) : wx ws k ∈ ws := by rw [wx_lt h]; exact List.getElem_mem h
theorem mem_wx {ws : List Wd} {x : Wd} (h : x ∈ ws) : ∃ k, k < ws.length ∧ wx ws k = x := by
  obtain ⟨k, hk, e⟩ := List.getElem_of_mem h
  exact ⟨k, hk, by rw [wx_lt hk, e]⟩
theorem okB_mem {ws : List Wd} {f : Int} {o : Nat → Bool} {p : Nat × Nat} : okB ws f o p = true ↔ ∀ x ∈ ws, okW f o x p.1 p.2 = true := by
  unfold okB
  rw [allB_iff]
  constructor
  · intro h x hx
    obtain ⟨k, hk, rfl⟩ := mem_wx hx
    exact h k hk
  · intro h k hk
    exact h _ (wx_mem hk)
theorem games_iff {ws : List Wd} {f : Int} {o : Nat → Bool} {p : Nat × Nat} : p ∈ gamesL ws f o ↔ p ∈ upTo 11 0 ∧ okB ws f o p = true := by
  unfold gamesL gamesTo
  rw [List.mem_filter]
theorem upTo_iff {p : Nat × Nat} : p ∈ upTo 11 0 ↔ p.1 ≤ 10 ∧ p.2 ≤ p.1 := ⟨upTo_bds, fun h => upTo_mem h.1 h.2⟩
theorem okW_iff {f : Int} {o : Nat → Bool} {x : Wd} {a b : Nat} : okW f o x a b = true ↔ (x.fr = f → o x.te.toNat = false → x.lo ≤ standB x a b ∧ standB x a b ≤ x.hi) := by
  unfold okW fitsB
  by_cases h : x.fr = f
  · cases ho : o x.te.toNat <;> simp [h, ho]
  · simp [h]
/-- The range of place k. -/
noncomputable def rgAt (ws : List Wd) (o : Nat → Bool) (m k : Nat) : Int × Int := px (rangesL ws o m) k
theorem stand_at {ws : List Wd} {o : Nat → Bool} {m k : Nat} (hk : k < 2 * m) {x : Wd} (hb : x.ba = ((k % 2 : Nat) : Int)) {p : Nat × Nat} (hp : p ∈ gamesL ws ((k / 2 : Nat) : Int) o) : (rgAt ws o m k).1 ≤ standB x p.1 p.2 ∧ standB x p.1 p.2 ≤ (rgAt ws o m k).2 := by
  obtain ⟨a1, a2⟩ := rangesL_at ws o m (k / 2) (by omega)
  unfold rgAt standB
  rcases (by omega : k = 2 * (k / 2) ∨ k = 2 * (k / 2) + 1) with e | e
  · have e2 : k % 2 = 0 := by omega
    rw [e2] at hb
    have hb0 : x.ba = 0 := by omega
    rw [if_pos hb0, e, a1]
    have hm : (p.1 : Int) ∈ fsts (gamesL ws ((k / 2 : Nat) : Int) o) := List.mem_map.2 ⟨p, hp, rfl⟩
    exact ⟨loS_le hm, hiS_le hm⟩
  · have e2 : k % 2 = 1 := by omega
    rw [e2] at hb
    rw [if_neg (by omega), e, a2]
    have hm : (p.2 : Int) ∈ snds (gamesL ws ((k / 2 : Nat) : Int) o) := List.mem_map.2 ⟨p, hp, rfl⟩
    exact ⟨loS_le hm, hiS_le hm⟩
theorem lane_mk {m : Nat} {ws : List Wd} (h1 : 1 ≤ m) (h5 : m ≤ 5) (hl : ws.length ≤ 30) (h : ∀ x ∈ ws, wordB (m : Int) x = true) : laneErr (m : Int) ws = 0 := by
  unfold laneErr
  rw [if_pos hl, if_pos]
  rw [Bool.and_eq_true, inB_eq, allB_iff]
  exact ⟨⟨by omega, by omega⟩, fun k hk => h _ (wx_mem hk)⟩
end

section
open Go.RowKit
theorem off_add (xs : List Int) (n : Nat) : offT (xs ++ [(n : Int)]) = setO (offT xs) n := by
  funext j
  rw [offT_snoc]
  unfold setO
  by_cases h : j = n
  · subst h; simp
  · rw [if_neg h, show ((n : Int) == (j : Int)) = false by simp; omega, Bool.or_false]
theorem o1 (a : Nat) : offT [(a : Int)] = setO (fun _ => false) a := off_add [] a
theorem o2 (a b : Nat) : offT [(a : Int), (b : Int)] = setO (setO (fun _ => false) a) b := by rw [← o1]; exact off_add [(a : Int)] b
end

section
open Go.RowKit
theorem rx_trueG {ns : List Int} {m f : Nat} (hf : f < m) : rx (trueG ns m) f = trueR ns f := by
  rw [rx_lt (by rw [trueG_len]; exact hf)]
  simp [trueG]
theorem trueR_row (ns : List Int) (f : Nat) : trueR ns f = [10] ∨ ∃ a b : Int, trueR ns f = [a, b] ∧ 0 ≤ a ∧ a ≤ 9 ∧ 0 ≤ b ∧ b ≤ 10 - a := by
  have h0 := Int.emod_nonneg (numF ns (2 * f)) (b := 11) (by omega)
  have h1 := Int.emod_lt_of_pos (numF ns (2 * f)) (b := 11) (by omega)
  unfold trueR
  have e : trueA ns f = numF ns (2 * f) % 11 := rfl
  by_cases h : trueA ns f = 10
  · exact .inl (if_pos h)
  · refine .inr ⟨_, _, if_neg h, by omega, by omega, ?_, ?_⟩
    · exact Int.emod_nonneg _ (by omega)
    · have := Int.emod_lt_of_pos (numF ns (2 * f + 1)) (b := 11 - trueA ns f) (by omega)
      omega
theorem true_beh {ns : List Int} {m f : Nat} (hf : f < m) : 0 ≤ behR (trueG ns m) f 1 ∧ behR (trueG ns m) f 1 ≤ behR (trueG ns m) f 0 ∧ behR (trueG ns m) f 0 ≤ 10 := by
  unfold behR
  rw [rx_trueG hf]
  rcases trueR_row ns f with e | ⟨a, b, e, h1, h2, h3, h4⟩
  · rw [e]
    simp [behN, ix]
  · rw [e]
    simp [behN, ix]
    omega
theorem true_bd {ns : List Int} {m : Nat} : ∀ f, f < m → ∀ b, b ≤ 1 → 0 ≤ behR (trueG ns m) f b ∧ behR (trueG ns m) f b ≤ 10 := fun f hf b hb => by
  have h := true_beh (ns := ns) hf
  rcases (by omega : b = 0 ∨ b = 1) with rfl | rfl <;> omega
theorem told_mem {game : List (List Int)} {ns : List Int} {b : Nat} {ws : List Wd} {x : Wd} (h : x ∈ toldL game ns b ws) : ∃ i, i < ws.length ∧ x = toldW game ns b i (wx ws i) := by
  obtain ⟨i, hi, rfl⟩ := List.mem_map.1 h
  exact ⟨i, List.mem_range.1 hi, rfl⟩
theorem told_lo {n wide y : Int} (hn : 0 ≤ n) (hw : 0 ≤ wide) : 0 ≤ toldLo n wide y ∧ toldLo n wide y ≤ n := by
  have := Int.emod_nonneg y (b := wide + 1) (by omega)
  unfold toldLo
  omega
theorem told_hi {n wide lo : Int} (hn : n ≤ 10) : n ≤ toldHi n wide lo ∧ toldHi n wide lo ≤ 10 := by
  unfold toldHi
  omega
theorem toldW_no {game : List (List Int)} {ns : List Int} {b i : Nat} {x : Wd} (h : b.testBit x.te.toNat = true) : toldW game ns b i x = x := by unfold toldW; rw [if_pos h]
theorem toldW_yes {game : List (List Int)} {ns : List Int} {b i : Nat} {x : Wd} (h : b.testBit x.te.toNat = false) : toldW game ns b i x = ⟨x.fr, x.ba, x.te, toldLo (behR game x.fr.toNat x.ba.toNat) (x.hi - x.lo) (numF ns (3 * i + 2)), toldHi (behR game x.fr.toNat x.ba.toNat) (x.hi - x.lo) (toldLo (behR game x.fr.toNat x.ba.toNat) (x.hi - x.lo) (numF ns (3 * i + 2)))⟩ := by
  unfold toldW
  rw [if_neg (by simp [h])]
theorem word_mk2 {m : Int} {x : Wd} (h : 0 ≤ x.fr ∧ x.fr ≤ m - 1 ∧ 0 ≤ x.ba ∧ x.ba ≤ 1 ∧ 0 ≤ x.te ∧ x.te ≤ 3 ∧ 0 ≤ x.lo ∧ x.lo ≤ x.hi ∧ x.hi ≤ 10) : wordB m x = true := by
  simp only [wordB, Bool.and_eq_true, inB_eq, decide_eq_true_eq]
  omega
section
variable {m : Nat} {ws : List Wd} {ns : List Int} {b : Nat}
theorem told_word {x : Wd} {i : Nat} (h : wordB (m : Int) x = true) : wordB (m : Int) (toldW (trueG ns m) ns b i x) = true := by
  cases ht : b.testBit x.te.toNat
  · rw [toldW_yes ht]
    obtain ⟨h1, h2, h3, h4, h5, h6, h7, h8, h9⟩ := word_ok h
    obtain ⟨n0, n1⟩ := true_bd (ns := ns) (m := m) x.fr.toNat (by omega) x.ba.toNat (by omega)
    generalize behR (trueG ns m) x.fr.toNat x.ba.toNat = n at *
    have a := told_lo (n := n) (wide := x.hi - x.lo) (y := numF ns (3 * i + 2)) n0 (by omega)
    have c := told_hi (n := n) (wide := x.hi - x.lo) (lo := toldLo n (x.hi - x.lo) (numF ns (3 * i + 2))) n1
    refine word_mk2 ?_
    dsimp only
    omega
  · rw [toldW_no ht]; exact h
theorem told_lane (h : laneErr (m : Int) ws = 0) : laneErr (m : Int) (toldL (trueG ns m) ns b ws) = 0 := by
  obtain ⟨h30, h1, h5, hok⟩ := laneOk h
  refine lane_mk (by omega) (by omega) (by rw [toldL_len]; exact h30) fun x hx => ?_
  obtain ⟨i, hi, rfl⟩ := told_mem hx
  exact told_word (hok i hi)
/-- What stood in a frame is one of its games. -/
def stoodP (ns : List Int) (m f : Nat) : Nat × Nat := ((behR (trueG ns m) f 0).toNat, (behR (trueG ns m) f 1).toNat)
theorem stood_in (h : laneErr (m : Int) ws = 0) {o : Nat → Bool} (ho : ∀ j, j ≤ 3 → b.testBit j = true → o j = true) {f : Nat} (hf : f < m) : stoodP ns m f ∈ gamesL (toldL (trueG ns m) ns b ws) (f : Int) o := by
  obtain ⟨h30, h1, h5, hok⟩ := laneOk h
  obtain ⟨b0, b1, b2⟩ := true_beh (ns := ns) hf
  refine games_iff.2 ⟨upTo_iff.2 ⟨by unfold stoodP; dsimp only; omega, by unfold stoodP; dsimp only; omega⟩, okB_mem.2 fun x hx => okW_iff.2 fun hfr hot => ?_⟩
  obtain ⟨i, hi, rfl⟩ := told_mem hx
  obtain ⟨g1, g2, g3, g4, g5, g6, g7, g8, g9⟩ := word_ok (hok i hi)
  cases ht : b.testBit (wx ws i).te.toNat
  · rw [toldW_yes ht] at hfr hot ⊢
    dsimp only at hfr hot
    generalize wx ws i = x at *
    have e1 : x.fr.toNat = f := by omega
    obtain ⟨n0, n1⟩ := true_bd (ns := ns) (m := m) f hf x.ba.toNat (by omega)
    have est : standB ⟨x.fr, x.ba, x.te, toldLo (behR (trueG ns m) x.fr.toNat x.ba.toNat) (x.hi - x.lo) (numF ns (3 * i + 2)), toldHi (behR (trueG ns m) x.fr.toNat x.ba.toNat) (x.hi - x.lo) (toldLo (behR (trueG ns m) x.fr.toNat x.ba.toNat) (x.hi - x.lo) (numF ns (3 * i + 2)))⟩ (stoodP ns m f).1 (stoodP ns m f).2 = behR (trueG ns m) f x.ba.toNat := by
      unfold standB stoodP
      dsimp only
      by_cases hb : x.ba = 0
      · rw [if_pos hb, hb]
        have := true_bd (ns := ns) (m := m) f hf 0 (by omega)
        simp
        omega
      · rw [if_neg hb, show x.ba = 1 by omega]
        simp
        omega
    rw [est, e1]
    dsimp only
    generalize behR (trueG ns m) f x.ba.toNat = n at *
    have a := told_lo (n := n) (wide := x.hi - x.lo) (y := numF ns (3 * i + 2)) n0 (by omega)
    have c := told_hi (n := n) (wide := x.hi - x.lo) (lo := toldLo n (x.hi - x.lo) (numF ns (3 * i + 2))) n1
    omega
  · rw [toldW_no ht] at hot
    rw [ho _ (by omega) ht] at hot
    cases hot
theorem told_expl (h : laneErr (m : Int) ws = 0) {o : Nat → Bool} (ho : ∀ j, j ≤ 3 → b.testBit j = true → o j = true) : explB (m : Int) (toldL (trueG ns m) ns b ws) o = true := by
  unfold explB
  rw [allB_iff]
  intro f hf
  exact decide_eq_true (List.length_pos_of_mem (stood_in (ns := ns) h ho (by simpa using hf)))
/-- What stood is in the range of its place. -/
theorem stood_rg (h : laneErr (m : Int) ws = 0) {o : Nat → Bool} (ho : ∀ j, j ≤ 3 → b.testBit j = true → o j = true) {i : Nat} (hi : i < 2 * m) :
    (px (rangesL (toldL (trueG ns m) ns b ws) o m) i).1 ≤ behR (trueG ns m) (i / 2) (i % 2) ∧ behR (trueG ns m) (i / 2) (i % 2) ≤ (px (rangesL (toldL (trueG ns m) ns b ws) o m) i).2 := by
  have hf : i / 2 < m := by omega
  have hin := stood_in (ns := ns) h ho hf
  have h1 := stand_at (k := i) hi (x := ⟨0, ((i % 2 : Nat) : Int), 0, 0, 0⟩) rfl hin
  have e : standB ⟨0, ((i % 2 : Nat) : Int), 0, 0, 0⟩ (stoodP ns m (i / 2)).1 (stoodP ns m (i / 2)).2 = behR (trueG ns m) (i / 2) (i % 2) := by
    have a := true_bd (ns := ns) (m := m) (i / 2) hf 0 (by omega)
    have c := true_bd (ns := ns) (m := m) (i / 2) hf 1 (by omega)
    unfold standB stoodP
    dsimp only
    rcases (by omega : i % 2 = 0 ∨ i % 2 = 1) with e | e
    · rw [e, if_pos (by rfl)]; omega
    · rw [e, if_neg (by decide)]; omega
  rw [e] at h1
  exact h1
/-- What fell. -/
def cntT (ns : List Int) (m : Nat) : Nat → Int
  | 0 => 0
  | k + 1 => cntT ns m k + (10 - behR (trueG ns m) k 1)
theorem cntT_bd : ∀ k, k ≤ m → 0 ≤ cntT ns m k ∧ cntT ns m k ≤ 10 * (k : Int)
  | 0, _ => by simp [cntT]
  | k + 1, hk => by
    have a := cntT_bd k (by omega)
    have c := true_bd (ns := ns) (m := m) k (by omega) 1 (by omega)
    simp only [cntT]
    omega
theorem cnt_in (h : laneErr (m : Int) ws = 0) {o : Nat → Bool} (ho : ∀ j, j ≤ 3 → b.testBit j = true → o j = true) : ∀ k, k ≤ m → cntLo (toldL (trueG ns m) ns b ws) o k ≤ cntT ns m k ∧ cntT ns m k ≤ cntHi (toldL (trueG ns m) ns b ws) o k
  | 0, _ => by simp [cntT, cntLo, cntHi]
  | k + 1, hk => by
    have a := cnt_in h ho k (by omega)
    have c := stood_rg (ns := ns) h ho (i := 2 * k + 1) (by omega)
    rw [show (2 * k + 1) / 2 = k by omega, show (2 * k + 1) % 2 = 1 by omega, (rangesL_at _ o m k (by omega)).2] at c
    simp only [cntLo, cntHi, cntT]
    omega
end
end

end Go.Proofs.Ytenpiinkbfancaa.Sn
