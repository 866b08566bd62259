/-
  The places that are sure: the program's answer.
-/
import Derived.Test.YtadjkinpimmhkaaEq41
import Derived.Test.YtadjkinpimmhkaaRt
namespace Go.Proofs.Ytadjkinpimmhkaa
open Go.RowKit
set_option linter.unusedSimpArgs false
set_option linter.unusedVariables false

def oneS (f i lo hi : Int) : List (Int × Int) := if lo = hi then [(f, i)] else []
noncomputable def sureL (ws : List Wd) (o : Nat → Bool) : Nat → List (Int × Int)
  | 0 => []
  | k + 1 => (sureL ws o k ++ oneS (k : Int) 0 (loS (fsts (gamesL ws (k : Int) o))) (hiS (fsts (gamesL ws (k : Int) o)))) ++ oneS (k : Int) 1 (loS (snds (gamesL ws (k : Int) o))) (hiS (snds (gamesL ws (k : Int) o)))
theorem oneS_len (f i lo hi : Int) : (oneS f i lo hi).length ≤ 1 := by unfold oneS; split <;> simp
theorem sureL_len (ws : List Wd) (o : Nat → Bool) : ∀ k, (sureL ws o k).length ≤ 2 * k
  | 0 => Nat.le_refl _
  | k + 1 => by
    have h1 := sureL_len ws o k
    have h2 := oneS_len (k : Int) 0 (loS (fsts (gamesL ws (k : Int) o))) (hiS (fsts (gamesL ws (k : Int) o)))
    have h3 := oneS_len (k : Int) 1 (loS (snds (gamesL ws (k : Int) o))) (hiS (snds (gamesL ws (k : Int) o)))
    simp only [sureL, List.length_append]
    omega
/-- An own list of places. -/
def OwnP (base : Nat) (w : World) (u : Value) (ps : List (Int × Int)) : Prop := w.ownsRow base 74 2 u ps.length (flatR ps)
def SurePost (w : World) (ps : List (Int × Int)) (e : Ending) (w' : World) : Prop := ∃ A c, e = .returned (.tuple #[.slice A ps.length c, .int .i64 0]) ∧ OwnP w.heap.size w' (.slice A ps.length c) ps ∧ Below w.heap.size w w'
theorem infoPl : (Try.prog.info? 74).map (fun i => (i.zero, i.size, i.bytes)) = some (some (.agg #[.int .i64 0, .int .i64 0]), 2, 16) := by kernel_rfl
set_option maxRecDepth 100000 in
theorem wpList_place {ops : Array Oper} {rest : List Oper} {o : Oper} {a : Act} {Q : Exit → Act → World → Prop} (s x : Operand) (hgd : o.guard = none) (ho : o.op = .call { callee := .builtin .append, args := #[s, x], argTypes := #[70, 70] })
    (base : Nat) (w : World) (u : Value) (ps : List (Int × Int)) (n : Nat) (hn : ps.length = n) (f i : Int) (q : Nat) (hq : w.heap.size = q) (hv : a.eval s = u) (hx : a.eval x = .slice (some ⟨q, 0, none⟩) 1 1) (hown : OwnP base w u ps) (hl : ps.length ≤ 1000000) (hb : base ≤ w.heap.size)
    (h : ∀ A c w', Hid (OwnP base w' (.slice A (n + 1) c) (ps ++ [(f, i)])) → Hid (Below base w w') → wpList Try.prog ops Q rest (a.put o.dst (.slice A (n + 1) c)) w') :
    wpList Try.prog ops Q (o :: rest) a (w.alloc (.cells #[.int .i64 f, .int .i64 i] 74)) := by
  subst hn hq
  obtain ⟨i0, hi, hz0, hz1, hz2⟩ := info_parts infoPl
  have hO : (w.alloc (.cells #[.int .i64 f, .int .i64 i] 74)).ownsRow base 74 2 u ps.length (flatR ps) := World.ownsRow.alloc hown _
  have hs : Src (w.alloc (.cells #[.int .i64 f, .int .i64 i] 74)) 2 (some ⟨w.heap.size, 0, none⟩) 1 (flatR [(f, i)]) := by
    refine ⟨rfl, (fun h => by cases h), fun ad hA j y hy => ?_⟩
    injection hA with hA
    subst hA
    rw [add_eq]
    rcases j with _ | _ | j <;> simp [flatR] at hy
    all_goals
      subst hy
      simp
  refine wpList_append_src hgd s x 70 ho base 74 i0 (.agg #[.int .i64 0, .int .i64 0]) 2 16 Try.underlying70 hi hz0 hz1 hz2 rfl (by decide) u ps.length (flatR ps) hv hO (some ⟨w.heap.size, 0, none⟩) 1 1 (flatR [(f, i)]) hx hs (one_flat _) (by unfold maxLen; omega) (by omega) (by simp; omega) ?_
  intro v' w' h1 h2 _
  obtain ⟨A, c, rfl⟩ := ownsRow_form h1
  refine h A c w' ?_ (((Below.refl base w).alloc hb _).grown h2 (by simp; omega) (fun k e => (World.ownsRow.lt hown k e).1))
  show OwnP _ _ _ _
  unfold OwnP
  rw [flatR_append, List.length_append]
  exact h1
theorem ix100a (a b c d : Int) (W : World) : (Instr.index 100 (.agg #[.int .i64 a, .int .i64 b, .int .i64 c, .int .i64 d]) (.int .i64 0)).run Try.prog W = .ok (.agg #[.int .i64 a, .int .i64 b]) W := by kernel_rfl
theorem ix100b (a b c d : Int) (W : World) : (Instr.index 100 (.agg #[.int .i64 a, .int .i64 b, .int .i64 c, .int .i64 d]) (.int .i64 1)).run Try.prog W = .ok (.agg #[.int .i64 c, .int .i64 d]) W := by kernel_rfl

set_option maxRecDepth 100000 in
set_option maxHeartbeats 4000000 in
theorem sure_bad (A At : Option Addr) (ws : List Wd) (ts : List Int) (c ct : Nat) (frn : Int) (w : World) (hw : Wds w.heap.size w A ws) (ht : Ints w.heap.size w At ts) (hc : ws.length ≤ c ∧ c ≤ 9223372036854775807) (hct : ts.length ≤ ct ∧ ct ≤ 9223372036854775807) (h : exErr frn ws ts ≠ 0) : Calls Try.prog 41 #[.agg #[.int .i64 frn, .slice A ws.length c], .slice At ts.length ct] w (Ans w (.tuple #[.slice none 0 0, .int .i64 (exErr frn ws ts)])) := by
  have hb0 : Below w.heap.size w (w.alloc (.cells #[.int .i64 frn, .slice A ws.length c] 32)) := (Below.refl _ _).alloc (Nat.le_refl _) _
  have k0 : (w.alloc (.cells #[.int .i64 frn, .slice A ws.length c] 32)).cell? ⟨w.heap.size, 0, none⟩ = some (.int .i64 frn) := by simp
  have k1 : (w.alloc (.cells #[.int .i64 frn, .slice A ws.length c] 32)).cell? ⟨w.heap.size, 1, none⟩ = some (.slice A ws.length c) := by simp
  have HC := Lib.hid (explained_bad A At ws ts c ct frn _ (hw.step hb0) (ht.step hb0) hc hct h)
  have hne : (exErr frn ws ts != 0) = true := by simp [h]
  have HB0 := Lib.hid hb0
  generalize exErr frn ws ts = er at HC hne ⊢
  clear h hb0
  go_enter Try.func41, Try.ntmps41
  go_wp2_with fail
  generalize (w.alloc (.cells #[.int .i64 frn, .slice A ws.length c] 32)) = W0 at k0 k1 HC HB0 ⊢
  refine HC.out.mono ?_
  rintro e w1 ⟨P, a1, a2, a3, a4, rfl, hb1⟩
  have HB1 := Lib.hid (HB0.out.trans (hb1.mono HB0.out.size))
  clear hb1
  go_wp2_with fail
  go_ret2
  exact ⟨rfl, HB1.out.alloc HB1.out.size _⟩

set_option maxRecDepth 100000 in
set_option maxHeartbeats 8000000 in
theorem sure_ok (A At : Option Addr) (ws : List Wd) (ts : List Int) (c ct : Nat) (frn : Int) (w : World) (hw : Wds w.heap.size w A ws) (ht : Ints w.heap.size w At ts) (hc : ws.length ≤ c ∧ c ≤ 9223372036854775807) (hct : ts.length ≤ ct ∧ ct ≤ 9223372036854775807) (h : exErr frn ws ts = 0) : Calls Try.prog 41 #[.agg #[.int .i64 frn, .slice A ws.length c], .slice At ts.length ct] w (SurePost w (sureL ws (offT ts) frn.toNat)) := by
  have hb0 : Below w.heap.size w (w.alloc (.cells #[.int .i64 frn, .slice A ws.length c] 32)) := (Below.refl _ _).alloc (Nat.le_refl _) _
  have k0 : (w.alloc (.cells #[.int .i64 frn, .slice A ws.length c] 32)).cell? ⟨w.heap.size, 0, none⟩ = some (.int .i64 frn) := by simp
  have k1 : (w.alloc (.cells #[.int .i64 frn, .slice A ws.length c] 32)).cell? ⟨w.heap.size, 1, none⟩ = some (.slice A ws.length c) := by simp
  have HC := Lib.hid (explained_ok A At ws ts c ct frn _ (hw.step hb0) (ht.step hb0) hc hct h)
  have HB0 := Lib.hid hb0
  obtain ⟨hl, -⟩ := askOk (exOk h).1
  obtain ⟨h30, hf1, hf5, hok⟩ := laneOk hl
  have HOK := Lib.hid hok
  obtain ⟨m, rfl⟩ : ∃ m : Nat, frn = (m : Int) := ⟨frn.toNat, by omega⟩
  have hm5 : m ≤ 5 := by omega
  rw [Int.toNat_natCast]
  clear h hl hok hb0
  generalize offT ts = o at HC ⊢
  go_enter Try.func41, Try.ntmps41
  go_wp2_with fail
  generalize (w.alloc (.cells #[.int .i64 (m : Int), .slice A ws.length c] 32)) = W0 at k0 k1 HC HB0 ⊢
  refine HC.out.mono ?_
  rintro e w1 ⟨p, b, rfl, hp1, hp2, hb1, hWat, hbw⟩
  have hb2 : Below w1.heap.size w1 (w1.alloc (.cells #[.bool (o 0), .bool (o 1), .bool (o 2), .bool (o 3)] 92)) := (Below.refl _ _).alloc (Nat.le_refl _) _
  have HO : Hid (B4 (w1.alloc (.cells #[.bool (o 0), .bool (o 1), .bool (o 2), .bool (o 3)] 92)) w1.heap.size o) := B4.new w1 _ _ _ _ _ ⟨rfl, rfl, rfl, rfl⟩
  have HWA := Lib.hid (hWat.step hb2 hbw.size)
  have HB2 : Hid (Below w.heap.size w (w1.alloc (.cells #[.bool (o 0), .bool (o 1), .bool (o 2), .bool (o 3)] 92))) := (HB0.out.trans (hbw.mono HB0.out.size)).alloc (Nat.le_trans HB0.out.size hbw.size) _
  have k2 := HWA.out.cn
  clear hWat hbw hb2
  go_wp2_with fail
  generalize hw2 : w1.alloc (.cells #[.bool (o 0), .bool (o 1), .bool (o 2), .bool (o 3)] 92) = w2 at HO HWA HB2 k2 ⊢
  have hp3 : p < w2.heap.size := World.block_lt_of_cell? w2 _ k2
  clear hw2
  go_loopw [30, 9] (fun i v wr => ∃ k : Nat, k ≤ m ∧ i = .int .i64 k ∧ OwnP w2.heap.size wr v (sureL ws o k) ∧ Below w2.heap.size w2 wr) (fun i _ _ => m - (intOf i).toNat)
  case atStart => exact ⟨0, by omega, rfl, World.ownsRow_nil _ _ _ _, Below.refl _ _⟩
  case round =>
    obtain ⟨k, hk, rfl, hO, hbr⟩ := hrel
    have HOr := Lib.hid (HO.out.below hbr)
    have HBr := Lib.hid hbr
    have HPr := Lib.hid hO
    have hzr := hbr.size
    have hWr := HWA.out.step hbr (by have := HB2.out.size; have := HB0.out.size; omega)
    by_cases h1 : k < m
    · obtain ⟨d0, d1, d2, d3, -⟩ := HOr.out.cells
      have hki : (k : Int) < (m : Int) := by omega
      have HF := Lib.hid (frame_c (B := wr.heap.size) p c (k : Int) (m : Int) o A ws wr (Nat.le_refl _) (by omega) hWr.cn hWr.cl (hWr.wd.more (by omega)) (by omega) HOK.out)
      have HS : Hid (sureL ws o (k + 1) = (sureL ws o k ++ oneS (k : Int) 0 (loS (fsts (gamesL ws (k : Int) o))) (hiS (fsts (gamesL ws (k : Int) o)))) ++ oneS (k : Int) 1 (loS (snds (gamesL ws (k : Int) o))) (hiS (snds (gamesL ws (k : Int) o)))) := rfl
      have hsl := sureL_len ws o k
      generalize loS (fsts (gamesL ws (k : Int) o)) = a1 at *
      generalize hiS (fsts (gamesL ws (k : Int) o)) = a2 at *
      generalize loS (snds (gamesL ws (k : Int) o)) = a3 at *
      generalize hiS (snds (gamesL ws (k : Int) o)) = a4 at *
      generalize (gamesL ws (k : Int) o).length = gl at *
      generalize sureL ws o k = sl at *
      obtain ⟨Av, cv, rfl⟩ := ownsRow_form hO
      clear hbr hWr hO
      go_wp2_with fail
      refine HF.out.mono ?_
      rintro e w3 ⟨rfl, hb3⟩
      have hb4 : Below wr.heap.size wr (w3.alloc (.cells #[.int .i64 a1, .int .i64 a2, .int .i64 a3, .int .i64 a4] 100)) := hb3.alloc hb3.size _
      have HP4 : Hid (OwnP w2.heap.size (w3.alloc (.cells #[.int .i64 a1, .int .i64 a2, .int .i64 a3, .int .i64 a4] 100)) (.slice Av sl.length cv) sl) := World.ownsRow.kept HPr.out (only_below hb4 none) (own_ne _)
      have HB4 := Lib.hid (HBr.out.trans (hb4.mono hzr))
      clear hb3 hb4
      go_wp2_with fail
      generalize w3.alloc (.cells #[.int .i64 a1, .int .i64 a2, .int .i64 a3, .int .i64 a4] 100) = w4 at HP4 HB4 ⊢
      go_loopw [41, 9] (fun i v wr2 => (i = .int .i64 0 ∧ OwnP w2.heap.size wr2 v sl ∧ Below w2.heap.size w2 wr2) ∨ (i = .int .i64 1 ∧ OwnP w2.heap.size wr2 v (sl ++ oneS (k : Int) 0 a1 a2) ∧ Below w2.heap.size w2 wr2) ∨ (i = .int .i64 2 ∧ OwnP w2.heap.size wr2 v ((sl ++ oneS (k : Int) 0 a1 a2) ++ oneS (k : Int) 1 a3 a4) ∧ Below w2.heap.size w2 wr2)) (fun i _ _ => 2 - (intOf i).toNat)
      case atStart => exact .inl ⟨rfl, HP4.out, HB4.out⟩
      case round =>
        obtain ⟨wr2, rfl⟩ : ∃ W : World, W = wr := ⟨_, rfl⟩
        rcases hrel with ⟨rfl, hP2, hb2⟩ | ⟨rfl, hP2, hb2⟩ | ⟨rfl, hP2, hb2⟩
        · have hq : wr2.heap.size = wr2.heap.size := rfl
          have i0 := ix100a a1 a2 a3 a4
          obtain ⟨Aw, cw, rfl⟩ := ownsRow_form hP2
          have hl2 : (sl).length ≤ 1000000 := by first | omega | (simp only [List.length_append]; have := oneS_len (k : Int) 0 a1 a2; omega)
          have hz2 := hb2.size
          have hb5 : Below wr2.heap.size wr2 (wr2.alloc (.cells #[.int .i64 a1, .int .i64 a2] 41)) := (Below.refl _ _).alloc (Nat.le_refl _) _
          have HP5 : Hid (OwnP w2.heap.size (wr2.alloc (.cells #[.int .i64 a1, .int .i64 a2] 41)) (.slice Aw (sl).length cw) (sl)) := World.ownsRow.kept hP2 (only_below hb5 none) (own_ne _)
          have HB5 := Lib.hid (hb2.trans (hb5.mono hz2))
          have hz5 : w2.heap.size ≤ (wr2.alloc (.cells #[.int .i64 a1, .int .i64 a2] 41)).heap.size := Nat.le_trans hz2 hb5.size
          generalize hps : (sl) = ps at *
          generalize hpl : ps.length = pl at *
          by_cases he : a1 = a2
          · have heq : ∀ W, (binOp .eql 41 (.agg #[.int .i64 a1, .int .i64 a2]) (.agg #[.int .i64 a1, .int .i64 a1])).run Try.prog W = .ok (.bool true) W := fun W => by rw [eq41]; simp [he]
            have HX : Hid (ps ++ oneS (k : Int) 0 a1 a2 = ps ++ [((k : Int), 0)]) := by show _ = _; rw [oneS, if_pos he]
            have HPL := Lib.hid hpl
            have HPS := Lib.hid hps
            clear hP2 hb2 hb5 he hpl hps
            go_wp2_with (at_builtin; refine wpList_place (.tmp 52) (.tmp 56) rfl rfl w2.heap.size _ (.slice Aw pl cw) ps pl HPL.out (k : Int) 0 (wr2.heap.size + 1) (by simp) rfl rfl HP5.out (by rw [HPL.out]; exact hl2) hz5 ?_; intro A6 c6 w6 HP6 HB6)
            go_roundw
            case rel => exact .inr (.inl ⟨rfl, by first | (rw [HPS.out, HX.out]; exact HP6.out) | (rw [HX.out]; exact HP6.out), HB5.out.trans HB6.out⟩)
            case measure => simp [intOf]
          · have heq : ∀ W, (binOp .eql 41 (.agg #[.int .i64 a1, .int .i64 a2]) (.agg #[.int .i64 a1, .int .i64 a1])).run Try.prog W = .ok (.bool false) W := fun W => by rw [eq41]; simp; exact fun h => he h.symm
            have HX : Hid (ps ++ oneS (k : Int) 0 a1 a2 = ps) := by show _ = _; rw [oneS, if_neg he, List.append_nil]
            have HPL := Lib.hid hpl
            have HPS := Lib.hid hps
            have HQ5 : Hid (OwnP w2.heap.size (wr2.alloc (.cells #[.int .i64 a1, .int .i64 a2] 41)) (.slice Aw pl cw) ps) := HP5.out
            clear hP2 hb2 hb5 he hpl hps
            go_wp2_with fail
            go_roundw
            case rel => exact .inr (.inl ⟨rfl, by first | (rw [HPS.out, HX.out]; exact HQ5.out) | (rw [HX.out]; exact HQ5.out), HB5.out⟩)
            case measure => simp [intOf]
        · have hq : wr2.heap.size = wr2.heap.size := rfl
          have i0 := ix100b a1 a2 a3 a4
          obtain ⟨Aw, cw, rfl⟩ := ownsRow_form hP2
          have hl2 : (sl ++ oneS (k : Int) 0 a1 a2).length ≤ 1000000 := by first | omega | (simp only [List.length_append]; have := oneS_len (k : Int) 0 a1 a2; omega)
          have hz2 := hb2.size
          have hb5 : Below wr2.heap.size wr2 (wr2.alloc (.cells #[.int .i64 a3, .int .i64 a4] 41)) := (Below.refl _ _).alloc (Nat.le_refl _) _
          have HP5 : Hid (OwnP w2.heap.size (wr2.alloc (.cells #[.int .i64 a3, .int .i64 a4] 41)) (.slice Aw (sl ++ oneS (k : Int) 0 a1 a2).length cw) (sl ++ oneS (k : Int) 0 a1 a2)) := World.ownsRow.kept hP2 (only_below hb5 none) (own_ne _)
          have HB5 := Lib.hid (hb2.trans (hb5.mono hz2))
          have hz5 : w2.heap.size ≤ (wr2.alloc (.cells #[.int .i64 a3, .int .i64 a4] 41)).heap.size := Nat.le_trans hz2 hb5.size
          generalize hps : (sl ++ oneS (k : Int) 0 a1 a2) = ps at *
          generalize hpl : ps.length = pl at *
          by_cases he : a3 = a4
          · have heq : ∀ W, (binOp .eql 41 (.agg #[.int .i64 a3, .int .i64 a4]) (.agg #[.int .i64 a3, .int .i64 a3])).run Try.prog W = .ok (.bool true) W := fun W => by rw [eq41]; simp [he]
            have HX : Hid (ps ++ oneS (k : Int) 1 a3 a4 = ps ++ [((k : Int), 1)]) := by show _ = _; rw [oneS, if_pos he]
            have HPL := Lib.hid hpl
            have HPS := Lib.hid hps
            clear hP2 hb2 hb5 he hpl hps
            go_wp2_with (at_builtin; refine wpList_place (.tmp 52) (.tmp 56) rfl rfl w2.heap.size _ (.slice Aw pl cw) ps pl HPL.out (k : Int) 1 (wr2.heap.size + 1) (by simp) rfl rfl HP5.out (by rw [HPL.out]; exact hl2) hz5 ?_; intro A6 c6 w6 HP6 HB6)
            go_roundw
            case rel => exact .inr (.inr ⟨rfl, by first | (rw [HPS.out, HX.out]; exact HP6.out) | (rw [HX.out]; exact HP6.out), HB5.out.trans HB6.out⟩)
            case measure => simp [intOf]
          · have heq : ∀ W, (binOp .eql 41 (.agg #[.int .i64 a3, .int .i64 a4]) (.agg #[.int .i64 a3, .int .i64 a3])).run Try.prog W = .ok (.bool false) W := fun W => by rw [eq41]; simp; exact fun h => he h.symm
            have HX : Hid (ps ++ oneS (k : Int) 1 a3 a4 = ps) := by show _ = _; rw [oneS, if_neg he, List.append_nil]
            have HPL := Lib.hid hpl
            have HPS := Lib.hid hps
            have HQ5 : Hid (OwnP w2.heap.size (wr2.alloc (.cells #[.int .i64 a3, .int .i64 a4] 41)) (.slice Aw pl cw) ps) := HP5.out
            clear hP2 hb2 hb5 he hpl hps
            go_wp2_with fail
            go_roundw
            case rel => exact .inr (.inr ⟨rfl, by first | (rw [HPS.out, HX.out]; exact HQ5.out) | (rw [HX.out]; exact HQ5.out), HB5.out⟩)
            case measure => simp [intOf]
        · go_wp2_with fail
          go_roundw
          case rel => exact ⟨k + 1, by omega, by go_num, by rw [HS.out]; exact hP2, hb2⟩
          case measure => simp [intOf]; omega
    · obtain rfl : k = m := by omega
      obtain ⟨Av, cv, rfl⟩ := ownsRow_form hO
      clear hbr hWr hO
      go_wp2_with fail
      go_ret2
      exact ⟨Av, cv, rfl, ownsRow_base HPr.out HB2.out.size, HB2.out.trans (HBr.out.mono HB2.out.size)⟩
end Go.Proofs.Ytadjkinpimmhkaa
