/-
  path: is a lane valid? (It is.)
-/
import Derived.Test.YtenpiinkbfancaaPb3
namespace Go.Proofs.Ytenpiinkbfancaa.Pa
open Go.RowKit
set_option linter.unusedSimpArgs false
set_option linter.unusedVariables false

attribute [local go_sem] Oper.semAt_some
theorem inside183_c (x y a b : Int) (h0 : a ≤ x) (h1 : x ≤ y) (h2 : y ≤ b) (w : World) : Calls Try.prog 183 #[.agg #[.int .i64 x, .int .i64 y], .int .i64 a, .int .i64 b] w (Ans w (.bool true)) := by
  have hb0 : Below w.heap.size w (w.alloc (.cells #[.int .i64 x, .int .i64 y] 186)) := (Below.refl _ _).alloc (Nat.le_refl _) _
  go_enter Try.func183, Try.ntmps183
  go_wp2_with fail
  go_ret
  exact ⟨by simp [h0, h1, h2], hb0⟩
theorem hook160_c (x y : Int) (h0 : -3 ≤ x) (h1 : x ≤ y) (h2 : y ≤ 3) (w : World) : Calls Try.prog 160 #[.agg #[.int .i64 x, .int .i64 y]] w (Ans w (.bool true)) := by
  have hb0 : Below w.heap.size w (w.alloc (.cells #[.int .i64 x, .int .i64 y] 186)) := (Below.refl _ _).alloc (Nat.le_refl _) _
  have HB := Lib.hid hb0
  have H := Lib.hid (fun W => inside183_c x y (-3) 3 h0 h1 h2 W)
  clear hb0 h0 h1 h2
  go_enter Try.func160, Try.ntmps160
  go_wp2_with fail
  refine (H.out _).mono ?_
  rintro e w1 ⟨rfl, hb⟩
  have HB1 := Lib.hid hb
  clear hb
  go_wp2_with fail
  go_ret
  exact ⟨rfl, HB.out.trans (HB1.out.mono HB.out.size)⟩
theorem patch162_c (l : Ln) (H P : Option Addr) (ch cp : Nat) (n : Nat) (hok : Ok l) (hn : n < l.pt.length) (w : World) : Calls Try.prog 162 #[LV l H P ch cp, .agg #[.int .i64 (ix (rx l.pt n) 0), .int .i64 (ix (rx l.pt n) 1), .int .i64 (ix (rx l.pt n) 2), .int .i64 (ix (rx l.pt n) 3), .int .i64 (ix (rx l.pt n) 4)]] w (Ans w (.bool true)) := by
  unfold LV
  obtain ⟨⟨p0, p1, p2⟩, ⟨p3, p4, p5⟩, p6, p7⟩ := patch_bd hok hn
  have hr1 := hok.r1
  have hr0 := hok.r0
  have hh4 := hok.h4
  generalize ix (rx l.pt n) 0 = x0 at *
  generalize ix (rx l.pt n) 1 = x1 at *
  generalize ix (rx l.pt n) 2 = x2 at *
  generalize ix (rx l.pt n) 3 = x3 at *
  generalize ix (rx l.pt n) 4 = x4 at *
  have hb0 := below_two2 w (.cells #[.int .i64 l.nb, .int .i64 l.nr, .slice H l.hk.length ch, .slice P l.pt.length cp] 103) (.cells #[.int .i64 x0, .int .i64 x1, .int .i64 x2, .int .i64 x3, .int .i64 x4] 198)
  have HB := Lib.hid hb0
  have H1 := Lib.hid (fun W => inside183_c x0 x1 0 (l.nr - 1) p0 p1 p2 W)
  have H2 := Lib.hid (fun W => inside183_c x2 x3 1 l.nb p3 p4 p5 W)
  have H3 := Lib.hid (fun W => within94_c x4 0 ((l.hk.length : Int) - 1) W)
  have hin : inB x4 0 ((l.hk.length : Int) - 1) = true := (inB_eq _ _ _).2 ⟨p6, p7⟩
  rw [hin] at H3
  have hw1 : IntKind.i64.wrap (l.nr - 1) = l.nr - 1 := IntWalk.i64_in _ (by omega)
  have hw2 : IntKind.i64.wrap ((l.hk.length : Int) - 1) = (l.hk.length : Int) - 1 := IntWalk.i64_in _ (by omega)
  have k0 : ((w.alloc (.cells #[.int .i64 l.nb, .int .i64 l.nr, .slice H l.hk.length ch, .slice P l.pt.length cp] 103)).alloc (.cells #[.int .i64 x0, .int .i64 x1, .int .i64 x2, .int .i64 x3, .int .i64 x4] 198)).cell? ⟨w.heap.size, 0, none⟩ = some (.int .i64 l.nb) := by go_simp
  have k2 : ((w.alloc (.cells #[.int .i64 l.nb, .int .i64 l.nr, .slice H l.hk.length ch, .slice P l.pt.length cp] 103)).alloc (.cells #[.int .i64 x0, .int .i64 x1, .int .i64 x2, .int .i64 x3, .int .i64 x4] 198)).cell? ⟨w.heap.size, 2, none⟩ = some (.slice H l.hk.length ch) := by go_simp
  have k3 : ((w.alloc (.cells #[.int .i64 l.nb, .int .i64 l.nr, .slice H l.hk.length ch, .slice P l.pt.length cp] 103)).alloc (.cells #[.int .i64 x0, .int .i64 x1, .int .i64 x2, .int .i64 x3, .int .i64 x4] 198)).cell? ⟨w.heap.size + 1, 2, none⟩ = some (.int .i64 x2) := by go_simp
  have k4 : ((w.alloc (.cells #[.int .i64 l.nb, .int .i64 l.nr, .slice H l.hk.length ch, .slice P l.pt.length cp] 103)).alloc (.cells #[.int .i64 x0, .int .i64 x1, .int .i64 x2, .int .i64 x3, .int .i64 x4] 198)).cell? ⟨w.heap.size + 1, 3, none⟩ = some (.int .i64 x3) := by go_simp
  have k5 : ((w.alloc (.cells #[.int .i64 l.nb, .int .i64 l.nr, .slice H l.hk.length ch, .slice P l.pt.length cp] 103)).alloc (.cells #[.int .i64 x0, .int .i64 x1, .int .i64 x2, .int .i64 x3, .int .i64 x4] 198)).cell? ⟨w.heap.size + 1, 4, none⟩ = some (.int .i64 x4) := by go_simp
  have HK := Lib.hid (And.intro k0 (And.intro k2 (And.intro k3 (And.intro k4 k5))))
  have HZ : Hid (((w.alloc (.cells #[.int .i64 l.nb, .int .i64 l.nr, .slice H l.hk.length ch, .slice P l.pt.length cp] 103)).alloc (.cells #[.int .i64 x0, .int .i64 x1, .int .i64 x2, .int .i64 x3, .int .i64 x4] 198)).heap.size = w.heap.size + 2) := by show _ = _; simp
  clear hb0 p0 p1 p2 p3 p4 p5 p6 p7 hr1 hr0 hh4 hin hok hn k0 k2 k3 k4 k5
  go_enter Try.func162, Try.ntmps162
  go_wp2_with fail
  refine (H1.out _).mono ?_
  rintro e w1 ⟨rfl, hb⟩
  have s0 := (hb.cell (p := ⟨w.heap.size, 0, none⟩) (by dsimp only; have := HZ.out; omega)).trans HK.out.1
  have s2 := (hb.cell (p := ⟨w.heap.size, 2, none⟩) (by dsimp only; have := HZ.out; omega)).trans HK.out.2.1
  have s3 := (hb.cell (p := ⟨w.heap.size + 1, 2, none⟩) (by dsimp only; have := HZ.out; omega)).trans HK.out.2.2.1
  have s4 := (hb.cell (p := ⟨w.heap.size + 1, 3, none⟩) (by dsimp only; have := HZ.out; omega)).trans HK.out.2.2.2.1
  have s5 := (hb.cell (p := ⟨w.heap.size + 1, 4, none⟩) (by dsimp only; have := HZ.out; omega)).trans HK.out.2.2.2.2
  have HB1 : Hid (Below w.heap.size w w1) := HB.out.trans (hb.mono HB.out.size)
  clear hb HB HK
  go_wp2_with fail
  refine (H2.out _).mono ?_
  rintro e w2 ⟨rfl, hb⟩
  replace s2 := cell_of_ans hb s2
  replace s5 := cell_of_ans hb s5
  have HB2 : Hid (Below w.heap.size w w2) := HB1.out.trans (hb.mono HB1.out.size)
  clear hb s0 s3 s4
  go_wp2_with fail
  refine (H3.out _).mono ?_
  rintro e w3 ⟨rfl, rfl⟩
  go_wp2_with fail
  go_ret
  exact ⟨rfl, HB2.out⟩
def Enters (g : Nat) : Prop := ∀ args W, (callFunc g args).run Try.prog W = .ok (.enter g args) W
/-- The function g, with what is bound, says yes of each record, in whatever world. -/
def Yes (n g : Nat) (fs : Array Value) (vs : Nat → Value) : Prop := ∀ k, k < n → ∀ W, Calls Try.prog g (fs.push (vs k)) W (Ans W (.bool true))

def rec2 (rs : List (List Int)) (n : Nat) : Value := .agg #[.int .i64 (ix (rx rs n) 0), .int .i64 (ix (rx rs n) 1)]
theorem cl182_c (g bx : Nat) (fs : Array Value) (rs : List (List Int)) (n : Nat) (W : World) (he : Enters g) (hbx : W.cell? ⟨bx, 0, none⟩ = some (.func (.func g) fs #[])) (hc : ∀ W, Calls Try.prog g (fs.push (rec2 rs n)) W (Ans W (.bool true))) :
    Calls Try.prog 182 #[rec2 rs n, .pointer (some ⟨bx, 0, none⟩)] W (Ans W (.bool false)) := by
  have HB : Hid (Below W.heap.size W (W.alloc (.cells #[.int .i64 (ix (rx rs n) 0), .int .i64 (ix (rx rs n) 1)] 186))) := (Below.refl _ _).alloc (Nat.le_refl _) _
  have hlt := World.block_lt_of_cell? W _ hbx
  have H := Lib.hid hc
  clear hc
  unfold Enters at he
  unfold rec2 at *
  generalize ix (rx rs n) 0 = x0 at *
  generalize ix (rx rs n) 1 = x1 at *
  go_enter Try.func182, Try.ntmps182
  go_wp2_with fail
  refine (H.out _).mono ?_
  rintro e w1 ⟨rfl, hb⟩
  have HB1 := Lib.hid hb
  clear hb
  go_wp2_with fail
  go_ret
  exact ⟨rfl, HB.out.trans (HB1.out.mono HB.out.size)⟩
theorem index202_c (A : Option Addr) (c g bx : Nat) (fs : Array Value) (rs : List (List Int)) (w : World) (he : Enters g) (hn : rs.length ≤ 1000)
    (hbx : w.cell? ⟨bx, 0, none⟩ = some (.func (.func g) fs #[])) (hR : Recs 2 w.heap.size w A rs) (hc : Yes rs.length g fs (rec2 rs)) :
    Calls Try.prog 202 #[.slice A rs.length c, .func (.func 182) #[] #[.pointer (some ⟨bx, 0, none⟩)]] w (Ans w (.int .i64 (-1))) := by
  have HR := Lib.hid hR
  have HC := Lib.hid hbx
  have HE := Lib.hid he
  have HY := Lib.hid hc
  have hlt := World.block_lt_of_cell? w _ hbx
  have HLT := Lib.hid hlt
  clear hR hbx he hc hlt
  go_enter Try.func202, Try.ntmps202
  go_wp2_with fail
  go_loopw [8] (fun i wr => ∃ k : Nat, k ≤ rs.length ∧ i = .int .i64 k ∧ Below w.heap.size w wr) (fun i _ => rs.length - (intOf i).toNat)
  case atStart => exact ⟨0, by omega, rfl, Below.refl _ _⟩
  case round =>
    obtain ⟨k, hk, rfl, hb⟩ := hrel
    by_cases h1 : k < rs.length
    · obtain ⟨b, off, rfl, hb1, c0, c1⟩ := HR.out.at2 h1
      replace c0 := (hb.cell (p := ⟨b, off + k * 2, none⟩) hb1).trans c0
      replace c1 := (hb.cell (p := ⟨b, off + k * 2 + 1, none⟩) hb1).trans c1
      have HCL := Lib.hid (cl182_c g bx fs rs k wr HE.out ((hb.cell (p := ⟨bx, 0, none⟩) HLT.out).trans HC.out) (HY.out k h1))
      have hz := hb.size
      have hw1 : IntKind.i64.wrap ((k : Int) + 1) = (k : Int) + 1 := IntWalk.i64_in _ (by omega)
      have HBW := Lib.hid hb
      unfold rec2 at HCL
      clear hb hb1
      go_wp2_with fail
      refine HCL.out.mono ?_
      rintro e w1 ⟨rfl, hb2⟩
      have HB2 := Lib.hid hb2
      clear hb2
      go_wp2_with fail
      go_roundw
      case rel => exact ⟨k + 1, by omega, by go_num, HBW.out.trans (HB2.out.mono hz)⟩
      case measure => simp [intOf]; omega
    · go_wp2_with fail
      go_ret
      exact ⟨rfl, hb⟩
theorem contains181_c (A : Option Addr) (c g bx : Nat) (fs : Array Value) (rs : List (List Int)) (w : World) (he : Enters g) (hn : rs.length ≤ 1000)
    (hbx : w.cell? ⟨bx, 0, none⟩ = some (.func (.func g) fs #[])) (hR : Recs 2 w.heap.size w A rs) (hc : Yes rs.length g fs (rec2 rs)) :
    Calls Try.prog 181 #[.slice A rs.length c, .func (.func 182) #[] #[.pointer (some ⟨bx, 0, none⟩)]] w (Ans w (.bool false)) := by
  have H := Lib.hid (index202_c A c g bx fs rs w he hn hbx hR hc)
  clear hbx hR he hc
  go_enter Try.func181, Try.ntmps181
  go_wp2_with fail
  refine H.out.mono ?_
  rintro e w1 ⟨rfl, hb⟩
  have HB1 := Lib.hid hb
  clear hb
  go_wp2_with fail
  go_ret
  exact ⟨rfl, HB1.out⟩
theorem all159_c (A : Option Addr) (c g : Nat) (fs : Array Value) (rs : List (List Int)) (w : World) (he : Enters g) (hn : rs.length ≤ 1000) (hR : Recs 2 w.heap.size w A rs) (hc : Yes rs.length g fs (rec2 rs)) :
    Calls Try.prog 159 #[.slice A rs.length c, .func (.func g) fs #[]] w (Ans w (.bool true)) := by
  have hb0 : Below w.heap.size w (w.alloc (.cells #[.func (.func g) fs #[]] 286)) := (Below.refl _ _).alloc (Nat.le_refl _) _
  have H := Lib.hid (contains181_c A c g w.heap.size fs rs (w.alloc (.cells #[.func (.func g) fs #[]] 286)) he hn (by simp) (hR.step hb0) hc)
  have HB := Lib.hid hb0
  clear hR he hc hb0
  go_enter Try.func159, Try.ntmps159
  go_wp2_with fail
  refine H.out.mono ?_
  rintro e w1 ⟨rfl, hb⟩
  have HB1 := Lib.hid hb
  clear hb
  go_wp2_with fail
  go_ret
  exact ⟨rfl, HB.out.trans (HB1.out.mono HB.out.size)⟩

def rec5 (rs : List (List Int)) (n : Nat) : Value := .agg #[.int .i64 (ix (rx rs n) 0), .int .i64 (ix (rx rs n) 1), .int .i64 (ix (rx rs n) 2), .int .i64 (ix (rx rs n) 3), .int .i64 (ix (rx rs n) 4)]
theorem cl185_c (g bx : Nat) (fs : Array Value) (rs : List (List Int)) (n : Nat) (W : World) (he : Enters g) (hbx : W.cell? ⟨bx, 0, none⟩ = some (.func (.func g) fs #[])) (hc : ∀ W, Calls Try.prog g (fs.push (rec5 rs n)) W (Ans W (.bool true))) :
    Calls Try.prog 185 #[rec5 rs n, .pointer (some ⟨bx, 0, none⟩)] W (Ans W (.bool false)) := by
  have HB : Hid (Below W.heap.size W (W.alloc (.cells #[.int .i64 (ix (rx rs n) 0), .int .i64 (ix (rx rs n) 1), .int .i64 (ix (rx rs n) 2), .int .i64 (ix (rx rs n) 3), .int .i64 (ix (rx rs n) 4)] 198))) := (Below.refl _ _).alloc (Nat.le_refl _) _
  have hlt := World.block_lt_of_cell? W _ hbx
  have H := Lib.hid hc
  clear hc
  unfold Enters at he
  unfold rec5 at *
  generalize ix (rx rs n) 0 = x0 at *
  generalize ix (rx rs n) 1 = x1 at *
  generalize ix (rx rs n) 2 = x2 at *
  generalize ix (rx rs n) 3 = x3 at *
  generalize ix (rx rs n) 4 = x4 at *
  go_enter Try.func185, Try.ntmps185
  go_wp2_with fail
  refine (H.out _).mono ?_
  rintro e w1 ⟨rfl, hb⟩
  have HB1 := Lib.hid hb
  clear hb
  go_wp2_with fail
  go_ret
  exact ⟨rfl, HB.out.trans (HB1.out.mono HB.out.size)⟩
theorem index203_c (A : Option Addr) (c g bx : Nat) (fs : Array Value) (rs : List (List Int)) (w : World) (he : Enters g) (hn : rs.length ≤ 1000)
    (hbx : w.cell? ⟨bx, 0, none⟩ = some (.func (.func g) fs #[])) (hR : Recs 5 w.heap.size w A rs) (hc : Yes rs.length g fs (rec5 rs)) :
    Calls Try.prog 203 #[.slice A rs.length c, .func (.func 185) #[] #[.pointer (some ⟨bx, 0, none⟩)]] w (Ans w (.int .i64 (-1))) := by
  have HR := Lib.hid hR
  have HC := Lib.hid hbx
  have HE := Lib.hid he
  have HY := Lib.hid hc
  have hlt := World.block_lt_of_cell? w _ hbx
  have HLT := Lib.hid hlt
  clear hR hbx he hc hlt
  go_enter Try.func203, Try.ntmps203
  go_wp2_with fail
  go_loopw [8] (fun i wr => ∃ k : Nat, k ≤ rs.length ∧ i = .int .i64 k ∧ Below w.heap.size w wr) (fun i _ => rs.length - (intOf i).toNat)
  case atStart => exact ⟨0, by omega, rfl, Below.refl _ _⟩
  case round =>
    obtain ⟨k, hk, rfl, hb⟩ := hrel
    by_cases h1 : k < rs.length
    · obtain ⟨b, off, rfl, hb1, c0, c1, c2, c3, c4⟩ := HR.out.at5 h1
      replace c0 := (hb.cell (p := ⟨b, off + k * 5, none⟩) hb1).trans c0
      replace c1 := (hb.cell (p := ⟨b, off + k * 5 + 1, none⟩) hb1).trans c1
      replace c2 := (hb.cell (p := ⟨b, off + k * 5 + 2, none⟩) hb1).trans c2
      replace c3 := (hb.cell (p := ⟨b, off + k * 5 + 3, none⟩) hb1).trans c3
      replace c4 := (hb.cell (p := ⟨b, off + k * 5 + 4, none⟩) hb1).trans c4
      have HCL := Lib.hid (cl185_c g bx fs rs k wr HE.out ((hb.cell (p := ⟨bx, 0, none⟩) HLT.out).trans HC.out) (HY.out k h1))
      have hz := hb.size
      have hw1 : IntKind.i64.wrap ((k : Int) + 1) = (k : Int) + 1 := IntWalk.i64_in _ (by omega)
      have HBW := Lib.hid hb
      unfold rec5 at HCL
      clear hb hb1
      go_wp2_with fail
      refine HCL.out.mono ?_
      rintro e w1 ⟨rfl, hb2⟩
      have HB2 := Lib.hid hb2
      clear hb2
      go_wp2_with fail
      go_roundw
      case rel => exact ⟨k + 1, by omega, by go_num, HBW.out.trans (HB2.out.mono hz)⟩
      case measure => simp [intOf]; omega
    · go_wp2_with fail
      go_ret
      exact ⟨rfl, hb⟩
theorem contains184_c (A : Option Addr) (c g bx : Nat) (fs : Array Value) (rs : List (List Int)) (w : World) (he : Enters g) (hn : rs.length ≤ 1000)
    (hbx : w.cell? ⟨bx, 0, none⟩ = some (.func (.func g) fs #[])) (hR : Recs 5 w.heap.size w A rs) (hc : Yes rs.length g fs (rec5 rs)) :
    Calls Try.prog 184 #[.slice A rs.length c, .func (.func 185) #[] #[.pointer (some ⟨bx, 0, none⟩)]] w (Ans w (.bool false)) := by
  have H := Lib.hid (index203_c A c g bx fs rs w he hn hbx hR hc)
  clear hbx hR he hc
  go_enter Try.func184, Try.ntmps184
  go_wp2_with fail
  refine H.out.mono ?_
  rintro e w1 ⟨rfl, hb⟩
  have HB1 := Lib.hid hb
  clear hb
  go_wp2_with fail
  go_ret
  exact ⟨rfl, HB1.out⟩
theorem all161_c (A : Option Addr) (c g : Nat) (fs : Array Value) (rs : List (List Int)) (w : World) (he : Enters g) (hn : rs.length ≤ 1000) (hR : Recs 5 w.heap.size w A rs) (hc : Yes rs.length g fs (rec5 rs)) :
    Calls Try.prog 161 #[.slice A rs.length c, .func (.func g) fs #[]] w (Ans w (.bool true)) := by
  have hb0 : Below w.heap.size w (w.alloc (.cells #[.func (.func g) fs #[]] 288)) := (Below.refl _ _).alloc (Nat.le_refl _) _
  have H := Lib.hid (contains184_c A c g w.heap.size fs rs (w.alloc (.cells #[.func (.func g) fs #[]] 288)) he hn (by simp) (hR.step hb0) hc)
  have HB := Lib.hid hb0
  clear hR he hc hb0
  go_enter Try.func161, Try.ntmps161
  go_wp2_with fail
  refine H.out.mono ?_
  rintro e w1 ⟨rfl, hb⟩
  have HB1 := Lib.hid hb
  clear hb
  go_wp2_with fail
  go_ret
  exact ⟨rfl, HB.out.trans (HB1.out.mono HB.out.size)⟩
end Go.Proofs.Ytenpiinkbfancaa.Pa
