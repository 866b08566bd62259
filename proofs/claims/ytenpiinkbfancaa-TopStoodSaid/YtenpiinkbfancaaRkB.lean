/-
  rack: how many pins a ball can leave; what it leaves in a truth (carried over from the proofs of the chapter 02).
-/
import Derived.Test.YtenpiinkbfancaaRkA
import Derived.WalkMore
import Derived.Deep.RegionHeld3
import Derived.Deep.DeepCutAuto
namespace Go.Proofs.Ytenpiinkbfancaa.Rk
open Go.RowKit
set_option linter.unusedSimpArgs false
set_option linter.unusedVariables false

section
open Go.RowKit
set_option maxRecDepth 100000 in
set_option maxHeartbeats 8000000 in
theorem felled_c (r : Rk) (A : Option Addr) (c pins g : Nat) (bts : Int) (b : Nat → Int) (cf : Nat → Bool) (w : World) (hr : Ok r) (hp : pins < 2 ^ 10) (hbb : ∀ k, k < r.rows.toNat → -1000 ≤ b k ∧ b k ≤ 1000) (hl : Lks w.heap.size w A r.links) (hc : r.links.length ≤ c ∧ c ≤ 9223372036854775807) (he : Enters g)
    (hg : ∀ i, i < r.links.length → ∀ W, Calls Try.prog g #[lV (lx r.links i), .int .i64 (i : Int), .int .i64 bts] W (Ans W (.bool (cf i)))) :
    Calls Try.prog 61 #[.agg #[.int .i64 r.rows, .int .i64 r.mid, .int .i64 r.gap, .int .i64 r.reach, .slice A r.links.length c, .int .u16 (pins : Int)], .agg #[.int .i64 (b 0), .int .i64 (b 1), .int .i64 (b 2), .int .i64 (b 3)], .agg #[.func (.func g) #[] #[]], .int .i64 bts] w (Ans w (.int .u16 (felledS r pins b cf : Int))) := by
  have HB := Lib.hid (Below.refl w.heap.size w)
  have HL := Lib.hid hl
  have HG := Lib.hid hg
  clear hl hg
  have hb : Below w.heap.size w (w.alloc (.cells #[.int .i64 r.rows, .int .i64 r.mid, .int .i64 r.gap, .int .i64 r.reach, .slice A r.links.length c, .int .u16 (pins : Int)] 158)) := (Below.refl _ _).alloc (Nat.le_refl _) _
  replace HL := Lib.hid (HL.out.step hb)
  replace HB := Lib.hid (HB.out.trans (hb.mono HB.out.size))
  clear hb
  have k0 : (w.alloc (.cells #[.int .i64 r.rows, .int .i64 r.mid, .int .i64 r.gap, .int .i64 r.reach, .slice A r.links.length c, .int .u16 (pins : Int)] 158)).cell? ⟨w.heap.size, 0, none⟩ = some (.int .i64 r.rows) := by simp
  have k1 : (w.alloc (.cells #[.int .i64 r.rows, .int .i64 r.mid, .int .i64 r.gap, .int .i64 r.reach, .slice A r.links.length c, .int .u16 (pins : Int)] 158)).cell? ⟨w.heap.size, 1, none⟩ = some (.int .i64 r.mid) := by simp
  have k2 : (w.alloc (.cells #[.int .i64 r.rows, .int .i64 r.mid, .int .i64 r.gap, .int .i64 r.reach, .slice A r.links.length c, .int .u16 (pins : Int)] 158)).cell? ⟨w.heap.size, 2, none⟩ = some (.int .i64 r.gap) := by simp
  have k3 : (w.alloc (.cells #[.int .i64 r.rows, .int .i64 r.mid, .int .i64 r.gap, .int .i64 r.reach, .slice A r.links.length c, .int .u16 (pins : Int)] 158)).cell? ⟨w.heap.size, 3, none⟩ = some (.int .i64 r.reach) := by simp
  have k4 : (w.alloc (.cells #[.int .i64 r.rows, .int .i64 r.mid, .int .i64 r.gap, .int .i64 r.reach, .slice A r.links.length c, .int .u16 (pins : Int)] 158)).cell? ⟨w.heap.size, 4, none⟩ = some (.slice A r.links.length c) := by simp
  have k5 : (w.alloc (.cells #[.int .i64 r.rows, .int .i64 r.mid, .int .i64 r.gap, .int .i64 r.reach, .slice A r.links.length c, .int .u16 (pins : Int)] 158)).cell? ⟨w.heap.size, 5, none⟩ = some (.int .u16 (pins : Int)) := by simp
  have hb : Below (w.alloc (.cells #[.int .i64 r.rows, .int .i64 r.mid, .int .i64 r.gap, .int .i64 r.reach, .slice A r.links.length c, .int .u16 (pins : Int)] 158)).heap.size (w.alloc (.cells #[.int .i64 r.rows, .int .i64 r.mid, .int .i64 r.gap, .int .i64 r.reach, .slice A r.links.length c, .int .u16 (pins : Int)] 158)) ((w.alloc (.cells #[.int .i64 r.rows, .int .i64 r.mid, .int .i64 r.gap, .int .i64 r.reach, .slice A r.links.length c, .int .u16 (pins : Int)] 158)).alloc (.cells #[.int .i64 (b 0), .int .i64 (b 1), .int .i64 (b 2), .int .i64 (b 3)] 167)) := (Below.refl _ _).alloc (Nat.le_refl _) _
  replace HL := Lib.hid (HL.out.step hb)
  replace k0 := cell_of_ans hb k0
  replace k1 := cell_of_ans hb k1
  replace k2 := cell_of_ans hb k2
  replace k3 := cell_of_ans hb k3
  replace k4 := cell_of_ans hb k4
  replace k5 := cell_of_ans hb k5
  replace HB := Lib.hid (HB.out.trans (hb.mono HB.out.size))
  clear hb
  have b0 : ((w.alloc (.cells #[.int .i64 r.rows, .int .i64 r.mid, .int .i64 r.gap, .int .i64 r.reach, .slice A r.links.length c, .int .u16 (pins : Int)] 158)).alloc (.cells #[.int .i64 (b 0), .int .i64 (b 1), .int .i64 (b 2), .int .i64 (b 3)] 167)).cell? ⟨w.heap.size + 1, 0, none⟩ = some (.int .i64 (b 0)) := by simp
  have b1 : ((w.alloc (.cells #[.int .i64 r.rows, .int .i64 r.mid, .int .i64 r.gap, .int .i64 r.reach, .slice A r.links.length c, .int .u16 (pins : Int)] 158)).alloc (.cells #[.int .i64 (b 0), .int .i64 (b 1), .int .i64 (b 2), .int .i64 (b 3)] 167)).cell? ⟨w.heap.size + 1, 1, none⟩ = some (.int .i64 (b 1)) := by simp
  have b2 : ((w.alloc (.cells #[.int .i64 r.rows, .int .i64 r.mid, .int .i64 r.gap, .int .i64 r.reach, .slice A r.links.length c, .int .u16 (pins : Int)] 158)).alloc (.cells #[.int .i64 (b 0), .int .i64 (b 1), .int .i64 (b 2), .int .i64 (b 3)] 167)).cell? ⟨w.heap.size + 1, 2, none⟩ = some (.int .i64 (b 2)) := by simp
  have b3 : ((w.alloc (.cells #[.int .i64 r.rows, .int .i64 r.mid, .int .i64 r.gap, .int .i64 r.reach, .slice A r.links.length c, .int .u16 (pins : Int)] 158)).alloc (.cells #[.int .i64 (b 0), .int .i64 (b 1), .int .i64 (b 2), .int .i64 (b 3)] 167)).cell? ⟨w.heap.size + 1, 3, none⟩ = some (.int .i64 (b 3)) := by simp
  have hb : Below ((w.alloc (.cells #[.int .i64 r.rows, .int .i64 r.mid, .int .i64 r.gap, .int .i64 r.reach, .slice A r.links.length c, .int .u16 (pins : Int)] 158)).alloc (.cells #[.int .i64 (b 0), .int .i64 (b 1), .int .i64 (b 2), .int .i64 (b 3)] 167)).heap.size ((w.alloc (.cells #[.int .i64 r.rows, .int .i64 r.mid, .int .i64 r.gap, .int .i64 r.reach, .slice A r.links.length c, .int .u16 (pins : Int)] 158)).alloc (.cells #[.int .i64 (b 0), .int .i64 (b 1), .int .i64 (b 2), .int .i64 (b 3)] 167)) (((w.alloc (.cells #[.int .i64 r.rows, .int .i64 r.mid, .int .i64 r.gap, .int .i64 r.reach, .slice A r.links.length c, .int .u16 (pins : Int)] 158)).alloc (.cells #[.int .i64 (b 0), .int .i64 (b 1), .int .i64 (b 2), .int .i64 (b 3)] 167)).alloc (.cells #[.func (.func g) #[] #[]] 172)) := (Below.refl _ _).alloc (Nat.le_refl _) _
  replace HL := Lib.hid (HL.out.step hb)
  replace k0 := cell_of_ans hb k0
  replace k1 := cell_of_ans hb k1
  replace k2 := cell_of_ans hb k2
  replace k3 := cell_of_ans hb k3
  replace k4 := cell_of_ans hb k4
  replace k5 := cell_of_ans hb k5
  replace b0 := cell_of_ans hb b0
  replace b1 := cell_of_ans hb b1
  replace b2 := cell_of_ans hb b2
  replace b3 := cell_of_ans hb b3
  replace HB := Lib.hid (HB.out.trans (hb.mono HB.out.size))
  clear hb
  have c0 : (((w.alloc (.cells #[.int .i64 r.rows, .int .i64 r.mid, .int .i64 r.gap, .int .i64 r.reach, .slice A r.links.length c, .int .u16 (pins : Int)] 158)).alloc (.cells #[.int .i64 (b 0), .int .i64 (b 1), .int .i64 (b 2), .int .i64 (b 3)] 167)).alloc (.cells #[.func (.func g) #[] #[]] 172)).cell? ⟨w.heap.size + 1 + 1, 0, none⟩ = some (.func (.func g) #[] #[]) := by go_simp
  go_enter Try.func61, Try.ntmps61
  go_wp2_with fail
  generalize (((w.alloc (.cells #[.int .i64 r.rows, .int .i64 r.mid, .int .i64 r.gap, .int .i64 r.reach, .slice A r.links.length c, .int .u16 (pins : Int)] 158)).alloc (.cells #[.int .i64 (b 0), .int .i64 (b 1), .int .i64 (b 2), .int .i64 (b 3)] 167)).alloc (.cells #[.func (.func g) #[] #[]] 172)) = x3 at *
  have bk : ∀ j, j < 4 → x3.cell? ⟨w.heap.size + 1, j, none⟩ = some (.int .i64 (b j)) := fun j hj => by
    rcases (by omega : j = 0 ∨ j = 1 ∨ j = 2 ∨ j = 3) with rfl | rfl | rfl | rfl
    · exact b0
    · exact b1
    · exact b2
    · exact b3
  clear b0 b1 b2 b3
  have hrt : r.rows.toNat ≤ 4 := by have := hr.rows4; omega
  have hr1 := hr.rows1
  obtain ⟨n, hn⟩ : ∃ n : Nat, r.rows = (n : Int) := ⟨r.rows.toNat, by omega⟩
  have HN : Hid (r.rows.toNat = n) := by show _ = _; omega
  have HNI := Lib.hid hn
  clear hn
  go_loopw [9, 14] (fun t i wr => ∃ k : Nat, k ≤ n ∧ i = .int .i64 k ∧ t = .int .u16 (touchedS r pins b k : Int) ∧ Below x3.heap.size x3 wr) (fun _ i _ => n - (intOf i).toNat)
  case atStart => exact ⟨0, by omega, rfl, rfl, Below.refl _ _⟩
  case round =>
    obtain ⟨k, hk, rfl, rfl, hb⟩ := hrel
    replace HL := Lib.hid (HL.out.step hb)
    replace k0 := cell_of_ans hb k0
    replace k1 := cell_of_ans hb k1
    replace k2 := cell_of_ans hb k2
    replace k3 := cell_of_ans hb k3
    replace k4 := cell_of_ans hb k4
    replace k5 := cell_of_ans hb k5
    replace c0 := cell_of_ans hb c0
    have HBX := Lib.hid hb
    replace HB := Lib.hid (HB.out.trans (hb.mono HB.out.size))
    by_cases h1 : k < n
    · have bkk := cell_of_ans hb (bk k (by have := HN.out; omega))
      have hn4 : n ≤ 4 := by have := HN.out; omega
      have hbk := hbb k (by have := HN.out; omega)
      have h1i : (k : Int) < r.rows := by have := HNI.out; omega
      have h4i : (k : Int) < 4 := by omega
      have hts := touchedS_lt r pins b k
      have htt := touchS_lt r pins k (b k)
      have HO : Hid (bits .or .u16 (touchedS r pins b k : Int) (touchS r pins k (b k) : Int) = (touchedS r pins b (k + 1) : Int)) := by show _ = _; rw [u16_or_nat _ _ (by omega) (by omega)]; rfl
      have HTC : Hid (∀ W, Calls Try.prog 119 #[.agg #[.int .i64 r.rows, .int .i64 r.mid, .int .i64 r.gap, .int .i64 r.reach, .slice A r.links.length c, .int .u16 (pins : Int)], .int .i64 (k : Int), .int .i64 (b k)] W (Ans W (.int .u16 (touchS r pins k (b k) : Int)))) := fun W => touched_c r A c pins k (b k) W hr hp hbk.1 hbk.2
      generalize touchS r pins k (b k) = tk at *
      generalize touchedS r pins b k = tn at *
      clear hb bk
      go_upto_region 5 with fail
      have hd : Below wr.heap.size wr wr.drew := (Below.refl _ _).drew
      replace HBX := Lib.hid (HBX.out.trans (hd.mono HBX.out.size))
      replace HB := Lib.hid (HB.out.trans (hd.mono HB.out.size))
      clear hd
      go_region_held3 (fun w' => w'.cell? ⟨w.heap.size, 0, none⟩ = some (.int .i64 r.rows) ∧ w'.cell? ⟨w.heap.size, 1, none⟩ = some (.int .i64 r.mid) ∧ w'.cell? ⟨w.heap.size, 2, none⟩ = some (.int .i64 r.gap) ∧ w'.cell? ⟨w.heap.size, 3, none⟩ = some (.int .i64 r.reach) ∧ w'.cell? ⟨w.heap.size, 4, none⟩ = some (.slice A r.links.length c) ∧ w'.cell? ⟨w.heap.size, 5, none⟩ = some (.int .u16 (pins : Int)) ∧ w'.cell? ⟨w.heap.size + 1, k, none⟩ = some (.int .i64 (b k))) (go_keep) (first | (go_at_call 119; refine (HTC.out _).mono ?_; rintro e x9 ⟨rfl, hb⟩; replace k0 := cell_of_ans (below_drew_l hb) k0; replace k1 := cell_of_ans (below_drew_l hb) k1; replace k2 := cell_of_ans (below_drew_l hb) k2; replace k3 := cell_of_ans (below_drew_l hb) k3; replace k4 := cell_of_ans (below_drew_l hb) k4; replace k5 := cell_of_ans (below_drew_l hb) k5; replace bkk := cell_of_ans (below_drew_l hb) bkk; replace HBX := Lib.hid (HBX.out.trans (hb.mono HBX.out.size)); replace HB := Lib.hid (HB.out.trans (hb.mono HB.out.size)); clear hb))
      go_wp2_with fail
      go_roundw
      case rel => exact ⟨k + 1, by omega, by go_num, congrArg _ HO.out, HBX.out⟩
      case measure => simp [intOf]; omega
    · obtain rfl : k = n := by omega
      have h1i : ¬ ((k : Int) < r.rows) := by have := HNI.out; omega
      have HR : Hid (felledS r pins b cf = fallS r.links cf pins (touchedS r pins b k)) := by show _ = _; rw [felledS, HN.out]
      have hts := touchedS_lt r pins b k
      generalize touchedS r pins b k = ts at *
      clear bk hb
      go_wp2_with fail
      refine (falls_c r A c pins ts g bts cf _ hr hp hts HL.out hc he HG.out).mono ?_
      rintro e w1 ⟨rfl, hb⟩
      replace HB := Lib.hid (HB.out.trans (hb.mono HB.out.size))
      clear hb
      go_wp2_with fail
      go_ret
      exact ⟨ret_int (by rw [HR.out]), HB.out⟩
/-- Is a range one of a ball? A ball of a rack? -/
def rangeB (x : Rg) : Bool := inB x.lo 0 x.hi && (decide (x.hi ≤ 60) && decide (x.hi - x.lo ≤ 8))
noncomputable def ballB (rows : Int) (ball : List Rg) : Bool := decide ((ball.length : Int) = rows) && allB ball.length (fun k => rangeB (gx ball k))
theorem enters100 : Enters 153 := fun _ _ => enters_of Try.func153 (by kernel_rfl) rfl _ _
set_option maxHeartbeats 1000000 in
theorem range_c (x : Rg) (w : World) : Calls Try.prog 153 #[gV x] w (Ans w (.bool (rangeB x))) := by
  obtain ⟨xl, xh⟩ := x
  unfold gV
  dsimp only
  have hb0 : Below w.heap.size w (w.alloc (.cells #[.int .i64 xl, .int .i64 xh] 64)) := (Below.refl _ _).alloc (Nat.le_refl _) _
  have HB := Lib.hid hb0
  clear hb0
  cases t0 : inB xl 0 xh
  · go_enter Try.func153, Try.ntmps153
    go_wp2_with (go_at_call 60; refine (within_c _ _ _ _).mono ?_; rintro e w1 ⟨rfl, rfl⟩)
    go_ret
    exact ⟨ret_bool (by simp [rangeB, *]), HB.out⟩
  · obtain ⟨h0, h1⟩ := (inB_eq _ _ _).1 t0
    by_cases t1 : xh ≤ 60
    · have hw : IntKind.i64.wrap (xh - xl) = xh - xl := IntWalk.i64_in _ (by omega)
      go_enter Try.func153, Try.ntmps153
      go_wp2_with (go_at_call 60; refine (within_c _ _ _ _).mono ?_; rintro e w1 ⟨rfl, rfl⟩)
      go_ret
      exact ⟨ret_bool (by simp [rangeB, *]), HB.out⟩
    · go_enter Try.func153, Try.ntmps153
      go_wp2_with (go_at_call 60; refine (within_c _ _ _ _).mono ?_; rintro e w1 ⟨rfl, rfl⟩)
      go_ret
      exact ⟨ret_bool (by first | (simp [rangeB, *]; done) | (simp [rangeB, *]; omega)), HB.out⟩
set_option maxHeartbeats 1000000 in
theorem ball_c (r : Rk) (A Ab : Option Addr) (c cb : Nat) (ball : List Rg) (w : World) (hl : Rgs w.heap.size w Ab ball) (hcb : ball.length ≤ cb ∧ cb ≤ 9223372036854775807) :
    Calls Try.prog 112 #[.agg #[.int .i64 r.rows, .int .i64 r.mid, .int .i64 r.gap, .int .i64 r.reach, .slice A r.links.length c], .slice Ab ball.length cb] w (Ans w (.bool (ballB r.rows ball))) := by
  have HB := Lib.hid (Below.refl w.heap.size w)
  have HG := Lib.hid hl
  clear hl
  have hb : Below w.heap.size w (w.alloc (.cells #[.int .i64 r.rows, .int .i64 r.mid, .int .i64 r.gap, .int .i64 r.reach, .slice A r.links.length c] 69)) := (Below.refl _ _).alloc (Nat.le_refl _) _
  replace HG := Lib.hid (HG.out.step hb)
  replace HB := Lib.hid (HB.out.trans (hb.mono HB.out.size))
  clear hb
  have k0 : (w.alloc (.cells #[.int .i64 r.rows, .int .i64 r.mid, .int .i64 r.gap, .int .i64 r.reach, .slice A r.links.length c] 69)).cell? ⟨w.heap.size, 0, none⟩ = some (.int .i64 r.rows) := by simp
  by_cases h1 : (ball.length : Int) = r.rows
  · have H1 := Lib.hid (allRg (B := ((w.alloc (.cells #[.int .i64 r.rows, .int .i64 r.mid, .int .i64 r.gap, .int .i64 r.reach, .slice A r.links.length c] 69))).heap.size) Ab cb 153 #[] #[] ball (fun k => rangeB (gx ball k)) (w.alloc (.cells #[.int .i64 r.rows, .int .i64 r.mid, .int .i64 r.gap, .int .i64 r.reach, .slice A r.links.length c] 69)) enters100 (Nat.le_refl _) (by omega) HG.out (fun k _ W _ => range_c (gx ball k) W))
    have HR : Hid (ballB r.rows ball = allB ball.length (fun k => rangeB (gx ball k))) := by show _ = _; rw [ballB, decide_eq_true h1, Bool.true_and]
    have hb1 : ((ball.length : Int) == r.rows) = true := by simp [h1]
    clear h1
    go_enter Try.func112, Try.ntmps112
    go_wp2_with fail
    generalize (w.alloc (.cells #[.int .i64 r.rows, .int .i64 r.mid, .int .i64 r.gap, .int .i64 r.reach, .slice A r.links.length c] 69)) = x1 at *
    refine (H1.out).mono ?_
    rintro e x1 ⟨rfl, hb⟩
    replace HG := Lib.hid (HG.out.step hb)
    replace k0 := cell_of_ans hb k0
    replace HB := Lib.hid (HB.out.trans (hb.mono HB.out.size))
    clear hb
    go_wp2_with fail
    go_ret
    exact ⟨ret_bool (by rw [HR.out]), HB.out⟩
  · have hb1 : ((ball.length : Int) == r.rows) = false := by simp [h1]
    have HR : Hid (ballB r.rows ball = false) := by show _ = _; rw [ballB, decide_eq_false h1, Bool.false_and]
    clear h1
    go_enter Try.func112, Try.ntmps112
    go_wp2_with fail
    go_ret
    exact ⟨ret_bool (by rw [HR.out]), HB.out⟩
/-- What stands ahead of number k of a list; does the list rise? -/
def lastOf (xs : List Int) (k : Nat) : Int := if k = 0 then -1 else ix xs (k - 1)
noncomputable def risesB (xs : List Int) : Bool := allB xs.length (fun k => decide (lastOf xs k < ix xs k))
noncomputable def pinsB (rows : Int) (xs : List Int) : Bool := allB xs.length (fun k => inB (ix xs k) 0 ((pn rows : Int) - 1))
/-- The error of pins, and their set. -/
noncomputable def pinErr (r : Rk) (xs : List Int) : Int := if rackErr r = 0 then (if pinsB r.rows xs && risesB xs then 0 else 2) else rackErr r
noncomputable def pinS (r : Rk) (xs : List Int) : Nat := if pinErr r xs = 0 then ofS (xs.map Int.toNat) else 0
theorem pinErr_rack {r : Rk} {xs : List Int} (h : pinErr r xs = 0) : rackErr r = 0 := by
  unfold pinErr at h
  split at h
  · assumption
  · exact h
theorem rise_nats {xs : List Int} {n : Nat} (h1 : ∀ k, k < xs.length → 0 ≤ ix xs k ∧ ix xs k < n) (h2 : risesB xs = true) : xs = natsI (xs.map Int.toNat) ∧ (xs.map Int.toNat).Pairwise (· < ·) ∧ ∀ p ∈ xs.map Int.toNat, p < n := by
  have h3 := allB_iff.1 h2
  refine ⟨?_, ?_, ?_⟩
  · refine List.ext_getElem (by simp [natsI]) fun k hk hk' => ?_
    have := (h1 k hk).1
    rw [ix_lt hk] at this
    simp [natsI]
    omega
  · rw [List.pairwise_iff_getElem]
    have key : ∀ d i, i + 1 + d < xs.length → ix xs i < ix xs (i + 1 + d) := by
      intro d
      induction d with
      | zero =>
        intro i hi
        have := h3 (i + 1) hi
        simpa [lastOf] using this
      | succ d ih =>
        intro i hi
        have h4 := ih i (by omega)
        have h5 := h3 (i + 1 + d + 1) (by omega)
        have h6 := of_decide_eq_true h5
        rw [lastOf, if_neg (by omega), Nat.add_sub_cancel] at h6
        exact Int.lt_trans h4 h6
    intro i j hi hj hij
    simp only [List.length_map] at hi hj
    have h4 := key (j - i - 1) i (by omega)
    rw [show i + 1 + (j - i - 1) = j by omega, ix_lt hi, ix_lt hj] at h4
    have h5 := (h1 i hi).1
    rw [ix_lt hi] at h5
    simp only [List.getElem_map]
    omega
  · intro p hp
    obtain ⟨x, hx, rfl⟩ := List.mem_map.1 hp
    obtain ⟨k, hk, rfl⟩ := List.mem_iff_getElem.1 hx
    have := h1 k hk
    rw [ix_lt hk] at this
    omega
/-- Pins that are right: a rising list of natural numbers. -/
theorem pins_nats {r : Rk} {xs : List Int} (h : pinErr r xs = 0) : xs = natsI (xs.map Int.toNat) ∧ (xs.map Int.toNat).Pairwise (· < ·) ∧ ∀ p ∈ xs.map Int.toNat, p < pn r.rows := by
  have h0 := pinErr_rack h
  unfold pinErr at h
  rw [if_pos h0] at h
  split at h
  · rename_i h1
    rw [Bool.and_eq_true] at h1
    refine rise_nats (fun k hk => ?_) h1.2
    have := allB_iff.1 h1.1 k hk
    rw [inB_eq] at this
    omega
  · cases h
theorem pinS_lt {r : Rk} {xs : List Int} : pinS r xs < 2 ^ 10 := by
  unfold pinS
  split
  · rename_i h
    have hr := rackOk (pinErr_rack h)
    have h1 := pn_le hr.rows1 hr.rows4
    exact ofS_lt fun p hp => by have := (pins_nats h).2.2 p hp; omega
  · decide
theorem enters92 : Enters 151 := fun _ _ => enters_of Try.func151 (by kernel_rfl) rfl _ _
theorem enters90 : Enters 149 := fun _ _ => enters_of Try.func149 (by kernel_rfl) rfl _ _
def LastAt (W : World) (q : Nat) (x : Int) : Prop := W.heap[q]? = some (.cells #[.int .i64 x] 3)
theorem LastAt.cell {W : World} {q : Nat} {x : Int} (h : LastAt W q x) : W.cell? ⟨q, 0, none⟩ = some (.int .i64 x) ∧ W.frozen? ⟨q, 0, none⟩ = false := by
  unfold LastAt at h
  simp [World.cell?, World.frozen?, h]
theorem LastAt.set {W : World} {q : Nat} {x : Int} (h : LastAt W q x) (y : Int) : LastAt (W.setCell ⟨q, 0, none⟩ (.int .i64 y)) q y := by
  unfold LastAt at h ⊢
  simp [World.setCell, Array.getElem?_modify, h]
theorem LastAt.step {W W' : World} {q : Nat} {x : Int} (h : LastAt W q x) (hb : Below W.heap.size W W') : LastAt W' q x := (hb.block q (Array.getElem?_eq_some_iff.1 h).1).trans h
set_option maxHeartbeats 400000 in
theorem rises_c (q : Nat) (l x : Int) (W : World) (h : LastAt W q l) : Calls Try.prog 149 #[.int .i64 x, .pointer (some ⟨q, 0, none⟩)] W (fun e W' => e = .returned (.bool (decide (l < x))) ∧ W' = W.setCell ⟨q, 0, none⟩ (.int .i64 x)) := by
  obtain ⟨c0, c1⟩ := h.cell
  go_enter Try.func149, Try.ntmps149
  go_wp2
  go_ret
  exact ⟨rfl, rfl⟩
theorem rises_all {B q : Nat} (A : Option Addr) (xs : List Int) (c : Nat) (w : World) (hx : Ints B w A xs) (hB : B ≤ q) (hq : LastAt w q (-1)) (hn : xs.length ≤ 9223372036854775807) :
    Calls Try.prog 150 #[.slice A xs.length c, .func (.func 149) #[] #[.pointer (some ⟨q, 0, none⟩)]] w (fun e w' => e = .returned (.bool (risesB xs)) ∧ w.grownBy w' (some q)) := by
  have hlt : q < w.heap.size := (Array.getElem?_eq_some_iff.1 hq).1
  refine (allJ A xs.length c 149 #[] #[.pointer (some ⟨q, 0, none⟩)] (fun k => .int .i64 (ix xs k)) (fun k => decide (lastOf xs k < ix xs k)) (some q) (fun k W => LastAt W q (lastOf xs k) ∧ w.grownBy W (some q)) w enters90 hn (fun q' e => by injection e with e; omega) ⟨?_, ?_, ?_⟩ ⟨hq, World.grownBy.refl _ _⟩).mono ?_
  · rintro k hk W ⟨h1, h2⟩
    refine (rises_c q (lastOf xs k) (ix xs k) W h1).mono ?_
    rintro e W' ⟨rfl, rfl⟩
    have hs : W.grownBy (W.setCell ⟨q, 0, none⟩ (.int .i64 (ix xs k))) (some q) := only_setCell (World.grownBy.refl _ _) (.inl rfl) _
    exact ⟨rfl, ⟨by simpa [lastOf] using h1.set (ix xs k), h2.trans hs⟩, hs⟩
  · rintro k W W' ⟨h1, h2⟩ hb
    exact ⟨(hb.block q (Array.getElem?_eq_some_iff.1 h1).1).trans h1, h2.trans (only_below hb _)⟩
  · rintro k hk W ⟨_, h2⟩
    obtain ⟨b, off, hA, hlt, hc⟩ := hx.at_ hk
    exact ⟨b, off, hA, h2.cell hc (by simp; omega)⟩
  · rintro e W' ⟨rfl, _, hg⟩
    exact ⟨rfl, hg⟩
set_option maxRecDepth 100000 in
set_option maxHeartbeats 4000000 in
theorem pinned_c (r : Rk) (A xA : Option Addr) (c cx : Nat) (xs : List Int) (w : World) (hl : Lks w.heap.size w A r.links) (hc : r.links.length ≤ c ∧ c ≤ 9223372036854775807) (hx : Ints w.heap.size w xA xs) (hcx : xs.length ≤ cx ∧ cx ≤ 9223372036854775807) :
    Calls Try.prog 111 #[.agg #[.int .i64 r.rows, .int .i64 r.mid, .int .i64 r.gap, .int .i64 r.reach, .slice A r.links.length c], .slice xA xs.length cx] w (Ans w (.tuple #[.int .u16 (pinS r xs : Int), .int .i64 (pinErr r xs)])) := by
  have HB := Lib.hid (Below.refl w.heap.size w)
  have HL := Lib.hid hl
  have HX := Lib.hid hx
  have hx0 := hx
  clear hl hx
  have hb : Below w.heap.size w (w.alloc (.cells #[.int .i64 r.rows, .int .i64 r.mid, .int .i64 r.gap, .int .i64 r.reach, .slice A r.links.length c] 69)) := (Below.refl _ _).alloc (Nat.le_refl _) _
  replace HL := Lib.hid (HL.out.step hb)
  replace HX := Lib.hid (HX.out.step hb)
  replace HB := Lib.hid (HB.out.trans (hb.mono HB.out.size))
  clear hb
  have k0 : (w.alloc (.cells #[.int .i64 r.rows, .int .i64 r.mid, .int .i64 r.gap, .int .i64 r.reach, .slice A r.links.length c] 69)).cell? ⟨w.heap.size, 0, none⟩ = some (.int .i64 r.rows) := by simp
  have k1 : (w.alloc (.cells #[.int .i64 r.rows, .int .i64 r.mid, .int .i64 r.gap, .int .i64 r.reach, .slice A r.links.length c] 69)).cell? ⟨w.heap.size, 1, none⟩ = some (.int .i64 r.mid) := by simp
  have k2 : (w.alloc (.cells #[.int .i64 r.rows, .int .i64 r.mid, .int .i64 r.gap, .int .i64 r.reach, .slice A r.links.length c] 69)).cell? ⟨w.heap.size, 2, none⟩ = some (.int .i64 r.gap) := by simp
  have k3 : (w.alloc (.cells #[.int .i64 r.rows, .int .i64 r.mid, .int .i64 r.gap, .int .i64 r.reach, .slice A r.links.length c] 69)).cell? ⟨w.heap.size, 3, none⟩ = some (.int .i64 r.reach) := by simp
  have k4 : (w.alloc (.cells #[.int .i64 r.rows, .int .i64 r.mid, .int .i64 r.gap, .int .i64 r.reach, .slice A r.links.length c] 69)).cell? ⟨w.heap.size, 4, none⟩ = some (.slice A r.links.length c) := by simp
  have HPE : Hid (pinErr r xs = if rackErr r = 0 then (if pinsB r.rows xs && risesB xs then 0 else 2) else rackErr r) := rfl
  have HPS : Hid (pinS r xs = if pinErr r xs = 0 then ofS (xs.map Int.toNat) else 0) := rfl
  by_cases he : rackErr r = 0
  · rw [if_pos he] at HPE
    have hr := rackOk he
    go_enter Try.func111, Try.ntmps111
    go_wp2_with fail
    generalize (w.alloc (.cells #[.int .i64 r.rows, .int .i64 r.mid, .int .i64 r.gap, .int .i64 r.reach, .slice A r.links.length c] 69)) = x1 at *
    refine (checkRack_c r A c _ HL.out hc).mono ?_
    rw [he]
    rintro e x2 ⟨rfl, hb⟩
    replace HL := Lib.hid (HL.out.step hb)
    replace HX := Lib.hid (HX.out.step hb)
    replace k0 := cell_of_ans hb k0
    replace k1 := cell_of_ans hb k1
    replace k2 := cell_of_ans hb k2
    replace k3 := cell_of_ans hb k3
    replace k4 := cell_of_ans hb k4
    replace HB := Lib.hid (HB.out.trans (hb.mono HB.out.size))
    clear hb
    have ltk0 := World.block_lt_of_cell? _ _ k0
    dsimp only at ltk0
    clear he
    have hh := hr.rows1
    have hh4 := hr.rows4
    have HX0 := Lib.hid hx0
    clear hx0
    go_wp2_with fail
    have hb : Below x2.heap.size x2 (x2.alloc (.cells #[.int .i64 (-1)] 3)) := (Below.refl _ _).alloc (Nat.le_refl _) _
    replace HL := Lib.hid (HL.out.step hb)
    replace HX := Lib.hid (HX.out.step hb)
    replace k0 := cell_of_ans hb k0
    replace k1 := cell_of_ans hb k1
    replace k2 := cell_of_ans hb k2
    replace k3 := cell_of_ans hb k3
    replace k4 := cell_of_ans hb k4
    replace HB := Lib.hid (HB.out.trans (hb.mono HB.out.size))
    clear hb
    have HQ : Hid (LastAt (x2.alloc (.cells #[.int .i64 (-1)] 3)) x2.heap.size (-1)) := World.alloc_heap_new _ _
    have hqw := ltk0
    generalize (x2.alloc (.cells #[.int .i64 (-1)] 3)) = x3 at *
    have hwq : w.heap.size ≤ x2.heap.size := Nat.le_of_lt hqw
    generalize x2.heap.size = q at *
    have HP1 : Hid (allB xs.length (fun k => inB (ix xs k) 0 ((pn r.rows : Int) - 1)) = pinsB r.rows xs) := rfl
    cases hp : pinsB r.rows xs
    · rw [hp] at HPE HP1
      have hpe : ¬ pinErr r xs = 0 := by rw [HPE.out]; simp
      rw [if_neg hpe] at HPS
      clear hpe hp
      refine (allI xA xs cx 151 #[.agg #[.int .i64 r.rows, .int .i64 r.mid, .int .i64 r.gap, .int .i64 r.reach, .slice A r.links.length c]] #[] (fun k => inB (ix xs k) 0 ((pn r.rows : Int) - 1)) x3 enters92 (Nat.le_refl _) (by omega) HX.out (fun k hk W _ => pin_c r.rows r.mid r.gap r.reach (ix xs k) A r.links.length c W hh hh4)).mono ?_
      rw [HP1.out]
      rintro e x4 ⟨rfl, hb⟩
      replace HL := Lib.hid (HL.out.step hb)
      replace HX := Lib.hid (HX.out.step hb)
      replace k0 := cell_of_ans hb k0
      replace k1 := cell_of_ans hb k1
      replace k2 := cell_of_ans hb k2
      replace k3 := cell_of_ans hb k3
      replace k4 := cell_of_ans hb k4
      replace HQ := Lib.hid (HQ.out.step hb)
      replace HB := Lib.hid (HB.out.trans (hb.mono HB.out.size))
      clear hb
      go_wp2_with fail
      refine bodyPost_ret (results_tmp2 rfl _ _ _) rfl ?_
      exact ⟨by rw [HPS.out, HPE.out]; rfl, HB.out⟩
    · rw [hp] at HPE HP1
      clear hp
      refine (allI xA xs cx 151 #[.agg #[.int .i64 r.rows, .int .i64 r.mid, .int .i64 r.gap, .int .i64 r.reach, .slice A r.links.length c]] #[] (fun k => inB (ix xs k) 0 ((pn r.rows : Int) - 1)) x3 enters92 (Nat.le_refl _) (by omega) HX.out (fun k hk W _ => pin_c r.rows r.mid r.gap r.reach (ix xs k) A r.links.length c W hh hh4)).mono ?_
      rw [HP1.out]
      rintro e x4 ⟨rfl, hb⟩
      replace HL := Lib.hid (HL.out.step hb)
      replace HX := Lib.hid (HX.out.step hb)
      replace k0 := cell_of_ans hb k0
      replace k1 := cell_of_ans hb k1
      replace k2 := cell_of_ans hb k2
      replace k3 := cell_of_ans hb k3
      replace k4 := cell_of_ans hb k4
      replace HQ := Lib.hid (HQ.out.step hb)
      replace HB := Lib.hid (HB.out.trans (hb.mono HB.out.size))
      clear hb
      have HR := Lib.hid (rises_all (B := w.heap.size) xA xs cx x4 (HX0.out.below HB.out) hwq HQ.out (by omega))
      cases hs : risesB xs
      · rw [hs] at HPE HR
        have hpe : ¬ pinErr r xs = 0 := by rw [HPE.out]; simp
        rw [if_neg hpe] at HPS
        clear hpe hs
        go_wp2_with fail
        refine HR.out.mono ?_
        rintro e x5 ⟨rfl, hg⟩
        replace HB := Lib.hid (HB.out.grown hg HB.out.size (fun k e => by injection e with e; omega))
        clear hg
        go_wp2_with fail
        refine bodyPost_ret (results_tmp2 rfl _ _ _) rfl ?_
        exact ⟨by rw [HPS.out, HPE.out]; rfl, HB.out⟩
      · rw [hs] at HPE HR
        have hpe : pinErr r xs = 0 := by rw [HPE.out]; simp
        rw [if_pos hpe] at HPS
        have HNN := Lib.hid (pins_nats hpe)
        have hpn := pn_le hh hh4
        clear hpe hs
        go_wp2_with fail
        refine HR.out.mono ?_
        rintro e x5 ⟨rfl, hg⟩
        replace HB := Lib.hid (HB.out.grown hg HB.out.size (fun k e => by injection e with e; omega))
        clear hg
        have HX5 := Lib.hid (HX0.out.below HB.out)
        have hxl : xs.length = (xs.map Int.toNat).length := by simp
        have HE0 : Hid (pinErr r xs = 0) := by show _ = _; rw [HPE.out]; rfl
        obtain ⟨n1, n2, n3⟩ := HNN.out
        clear HNN HP1 HPE HR HX HX0
        generalize xs.map Int.toNat = ln at *
        subst n1
        rw [natsI_len] at hcx ⊢
        have HO : Hid (∀ W, Below x5.heap.size x5 W → Calls Try.prog 152 #[.slice xA ln.length cx] W (Same W (.int .u16 (ofS ln : Int)))) := fun W h => of_c (B := w.heap.size) ln xA cx W (HX5.out.below (h.mono HB.out.size)) (fun p h => by have := n3 p h; omega) (by omega)
        go_wp2_with fail
        refine (HO.out _ (Below.refl _ _)).mono ?_
        rintro e x6 ⟨rfl, rfl⟩
        go_wp2_with fail
        refine bodyPost_ret (results_tmp2 rfl _ _ _) rfl ?_
        exact ⟨by rw [HE0.out, HPS.out]; rfl, HB.out⟩
  · rw [if_neg he] at HPE
    have hpe : ¬ pinErr r xs = 0 := by rw [HPE.out]; exact he
    rw [if_neg hpe] at HPS
    have hne : (rackErr r != 0) = true := by simp [he]
    go_enter Try.func111, Try.ntmps111
    go_wp2_with fail
    generalize (w.alloc (.cells #[.int .i64 r.rows, .int .i64 r.mid, .int .i64 r.gap, .int .i64 r.reach, .slice A r.links.length c] 69)) = x1 at *
    clear he hpe
    refine (checkRack_c r A c _ HL.out hc).mono ?_
    rintro e x1 ⟨rfl, hb⟩
    replace HL := Lib.hid (HL.out.step hb)
    replace HX := Lib.hid (HX.out.step hb)
    replace k0 := cell_of_ans hb k0
    replace k1 := cell_of_ans hb k1
    replace k2 := cell_of_ans hb k2
    replace k3 := cell_of_ans hb k3
    replace k4 := cell_of_ans hb k4
    replace HB := Lib.hid (HB.out.trans (hb.mono HB.out.size))
    clear hb
    go_wp2_with fail
    refine bodyPost_ret (results_tmp2 rfl _ _ _) rfl ?_
    exact ⟨by rw [HPS.out, HPE.out]; rfl, HB.out⟩
end

section
open Go.RowKit
/-- A block of six cells, those of a rack at which a ball goes. -/
def At6 (W : World) (q : Nat) (v0 v1 v2 v3 v4 v5 : Value) : Prop := W.heap[q]? = some (.cells #[v0, v1, v2, v3, v4, v5] 158)
theorem At6.cells {W : World} {q : Nat} {v0 v1 v2 v3 v4 v5 : Value} (h : At6 W q v0 v1 v2 v3 v4 v5) :
    (W.cell? ⟨q, 0, none⟩ = some v0 ∧ W.cell? ⟨q, 1, none⟩ = some v1 ∧ W.cell? ⟨q, 2, none⟩ = some v2 ∧ W.cell? ⟨q, 3, none⟩ = some v3 ∧ W.cell? ⟨q, 4, none⟩ = some v4 ∧ W.cell? ⟨q, 5, none⟩ = some v5) ∧ ∀ i, W.frozen? ⟨q, i, none⟩ = false := by
  unfold At6 at h
  simp [World.cell?, World.frozen?, h]
theorem At6.step {W W' : World} {q : Nat} {v0 v1 v2 v3 v4 v5 : Value} (h : At6 W q v0 v1 v2 v3 v4 v5) (hb : Below W.heap.size W W') : At6 W' q v0 v1 v2 v3 v4 v5 := (hb.block q (Array.getElem?_eq_some_iff.1 h).1).trans h
theorem At6.set {W : World} {q : Nat} {v0 v1 v2 v3 v4 v5 : Value} (h : At6 W q v0 v1 v2 v3 v4 v5) (u0 u1 u2 u3 u4 u5 : Value) :
    At6 ((((((W.setCell ⟨q, 0, none⟩ (u0)).setCell ⟨q, 1, none⟩ (u1)).setCell ⟨q, 2, none⟩ (u2)).setCell ⟨q, 3, none⟩ (u3)).setCell ⟨q, 4, none⟩ (u4)).setCell ⟨q, 5, none⟩ (u5)) q u0 u1 u2 u3 u4 u5 := by
  unfold At6 at h ⊢
  simp [World.setCell, Array.getElem?_modify, h]
theorem below_six {B : Nat} {w W : World} (hb : Below B w W) {q : Nat} (hq : B ≤ q) (u0 u1 u2 u3 u4 u5 : Value) :
    Below B w ((((((W.setCell ⟨q, 0, none⟩ (u0)).setCell ⟨q, 1, none⟩ (u1)).setCell ⟨q, 2, none⟩ (u2)).setCell ⟨q, 3, none⟩ (u3)).setCell ⟨q, 4, none⟩ (u4)).setCell ⟨q, 5, none⟩ (u5)) := (((((hb.setCell hq _).setCell hq _).setCell hq _).setCell hq _).setCell hq _).setCell hq _
/-- The error of a ball at pins. -/
noncomputable def thrErr (r : Rk) (xs : List Int) (ball : List Rg) : Int := if pinErr r xs = 0 then (if ballB r.rows ball then 0 else 2) else pinErr r xs
theorem thrErr_pin {r : Rk} {xs : List Int} {ball : List Rg} (h : thrErr r xs ball = 0) : pinErr r xs = 0 ∧ ballB r.rows ball = true := by
  unfold thrErr at h
  split at h
  · rename_i h0
    split at h
    · rename_i h1; exact ⟨h0, h1⟩
    · cases h
  · rename_i h0; exact absurd h h0
/-- The rack with its pins, if the ball is one; else the zero. -/
noncomputable def thrV (r : Rk) (A : Option Addr) (c : Nat) (xs : List Int) (ball : List Rg) : Value := if thrErr r xs ball = 0 then .agg #[.int .i64 r.rows, .int .i64 r.mid, .int .i64 r.gap, .int .i64 r.reach, .slice A r.links.length c, .int .u16 (pinS r xs : Int)] else .agg #[.int .i64 0, .int .i64 0, .int .i64 0, .int .i64 0, .slice none 0 0, .int .u16 0]
set_option maxRecDepth 100000 in
set_option maxHeartbeats 4000000 in
theorem thrown_c (r : Rk) (A xA Ab : Option Addr) (c cx cb : Nat) (xs : List Int) (ball : List Rg) (w : World) (hl : Lks w.heap.size w A r.links) (hc : r.links.length ≤ c ∧ c ≤ 9223372036854775807) (hx : Ints w.heap.size w xA xs) (hcx : xs.length ≤ cx ∧ cx ≤ 9223372036854775807) (hball : Rgs w.heap.size w Ab ball) (hcb : ball.length ≤ cb ∧ cb ≤ 9223372036854775807) :
    Calls Try.prog 54 #[.agg #[.int .i64 r.rows, .int .i64 r.mid, .int .i64 r.gap, .int .i64 r.reach, .slice A r.links.length c], .slice xA xs.length cx, .slice Ab ball.length cb] w (Ans w (.tuple #[thrV r A c xs ball, .int .i64 (thrErr r xs ball)])) := by
  have HB := Lib.hid (Below.refl w.heap.size w)
  have HL := Lib.hid hl
  have HX := Lib.hid hx
  have HBa := Lib.hid hball
  clear hl hx hball
  have hb : Below w.heap.size w (w.alloc (.cells #[.int .i64 r.rows, .int .i64 r.mid, .int .i64 r.gap, .int .i64 r.reach, .slice A r.links.length c] 69)) := (Below.refl _ _).alloc (Nat.le_refl _) _
  replace HL := Lib.hid (HL.out.step hb)
  replace HX := Lib.hid (HX.out.step hb)
  replace HBa := Lib.hid (HBa.out.step hb)
  replace HB := Lib.hid (HB.out.trans (hb.mono HB.out.size))
  clear hb
  have k0 : (w.alloc (.cells #[.int .i64 r.rows, .int .i64 r.mid, .int .i64 r.gap, .int .i64 r.reach, .slice A r.links.length c] 69)).cell? ⟨w.heap.size, 0, none⟩ = some (.int .i64 r.rows) := by simp
  have k1 : (w.alloc (.cells #[.int .i64 r.rows, .int .i64 r.mid, .int .i64 r.gap, .int .i64 r.reach, .slice A r.links.length c] 69)).cell? ⟨w.heap.size, 1, none⟩ = some (.int .i64 r.mid) := by simp
  have k2 : (w.alloc (.cells #[.int .i64 r.rows, .int .i64 r.mid, .int .i64 r.gap, .int .i64 r.reach, .slice A r.links.length c] 69)).cell? ⟨w.heap.size, 2, none⟩ = some (.int .i64 r.gap) := by simp
  have k3 : (w.alloc (.cells #[.int .i64 r.rows, .int .i64 r.mid, .int .i64 r.gap, .int .i64 r.reach, .slice A r.links.length c] 69)).cell? ⟨w.heap.size, 3, none⟩ = some (.int .i64 r.reach) := by simp
  have k4 : (w.alloc (.cells #[.int .i64 r.rows, .int .i64 r.mid, .int .i64 r.gap, .int .i64 r.reach, .slice A r.links.length c] 69)).cell? ⟨w.heap.size, 4, none⟩ = some (.slice A r.links.length c) := by simp
  have hb : Below (w.alloc (.cells #[.int .i64 r.rows, .int .i64 r.mid, .int .i64 r.gap, .int .i64 r.reach, .slice A r.links.length c] 69)).heap.size (w.alloc (.cells #[.int .i64 r.rows, .int .i64 r.mid, .int .i64 r.gap, .int .i64 r.reach, .slice A r.links.length c] 69)) ((w.alloc (.cells #[.int .i64 r.rows, .int .i64 r.mid, .int .i64 r.gap, .int .i64 r.reach, .slice A r.links.length c] 69)).alloc (.cells #[.int .i64 0, .int .i64 0, .int .i64 0, .int .i64 0, .slice none 0 0, .int .u16 0] 158)) := (Below.refl _ _).alloc (Nat.le_refl _) _
  replace HL := Lib.hid (HL.out.step hb)
  replace HX := Lib.hid (HX.out.step hb)
  replace HBa := Lib.hid (HBa.out.step hb)
  replace k0 := cell_of_ans hb k0
  replace k1 := cell_of_ans hb k1
  replace k2 := cell_of_ans hb k2
  replace k3 := cell_of_ans hb k3
  replace k4 := cell_of_ans hb k4
  replace HB := Lib.hid (HB.out.trans (hb.mono HB.out.size))
  clear hb
  have HZ : Hid (At6 ((w.alloc (.cells #[.int .i64 r.rows, .int .i64 r.mid, .int .i64 r.gap, .int .i64 r.reach, .slice A r.links.length c] 69)).alloc (.cells #[.int .i64 0, .int .i64 0, .int .i64 0, .int .i64 0, .slice none 0 0, .int .u16 0] 158)) (w.heap.size + 1) (.int .i64 0) (.int .i64 0) (.int .i64 0) (.int .i64 0) (.slice none 0 0) (.int .u16 0)) := by show At6 _ _ _ _ _ _ _ _; unfold At6; rw [show w.heap.size + 1 = (w.alloc (.cells #[.int .i64 r.rows, .int .i64 r.mid, .int .i64 r.gap, .int .i64 r.reach, .slice A r.links.length c] 69)).heap.size by simp]; exact World.alloc_heap_new _ _
  have HTE : Hid (thrErr r xs ball = if pinErr r xs = 0 then (if ballB r.rows ball then 0 else 2) else pinErr r xs) := rfl
  have HTV : Hid (thrV r A c xs ball = if thrErr r xs ball = 0 then .agg #[.int .i64 r.rows, .int .i64 r.mid, .int .i64 r.gap, .int .i64 r.reach, .slice A r.links.length c, .int .u16 (pinS r xs : Int)] else .agg #[.int .i64 0, .int .i64 0, .int .i64 0, .int .i64 0, .slice none 0 0, .int .u16 0]) := rfl
  by_cases he : pinErr r xs = 0
  · rw [if_pos he] at HTE
    go_enter Try.func54, Try.ntmps54
    go_wp2_with fail
    generalize ((w.alloc (.cells #[.int .i64 r.rows, .int .i64 r.mid, .int .i64 r.gap, .int .i64 r.reach, .slice A r.links.length c] 69)).alloc (.cells #[.int .i64 0, .int .i64 0, .int .i64 0, .int .i64 0, .slice none 0 0, .int .u16 0] 158)) = x2 at *
    refine (pinned_c r A xA c cx xs _ HL.out hc HX.out hcx).mono ?_
    rw [he]
    rintro e x1 ⟨rfl, hb⟩
    replace HL := Lib.hid (HL.out.step hb)
    replace HX := Lib.hid (HX.out.step hb)
    replace HBa := Lib.hid (HBa.out.step hb)
    replace k0 := cell_of_ans hb k0
    replace k1 := cell_of_ans hb k1
    replace k2 := cell_of_ans hb k2
    replace k3 := cell_of_ans hb k3
    replace k4 := cell_of_ans hb k4
    replace HZ := Lib.hid (HZ.out.step hb)
    replace HB := Lib.hid (HB.out.trans (hb.mono HB.out.size))
    clear hb
    have ltk0 := World.block_lt_of_cell? _ _ k0
    dsimp only at ltk0
    clear he
    cases hbl : ballB r.rows ball
    · rw [hbl] at HTE
      have hte : ¬ thrErr r xs ball = 0 := by rw [HTE.out]; simp
      rw [if_neg hte] at HTV
      clear hte
      go_wp2_with fail
      refine (ball_c r A Ab c cb ball _ HBa.out hcb).mono ?_
      rw [hbl]
      rintro e x2 ⟨rfl, hb⟩
      replace HL := Lib.hid (HL.out.step hb)
      replace HX := Lib.hid (HX.out.step hb)
      replace HBa := Lib.hid (HBa.out.step hb)
      replace k0 := cell_of_ans hb k0
      replace k1 := cell_of_ans hb k1
      replace k2 := cell_of_ans hb k2
      replace k3 := cell_of_ans hb k3
      replace k4 := cell_of_ans hb k4
      replace HZ := Lib.hid (HZ.out.step hb)
      replace HB := Lib.hid (HB.out.trans (hb.mono HB.out.size))
      clear hb
      have ltk0 := World.block_lt_of_cell? _ _ k0
      dsimp only at ltk0
      have hzf := (HZ.out.set (.int .i64 0) (.int .i64 0) (.int .i64 0) (.int .i64 0) (.slice none 0 0) (.int .u16 0))
      have hbf := below_six (q := w.heap.size + 1) HB.out (Nat.le_succ w.heap.size) (.int .i64 0) (.int .i64 0) (.int .i64 0) (.int .i64 0) (.slice none 0 0) (.int .u16 0)
      obtain ⟨⟨z0, z1, z2, z3, z4, z5⟩, zf⟩ := HZ.out.cells
      have zf0 := zf 0
      have zf1 := zf 1
      have zf2 := zf 2
      have zf3 := zf 3
      have zf4 := zf 4
      have zf5 := zf 5
      clear zf
      go_wp2_with fail
      generalize ((((((x2.setCell ⟨w.heap.size + 1, 0, none⟩ (.int .i64 0)).setCell ⟨w.heap.size + 1, 1, none⟩ (.int .i64 0)).setCell ⟨w.heap.size + 1, 2, none⟩ (.int .i64 0)).setCell ⟨w.heap.size + 1, 3, none⟩ (.int .i64 0)).setCell ⟨w.heap.size + 1, 4, none⟩ (.slice none 0 0)).setCell ⟨w.heap.size + 1, 5, none⟩ (.int .u16 0)) = W9 at *
      refine bodyPost_ret (v := (.tuple #[.agg #[.int .i64 0, .int .i64 0, .int .i64 0, .int .i64 0, .slice none 0 0, .int .u16 0], .int .i64 (2)])) (by unfold At6 at hzf; simp [results, Try.results54, go_sem, World.cell?, hzf]) rfl ?_
      exact ⟨by rw [HTV.out, HTE.out] <;> simp, hbf⟩
    · rw [hbl] at HTE
      have hte : thrErr r xs ball = 0 := by rw [HTE.out]; simp
      rw [if_pos hte] at HTV
      clear hte
      go_wp2_with fail
      refine (ball_c r A Ab c cb ball _ HBa.out hcb).mono ?_
      rw [hbl]
      rintro e x3 ⟨rfl, hb⟩
      replace HL := Lib.hid (HL.out.step hb)
      replace HX := Lib.hid (HX.out.step hb)
      replace HBa := Lib.hid (HBa.out.step hb)
      replace k0 := cell_of_ans hb k0
      replace k1 := cell_of_ans hb k1
      replace k2 := cell_of_ans hb k2
      replace k3 := cell_of_ans hb k3
      replace k4 := cell_of_ans hb k4
      replace HZ := Lib.hid (HZ.out.step hb)
      replace HB := Lib.hid (HB.out.trans (hb.mono HB.out.size))
      clear hb
      have ltk0 := World.block_lt_of_cell? _ _ k0
      dsimp only at ltk0
      have hzf := (HZ.out.set (.int .i64 r.rows) (.int .i64 r.mid) (.int .i64 r.gap) (.int .i64 r.reach) (.slice A r.links.length c) (.int .u16 (pinS r xs : Int)))
      have hbf := below_six (q := w.heap.size + 1) HB.out (Nat.le_succ w.heap.size) (.int .i64 r.rows) (.int .i64 r.mid) (.int .i64 r.gap) (.int .i64 r.reach) (.slice A r.links.length c) (.int .u16 (pinS r xs : Int))
      obtain ⟨⟨z0, z1, z2, z3, z4, z5⟩, zf⟩ := HZ.out.cells
      have zf0 := zf 0
      have zf1 := zf 1
      have zf2 := zf 2
      have zf3 := zf 3
      have zf4 := zf 4
      have zf5 := zf 5
      clear zf
      go_wp2_with fail
      generalize ((((((x3.setCell ⟨w.heap.size + 1, 0, none⟩ (.int .i64 r.rows)).setCell ⟨w.heap.size + 1, 1, none⟩ (.int .i64 r.mid)).setCell ⟨w.heap.size + 1, 2, none⟩ (.int .i64 r.gap)).setCell ⟨w.heap.size + 1, 3, none⟩ (.int .i64 r.reach)).setCell ⟨w.heap.size + 1, 4, none⟩ (.slice A r.links.length c)).setCell ⟨w.heap.size + 1, 5, none⟩ (.int .u16 (pinS r xs : Int))) = W9 at *
      refine bodyPost_ret (v := (.tuple #[.agg #[.int .i64 r.rows, .int .i64 r.mid, .int .i64 r.gap, .int .i64 r.reach, .slice A r.links.length c, .int .u16 (pinS r xs : Int)], .int .i64 (0)])) (by unfold At6 at hzf; simp [results, Try.results54, go_sem, World.cell?, hzf]) rfl ?_
      exact ⟨by rw [HTV.out, HTE.out] <;> simp, hbf⟩
  · rw [if_neg he] at HTE
    have hte : ¬ thrErr r xs ball = 0 := by rw [HTE.out]; exact he
    rw [if_neg hte] at HTV
    have hne : (pinErr r xs != 0) = true := by simp [he]
    clear hte he
    go_enter Try.func54, Try.ntmps54
    go_wp2_with fail
    generalize ((w.alloc (.cells #[.int .i64 r.rows, .int .i64 r.mid, .int .i64 r.gap, .int .i64 r.reach, .slice A r.links.length c] 69)).alloc (.cells #[.int .i64 0, .int .i64 0, .int .i64 0, .int .i64 0, .slice none 0 0, .int .u16 0] 158)) = x2 at *
    refine (pinned_c r A xA c cx xs _ HL.out hc HX.out hcx).mono ?_
    rintro e x4 ⟨rfl, hb⟩
    replace HL := Lib.hid (HL.out.step hb)
    replace HX := Lib.hid (HX.out.step hb)
    replace HBa := Lib.hid (HBa.out.step hb)
    replace k0 := cell_of_ans hb k0
    replace k1 := cell_of_ans hb k1
    replace k2 := cell_of_ans hb k2
    replace k3 := cell_of_ans hb k3
    replace k4 := cell_of_ans hb k4
    replace HZ := Lib.hid (HZ.out.step hb)
    replace HB := Lib.hid (HB.out.trans (hb.mono HB.out.size))
    clear hb
    have ltk0 := World.block_lt_of_cell? _ _ k0
    dsimp only at ltk0
    have hzf := (HZ.out.set (.int .i64 0) (.int .i64 0) (.int .i64 0) (.int .i64 0) (.slice none 0 0) (.int .u16 0))
    have hbf := below_six (q := w.heap.size + 1) HB.out (Nat.le_succ w.heap.size) (.int .i64 0) (.int .i64 0) (.int .i64 0) (.int .i64 0) (.slice none 0 0) (.int .u16 0)
    obtain ⟨⟨z0, z1, z2, z3, z4, z5⟩, zf⟩ := HZ.out.cells
    have zf0 := zf 0
    have zf1 := zf 1
    have zf2 := zf 2
    have zf3 := zf 3
    have zf4 := zf 4
    have zf5 := zf 5
    clear zf
    go_wp2_with fail
    generalize ((((((x4.setCell ⟨w.heap.size + 1, 0, none⟩ (.int .i64 0)).setCell ⟨w.heap.size + 1, 1, none⟩ (.int .i64 0)).setCell ⟨w.heap.size + 1, 2, none⟩ (.int .i64 0)).setCell ⟨w.heap.size + 1, 3, none⟩ (.int .i64 0)).setCell ⟨w.heap.size + 1, 4, none⟩ (.slice none 0 0)).setCell ⟨w.heap.size + 1, 5, none⟩ (.int .u16 0)) = W9 at *
    refine bodyPost_ret (v := (.tuple #[.agg #[.int .i64 0, .int .i64 0, .int .i64 0, .int .i64 0, .slice none 0 0, .int .u16 0], .int .i64 (pinErr r xs)])) (by unfold At6 at hzf; simp [results, Try.results54, go_sem, World.cell?, hzf]) rfl ?_
    exact ⟨by rw [HTV.out, HTE.out] <;> simp, hbf⟩
/-- A list of bools in memory. -/
def bx (bs : List Bool) (k : Nat) : Bool := bs.getD k false
theorem bx_lt {bs : List Bool} {k : Nat} (h : k < bs.length) : bx bs k = bs[k] := by simp [bx, h]
def Bls (B : Nat) (w : World) (A : Option Addr) (bs : List Bool) : Prop :=
  0 < bs.length → ∃ b off, A = some ⟨b, off, none⟩ ∧ b < B ∧ ∀ k, k < bs.length → w.cell? ⟨b, off + k, none⟩ = some (.bool (bx bs k))
theorem Bls.at_ {B : Nat} {w : World} {A : Option Addr} {bs : List Bool} (h : Bls B w A bs) {k : Nat} (hk : k < bs.length) : ∃ b off, A = some ⟨b, off, none⟩ ∧ b < B ∧ w.cell? ⟨b, off + k, none⟩ = some (.bool (bx bs k)) := by
  obtain ⟨b, off, hA, hb, hc⟩ := h (by omega)
  exact ⟨b, off, hA, hb, hc k hk⟩
theorem Bls.below {B : Nat} {w w' : World} {A : Option Addr} {bs : List Bool} (h : Bls B w A bs) (hb : Below B w w') : Bls B w' A bs := fun hp => by
  obtain ⟨b, off, hA, hlt, hc⟩ := h hp
  exact ⟨b, off, hA, hlt, fun k hk => (hb.cell (p := ⟨b, off + k, none⟩) hlt).trans (hc k hk)⟩
theorem Bls.more {B B' : Nat} {w : World} {A : Option Addr} {bs : List Bool} (h : Bls B w A bs) (hB : B ≤ B') : Bls B' w A bs := fun hp => by
  obtain ⟨b, off, hA, hlt, hc⟩ := h hp
  exact ⟨b, off, hA, by omega, hc⟩
theorem Bls.step {w w' : World} {A : Option Addr} {bs : List Bool} (h : Bls w.heap.size w A bs) (hb : Below w.heap.size w w') : Bls w'.heap.size w' A bs := (h.below hb).more hb.size
/-- Are boards, and what carries, a truth of a ball? -/
noncomputable def overB (ball : List Rg) (ys : List Int) : Bool := allB ys.length (fun k => inB (ix ys k) (gx ball k).lo (gx ball k).hi)
noncomputable def carryB (ls : List Lk) (bs : List Bool) : Bool := allB bs.length (fun k => !(lx ls k).s || bx bs k)
noncomputable def truthB (r : Rk) (ball : List Rg) (ys : List Int) (bs : List Bool) : Bool := (decide (ys.length = ball.length) && decide (bs.length = r.links.length)) && (overB ball ys && carryB r.links bs)
noncomputable def hitErr (r : Rk) (xs : List Int) (ball : List Rg) (ys : List Int) (bs : List Bool) : Int := if thrErr r xs ball = 0 then (if truthB r ball ys bs then 0 else 2) else thrErr r xs ball
/-- What a truth leaves, as a list. -/
noncomputable def hitL (r : Rk) (xs : List Int) (ball : List Rg) (ys : List Int) (bs : List Bool) : List Int := if hitErr r xs ball ys bs = 0 then natsI (listS (leftS r (pinS r xs) (ix ys) (bx bs))) else []
theorem fallS_congr {ls : List Lk} {c d : Nat → Bool} {pins s : Nat} (h : ∀ i, i < ls.length → c i = d i) : fallS ls c pins s = fallS ls d pins s := by
  refine Nat.eq_of_testBit_eq fun i => ?_
  rw [Bool.eq_iff_iff, fallS, fallS, mem_bitsP, mem_bitsP]
  exact ⟨fun ⟨a, b⟩ => ⟨a, b.mono (fun i hi hc => by rw [← h i hi]; exact hc) Sub.rfl Sub.rfl⟩, fun ⟨a, b⟩ => ⟨a, b.mono (fun i hi hc => by rw [h i hi]; exact hc) Sub.rfl Sub.rfl⟩⟩
theorem felledS_congr {r : Rk} {pins : Nat} {b b' : Nat → Int} {c d : Nat → Bool} (hb : ∀ k, k < r.rows.toNat → b k = b' k) (h : ∀ i, i < r.links.length → c i = d i) : felledS r pins b c = felledS r pins b' d := by
  unfold felledS
  rw [touchedS_congr hb, fallS_congr h]
theorem left_is {r : Rk} {pins : Nat} {b : Nat → Int} {c : Nat → Bool} (hp : pins < 2 ^ 10) : pins &&& (65535 - felledS r pins b c) = leftS r pins b c := by
  have hf := felledS_lt (r := r) (b := b) (c := c) hp
  refine set_ext (n := 10) (Nat.lt_of_le_of_lt Nat.and_le_left hp) leftS_lt fun p hp10 => ?_
  rw [Nat.testBit_and, Bool.and_eq_true, mem_leftS hp, show 65535 - felledS r pins b c = 2 ^ 16 - (felledS r pins b c + 1) by omega, Nat.testBit_two_pow_sub_succ (by omega)]
  simp [show p < 16 by omega]
/-- The numbers of those that carry, ahead of k, by bits. -/
def bitsN (bs : List Bool) (k : Nat) : Nat := ofS ((List.range k).filter (bx bs))
theorem bitsN_succ (bs : List Bool) (k : Nat) : bitsN bs (k + 1) = if bx bs k then bitsN bs k ||| 2 ^ k else bitsN bs k := by
  unfold bitsN
  rw [List.range_succ, List.filter_append]
  cases h : bx bs k
  · simp [h]
  · simp [h, or_ofS]
theorem bitsN_lt (bs : List Bool) {k : Nat} (hk : k ≤ 12) : bitsN bs k < 2 ^ 12 := ofS_lt fun p hp => by
  have := List.mem_range.1 (List.mem_filter.1 hp).1
  omega
theorem mem_bitsN {bs : List Bool} {k i : Nat} : (bitsN bs k).testBit i = true ↔ i < k ∧ bx bs i = true := by
  rw [bitsN, mem_ofS, List.mem_filter, List.mem_range]
theorem i64_or_nat (a b : Nat) (ha : a < 2 ^ 16) (hb : b < 2 ^ 16) : bits .or .i64 (a : Int) (b : Int) = ((a ||| b : Nat) : Int) := by
  have h := Nat.or_lt_two_pow ha hb
  show IntKind.i64.wrap ((BitVec.ofInt 64 (a : Int) ||| BitVec.ofInt 64 (b : Int)).toNat : Nat) = _
  have e : ∀ n : Nat, n < 2 ^ 16 → (BitVec.ofInt 64 (n : Int)).toNat = n := fun n hn => by
    rw [BitVec.toNat_ofInt]
    omega
  rw [BitVec.toNat_or, e a ha, e b hb]
  exact IntWalk.i64_in _ (by omega)
/-- The boards that are read so far. -/
def bdF (ys : List Int) (k j : Nat) : Int := if j < k then ix ys j else 0
theorem enters78 : Enters 62 := fun _ _ => enters_of Try.func62 (by kernel_rfl) rfl _ _
def At4 (W : World) (q : Nat) (f : Nat → Int) : Prop := W.heap[q]? = some (.cells #[.int .i64 (f 0), .int .i64 (f 1), .int .i64 (f 2), .int .i64 (f 3)] 167)
theorem At4.step {W W' : World} {q : Nat} {f : Nat → Int} (h : At4 W q f) (hb : Below W.heap.size W W') : At4 W' q f := (hb.block q (Array.getElem?_eq_some_iff.1 h).1).trans h
theorem At4.cells {W : World} {q : Nat} {f : Nat → Int} (h : At4 W q f) : (W.cell? ⟨q, 0, none⟩ = some (.int .i64 (f 0)) ∧ W.cell? ⟨q, 1, none⟩ = some (.int .i64 (f 1)) ∧ W.cell? ⟨q, 2, none⟩ = some (.int .i64 (f 2)) ∧ W.cell? ⟨q, 3, none⟩ = some (.int .i64 (f 3))) ∧ (∀ j, j < 4 → W.cell? ⟨q, j, none⟩ = some (.int .i64 (f j))) ∧ ∀ i, W.frozen? ⟨q, i, none⟩ = false := by
  unfold At4 at h
  refine ⟨by simp [World.cell?, h], fun j hj => ?_, by simp [World.frozen?, h]⟩
  rcases (by omega : j = 0 ∨ j = 1 ∨ j = 2 ∨ j = 3) with rfl | rfl | rfl | rfl <;> simp [World.cell?, h]
theorem At4.set {W : World} {q k : Nat} {ys : List Int} (h : At4 W q (bdF ys k)) (hk : k < 4) : At4 (W.setCell ⟨q, k, none⟩ (.int .i64 (ix ys k))) q (bdF ys (k + 1)) := by
  unfold At4 at h ⊢
  rcases (by omega : k = 0 ∨ k = 1 ∨ k = 2 ∨ k = 3) with rfl | rfl | rfl | rfl <;> simp [World.setCell, Array.getElem?_modify, h, bdF]
/-- What Hit answers. -/
def HitP (w : World) (xs : List Int) (err : Int) (e : Ending) (w' : World) : Prop := ∃ A c, e = .returned (.tuple #[.slice A xs.length c, .int .i64 err]) ∧ OwnI w.heap.size w' (.slice A xs.length c) xs ∧ Below w.heap.size w w'
set_option maxRecDepth 100000 in
set_option maxHeartbeats 16000000 in
theorem hit_c (r : Rk) (A xA Ab yA sA : Option Addr) (c cx cb cy cs : Nat) (xs ys : List Int) (ball : List Rg) (bs : List Bool) (w : World) (hl : Lks w.heap.size w A r.links) (hc : r.links.length ≤ c ∧ c ≤ 9223372036854775807) (hx : Ints w.heap.size w xA xs) (hcx : xs.length ≤ cx ∧ cx ≤ 9223372036854775807) (hball : Rgs w.heap.size w Ab ball) (hcb : ball.length ≤ cb ∧ cb ≤ 9223372036854775807) (hy : Ints w.heap.size w yA ys) (hcy : ys.length ≤ cy ∧ cy ≤ 9223372036854775807) (hcs : Bls w.heap.size w sA bs) (hccs : bs.length ≤ cs ∧ cs ≤ 9223372036854775807) :
    Calls Try.prog 25 #[.agg #[.int .i64 r.rows, .int .i64 r.mid, .int .i64 r.gap, .int .i64 r.reach, .slice A r.links.length c], .slice xA xs.length cx, .slice Ab ball.length cb, .slice yA ys.length cy, .slice sA bs.length cs] w (HitP w (hitL r xs ball ys bs) (hitErr r xs ball ys bs)) := by
  have HB := Lib.hid (Below.refl w.heap.size w)
  have HX0 := Lib.hid hx
  have HY0 := Lib.hid hy
  have HG0 := Lib.hid hball
  have HC0 := Lib.hid hcs
  have HLk := Lib.hid hl
  have HL := Lib.hid hl
  have HX := Lib.hid hx
  have HBa := Lib.hid hball
  have HY := Lib.hid hy
  have HCs := Lib.hid hcs
  clear hl hx hball hy hcs
  have hb : Below w.heap.size w (w.alloc (.cells #[.int .i64 r.rows, .int .i64 r.mid, .int .i64 r.gap, .int .i64 r.reach, .slice A r.links.length c] 69)) := (Below.refl _ _).alloc (Nat.le_refl _) _
  replace HL := Lib.hid (HL.out.step hb)
  replace HX := Lib.hid (HX.out.step hb)
  replace HBa := Lib.hid (HBa.out.step hb)
  replace HY := Lib.hid (HY.out.step hb)
  replace HCs := Lib.hid (HCs.out.step hb)
  replace HB := Lib.hid (HB.out.trans (hb.mono HB.out.size))
  clear hb
  have k0 : (w.alloc (.cells #[.int .i64 r.rows, .int .i64 r.mid, .int .i64 r.gap, .int .i64 r.reach, .slice A r.links.length c] 69)).cell? ⟨w.heap.size, 0, none⟩ = some (.int .i64 r.rows) := by simp
  have k1 : (w.alloc (.cells #[.int .i64 r.rows, .int .i64 r.mid, .int .i64 r.gap, .int .i64 r.reach, .slice A r.links.length c] 69)).cell? ⟨w.heap.size, 1, none⟩ = some (.int .i64 r.mid) := by simp
  have k2 : (w.alloc (.cells #[.int .i64 r.rows, .int .i64 r.mid, .int .i64 r.gap, .int .i64 r.reach, .slice A r.links.length c] 69)).cell? ⟨w.heap.size, 2, none⟩ = some (.int .i64 r.gap) := by simp
  have k3 : (w.alloc (.cells #[.int .i64 r.rows, .int .i64 r.mid, .int .i64 r.gap, .int .i64 r.reach, .slice A r.links.length c] 69)).cell? ⟨w.heap.size, 3, none⟩ = some (.int .i64 r.reach) := by simp
  have k4 : (w.alloc (.cells #[.int .i64 r.rows, .int .i64 r.mid, .int .i64 r.gap, .int .i64 r.reach, .slice A r.links.length c] 69)).cell? ⟨w.heap.size, 4, none⟩ = some (.slice A r.links.length c) := by simp
  have HHE : Hid (hitErr r xs ball ys bs = if thrErr r xs ball = 0 then (if truthB r ball ys bs then 0 else 2) else thrErr r xs ball) := rfl
  have HHL : Hid (hitL r xs ball ys bs = if hitErr r xs ball ys bs = 0 then natsI (listS (leftS r (pinS r xs) (ix ys) (bx bs))) else []) := rfl
  have HTV : Hid (thrV r A c xs ball = if thrErr r xs ball = 0 then .agg #[.int .i64 r.rows, .int .i64 r.mid, .int .i64 r.gap, .int .i64 r.reach, .slice A r.links.length c, .int .u16 (pinS r xs : Int)] else .agg #[.int .i64 0, .int .i64 0, .int .i64 0, .int .i64 0, .slice none 0 0, .int .u16 0]) := rfl
  by_cases he : thrErr r xs ball = 0
  · rw [if_pos he] at HHE HTV
    obtain ⟨hpe, hbl⟩ := thrErr_pin he
    have hr := rackOk (pinErr_rack hpe)
    have hbl2 : ((ball.length : Int) = r.rows) := by have := hbl; unfold ballB at this; simp at this; exact this.1
    have HBR : Hid (allB ball.length (fun k => rangeB (gx ball k)) = true) := by show _ = _; have := hbl; unfold ballB at this; rw [Bool.and_eq_true] at this; exact this.2
    have HPS := Lib.hid (pinS_lt (r := r) (xs := xs))
    have hbl4 : ball.length ≤ 4 := by have := hr.rows4; omega
    have HRL : Hid (r.rows.toNat = ball.length) := by show _ = _; omega
    clear hpe hbl hbl2
    go_enter Try.func25, Try.ntmps25
    go_wp2_with fail
    generalize (w.alloc (.cells #[.int .i64 r.rows, .int .i64 r.mid, .int .i64 r.gap, .int .i64 r.reach, .slice A r.links.length c] 69)) = x1 at *
    refine (thrown_c r A xA Ab c cx cb xs ball _ HL.out hc HX.out hcx HBa.out hcb).mono ?_
    rw [HTV.out, he]
    rintro e x2 ⟨rfl, hb⟩
    replace HL := Lib.hid (HL.out.step hb)
    replace HX := Lib.hid (HX.out.step hb)
    replace HBa := Lib.hid (HBa.out.step hb)
    replace HY := Lib.hid (HY.out.step hb)
    replace HCs := Lib.hid (HCs.out.step hb)
    replace k0 := cell_of_ans hb k0
    replace k1 := cell_of_ans hb k1
    replace k2 := cell_of_ans hb k2
    replace k3 := cell_of_ans hb k3
    replace k4 := cell_of_ans hb k4
    replace HB := Lib.hid (HB.out.trans (hb.mono HB.out.size))
    clear hb
    clear he
    generalize hps : pinS r xs = pins at *
    have hpl := HPS.out
    have ltk0 := World.block_lt_of_cell? _ _ k0
    dsimp only at ltk0
    have ltk4 := World.block_lt_of_cell? _ _ k4
    dsimp only at ltk4
    go_upto_region 4 with fail
    have hb : Below x2.heap.size x2 (x2.alloc (.cells #[.int .i64 r.rows, .int .i64 r.mid, .int .i64 r.gap, .int .i64 r.reach, .slice A r.links.length c, .int .u16 (pins : Int)] 158)) := (Below.refl _ _).alloc (Nat.le_refl _) _
    replace HL := Lib.hid (HL.out.step hb)
    replace HX := Lib.hid (HX.out.step hb)
    replace HBa := Lib.hid (HBa.out.step hb)
    replace HY := Lib.hid (HY.out.step hb)
    replace HCs := Lib.hid (HCs.out.step hb)
    replace k0 := cell_of_ans hb k0
    replace k1 := cell_of_ans hb k1
    replace k2 := cell_of_ans hb k2
    replace k3 := cell_of_ans hb k3
    replace k4 := cell_of_ans hb k4
    replace HB := Lib.hid (HB.out.trans (hb.mono HB.out.size))
    clear hb
    have h0 : (x2.alloc (.cells #[.int .i64 r.rows, .int .i64 r.mid, .int .i64 r.gap, .int .i64 r.reach, .slice A r.links.length c, .int .u16 (pins : Int)] 158)).cell? ⟨x2.heap.size, 0, none⟩ = some (.int .i64 r.rows) := by simp
    have h1 : (x2.alloc (.cells #[.int .i64 r.rows, .int .i64 r.mid, .int .i64 r.gap, .int .i64 r.reach, .slice A r.links.length c, .int .u16 (pins : Int)] 158)).cell? ⟨x2.heap.size, 1, none⟩ = some (.int .i64 r.mid) := by simp
    have h2 : (x2.alloc (.cells #[.int .i64 r.rows, .int .i64 r.mid, .int .i64 r.gap, .int .i64 r.reach, .slice A r.links.length c, .int .u16 (pins : Int)] 158)).cell? ⟨x2.heap.size, 2, none⟩ = some (.int .i64 r.gap) := by simp
    have h3 : (x2.alloc (.cells #[.int .i64 r.rows, .int .i64 r.mid, .int .i64 r.gap, .int .i64 r.reach, .slice A r.links.length c, .int .u16 (pins : Int)] 158)).cell? ⟨x2.heap.size, 3, none⟩ = some (.int .i64 r.reach) := by simp
    have h4 : (x2.alloc (.cells #[.int .i64 r.rows, .int .i64 r.mid, .int .i64 r.gap, .int .i64 r.reach, .slice A r.links.length c, .int .u16 (pins : Int)] 158)).cell? ⟨x2.heap.size, 4, none⟩ = some (.slice A r.links.length c) := by simp
    have h5 : (x2.alloc (.cells #[.int .i64 r.rows, .int .i64 r.mid, .int .i64 r.gap, .int .i64 r.reach, .slice A r.links.length c, .int .u16 (pins : Int)] 158)).cell? ⟨x2.heap.size, 5, none⟩ = some (.int .u16 (pins : Int)) := by simp
    have HQ6 : Hid (At6 (x2.alloc (.cells #[.int .i64 r.rows, .int .i64 r.mid, .int .i64 r.gap, .int .i64 r.reach, .slice A r.links.length c, .int .u16 (pins : Int)] 158)) x2.heap.size (.int .i64 r.rows) (.int .i64 r.mid) (.int .i64 r.gap) (.int .i64 r.reach) (.slice A r.links.length c) (.int .u16 (pins : Int))) := World.alloc_heap_new _ _
    obtain ⟨hq, hhq⟩ : ∃ hq, hq = x2.heap.size := ⟨_, rfl⟩
    rw [← hhq] at h0 h1 h2 h3 h4 h5 HQ6
    have hwq : w.heap.size < hq := by omega
    simp only [← hhq]
    generalize (x2.alloc (.cells #[.int .i64 r.rows, .int .i64 r.mid, .int .i64 r.gap, .int .i64 r.reach, .slice A r.links.length c, .int .u16 (pins : Int)] 158)) = x3 at *
    clear hhq
    have HTB : Hid (truthB r ball ys bs = ((decide (ys.length = ball.length) && decide (bs.length = r.links.length)) && (overB ball ys && carryB r.links bs))) := rfl
    by_cases e1 : ys.length = ball.length
    · by_cases e2 : bs.length = r.links.length
      · rw [decide_eq_true e1, decide_eq_true e2] at HTB
        simp only [Bool.true_and] at HTB
        have q1 : ((ys.length : Int) != (ball.length : Int)) = false := by simp [e1]
        have q2 : ((bs.length : Int) != (r.links.length : Int)) = false := by simp [e2]
        have E1 := Lib.hid e1
        have E2 := Lib.hid e2
        clear e1 e2
        go_wp2_with fail
        have lth5 := World.block_lt_of_cell? _ _ h5
        dsimp only at lth5
        have ltk9 := World.block_lt_of_cell? _ _ k4
        dsimp only at ltk9
        have hb : Below x3.heap.size x3 (x3.alloc (.cells #[.int .i64 0, .int .i64 0, .int .i64 0, .int .i64 0] 167)) := (Below.refl _ _).alloc (Nat.le_refl _) _
        replace HL := Lib.hid (HL.out.step hb)
        replace HX := Lib.hid (HX.out.step hb)
        replace HBa := Lib.hid (HBa.out.step hb)
        replace HY := Lib.hid (HY.out.step hb)
        replace HCs := Lib.hid (HCs.out.step hb)
        replace k0 := cell_of_ans hb k0
        replace k1 := cell_of_ans hb k1
        replace k2 := cell_of_ans hb k2
        replace k3 := cell_of_ans hb k3
        replace k4 := cell_of_ans hb k4
        replace h0 := cell_of_ans hb h0
        replace h1 := cell_of_ans hb h1
        replace h2 := cell_of_ans hb h2
        replace h3 := cell_of_ans hb h3
        replace h4 := cell_of_ans hb h4
        replace h5 := cell_of_ans hb h5
        replace HQ6 := Lib.hid (HQ6.out.step hb)
        replace HB := Lib.hid (HB.out.trans (hb.mono HB.out.size))
        clear hb
        have HQ4 : Hid (At4 (x3.alloc (.cells #[.int .i64 0, .int .i64 0, .int .i64 0, .int .i64 0] 167)) x3.heap.size (bdF ys 0)) := World.alloc_heap_new _ _
        obtain ⟨bq, hbq⟩ : ∃ bq, bq = x3.heap.size := ⟨_, rfl⟩
        rw [← hbq] at HQ4
        have hqb : hq < bq := by omega
        simp only [← hbq]
        generalize (x3.alloc (.cells #[.int .i64 0, .int .i64 0, .int .i64 0, .int .i64 0] 167)) = x4 at *
        have hwb : w.heap.size < bq := by omega
        clear hbq
        go_loopw [47] (fun i wr => ∃ k : Nat, k ≤ ys.length ∧ i = .int .i64 k ∧ AllB k (fun k => inB (ix ys k) (gx ball k).lo (gx ball k).hi) ∧ At4 wr bq (bdF ys k) ∧ x4.grownBy wr (some bq)) (fun i _ => ys.length - (intOf i).toNat)
        case atStart => exact ⟨0, by omega, rfl, fun j hj => by omega, HQ4.out, World.grownBy.refl _ _⟩
        case round =>
          obtain ⟨k, hk, rfl, hall, h4, hgr⟩ := hrel
          have HBW : Hid (Below w.heap.size w wr) := HB.out.grown hgr HB.out.size (fun j e => by injection e with e; omega)
          have HALL := Lib.hid hall
          have H4 := Lib.hid h4
          have HGR := Lib.hid hgr
          clear hall h4 hgr
          by_cases hk1 : k < ys.length
          · obtain ⟨b1, o1, hA1, hlt1, y0⟩ := (HY0.out.below HBW.out).at_ hk1
            obtain ⟨b2, o2, hA2, hlt2, c1, c2⟩ := (HG0.out.below HBW.out).at_ (k := k) (by have := E1.out; omega)
            obtain ⟨⟨-, -, -, -⟩, zc, zf⟩ := H4.out.cells
            have hk4 : k < 4 := by have := E1.out; omega
            have zk := zc k hk4
            have zfk := zf k
            clear zc zf
            have hki : (k : Int) < (ys.length : Int) := by omega
            have hkb : (k : Int) < (ball.length : Int) := by have := E1.out; omega
            have hkb2 : k < ball.length := by have := E1.out; omega
            have hk4i : (k : Int) < 4 := by omega
            have HOV : Hid (∀ b, inB (ix ys k) (gx ball k).lo (gx ball k).hi = b → b = false → overB ball ys = false) := fun b h1 h2 => allB_false hk1 (by rw [← h2, ← h1])
            have HSU : Hid (∀ b, inB (ix ys k) (gx ball k).lo (gx ball k).hi = b → b = true → AllB (k + 1) (fun k => inB (ix ys k) (gx ball k).lo (gx ball k).hi)) := fun b h1 h2 => HALL.out.succ (by rw [← h2, ← h1])
            have hd : Below wr.heap.size wr wr.drew := (Below.refl _ _).drew
            have H4d := Lib.hid ((H4.out.step hd).set hk4)
            have HGd : Hid (x4.grownBy wr.drew (some bq)) := HGR.out.trans (only_below hd _)
            have HBd : Hid (Below w.heap.size w wr.drew) := HBW.out.trans (hd.mono HBW.out.size)
            generalize hgx : gx ball k = x at *
            obtain ⟨xl, xh⟩ := x
            dsimp only at c1 c2 HOV HSU
            generalize hyk : ix ys k = yk at *
            subst hA1 hA2
            clear hd
            cases hib : inB yk xl xh
            all_goals
              have HIB := Lib.hid hib
              go_upto_region 10 with fail
              go_region_held3 (fun w' => w'.cell? ⟨b2, o2 + k * 2, none⟩ = some (.int .i64 xl) ∧ w'.cell? ⟨b2, o2 + k * 2 + 1, none⟩ = some (.int .i64 xh) ∧ w'.cell? ⟨bq, k, none⟩ = some (.int .i64 (bdF ys k k)) ∧ w'.frozen? ⟨bq, k, none⟩ = false) (go_keep) (first | (go_at_call 60; refine (within_c _ _ _ _).mono ?_; rintro e w1 ⟨rfl, rfl⟩; rw [HIB.out]))
            · have htr : truthB r ball ys bs = false := by rw [HTB.out, HOV.out _ HIB.out rfl, Bool.false_and]
              have hhe : ¬ hitErr r xs ball ys bs = 0 := by rw [HHE.out, htr]; simp
              go_wp2_with fail
              refine bodyPost_ret (results_tmp2 rfl _ _ _) rfl ?_
              exact ⟨none, 0, by rw [HHL.out, if_neg hhe, HHE.out, htr]; rfl, by rw [HHL.out, if_neg hhe]; exact OwnI.nil _ _, HBd.out⟩
            · go_wp2_with fail
              go_roundw
              case rel => exact ⟨k + 1, by omega, by go_num, HSU.out _ HIB.out rfl, H4d.out, HGd.out.trans (only_setCell (World.grownBy.refl _ _) (.inl rfl) _)⟩
              case measure => simp [intOf]; omega
          · obtain rfl : k = ys.length := by omega
            have HOT : Hid (overB ball ys = true) := allB_true HALL.out
            have HNE1 : Hid (some w.heap.size ≠ some bq) := by show _ ≠ _; simp; omega
            have HNE2 : Hid (some hq ≠ some bq) := by show _ ≠ _; simp; omega
            replace k0 := HGR.out.cell k0 HNE1.out
            replace k4 := HGR.out.cell k4 HNE1.out
            replace h0 := HGR.out.cell h0 HNE2.out
            replace h1 := HGR.out.cell h1 HNE2.out
            replace h2 := HGR.out.cell h2 HNE2.out
            replace h3 := HGR.out.cell h3 HNE2.out
            replace h4 := HGR.out.cell h4 HNE2.out
            replace h5 := HGR.out.cell h5 HNE2.out
            clear k1 k2 k3 HX HY HBa HCs HL HX0 HY0 HG0 HALL HGR HQ4 HQ6
            go_wp2_with fail
            go_loopw [17, 71] (fun t i wt => ∃ k : Nat, k ≤ bs.length ∧ i = .int .i64 k ∧ t = .int .i64 (bitsN bs k : Int) ∧ AllB k (fun k => !(lx r.links k).s || bx bs k) ∧ wt = wr) (fun _ i _ => bs.length - (intOf i).toNat)
            case atStart => exact ⟨0, by omega, rfl, rfl, fun j hj => by omega, rfl⟩
            case round =>
              obtain ⟨k, hk, rfl, rfl, hall, rfl⟩ := hrel
              have HALL := Lib.hid hall
              clear hall
              have hl12 : r.links.length ≤ 12 := hr.len
              have hbk := bitsN_lt bs (k := k) (by have := E2.out; omega)
              by_cases hk1 : k < bs.length
              · obtain ⟨b1, o1, hA1, hlt1, y0⟩ := (HC0.out.below HBW.out).at_ hk1
                obtain ⟨b2, o2, hA2, hlt2, c1, c2, c3⟩ := (HLk.out.below HBW.out).at_ (k := k) (by have := E2.out; omega)
                have hki : (k : Int) < (bs.length : Int) := by omega
                have hkl : (k : Int) < (r.links.length : Int) := by have := E2.out; omega
                have hkl2 : k < r.links.length := by have := E2.out; omega
                have hw : IntKind.i64.wrap ((2 : Int) ^ k) = (2 : Int) ^ k := by
                  have hp2 : (2 : Nat) ^ k < 2 ^ 12 := Nat.pow_lt_pow_right (by decide) (by omega)
                  rw [show (2 : Int) ^ k = ((2 ^ k : Nat) : Int) by simp]
                  generalize 2 ^ k = z at hp2 ⊢
                  exact IntWalk.i64_in _ (by omega)
                have HOR : Hid (bits .or .i64 (bitsN bs k : Int) ((2 : Int) ^ k) = ((bitsN bs k ||| 2 ^ k : Nat) : Int)) := by
                  have hp2 : (2 : Nat) ^ k < 2 ^ 12 := Nat.pow_lt_pow_right (by decide) (by omega)
                  show _ = _
                  rw [show (2 : Int) ^ k = ((2 ^ k : Nat) : Int) by simp, i64_or_nat _ _ (by omega) (by omega)]
                have HSC := Lib.hid (bitsN_succ bs k)
                have HOV : Hid ((!(lx r.links k).s || bx bs k) = false → carryB r.links bs = false) := fun h2 => allB_false hk1 h2
                have HSU : Hid ((!(lx r.links k).s || bx bs k) = true → AllB (k + 1) (fun k => !(lx r.links k).s || bx bs k)) := fun h2 => HALL.out.succ h2
                generalize hlx : lx r.links k = x at *
                obtain ⟨xf, xt, xs'⟩ := x
                dsimp only at c1 c2 c3 HOV HSU
                generalize hyk : bx bs k = yk at *
                generalize bitsN bs k = bn at *
                subst hA1 hA2
                cases yk
                · cases xs'
                  · go_wp2_with fail
                    go_roundw
                    case rel => exact ⟨k + 1, by omega, by go_num, by rw [HSC.out]; rfl, HSU.out rfl, by trivial⟩
                    case measure => simp [intOf]; omega
                  · have htr : truthB r ball ys bs = false := by rw [HTB.out, HOV.out rfl, Bool.and_false]
                    have hhe : ¬ hitErr r xs ball ys bs = 0 := by rw [HHE.out, htr]; simp
                    go_wp2_with fail
                    refine bodyPost_ret (results_tmp2 rfl _ _ _) rfl ?_
                    exact ⟨none, 0, by rw [HHL.out, if_neg hhe, HHE.out, htr]; rfl, by rw [HHL.out, if_neg hhe]; exact OwnI.nil _ _, HBW.out⟩
                · cases xs'
                  all_goals
                    go_wp2_with fail
                    go_roundw
                    case rel => exact ⟨k + 1, by omega, by go_num, by rw [HSC.out]; exact congrArg _ HOR.out, HSU.out rfl, by trivial⟩
                    case measure => simp [intOf]; omega
              · obtain rfl : k = bs.length := by omega
                have htr : truthB r ball ys bs = true := by rw [HTB.out, HOT.out]; exact allB_true HALL.out
                have hhe : hitErr r xs ball ys bs = 0 := by rw [HHE.out, htr]; rfl
                have HHE0 := Lib.hid hhe
                rw [if_pos hhe] at HHL
                have HFE : Hid (felledS r pins (bdF ys ys.length) (fun i => (lx r.links i).s || (bitsN bs bs.length).testBit i) = felledS r pins (ix ys) (bx bs)) := by
                  refine felledS_congr (fun k hk => ?_) fun i hi => ?_
                  · have := HRL.out; have := E1.out; rw [bdF, if_pos (by omega)]
                  · have h1 : i < bs.length := by have := E2.out; omega
                    have h2 := HALL.out i h1
                    have h3 := mem_bitsN (bs := bs) (k := bs.length) (i := i)
                    cases e1 : (lx r.links i).s <;> cases e2 : bx bs i <;> simp_all
                clear htr hhe hk hk1 hbk
                have HBD : Hid (∀ k, k < r.rows.toNat → -1000 ≤ bdF ys ys.length k ∧ bdF ys ys.length k ≤ 1000) := fun k hk => by
                  have h1 := HRL.out
                  have h2 := E1.out
                  have h3 := allB_iff.1 HOT.out k (by omega)
                  have h4 := allB_iff.1 HBR.out k (by omega)
                  rw [bdF, if_pos (by omega)]
                  simp only [rangeB, Bool.and_eq_true, inB_eq, decide_eq_true_eq] at h3 h4
                  omega
                have HSM : Hid (∀ i, i < r.links.length → ∀ W, Calls Try.prog 62 #[lV (lx r.links i), .int .i64 (i : Int), .int .i64 (bitsN bs bs.length : Int)] W (Ans W (.bool ((lx r.links i).s || (bitsN bs bs.length).testBit i)))) := fun i hi W => some_c _ i _ W (by omega)
                have HL9 : Hid (Lks wr.heap.size wr A r.links) := (HLk.out.below HBW.out).more HBW.out.size
                have HLF : Hid (pins &&& (65535 - felledS r pins (ix ys) (bx bs)) = leftS r pins (ix ys) (bx bs)) := left_is hpl
                have hFl := felledS_lt (r := r) (b := ix ys) (c := bx bs) hpl
                have hLl := leftS_lt (r := r) (pins := pins) (b := ix ys) (c := bx bs)
                have HFC : Hid (∀ W, Lks W.heap.size W A r.links → Calls Try.prog 61 #[.agg #[.int .i64 r.rows, .int .i64 r.mid, .int .i64 r.gap, .int .i64 r.reach, .slice A r.links.length c, .int .u16 (pins : Int)], .agg #[.int .i64 (bdF ys ys.length 0), .int .i64 (bdF ys ys.length 1), .int .i64 (bdF ys ys.length 2), .int .i64 (bdF ys ys.length 3)], .agg #[.func (.func 62) #[] #[]], .int .i64 (bitsN bs bs.length : Int)] W (Ans W (.int .u16 (felledS r pins (bdF ys ys.length) (fun i => (lx r.links i).s || (bitsN bs bs.length).testBit i) : Int)))) := fun W h => felled_c r A c pins 62 _ (bdF ys ys.length) _ W hr hpl HBD.out h hc enters78 HSM.out
                rw [HFE.out] at HFC
                generalize leftS r pins (ix ys) (bx bs) = L at *
                generalize felledS r pins (ix ys) (bx bs) = F at *
                have han : bits .andNot .u16 (pins : Int) (F : Int) = (L : Int) := by rw [u16_andNot_nat _ _ (by omega) (by omega), HLF.out]
                generalize bitsN bs bs.length = bn at *
                obtain ⟨⟨b0, b1, b2, b3⟩, -, -⟩ := H4.out.cells
                generalize bdF ys ys.length 0 = v0 at *
                generalize bdF ys ys.length 1 = v1 at *
                generalize bdF ys ys.length 2 = v2 at *
                generalize bdF ys ys.length 3 = v3 at *
                clear HFE HBD HSM HBR HOT HALL HLk HC0 HTB H4 HB HLF
                have HB := HBW
                clear HBW
                go_upto_region 23 with fail
                have hd : Below wr.heap.size wr wr.drew := (Below.refl _ _).drew
                replace HL9 := Lib.hid (HL9.out.step hd)
                replace HB := Lib.hid (HB.out.trans (hd.mono HB.out.size))
                clear hd
                go_region_held3 (fun w' => w'.cell? ⟨hq, 0, none⟩ = some (.int .i64 r.rows) ∧ w'.cell? ⟨hq, 1, none⟩ = some (.int .i64 r.mid) ∧ w'.cell? ⟨hq, 2, none⟩ = some (.int .i64 r.gap) ∧ w'.cell? ⟨hq, 3, none⟩ = some (.int .i64 r.reach) ∧ w'.cell? ⟨hq, 4, none⟩ = some (.slice A r.links.length c) ∧ w'.cell? ⟨hq, 5, none⟩ = some (.int .u16 (pins : Int)) ∧ w'.cell? ⟨bq, 0, none⟩ = some (.int .i64 v0) ∧ w'.cell? ⟨bq, 1, none⟩ = some (.int .i64 v1) ∧ w'.cell? ⟨bq, 2, none⟩ = some (.int .i64 v2) ∧ w'.cell? ⟨bq, 3, none⟩ = some (.int .i64 v3)) (go_keep) (first | (go_at_call 61; refine (HFC.out _ HL9.out).mono ?_; rintro e x8 ⟨rfl, hb⟩; replace HL9 := Lib.hid (HL9.out.step hb); replace h0 := cell_of_ans (below_drew_l hb) h0; replace h1 := cell_of_ans (below_drew_l hb) h1; replace h2 := cell_of_ans (below_drew_l hb) h2; replace h3 := cell_of_ans (below_drew_l hb) h3; replace h4 := cell_of_ans (below_drew_l hb) h4; replace h5 := cell_of_ans (below_drew_l hb) h5; replace b0 := cell_of_ans (below_drew_l hb) b0; replace b1 := cell_of_ans (below_drew_l hb) b1; replace b2 := cell_of_ans (below_drew_l hb) b2; replace b3 := cell_of_ans (below_drew_l hb) b3; replace HB := Lib.hid (HB.out.trans (hb.mono HB.out.size)); clear hb) | (go_at_call 63; have hz8 := HB.out.size; refine (list_s L _ (by omega)).mono ?_; rintro e x9 ⟨Al, cl, rfl, hO, hb⟩; have HO := Lib.hid (ownsRow_base hO hz8); clear hO hz8; replace HL9 := Lib.hid (HL9.out.step hb); replace h0 := cell_of_ans hb h0; replace h1 := cell_of_ans hb h1; replace h2 := cell_of_ans hb h2; replace h3 := cell_of_ans hb h3; replace h4 := cell_of_ans hb h4; replace h5 := cell_of_ans hb h5; replace b0 := cell_of_ans hb b0; replace b1 := cell_of_ans hb b1; replace b2 := cell_of_ans hb b2; replace b3 := cell_of_ans hb b3; replace HB := Lib.hid (HB.out.trans (hb.mono HB.out.size)); clear hb))
                go_wp2_with fail
                refine bodyPost_ret (results_tmp2 rfl _ _ _) rfl ?_
                exact ⟨Al, cl, by rw [HHL.out, HHE0.out]; rfl, by rw [HHL.out]; exact HO.out, HB.out⟩
      · have htr : truthB r ball ys bs = false := by rw [HTB.out, decide_eq_false e2]; simp
        have hhe : ¬ hitErr r xs ball ys bs = 0 := by rw [HHE.out, htr]; simp
        have q1 : ((ys.length : Int) != (ball.length : Int)) = false := by simp [e1]
        have q2 : ((bs.length : Int) != (r.links.length : Int)) = true := by simp; omega
        clear e1
        go_wp2_with fail
        refine bodyPost_ret (results_tmp2 rfl _ _ _) rfl ?_
        exact ⟨none, 0, by rw [HHL.out, if_neg hhe, HHE.out, htr]; rfl, by rw [HHL.out, if_neg hhe]; exact OwnI.nil _ _, HB.out⟩
    · have htr : truthB r ball ys bs = false := by rw [HTB.out, decide_eq_false e1]; simp
      have hhe : ¬ hitErr r xs ball ys bs = 0 := by rw [HHE.out, htr]; simp
      have q1 : ((ys.length : Int) != (ball.length : Int)) = true := by simp; omega
      go_wp2_with fail
      refine bodyPost_ret (results_tmp2 rfl _ _ _) rfl ?_
      exact ⟨none, 0, by rw [HHL.out, if_neg hhe, HHE.out, htr]; rfl, by rw [HHL.out, if_neg hhe]; exact OwnI.nil _ _, HB.out⟩
  · rw [if_neg he] at HHE HTV
    have hte : ¬ hitErr r xs ball ys bs = 0 := by rw [HHE.out]; exact he
    rw [if_neg hte] at HHL
    have hne : (thrErr r xs ball != 0) = true := by simp [he]
    clear hte he
    go_enter Try.func25, Try.ntmps25
    go_wp2_with fail
    generalize (w.alloc (.cells #[.int .i64 r.rows, .int .i64 r.mid, .int .i64 r.gap, .int .i64 r.reach, .slice A r.links.length c] 69)) = x1 at *
    refine (thrown_c r A xA Ab c cx cb xs ball _ HL.out hc HX.out hcx HBa.out hcb).mono ?_
    rw [HTV.out]
    rintro e x2 ⟨rfl, hb⟩
    replace HL := Lib.hid (HL.out.step hb)
    replace HX := Lib.hid (HX.out.step hb)
    replace HBa := Lib.hid (HBa.out.step hb)
    replace HY := Lib.hid (HY.out.step hb)
    replace HCs := Lib.hid (HCs.out.step hb)
    replace k0 := cell_of_ans hb k0
    replace k1 := cell_of_ans hb k1
    replace k2 := cell_of_ans hb k2
    replace k3 := cell_of_ans hb k3
    replace k4 := cell_of_ans hb k4
    replace HB := Lib.hid (HB.out.trans (hb.mono HB.out.size))
    clear hb
    have ltk0 := World.block_lt_of_cell? _ _ k0
    dsimp only at ltk0
    go_wp2_with fail
    skip
    refine bodyPost_ret (results_tmp2 rfl _ _ _) rfl ?_
    exact ⟨none, 0, by rw [HHL.out, HHE.out]; rfl, by rw [HHL.out]; exact OwnI.nil _ _, HB.out.alloc HB.out.size _⟩
end

section
open Go.RowKit
attribute [local go_sem] Oper.semAt_some
/-- All blocks ahead of n₀, and all blocks of cells, are kept, but those of S. -/
def KpS (n₀ : Nat) (S : Nat → Prop) (A B : World) : Prop := A.heap.size ≤ B.heap.size ∧ B.os = A.os ∧ B.tape = A.tape ∧ B.output = A.output ∧ ∀ (k : Nat) (o : Obj), A.heap[k]? = some o → (k < n₀ ∨ o.isCells = true) → ¬ S k → B.heap[k]? = some o
section
variable {n₀ : Nat} {S : Nat → Prop} {A B C : World}
theorem KpS.refl (n₀ : Nat) (S : Nat → Prop) (A : World) : KpS n₀ S A A := ⟨Nat.le_refl _, rfl, rfl, rfl, fun _ _ h _ _ => h⟩
theorem KpS.trans (h : KpS n₀ S A B) (k : KpS n₀ S B C) : KpS n₀ S A C := ⟨Nat.le_trans h.1 k.1, k.2.1.trans h.2.1, k.2.2.1.trans h.2.2.1, k.2.2.2.1.trans h.2.2.2.1, fun i o h0 h1 h2 => k.2.2.2.2 i o (h.2.2.2.2 i o h0 h1 h2) h1 h2⟩
theorem KpS.of_below (h : Below A.heap.size A B) : KpS n₀ S A B := ⟨h.size, h.os, h.tape, h.output, fun i _ h0 _ _ => (h.block i (Array.getElem?_eq_some_iff.1 h0).1).trans h0⟩
theorem KpS.of_put {l : Nat} {o : Obj} (hl : n₀ ≤ l) (h : A.heap[l]? = some o) (hc : o.isCells = false) (o' : Obj) : KpS n₀ S A (A.putObj l o') :=
  ⟨by simp, rfl, rfl, rfl, fun i x h0 h1 _ => (World.putObj_heap_other (by
    rintro rfl
    rcases h1 with h1 | h1
    · omega
    · rw [h] at h0; cases h0; rw [hc] at h1; cases h1)).trans h0⟩
theorem KpS.of_grown {row : Option Nat} (h : A.grownBy B row) (hr : ∀ q, row = some q → S q) : KpS n₀ S A B := ⟨h.size, h.os, h.tape, h.output, fun i _ h0 _ h2 => (h.block i (Array.getElem?_eq_some_iff.1 h0).1 (fun e => h2 (hr i e.symm))).trans h0⟩
theorem KpS.block (h : KpS n₀ S A B) {k : Nat} {o : Obj} (h0 : A.heap[k]? = some o) (hc : o.isCells = true) (h2 : ¬ S k) : B.heap[k]? = some o := h.2.2.2.2 k o h0 (.inr hc) h2
theorem KpS.cell (h : KpS n₀ S A B) {p : Addr} {v : Value} (hc : A.cell? p = some v) (h2 : ¬ S p.block) : B.cell? p = some v := by
  unfold World.cell? at hc ⊢
  cases h0 : A.heap[p.block]? with
  | none => rw [h0] at hc; cases hc
  | some o =>
    rw [h0] at hc
    cases o with
    | cells c e f => rw [h.block h0 rfl h2]; exact hc
    | _ => cases hc
theorem KpS.below {b : Nat} (h : KpS n₀ S A B) (hb : b ≤ n₀) (hA : b ≤ A.heap.size) (h2 : ∀ k, k < b → ¬ S k) : Below b A B := ⟨h.2.1, h.2.2.1, h.2.2.2.1, h.1, fun k hk => by
  obtain ⟨o, ho⟩ : ∃ o, A.heap[k]? = some o := ⟨_, Array.getElem?_eq_getElem (by omega)⟩
  rw [h.2.2.2.2 k o ho (.inl (by omega)) (h2 k hk), ho]⟩
theorem KpS.less {n₁ : Nat} (h : KpS n₀ S A B) (hn : n₁ ≤ n₀) : KpS n₁ S A B := ⟨h.1, h.2.1, h.2.2.1, h.2.2.2.1, fun k o h0 h1 h2 => h.2.2.2.2 k o h0 (h1.imp (by omega) id) h2⟩
theorem KpS.more {S' : Nat → Prop} (h : KpS n₀ S A B) (hS : ∀ k, S k → S' k) : KpS n₀ S' A B := ⟨h.1, h.2.1, h.2.2.1, h.2.2.2.1, fun k o h0 h1 h2 => h.2.2.2.2 k o h0 h1 fun hs => h2 (hS k hs)⟩
end
/-- What each reads: its box of the rack (q), the row (q + 1), the range (q + 2). -/
structure EaSt (W : World) (q : Nat) (r : Rk) (A : Option Addr) (c pins row : Nat) (lo hi : Int) : Prop where
  h0 : W.cell? ⟨q, 0, none⟩ = some (.int .i64 r.rows)
  h1 : W.cell? ⟨q, 1, none⟩ = some (.int .i64 r.mid)
  h2 : W.cell? ⟨q, 2, none⟩ = some (.int .i64 r.gap)
  h3 : W.cell? ⟨q, 3, none⟩ = some (.int .i64 r.reach)
  h4 : W.cell? ⟨q, 4, none⟩ = some (.slice A r.links.length c)
  h5 : W.cell? ⟨q, 5, none⟩ = some (.int .u16 (pins : Int))
  rw : W.cell? ⟨q + 1, 0, none⟩ = some (.int .i64 (row : Int))
  lo : W.cell? ⟨q + 2, 0, none⟩ = some (.int .i64 lo)
  hi : W.cell? ⟨q + 2, 1, none⟩ = some (.int .i64 hi)
theorem EaSt.below {W W' : World} {q : Nat} {r : Rk} {A : Option Addr} {c pins row : Nat} {lo hi : Int} (h : EaSt W q r A c pins row lo hi) (hb : Below W.heap.size W W') : EaSt W' q r A c pins row lo hi :=
  ⟨cell_of_ans hb h.h0, cell_of_ans hb h.h1, cell_of_ans hb h.h2, cell_of_ans hb h.h3, cell_of_ans hb h.h4, cell_of_ans hb h.h5, cell_of_ans hb h.rw, cell_of_ans hb h.lo, cell_of_ans hb h.hi⟩
theorem EaSt.kept {W W' : World} {q : Nat} {r : Rk} {A : Option Addr} {c pins row : Nat} {lo hi : Int} {n₀ : Nat} {S : Nat → Prop} (h : EaSt W q r A c pins row lo hi) (hk : KpS n₀ S W W') (hS : ¬ S q ∧ ¬ S (q + 1) ∧ ¬ S (q + 2)) : EaSt W' q r A c pins row lo hi :=
  ⟨hk.cell h.h0 hS.1, hk.cell h.h1 hS.1, hk.cell h.h2 hS.1, hk.cell h.h3 hS.1, hk.cell h.h4 hS.1, hk.cell h.h5 hS.1, hk.cell h.rw hS.2.1, hk.cell h.lo hS.2.2, hk.cell h.hi hS.2.2⟩
/-- One of the sets of pins of a row that a ball can reach. -/
def EaX (r : Rk) (pins row : Nat) (lo hi : Int) : Type := {x : Nat // ∃ n : Int, lo ≤ n ∧ n ≤ hi ∧ x = touchS r pins row n}
noncomputable def eachL (r : Rk) (pins row : Nat) (lo hi : Int) : Nat → List (EaX r pins row lo hi)
  | 0 => []
  | k + 1 => if h : lo + (k : Int) ≤ hi then eachL r pins row lo hi k ++ [⟨touchS r pins row (lo + (k : Int)), lo + (k : Int), by omega, h, rfl⟩] else eachL r pins row lo hi k
theorem eachL_succ (r : Rk) (pins row : Nat) (lo hi : Int) (k : Nat) (h : lo + (k : Int) ≤ hi) : eachL r pins row lo hi (k + 1) = eachL r pins row lo hi k ++ [⟨touchS r pins row (lo + (k : Int)), lo + (k : Int), by omega, h, rfl⟩] := by rw [eachL, dif_pos h]
theorem eachL_len (r : Rk) (pins row : Nat) (lo hi : Int) : ∀ k : Nat, (eachL r pins row lo hi k).length ≤ k
  | 0 => Nat.le_refl _
  | k + 1 => by
    have := eachL_len r pins row lo hi k
    rw [eachL]; split
    · rw [List.length_append]; exact Nat.succ_le_succ this
    · omega
theorem mem_eachL {r : Rk} {pins row : Nat} {lo hi n : Int} (h1 : lo ≤ n) (h2 : n ≤ hi) : ∀ {k : Nat}, n < lo + (k : Int) → ∃ x ∈ eachL r pins row lo hi k, x.1 = touchS r pins row n
  | 0, h => by omega
  | k + 1, h => by
    by_cases e : n = lo + (k : Int)
    · rw [eachL_succ r pins row lo hi k (by omega)]
      exact ⟨_, List.mem_append_right _ (List.mem_singleton.2 rfl), congrArg (touchS r pins row) e.symm⟩
    · obtain ⟨x, hx, hv⟩ := mem_eachL (r := r) (pins := pins) (row := row) h1 h2 (k := k) (by omega)
      refine ⟨x, ?_, hv⟩
      rw [eachL]; split
      · exact List.mem_append_left _ hx
      · exact hx
def sEnc {r : Rk} {pins row : Nat} {lo hi : Int} (x : EaX r pins row lo hi) : Array Value := #[.int .u16 (x.1 : Int)]
set_option maxHeartbeats 400000 in
theorem each_c (r : Rk) (A : Option Addr) (c pins row : Nat) (lo hi : Int) (w : World) :
    Calls Try.prog 116 #[.agg #[.int .i64 r.rows, .int .i64 r.mid, .int .i64 r.gap, .int .i64 r.reach, .slice A r.links.length c, .int .u16 (pins : Int)], .int .i64 (row : Int), .agg #[.int .i64 lo, .int .i64 hi]] w fun e w' => e = .returned (.func (.func 155) #[] #[.pointer (some ⟨w.heap.size + 2, 0, none⟩), .pointer (some ⟨w.heap.size, 0, none⟩), .pointer (some ⟨w.heap.size + 1, 0, none⟩)]) ∧
      Below w.heap.size w w' ∧ w'.heap.size = w.heap.size + 3 ∧ EaSt w' w.heap.size r A c pins row lo hi := by
  have HE : Hid (EaSt (((w.alloc (.cells #[.int .i64 r.rows, .int .i64 r.mid, .int .i64 r.gap, .int .i64 r.reach, .slice A r.links.length c, .int .u16 (pins : Int)] 158)).alloc (.cells #[.int .i64 (row : Int)] 3)).alloc (.cells #[.int .i64 lo, .int .i64 hi] 64)) w.heap.size r A c pins row lo hi) := ⟨by go_simp, by go_simp, by go_simp, by go_simp, by go_simp, by go_simp, by go_simp, by go_simp, by go_simp⟩
  have HB : Hid (Below w.heap.size w (((w.alloc (.cells #[.int .i64 r.rows, .int .i64 r.mid, .int .i64 r.gap, .int .i64 r.reach, .slice A r.links.length c, .int .u16 (pins : Int)] 158)).alloc (.cells #[.int .i64 (row : Int)] 3)).alloc (.cells #[.int .i64 lo, .int .i64 hi] 64))) := (((Below.refl _ _).alloc (Nat.le_refl _) _).alloc (by simp) _).alloc (by simp; omega) _
  go_enter Try.func116, Try.ntmps116
  go_wp2
  go_ret
  exact ⟨rfl, HB.out, by simp, HE.out⟩
set_option maxRecDepth 100000 in
set_option maxHeartbeats 4000000 in
theorem each1_in (n l q : Nat) (r : Rk) (A : Option Addr) (c pins row : Nat) (lo hi : Int) (n₀ : Nat) (hr : Ok r) (hp : pins < 2 ^ 10) (hlo : 0 ≤ lo) (hlh : lo ≤ hi) (hhi : hi ≤ 60) (Kp : World → World → Prop) (hKt : ∀ {A B C : World}, Kp A B → Kp B C → Kp A C) (hKb : ∀ A B : World, n₀ ≤ A.heap.size → Below A.heap.size A B → Kp A B) (hKz : ∀ A B : World, Kp A B → A.heap.size ≤ B.heap.size)
    (hKc : ∀ W W', Kp W W' → EaSt W q r A c pins row lo hi → EaSt W' q r A c pins row lo hi) (J Jx : List (EaX r pins row lo hi) → World → Prop) (hJb : ∀ pre W W', J pre W → Below W.heap.size W W' → J pre W')
    (hY : ∀ pre x W, J pre W → pre.length < 100 → YieldAt Fence.wide (n - 1) Try.prog l (sEnc x) W fun e W' =>
      (e = .returned (.bool true) ∧ J (pre ++ [x]) W' ∧ Kp W W') ∨ (e = .returned (.bool false) ∧ Jx (pre ++ [x]) W'))
    (W : World) (hn : n₀ ≤ W.heap.size) (hS : EaSt W q r A c pins row lo hi) (h0 : J [] W) :
    CallsIn Fence.wide n Try.prog 155 #[.func (.yield l) #[] #[], .pointer (some ⟨q + 2, 0, none⟩), .pointer (some ⟨q, 0, none⟩), .pointer (some ⟨q + 1, 0, none⟩)] W fun e W' => (∃ v, e = .returned v) ∧
      ((∃ ys, ys = eachL r pins row lo hi (hi - lo + 1).toNat ∧ J ys W') ∨ (∃ pre, True ∧ Jx pre W')) := by
  refine callsIn_of_wp Try.func155 rfl trivial ?_ rfl
  simp only [Try.ntmps155, List.size_toArray, List.length_cons, List.length_nil, Nat.reduceAdd, Nat.reduceSub, Array.replicate_succ, Array.replicate_zero, List.push_toArray, List.append_toArray, List.nil_append, List.cons_append]
  have HS := Lib.hid hS
  have s7 := hS.lo
  clear hS
  gi_wp2
  gi_loopw [5] (fun i wr => ∃ k : Nat, lo + (k : Int) ≤ hi + 1 ∧ i = .int .i64 (lo + (k : Int)) ∧ J (eachL r pins row lo hi k) wr ∧ Kp W wr)
    (fun i _ => (hi + 1 - intOf i).toNat)
  case atStart => exact ⟨0, by omega, by simp, h0, hKb _ _ hn (Below.refl _ _)⟩
  case round =>
    obtain ⟨k, hk, rfl, hJ, hK⟩ := hrel
    have HJ := Lib.hid hJ
    have HK := Lib.hid hK
    have hS1 := hKc _ _ hK HS.out
    have hnr : n₀ ≤ wr.heap.size := Nat.le_trans hn (hKz _ _ hK)
    clear hJ hK s7
    obtain ⟨s0, s1, s2, s3, s4, s5, s6, s7, s8⟩ := hS1
    by_cases hk1 : lo + (k : Int) ≤ hi
    · have HL := Lib.hid (eachL_succ r pins row lo hi k hk1)
      have HT := Lib.hid (touched_c r A c pins row (lo + (k : Int)) wr hr hp (by omega) (by omega))
      have hlen := eachL_len r pins row lo hi k
      have hk100 : k < 100 := by omega
      have hw : IntKind.i64.wrap (lo + (k : Int) + 1) = lo + (k : Int) + 1 := IntWalk.i64_in _ (by omega)
      have HNX : Hid (lo + (k : Int) + 1 = lo + ((k + 1 : Nat) : Int)) := by show _ = _; omega
      obtain ⟨ex, hex⟩ : ∃ ex : EaX r pins row lo hi, ex = ⟨touchS r pins row (lo + (k : Int)), lo + (k : Int), by omega, hk1, rfl⟩ := ⟨_, rfl⟩
      rw [← hex] at HL
      have hexv : touchS r pins row (lo + (k : Int)) = ex.1 := by rw [hex]
      rw [hexv] at HT
      clear hex hexv
      generalize eachL r pins row lo hi k = pre at *
      generalize hz : lo + (k : Int) = z at *
      have HZ := Lib.hid hz
      clear hz
      gi_wp2
      refine ⟨trivial, fun h => by simp [Fence.wide] at h, (callsIn_wide.2 HT.out).mono ?_⟩
      rintro e w1 ⟨rfl, hb1⟩
      have HB1 := Lib.hid hb1
      obtain ⟨fn, tmps, assign, body, hy, hR⟩ := hY _ ex w1 (hJb _ _ _ HJ.out HB1.out) (by omega)
      unfold sEnc at hy
      have HR := Lib.hid hR
      clear hR hb1
      gi_wp2
      refine ⟨fun h => by simp [Fence.wide] at h, ?_⟩
      refine HR.out.mono ?_
      rintro e W3 (⟨rfl, hJ3, hk3⟩ | ⟨rfl, hJx3⟩)
      · have HJ3 := Lib.hid hJ3
        have HK3 := Lib.hid hk3
        clear hJ3 hk3
        gi_wp2
        refine ⟨⟨k + 1, by have := HZ.out; omega, by rw [← HNX.out], ?_, ?_⟩, by simp [intOf]; omega⟩
        · rw [HL.out]
          exact HJ3.out
        · exact hKt (hKt HK.out (hKb _ _ hnr HB1.out)) HK3.out
      · have HJX := Lib.hid hJx3
        clear hJx3
        gi_wp2
        try simp +zetaDelta only [Exit.noGoto_ret, Exit.inBlock, Exit.then]
        refine bodyPost_ret (results_none rfl _ _ _) rfl ?_
        exact ⟨⟨_, rfl⟩, .inr ⟨_, trivial, HJX.out⟩⟩
    · have hke : k = (hi - lo + 1).toNat := by omega
      gi_wp2
      refine bodyPost_end (v := .tuple #[]) (results_none rfl _ _ _) rfl ?_
      have hj := HJ.out
      rw [hke] at hj
      exact ⟨⟨_, rfl⟩, .inl (by first | exact ⟨_, rfl, hj⟩ | exact hj)⟩
theorem each_stops (n q : Nat) (r : Rk) (A : Option Addr) (c pins row : Nat) (lo hi : Int) (n₀ : Nat) (hr : Ok r) (hp : pins < 2 ^ 10) (hlo : 0 ≤ lo) (hlh : lo ≤ hi) (hhi : hi ≤ 60) (Kp : World → World → Prop) (hKt : ∀ {A B C : World}, Kp A B → Kp B C → Kp A C) (hKb : ∀ A B : World, n₀ ≤ A.heap.size → Below A.heap.size A B → Kp A B) (hKz : ∀ A B : World, Kp A B → A.heap.size ≤ B.heap.size)
    (hKc : ∀ W W', Kp W W' → EaSt W q r A c pins row lo hi → EaSt W' q r A c pins row lo hi) (w : World) (hn : n₀ ≤ w.heap.size) (hS : EaSt w q r A c pins row lo hi) :
    SeqStopsK Fence.wide n Try.prog 155 #[.pointer (some ⟨q + 2, 0, none⟩), .pointer (some ⟨q, 0, none⟩), .pointer (some ⟨q + 1, 0, none⟩)] sEnc Kp (fun ys => ys = eachL r pins row lo hi (hi - lo + 1).toNat) (fun _ => True) 100 w :=
  fun l J Jx W hW hJ _ hY h0 => each1_in n l q r A c pins row lo hi n₀ hr hp hlo hlh hhi Kp hKt hKb hKz hKc J Jx (fun pre W W' h hb => hJ pre W W' none h (only_below hb none) (fun _ e => by cases e)) hY W (Nat.le_trans hn hW.size) (hS.below hW) h0
end

section
open Go.RowKit
attribute [local go_sem] Oper.semAt_some
theorem KpS.of_own {n₀ : Nat} {S : Nat → Prop} {A B : World} {row : Option Nat} (h : A.grownBy B row) (hr : ∀ q, row = some q → n₀ ≤ q ∧ ∃ o : Obj, A.heap[q]? = some o ∧ o.isCells = false) : KpS n₀ S A B :=
  ⟨h.size, h.os, h.tape, h.output, fun i x h0 h1 _ => (h.block i (Array.getElem?_eq_some_iff.1 h0).1 (fun e => by
    obtain ⟨h2, o, ho, hc⟩ := hr i e.symm
    rcases h1 with h1 | h1
    · omega
    · rw [ho] at h0; cases h0; rw [hc] at h1; cases h1)).trans h0⟩
end

section
open Go.RowKit
theorem pinS_pn {r : Rk} {xs : List Int} (h : pinErr r xs = 0) (z : Nat) (hz : (pinS r xs).testBit z = true) : z < pn r.rows := by
  unfold pinS at hz
  rw [if_pos h, mem_ofS] at hz
  exact (pins_nats h).2.2 z hz
end

section
open Go.RowKit
def At2 (W : World) (q t : Nat) (a b : Int) : Prop := W.heap[q]? = some (.cells #[.int .i64 a, .int .i64 b] t)
theorem At2.lt {W : World} {q t : Nat} {a b : Int} (h : At2 W q t a b) : q < W.heap.size := (Array.getElem?_eq_some_iff.1 h).1
theorem At2.step {W W' : World} {q t : Nat} {a b : Int} (h : At2 W q t a b) (hb : Below W.heap.size W W') : At2 W' q t a b := (hb.block q h.lt).trans h
theorem At2.cells {W : World} {q t : Nat} {a b : Int} (h : At2 W q t a b) : (W.cell? ⟨q, 0, none⟩ = some (.int .i64 a) ∧ W.cell? ⟨q, 1, none⟩ = some (.int .i64 b)) ∧ ∀ i, W.frozen? ⟨q, i, none⟩ = false := by
  unfold At2 at h
  simp [World.cell?, World.frozen?, h]
theorem At2.set {W : World} {q t : Nat} {a b : Int} (h : At2 W q t a b) (c d : Int) : At2 ((W.setCell ⟨q, 0, none⟩ (.int .i64 c)).setCell ⟨q, 1, none⟩ (.int .i64 d)) q t c d := by
  unfold At2 at h ⊢
  simp [World.setCell, Array.getElem?_modify, h]
theorem At2.far {W : World} {q q' t i : Nat} {a b : Int} (h : At2 W q t a b) (hne : q ≠ q') (v : Value) : At2 (W.setCell ⟨q', i, none⟩ v) q t a b := (Below.heap_setCell W _ v q hne).trans h
end

section
/-- The sets of pins of row k that the ball can reach. -/
noncomputable def rowL (r : Rk) (pins : Nat) (ball : List Rg) (k : Nat) : List Nat := (eachL r pins k (gx ball k).lo (gx ball k).hi ((gx ball k).hi - (gx ball k).lo + 1).toNat).map Subtype.val
theorem mem_rowL {r : Rk} {pins : Nat} {ball : List Rg} {k x : Nat} : x ∈ rowL r pins ball k ↔ ∃ n, (gx ball k).lo ≤ n ∧ n ≤ (gx ball k).hi ∧ x = touchS r pins k n := by
  constructor
  · intro hx
    obtain ⟨y, _, rfl⟩ := List.mem_map.1 hx
    exact y.2
  · rintro ⟨n, h1, h2, rfl⟩
    obtain ⟨y, hy, hv⟩ := mem_eachL (r := r) (pins := pins) (row := k) h1 h2 (k := ((gx ball k).hi - (gx ball k).lo + 1).toNat) (by omega)
    exact List.mem_map.2 ⟨y, hy, hv⟩
/-- A ball that is one has ranges. -/
theorem ballB_ok {rows : Int} {ball : List Rg} (h : ballB rows ball = true) : (ball.length : Int) = rows ∧ Ranges ball ∧ ∀ k, k < ball.length → 0 ≤ (gx ball k).lo ∧ (gx ball k).lo ≤ (gx ball k).hi ∧ (gx ball k).hi ≤ 60 ∧ (gx ball k).hi - (gx ball k).lo ≤ 8 := by
  unfold ballB at h
  rw [Bool.and_eq_true, decide_eq_true_eq, allB_iff] at h
  have h2 : ∀ k, k < ball.length → 0 ≤ (gx ball k).lo ∧ (gx ball k).lo ≤ (gx ball k).hi ∧ (gx ball k).hi ≤ 60 ∧ (gx ball k).hi - (gx ball k).lo ≤ 8 := fun k hk => by
    have := h.2 k hk
    simp only [rangeB, Bool.and_eq_true, inB_eq, decide_eq_true_eq] at this
    omega
  exact ⟨h.1, fun k hk => (h2 k hk).2.1, h2⟩
end

section
def someC (ls : List Lk) (bits i : Nat) : Bool := (lx ls i).s || bits.testBit i
noncomputable def idleB (ls : List Lk) (bits : Nat) : Bool := allB ls.length fun i => !((lx ls i).s && bits.testBit i)
/-- What is left of the pins, if some are reached. -/
noncomputable def restS (r : Rk) (pins : Nat) (c : Nat → Bool) (t : Nat) : Nat := bitsP (fun p => pins.testBit p = true ∧ (fallS r.links c pins t).testBit p = false) 10
theorem restS_lt {r : Rk} {pins t : Nat} {c : Nat → Bool} : restS r pins c t < 2 ^ 10 := bitsP_lt _ _
theorem leftS_rest (r : Rk) (pins : Nat) (b : Nat → Int) (c : Nat → Bool) : leftS r pins b c = restS r pins c (touchedS r pins b r.rows.toNat) := rfl
theorem rest_is {r : Rk} {pins t : Nat} {c : Nat → Bool} (hp : pins < 2 ^ 10) (ht : t < 2 ^ 10) : pins &&& (65535 - fallS r.links c pins t) = restS r pins c t := by
  have hf : fallS r.links c pins t < 2 ^ 10 := fallS_lt ht hp
  refine set_ext (n := 10) (Nat.lt_of_le_of_lt Nat.and_le_left hp) restS_lt fun p h10 => ?_
  rw [restS, mem_bitsP, Nat.testBit_and, Bool.and_eq_true]
  have : (65535 - fallS r.links c pins t).testBit p = !(fallS r.links c pins t).testBit p := by
    rw [show 65535 - fallS r.links c pins t = 2 ^ 16 - (fallS r.links c pins t + 1) by omega, Nat.testBit_two_pow_sub_succ (by omega)]
    simp [show p < 16 by omega]
  rw [this]
  simp [h10]
/-- A leave that there can be, m rows ahead of the end, if some pins are reached. -/
def LvF (r : Rk) (pins : Nat) (ball : List Rg) : Nat → Nat → Nat → Prop
  | 0, t, u => ∃ bits, bits < 2 ^ r.links.length ∧ idleB r.links bits = true ∧ u = restS r pins (someC r.links bits) t
  | m + 1, t, u => ∃ n, (gx ball (ball.length - (m + 1))).lo ≤ n ∧ n ≤ (gx ball (ball.length - (m + 1))).hi ∧ LvF r pins ball m (t ||| touchS r pins (ball.length - (m + 1)) n) u
theorem restS_congr {r : Rk} {pins t : Nat} {c d : Nat → Bool} (h : ∀ i, i < r.links.length → c i = d i) : restS r pins c t = restS r pins d t := by
  unfold restS; rw [fallS_congr h]
theorem lvF_iff {r : Rk} {pins : Nat} {ball : List Rg} (hl : ball.length = r.rows.toNat) : ∀ m, m ≤ ball.length → ∀ b0 : Nat → Int, (∀ k, k < ball.length - m → (gx ball k).lo ≤ b0 k ∧ b0 k ≤ (gx ball k).hi) → ∀ u,
    LvF r pins ball m (touchedS r pins b0 (ball.length - m)) u ↔ ∃ b c, (∀ k, k < ball.length - m → b k = b0 k) ∧ Within ball b ∧ Carry r.links c ∧ u = leftS r pins b c := by
  intro m
  induction m with
  | zero =>
    intro _ b0 hb0 u
    rw [Nat.sub_zero] at hb0 ⊢
    constructor
    · rintro ⟨bits, _, h2, rfl⟩
      refine ⟨b0, someC r.links bits, fun _ _ => rfl, hb0, fun i _ hs => by simp [someC, hs], ?_⟩
      rw [leftS_rest, hl]
    · rintro ⟨b, c, hb, _, hc, rfl⟩
      refine ⟨bitsP (fun i => c i = true ∧ (lx r.links i).s = false) r.links.length, bitsP_lt _ _, ?_, ?_⟩
      · rw [idleB, allB_iff]
        intro i hi
        cases hs : (lx r.links i).s
        · simp [hs]
        · have : ¬ (bitsP (fun i => c i = true ∧ (lx r.links i).s = false) r.links.length).testBit i = true := by
            rw [mem_bitsP]; rintro ⟨_, _, h⟩; rw [hs] at h; cases h
          simp [this]
      · rw [leftS_rest, ← hl, touchedS_congr hb]
        refine restS_congr fun i hi => ?_
        rw [someC]
        cases hs : (lx r.links i).s
        · rw [Bool.false_or, testBit_bitsP]
          simp [hi, hs]
        · simp [hc i hi hs]
  | succ m ih =>
    intro hm b0 hb0 u
    have e1 : ball.length - m = ball.length - (m + 1) + 1 := by omega
    constructor
    · rintro ⟨n, h1, h2, h⟩
      have hc : touchedS r pins b0 (ball.length - (m + 1)) ||| touchS r pins (ball.length - (m + 1)) n = touchedS r pins (fun k => if k = ball.length - (m + 1) then n else b0 k) (ball.length - m) := by
        rw [e1, touchedS, if_pos rfl]
        congr 1
        exact touchedS_congr fun k hk => by rw [if_neg (by omega)]
      rw [hc] at h
      obtain ⟨b, c, hb, h3, h4, h5⟩ := (ih (by omega) _ (fun k hk => by
        by_cases e : k = ball.length - (m + 1)
        · subst e; simp [h1, h2]
        · simp only [e, if_false]; exact hb0 k (by omega)) u).1 h
      exact ⟨b, c, fun k hk => (hb k (by omega)).trans (if_neg (by omega)), h3, h4, h5⟩
    · rintro ⟨b, c, hb, h3, h4, h5⟩
      refine ⟨b (ball.length - (m + 1)), (h3 _ (by omega)).1, (h3 _ (by omega)).2, ?_⟩
      have hc : touchedS r pins b0 (ball.length - (m + 1)) ||| touchS r pins (ball.length - (m + 1)) (b (ball.length - (m + 1))) = touchedS r pins b (ball.length - m) := by
        rw [e1, touchedS]
        congr 1
        exact touchedS_congr fun k hk => (hb k hk).symm
      rw [hc]
      exact (ih (by omega) b (fun k hk => h3 k (by omega)) u).2 ⟨b, c, fun _ _ => rfl, h3, h4, h5⟩
theorem leaves_iff {r : Rk} {pins : Nat} {ball : List Rg} (hl : ball.length = r.rows.toNat) (u : Nat) : LvF r pins ball ball.length 0 u ↔ LeaveP r pins ball u := by
  have := lvF_iff (r := r) (pins := pins) (ball := ball) hl ball.length (Nat.le_refl _) (fun _ => 0) (fun k hk => by omega) u
  rw [Nat.sub_self] at this
  rw [show touchedS r pins (fun _ => (0 : Int)) 0 = 0 from rfl] at this
  rw [this]
  exact ⟨fun ⟨b, c, _, h⟩ => ⟨b, c, h⟩, fun ⟨b, c, h⟩ => ⟨b, c, fun k hk => by omega, h⟩⟩
/-- What is known of seen states, and of leaves that are out, m rows ahead of the end. -/
def FInv (r : Rk) (pins : Nat) (ball : List Rg) (m : Nat) (S : Nat → Nat → Bool) (O : Nat → Bool) : Prop := ∀ k t, S k t = true → ball.length - m ≤ k → ∀ u, LvF r pins ball (ball.length - k) t u → O u = true
structure FPost (r : Rk) (pins : Nat) (ball : List Rg) (m t : Nat) (S : Nat → Nat → Bool) (O : Nat → Bool) (S' : Nat → Nat → Bool) (O' : Nat → Bool) : Prop where
  inv : FInv r pins ball m S' O'
  old : ∀ u, O u = true → O' u = true
  new : ∀ u, O' u = true → O u = true ∨ LvF r pins ball m t u
  all : ∀ u, LvF r pins ball m t u → O' u = true
  far : ∀ k t, k < ball.length - m → S' k t = S k t
def updS (S : Nat → Nat → Bool) (k t : Nat) : Nat → Nat → Bool := fun k' t' => if k' = k ∧ t' = t then true else S k' t'
def updO (O : Nat → Bool) (u : Nat) : Nat → Bool := fun u' => if u' = u then true else O u'
section
variable {r : Rk} {pins : Nat} {ball : List Rg} {m t : Nat} {S S' : Nat → Nat → Bool} {O O' : Nat → Bool}
theorem FPost.seen (hm : m ≤ ball.length) (h : FInv r pins ball m S O) (hs : S (ball.length - m) t = true) : FPost r pins ball m t S O S O :=
  ⟨h, fun _ h => h, fun _ h => .inl h, fun u hu => h _ t hs (Nat.le_refl _) u (by rw [show ball.length - (ball.length - m) = m by omega]; exact hu), fun _ _ _ => rfl⟩
/-- Within the rounds over the sets of a row. -/
structure FMid (r : Rk) (pins : Nat) (ball : List Rg) (m t : Nat) (S : Nat → Nat → Bool) (O : Nat → Bool) (pre : List Nat) (S' : Nat → Nat → Bool) (O' : Nat → Bool) : Prop where
  inv : FInv r pins ball m S' O'
  old : ∀ u, O u = true → O' u = true
  new : ∀ u, O' u = true → O u = true ∨ LvF r pins ball (m + 1) t u
  all : ∀ x ∈ pre, ∀ u, LvF r pins ball m (t ||| x) u → O' u = true
  far : ∀ k t', k < ball.length - m → S' k t' = updS S (ball.length - (m + 1)) t k t'
theorem FMid.start (hm : m + 1 ≤ ball.length) (h : FInv r pins ball (m + 1) S O) : FMid r pins ball m t S O [] (updS S (ball.length - (m + 1)) t) O :=
  ⟨fun k t' hs hk => by
    rw [updS, if_neg (by omega)] at hs
    exact h k t' hs (by omega), fun _ h => h, fun _ h => .inl h, fun x hx => (by cases hx), fun _ _ _ => rfl⟩
theorem FMid.step {pre : List Nat} {n : Int} (hm : m + 1 ≤ ball.length) (h : FMid r pins ball m t S O pre S' O') (h1 : (gx ball (ball.length - (m + 1))).lo ≤ n) (h2 : n ≤ (gx ball (ball.length - (m + 1))).hi) {S'' : Nat → Nat → Bool} {O'' : Nat → Bool}
    (hp : FPost r pins ball m (t ||| touchS r pins (ball.length - (m + 1)) n) S' O' S'' O'') : FMid r pins ball m t S O (pre ++ [touchS r pins (ball.length - (m + 1)) n]) S'' O'' := by
  refine ⟨hp.inv, fun u hu => hp.old u (h.old u hu), fun u hu => ?_, fun x hx u hu => ?_, fun k t' hk => (hp.far k t' hk).trans (h.far k t' hk)⟩
  · rcases hp.new u hu with h3 | h3
    · exact h.new u h3
    · exact .inr ⟨n, h1, h2, h3⟩
  · rcases List.mem_append.1 hx with hx | hx
    · exact hp.old u (h.all x hx u hu)
    · rw [List.mem_singleton.1 hx] at hu
      exact hp.all u hu
theorem FMid.done (hm : m + 1 ≤ ball.length) (h0 : FInv r pins ball (m + 1) S O) (h : FMid r pins ball m t S O (rowL r pins ball (ball.length - (m + 1))) S' O') : FPost r pins ball (m + 1) t S O S' O' := by
  have hall : ∀ u, LvF r pins ball (m + 1) t u → O' u = true := by
    rintro u ⟨n, h1, h2, h3⟩
    exact h.all _ (mem_rowL.2 ⟨n, h1, h2, rfl⟩) u h3
  refine ⟨fun k t' hs hk u hu => ?_, h.old, h.new, hall, fun k t' hk => ?_⟩
  · by_cases hk2 : ball.length - m ≤ k
    · exact h.inv k t' hs hk2 u hu
    · rw [h.far k t' (by omega), updS] at hs
      by_cases e : k = ball.length - (m + 1) ∧ t' = t
      · obtain ⟨e1, rfl⟩ := e
        refine hall u ?_
        rwa [show ball.length - k = m + 1 by omega] at hu
      · rw [if_neg e] at hs
        exact h.old u (h0 k t' hs hk u hu)
  · rw [h.far k t' (by omega), updS, if_neg (by omega)]
/-- Within the rounds over what links can do, at the end. -/
structure FEnd (r : Rk) (pins t : Nat) (O : Nat → Bool) (k : Nat) (O' : Nat → Bool) : Prop where
  old : ∀ u, O u = true → O' u = true
  new : ∀ u, O' u = true → O u = true ∨ ∃ bits, bits < k ∧ idleB r.links bits = true ∧ u = restS r pins (someC r.links bits) t
  all : ∀ bits, bits < k → idleB r.links bits = true → O' (restS r pins (someC r.links bits) t) = true
theorem FEnd.start : FEnd r pins t O 0 O := ⟨fun _ h => h, fun _ h => .inl h, fun b hb => by omega⟩
theorem FEnd.skip {k : Nat} (h : FEnd r pins t O k O') (hi : idleB r.links k = false) : FEnd r pins t O (k + 1) O' :=
  ⟨h.old, fun u hu => (h.new u hu).imp id (fun ⟨b, h1, h2⟩ => ⟨b, by omega, h2⟩), fun b hb hi' => by
    by_cases e : b = k
    · subst e; rw [hi] at hi'; cases hi'
    · exact h.all b (by omega) hi'⟩
theorem FEnd.take {k : Nat} (h : FEnd r pins t O k O') (hi : idleB r.links k = true) : FEnd r pins t O (k + 1) (updO O' (restS r pins (someC r.links k) t)) := by
  refine ⟨fun u hu => ?_, fun u hu => ?_, fun b hb hi' => ?_⟩
  · rw [updO]; split
    · rfl
    · exact h.old u hu
  · by_cases e : u = restS r pins (someC r.links k) t
    · exact .inr ⟨k, by omega, hi, e⟩
    · rw [updO, if_neg e] at hu
      exact (h.new u hu).imp id (fun ⟨b, h1, h2⟩ => ⟨b, by omega, h2⟩)
  · rw [updO]; split
    · rfl
    · next hne =>
      refine h.all b ?_ hi'
      rcases Nat.lt_or_ge b k with h1 | h1
      · exact h1
      · exact absurd (by rw [show b = k by omega]) hne
theorem FEnd.done (h0 : FInv r pins ball 0 S O) (h : FEnd r pins t O (2 ^ r.links.length) O') : FPost r pins ball 0 t S O (updS S ball.length t) O' := by
  have hall : ∀ u, LvF r pins ball 0 t u → O' u = true := by
    rintro u ⟨b, h1, h2, rfl⟩
    exact h.all b h1 h2
  refine ⟨fun k t' hs hk u hu => ?_, h.old, h.new, hall, fun k t' hk => ?_⟩
  · rw [updS] at hs
    by_cases e : k = ball.length ∧ t' = t
    · obtain ⟨rfl, rfl⟩ := e
      refine hall u ?_
      rwa [Nat.sub_self] at hu
    · rw [if_neg e] at hs
      exact h.old u (h0 k t' hs hk u hu)
  · rw [updS, if_neg (by omega)]
end
/-- How many states, and leaves, are told at most. -/
def costN : Nat → Nat
  | 0 => 1
  | m + 1 => 1 + 100 * costN m
theorem costN_le : ∀ {m : Nat}, m ≤ 4 → costN m ≤ 101010101 := by decide
end

section
open Go.RowKit
attribute [local go_sem] Oper.semAt_some
theorem or_nat (a b : Nat) (ha : a < 2 ^ 10) (hb : b < 2 ^ 10) : bits .or .u16 (a : Int) (b : Int) = ((a ||| b : Nat) : Int) := by
  exact u16_or_nat a b (by omega) (by omega)
end

section
open Go.RowKit
attribute [local go_sem] Oper.semAt_some
theorem At6.kept {W W' : World} {q n₀ : Nat} {S : Nat → Prop} {v0 v1 v2 v3 v4 v5 : Value} (h : At6 W q v0 v1 v2 v3 v4 v5) (hk : KpS n₀ S W W') (hS : ¬ S q) : At6 W' q v0 v1 v2 v3 v4 v5 := hk.block h rfl hS
end

end Go.Proofs.Ytenpiinkbfancaa.Rk
