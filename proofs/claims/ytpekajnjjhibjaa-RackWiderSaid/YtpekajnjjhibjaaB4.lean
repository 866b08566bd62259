/-
  felled; ball, pinned, thrown.
-/
import Derived.Test.YtpekajnjjhibjaaB3
namespace Go.Proofs.Ytpekajnjjhibjaa
open Go.RowKit
set_option linter.unusedSimpArgs false
set_option linter.unusedVariables false

set_option maxRecDepth 100000 in
set_option maxHeartbeats 8000000 in
theorem felled_c (r : Rk) (A : Option Addr) (c pins g : Nat) (bts : Int) (b : Nat → Int) (cf : Nat → Bool) (w : World) (hr : Ok r) (hp : pins < 2 ^ 10) (hbb : ∀ k, k < r.rows.toNat → -1000 ≤ b k ∧ b k ≤ 1000) (hl : Lks w.heap.size w A r.links) (hc : r.links.length ≤ c ∧ c ≤ 9223372036854775807) (he : Enters g)
    (hg : ∀ i, i < r.links.length → ∀ W, Calls Try.prog g #[lV (lx r.links i), .int .i64 (i : Int), .int .i64 bts] W (Ans W (.bool (cf i)))) :
    Calls Try.prog 77 #[.agg #[.int .i64 r.rows, .int .i64 r.mid, .int .i64 r.gap, .int .i64 r.reach, .slice A r.links.length c, .int .u16 (pins : Int)], .agg #[.int .i64 (b 0), .int .i64 (b 1), .int .i64 (b 2), .int .i64 (b 3)], .agg #[.func (.func g) #[] #[]], .int .i64 bts] w (Ans w (.int .u16 (felledS r pins b cf : Int))) := by
  have HB := Lib.hid (Below.refl w.heap.size w)
  have HL := Lib.hid hl
  have HG := Lib.hid hg
  clear hl hg
  have hb : Below w.heap.size w (w.alloc (.cells #[.int .i64 r.rows, .int .i64 r.mid, .int .i64 r.gap, .int .i64 r.reach, .slice A r.links.length c, .int .u16 (pins : Int)] 102)) := (Below.refl _ _).alloc (Nat.le_refl _) _
  replace HL := Lib.hid (HL.out.step hb)
  replace HB := Lib.hid (HB.out.trans (hb.mono HB.out.size))
  clear hb
  have k0 : (w.alloc (.cells #[.int .i64 r.rows, .int .i64 r.mid, .int .i64 r.gap, .int .i64 r.reach, .slice A r.links.length c, .int .u16 (pins : Int)] 102)).cell? ⟨w.heap.size, 0, none⟩ = some (.int .i64 r.rows) := by simp
  have k1 : (w.alloc (.cells #[.int .i64 r.rows, .int .i64 r.mid, .int .i64 r.gap, .int .i64 r.reach, .slice A r.links.length c, .int .u16 (pins : Int)] 102)).cell? ⟨w.heap.size, 1, none⟩ = some (.int .i64 r.mid) := by simp
  have k2 : (w.alloc (.cells #[.int .i64 r.rows, .int .i64 r.mid, .int .i64 r.gap, .int .i64 r.reach, .slice A r.links.length c, .int .u16 (pins : Int)] 102)).cell? ⟨w.heap.size, 2, none⟩ = some (.int .i64 r.gap) := by simp
  have k3 : (w.alloc (.cells #[.int .i64 r.rows, .int .i64 r.mid, .int .i64 r.gap, .int .i64 r.reach, .slice A r.links.length c, .int .u16 (pins : Int)] 102)).cell? ⟨w.heap.size, 3, none⟩ = some (.int .i64 r.reach) := by simp
  have k4 : (w.alloc (.cells #[.int .i64 r.rows, .int .i64 r.mid, .int .i64 r.gap, .int .i64 r.reach, .slice A r.links.length c, .int .u16 (pins : Int)] 102)).cell? ⟨w.heap.size, 4, none⟩ = some (.slice A r.links.length c) := by simp
  have k5 : (w.alloc (.cells #[.int .i64 r.rows, .int .i64 r.mid, .int .i64 r.gap, .int .i64 r.reach, .slice A r.links.length c, .int .u16 (pins : Int)] 102)).cell? ⟨w.heap.size, 5, none⟩ = some (.int .u16 (pins : Int)) := by simp
  have hb : Below (w.alloc (.cells #[.int .i64 r.rows, .int .i64 r.mid, .int .i64 r.gap, .int .i64 r.reach, .slice A r.links.length c, .int .u16 (pins : Int)] 102)).heap.size (w.alloc (.cells #[.int .i64 r.rows, .int .i64 r.mid, .int .i64 r.gap, .int .i64 r.reach, .slice A r.links.length c, .int .u16 (pins : Int)] 102)) ((w.alloc (.cells #[.int .i64 r.rows, .int .i64 r.mid, .int .i64 r.gap, .int .i64 r.reach, .slice A r.links.length c, .int .u16 (pins : Int)] 102)).alloc (.cells #[.int .i64 (b 0), .int .i64 (b 1), .int .i64 (b 2), .int .i64 (b 3)] 129)) := (Below.refl _ _).alloc (Nat.le_refl _) _
  replace HL := Lib.hid (HL.out.step hb)
  replace k0 := cell_of_ans hb k0
  replace k1 := cell_of_ans hb k1
  replace k2 := cell_of_ans hb k2
  replace k3 := cell_of_ans hb k3
  replace k4 := cell_of_ans hb k4
  replace k5 := cell_of_ans hb k5
  replace HB := Lib.hid (HB.out.trans (hb.mono HB.out.size))
  clear hb
  have b0 : ((w.alloc (.cells #[.int .i64 r.rows, .int .i64 r.mid, .int .i64 r.gap, .int .i64 r.reach, .slice A r.links.length c, .int .u16 (pins : Int)] 102)).alloc (.cells #[.int .i64 (b 0), .int .i64 (b 1), .int .i64 (b 2), .int .i64 (b 3)] 129)).cell? ⟨w.heap.size + 1, 0, none⟩ = some (.int .i64 (b 0)) := by simp
  have b1 : ((w.alloc (.cells #[.int .i64 r.rows, .int .i64 r.mid, .int .i64 r.gap, .int .i64 r.reach, .slice A r.links.length c, .int .u16 (pins : Int)] 102)).alloc (.cells #[.int .i64 (b 0), .int .i64 (b 1), .int .i64 (b 2), .int .i64 (b 3)] 129)).cell? ⟨w.heap.size + 1, 1, none⟩ = some (.int .i64 (b 1)) := by simp
  have b2 : ((w.alloc (.cells #[.int .i64 r.rows, .int .i64 r.mid, .int .i64 r.gap, .int .i64 r.reach, .slice A r.links.length c, .int .u16 (pins : Int)] 102)).alloc (.cells #[.int .i64 (b 0), .int .i64 (b 1), .int .i64 (b 2), .int .i64 (b 3)] 129)).cell? ⟨w.heap.size + 1, 2, none⟩ = some (.int .i64 (b 2)) := by simp
  have b3 : ((w.alloc (.cells #[.int .i64 r.rows, .int .i64 r.mid, .int .i64 r.gap, .int .i64 r.reach, .slice A r.links.length c, .int .u16 (pins : Int)] 102)).alloc (.cells #[.int .i64 (b 0), .int .i64 (b 1), .int .i64 (b 2), .int .i64 (b 3)] 129)).cell? ⟨w.heap.size + 1, 3, none⟩ = some (.int .i64 (b 3)) := by simp
  have hb : Below ((w.alloc (.cells #[.int .i64 r.rows, .int .i64 r.mid, .int .i64 r.gap, .int .i64 r.reach, .slice A r.links.length c, .int .u16 (pins : Int)] 102)).alloc (.cells #[.int .i64 (b 0), .int .i64 (b 1), .int .i64 (b 2), .int .i64 (b 3)] 129)).heap.size ((w.alloc (.cells #[.int .i64 r.rows, .int .i64 r.mid, .int .i64 r.gap, .int .i64 r.reach, .slice A r.links.length c, .int .u16 (pins : Int)] 102)).alloc (.cells #[.int .i64 (b 0), .int .i64 (b 1), .int .i64 (b 2), .int .i64 (b 3)] 129)) (((w.alloc (.cells #[.int .i64 r.rows, .int .i64 r.mid, .int .i64 r.gap, .int .i64 r.reach, .slice A r.links.length c, .int .u16 (pins : Int)] 102)).alloc (.cells #[.int .i64 (b 0), .int .i64 (b 1), .int .i64 (b 2), .int .i64 (b 3)] 129)).alloc (.cells #[.func (.func g) #[] #[]] 112)) := (Below.refl _ _).alloc (Nat.le_refl _) _
  replace HL := Lib.hid (HL.out.step hb)
  replace k0 := cell_of_ans hb k0
  replace k1 := cell_of_ans hb k1
  replace k2 := cell_of_ans hb k2
  replace k3 := cell_of_ans hb k3
  replace k4 := cell_of_ans hb k4
  replace k5 := cell_of_ans hb k5
  replace b0 := cell_of_ans hb b0
  replace b1 := cell_of_ans hb b1
  replace b2 := cell_of_ans hb b2
  replace b3 := cell_of_ans hb b3
  replace HB := Lib.hid (HB.out.trans (hb.mono HB.out.size))
  clear hb
  have c0 : (((w.alloc (.cells #[.int .i64 r.rows, .int .i64 r.mid, .int .i64 r.gap, .int .i64 r.reach, .slice A r.links.length c, .int .u16 (pins : Int)] 102)).alloc (.cells #[.int .i64 (b 0), .int .i64 (b 1), .int .i64 (b 2), .int .i64 (b 3)] 129)).alloc (.cells #[.func (.func g) #[] #[]] 112)).cell? ⟨w.heap.size + 1 + 1, 0, none⟩ = some (.func (.func g) #[] #[]) := by go_simp
  go_enter Try.func77, Try.ntmps77
  go_wp2_with fail
  generalize (((w.alloc (.cells #[.int .i64 r.rows, .int .i64 r.mid, .int .i64 r.gap, .int .i64 r.reach, .slice A r.links.length c, .int .u16 (pins : Int)] 102)).alloc (.cells #[.int .i64 (b 0), .int .i64 (b 1), .int .i64 (b 2), .int .i64 (b 3)] 129)).alloc (.cells #[.func (.func g) #[] #[]] 112)) = x3 at *
  have bk : ∀ j, j < 4 → x3.cell? ⟨w.heap.size + 1, j, none⟩ = some (.int .i64 (b j)) := fun j hj => by
    rcases (by omega : j = 0 ∨ j = 1 ∨ j = 2 ∨ j = 3) with rfl | rfl | rfl | rfl
    · exact b0
    · exact b1
    · exact b2
    · exact b3
  clear b0 b1 b2 b3
  have hrt : r.rows.toNat ≤ 4 := by have := hr.rows4; omega
  have hr1 := hr.rows1
  obtain ⟨n, hn⟩ : ∃ n : Nat, r.rows = (n : Int) := ⟨r.rows.toNat, by omega⟩
  have HN : Hid (r.rows.toNat = n) := by show _ = _; omega
  have HNI := Lib.hid hn
  clear hn
  go_loopw [9, 14] (fun t i wr => ∃ k : Nat, k ≤ n ∧ i = .int .i64 k ∧ t = .int .u16 (touchedS r pins b k : Int) ∧ Below x3.heap.size x3 wr) (fun _ i _ => n - (intOf i).toNat)
  case atStart => exact ⟨0, by omega, rfl, rfl, Below.refl _ _⟩
  case round =>
    obtain ⟨k, hk, rfl, rfl, hb⟩ := hrel
    replace HL := Lib.hid (HL.out.step hb)
    replace k0 := cell_of_ans hb k0
    replace k1 := cell_of_ans hb k1
    replace k2 := cell_of_ans hb k2
    replace k3 := cell_of_ans hb k3
    replace k4 := cell_of_ans hb k4
    replace k5 := cell_of_ans hb k5
    replace c0 := cell_of_ans hb c0
    have HBX := Lib.hid hb
    replace HB := Lib.hid (HB.out.trans (hb.mono HB.out.size))
    by_cases h1 : k < n
    · have bkk := cell_of_ans hb (bk k (by have := HN.out; omega))
      have hn4 : n ≤ 4 := by have := HN.out; omega
      have hbk := hbb k (by have := HN.out; omega)
      have h1i : (k : Int) < r.rows := by have := HNI.out; omega
      have h4i : (k : Int) < 4 := by omega
      have hts := touchedS_lt r pins b k
      have htt := touchS_lt r pins k (b k)
      have HO : Hid (bits .or .u16 (touchedS r pins b k : Int) (touchS r pins k (b k) : Int) = (touchedS r pins b (k + 1) : Int)) := by show _ = _; rw [u16_or_nat _ _ (by omega) (by omega)]; rfl
      have HTC : Hid (∀ W, Calls Try.prog 84 #[.agg #[.int .i64 r.rows, .int .i64 r.mid, .int .i64 r.gap, .int .i64 r.reach, .slice A r.links.length c, .int .u16 (pins : Int)], .int .i64 (k : Int), .int .i64 (b k)] W (Ans W (.int .u16 (touchS r pins k (b k) : Int)))) := fun W => touched_c r A c pins k (b k) W hr hp hbk.1 hbk.2
      generalize touchS r pins k (b k) = tk at *
      generalize touchedS r pins b k = tn at *
      clear hb bk
      go_upto_region 5 with fail
      have hd : Below wr.heap.size wr wr.drew := (Below.refl _ _).drew
      replace HBX := Lib.hid (HBX.out.trans (hd.mono HBX.out.size))
      replace HB := Lib.hid (HB.out.trans (hd.mono HB.out.size))
      clear hd
      go_region_held3 (fun w' => w'.cell? ⟨w.heap.size, 0, none⟩ = some (.int .i64 r.rows) ∧ w'.cell? ⟨w.heap.size, 1, none⟩ = some (.int .i64 r.mid) ∧ w'.cell? ⟨w.heap.size, 2, none⟩ = some (.int .i64 r.gap) ∧ w'.cell? ⟨w.heap.size, 3, none⟩ = some (.int .i64 r.reach) ∧ w'.cell? ⟨w.heap.size, 4, none⟩ = some (.slice A r.links.length c) ∧ w'.cell? ⟨w.heap.size, 5, none⟩ = some (.int .u16 (pins : Int)) ∧ w'.cell? ⟨w.heap.size + 1, k, none⟩ = some (.int .i64 (b k))) (go_keep) (first | (go_at_call 84; refine (HTC.out _).mono ?_; rintro e x9 ⟨rfl, hb⟩; replace k0 := cell_of_ans (below_drew_l hb) k0; replace k1 := cell_of_ans (below_drew_l hb) k1; replace k2 := cell_of_ans (below_drew_l hb) k2; replace k3 := cell_of_ans (below_drew_l hb) k3; replace k4 := cell_of_ans (below_drew_l hb) k4; replace k5 := cell_of_ans (below_drew_l hb) k5; replace bkk := cell_of_ans (below_drew_l hb) bkk; replace HBX := Lib.hid (HBX.out.trans (hb.mono HBX.out.size)); replace HB := Lib.hid (HB.out.trans (hb.mono HB.out.size)); clear hb))
      go_wp2_with fail
      go_roundw
      case rel => exact ⟨k + 1, by omega, by go_num, congrArg _ HO.out, HBX.out⟩
      case measure => simp [intOf]; omega
    · obtain rfl : k = n := by omega
      have h1i : ¬ ((k : Int) < r.rows) := by have := HNI.out; omega
      have HR : Hid (felledS r pins b cf = fallS r.links cf pins (touchedS r pins b k)) := by show _ = _; rw [felledS, HN.out]
      have hts := touchedS_lt r pins b k
      generalize touchedS r pins b k = ts at *
      clear bk hb
      go_wp2_with fail
      refine (falls_c r A c pins ts g bts cf _ hr hp hts HL.out hc he HG.out).mono ?_
      rintro e w1 ⟨rfl, hb⟩
      replace HB := Lib.hid (HB.out.trans (hb.mono HB.out.size))
      clear hb
      go_wp2_with fail
      go_ret
      exact ⟨ret_int (by rw [HR.out]), HB.out⟩

/-- Is a range one of a ball? A ball of a rack? -/
def rangeB (x : Rg) : Bool := inB x.lo 0 x.hi && (decide (x.hi ≤ 60) && decide (x.hi - x.lo ≤ 8))
noncomputable def ballB (rows : Int) (ball : List Rg) : Bool := decide ((ball.length : Int) = rows) && allB ball.length (fun k => rangeB (gx ball k))
theorem enters100 : Enters 100 := fun _ _ => enters_of Try.func100 (by kernel_rfl) rfl _ _
set_option maxHeartbeats 1000000 in
theorem range_c (x : Rg) (w : World) : Calls Try.prog 100 #[gV x] w (Ans w (.bool (rangeB x))) := by
  obtain ⟨xl, xh⟩ := x
  unfold gV
  dsimp only
  have hb0 : Below w.heap.size w (w.alloc (.cells #[.int .i64 xl, .int .i64 xh] 44)) := (Below.refl _ _).alloc (Nat.le_refl _) _
  have HB := Lib.hid hb0
  clear hb0
  cases t0 : inB xl 0 xh
  · go_enter Try.func100, Try.ntmps100
    go_wp2_with (go_at_call 65; refine (within_c _ _ _ _).mono ?_; rintro e w1 ⟨rfl, rfl⟩)
    go_ret
    exact ⟨ret_bool (by simp [rangeB, *]), HB.out⟩
  · obtain ⟨h0, h1⟩ := (inB_eq _ _ _).1 t0
    by_cases t1 : xh ≤ 60
    · have hw : IntKind.i64.wrap (xh - xl) = xh - xl := IntWalk.i64_in _ (by omega)
      go_enter Try.func100, Try.ntmps100
      go_wp2_with (go_at_call 65; refine (within_c _ _ _ _).mono ?_; rintro e w1 ⟨rfl, rfl⟩)
      go_ret
      exact ⟨ret_bool (by simp [rangeB, *]), HB.out⟩
    · go_enter Try.func100, Try.ntmps100
      go_wp2_with (go_at_call 65; refine (within_c _ _ _ _).mono ?_; rintro e w1 ⟨rfl, rfl⟩)
      go_ret
      exact ⟨ret_bool (by first | (simp [rangeB, *]; done) | (simp [rangeB, *]; omega)), HB.out⟩

set_option maxHeartbeats 1000000 in
theorem ball_c (r : Rk) (A Ab : Option Addr) (c cb : Nat) (ball : List Rg) (w : World) (hl : Rgs w.heap.size w Ab ball) (hcb : ball.length ≤ cb ∧ cb ≤ 9223372036854775807) :
    Calls Try.prog 82 #[.agg #[.int .i64 r.rows, .int .i64 r.mid, .int .i64 r.gap, .int .i64 r.reach, .slice A r.links.length c], .slice Ab ball.length cb] w (Ans w (.bool (ballB r.rows ball))) := by
  have HB := Lib.hid (Below.refl w.heap.size w)
  have HG := Lib.hid hl
  clear hl
  have hb : Below w.heap.size w (w.alloc (.cells #[.int .i64 r.rows, .int .i64 r.mid, .int .i64 r.gap, .int .i64 r.reach, .slice A r.links.length c] 39)) := (Below.refl _ _).alloc (Nat.le_refl _) _
  replace HG := Lib.hid (HG.out.step hb)
  replace HB := Lib.hid (HB.out.trans (hb.mono HB.out.size))
  clear hb
  have k0 : (w.alloc (.cells #[.int .i64 r.rows, .int .i64 r.mid, .int .i64 r.gap, .int .i64 r.reach, .slice A r.links.length c] 39)).cell? ⟨w.heap.size, 0, none⟩ = some (.int .i64 r.rows) := by simp
  by_cases h1 : (ball.length : Int) = r.rows
  · have H1 := Lib.hid (allRg (B := ((w.alloc (.cells #[.int .i64 r.rows, .int .i64 r.mid, .int .i64 r.gap, .int .i64 r.reach, .slice A r.links.length c] 39))).heap.size) Ab cb 100 #[] #[] ball (fun k => rangeB (gx ball k)) (w.alloc (.cells #[.int .i64 r.rows, .int .i64 r.mid, .int .i64 r.gap, .int .i64 r.reach, .slice A r.links.length c] 39)) enters100 (Nat.le_refl _) (by omega) HG.out (fun k _ W _ => range_c (gx ball k) W))
    have HR : Hid (ballB r.rows ball = allB ball.length (fun k => rangeB (gx ball k))) := by show _ = _; rw [ballB, decide_eq_true h1, Bool.true_and]
    have hb1 : ((ball.length : Int) == r.rows) = true := by simp [h1]
    clear h1
    go_enter Try.func82, Try.ntmps82
    go_wp2_with fail
    generalize (w.alloc (.cells #[.int .i64 r.rows, .int .i64 r.mid, .int .i64 r.gap, .int .i64 r.reach, .slice A r.links.length c] 39)) = x1 at *
    refine (H1.out).mono ?_
    rintro e x1 ⟨rfl, hb⟩
    replace HG := Lib.hid (HG.out.step hb)
    replace k0 := cell_of_ans hb k0
    replace HB := Lib.hid (HB.out.trans (hb.mono HB.out.size))
    clear hb
    go_wp2_with fail
    go_ret
    exact ⟨ret_bool (by rw [HR.out]), HB.out⟩
  · have hb1 : ((ball.length : Int) == r.rows) = false := by simp [h1]
    have HR : Hid (ballB r.rows ball = false) := by show _ = _; rw [ballB, decide_eq_false h1, Bool.false_and]
    clear h1
    go_enter Try.func82, Try.ntmps82
    go_wp2_with fail
    go_ret
    exact ⟨ret_bool (by rw [HR.out]), HB.out⟩

/-- What stands ahead of number k of a list; does the list rise? -/
def lastOf (xs : List Int) (k : Nat) : Int := if k = 0 then -1 else ix xs (k - 1)
noncomputable def risesB (xs : List Int) : Bool := allB xs.length (fun k => decide (lastOf xs k < ix xs k))
noncomputable def pinsB (rows : Int) (xs : List Int) : Bool := allB xs.length (fun k => inB (ix xs k) 0 ((pn rows : Int) - 1))
/-- The error of pins, and their set. -/
noncomputable def pinErr (r : Rk) (xs : List Int) : Int := if rackErr r = 0 then (if pinsB r.rows xs && risesB xs then 0 else 2) else rackErr r
noncomputable def pinS (r : Rk) (xs : List Int) : Nat := if pinErr r xs = 0 then ofS (xs.map Int.toNat) else 0
theorem pinErr_rack {r : Rk} {xs : List Int} (h : pinErr r xs = 0) : rackErr r = 0 := by
  unfold pinErr at h
  split at h
  · assumption
  · exact h
theorem rise_nats {xs : List Int} {n : Nat} (h1 : ∀ k, k < xs.length → 0 ≤ ix xs k ∧ ix xs k < n) (h2 : risesB xs = true) : xs = natsI (xs.map Int.toNat) ∧ (xs.map Int.toNat).Pairwise (· < ·) ∧ ∀ p ∈ xs.map Int.toNat, p < n := by
  have h3 := allB_iff.1 h2
  refine ⟨?_, ?_, ?_⟩
  · refine List.ext_getElem (by simp [natsI]) fun k hk hk' => ?_
    have := (h1 k hk).1
    rw [ix_lt hk] at this
    simp [natsI]
    omega
  · rw [List.pairwise_iff_getElem]
    have key : ∀ d i, i + 1 + d < xs.length → ix xs i < ix xs (i + 1 + d) := by
      intro d
      induction d with
      | zero =>
        intro i hi
        have := h3 (i + 1) hi
        simpa [lastOf] using this
      | succ d ih =>
        intro i hi
        have h4 := ih i (by omega)
        have h5 := h3 (i + 1 + d + 1) (by omega)
        have h6 := of_decide_eq_true h5
        rw [lastOf, if_neg (by omega), Nat.add_sub_cancel] at h6
        exact Int.lt_trans h4 h6
    intro i j hi hj hij
    simp only [List.length_map] at hi hj
    have h4 := key (j - i - 1) i (by omega)
    rw [show i + 1 + (j - i - 1) = j by omega, ix_lt hi, ix_lt hj] at h4
    have h5 := (h1 i hi).1
    rw [ix_lt hi] at h5
    simp only [List.getElem_map]
    omega
  · intro p hp
    obtain ⟨x, hx, rfl⟩ := List.mem_map.1 hp
    obtain ⟨k, hk, rfl⟩ := List.mem_iff_getElem.1 hx
    have := h1 k hk
    rw [ix_lt hk] at this
    omega
/-- Pins that are right: a rising list of natural numbers. -/
theorem pins_nats {r : Rk} {xs : List Int} (h : pinErr r xs = 0) : xs = natsI (xs.map Int.toNat) ∧ (xs.map Int.toNat).Pairwise (· < ·) ∧ ∀ p ∈ xs.map Int.toNat, p < pn r.rows := by
  have h0 := pinErr_rack h
  unfold pinErr at h
  rw [if_pos h0] at h
  split at h
  · rename_i h1
    rw [Bool.and_eq_true] at h1
    refine rise_nats (fun k hk => ?_) h1.2
    have := allB_iff.1 h1.1 k hk
    rw [inB_eq] at this
    omega
  · cases h
theorem pinS_lt {r : Rk} {xs : List Int} : pinS r xs < 2 ^ 10 := by
  unfold pinS
  split
  · rename_i h
    have hr := rackOk (pinErr_rack h)
    have h1 := pn_le hr.rows1 hr.rows4
    exact ofS_lt fun p hp => by have := (pins_nats h).2.2 p hp; omega
  · decide
theorem enters92 : Enters 92 := fun _ _ => enters_of Try.func92 (by kernel_rfl) rfl _ _
theorem enters90 : Enters 90 := fun _ _ => enters_of Try.func90 (by kernel_rfl) rfl _ _
def LastAt (W : World) (q : Nat) (x : Int) : Prop := W.heap[q]? = some (.cells #[.int .i64 x] 3)
theorem LastAt.cell {W : World} {q : Nat} {x : Int} (h : LastAt W q x) : W.cell? ⟨q, 0, none⟩ = some (.int .i64 x) ∧ W.frozen? ⟨q, 0, none⟩ = false := by
  unfold LastAt at h
  simp [World.cell?, World.frozen?, h]
theorem LastAt.set {W : World} {q : Nat} {x : Int} (h : LastAt W q x) (y : Int) : LastAt (W.setCell ⟨q, 0, none⟩ (.int .i64 y)) q y := by
  unfold LastAt at h ⊢
  simp [World.setCell, Array.getElem?_modify, h]
theorem LastAt.step {W W' : World} {q : Nat} {x : Int} (h : LastAt W q x) (hb : Below W.heap.size W W') : LastAt W' q x := (hb.block q (Array.getElem?_eq_some_iff.1 h).1).trans h
set_option maxHeartbeats 400000 in
theorem rises_c (q : Nat) (l x : Int) (W : World) (h : LastAt W q l) : Calls Try.prog 90 #[.int .i64 x, .pointer (some ⟨q, 0, none⟩)] W (fun e W' => e = .returned (.bool (decide (l < x))) ∧ W' = W.setCell ⟨q, 0, none⟩ (.int .i64 x)) := by
  obtain ⟨c0, c1⟩ := h.cell
  go_enter Try.func90, Try.ntmps90
  go_wp2
  go_ret
  exact ⟨rfl, rfl⟩
theorem rises_all {B q : Nat} (A : Option Addr) (xs : List Int) (c : Nat) (w : World) (hx : Ints B w A xs) (hB : B ≤ q) (hq : LastAt w q (-1)) (hn : xs.length ≤ 9223372036854775807) :
    Calls Try.prog 91 #[.slice A xs.length c, .func (.func 90) #[] #[.pointer (some ⟨q, 0, none⟩)]] w (fun e w' => e = .returned (.bool (risesB xs)) ∧ w.grownBy w' (some q)) := by
  have hlt : q < w.heap.size := (Array.getElem?_eq_some_iff.1 hq).1
  refine (allJ A xs.length c 90 #[] #[.pointer (some ⟨q, 0, none⟩)] (fun k => .int .i64 (ix xs k)) (fun k => decide (lastOf xs k < ix xs k)) (some q) (fun k W => LastAt W q (lastOf xs k) ∧ w.grownBy W (some q)) w enters90 hn (fun q' e => by injection e with e; omega) ⟨?_, ?_, ?_⟩ ⟨hq, World.grownBy.refl _ _⟩).mono ?_
  · rintro k hk W ⟨h1, h2⟩
    refine (rises_c q (lastOf xs k) (ix xs k) W h1).mono ?_
    rintro e W' ⟨rfl, rfl⟩
    have hs : W.grownBy (W.setCell ⟨q, 0, none⟩ (.int .i64 (ix xs k))) (some q) := only_setCell (World.grownBy.refl _ _) (.inl rfl) _
    exact ⟨rfl, ⟨by simpa [lastOf] using h1.set (ix xs k), h2.trans hs⟩, hs⟩
  · rintro k W W' ⟨h1, h2⟩ hb
    exact ⟨(hb.block q (Array.getElem?_eq_some_iff.1 h1).1).trans h1, h2.trans (only_below hb _)⟩
  · rintro k hk W ⟨_, h2⟩
    obtain ⟨b, off, hA, hlt, hc⟩ := hx.at_ hk
    exact ⟨b, off, hA, h2.cell hc (by simp; omega)⟩
  · rintro e W' ⟨rfl, _, hg⟩
    exact ⟨rfl, hg⟩

set_option maxRecDepth 100000 in
set_option maxHeartbeats 4000000 in
theorem pinned_c (r : Rk) (A xA : Option Addr) (c cx : Nat) (xs : List Int) (w : World) (hl : Lks w.heap.size w A r.links) (hc : r.links.length ≤ c ∧ c ≤ 9223372036854775807) (hx : Ints w.heap.size w xA xs) (hcx : xs.length ≤ cx ∧ cx ≤ 9223372036854775807) :
    Calls Try.prog 63 #[.agg #[.int .i64 r.rows, .int .i64 r.mid, .int .i64 r.gap, .int .i64 r.reach, .slice A r.links.length c], .slice xA xs.length cx] w (Ans w (.tuple #[.int .u16 (pinS r xs : Int), .int .i64 (pinErr r xs)])) := by
  have HB := Lib.hid (Below.refl w.heap.size w)
  have HL := Lib.hid hl
  have HX := Lib.hid hx
  have hx0 := hx
  clear hl hx
  have hb : Below w.heap.size w (w.alloc (.cells #[.int .i64 r.rows, .int .i64 r.mid, .int .i64 r.gap, .int .i64 r.reach, .slice A r.links.length c] 39)) := (Below.refl _ _).alloc (Nat.le_refl _) _
  replace HL := Lib.hid (HL.out.step hb)
  replace HX := Lib.hid (HX.out.step hb)
  replace HB := Lib.hid (HB.out.trans (hb.mono HB.out.size))
  clear hb
  have k0 : (w.alloc (.cells #[.int .i64 r.rows, .int .i64 r.mid, .int .i64 r.gap, .int .i64 r.reach, .slice A r.links.length c] 39)).cell? ⟨w.heap.size, 0, none⟩ = some (.int .i64 r.rows) := by simp
  have k1 : (w.alloc (.cells #[.int .i64 r.rows, .int .i64 r.mid, .int .i64 r.gap, .int .i64 r.reach, .slice A r.links.length c] 39)).cell? ⟨w.heap.size, 1, none⟩ = some (.int .i64 r.mid) := by simp
  have k2 : (w.alloc (.cells #[.int .i64 r.rows, .int .i64 r.mid, .int .i64 r.gap, .int .i64 r.reach, .slice A r.links.length c] 39)).cell? ⟨w.heap.size, 2, none⟩ = some (.int .i64 r.gap) := by simp
  have k3 : (w.alloc (.cells #[.int .i64 r.rows, .int .i64 r.mid, .int .i64 r.gap, .int .i64 r.reach, .slice A r.links.length c] 39)).cell? ⟨w.heap.size, 3, none⟩ = some (.int .i64 r.reach) := by simp
  have k4 : (w.alloc (.cells #[.int .i64 r.rows, .int .i64 r.mid, .int .i64 r.gap, .int .i64 r.reach, .slice A r.links.length c] 39)).cell? ⟨w.heap.size, 4, none⟩ = some (.slice A r.links.length c) := by simp
  have HPE : Hid (pinErr r xs = if rackErr r = 0 then (if pinsB r.rows xs && risesB xs then 0 else 2) else rackErr r) := rfl
  have HPS : Hid (pinS r xs = if pinErr r xs = 0 then ofS (xs.map Int.toNat) else 0) := rfl
  by_cases he : rackErr r = 0
  · rw [if_pos he] at HPE
    have hr := rackOk he
    go_enter Try.func63, Try.ntmps63
    go_wp2_with fail
    generalize (w.alloc (.cells #[.int .i64 r.rows, .int .i64 r.mid, .int .i64 r.gap, .int .i64 r.reach, .slice A r.links.length c] 39)) = x1 at *
    refine (checkRack_c r A c _ HL.out hc).mono ?_
    rw [he]
    rintro e x2 ⟨rfl, hb⟩
    replace HL := Lib.hid (HL.out.step hb)
    replace HX := Lib.hid (HX.out.step hb)
    replace k0 := cell_of_ans hb k0
    replace k1 := cell_of_ans hb k1
    replace k2 := cell_of_ans hb k2
    replace k3 := cell_of_ans hb k3
    replace k4 := cell_of_ans hb k4
    replace HB := Lib.hid (HB.out.trans (hb.mono HB.out.size))
    clear hb
    have ltk0 := World.block_lt_of_cell? _ _ k0
    dsimp only at ltk0
    clear he
    have hh := hr.rows1
    have hh4 := hr.rows4
    have HX0 := Lib.hid hx0
    clear hx0
    go_wp2_with fail
    have hb : Below x2.heap.size x2 (x2.alloc (.cells #[.int .i64 (-1)] 3)) := (Below.refl _ _).alloc (Nat.le_refl _) _
    replace HL := Lib.hid (HL.out.step hb)
    replace HX := Lib.hid (HX.out.step hb)
    replace k0 := cell_of_ans hb k0
    replace k1 := cell_of_ans hb k1
    replace k2 := cell_of_ans hb k2
    replace k3 := cell_of_ans hb k3
    replace k4 := cell_of_ans hb k4
    replace HB := Lib.hid (HB.out.trans (hb.mono HB.out.size))
    clear hb
    have HQ : Hid (LastAt (x2.alloc (.cells #[.int .i64 (-1)] 3)) x2.heap.size (-1)) := World.alloc_heap_new _ _
    have hqw := ltk0
    generalize (x2.alloc (.cells #[.int .i64 (-1)] 3)) = x3 at *
    have hwq : w.heap.size ≤ x2.heap.size := Nat.le_of_lt hqw
    generalize x2.heap.size = q at *
    have HP1 : Hid (allB xs.length (fun k => inB (ix xs k) 0 ((pn r.rows : Int) - 1)) = pinsB r.rows xs) := rfl
    cases hp : pinsB r.rows xs
    · rw [hp] at HPE HP1
      have hpe : ¬ pinErr r xs = 0 := by rw [HPE.out]; simp
      rw [if_neg hpe] at HPS
      clear hpe hp
      refine (allI xA xs cx 92 #[.agg #[.int .i64 r.rows, .int .i64 r.mid, .int .i64 r.gap, .int .i64 r.reach, .slice A r.links.length c]] #[] (fun k => inB (ix xs k) 0 ((pn r.rows : Int) - 1)) x3 enters92 (Nat.le_refl _) (by omega) HX.out (fun k hk W _ => pin_c r.rows r.mid r.gap r.reach (ix xs k) A r.links.length c W hh hh4)).mono ?_
      rw [HP1.out]
      rintro e x4 ⟨rfl, hb⟩
      replace HL := Lib.hid (HL.out.step hb)
      replace HX := Lib.hid (HX.out.step hb)
      replace k0 := cell_of_ans hb k0
      replace k1 := cell_of_ans hb k1
      replace k2 := cell_of_ans hb k2
      replace k3 := cell_of_ans hb k3
      replace k4 := cell_of_ans hb k4
      replace HQ := Lib.hid (HQ.out.step hb)
      replace HB := Lib.hid (HB.out.trans (hb.mono HB.out.size))
      clear hb
      go_wp2_with fail
      refine bodyPost_ret (results_tmp2 rfl _ _ _) rfl ?_
      exact ⟨by rw [HPS.out, HPE.out]; rfl, HB.out⟩
    · rw [hp] at HPE HP1
      clear hp
      refine (allI xA xs cx 92 #[.agg #[.int .i64 r.rows, .int .i64 r.mid, .int .i64 r.gap, .int .i64 r.reach, .slice A r.links.length c]] #[] (fun k => inB (ix xs k) 0 ((pn r.rows : Int) - 1)) x3 enters92 (Nat.le_refl _) (by omega) HX.out (fun k hk W _ => pin_c r.rows r.mid r.gap r.reach (ix xs k) A r.links.length c W hh hh4)).mono ?_
      rw [HP1.out]
      rintro e x4 ⟨rfl, hb⟩
      replace HL := Lib.hid (HL.out.step hb)
      replace HX := Lib.hid (HX.out.step hb)
      replace k0 := cell_of_ans hb k0
      replace k1 := cell_of_ans hb k1
      replace k2 := cell_of_ans hb k2
      replace k3 := cell_of_ans hb k3
      replace k4 := cell_of_ans hb k4
      replace HQ := Lib.hid (HQ.out.step hb)
      replace HB := Lib.hid (HB.out.trans (hb.mono HB.out.size))
      clear hb
      have HR := Lib.hid (rises_all (B := w.heap.size) xA xs cx x4 (HX0.out.below HB.out) hwq HQ.out (by omega))
      cases hs : risesB xs
      · rw [hs] at HPE HR
        have hpe : ¬ pinErr r xs = 0 := by rw [HPE.out]; simp
        rw [if_neg hpe] at HPS
        clear hpe hs
        go_wp2_with fail
        refine HR.out.mono ?_
        rintro e x5 ⟨rfl, hg⟩
        replace HB := Lib.hid (HB.out.grown hg HB.out.size (fun k e => by injection e with e; omega))
        clear hg
        go_wp2_with fail
        refine bodyPost_ret (results_tmp2 rfl _ _ _) rfl ?_
        exact ⟨by rw [HPS.out, HPE.out]; rfl, HB.out⟩
      · rw [hs] at HPE HR
        have hpe : pinErr r xs = 0 := by rw [HPE.out]; simp
        rw [if_pos hpe] at HPS
        have HNN := Lib.hid (pins_nats hpe)
        have hpn := pn_le hh hh4
        clear hpe hs
        go_wp2_with fail
        refine HR.out.mono ?_
        rintro e x5 ⟨rfl, hg⟩
        replace HB := Lib.hid (HB.out.grown hg HB.out.size (fun k e => by injection e with e; omega))
        clear hg
        have HX5 := Lib.hid (HX0.out.below HB.out)
        have hxl : xs.length = (xs.map Int.toNat).length := by simp
        have HE0 : Hid (pinErr r xs = 0) := by show _ = _; rw [HPE.out]; rfl
        obtain ⟨n1, n2, n3⟩ := HNN.out
        clear HNN HP1 HPE HR HX HX0
        generalize xs.map Int.toNat = ln at *
        subst n1
        rw [natsI_len] at hcx ⊢
        have HO : Hid (∀ W, Below x5.heap.size x5 W → Calls Try.prog 93 #[.slice xA ln.length cx] W (Same W (.int .u16 (ofS ln : Int)))) := fun W h => of_c (B := w.heap.size) ln xA cx W (HX5.out.below (h.mono HB.out.size)) (fun p h => by have := n3 p h; omega) (by omega)
        go_wp2_with fail
        refine (HO.out _ (Below.refl _ _)).mono ?_
        rintro e x6 ⟨rfl, rfl⟩
        go_wp2_with fail
        refine bodyPost_ret (results_tmp2 rfl _ _ _) rfl ?_
        exact ⟨by rw [HE0.out, HPS.out]; rfl, HB.out⟩
  · rw [if_neg he] at HPE
    have hpe : ¬ pinErr r xs = 0 := by rw [HPE.out]; exact he
    rw [if_neg hpe] at HPS
    have hne : (rackErr r != 0) = true := by simp [he]
    go_enter Try.func63, Try.ntmps63
    go_wp2_with fail
    generalize (w.alloc (.cells #[.int .i64 r.rows, .int .i64 r.mid, .int .i64 r.gap, .int .i64 r.reach, .slice A r.links.length c] 39)) = x1 at *
    clear he hpe
    refine (checkRack_c r A c _ HL.out hc).mono ?_
    rintro e x1 ⟨rfl, hb⟩
    replace HL := Lib.hid (HL.out.step hb)
    replace HX := Lib.hid (HX.out.step hb)
    replace k0 := cell_of_ans hb k0
    replace k1 := cell_of_ans hb k1
    replace k2 := cell_of_ans hb k2
    replace k3 := cell_of_ans hb k3
    replace k4 := cell_of_ans hb k4
    replace HB := Lib.hid (HB.out.trans (hb.mono HB.out.size))
    clear hb
    go_wp2_with fail
    refine bodyPost_ret (results_tmp2 rfl _ _ _) rfl ?_
    exact ⟨by rw [HPS.out, HPE.out]; rfl, HB.out⟩
end Go.Proofs.Ytpekajnjjhibjaa
