/-
  Left, CanLeave.
-/
import Derived.Test.YtpekajnjjhibjaaLeftM
namespace Go.Proofs.Ytpekajnjjhibjaa
open Go.RowKit
set_option linter.unusedSimpArgs false
set_option linter.unusedVariables false

attribute [local go_sem] Oper.semAt_some
theorem invK100 (key : Value) (kl : Lit) (h : keyOf Try.prog 100 key = some kl) : ∃ x : Int, key = (fun x : Int => Value.int .u16 x) x := by
  obtain ⟨x, rfl, _⟩ := Maps.keyOf_int_inv under100 h
  exact ⟨x, rfl⟩
theorem invV4 (v : Value) (y : DataW Unit × List MemPlace) (h : plainElem Try.prog 4 v = some y) : ∃ x : Bool, v = (fun x : Bool => Value.bool x) x := by
  obtain ⟨x, rfl, _⟩ := plainElem_bool_inv h
  exact ⟨x, rfl⟩
theorem invVV (v : Value) (y : DataW Unit × List MemPlace) (h : plainElem Try.prog 4 v = some y) : ∃ x : Value, v = (fun v : Value => v) x := ⟨v, rfl⟩
theorem key100 {x : Int} {kl : Lit} (h : keyOf Try.prog 100 (.int .u16 x) = some kl) : ∃ u : Nat, x = (u : Int) ∧ u < 65536 ∧ kl = .int .u16 (u : Int) := by
  obtain ⟨x', ex, rfl, hw⟩ := Maps.keyOf_int_inv under100 h
  cases ex
  simp only [Lit.wf, show IntKind.u16.min = 0 by decide, show IntKind.u16.max = 65535 by decide, Bool.and_eq_true, decide_eq_true_eq] at hw
  obtain ⟨u, rfl⟩ := Int.eq_ofNat_of_zero_le hw.1
  exact ⟨u, rfl, by omega, rfl⟩
theorem sameKey_u16 {u v : Nat} : (Lit.int .u16 (u : Int)).sameKey (.int .u16 (v : Int)) = decide (u = v) := by
  by_cases e : u = v
  · subst e; simp [Lit.sameKey]
  · rw [Maps.sameKey_ne (fun h => e (by simp only [Lit.int.injEq, true_and] at h; omega))]; simp [e]
theorem hmid_done {r : Rk} {pins : Nat} {ball : List Rg} {left : Lit → Bool} {lo hi : Nat} (h : LMid r pins ball (fun u => left (.int .u16 (u : Int))) lo hi) (hp : pins < 2 ^ 10) (hr : Ranges ball) (hl : ∀ kl, left kl = false) : leftN r pins ball = (lo, hi) := h.done hp hr fun u _ => hl _
theorem below_cat {W cur w9 : World} (hb : Below cur.heap.size cur w9) (h : Below W.heap.size W cur) : Below W.heap.size W w9 := h.trans (hb.mono h.size)

set_option maxRecDepth 100000 in
set_option maxHeartbeats 16000000 in
theorem left21_c (r : Rk) (A xA Ab : Option Addr) (c cx cb : Nat) (xs : List Int) (ball : List Rg) (w : World) (hl : Lks w.heap.size w A r.links) (hc : r.links.length ≤ c ∧ c ≤ 9223372036854775807) (hx : Ints w.heap.size w xA xs) (hcx : xs.length ≤ cx ∧ cx ≤ 9223372036854775807) (hball : Rgs w.heap.size w Ab ball) (hcb : ball.length ≤ cb ∧ cb ≤ 9223372036854775807) :
    Calls Try.prog 21 #[.agg #[.int .i64 r.rows, .int .i64 r.mid, .int .i64 r.gap, .int .i64 r.reach, .slice A r.links.length c], .slice xA xs.length cx, .slice Ab ball.length cb] w (Ans w (.tuple #[.agg #[.int .i64 ((leftV r xs ball).1 : Int), .int .i64 ((leftV r xs ball).2 : Int)], .int .i64 (thrErr r xs ball)])) := by
  have HB := Lib.hid (Below.refl w.heap.size w)
  have HLk := Lib.hid hl
  have HG0 := Lib.hid hball
  have HL := Lib.hid hl
  have HX := Lib.hid hx
  have HBa := Lib.hid hball
  clear hl hx hball
  have hb : Below w.heap.size w (w.alloc (.cells #[.int .i64 r.rows, .int .i64 r.mid, .int .i64 r.gap, .int .i64 r.reach, .slice A r.links.length c] 39)) := (Below.refl _ _).alloc (Nat.le_refl _) _
  replace HL := Lib.hid (HL.out.step hb)
  replace HX := Lib.hid (HX.out.step hb)
  replace HBa := Lib.hid (HBa.out.step hb)
  replace HB := Lib.hid (HB.out.trans (hb.mono HB.out.size))
  clear hb
  have k0 : (w.alloc (.cells #[.int .i64 r.rows, .int .i64 r.mid, .int .i64 r.gap, .int .i64 r.reach, .slice A r.links.length c] 39)).cell? ⟨w.heap.size, 0, none⟩ = some (.int .i64 r.rows) := by simp
  have k1 : (w.alloc (.cells #[.int .i64 r.rows, .int .i64 r.mid, .int .i64 r.gap, .int .i64 r.reach, .slice A r.links.length c] 39)).cell? ⟨w.heap.size, 1, none⟩ = some (.int .i64 r.mid) := by simp
  have k2 : (w.alloc (.cells #[.int .i64 r.rows, .int .i64 r.mid, .int .i64 r.gap, .int .i64 r.reach, .slice A r.links.length c] 39)).cell? ⟨w.heap.size, 2, none⟩ = some (.int .i64 r.gap) := by simp
  have k3 : (w.alloc (.cells #[.int .i64 r.rows, .int .i64 r.mid, .int .i64 r.gap, .int .i64 r.reach, .slice A r.links.length c] 39)).cell? ⟨w.heap.size, 3, none⟩ = some (.int .i64 r.reach) := by simp
  have k4 : (w.alloc (.cells #[.int .i64 r.rows, .int .i64 r.mid, .int .i64 r.gap, .int .i64 r.reach, .slice A r.links.length c] 39)).cell? ⟨w.heap.size, 4, none⟩ = some (.slice A r.links.length c) := by simp
  have hb : Below (w.alloc (.cells #[.int .i64 r.rows, .int .i64 r.mid, .int .i64 r.gap, .int .i64 r.reach, .slice A r.links.length c] 39)).heap.size (w.alloc (.cells #[.int .i64 r.rows, .int .i64 r.mid, .int .i64 r.gap, .int .i64 r.reach, .slice A r.links.length c] 39)) ((w.alloc (.cells #[.int .i64 r.rows, .int .i64 r.mid, .int .i64 r.gap, .int .i64 r.reach, .slice A r.links.length c] 39)).alloc (.cells #[.int .i64 0, .int .i64 0] 44)) := (Below.refl _ _).alloc (Nat.le_refl _) _
  replace HL := Lib.hid (HL.out.step hb)
  replace HX := Lib.hid (HX.out.step hb)
  replace HBa := Lib.hid (HBa.out.step hb)
  replace k0 := cell_of_ans hb k0
  replace k1 := cell_of_ans hb k1
  replace k2 := cell_of_ans hb k2
  replace k3 := cell_of_ans hb k3
  replace k4 := cell_of_ans hb k4
  replace HB := Lib.hid (HB.out.trans (hb.mono HB.out.size))
  clear hb
  have HZ : Hid (At2 ((w.alloc (.cells #[.int .i64 r.rows, .int .i64 r.mid, .int .i64 r.gap, .int .i64 r.reach, .slice A r.links.length c] 39)).alloc (.cells #[.int .i64 0, .int .i64 0] 44)) (w.heap.size + 1) 44 0 0) := by show At2 _ _ _ _ _; unfold At2; rw [show w.heap.size + 1 = (w.alloc (.cells #[.int .i64 r.rows, .int .i64 r.mid, .int .i64 r.gap, .int .i64 r.reach, .slice A r.links.length c] 39)).heap.size by simp]; exact World.alloc_heap_new _ _
  have HLV : Hid (leftV r xs ball = if thrErr r xs ball = 0 then leftN r (pinS r xs) ball else (0, 0)) := rfl
  have HTV : Hid (thrV r A c xs ball = if thrErr r xs ball = 0 then .agg #[.int .i64 r.rows, .int .i64 r.mid, .int .i64 r.gap, .int .i64 r.reach, .slice A r.links.length c, .int .u16 (pinS r xs : Int)] else .agg #[.int .i64 0, .int .i64 0, .int .i64 0, .int .i64 0, .slice none 0 0, .int .u16 0]) := rfl
  by_cases he : thrErr r xs ball = 0
  · rw [if_pos he] at HLV HTV
    obtain ⟨hpe, hbl⟩ := thrErr_pin he
    have hr := rackOk (pinErr_rack hpe)
    obtain ⟨hbl1, hbl2, hbl3⟩ := ballB_ok hbl
    have hpl := pinS_lt (r := r) (xs := xs)
    have HLM := Lib.hid (len_many hpe)
    have hml := many_le (pinS r xs)
    have HE := Lib.hid he
    have HBL1 := Lib.hid hbl1
    have HBL2 := Lib.hid hbl2
    have HBL3 := Lib.hid hbl3
    clear hbl1 hbl2 hbl3 hbl
    have hwz : Hid (w.heap.size + 2 ≤ ((w.alloc (.cells #[.int .i64 r.rows, .int .i64 r.mid, .int .i64 r.gap, .int .i64 r.reach, .slice A r.links.length c] 39)).alloc (.cells #[.int .i64 0, .int .i64 0] 44)).heap.size) := by show _ ≤ _; simp
    go_enter Try.func21, Try.ntmps21
    go_wp2_with fail
    generalize ((w.alloc (.cells #[.int .i64 r.rows, .int .i64 r.mid, .int .i64 r.gap, .int .i64 r.reach, .slice A r.links.length c] 39)).alloc (.cells #[.int .i64 0, .int .i64 0] 44)) = x2 at *
    refine (thrown_c r A xA Ab c cx cb xs ball _ HL.out hc HX.out hcx HBa.out hcb).mono ?_
    rw [HTV.out, he]
    rintro e x3 ⟨rfl, hb⟩
    replace HL := Lib.hid (HL.out.step hb)
    replace HX := Lib.hid (HX.out.step hb)
    replace HBa := Lib.hid (HBa.out.step hb)
    replace k0 := cell_of_ans hb k0
    replace k1 := cell_of_ans hb k1
    replace k2 := cell_of_ans hb k2
    replace k3 := cell_of_ans hb k3
    replace k4 := cell_of_ans hb k4
    replace HZ := Lib.hid (HZ.out.step hb)
    replace HB := Lib.hid (HB.out.trans (hb.mono HB.out.size))
    clear hb
    clear he HTV
    generalize pinS r xs = pins at *
    clear k0 k1 k2 k3 k4 HX
    go_wp2_with fail
    have hz3 := HZ.out.lt
    have hbx : Below x3.heap.size x3 ((x3.alloc (.cells #[.int .i64 r.rows, .int .i64 r.mid, .int .i64 r.gap, .int .i64 r.reach, .slice A r.links.length c, .int .u16 (pins : Int)] 102)).alloc (.cells #[.int .i64 (xs.length : Int), .int .i64 0] 44)) := ((Below.refl _ _).alloc (Nat.le_refl _) _).alloc (by simp) _
    have HM : Hid (At2 ((x3.alloc (.cells #[.int .i64 r.rows, .int .i64 r.mid, .int .i64 r.gap, .int .i64 r.reach, .slice A r.links.length c, .int .u16 (pins : Int)] 102)).alloc (.cells #[.int .i64 (xs.length : Int), .int .i64 0] 44)) (x3.heap.size + 1) 44 (xs.length : Int) 0) := by
      have := World.alloc_heap_new (x3.alloc (.cells #[.int .i64 r.rows, .int .i64 r.mid, .int .i64 r.gap, .int .i64 r.reach, .slice A r.links.length c, .int .u16 (pins : Int)] 102)) (.cells #[.int .i64 (xs.length : Int), .int .i64 0] 44)
      rw [World.size_alloc] at this
      exact this
    replace HL := Lib.hid (HL.out.step hbx)
    replace HBa := Lib.hid (HBa.out.step hbx)
    replace HZ := Lib.hid (HZ.out.step hbx)
    have hw3 : w.heap.size + 1 < x3.heap.size + 1 := by omega
    replace HB := Lib.hid (HB.out.trans (hbx.mono HB.out.size))
    have hs4 : x3.heap.size + 2 = ((x3.alloc (.cells #[.int .i64 r.rows, .int .i64 r.mid, .int .i64 r.gap, .int .i64 r.reach, .slice A r.links.length c, .int .u16 (pins : Int)] 102)).alloc (.cells #[.int .i64 (xs.length : Int), .int .i64 0] 44)).heap.size := by simp
    clear hbx
    generalize ((x3.alloc (.cells #[.int .i64 r.rows, .int .i64 r.mid, .int .i64 r.gap, .int .i64 r.reach, .slice A r.links.length c, .int .u16 (pins : Int)] 102)).alloc (.cells #[.int .i64 (xs.length : Int), .int .i64 0] 44)) = x4 at *
    obtain ⟨mq, hmq⟩ : ∃ mq, mq = x3.heap.size + 1 := ⟨_, rfl⟩
    rw [← hmq] at HM hw3
    rw [← hmq]
    have hq4 : mq < x4.heap.size := by omega
    have hwq : w.heap.size ≤ mq := by omega
    clear hmq hs4
    refine (leaves_c r A Ab c cb pins ball _ hr hpl HBL1.out HBL3.out HL.out hc HBa.out hcb).mono ?_
    rintro e x5 ⟨b, nb, O, rfl, ⟨D, hown, hat, hhas⟩, hOL, hb4, hb⟩
    have HM5 := Lib.hid (HM.out.step hb)
    have HZ5 := Lib.hid (HZ.out.step hb)
    have HB5 : Hid (Below w.heap.size w x5) := HB.out.trans (hb.mono HB.out.size)
    have hq5 : mq < x5.heap.size := Nat.lt_of_lt_of_le hq4 hb.size
    have HOL := Lib.hid hOL
    have HHAS := Lib.hid hhas
    clear hb HL HBa HZ HB HM hat hOL hhas
    go_wp2_with (first | (at_range; refine wpList_range_own _ rfl _ 113 rfl 100 4 set_law under113 (plainElem Try.prog 4) b nb D rfl hown ?_; intro w0 hrg0 hg0 hs0) | fail)
    go_frame
    have hb0 : Below x5.heap.size x5 w0 := ⟨hg0.os, hg0.tape, hg0.output, hg0.size, fun i hi => hg0.block i hi (by simp)⟩
    have HM0 := Lib.hid (HM5.out.step hb0)
    have HZ0 := Lib.hid (HZ5.out.step hb0)
    have HB0 : Hid (Below w.heap.size w w0) := HB5.out.trans (hb0.mono HB5.out.size)
    have hbq : b ≠ mq := by omega
    have hrq : x5.heap.size ≠ mq := by omega
    have hwr : w.heap.size ≤ x5.heap.size := HB5.out.size
    have HRG0 := Lib.hid hrg0
    clear hb0 HM5 HZ5 HB5 hg0 hs0 hown hrg0
    generalize x5.heap.size = rq at *
    go_loopw [11] (fun _ wr => ∃ (left : Lit → Bool) (cnt lo hi : Nat), wr.ranges Try.prog 100 (plainElem Try.prog 4) b rq nb D left cnt ∧ (∀ u : Nat, u < 65536 → left (.int .u16 (u : Int)) = true → O u = true) ∧ LMid r pins ball (fun u => left (.int .u16 (u : Int))) lo hi ∧ lo ≤ 10 ∧ hi ≤ 10 ∧ At2 wr mq 44 (lo : Int) (hi : Int) ∧ At2 wr (w.heap.size + 1) 44 0 0 ∧ Below w.heap.size w wr) (fun _ wr => wr.rangeLeft b rq)
    case atStart =>
      refine ⟨Maps.has D, Maps.size D, many pins, 0, HRG0.out, fun u hu h => by rw [HHAS.out u hu] at h; exact h, LMid.start (fun u hu => ?_), hml, by omega, by rw [← HLM.out]; exact HM0.out, HZ0.out, HB0.out⟩
      have := leave_lt hu
      show Maps.has D _ = true
      rw [HHAS.out u (by omega)]
      exact (HOL.out u).2 hu
    case round =>
      obtain ⟨left, cnt, lo, hi, hrg, hlO, hmid, hlo, hhi, hM, hZ, hB⟩ := hrel
      rename World => wr
      have HLO := Lib.hid hlO
      have HMID := Lib.hid hmid
      have HM := Lib.hid hM
      have HZ := Lib.hid hZ
      have HB := Lib.hid hB
      have HRG := Lib.hid hrg
      clear hlO hmid hM hZ hB
      go_wp2_with (at_next; refine wpList_next_ranges _ rfl _ rfl 100 set_law (plainElem Try.prog 4) (fun x : Int => Value.int .u16 x) (fun v : Value => v) invK100 invVV b rq nb _ _ _ rfl hrg ?_ ?_)
      · intro _ hl0
        have HFIN := Lib.hid (hmid_done HMID.out hpl HBL2.out hl0)
        obtain ⟨⟨m0, m1⟩, -⟩ := HM.out.cells
        have hwq1 := HZ.out.lt
        clear hrg hl0
        obtain ⟨⟨z0, z1⟩, zf⟩ := HZ.out.cells
        have zf0 := zf 0
        have zf1 := zf 1
        have HF := Lib.hid (HZ.out.set (lo : Int) (hi : Int))
        have HBF : Hid (Below w.heap.size w ((wr.setCell ⟨w.heap.size + 1, 0, none⟩ (.int .i64 (lo : Int))).setCell ⟨w.heap.size + 1, 1, none⟩ (.int .i64 (hi : Int)))) := (HB.out.setCell (by simp) _).setCell (by simp) _
        clear zf
        go_wp2_with fail
        generalize (wr.setCell ⟨w.heap.size + 1, 0, none⟩ (.int .i64 (lo : Int))).setCell ⟨w.heap.size + 1, 1, none⟩ (.int .i64 (hi : Int)) = W9 at *
        obtain ⟨⟨y0, y1⟩, -⟩ := HF.out.cells
        refine bodyPost_ret (v := .tuple #[.agg #[.int .i64 (lo : Int), .int .i64 (hi : Int)], .int .i64 (0)]) (by simp [results, Try.results21, go_sem, y0, y1]) rfl ?_
        exact ⟨by rw [HLV.out, HFIN.out, HE.out], HBF.out⟩
      · intro x cc kl y y2 w1 cnt1 hkey hlx hy hat1 hrg1 hlt hg1 hs1 hen
        try dsimp only at hkey hen hy
        obtain ⟨u, rfl, hu, rfl⟩ := key100 hkey
        have hLu : LeaveP r pins ball u := (HOL.out u).1 (HLO.out u hu hlx)
        have HMID1 := Lib.hid (HMID.out.take (left' := fun v => left (.int .u16 (v : Int)) && !(Lit.int .u16 (v : Int)).sameKey (.int .u16 (u : Int))) hLu (fun v hv => by
          simp only [sameKey_u16] at hv
          by_cases e : v = u
          · exact .inr e
          · simp [e] at hv; exact .inl hv))
        have HLO1 : Hid (∀ v : Nat, v < 65536 → (left (.int .u16 (v : Int)) && !(Lit.int .u16 (v : Int)).sameKey (.int .u16 (u : Int))) = true → O v = true) := fun v hv h => HLO.out v hv (by simp at h; exact h.1)
        have hne1 : rq ≠ w.heap.size + 1 := by omega
        have HM1 : Hid (At2 w1 mq 44 (lo : Int) (hi : Int)) := (hg1.block _ HM.out.lt (fun e => by injection e with e; omega)).trans HM.out
        have HZ1 : Hid (At2 w1 (w.heap.size + 1) 44 0 0) := (hg1.block _ HZ.out.lt (fun e => by injection e with e; omega)).trans HZ.out
        have HB1 : Hid (Below w.heap.size w w1) := HB.out.grown hg1 HB.out.size (fun j e => by injection e with e; omega)
        have HRG1 := Lib.hid hrg1
        have HLT := Lib.hid hlt
        have hmu := many_le u
        clear hkey hlx hy hat1 hrg1 hlt hg1 hs1 hLu hrg HMID HLO HM HZ HB
        generalize hmm : many u = mu at *
        have HMU := Lib.hid hmm
        clear hmm
        go_wp2_with fail
        refine wp_region_noPanic ?_
        have hS : (fun W' : World => Below w1.heap.size w1 W') w1.drew := (Below.refl _ _).drew
        refine wp_region_any (by kernel_rfl) (wpAny_of_T (S := fun W' : World => Below w1.heap.size w1 W') (m := 13) _ _ _ _ ?_)
        refine' T_take (i := 0) (v := _) rfl (by kernel_rfl) (by kernel_rfl) (by kernel_rfl) (by kernel_rfl) (fun _ _ _ h => h) (by rfl) hS ?_ ?_
        rotate_left 1
        · intro Wv hW
          obtain ⟨⟨f0, f1⟩, -⟩ := (HM1.out.step hW).cells
          go_simp
          first | done | with_reducible rfl
        try simp only [Act.put, List.setIfInBounds_toArray, List.set_cons_zero, List.set_cons_succ]
        refine' T_take (i := 1) (v := _) rfl (by kernel_rfl) (by kernel_rfl) (by kernel_rfl) (by kernel_rfl) (fun _ _ _ h => h) (by rfl) hS ?_ ?_
        rotate_left 1
        · intro Wv hW
          obtain ⟨⟨f0, f1⟩, -⟩ := (HM1.out.step hW).cells
          go_simp
          first | done | with_reducible rfl
        try simp only [Act.put, List.setIfInBounds_toArray, List.set_cons_zero, List.set_cons_succ]
        refine' T_take (i := 2) (v := _) rfl (by kernel_rfl) (by kernel_rfl) (by kernel_rfl) (by kernel_rfl) (fun _ _ _ h => h) (by rfl) hS ?_ ?_
        rotate_left 1
        · intro Wv hW
          obtain ⟨⟨f0, f1⟩, -⟩ := (HM1.out.step hW).cells
          go_simp
          first | done | with_reducible rfl
        try simp only [Act.put, List.setIfInBounds_toArray, List.set_cons_zero, List.set_cons_succ]
        refine' T_take (i := 6) (v := _) rfl (by kernel_rfl) (by kernel_rfl) (by kernel_rfl) (by kernel_rfl) (fun _ _ _ h => h) (by rfl) hS ?_ ?_
        rotate_left 1
        · intro Wv hW
          obtain ⟨⟨f0, f1⟩, -⟩ := (HM1.out.step hW).cells
          go_simp
          first | done | with_reducible rfl
        try simp only [Act.put, List.setIfInBounds_toArray, List.set_cons_zero, List.set_cons_succ]
        refine' T_take (i := 7) (v := _) rfl (by kernel_rfl) (by kernel_rfl) (by kernel_rfl) (by kernel_rfl) (fun _ _ _ h => h) (by rfl) hS ?_ ?_
        rotate_left 1
        · intro Wv hW
          obtain ⟨⟨f0, f1⟩, -⟩ := (HM1.out.step hW).cells
          go_simp
          first | done | with_reducible rfl
        try simp only [Act.put, List.setIfInBounds_toArray, List.set_cons_zero, List.set_cons_succ]
        refine' T_take (i := 8) (v := _) rfl (by kernel_rfl) (by kernel_rfl) (by kernel_rfl) (by kernel_rfl) (fun _ _ _ h => h) (by rfl) hS ?_ ?_
        rotate_left 1
        · intro Wv hW
          obtain ⟨⟨f0, f1⟩, -⟩ := (HM1.out.step hW).cells
          go_simp
          first | done | with_reducible rfl
        try simp only [Act.put, List.setIfInBounds_toArray, List.set_cons_zero, List.set_cons_succ]
        refine T_ready (rs := [3]) (by kernel_rfl) (by simp) ?_
        refine TReady.cons rfl (fun K hK => ?_) TReady.nil
        try go_simp
        refine (many_c u _ hu).mono ?_
        rintro e w3 ⟨rfl, hb⟩
        rw [HMU.out]
        try go_simp
        have hS2 : Below w1.heap.size w1 w3 := below_drew_l hb
        refine hK.out _ _ (fun _ => hS2) (fun _ => ?_)
        clear hK K hS hb
        replace hS := hS2
        clear hS2
        try simp only [Act.put, List.setIfInBounds_toArray, List.set_cons_zero, List.set_cons_succ]
        refine T_ready (rs := [4]) (by kernel_rfl) (by simp) ?_
        refine TReady.cons rfl (fun K hK => ?_) TReady.nil
        try go_simp
        refine hK.out _ _ (fun _ => hS.alloc hS.size _) (fun hS2 => ?_)
        replace hS := hS2 (by decide)
        clear hS2 hK K
        try simp only [Act.put, List.setIfInBounds_toArray, List.set_cons_zero, List.set_cons_succ]
        refine T_ready (rs := [5]) (by kernel_rfl) (by simp) ?_
        refine TReady.cons rfl (fun K hK => ?_) TReady.nil
        try go_simp
        refine (least_c _ (lo : Int) (mu : Int) _ (by go_simp) (by go_simp)).mono ?_
        rintro e w4 ⟨rfl, rfl⟩
        try go_simp
        refine hK.out _ _ (fun _ => hS) (fun _ => ?_)
        clear hK K
        try simp only [Act.put, List.setIfInBounds_toArray, List.set_cons_zero, List.set_cons_succ]
        refine T_ready (rs := [9]) (by kernel_rfl) (by simp) ?_
        refine TReady.cons rfl (fun K hK => ?_) TReady.nil
        try go_simp
        refine (many_c u _ hu).mono ?_
        rintro e w5 ⟨rfl, hb⟩
        rw [HMU.out]
        try go_simp
        have hS2 : Below w1.heap.size w1 w5 := below_cat hb hS
        refine hK.out _ _ (fun _ => hS2) (fun _ => ?_)
        clear hK K hS hb
        replace hS := hS2
        clear hS2
        try simp only [Act.put, List.setIfInBounds_toArray, List.set_cons_zero, List.set_cons_succ]
        refine T_ready (rs := [10]) (by kernel_rfl) (by simp) ?_
        refine TReady.cons rfl (fun K hK => ?_) TReady.nil
        try go_simp
        refine hK.out _ _ (fun _ => hS.alloc hS.size _) (fun hS2 => ?_)
        replace hS := hS2 (by decide)
        clear hS2 hK K
        try simp only [Act.put, List.setIfInBounds_toArray, List.set_cons_zero, List.set_cons_succ]
        refine T_ready (rs := [11]) (by kernel_rfl) (by simp) ?_
        refine TReady.cons rfl (fun K hK => ?_) TReady.nil
        try go_simp
        refine (greatest_c _ (hi : Int) (mu : Int) _ (by go_simp) (by go_simp)).mono ?_
        rintro e w6 ⟨rfl, rfl⟩
        try go_simp
        refine hK.out _ _ (fun _ => hS) (fun _ => ?_)
        clear hK K
        try simp only [Act.put, List.setIfInBounds_toArray, List.set_cons_zero, List.set_cons_succ]
        refine' T_take (i := 12) (v := _) rfl (by kernel_rfl) (by kernel_rfl) (by kernel_rfl) (by kernel_rfl) (fun _ _ _ h => h) (by rfl) hS ?_ ?_
        rotate_left 1
        · intro Wv hW
          skip
          go_simp
          first | done | with_reducible rfl
        try simp only [Act.put, List.setIfInBounds_toArray, List.set_cons_zero, List.set_cons_succ]
        generalize w5.alloc (.cells #[.int .i64 (hi : Int), .int .i64 (mu : Int)] 3) = w7 at *
        refine T_ready (rs := [13]) (by kernel_rfl) (by simp) ?_
        refine TReady.cons rfl (fun K hK => ?_) TReady.nil
        have HM7 := HM1.out.step hS
        obtain ⟨⟨m0, m1⟩, mf⟩ := HM7.cells
        have mf0 := mf 0
        have mf1 := mf 1
        have hmin : min (lo : Int) (mu : Int) = ((min lo mu : Nat) : Int) := by omega
        have hmax : max (hi : Int) (mu : Int) = ((max hi mu : Nat) : Int) := by omega
        rw [hmin, hmax]
        clear mf hmin hmax
        try go_simp
        refine hK.out _ _ (fun h => absurd h (by decide)) (fun _ => ?_)
        clear hK K
        try simp only [Act.put, List.setIfInBounds_toArray, List.set_cons_zero, List.set_cons_succ]
        refine T_done (by kernel_rfl) ?_ _
        refine NoPanic.normal ?_
        have HG7 : Hid (w1.grownBy ((w7.setCell ⟨mq, 0, none⟩ (.int .i64 ((min lo mu : Nat) : Int))).setCell ⟨mq, 1, none⟩ (.int .i64 ((max hi mu : Nat) : Int))) (some mq)) := only_setCell (only_setCell (only_below hS (some mq)) (.inl rfl) _) (.inl rfl) _
        have HM8 := Lib.hid (HM7.set ((min lo mu : Nat) : Int) ((max hi mu : Nat) : Int))
        clear HM7 m0 m1 mf0 mf1 hS
        generalize (w7.setCell ⟨mq, 0, none⟩ (.int .i64 ((min lo mu : Nat) : Int))).setCell ⟨mq, 1, none⟩ (.int .i64 ((max hi mu : Nat) : Int)) = w8 at *
        go_wp2_with fail
        have hrg8 := HRG1.out.kept HG7.out (by simp; omega) (by simp; omega)
        go_roundw
        case rel =>
          refine ⟨_, cnt1, min lo mu, max hi mu, hrg8, HLO1.out, ?_, by omega, by omega, HM8.out, (HG7.out.block _ HZ1.out.lt (fun e => by injection e with e; omega)).trans HZ1.out, HB1.out.grown HG7.out HB1.out.size (fun j e => by injection e with e; omega)⟩
          exact HMID1.out
        case measure =>
          have := HLT.out
          rw [hrg8.left_eq, HRG.out.left_eq]
          omega
  · rw [if_neg he] at HLV HTV
    have hne : (thrErr r xs ball != 0) = true := by simp [he]
    clear he
    go_enter Try.func21, Try.ntmps21
    go_wp2_with fail
    generalize ((w.alloc (.cells #[.int .i64 r.rows, .int .i64 r.mid, .int .i64 r.gap, .int .i64 r.reach, .slice A r.links.length c] 39)).alloc (.cells #[.int .i64 0, .int .i64 0] 44)) = x2 at *
    refine (thrown_c r A xA Ab c cx cb xs ball _ HL.out hc HX.out hcx HBa.out hcb).mono ?_
    rw [HTV.out]
    rintro e x3 ⟨rfl, hb⟩
    replace HL := Lib.hid (HL.out.step hb)
    replace HX := Lib.hid (HX.out.step hb)
    replace HBa := Lib.hid (HBa.out.step hb)
    replace k0 := cell_of_ans hb k0
    replace k1 := cell_of_ans hb k1
    replace k2 := cell_of_ans hb k2
    replace k3 := cell_of_ans hb k3
    replace k4 := cell_of_ans hb k4
    replace HZ := Lib.hid (HZ.out.step hb)
    replace HB := Lib.hid (HB.out.trans (hb.mono HB.out.size))
    clear hb
    have lz := HZ.out.lt
    go_upto_region 3 with fail
    have hb : Below x3.heap.size x3 (x3.alloc (.cells #[.int .i64 0, .int .i64 0, .int .i64 0, .int .i64 0, .slice none 0 0, .int .u16 0] 102)) := (Below.refl _ _).alloc (Nat.le_refl _) _
    replace HL := Lib.hid (HL.out.step hb)
    replace HX := Lib.hid (HX.out.step hb)
    replace HBa := Lib.hid (HBa.out.step hb)
    replace k0 := cell_of_ans hb k0
    replace k1 := cell_of_ans hb k1
    replace k2 := cell_of_ans hb k2
    replace k3 := cell_of_ans hb k3
    replace k4 := cell_of_ans hb k4
    replace HZ := Lib.hid (HZ.out.step hb)
    replace HB := Lib.hid (HB.out.trans (hb.mono HB.out.size))
    clear hb
    generalize x3.alloc (.cells #[.int .i64 0, .int .i64 0, .int .i64 0, .int .i64 0, .slice none 0 0, .int .u16 0] 102) = x4 at *
    obtain ⟨⟨z0, z1⟩, zf⟩ := HZ.out.cells
    have zf0 := zf 0
    have zf1 := zf 1
    have HF := Lib.hid (HZ.out.set (0) (0))
    have HBF : Hid (Below w.heap.size w ((x4.setCell ⟨w.heap.size + 1, 0, none⟩ (.int .i64 (0))).setCell ⟨w.heap.size + 1, 1, none⟩ (.int .i64 (0)))) := (HB.out.setCell (by simp) _).setCell (by simp) _
    clear zf
    go_wp2_with fail
    generalize (x4.setCell ⟨w.heap.size + 1, 0, none⟩ (.int .i64 (0))).setCell ⟨w.heap.size + 1, 1, none⟩ (.int .i64 (0)) = W9 at *
    obtain ⟨⟨y0, y1⟩, -⟩ := HF.out.cells
    refine bodyPost_ret (v := .tuple #[.agg #[.int .i64 (0), .int .i64 (0)], .int .i64 (thrErr r xs ball)]) (by simp [results, Try.results21, go_sem, y0, y1]) rfl ?_
    exact ⟨by rw [HLV.out]; rfl, HBF.out⟩

set_option maxRecDepth 100000 in
set_option maxHeartbeats 16000000 in
theorem canLeave_c (r : Rk) (A xA Ab lA : Option Addr) (c cx cb cl : Nat) (xs le : List Int) (ball : List Rg) (w : World) (hl : Lks w.heap.size w A r.links) (hc : r.links.length ≤ c ∧ c ≤ 9223372036854775807) (hx : Ints w.heap.size w xA xs) (hcx : xs.length ≤ cx ∧ cx ≤ 9223372036854775807) (hball : Rgs w.heap.size w Ab ball) (hcb : ball.length ≤ cb ∧ cb ≤ 9223372036854775807) (hle : Ints w.heap.size w lA le) (hcl : le.length ≤ cl ∧ cl ≤ 9223372036854775807) :
    Calls Try.prog 32 #[.agg #[.int .i64 r.rows, .int .i64 r.mid, .int .i64 r.gap, .int .i64 r.reach, .slice A r.links.length c], .slice xA xs.length cx, .slice Ab ball.length cb, .slice lA le.length cl] w (Ans w (.bool (canB r xs ball le))) := by
  have HB := Lib.hid (Below.refl w.heap.size w)
  have HLk := Lib.hid hl
  have HG0 := Lib.hid hball
  have HL := Lib.hid hl
  have HX := Lib.hid hx
  have HBa := Lib.hid hball
  have HLe := Lib.hid hle
  clear hl hx hball hle
  have hb : Below w.heap.size w (w.alloc (.cells #[.int .i64 r.rows, .int .i64 r.mid, .int .i64 r.gap, .int .i64 r.reach, .slice A r.links.length c] 39)) := (Below.refl _ _).alloc (Nat.le_refl _) _
  replace HL := Lib.hid (HL.out.step hb)
  replace HX := Lib.hid (HX.out.step hb)
  replace HBa := Lib.hid (HBa.out.step hb)
  replace HLe := Lib.hid (HLe.out.step hb)
  replace HB := Lib.hid (HB.out.trans (hb.mono HB.out.size))
  clear hb
  have k0 : (w.alloc (.cells #[.int .i64 r.rows, .int .i64 r.mid, .int .i64 r.gap, .int .i64 r.reach, .slice A r.links.length c] 39)).cell? ⟨w.heap.size, 0, none⟩ = some (.int .i64 r.rows) := by simp
  have k1 : (w.alloc (.cells #[.int .i64 r.rows, .int .i64 r.mid, .int .i64 r.gap, .int .i64 r.reach, .slice A r.links.length c] 39)).cell? ⟨w.heap.size, 1, none⟩ = some (.int .i64 r.mid) := by simp
  have k2 : (w.alloc (.cells #[.int .i64 r.rows, .int .i64 r.mid, .int .i64 r.gap, .int .i64 r.reach, .slice A r.links.length c] 39)).cell? ⟨w.heap.size, 2, none⟩ = some (.int .i64 r.gap) := by simp
  have k3 : (w.alloc (.cells #[.int .i64 r.rows, .int .i64 r.mid, .int .i64 r.gap, .int .i64 r.reach, .slice A r.links.length c] 39)).cell? ⟨w.heap.size, 3, none⟩ = some (.int .i64 r.reach) := by simp
  have k4 : (w.alloc (.cells #[.int .i64 r.rows, .int .i64 r.mid, .int .i64 r.gap, .int .i64 r.reach, .slice A r.links.length c] 39)).cell? ⟨w.heap.size, 4, none⟩ = some (.slice A r.links.length c) := by simp
  have HTV : Hid (thrV r A c xs ball = if thrErr r xs ball = 0 then .agg #[.int .i64 r.rows, .int .i64 r.mid, .int .i64 r.gap, .int .i64 r.reach, .slice A r.links.length c, .int .u16 (pinS r xs : Int)] else .agg #[.int .i64 0, .int .i64 0, .int .i64 0, .int .i64 0, .slice none 0 0, .int .u16 0]) := rfl
  have HCB : Hid (∀ x : Bool, (x = true ↔ (thrErr r xs ball = 0 ∧ pinErr r le = 0 ∧ LeaveP r (pinS r xs) ball (pinS r le))) → canB r xs ball le = x) := fun x h => Bool.eq_iff_iff.2 (canB_iff.trans h.symm)
  by_cases he : thrErr r xs ball = 0
  · rw [if_pos he] at HTV
    obtain ⟨hpe, hbl⟩ := thrErr_pin he
    have hr := rackOk (pinErr_rack hpe)
    obtain ⟨hbl1, hbl2, hbl3⟩ := ballB_ok hbl
    have hpl := pinS_lt (r := r) (xs := xs)
    have hll := pinS_lt (r := r) (xs := le)
    have HE := Lib.hid he
    have HBL1 := Lib.hid hbl1
    have HBL2 := Lib.hid hbl2
    have HBL3 := Lib.hid hbl3
    clear hbl1 hbl2 hbl3 hbl
    go_enter Try.func32, Try.ntmps32
    go_wp2_with fail
    generalize (w.alloc (.cells #[.int .i64 r.rows, .int .i64 r.mid, .int .i64 r.gap, .int .i64 r.reach, .slice A r.links.length c] 39)) = x2 at *
    refine (thrown_c r A xA Ab c cx cb xs ball _ HL.out hc HX.out hcx HBa.out hcb).mono ?_
    rw [HTV.out, he]
    rintro e x3 ⟨rfl, hb⟩
    replace HL := Lib.hid (HL.out.step hb)
    replace HX := Lib.hid (HX.out.step hb)
    replace HBa := Lib.hid (HBa.out.step hb)
    replace HLe := Lib.hid (HLe.out.step hb)
    replace k0 := cell_of_ans hb k0
    replace k1 := cell_of_ans hb k1
    replace k2 := cell_of_ans hb k2
    replace k3 := cell_of_ans hb k3
    replace k4 := cell_of_ans hb k4
    replace HB := Lib.hid (HB.out.trans (hb.mono HB.out.size))
    clear hb
    clear he HTV
    generalize pinS r xs = pins at *
    have ltk0 := World.block_lt_of_cell? _ _ k0
    dsimp only at ltk0
    go_upto_region 2 with fail
    have hb : Below x3.heap.size x3 (x3.alloc (.cells #[.int .i64 r.rows, .int .i64 r.mid, .int .i64 r.gap, .int .i64 r.reach, .slice A r.links.length c, .int .u16 (pins : Int)] 102)) := (Below.refl _ _).alloc (Nat.le_refl _) _
    replace HL := Lib.hid (HL.out.step hb)
    replace HX := Lib.hid (HX.out.step hb)
    replace HBa := Lib.hid (HBa.out.step hb)
    replace HLe := Lib.hid (HLe.out.step hb)
    replace k0 := cell_of_ans hb k0
    replace k1 := cell_of_ans hb k1
    replace k2 := cell_of_ans hb k2
    replace k3 := cell_of_ans hb k3
    replace k4 := cell_of_ans hb k4
    replace HB := Lib.hid (HB.out.trans (hb.mono HB.out.size))
    clear hb
    have h0 : (x3.alloc (.cells #[.int .i64 r.rows, .int .i64 r.mid, .int .i64 r.gap, .int .i64 r.reach, .slice A r.links.length c, .int .u16 (pins : Int)] 102)).cell? ⟨x3.heap.size, 0, none⟩ = some (.int .i64 r.rows) := by simp
    have h1 : (x3.alloc (.cells #[.int .i64 r.rows, .int .i64 r.mid, .int .i64 r.gap, .int .i64 r.reach, .slice A r.links.length c, .int .u16 (pins : Int)] 102)).cell? ⟨x3.heap.size, 1, none⟩ = some (.int .i64 r.mid) := by simp
    have h2 : (x3.alloc (.cells #[.int .i64 r.rows, .int .i64 r.mid, .int .i64 r.gap, .int .i64 r.reach, .slice A r.links.length c, .int .u16 (pins : Int)] 102)).cell? ⟨x3.heap.size, 2, none⟩ = some (.int .i64 r.gap) := by simp
    have h3 : (x3.alloc (.cells #[.int .i64 r.rows, .int .i64 r.mid, .int .i64 r.gap, .int .i64 r.reach, .slice A r.links.length c, .int .u16 (pins : Int)] 102)).cell? ⟨x3.heap.size, 3, none⟩ = some (.int .i64 r.reach) := by simp
    have h4 : (x3.alloc (.cells #[.int .i64 r.rows, .int .i64 r.mid, .int .i64 r.gap, .int .i64 r.reach, .slice A r.links.length c, .int .u16 (pins : Int)] 102)).cell? ⟨x3.heap.size, 4, none⟩ = some (.slice A r.links.length c) := by simp
    have h5 : (x3.alloc (.cells #[.int .i64 r.rows, .int .i64 r.mid, .int .i64 r.gap, .int .i64 r.reach, .slice A r.links.length c, .int .u16 (pins : Int)] 102)).cell? ⟨x3.heap.size, 5, none⟩ = some (.int .u16 (pins : Int)) := by simp
    generalize (x3.alloc (.cells #[.int .i64 r.rows, .int .i64 r.mid, .int .i64 r.gap, .int .i64 r.reach, .slice A r.links.length c, .int .u16 (pins : Int)] 102)) = x4 at *
    generalize x3.heap.size = hq at *
    by_cases hp : pinErr r le = 0
    · go_wp2_with fail
      refine (pinned_c r A lA c cl le _ HL.out hc HLe.out hcl).mono ?_
      rw [hp]
      rintro e x5 ⟨rfl, hb⟩
      replace HL := Lib.hid (HL.out.step hb)
      replace HX := Lib.hid (HX.out.step hb)
      replace HBa := Lib.hid (HBa.out.step hb)
      replace HLe := Lib.hid (HLe.out.step hb)
      replace k0 := cell_of_ans hb k0
      replace k1 := cell_of_ans hb k1
      replace k2 := cell_of_ans hb k2
      replace k3 := cell_of_ans hb k3
      replace k4 := cell_of_ans hb k4
      replace h0 := cell_of_ans hb h0
      replace h1 := cell_of_ans hb h1
      replace h2 := cell_of_ans hb h2
      replace h3 := cell_of_ans hb h3
      replace h4 := cell_of_ans hb h4
      replace h5 := cell_of_ans hb h5
      replace HB := Lib.hid (HB.out.trans (hb.mono HB.out.size))
      clear hb
      have HP := Lib.hid hp
      clear hp
      generalize hul : pinS r le = ul at *
      clear hul
      go_wp2_with (go_at_call 59; refine (leaves_c r A Ab c cb pins ball _ hr hpl HBL1.out HBL3.out HL.out hc HBa.out hcb).mono ?_; rintro e x6 ⟨b, nb, O, rfl, hO, hOL, hb4, hb⟩; have hlk := hO.look (u := ul) (by omega); replace HB := Lib.hid (HB.out.trans (hb.mono HB.out.size)); have HOL := Lib.hid hOL; clear hb hO hOL hb4)
      go_ret
      exact ⟨ret_bool (HCB.out _ (by rw [HOL.out]; exact ⟨fun h => ⟨HE.out, HP.out, h⟩, fun h => h.2.2⟩)).symm, HB.out⟩
    · have hne : (pinErr r le == 0) = false := by simp [hp]
      go_wp2_with fail
      refine (pinned_c r A lA c cl le _ HL.out hc HLe.out hcl).mono ?_
      rintro e x5 ⟨rfl, hb⟩
      replace HL := Lib.hid (HL.out.step hb)
      replace HX := Lib.hid (HX.out.step hb)
      replace HBa := Lib.hid (HBa.out.step hb)
      replace HLe := Lib.hid (HLe.out.step hb)
      replace k0 := cell_of_ans hb k0
      replace k1 := cell_of_ans hb k1
      replace k2 := cell_of_ans hb k2
      replace k3 := cell_of_ans hb k3
      replace k4 := cell_of_ans hb k4
      replace h0 := cell_of_ans hb h0
      replace h1 := cell_of_ans hb h1
      replace h2 := cell_of_ans hb h2
      replace h3 := cell_of_ans hb h3
      replace h4 := cell_of_ans hb h4
      replace h5 := cell_of_ans hb h5
      replace HB := Lib.hid (HB.out.trans (hb.mono HB.out.size))
      clear hb
      have HP := Lib.hid hp
      clear hp
      go_wp2_with fail
      go_ret
      exact ⟨ret_bool (HCB.out _ ⟨fun h => (by cases h), fun h => absurd h.2.1 HP.out⟩).symm, HB.out⟩
  · rw [if_neg he] at HTV
    have hne : (thrErr r xs ball != 0) = true := by simp [he]
    have HE := Lib.hid he
    clear he
    go_enter Try.func32, Try.ntmps32
    go_wp2_with fail
    generalize (w.alloc (.cells #[.int .i64 r.rows, .int .i64 r.mid, .int .i64 r.gap, .int .i64 r.reach, .slice A r.links.length c] 39)) = x2 at *
    refine (thrown_c r A xA Ab c cx cb xs ball _ HL.out hc HX.out hcx HBa.out hcb).mono ?_
    rw [HTV.out]
    rintro e x3 ⟨rfl, hb⟩
    replace HL := Lib.hid (HL.out.step hb)
    replace HX := Lib.hid (HX.out.step hb)
    replace HBa := Lib.hid (HBa.out.step hb)
    replace HLe := Lib.hid (HLe.out.step hb)
    replace k0 := cell_of_ans hb k0
    replace k1 := cell_of_ans hb k1
    replace k2 := cell_of_ans hb k2
    replace k3 := cell_of_ans hb k3
    replace k4 := cell_of_ans hb k4
    replace HB := Lib.hid (HB.out.trans (hb.mono HB.out.size))
    clear hb
    go_wp2_with fail
    go_ret
    exact ⟨ret_bool (HCB.out _ ⟨fun h => (by cases h), fun h => absurd h.1 HE.out⟩).symm, HB.out.alloc HB.out.size _⟩
end Go.Proofs.Ytpekajnjjhibjaa
