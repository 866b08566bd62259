/-
  Falls.
-/
import Derived.Test.YtpekajnjjhibjaaFallsR
namespace Go.Proofs.Ytpekajnjjhibjaa
open Go.RowKit
set_option linter.unusedSimpArgs false
set_option linter.unusedVariables false

attribute [local go_sem] Oper.semAt_some
/-- The error, and the lists, of Falls. -/
noncomputable def sureL (r : Rk) (xs : List Int) (ball : List Rg) : List Int := if thrErr r xs ball = 0 then natsI (listS (sureS r (pinS r xs) ball)) else []
noncomputable def mayL (r : Rk) (xs : List Int) (ball : List Rg) : List Int := if thrErr r xs ball = 0 then natsI (listS (mayS r (pinS r xs) ball)) else []
def FallsP (w : World) (xs ys : List Int) (err : Int) (e : Ending) (w' : World) : Prop := ∃ A c B d, e = .returned (.tuple #[.slice A xs.length c, .slice B ys.length d, .int .i64 err]) ∧ (Ints w'.heap.size w' A xs ∧ xs.length ≤ c ∧ c ≤ 9223372036854775807) ∧ (Ints w'.heap.size w' B ys ∧ ys.length ≤ d ∧ d ≤ 9223372036854775807) ∧ Below w.heap.size w w'
theorem Ints.took {n : Nat} {w w' : World} {A : Option Addr} {xs : List Int} (h : Ints w.heap.size w A xs) (ht : Took n w w') : Ints w'.heap.size w' A xs := fun hp => by
  obtain ⟨b, off, hA, hlt, hc⟩ := h hp
  refine ⟨b, off, hA, by rw [ht.2.2.2.1]; exact hlt, fun k hk => ?_⟩
  have h1 := hc k hk
  unfold World.cell? at h1 ⊢
  cases h0 : w.heap[b]? with
  | none => simp [h0] at h1
  | some o =>
    simp only [h0] at h1
    cases o with
    | cells c e f => simp only [ht.2.2.2.2.2 b _ h0 rfl]; exact h1
    | _ => simp at h1
theorem and_lt {a b : Nat} (h : a < 2 ^ 10) : a &&& b < 2 ^ 10 := Nat.lt_of_le_of_lt Nat.and_le_left h
theorem At6.kept {W W' : World} {q n₀ : Nat} {S : Nat → Prop} {v0 v1 v2 v3 v4 v5 : Value} (h : At6 W q v0 v1 v2 v3 v4 v5) (hk : KpS n₀ S W W') (hS : ¬ S q) : At6 W' q v0 v1 v2 v3 v4 v5 := hk.block h rfl hS
theorem PcAt.kept {W W' : World} {q u n₀ : Nat} {S : Nat → Prop} (h : PcAt W q u) (hk : KpS n₀ S W W') (hS : ¬ S q) : PcAt W' q u := hk.block h rfl hS
theorem PcAt.own {W W' : World} {q u B : Nat} {row : Option Nat} (h : PcAt W q u) (hg : W.grownBy W' row) (hrow : ∀ r, row = some r → B ≤ r ∧ ∃ o : Obj, W.heap[r]? = some o ∧ o.isCells = false) : PcAt W' q u := (hg.block q h.lt (fun e => by
  obtain ⟨_, ob, ho, hno⟩ := hrow _ e.symm
  rw [show W.heap[q]? = _ from h] at ho
  cases ho
  cases hno)).trans h

set_option maxRecDepth 100000 in
set_option maxHeartbeats 16000000 in
theorem falls17_c (r : Rk) (A xA Ab : Option Addr) (c cx cb : Nat) (xs : List Int) (ball : List Rg) (w : World) (hl : Lks w.heap.size w A r.links) (hc : r.links.length ≤ c ∧ c ≤ 9223372036854775807) (hx : Ints w.heap.size w xA xs) (hcx : xs.length ≤ cx ∧ cx ≤ 9223372036854775807) (hball : Rgs w.heap.size w Ab ball) (hcb : ball.length ≤ cb ∧ cb ≤ 9223372036854775807) :
    Calls Try.prog 17 #[.agg #[.int .i64 r.rows, .int .i64 r.mid, .int .i64 r.gap, .int .i64 r.reach, .slice A r.links.length c], .slice xA xs.length cx, .slice Ab ball.length cb] w (FallsP w (sureL r xs ball) (mayL r xs ball) (thrErr r xs ball)) := by
  have HB := Lib.hid (Below.refl w.heap.size w)
  have HX0 := Lib.hid hx
  have HG0 := Lib.hid hball
  have HLk := Lib.hid hl
  have HL := Lib.hid hl
  have HX := Lib.hid hx
  have HBa := Lib.hid hball
  clear hl hx hball
  have hb : Below w.heap.size w (w.alloc (.cells #[.int .i64 r.rows, .int .i64 r.mid, .int .i64 r.gap, .int .i64 r.reach, .slice A r.links.length c] 39)) := (Below.refl _ _).alloc (Nat.le_refl _) _
  replace HL := Lib.hid (HL.out.step hb)
  replace HX := Lib.hid (HX.out.step hb)
  replace HBa := Lib.hid (HBa.out.step hb)
  replace HB := Lib.hid (HB.out.trans (hb.mono HB.out.size))
  clear hb
  have k0 : (w.alloc (.cells #[.int .i64 r.rows, .int .i64 r.mid, .int .i64 r.gap, .int .i64 r.reach, .slice A r.links.length c] 39)).cell? ⟨w.heap.size, 0, none⟩ = some (.int .i64 r.rows) := by simp
  have k1 : (w.alloc (.cells #[.int .i64 r.rows, .int .i64 r.mid, .int .i64 r.gap, .int .i64 r.reach, .slice A r.links.length c] 39)).cell? ⟨w.heap.size, 1, none⟩ = some (.int .i64 r.mid) := by simp
  have k2 : (w.alloc (.cells #[.int .i64 r.rows, .int .i64 r.mid, .int .i64 r.gap, .int .i64 r.reach, .slice A r.links.length c] 39)).cell? ⟨w.heap.size, 2, none⟩ = some (.int .i64 r.gap) := by simp
  have k3 : (w.alloc (.cells #[.int .i64 r.rows, .int .i64 r.mid, .int .i64 r.gap, .int .i64 r.reach, .slice A r.links.length c] 39)).cell? ⟨w.heap.size, 3, none⟩ = some (.int .i64 r.reach) := by simp
  have k4 : (w.alloc (.cells #[.int .i64 r.rows, .int .i64 r.mid, .int .i64 r.gap, .int .i64 r.reach, .slice A r.links.length c] 39)).cell? ⟨w.heap.size, 4, none⟩ = some (.slice A r.links.length c) := by simp
  have HSL : Hid (sureL r xs ball = if thrErr r xs ball = 0 then natsI (listS (sureS r (pinS r xs) ball)) else []) := rfl
  have HML : Hid (mayL r xs ball = if thrErr r xs ball = 0 then natsI (listS (mayS r (pinS r xs) ball)) else []) := rfl
  have HTV : Hid (thrV r A c xs ball = if thrErr r xs ball = 0 then .agg #[.int .i64 r.rows, .int .i64 r.mid, .int .i64 r.gap, .int .i64 r.reach, .slice A r.links.length c, .int .u16 (pinS r xs : Int)] else .agg #[.int .i64 0, .int .i64 0, .int .i64 0, .int .i64 0, .slice none 0 0, .int .u16 0]) := rfl
  by_cases he : thrErr r xs ball = 0
  · rw [if_pos he] at HSL HML HTV
    obtain ⟨hpe, hbl⟩ := thrErr_pin he
    have hr := rackOk (pinErr_rack hpe)
    obtain ⟨hbl1, hbl2, hbl3⟩ := ballB_ok hbl
    have HBL1 := Lib.hid hbl1
    clear hbl1
    have hpl := pinS_lt (r := r) (xs := xs)
    have HE := Lib.hid he
    refine calls_marks Try.func17 rfl ?_
    simp only [Try.ntmps17, List.size_toArray, List.length_cons, List.length_nil, Nat.reduceAdd, Nat.reduceSub, Array.replicate_succ, Array.replicate_zero, List.push_toArray, List.append_toArray, List.nil_append, List.cons_append]
    go_wp2_with fail
    generalize (w.alloc (.cells #[.int .i64 r.rows, .int .i64 r.mid, .int .i64 r.gap, .int .i64 r.reach, .slice A r.links.length c] 39)) = x1 at *
    refine (thrown_c r A xA Ab c cx cb xs ball _ HL.out hc HX.out hcx HBa.out hcb).mono ?_
    rw [HTV.out, he]
    rintro e x2 ⟨rfl, hb⟩
    replace HL := Lib.hid (HL.out.step hb)
    replace HX := Lib.hid (HX.out.step hb)
    replace HBa := Lib.hid (HBa.out.step hb)
    replace k0 := cell_of_ans hb k0
    replace k1 := cell_of_ans hb k1
    replace k2 := cell_of_ans hb k2
    replace k3 := cell_of_ans hb k3
    replace k4 := cell_of_ans hb k4
    replace HB := Lib.hid (HB.out.trans (hb.mono HB.out.size))
    clear hb
    have HB0w : Hid (w.heap.size ≤ x2.heap.size) := HB.out.size
    clear he HTV
    generalize pinS r xs = pins at *
    have HAI : Hid (alwT r pins ball ball.length = sureS r pins ball) := alw_is hpl hbl2
    have HEI : Hid (eveT r pins ball ball.length = mayS r pins ball) := eve_is hpl
    clear k0 k1 k2 k3 k4 HL HX HBa
    go_wp2_with fail
    have hbx : Below x2.heap.size x2 ((x2.alloc (.cells #[.int .i64 r.rows, .int .i64 r.mid, .int .i64 r.gap, .int .i64 r.reach, .slice A r.links.length c, .int .u16 (pins : Int)] 102)).alloc (.cells #[.int .u16 0] 100)) := ((Below.refl _ _).alloc (Nat.le_refl _) _).alloc (by simp) _
    have HH : Hid (At6 ((x2.alloc (.cells #[.int .i64 r.rows, .int .i64 r.mid, .int .i64 r.gap, .int .i64 r.reach, .slice A r.links.length c, .int .u16 (pins : Int)] 102)).alloc (.cells #[.int .u16 0] 100)) x2.heap.size (.int .i64 r.rows) (.int .i64 r.mid) (.int .i64 r.gap) (.int .i64 r.reach) (.slice A r.links.length c) (.int .u16 (pins : Int))) := (show At6 _ _ _ _ _ _ _ _ from World.alloc_heap_new x2 _).step ((Below.refl _ _).alloc (Nat.le_refl _) _)
    have HE0 : Hid (PcAt ((x2.alloc (.cells #[.int .i64 r.rows, .int .i64 r.mid, .int .i64 r.gap, .int .i64 r.reach, .slice A r.links.length c, .int .u16 (pins : Int)] 102)).alloc (.cells #[.int .u16 0] 100)) (x2.heap.size + 1) 0) := by
      have := World.alloc_heap_new (x2.alloc (.cells #[.int .i64 r.rows, .int .i64 r.mid, .int .i64 r.gap, .int .i64 r.reach, .slice A r.links.length c, .int .u16 (pins : Int)] 102)) (.cells #[.int .u16 0] 100)
      rw [World.size_alloc] at this
      exact this
    replace HB := Lib.hid (HB.out.trans (hbx.mono HB.out.size))
    have hx2 : x2.heap.size + 2 = ((x2.alloc (.cells #[.int .i64 r.rows, .int .i64 r.mid, .int .i64 r.gap, .int .i64 r.reach, .slice A r.links.length c, .int .u16 (pins : Int)] 102)).alloc (.cells #[.int .u16 0] 100)).heap.size := by simp
    have hwx : w.heap.size ≤ x2.heap.size := HB0w.out
    clear hbx
    generalize ((x2.alloc (.cells #[.int .i64 r.rows, .int .i64 r.mid, .int .i64 r.gap, .int .i64 r.reach, .slice A r.links.length c, .int .u16 (pins : Int)] 102)).alloc (.cells #[.int .u16 0] 100)) = x3 at *
    obtain ⟨hq, hhq⟩ : ∃ hq, hq = x2.heap.size := ⟨_, rfl⟩
    rw [← hhq] at HH HE0 hx2 hwx
    simp only [← hhq]
    clear hhq
    refine wp_loop (fun a wr => ∃ s0 s1 s2 s3 s4 s5 s6 s7 s8 s12 s13 s14 s15 s16 s17 s18 s19 s20 s21 s22 s23 s24 s25 s29 s30 s31 s32 s33 s34 s35 s36 s37 s38 s39 s40 s41 s42 s43 s44 s45 s46 s47 s48 s49 s50 s51 s52 s53 s54 s55 s56 s57 s58 s59 : Value, ∃ (k : Nat) (ds : List Deferred), a = { tmps := #[s0, s1, s2, s3, s4, s5, s6, s7, s8, .pointer (some ⟨hq, 0, none⟩), .int .u16 (alwT r pins ball k : Int), .pointer (some ⟨hq + 1, 0, none⟩), s12, s13, s14, s15, s16, s17, s18, s19, s20, s21, s22, s23, s24, s25, .slice Ab ball.length cb, .int .i64 (ball.length : Int), .int .i64 (k : Int), s29, s30, s31, s32, s33, s34, s35, s36, s37, s38, s39, s40, s41, s42, s43, s44, s45, s46, s47, s48, s49, s50, s51, s52, s53, s54, s55, s56, s57, s58, s59], defers := ds } ∧ k ≤ ball.length ∧ PcAt wr (hq + 1) (eveT r pins ball k) ∧ KpS x3.heap.size (fun j => j = hq + 1) x3 wr ∧ Marks x3.heap.size wr ds) (fun a _ => ball.length - (intOf (a.tmps.getD 28 undef)).toNat)
      ⟨_, _, _, _, _, _, _, _, _, _, _, _, _, _, _, _, _, _, _, _, _, _, _, _, _, _, _, _, _, _, _, _, _, _, _, _, _, _, _, _, _, _, _, _, _, _, _, _, _, _, _, _, _, _, 0, [], rfl, by omega, HE0.out, KpS.refl _ _ _, trivial⟩ ?_
    rintro a wr ⟨s0, s1, s2, s3, s4, s5, s6, s7, s8, s12, s13, s14, s15, s16, s17, s18, s19, s20, s21, s22, s23, s24, s25, s29, s30, s31, s32, s33, s34, s35, s36, s37, s38, s39, s40, s41, s42, s43, s44, s45, s46, s47, s48, s49, s50, s51, s52, s53, s54, s55, s56, s57, s58, s59, k, ds, rfl, hk, hEv, hKr, hMr⟩
    have hbw : Below w.heap.size w wr := HB.out.trans (hKr.below (by omega) (by omega) (fun j hj e => by omega))
    have HBW := Lib.hid hbw
    have HKr := Lib.hid hKr
    have HMr := Lib.hid hMr
    have HEv := Lib.hid hEv
    have hwr : x3.heap.size ≤ wr.heap.size := hKr.1
    obtain ⟨⟨h0, h1, h2, h3, h4, h5⟩, -⟩ := (HH.out.kept hKr (by omega)).cells
    clear hbw hKr hMr hEv
    have lth := World.block_lt_of_cell? _ _ h5
    dsimp only at lth
    by_cases hk1 : k < ball.length
    · obtain ⟨b2, o2, hA2, hlt2, c1, c2⟩ := (HG0.out.below HBW.out).at_ hk1
      have hrow := hbl3 k hk1
      have hki : (k : Int) < (ball.length : Int) := by omega
      have HAT : Hid (alwT r pins ball (k + 1) = alwT r pins ball k ||| byT r pins (rowL r pins ball k)) := rfl
      have HET : Hid (eveT r pins ball (k + 1) = evT r pins (eveT r pins ball k) (rowL r pins ball k)) := rfl
      have hal := alwT_lt (ball := ball) (r := r) hpl k
      have hel := eveT_lt (ball := ball) (r := r) hpl k
      have hrl : rowL r pins ball k = (eachL r pins k (gx ball k).lo (gx ball k).hi ((gx ball k).hi - (gx ball k).lo + 1).toNat).map Subtype.val := rfl
      have hby := byT_lt (r := r) hpl (rowL r pins ball k)
      generalize gx ball k = x at *
      obtain ⟨lo, hi⟩ := x
      dsimp only at c1 c2 hrow hrl
      have HRL := Lib.hid hrl
      generalize alwT r pins ball k = al at *
      generalize eveT r pins ball k = ev at *
      generalize rowL r pins ball k = rl at *
      subst hA2
      clear hrl
      go_wp2_with (go_at_call 54; refine (each_c r A c pins k lo hi _).mono ?_; rintro e W7 ⟨rfl, hb7, hz7, hS7⟩)
      have hbA : Below wr.heap.size wr ((wr.alloc (.cells #[.int .i64 lo, .int .i64 hi] 44)).alloc (.cells #[.int .u16 (pins : Int)] 100)) := ((Below.refl _ _).alloc (Nat.le_refl _) _).alloc (by simp) _
      have hsA : ((wr.alloc (.cells #[.int .i64 lo, .int .i64 hi] 44)).alloc (.cells #[.int .u16 (pins : Int)] 100)).heap.size = wr.heap.size + 2 := by simp
      have hB7 : Below wr.heap.size wr W7 := hbA.trans (hb7.mono hbA.size)
      have hBy : PcAt W7 (wr.heap.size + 1) pins := by
        have h := World.alloc_heap_new (wr.alloc (.cells #[.int .i64 lo, .int .i64 hi] 44)) (.cells #[.int .u16 (pins : Int)] 100)
        rw [World.size_alloc] at h
        exact (show PcAt _ _ _ from h).step hb7
      have hEv7 := HEv.out.step hB7
      have hK7 : KpS x3.heap.size (fun j => j = hq + 1) x3 W7 := HKr.out.trans (KpS.of_below hB7)
      have hM7 : Marks x3.heap.size W7 ds := HMr.out.keep fun j ob _ hjo _ => (hB7.block j (Array.getElem?_eq_some_iff.1 hjo).1).trans hjo
      rw [hsA] at hz7 hS7
      skip
      obtain ⟨bb, hbb⟩ : ∃ bb, bb = wr.heap.size + 1 := ⟨_, rfl⟩
      obtain ⟨q, hq7⟩ : ∃ q, q = bb + 1 := ⟨_, rfl⟩
      rw [← hbb] at hBy
      rw [show wr.heap.size + 2 = q by omega] at hS7 hz7
      rw [← hbb, ← hq7]
      have hHr := HH.out.kept HKr.out (by omega)
      have hH7 := hHr.step hB7
      have hwW : w.heap.size ≤ wr.heap.size := by omega
      have hL7 : Lks w.heap.size W7 A r.links := HLk.out.below (HBW.out.trans (hB7.mono hwW))
      have hlt7 : bb < q ∧ hq + 1 < bb ∧ w.heap.size ≤ hq ∧ wr.heap.size < q ∧ x3.heap.size ≤ wr.heap.size ∧ hq + 2 = x3.heap.size := by have := hwr; omega
      have hz8 : q + 3 ≤ W7.heap.size := by omega
      have hwb : wr.heap.size < bb := by omega
      clear hbb hq7 hz7
      have HB7 := Lib.hid hB7
      have HH7 := Lib.hid hH7
      have HL7 := Lib.hid hL7
      have HBy := Lib.hid hBy
      have HEv7 := Lib.hid hEv7
      have HK7 := Lib.hid hK7
      have HM7 := Lib.hid hM7
      have hby10 := byT_lt (r := r) hpl
      clear hHr hB7 hH7 hL7 hBy hEv7 hK7 hM7 hb7 hbA hsA h0 h1 h2 h3 h4 h5 c1 c2
      refine wpIn_wide.1 (wpIn_rangeFunc_ownH (F := Fence.wide) (n := 5) (α := EaX r pins k lo hi) rfl (by omega) (gf := 83) (lb := #[.pointer (some ⟨q + 2, 0, none⟩), .pointer (some ⟨q, 0, none⟩), .pointer (some ⟨q + 1, 0, none⟩)]) rfl trivial (enters_of Try.func83 (by kernel_rfl) rfl)
        (each_stops 4 q r A c pins k lo hi W7.heap.size hr hpl (by omega) (by omega) (by omega) (KpS W7.heap.size (fun j => j = hq + 1 ∨ j = bb)) (fun h k => h.trans k) (fun _ _ _ hb => KpS.of_below hb) (fun _ _ h => h.1)
          (fun W W' hk hs => hs.kept hk ⟨by omega, by omega, by omega⟩) W7 (Nat.le_refl _) hS7)
        (fun h k => h.trans k) ?keepPut (Below.refl _ _) (fun _ => rfl)
        (fun pre W => PcAt W bb (byT r pins (pre.map Subtype.val)) ∧ PcAt W (hq + 1) (evT r pins ev (pre.map Subtype.val)) ∧ KpS W7.heap.size (fun j => j = hq + 1 ∨ j = bb) W7 W)
        (fun _ _ _ => False) ?ownI (fun _ _ _ _ _ hs _ _ => hs) ⟨HBy.out, HEv7.out, KpS.refl _ _ _⟩
        (fun x a' W => a' = { tmps := #[s0, s1, s2, s3, s4, s5, s6, s7, s8, .pointer (some ⟨hq, 0, none⟩), .int .u16 (al : Int), .pointer (some ⟨hq + 1, 0, none⟩), .int .i64 (k : Int), .pointer (some ⟨wr.heap.size, 0, none⟩), .pointer (some ⟨bb, 0, none⟩), .int .u16 (x.1 : Int), s16, s17, s18, s19, s20, s21, s22, s23, s24, s25, .slice (some ⟨b2, o2, none⟩) ball.length cb, .int .i64 (ball.length : Int), .int .i64 (k : Int), .bool true, .int .i64 (k : Int), .pointer (some ⟨b2, o2 + k * 2, none⟩), .agg #[.int .i64 lo, .int .i64 hi], .pointer (some ⟨hq, 5, none⟩), .int .u16 (pins : Int), .agg #[.int .i64 r.rows, .int .i64 r.mid, .int .i64 r.gap, .int .i64 r.reach, .slice A r.links.length c, .int .u16 (pins : Int)], .int .i64 (k : Int), .agg #[.int .i64 lo, .int .i64 hi], .func (.func 83) #[] #[.pointer (some ⟨q + 2, 0, none⟩), .pointer (some ⟨q, 0, none⟩), .pointer (some ⟨q + 1, 0, none⟩)], .int .u16 (x.1 : Int), s40, s41, s42, s43, s44, s45, s46, s47, s48, s49, s50, s51, s52, s53, s54, s55, s56, s57, s58, s59], defers := [] })
        (fun _ _ _ _ _ _ h _ _ => h) ?assign ?body ?done ?stop)
      case keepPut =>
        intro W l x y hl hx hc _
        exact KpS.of_put hl hx hc _
      case ownI =>
        rintro pre W W' row ⟨hv, hw2, hk⟩ hg' hrow
        have h9 := KpS.of_own (S := fun j => j = hq + 1 ∨ j = bb) hg' hrow
        exact ⟨hv.own hg' hrow, hw2.own hg' hrow, hk.trans h9⟩
      case assign =>
        rintro l pre x W K hI hK
        simp only [sEnc]
        gi_wp2
        exact hK _ _ (KeepsFrom.refl _ _) (KpS.refl _ _ _) hI rfl
      case body =>
        rintro l pre x a' W hl ⟨rr, hr'⟩ ⟨hv, hw2, hk⟩ rfl hlt
        have hx10 : x.1 < 2 ^ 10 := by obtain ⟨n, _, _, h⟩ := x.2; rw [h]; exact touchS_lt ..
        have hpre10 : ∀ y ∈ pre.map Subtype.val, y < 2 ^ 10 := fun y hy => by
          obtain ⟨z, _, rfl⟩ := List.mem_map.1 hy
          obtain ⟨n, _, _, h⟩ := z.2
          rw [h]; exact touchS_lt ..
        have hb1 := byT_lt (r := r) hpl (pre.map Subtype.val)
        have he1 := evT_lt (r := r) hpl hel hpre10
        have HN1 : Hid (byT r pins ((pre ++ [x]).map Subtype.val) = byT r pins (pre.map Subtype.val) &&& fallS r.links (surely r.links) pins x.1) := by
          show byT r pins (List.map (α := EaX r pins k lo hi) (fun z => z.1) (pre ++ [x])) = _
          rw [List.map_append, List.map_singleton, byT_snoc]
          rfl
        have HN2 : Hid (evT r pins ev ((pre ++ [x]).map Subtype.val) = evT r pins ev (pre.map Subtype.val) ||| fallS r.links (fun _ => true) pins x.1) := by
          show evT r pins ev (List.map (α := EaX r pins k lo hi) (fun z => z.1) (pre ++ [x])) = _
          rw [List.map_append, List.map_singleton, evT_snoc]
          rfl
        have hbw7 : Below w.heap.size W7 W := hk.below (by have := HB7.out.size; omega) (by have := HB7.out.size; omega) (fun j hj e => by omega)
        have hwW' : w.heap.size ≤ W.heap.size := by have := hk.1; have := HB7.out.size; omega
        have hL8 : Lks W.heap.size W A r.links := (HL7.out.below hbw7).more hwW'
        have hH8 := HH7.out.kept hk (by omega)
        generalize byT r pins (pre.map Subtype.val) = bv at *
        generalize evT r pins ev (pre.map Subtype.val) = ev2 at *
        generalize x.1 = y at *
        refine wpIn_block (wpIn_seq ?_)
        refine falls_reg11 (hq := hq) (bb := bb) (by kernel_rfl) (by rintro ⟨_, _, h⟩; exact h) (fun _ _ _ _ h => h) hr hpl hx10 hb1 hH8 hv hL8 hc (fun W1 hW1 => ?_)
        obtain ⟨Wm, hbm, rfl⟩ := hW1
        have hH9 : At6 (Wm.setCell ⟨bb, 0, none⟩ (.int .u16 ((bv &&& fallS r.links (surely r.links) pins y : Nat) : Int))) hq (.int .i64 r.rows) (.int .i64 r.mid) (.int .i64 r.gap) (.int .i64 r.reach) (.slice A r.links.length c) (.int .u16 (pins : Int)) := (Below.heap_setCell Wm _ _ hq (show hq ≠ bb by omega)).trans (hH8.step hbm)
        have hL9 : Lks (Wm.setCell ⟨bb, 0, none⟩ (.int .u16 ((bv &&& fallS r.links (surely r.links) pins y : Nat) : Int))).heap.size (Wm.setCell ⟨bb, 0, none⟩ (.int .u16 ((bv &&& fallS r.links (surely r.links) pins y : Nat) : Int))) A r.links :=
          (((HL7.out.below hbw7).below (hbm.mono hwW')).below ((Below.refl _ _).setCell (show w.heap.size ≤ bb by omega) _)).more (by have := hbm.size; simp [World.setCell]; omega)
        have hv9 := (hv.step hbm).set (bv &&& fallS r.links (surely r.links) pins y)
        have hw9 := (hw2.step hbm).far (q' := bb) (i := 0) (by omega) (.int .u16 ((bv &&& fallS r.links (surely r.links) pins y : Nat) : Int))
        have hk9 : KpS W7.heap.size (fun j => j = hq + 1 ∨ j = bb) W (Wm.setCell ⟨bb, 0, none⟩ (.int .u16 ((bv &&& fallS r.links (surely r.links) pins y : Nat) : Int))) := (KpS.of_below hbm).trans (KpS.of_set (.inr rfl) _)
        have hf9 : KeepsFrom W7.heap.size W (Wm.setCell ⟨bb, 0, none⟩ (.int .u16 ((bv &&& fallS r.links (surely r.links) pins y : Nat) : Int))) := ((KeepsOthers.of_grownBy (only_below hbm none) (fun _ _ e => by cases e)).trans (KeepsOthers.setCell _ _ _)).from _
        clear hbm
        generalize Wm.setCell ⟨bb, 0, none⟩ (.int .u16 ((bv &&& fallS r.links (surely r.links) pins y : Nat) : Int)) = W1 at *
        refine falls_reg12 (hq := hq) (bb := bb) (by kernel_rfl) (by rintro ⟨_, _, h⟩; exact h) (fun _ _ _ _ h => h) hr hpl hx10 he1 hH9 hw9 hL9 hc (fun W2 hW2 => ?_)
        obtain ⟨Wn, hbn, rfl⟩ := hW2
        have hk2 : KpS W7.heap.size (fun j => j = hq + 1 ∨ j = bb) W (Wn.setCell ⟨hq + 1, 0, none⟩ (.int .u16 ((ev2 ||| fallS r.links (fun _ => true) pins y : Nat) : Int))) := hk9.trans ((KpS.of_below hbn).trans (KpS.of_set (.inl rfl) _))
        refine ⟨hf9.trans (((KeepsOthers.of_grownBy (only_below hbn none) (fun _ _ e => by cases e)).trans (KeepsOthers.setCell _ _ _)).from _), hk2, ?_, ?_, hk.trans hk2⟩
        · rw [HN1.out]
          exact (hv9.step hbn).far (by omega) _
        · rw [HN2.out]
          exact (hw9.step hbn).set _
      case done =>
        rintro D ys W hD rfl ⟨hv, hw2, hk⟩ hK
        have e1 : (eachL r pins k lo hi (hi - lo + 1).toNat).map Subtype.val = rl := HRL.out.symm
        rw [e1] at hv hw2
        obtain ⟨p0, -⟩ := hv.cell
        have HV := Lib.hid hv
        have HW2 := Lib.hid hw2
        have HKD := Lib.hid hk
        have HD := Lib.hid hK
        have HOR : Hid (bits .or .u16 (al : Int) (byT r pins rl : Int) = ((al ||| byT r pins rl : Nat) : Int)) := or_nat _ _ hal hby
        have e2 := HOR.out
        have hw1 : IntKind.i64.wrap ((k : Int) + 1) = (k : Int) + 1 := IntWalk.i64_in _ (by omega)
        clear hv hw2 hk hK e1
        go_wp2_with fail
        rw [show ((k : Int) + 1) = ((k + 1 : Nat) : Int) by omega, ← HAT.out]
        refine ⟨⟨_, _, _, _, _, _, _, _, _, _, _, _, _, _, _, _, _, _, _, _, _, _, _, _, _, _, _, _, _, _, _, _, _, _, _, _, _, _, _, _, _, _, _, _, _, _, _, _, _, _, _, _, _, _, k + 1, _, rfl, by omega, ?_, ?_, ⟨D, ?_, rfl, HD.out, ?_⟩, ?_⟩, ?_⟩
        · rw [HET.out]; exact HW2.out
        · have h1 := HK7.out
          have h2 := HKD.out
          exact ⟨Nat.le_trans h1.1 h2.1, h2.2.1.trans h1.2.1, h2.2.2.1.trans h1.2.2.1, h2.2.2.2.1.trans h1.2.2.2.1, fun j o h0 h3 h4 => by
            have hj := (Array.getElem?_eq_some_iff.1 h0).1
            have hj2 := h1.1
            exact h2.2.2.2.2 j o (h1.2.2.2.2 j o h0 h3 h4) (.inl (by omega)) (fun h => h.elim h4 (fun h => by omega))⟩
        · have := HB7.out.size
          omega
        · intro d' hd' e
          obtain ⟨D', h2, h3⟩ := HM7.out.lt d' hd'
          rw [h2] at e
          injection e with e
          omega
        · refine HM7.out.keep fun j ob hBj hjo hno => HKD.out.2.2.2.2 j ob hjo (.inl (Array.getElem?_eq_some_iff.1 hjo).1) ?_
          rintro (h | h)
          · omega
          · rw [h, show W7.heap[bb]? = _ from HBy.out] at hjo
            cases hjo
            cases hno
        · simp [intOf]
          omega
      case stop => exact fun _ _ _ _ _ _ h _ => h.elim
    · obtain rfl : k = ball.length := by omega
      have HEv2 := HEv
      rw [HEI.out] at HEv2
      rw [HAI.out]
      have hs1 : sureS r pins ball < 65536 := by have := sureS_lt (r := r) (pins := pins) (ball := ball); omega
      have hs2 : mayS r pins ball < 65536 := by have := mayS_lt (r := r) (pins := pins) (ball := ball); omega
      obtain ⟨p0, -⟩ := HEv2.out.cell
      clear HEv HEv2 HAI HEI h0 h1 h2 h3 h4 h5
      generalize sureS r pins ball = SS at *
      generalize mayS r pins ball = MS at *
      have hd : Below wr.heap.size wr wr.drew := (Below.refl _ _).drew
      have HBR : Hid (Below wr.heap.size wr wr.drew) := hd
      have HT1 : Hid True := trivial
      clear hd
      go_wp2_with fail
      go_region_held3 (fun w' => w'.cell? ⟨hq + 1, 0, none⟩ = some (.int .u16 (MS : Int))) (go_keep) (first | (go_at_call 58; have _t := HT1; refine (list_s SS _ hs1).mono ?_; rintro e w8 ⟨A1, c1, rfl, hO1, hb⟩; obtain ⟨hc1, hc2, hI1⟩ := isInts_parts (ownsRow_isInts hO1); have HI1 := Lib.hid hI1; have p0 := cell_of_ans (below_drew_l hb) p0; replace HBR := Lib.hid (HBR.out.trans (hb.mono HBR.out.size)); clear hb hO1 hI1 HT1) | (go_at_call 58; refine (list_s MS _ hs2).mono ?_; rintro e w9 ⟨A2, c2, rfl, hO2, hb⟩; obtain ⟨hc3, hc4, hI2⟩ := isInts_parts (ownsRow_isInts hO2); have HI2 := Lib.hid hI2; replace HI1 := Lib.hid (HI1.out.step hb); have p0 := cell_of_ans hb p0; replace HBR := Lib.hid (HBR.out.trans (hb.mono HBR.out.size)); clear hb hO2 hI2))
      go_wp2_with fail
      refine leaves_marks (B := x3.heap.size) ds _ (HMr.out.keep fun k ob hk hko _ => (HBR.out.block k (Array.getElem?_eq_some_iff.1 hko).1).trans hko) fun w8 h8 => ?_
      refine ⟨_, results_tmp3 rfl _ _ _, ?_⟩
      have hz := HBR.out.size
      rw [HSL.out, HML.out, HE.out]
      refine ⟨A1, c1, A2, c2, rfl, ⟨HI1.out.took h8, hc1, hc2⟩, ⟨HI2.out.took h8, hc3, hc4⟩, ?_⟩
      exact (HBW.out.trans (HBR.out.mono HBW.out.size)).trans ⟨h8.1, h8.2.1, h8.2.2.1, by rw [h8.2.2.2.1]; exact Nat.le_refl _, fun j hj => h8.2.2.2.2.1 j (by omega)⟩
  · rw [if_neg he] at HSL HML HTV
    have hne : (thrErr r xs ball != 0) = true := by simp [he]
    clear he
    refine calls_marks Try.func17 rfl ?_
    simp only [Try.ntmps17, List.size_toArray, List.length_cons, List.length_nil, Nat.reduceAdd, Nat.reduceSub, Array.replicate_succ, Array.replicate_zero, List.push_toArray, List.append_toArray, List.nil_append, List.cons_append]
    go_wp2_with fail
    generalize (w.alloc (.cells #[.int .i64 r.rows, .int .i64 r.mid, .int .i64 r.gap, .int .i64 r.reach, .slice A r.links.length c] 39)) = x1 at *
    refine (thrown_c r A xA Ab c cx cb xs ball _ HL.out hc HX.out hcx HBa.out hcb).mono ?_
    rw [HTV.out]
    rintro e x2 ⟨rfl, hb⟩
    replace HL := Lib.hid (HL.out.step hb)
    replace HX := Lib.hid (HX.out.step hb)
    replace HBa := Lib.hid (HBa.out.step hb)
    replace k0 := cell_of_ans hb k0
    replace k1 := cell_of_ans hb k1
    replace k2 := cell_of_ans hb k2
    replace k3 := cell_of_ans hb k3
    replace k4 := cell_of_ans hb k4
    replace HB := Lib.hid (HB.out.trans (hb.mono HB.out.size))
    clear hb
    go_wp2_with fail
    refine ⟨_, results_tmp3 rfl _ _ _, ?_⟩
    rw [HSL.out, HML.out]
    exact ⟨none, 0, none, 0, rfl, ⟨fun h => by simp at h, by simp, by omega⟩, ⟨fun h => by simp at h, by simp, by omega⟩, HB.out.alloc HB.out.size _⟩
end Go.Proofs.Ytpekajnjjhibjaa
