/-
  The games of a frame, one by one.
-/
import Derived.Test.YtadjkinpimmhkaaFits
import Derived.WalkMore
namespace Go.Proofs.Ytadjkinpimmhkaa
open Go.RowKit

attribute [local go_sem] Oper.semAt_some

theorem wpIn_scope_wide {n : Nat} {P : Program} {c : Code} {Q : Exit → Act → World → Prop} {a : Act} {w : World} (h : c.wpIn Fence.wide n P (Exit.noGoto Q) a w) : (Code.scope c).wpIn Fence.wide n P Q a w := wpIn_wide.2 (wp_scope_straight (wpIn_wide.1 h))

/-- All pairs ahead of (f, s). -/
def upTo (f s : Nat) : List (Nat × Nat) := (List.range f).flatMap (fun a => (List.range (a + 1)).map fun b => (a, b)) ++ (List.range s).map fun b => (f, b)
theorem upTo_succ (f s : Nat) : upTo f (s + 1) = upTo f s ++ [(f, s)] := by simp [upTo, List.range_succ]
theorem upTo_next (f : Nat) : upTo (f + 1) 0 = upTo f (f + 1) := by simp [upTo, List.range_succ (n := f)]
/-- Does a word not stand against a game of a frame? -/
def okW (fr : Int) (o : Nat → Bool) (x : Wd) (f s : Nat) : Bool := !(decide (x.fr = fr)) || (o x.te.toNat || fitsB x (f : Int) (s : Int))
noncomputable def okB (ws : List Wd) (fr : Int) (o : Nat → Bool) (p : Nat × Nat) : Bool := allB ws.length fun k => okW fr o (wx ws k) p.1 p.2
noncomputable def gamesTo (ws : List Wd) (fr : Int) (o : Nat → Bool) (f s : Nat) : List (Nat × Nat) := (upTo f s).filter (okB ws fr o)
noncomputable def gamesL (ws : List Wd) (fr : Int) (o : Nat → Bool) : List (Nat × Nat) := gamesTo ws fr o 11 0
theorem gamesTo_no {ws : List Wd} {fr : Int} {o : Nat → Bool} {f s : Nat} (h : okB ws fr o (f, s) = false) : gamesTo ws fr o f (s + 1) = gamesTo ws fr o f s := by simp [gamesTo, upTo_succ, List.filter_append, h]
theorem gamesTo_yes {ws : List Wd} {fr : Int} {o : Nat → Bool} {f s : Nat} (h : okB ws fr o (f, s) = true) : gamesTo ws fr o f (s + 1) = gamesTo ws fr o f s ++ [(f, s)] := by simp [gamesTo, upTo_succ, List.filter_append, h]
theorem gamesTo_next (ws : List Wd) (fr : Int) (o : Nat → Bool) (f : Nat) : gamesTo ws fr o (f + 1) 0 = gamesTo ws fr o f (f + 1) := by simp [gamesTo, upTo_next]
theorem upTo_len : ∀ f s, f ≤ 11 → s ≤ 11 → (upTo f s).length ≤ 66 + 11 := by
  intro f s hf hs
  have : ∀ f, f ≤ 11 → (upTo f 0).length ≤ 66 := by decide
  have h := this f hf
  have e : (upTo f s).length = (upTo f 0).length + s := by simp [upTo]
  omega
theorem gamesTo_len (ws : List Wd) (fr : Int) (o : Nat → Bool) {f s : Nat} (hf : f ≤ 11) (hs : s ≤ 11) : (gamesTo ws fr o f s).length ≤ 77 := Nat.le_trans (List.length_filter_le _ _) (upTo_len f s hf hs)
theorem upTo_bd {f s : Nat} (hf : f ≤ 11) (hs : s ≤ f + 1) {p : Nat × Nat} (h : p ∈ upTo f s) : p.1 ≤ 11 ∧ p.2 ≤ p.1 := by
  simp only [upTo, List.mem_append, List.mem_flatMap, List.mem_map, List.mem_range] at h
  rcases h with ⟨a, ha, b, hb, rfl⟩ | ⟨b, hb, rfl⟩
  · dsimp only; omega
  · dsimp only; omega
theorem gamesL_bd {ws : List Wd} {fr : Int} {o : Nat → Bool} {p : Nat × Nat} (h : p ∈ gamesL ws fr o) : p.1 ≤ 10 ∧ p.2 ≤ p.1 := by
  have h := (List.mem_filter.1 h).1
  simp only [upTo, List.mem_append, List.mem_flatMap, List.mem_map, List.mem_range] at h
  rcases h with ⟨a, ha, b, hb, rfl⟩ | ⟨b, hb, rfl⟩
  · dsimp only; omega
  · omega

def offV (o : Nat → Bool) : Value := .agg #[.bool (o 0), .bool (o 1), .bool (o 2), .bool (o 3)]

/-- What the iterator reads: its three captured variables (from block q on), the watch (block p), the words. -/
structure GSt (B : Nat) (W : World) (q p : Nat) (fr frn : Int) (o : Nat → Bool) (A : Option Addr) (c : Nat) (ws : List Wd) : Prop where
  x : W.cell? ⟨q, 0, none⟩ = some (.pointer (some ⟨p, 0, none⟩))
  f : W.cell? ⟨q + 1, 0, none⟩ = some (.int .i64 fr)
  o : ∀ j, j < 4 → W.cell? ⟨q + 2, j, none⟩ = some (.bool (o j))
  n : W.cell? ⟨p, 0, none⟩ = some (.int .i64 frn)
  l : W.cell? ⟨p, 1, none⟩ = some (.slice A ws.length c)
  w : Wds B W A ws

theorem GSt.below {B : Nat} {W W' : World} {q p : Nat} {fr frn : Int} {o : Nat → Bool} {A : Option Addr} {c : Nat} {ws : List Wd} (h : GSt B W q p fr frn o A c ws) (hb : Below W.heap.size W W') (hB : B ≤ W.heap.size) : GSt B W' q p fr frn o A c ws :=
  ⟨cell_of_ans hb h.x, cell_of_ans hb h.f, fun j hj => cell_of_ans hb (h.o j hj), cell_of_ans hb h.n, cell_of_ans hb h.l, h.w.below (hb.mono hB)⟩

set_option maxHeartbeats 400000 in
theorem games_c (p : Nat) (fr : Int) (o : Nat → Bool) (w : World) :
    Calls Try.prog 68 #[.pointer (some ⟨p, 0, none⟩), .int .i64 fr, .agg #[.bool (o 0), .bool (o 1), .bool (o 2), .bool (o 3)]] w fun e w' => e = .returned (.func (.func 79) #[] #[.pointer (some ⟨w.heap.size, 0, none⟩), .pointer (some ⟨w.heap.size + 1, 0, none⟩), .pointer (some ⟨w.heap.size + 2, 0, none⟩)]) ∧
      ((w.alloc (.cells #[.pointer (some ⟨p, 0, none⟩)] 90)).alloc (.cells #[.int .i64 fr] 3)).alloc (.cells #[.bool (o 0), .bool (o 1), .bool (o 2), .bool (o 3)] 92) = w' := by
  go_enter Try.func68, Try.ntmps68
  go_wp2
  go_ret
  exact ⟨rfl, rfl⟩

def gEnc (x : Nat × Nat) : Array Value := #[.agg #[.int .i64 (x.1 : Int), .int .i64 (x.2 : Int)]]

set_option maxRecDepth 100000 in
set_option maxHeartbeats 4000000 in
theorem games1_in {B : Nat} (n l q p c : Nat) (fr frn : Int) (o : Nat → Bool) (A : Option Addr) (ws : List Wd) (n₀ : Nat) (hBn : B ≤ n₀) (hl9 : ws.length ≤ 1000000) (hok : ∀ k, k < ws.length → wordB frn (wx ws k) = true) (Kp : World → World → Prop) (hKt : ∀ {A B C : World}, Kp A B → Kp B C → Kp A C) (hKb : ∀ A B : World, n₀ ≤ A.heap.size → Below A.heap.size A B → Kp A B) (hKz : ∀ A B : World, Kp A B → A.heap.size ≤ B.heap.size)
    (hKc : ∀ W W', Kp W W' → GSt B W q p fr frn o A c ws → GSt B W' q p fr frn o A c ws) (J Jx : List (Nat × Nat) → World → Prop) (hJb : ∀ pre W W', J pre W → Below W.heap.size W W' → J pre W')
    (hY : ∀ pre x W, J pre W → pre.length < 100 → YieldAt Fence.wide (n - 1) Try.prog l (gEnc x) W fun e W' =>
      (e = .returned (.bool true) ∧ J (pre ++ [x]) W' ∧ Kp W W') ∨ (e = .returned (.bool false) ∧ Jx (pre ++ [x]) W'))
    (W : World) (hn : n₀ ≤ W.heap.size) (hS : GSt B W q p fr frn o A c ws) (h0 : J [] W) :
    CallsIn Fence.wide n Try.prog 79 #[.func (.yield l) #[] #[], .pointer (some ⟨q, 0, none⟩), .pointer (some ⟨q + 1, 0, none⟩), .pointer (some ⟨q + 2, 0, none⟩)] W fun e W' => (∃ v, e = .returned v) ∧
      ((∃ ys, ys = gamesL ws fr o ∧ J ys W') ∨ (∃ pre, True ∧ Jx pre W')) := by
  refine callsIn_of_wp Try.func79 rfl trivial ?_ rfl
  simp only [Try.ntmps79, List.size_toArray, List.length_cons, List.length_nil, Nat.reduceAdd, Nat.reduceSub, Array.replicate_succ, Array.replicate_zero, List.push_toArray, List.append_toArray, List.nil_append, List.cons_append]
  have HS := Lib.hid hS
  have HOK := Lib.hid hok
  clear hS hok
  gi_wp2
  gi_loopw [11] (fun i wr => ∃ f : Nat, f ≤ 11 ∧ i = .int .i64 f ∧ J (gamesTo ws fr o f 0) wr ∧ Kp W wr)
    (fun i _ => 11 - (intOf i).toNat)
  case atStart => exact ⟨0, Nat.zero_le _, rfl, h0, hKb _ _ hn (Below.refl _ _)⟩
  case round =>
    obtain ⟨f, hf, rfl, hJ, hK⟩ := hrel
    by_cases hf1 : f < 11
    · have HJ := Lib.hid hJ
      have HK := Lib.hid hK
      clear hJ hK
      have hfi : (f : Int) < 11 := by omega
      gi_wp2
      refine wpIn_scope_wide ?_
      gi_wp2
      refine wpIn_label ?_
      gi_wp2
      gi_loopw [16] (fun i wr => ∃ s : Nat, s ≤ f + 1 ∧ i = .int .i64 s ∧ J (gamesTo ws fr o f s) wr ∧ Kp W wr)
        (fun i _ => f + 1 - (intOf i).toNat)
      case atStart => exact ⟨0, Nat.zero_le _, rfl, HJ.out, HK.out⟩
      case round =>
        obtain ⟨s, hs, rfl, hJ, hK⟩ := hrel
        rename World => wm
        clear HJ HK
        have HJ := Lib.hid hJ
        have HK := Lib.hid hK
        have hS1 := hKc _ _ hK HS.out
        clear hJ hK
        by_cases hs1 : s < f + 1
        · have hsi : (s : Int) < (f : Int) + 1 := by omega
          have x1 := hS1.x
          have x2 := hS1.l
          have hq0 : q < wm.heap.size := World.block_lt_of_cell? wm _ x1
          have hp0 : p < wm.heap.size := World.block_lt_of_cell? wm _ x2
          have hb0 : Below wm.heap.size wm (wm.alloc (.cells #[.int .i64 (f : Int), .int .i64 (s : Int)] 111)) := (Below.refl _ _).alloc (Nat.le_refl _) _
          have y0 : (wm.alloc (.cells #[.int .i64 (f : Int), .int .i64 (s : Int)] 111)).cell? ⟨wm.heap.size, 0, none⟩ = some (.int .i64 (f : Int)) := by simp
          have y1 : (wm.alloc (.cells #[.int .i64 (f : Int), .int .i64 (s : Int)] 111)).cell? ⟨wm.heap.size, 1, none⟩ = some (.int .i64 (s : Int)) := by simp
          have HB0 := Lib.hid hb0
          have HS1 := Lib.hid hS1
          clear hb0 hS1
          gi_wp2
          generalize wm.alloc (.cells #[.int .i64 (f : Int), .int .i64 (s : Int)] 111) = wq at y0 y1 HB0 ⊢
          gi_loopw [28] (fun i wt => ∃ k : Nat, k ≤ ws.length ∧ i = .int .i64 k ∧ AllB k (fun k => okW fr o (wx ws k) f s) ∧ Below wq.heap.size wq wt)
            (fun i _ => ws.length - (intOf i).toNat)
          case atStart => exact ⟨0, Nat.zero_le _, rfl, fun j hj => by omega, Below.refl _ _⟩
          case round =>
            obtain ⟨k, hk, rfl, hAll, hbt⟩ := hrel
            rename World => wt
            have HALL := Lib.hid hAll
            have HBT := Lib.hid hbt
            have hz0 := HB0.out.size
            have hzt := hbt.size
            have hnr : n₀ ≤ wm.heap.size := Nat.le_trans hn (hKz _ _ HK.out)
            have HBr : Hid (Below wm.heap.size wm wt) := HB0.out.trans (hbt.mono hz0)
            have hSt := HS1.out.below HBr.out (by omega)
            have z0 := cell_of_ans hbt y0
            have z1 := cell_of_ans hbt y1
            clear hAll hbt
            by_cases hk1 : k < ws.length
            · obtain ⟨b, off, hA, hbB, c1, c2, c3, c4, c5⟩ := hSt.w.at_ hk1
              subst hA
              have hv := HOK.out k hk1
              have hbl : b < wt.heap.size := by omega
              have HOW : Hid (okW fr o (wx ws k) f s = (!(decide ((wx ws k).fr = fr)) || (o (wx ws k).te.toNat || fitsB (wx ws k) (f : Int) (s : Int)))) := rfl
              generalize hx : wx ws k = x at c1 c2 c3 c4 c5 hv HOW
              have HX := Lib.hid hx
              clear hx
              obtain ⟨xf, xb, xt, xl, xh⟩ := x
              dsimp only at c1 c2 c3 c4 c5
              have hv' : (inB xf 0 (frn - 1) && (inB xb 0 1 && (inB xt 0 3 && (decide (0 ≤ xl) && (decide (xl ≤ xh) && decide (xh ≤ 10)))))) = true := hv
              simp only [Bool.and_eq_true, inB_eq, decide_eq_true_eq] at hv'
              obtain ⟨-, ⟨hxb0, hxb1⟩, ⟨hxt0, hxt3⟩, -⟩ := hv'
              clear hv
              have x1 := hSt.x
              have x3 := hSt.f
              obtain ⟨tn, rfl⟩ : ∃ tn : Nat, xt = (tn : Int) := ⟨xt.toNat, by omega⟩
              have htn : tn < 4 := by omega
              have x4 := hSt.o tn htn
              have hq1 : q < wt.heap.size := World.block_lt_of_cell? wt _ x1
              have hq2 : q + 1 < wt.heap.size := World.block_lt_of_cell? wt _ x3
              have hq3 : q + 2 < wt.heap.size := World.block_lt_of_cell? wt _ x4
              have hzz : wm.heap.size < wt.heap.size := World.block_lt_of_cell? wt _ z0
              have hbw : Below wt.heap.size wt (wt.alloc (.cells #[.int .i64 xf, .int .i64 xb, .int .i64 (tn : Int), .int .i64 xl, .int .i64 xh] 85)) := (Below.refl _ _).alloc (Nat.le_refl _) _
              have HW := Lib.hid hbw
              have HF := Lib.hid (fits_c ⟨xf, xb, (tn : Int), xl, xh⟩ (f : Int) (s : Int) (wt.alloc (.cells #[.int .i64 xf, .int .i64 xb, .int .i64 (tn : Int), .int .i64 xl, .int .i64 xh] 85)) (show xb = 0 ∨ xb = 1 by omega))
              clear hSt hbw
              dsimp only [wV] at HF
              have hki : (k : Int) < (ws.length : Int) := by omega
              by_cases e1 : xf = fr
              · have e1' : (xf == fr) = true := by simp [e1]
                cases e2 : o tn
                · rw [e2] at x4
                  cases e3 : fitsB ⟨xf, xb, (tn : Int), xl, xh⟩ (f : Int) (s : Int)
                  · have HFV := Lib.hid e3
                    have HNO : Hid (okB ws fr o (f, s) = false) := by show _ = _; exact allB_false hk1 (by show okW _ _ _ _ _ = _; rw [HX.out, okW, e3]; simp [e1, e2])
                    clear e3 e1 e2
                    gi_wp2
                    refine ⟨trivial, fun h => by simp [Fence.wide] at h, (callsIn_wide.2 HF.out).mono ?_⟩
                    rw [HFV.out]
                    rintro e w1 ⟨rfl, hb1⟩
                    have HB1 := Lib.hid hb1
                    clear hb1
                    gi_wp2
                    refine ⟨⟨s + 1, by omega, by go_num, ?_, ?_⟩, by simp [intOf]; omega⟩
                    · rw [gamesTo_no HNO.out]
                      exact hJb _ _ _ HJ.out (HBr.out.trans ((HW.out.trans (HB1.out.mono HW.out.size)).mono HBr.out.size))
                    · exact hKt HK.out (hKb _ _ hnr (HBr.out.trans ((HW.out.trans (HB1.out.mono HW.out.size)).mono HBr.out.size)))
                  · have HFV := Lib.hid e3
                    have HYES : Hid (okW fr o (wx ws k) f s = true) := by show _ = _; rw [HX.out, okW, e3]; simp
                    clear e3 e1 e2
                    gi_wp2
                    refine ⟨trivial, fun h => by simp [Fence.wide] at h, (callsIn_wide.2 HF.out).mono ?_⟩
                    rw [HFV.out]
                    rintro e w1 ⟨rfl, hb1⟩
                    have HB1 := Lib.hid hb1
                    clear hb1
                    gi_wp2
                    go_roundw
                    case rel => exact ⟨k + 1, by omega, by go_num, HALL.out.succ HYES.out, HBT.out.trans ((HW.out.trans (HB1.out.mono HW.out.size)).mono HBT.out.size)⟩
                    case measure => simp [intOf]; omega
                · rw [e2] at x4
                  have HYES : Hid (okW fr o (wx ws k) f s = true) := by show _ = _; rw [HX.out, okW]; simp [e2]
                  clear e1 e2
                  gi_wp2
                  refine ⟨(fun _ h => by cases h), ?_⟩
                  gi_wp2
                  go_roundw
                  case rel => exact ⟨k + 1, by omega, by go_num, HALL.out.succ HYES.out, HBT.out.trans (HW.out.mono HBT.out.size)⟩
                  case measure => simp [intOf]; omega
              · have e1' : (xf == fr) = false := by simp [e1]
                have HYES : Hid (okW fr o (wx ws k) f s = true) := by show _ = _; rw [HX.out, okW]; simp [e1]
                clear e1
                gi_wp2
                refine ⟨(fun _ h => by cases h), ?_⟩
                gi_wp2
                go_roundw
                case rel => exact ⟨k + 1, by omega, by go_num, HALL.out.succ HYES.out, HBT.out.trans (HW.out.mono HBT.out.size)⟩
                case measure => simp [intOf]; omega
            · obtain rfl : k = ws.length := by omega
              have HYES : Hid (okB ws fr o (f, s) = true) := by show _ = _; exact allB_true HALL.out
              obtain ⟨fn, tmps, assign, body, hy, hR⟩ := hY _ (f, s) wt (hJb _ _ _ HJ.out HBr.out) (by have := gamesTo_len ws fr o (f := f) (s := s) (by omega) (by omega); omega)
              unfold gEnc at hy
              dsimp only at hy
              have HR := Lib.hid hR
              clear hR hSt
              gi_wp2
              refine ⟨fun h => by simp [Fence.wide] at h, ?_⟩
              refine HR.out.mono ?_
              rintro e W3 (⟨rfl, hJ3, hk3⟩ | ⟨rfl, hJx3⟩)
              · have HJ3 := Lib.hid hJ3
                have HK3 := Lib.hid hk3
                clear hJ3 hk3
                gi_wp2
                refine ⟨⟨s + 1, by omega, by go_num, ?_, ?_⟩, by simp [intOf]; omega⟩
                · rw [gamesTo_yes HYES.out]
                  exact HJ3.out
                · exact hKt (hKt HK.out (hKb _ _ hnr HBr.out)) HK3.out
              · have HJX := Lib.hid hJx3
                clear hJx3
                gi_wp2
                simp +zetaDelta only [Exit.noGoto_ret, Exit.inBlock, Exit.then]
                refine bodyPost_ret (results_none rfl _ _ _) rfl ?_
                exact ⟨⟨_, rfl⟩, .inr ⟨_, trivial, HJX.out⟩⟩
        · have hsi : ¬ ((s : Int) < (f : Int) + 1) := by omega
          obtain rfl : s = f + 1 := by omega
          gi_wp2
          refine ⟨⟨f + 1, by omega, by go_num, by rw [gamesTo_next]; exact HJ.out, HK.out⟩, by simp [intOf]; omega⟩
    · obtain rfl : f = 11 := by omega
      have HJ := Lib.hid hJ
      clear hJ hK
      gi_wp2
      refine bodyPost_end (v := .tuple #[]) (results_none rfl _ _ _) rfl ?_
      exact ⟨⟨_, rfl⟩, .inl ⟨_, rfl, HJ.out⟩⟩

theorem games_stops {B : Nat} (n q p c : Nat) (fr frn : Int) (o : Nat → Bool) (A : Option Addr) (ws : List Wd) (n₀ : Nat) (hBn : B ≤ n₀) (hl9 : ws.length ≤ 1000000) (hok : ∀ k, k < ws.length → wordB frn (wx ws k) = true) (Kp : World → World → Prop) (hKt : ∀ {A B C : World}, Kp A B → Kp B C → Kp A C) (hKb : ∀ A B : World, n₀ ≤ A.heap.size → Below A.heap.size A B → Kp A B) (hKz : ∀ A B : World, Kp A B → A.heap.size ≤ B.heap.size)
    (hKc : ∀ W W', Kp W W' → GSt B W q p fr frn o A c ws → GSt B W' q p fr frn o A c ws) (w : World) (hn : n₀ ≤ w.heap.size) (hS : GSt B w q p fr frn o A c ws) :
    SeqStopsK Fence.wide n Try.prog 79 #[.pointer (some ⟨q, 0, none⟩), .pointer (some ⟨q + 1, 0, none⟩), .pointer (some ⟨q + 2, 0, none⟩)] gEnc Kp (fun ys => ys = gamesL ws fr o) (fun _ => True) 100 w :=
  fun l J Jx W hW hJ _ hY h0 => games1_in n l q p c fr frn o A ws n₀ hBn hl9 hok Kp hKt hKb hKz hKc J Jx (fun pre W W' h hb => hJ pre W W' none h (only_below hb none) (fun _ e => by cases e)) hY W (Nat.le_trans hn hW.size) (hS.below hW (Nat.le_trans hBn hn)) h0
end Go.Proofs.Ytadjkinpimmhkaa
