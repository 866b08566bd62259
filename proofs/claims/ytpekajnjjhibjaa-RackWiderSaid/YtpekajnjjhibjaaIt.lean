/-
  The iterators: each (the sets of pins of a row that a ball can reach), neighbours.
-/
import Derived.Test.YtpekajnjjhibjaaB5
import Derived.Test.YtpekajnjjhibjaaR
import Derived.WalkMore
namespace Go.Proofs.Ytpekajnjjhibjaa
open Go.RowKit
set_option linter.unusedSimpArgs false
set_option linter.unusedVariables false

attribute [local go_sem] Oper.semAt_some
theorem wpIn_scope_wide {n : Nat} {P : Program} {c : Code} {Q : Exit → Act → World → Prop} {a : Act} {w : World} (h : c.wpIn Fence.wide n P (Exit.noGoto Q) a w) : (Code.scope c).wpIn Fence.wide n P Q a w := wpIn_wide.2 (wp_scope_straight (wpIn_wide.1 h))
/-- All blocks ahead of n₀, and all blocks of cells, are kept, but those of S. -/
def KpS (n₀ : Nat) (S : Nat → Prop) (A B : World) : Prop := A.heap.size ≤ B.heap.size ∧ B.os = A.os ∧ B.tape = A.tape ∧ B.output = A.output ∧ ∀ (k : Nat) (o : Obj), A.heap[k]? = some o → (k < n₀ ∨ o.isCells = true) → ¬ S k → B.heap[k]? = some o
section
variable {n₀ : Nat} {S : Nat → Prop} {A B C : World}
theorem KpS.refl (n₀ : Nat) (S : Nat → Prop) (A : World) : KpS n₀ S A A := ⟨Nat.le_refl _, rfl, rfl, rfl, fun _ _ h _ _ => h⟩
theorem KpS.trans (h : KpS n₀ S A B) (k : KpS n₀ S B C) : KpS n₀ S A C := ⟨Nat.le_trans h.1 k.1, k.2.1.trans h.2.1, k.2.2.1.trans h.2.2.1, k.2.2.2.1.trans h.2.2.2.1, fun i o h0 h1 h2 => k.2.2.2.2 i o (h.2.2.2.2 i o h0 h1 h2) h1 h2⟩
theorem KpS.of_below (h : Below A.heap.size A B) : KpS n₀ S A B := ⟨h.size, h.os, h.tape, h.output, fun i _ h0 _ _ => (h.block i (Array.getElem?_eq_some_iff.1 h0).1).trans h0⟩
theorem KpS.of_set {ad : Addr} (h : S ad.block) (v : Value) : KpS n₀ S A (A.setCell ad v) :=
  ⟨by simp [World.setCell], rfl, rfl, rfl, fun i _ h0 _ h2 => (Below.heap_setCell A ad v i (by rintro rfl; exact h2 h)).trans h0⟩
theorem KpS.of_put {l : Nat} {o : Obj} (hl : n₀ ≤ l) (h : A.heap[l]? = some o) (hc : o.isCells = false) (o' : Obj) : KpS n₀ S A (A.putObj l o') :=
  ⟨by simp, rfl, rfl, rfl, fun i x h0 h1 _ => (World.putObj_heap_other (by
    rintro rfl
    rcases h1 with h1 | h1
    · omega
    · rw [h] at h0; cases h0; rw [hc] at h1; cases h1)).trans h0⟩
theorem KpS.of_grown {row : Option Nat} (h : A.grownBy B row) (hr : ∀ q, row = some q → S q) : KpS n₀ S A B := ⟨h.size, h.os, h.tape, h.output, fun i _ h0 _ h2 => (h.block i (Array.getElem?_eq_some_iff.1 h0).1 (fun e => h2 (hr i e.symm))).trans h0⟩
theorem KpS.block (h : KpS n₀ S A B) {k : Nat} {o : Obj} (h0 : A.heap[k]? = some o) (hc : o.isCells = true) (h2 : ¬ S k) : B.heap[k]? = some o := h.2.2.2.2 k o h0 (.inr hc) h2
theorem KpS.cell (h : KpS n₀ S A B) {p : Addr} {v : Value} (hc : A.cell? p = some v) (h2 : ¬ S p.block) : B.cell? p = some v := by
  unfold World.cell? at hc ⊢
  cases h0 : A.heap[p.block]? with
  | none => rw [h0] at hc; cases hc
  | some o =>
    rw [h0] at hc
    cases o with
    | cells c e f => rw [h.block h0 rfl h2]; exact hc
    | _ => cases hc
theorem KpS.below {b : Nat} (h : KpS n₀ S A B) (hb : b ≤ n₀) (hA : b ≤ A.heap.size) (h2 : ∀ k, k < b → ¬ S k) : Below b A B := ⟨h.2.1, h.2.2.1, h.2.2.2.1, h.1, fun k hk => by
  obtain ⟨o, ho⟩ : ∃ o, A.heap[k]? = some o := ⟨_, Array.getElem?_eq_getElem (by omega)⟩
  rw [h.2.2.2.2 k o ho (.inl (by omega)) (h2 k hk), ho]⟩
theorem KpS.less {n₁ : Nat} (h : KpS n₀ S A B) (hn : n₁ ≤ n₀) : KpS n₁ S A B := ⟨h.1, h.2.1, h.2.2.1, h.2.2.2.1, fun k o h0 h1 h2 => h.2.2.2.2 k o h0 (h1.imp (by omega) id) h2⟩
theorem KpS.more {S' : Nat → Prop} (h : KpS n₀ S A B) (hS : ∀ k, S k → S' k) : KpS n₀ S' A B := ⟨h.1, h.2.1, h.2.2.1, h.2.2.2.1, fun k o h0 h1 h2 => h.2.2.2.2 k o h0 h1 fun hs => h2 (hS k hs)⟩
end

/-- What each reads: its box of the rack (q), the row (q + 1), the range (q + 2). -/
structure EaSt (W : World) (q : Nat) (r : Rk) (A : Option Addr) (c pins row : Nat) (lo hi : Int) : Prop where
  h0 : W.cell? ⟨q, 0, none⟩ = some (.int .i64 r.rows)
  h1 : W.cell? ⟨q, 1, none⟩ = some (.int .i64 r.mid)
  h2 : W.cell? ⟨q, 2, none⟩ = some (.int .i64 r.gap)
  h3 : W.cell? ⟨q, 3, none⟩ = some (.int .i64 r.reach)
  h4 : W.cell? ⟨q, 4, none⟩ = some (.slice A r.links.length c)
  h5 : W.cell? ⟨q, 5, none⟩ = some (.int .u16 (pins : Int))
  rw : W.cell? ⟨q + 1, 0, none⟩ = some (.int .i64 (row : Int))
  lo : W.cell? ⟨q + 2, 0, none⟩ = some (.int .i64 lo)
  hi : W.cell? ⟨q + 2, 1, none⟩ = some (.int .i64 hi)
theorem EaSt.below {W W' : World} {q : Nat} {r : Rk} {A : Option Addr} {c pins row : Nat} {lo hi : Int} (h : EaSt W q r A c pins row lo hi) (hb : Below W.heap.size W W') : EaSt W' q r A c pins row lo hi :=
  ⟨cell_of_ans hb h.h0, cell_of_ans hb h.h1, cell_of_ans hb h.h2, cell_of_ans hb h.h3, cell_of_ans hb h.h4, cell_of_ans hb h.h5, cell_of_ans hb h.rw, cell_of_ans hb h.lo, cell_of_ans hb h.hi⟩
theorem EaSt.kept {W W' : World} {q : Nat} {r : Rk} {A : Option Addr} {c pins row : Nat} {lo hi : Int} {n₀ : Nat} {S : Nat → Prop} (h : EaSt W q r A c pins row lo hi) (hk : KpS n₀ S W W') (hS : ¬ S q ∧ ¬ S (q + 1) ∧ ¬ S (q + 2)) : EaSt W' q r A c pins row lo hi :=
  ⟨hk.cell h.h0 hS.1, hk.cell h.h1 hS.1, hk.cell h.h2 hS.1, hk.cell h.h3 hS.1, hk.cell h.h4 hS.1, hk.cell h.h5 hS.1, hk.cell h.rw hS.2.1, hk.cell h.lo hS.2.2, hk.cell h.hi hS.2.2⟩
/-- One of the sets of pins of a row that a ball can reach. -/
def EaX (r : Rk) (pins row : Nat) (lo hi : Int) : Type := {x : Nat // ∃ n : Int, lo ≤ n ∧ n ≤ hi ∧ x = touchS r pins row n}
noncomputable def eachL (r : Rk) (pins row : Nat) (lo hi : Int) : Nat → List (EaX r pins row lo hi)
  | 0 => []
  | k + 1 => if h : lo + (k : Int) ≤ hi then eachL r pins row lo hi k ++ [⟨touchS r pins row (lo + (k : Int)), lo + (k : Int), by omega, h, rfl⟩] else eachL r pins row lo hi k
theorem eachL_succ (r : Rk) (pins row : Nat) (lo hi : Int) (k : Nat) (h : lo + (k : Int) ≤ hi) : eachL r pins row lo hi (k + 1) = eachL r pins row lo hi k ++ [⟨touchS r pins row (lo + (k : Int)), lo + (k : Int), by omega, h, rfl⟩] := by rw [eachL, dif_pos h]
theorem eachL_len (r : Rk) (pins row : Nat) (lo hi : Int) : ∀ k : Nat, (eachL r pins row lo hi k).length ≤ k
  | 0 => Nat.le_refl _
  | k + 1 => by
    have := eachL_len r pins row lo hi k
    rw [eachL]; split
    · rw [List.length_append]; exact Nat.succ_le_succ this
    · omega
theorem mem_eachL {r : Rk} {pins row : Nat} {lo hi n : Int} (h1 : lo ≤ n) (h2 : n ≤ hi) : ∀ {k : Nat}, n < lo + (k : Int) → ∃ x ∈ eachL r pins row lo hi k, x.1 = touchS r pins row n
  | 0, h => by omega
  | k + 1, h => by
    by_cases e : n = lo + (k : Int)
    · rw [eachL_succ r pins row lo hi k (by omega)]
      exact ⟨_, List.mem_append_right _ (List.mem_singleton.2 rfl), congrArg (touchS r pins row) e.symm⟩
    · obtain ⟨x, hx, hv⟩ := mem_eachL (r := r) (pins := pins) (row := row) h1 h2 (k := k) (by omega)
      refine ⟨x, ?_, hv⟩
      rw [eachL]; split
      · exact List.mem_append_left _ hx
      · exact hx
def sEnc {r : Rk} {pins row : Nat} {lo hi : Int} (x : EaX r pins row lo hi) : Array Value := #[.int .u16 (x.1 : Int)]

set_option maxHeartbeats 400000 in
theorem each_c (r : Rk) (A : Option Addr) (c pins row : Nat) (lo hi : Int) (w : World) :
    Calls Try.prog 54 #[.agg #[.int .i64 r.rows, .int .i64 r.mid, .int .i64 r.gap, .int .i64 r.reach, .slice A r.links.length c, .int .u16 (pins : Int)], .int .i64 (row : Int), .agg #[.int .i64 lo, .int .i64 hi]] w fun e w' => e = .returned (.func (.func 83) #[] #[.pointer (some ⟨w.heap.size + 2, 0, none⟩), .pointer (some ⟨w.heap.size, 0, none⟩), .pointer (some ⟨w.heap.size + 1, 0, none⟩)]) ∧
      Below w.heap.size w w' ∧ w'.heap.size = w.heap.size + 3 ∧ EaSt w' w.heap.size r A c pins row lo hi := by
  have HE : Hid (EaSt (((w.alloc (.cells #[.int .i64 r.rows, .int .i64 r.mid, .int .i64 r.gap, .int .i64 r.reach, .slice A r.links.length c, .int .u16 (pins : Int)] 102)).alloc (.cells #[.int .i64 (row : Int)] 3)).alloc (.cells #[.int .i64 lo, .int .i64 hi] 44)) w.heap.size r A c pins row lo hi) := ⟨by go_simp, by go_simp, by go_simp, by go_simp, by go_simp, by go_simp, by go_simp, by go_simp, by go_simp⟩
  have HB : Hid (Below w.heap.size w (((w.alloc (.cells #[.int .i64 r.rows, .int .i64 r.mid, .int .i64 r.gap, .int .i64 r.reach, .slice A r.links.length c, .int .u16 (pins : Int)] 102)).alloc (.cells #[.int .i64 (row : Int)] 3)).alloc (.cells #[.int .i64 lo, .int .i64 hi] 44))) := (((Below.refl _ _).alloc (Nat.le_refl _) _).alloc (by simp) _).alloc (by simp; omega) _
  go_enter Try.func54, Try.ntmps54
  go_wp2
  go_ret
  exact ⟨rfl, HB.out, by simp, HE.out⟩

set_option maxRecDepth 100000 in
set_option maxHeartbeats 4000000 in
theorem each1_in (n l q : Nat) (r : Rk) (A : Option Addr) (c pins row : Nat) (lo hi : Int) (n₀ : Nat) (hr : Ok r) (hp : pins < 2 ^ 10) (hlo : 0 ≤ lo) (hlh : lo ≤ hi) (hhi : hi ≤ 60) (Kp : World → World → Prop) (hKt : ∀ {A B C : World}, Kp A B → Kp B C → Kp A C) (hKb : ∀ A B : World, n₀ ≤ A.heap.size → Below A.heap.size A B → Kp A B) (hKz : ∀ A B : World, Kp A B → A.heap.size ≤ B.heap.size)
    (hKc : ∀ W W', Kp W W' → EaSt W q r A c pins row lo hi → EaSt W' q r A c pins row lo hi) (J Jx : List (EaX r pins row lo hi) → World → Prop) (hJb : ∀ pre W W', J pre W → Below W.heap.size W W' → J pre W')
    (hY : ∀ pre x W, J pre W → pre.length < 100 → YieldAt Fence.wide (n - 1) Try.prog l (sEnc x) W fun e W' =>
      (e = .returned (.bool true) ∧ J (pre ++ [x]) W' ∧ Kp W W') ∨ (e = .returned (.bool false) ∧ Jx (pre ++ [x]) W'))
    (W : World) (hn : n₀ ≤ W.heap.size) (hS : EaSt W q r A c pins row lo hi) (h0 : J [] W) :
    CallsIn Fence.wide n Try.prog 83 #[.func (.yield l) #[] #[], .pointer (some ⟨q + 2, 0, none⟩), .pointer (some ⟨q, 0, none⟩), .pointer (some ⟨q + 1, 0, none⟩)] W fun e W' => (∃ v, e = .returned v) ∧
      ((∃ ys, ys = eachL r pins row lo hi (hi - lo + 1).toNat ∧ J ys W') ∨ (∃ pre, True ∧ Jx pre W')) := by
  refine callsIn_of_wp Try.func83 rfl trivial ?_ rfl
  simp only [Try.ntmps83, List.size_toArray, List.length_cons, List.length_nil, Nat.reduceAdd, Nat.reduceSub, Array.replicate_succ, Array.replicate_zero, List.push_toArray, List.append_toArray, List.nil_append, List.cons_append]
  have HS := Lib.hid hS
  have s7 := hS.lo
  clear hS
  gi_wp2
  gi_loopw [5] (fun i wr => ∃ k : Nat, lo + (k : Int) ≤ hi + 1 ∧ i = .int .i64 (lo + (k : Int)) ∧ J (eachL r pins row lo hi k) wr ∧ Kp W wr)
    (fun i _ => (hi + 1 - intOf i).toNat)
  case atStart => exact ⟨0, by omega, by simp, h0, hKb _ _ hn (Below.refl _ _)⟩
  case round =>
    obtain ⟨k, hk, rfl, hJ, hK⟩ := hrel
    have HJ := Lib.hid hJ
    have HK := Lib.hid hK
    have hS1 := hKc _ _ hK HS.out
    have hnr : n₀ ≤ wr.heap.size := Nat.le_trans hn (hKz _ _ hK)
    clear hJ hK s7
    obtain ⟨s0, s1, s2, s3, s4, s5, s6, s7, s8⟩ := hS1
    by_cases hk1 : lo + (k : Int) ≤ hi
    · have HL := Lib.hid (eachL_succ r pins row lo hi k hk1)
      have HT := Lib.hid (touched_c r A c pins row (lo + (k : Int)) wr hr hp (by omega) (by omega))
      have hlen := eachL_len r pins row lo hi k
      have hk100 : k < 100 := by omega
      have hw : IntKind.i64.wrap (lo + (k : Int) + 1) = lo + (k : Int) + 1 := IntWalk.i64_in _ (by omega)
      have HNX : Hid (lo + (k : Int) + 1 = lo + ((k + 1 : Nat) : Int)) := by show _ = _; omega
      obtain ⟨ex, hex⟩ : ∃ ex : EaX r pins row lo hi, ex = ⟨touchS r pins row (lo + (k : Int)), lo + (k : Int), by omega, hk1, rfl⟩ := ⟨_, rfl⟩
      rw [← hex] at HL
      have hexv : touchS r pins row (lo + (k : Int)) = ex.1 := by rw [hex]
      rw [hexv] at HT
      clear hex hexv
      generalize eachL r pins row lo hi k = pre at *
      generalize hz : lo + (k : Int) = z at *
      have HZ := Lib.hid hz
      clear hz
      gi_wp2
      refine ⟨trivial, fun h => by simp [Fence.wide] at h, (callsIn_wide.2 HT.out).mono ?_⟩
      rintro e w1 ⟨rfl, hb1⟩
      have HB1 := Lib.hid hb1
      obtain ⟨fn, tmps, assign, body, hy, hR⟩ := hY _ ex w1 (hJb _ _ _ HJ.out HB1.out) (by omega)
      unfold sEnc at hy
      have HR := Lib.hid hR
      clear hR hb1
      gi_wp2
      refine ⟨fun h => by simp [Fence.wide] at h, ?_⟩
      refine HR.out.mono ?_
      rintro e W3 (⟨rfl, hJ3, hk3⟩ | ⟨rfl, hJx3⟩)
      · have HJ3 := Lib.hid hJ3
        have HK3 := Lib.hid hk3
        clear hJ3 hk3
        gi_wp2
        refine ⟨⟨k + 1, by have := HZ.out; omega, by rw [← HNX.out], ?_, ?_⟩, by simp [intOf]; omega⟩
        · rw [HL.out]
          exact HJ3.out
        · exact hKt (hKt HK.out (hKb _ _ hnr HB1.out)) HK3.out
      · have HJX := Lib.hid hJx3
        clear hJx3
        gi_wp2
        try simp +zetaDelta only [Exit.noGoto_ret, Exit.inBlock, Exit.then]
        refine bodyPost_ret (results_none rfl _ _ _) rfl ?_
        exact ⟨⟨_, rfl⟩, .inr ⟨_, trivial, HJX.out⟩⟩
    · have hke : k = (hi - lo + 1).toNat := by omega
      gi_wp2
      refine bodyPost_end (v := .tuple #[]) (results_none rfl _ _ _) rfl ?_
      have hj := HJ.out
      rw [hke] at hj
      exact ⟨⟨_, rfl⟩, .inl (by first | exact ⟨_, rfl, hj⟩ | exact hj)⟩

theorem each_stops (n q : Nat) (r : Rk) (A : Option Addr) (c pins row : Nat) (lo hi : Int) (n₀ : Nat) (hr : Ok r) (hp : pins < 2 ^ 10) (hlo : 0 ≤ lo) (hlh : lo ≤ hi) (hhi : hi ≤ 60) (Kp : World → World → Prop) (hKt : ∀ {A B C : World}, Kp A B → Kp B C → Kp A C) (hKb : ∀ A B : World, n₀ ≤ A.heap.size → Below A.heap.size A B → Kp A B) (hKz : ∀ A B : World, Kp A B → A.heap.size ≤ B.heap.size)
    (hKc : ∀ W W', Kp W W' → EaSt W q r A c pins row lo hi → EaSt W' q r A c pins row lo hi) (w : World) (hn : n₀ ≤ w.heap.size) (hS : EaSt w q r A c pins row lo hi) :
    SeqStopsK Fence.wide n Try.prog 83 #[.pointer (some ⟨q + 2, 0, none⟩), .pointer (some ⟨q, 0, none⟩), .pointer (some ⟨q + 1, 0, none⟩)] sEnc Kp (fun ys => ys = eachL r pins row lo hi (hi - lo + 1).toNat) (fun _ => True) 100 w :=
  fun l J Jx W hW hJ _ hY h0 => each1_in n l q r A c pins row lo hi n₀ hr hp hlo hlh hhi Kp hKt hKb hKz hKc J Jx (fun pre W W' h hb => hJ pre W W' none h (only_below hb none) (fun _ e => by cases e)) hY W (Nat.le_trans hn hW.size) (hS.below hW) h0

/-- What neighbours reads: its box of the rack (q), the pin (q + 1). -/
structure NbSt (W : World) (q : Nat) (r : Rk) (A : Option Addr) (c p : Nat) : Prop where
  h0 : W.cell? ⟨q, 0, none⟩ = some (.int .i64 r.rows)
  h1 : W.cell? ⟨q, 1, none⟩ = some (.int .i64 r.mid)
  h2 : W.cell? ⟨q, 2, none⟩ = some (.int .i64 r.gap)
  h3 : W.cell? ⟨q, 3, none⟩ = some (.int .i64 r.reach)
  h4 : W.cell? ⟨q, 4, none⟩ = some (.slice A r.links.length c)
  pn : W.cell? ⟨q + 1, 0, none⟩ = some (.int .i64 (p : Int))
theorem NbSt.below {W W' : World} {q : Nat} {r : Rk} {A : Option Addr} {c p : Nat} (h : NbSt W q r A c p) (hb : Below W.heap.size W W') : NbSt W' q r A c p :=
  ⟨cell_of_ans hb h.h0, cell_of_ans hb h.h1, cell_of_ans hb h.h2, cell_of_ans hb h.h3, cell_of_ans hb h.h4, cell_of_ans hb h.pn⟩
theorem NbSt.kept {W W' : World} {q : Nat} {r : Rk} {A : Option Addr} {c p : Nat} {n₀ : Nat} {S : Nat → Prop} (h : NbSt W q r A c p) (hk : KpS n₀ S W W') (hS : ¬ S q ∧ ¬ S (q + 1)) : NbSt W' q r A c p :=
  ⟨hk.cell h.h0 hS.1, hk.cell h.h1 hS.1, hk.cell h.h2 hS.1, hk.cell h.h3 hS.1, hk.cell h.h4 hS.1, hk.cell h.pn hS.2⟩
/-- A neighbour of a pin. -/
def NbX (p : Nat) : Type := {n : Nat // n < 10 ∧ nbB p n = true}
def nbL (p : Nat) : Nat → List (NbX p)
  | 0 => []
  | m + 1 => if h : m < 10 ∧ nbB p m = true then nbL p m ++ [⟨m, h⟩] else nbL p m
theorem nbL_yes {p m : Nat} (h : m < 10 ∧ nbB p m = true) : nbL p (m + 1) = nbL p m ++ [⟨m, h⟩] := by rw [nbL, dif_pos h]
theorem nbL_no {p m : Nat} (h : nbB p m = false) : nbL p (m + 1) = nbL p m := by rw [nbL, dif_neg (fun h' => by rw [h'.2] at h; cases h)]
theorem nbL_len (p : Nat) : ∀ m : Nat, (nbL p m).length ≤ m
  | 0 => Nat.le_refl _
  | m + 1 => by
    have := nbL_len p m
    rw [nbL]; split
    · rw [List.length_append]; exact Nat.succ_le_succ this
    · omega
theorem mem_nbL {p n : Nat} (h : n < 10 ∧ nbB p n = true) : ∀ {m : Nat}, n < m → ∃ x ∈ nbL p m, x.1 = n
  | 0, hm => by omega
  | m + 1, hm => by
    by_cases e : n = m
    · subst e
      rw [nbL_yes h]
      exact ⟨_, List.mem_append_right _ (List.mem_singleton.2 rfl), rfl⟩
    · obtain ⟨x, hx, hv⟩ := mem_nbL h (m := m) (by omega)
      refine ⟨x, ?_, hv⟩
      rw [nbL]; split
      · exact List.mem_append_left _ hx
      · exact hx
def iEnc {p : Nat} (x : NbX p) : Array Value := #[.int .i64 (x.1 : Int)]
/-- What the iterator works out of two places. -/
def nbI (x i y k : Int) : Bool := (decide (x = y) && (decide (i - k = 1) || decide (k - i = 1))) || (decide (y = x - 1) && (decide (k = i) || decide (k = i - 1))) || (decide (y = x + 1) && (decide (k = i) || decide (k = i + 1)))
theorem nbI_eq : ∀ a, a < 10 → ∀ b, b < 10 → nbI (rowP a) (atP a) (rowP b) (atP b) = nbB a b := by decide

set_option maxHeartbeats 400000 in
theorem neighbours_c (r : Rk) (A : Option Addr) (c p : Nat) (w : World) :
    Calls Try.prog 98 #[.agg #[.int .i64 r.rows, .int .i64 r.mid, .int .i64 r.gap, .int .i64 r.reach, .slice A r.links.length c], .int .i64 (p : Int)] w fun e w' => e = .returned (.func (.func 107) #[] #[.pointer (some ⟨w.heap.size + 1, 0, none⟩), .pointer (some ⟨w.heap.size, 0, none⟩)]) ∧
      Below w.heap.size w w' ∧ w'.heap.size = w.heap.size + 2 ∧ NbSt w' w.heap.size r A c p := by
  have HE : Hid (NbSt ((w.alloc (.cells #[.int .i64 r.rows, .int .i64 r.mid, .int .i64 r.gap, .int .i64 r.reach, .slice A r.links.length c] 39)).alloc (.cells #[.int .i64 (p : Int)] 3)) w.heap.size r A c p) := ⟨by go_simp, by go_simp, by go_simp, by go_simp, by go_simp, by go_simp⟩
  have HB : Hid (Below w.heap.size w ((w.alloc (.cells #[.int .i64 r.rows, .int .i64 r.mid, .int .i64 r.gap, .int .i64 r.reach, .slice A r.links.length c] 39)).alloc (.cells #[.int .i64 (p : Int)] 3))) := ((Below.refl _ _).alloc (Nat.le_refl _) _).alloc (by simp) _
  go_enter Try.func98, Try.ntmps98
  go_wp2
  go_ret
  exact ⟨rfl, HB.out, by simp, HE.out⟩

set_option maxRecDepth 100000 in
set_option maxHeartbeats 8000000 in
theorem nb1_in (n l q : Nat) (r : Rk) (A : Option Addr) (c p : Nat) (n₀ : Nat) (hr : Ok r) (hp : p < 10) (Kp : World → World → Prop) (hKt : ∀ {A B C : World}, Kp A B → Kp B C → Kp A C) (hKb : ∀ A B : World, n₀ ≤ A.heap.size → Below A.heap.size A B → Kp A B) (hKz : ∀ A B : World, Kp A B → A.heap.size ≤ B.heap.size)
    (hKc : ∀ W W', Kp W W' → NbSt W q r A c p → NbSt W' q r A c p) (hKn : ∀ W W' b o v, Kp W W' → n₀ ≤ b → b < W.heap.size → W.cell? ⟨b, o, none⟩ = some v → W'.cell? ⟨b, o, none⟩ = some v) (J Jx : List (NbX p) → World → Prop) (hJb : ∀ pre W W', J pre W → Below W.heap.size W W' → J pre W')
    (hY : ∀ pre x W, J pre W → pre.length < 100 → YieldAt Fence.wide (n - 1) Try.prog l (iEnc x) W fun e W' =>
      (e = .returned (.bool true) ∧ J (pre ++ [x]) W' ∧ Kp W W') ∨ (e = .returned (.bool false) ∧ Jx (pre ++ [x]) W'))
    (W : World) (hn : n₀ ≤ W.heap.size) (hS : NbSt W q r A c p) (h0 : J [] W) :
    CallsIn Fence.wide n Try.prog 107 #[.func (.yield l) #[] #[], .pointer (some ⟨q + 1, 0, none⟩), .pointer (some ⟨q, 0, none⟩)] W fun e W' => (∃ v, e = .returned v) ∧
      ((∃ ys, ys = nbL p (pn r.rows) ∧ J ys W') ∨ (∃ pre, True ∧ Jx pre W')) := by
  refine callsIn_of_wp Try.func107 rfl trivial ?_ rfl
  simp only [Try.ntmps107, List.size_toArray, List.length_cons, List.length_nil, Nat.reduceAdd, Nat.reduceSub, Array.replicate_succ, Array.replicate_zero, List.push_toArray, List.append_toArray, List.nil_append, List.cons_append]
  have HS := Lib.hid hS
  have sp := hS.pn
  have HW1 := Lib.hid (where_c p W hp)
  have hpn := pn_le hr.rows1 hr.rows4
  have hpl := place_le hp
  clear hS
  gi_wp2
  refine ⟨trivial, fun h => by simp [Fence.wide] at h, (callsIn_wide.2 HW1.out).mono ?_⟩
  rintro e w1 ⟨rfl, hb1⟩
  have hb2 : Below W.heap.size W (w1.alloc (.cells #[.int .i64 (rowP p : Int), .int .i64 (atP p : Int)] 155)) := hb1.alloc hb1.size _
  have t0 : (w1.alloc (.cells #[.int .i64 (rowP p : Int), .int .i64 (atP p : Int)] 155)).cell? ⟨w1.heap.size, 0, none⟩ = some (.int .i64 (rowP p : Int)) := by simp
  have t1 : (w1.alloc (.cells #[.int .i64 (rowP p : Int), .int .i64 (atP p : Int)] 155)).cell? ⟨w1.heap.size, 1, none⟩ = some (.int .i64 (atP p : Int)) := by simp
  have hS2 := HS.out.below hb2
  have hntb : n₀ ≤ w1.heap.size := Nat.le_trans hn hb1.size
  have HB2 := Lib.hid hb2
  have HS2 := Lib.hid hS2
  obtain ⟨s0, s1, s2, s3, s4, s5⟩ := hS2
  clear hb1 hb2 sp
  gi_wp2
  generalize w1.alloc (.cells #[.int .i64 (rowP p : Int), .int .i64 (atP p : Int)] 155) = w2 at *
  have ltb := World.block_lt_of_cell? _ _ t0
  dsimp only at ltb
  generalize w1.heap.size = tb at *
  refine ⟨trivial, fun h => by simp [Fence.wide] at h, (callsIn_wide.2 (pins_c r.rows r.mid r.gap r.reach A r.links.length c w2 hr.rows1 hr.rows4)).mono ?_⟩
  rintro e w3 ⟨rfl, hb3⟩
  have HB3 : Hid (Below W.heap.size W w3) := HB2.out.trans (hb3.mono HB2.out.size)
  have t03 := cell_of_ans hb3 t0
  have t13 := cell_of_ans hb3 t1
  have HS3 := Lib.hid (HS2.out.below hb3)
  have hz3 := hb3.size
  clear hb3 t0 t1 s0 s1 s2 s3 s4 s5
  gi_wp2
  gi_loopw [14] (fun i wr => ∃ k : Nat, k ≤ pn r.rows ∧ i = .int .i64 (k : Int) ∧ J (nbL p k) wr ∧ Kp W wr ∧ tb < wr.heap.size ∧ wr.cell? ⟨tb, 0, none⟩ = some (.int .i64 (rowP p : Int)) ∧ wr.cell? ⟨tb, 1, none⟩ = some (.int .i64 (atP p : Int)))
    (fun i _ => (pn r.rows - (intOf i).toNat))
  case atStart => exact ⟨0, by omega, rfl, hJb _ _ _ h0 HB3.out, hKb _ _ hn HB3.out, by omega, t03, t13⟩
  case round =>
    obtain ⟨k, hk, rfl, hJ, hK, htb, u0, u1⟩ := hrel
    have HJ := Lib.hid hJ
    have HK := Lib.hid hK
    have hnr : n₀ ≤ wr.heap.size := Nat.le_trans hn (hKz _ _ hK)
    have HS4 := Lib.hid (hKc _ _ hK HS.out)
    clear hJ hK t03 t13
    by_cases hk1 : k < pn r.rows
    · have hki : (k : Int) < (pn r.rows : Int) := by omega
      have hk10 : k < 10 := by omega
      have HWk := Lib.hid (where_c k wr hk10)
      have hkl := place_le hk10
      have HNB := Lib.hid (nbI_eq p hp k hk10)
      have HY1 : Hid (nbB p k = true → ∃ ex : NbX p, ex.1 = k ∧ nbL p (k + 1) = nbL p k ++ [ex]) := fun h => ⟨⟨k, hk10, h⟩, rfl, nbL_yes ⟨hk10, h⟩⟩
      have HY0 : Hid (nbB p k = false → nbL p (k + 1) = nbL p k) := fun h => nbL_no h
      have hlen := nbL_len p k
      have w1' : IntKind.i64.wrap ((atP p : Int) - (atP k : Int)) = (atP p : Int) - (atP k : Int) := IntWalk.i64_in _ (by omega)
      have w2' : IntKind.i64.wrap ((atP k : Int) - (atP p : Int)) = (atP k : Int) - (atP p : Int) := IntWalk.i64_in _ (by omega)
      have w3' : IntKind.i64.wrap ((rowP p : Int) - 1) = (rowP p : Int) - 1 := IntWalk.i64_in _ (by omega)
      have w4' : IntKind.i64.wrap ((atP p : Int) - 1) = (atP p : Int) - 1 := IntWalk.i64_in _ (by omega)
      have w5' : IntKind.i64.wrap ((rowP p : Int) + 1) = (rowP p : Int) + 1 := IntWalk.i64_in _ (by omega)
      have w7' : IntKind.i64.wrap ((atP p : Int) + 1) = (atP p : Int) + 1 := IntWalk.i64_in _ (by omega)
      generalize (rowP p : Int) = x at *
      generalize (atP p : Int) = i at *
      generalize (rowP k : Int) = y at *
      generalize (atP k : Int) = j at *
      generalize nbL p k = pre at *
      generalize nbB p k = nb at *
      gi_wp2
      refine ⟨trivial, fun h => by simp [Fence.wide] at h, (callsIn_wide.2 HWk.out).mono ?_⟩
      rintro e w5 ⟨rfl, hb5⟩
      have hb6 : Below wr.heap.size wr (w5.alloc (.cells #[.int .i64 y, .int .i64 j] 155)) := hb5.alloc hb5.size _
      have HB6 := Lib.hid hb6
      have v0 := cell_of_ans hb6 u0
      have v1 := cell_of_ans hb6 u1
      have v2 : (w5.alloc (.cells #[.int .i64 y, .int .i64 j] 155)).cell? ⟨w5.heap.size, 0, none⟩ = some (.int .i64 y) := by simp
      have v3 : (w5.alloc (.cells #[.int .i64 y, .int .i64 j] 155)).cell? ⟨w5.heap.size, 1, none⟩ = some (.int .i64 j) := by simp
      have htb5 : tb < w5.heap.size := Nat.lt_of_lt_of_le htb hb5.size
      have z0 := cell_of_ans hb5 u0
      have z1 := cell_of_ans hb5 u1
      clear hb5 hb6 u0 u1
      have HJ6 := Lib.hid (hJb _ _ _ HJ.out HB6.out)
      have htw : tb < (w5.alloc (.cells #[.int .i64 y, .int .i64 j] 155)).heap.size := by simp; omega
      have HNE : Hid (n₀ ≤ tb) := hntb
      have HKC : Hid (∀ W3, Kp (w5.alloc (.cells #[.int .i64 y, .int .i64 j] 155)) W3 → W3.cell? ⟨tb, 0, none⟩ = some (.int .i64 x) ∧ W3.cell? ⟨tb, 1, none⟩ = some (.int .i64 i)) := fun W3 hk => ⟨hKn _ _ _ _ _ hk hntb htw v0, hKn _ _ _ _ _ hk hntb htw v1⟩
      have HK6 : Hid (Kp W (w5.alloc (.cells #[.int .i64 y, .int .i64 j] 155))) := hKt HK.out (hKb _ _ hnr HB6.out)
      have HTW : Hid (∀ W3, Kp (w5.alloc (.cells #[.int .i64 y, .int .i64 j] 155)) W3 → tb < W3.heap.size) := fun W3 hk => Nat.lt_of_lt_of_le htw (hKz _ _ hk)
      have HV0 := Lib.hid v0
      have HV1 := Lib.hid v1
      have HTW2 := Lib.hid htw
      clear v0 v1 v2 v3 htw
      by_cases e1 : x = y
      · skip
        have c1 : (x == y) = true := by simp; omega
        have c2 : (y == x - 1) = false := by simp; omega
        have c3 : (y == x + 1) = false := by simp; omega
        by_cases e2 : i - j = 1
        · skip
          have d1 : (i - j == 1) = true := by simp; omega
          have hnb : nb = true := by rw [← HNB.out]; simp [nbI]; omega
          obtain ⟨ex, hex, hnx⟩ := HY1.out hnb
          obtain ⟨fn, tmps, assign, body, hy, hR⟩ := hY pre ex (w5.alloc (.cells #[.int .i64 y, .int .i64 j] 155)) HJ6.out (by omega)
          unfold iEnc at hy
          rw [hex] at hy
          have HR := Lib.hid hR
          have HNX := Lib.hid hnx
          clear hex hnx
          clear hR hnb HNB HY0 HY1 e1 e2
          gi_wp2
          refine ⟨fun h => by simp [Fence.wide] at h, ?_⟩
          refine HR.out.mono ?_
          rintro e W3 (⟨rfl, hJ3, hk3⟩ | ⟨rfl, hJx3⟩)
          · have HJ3 := Lib.hid hJ3
            have HK3 := Lib.hid hk3
            clear hJ3 hk3
            gi_wp2
            refine ⟨⟨k + 1, by omega, by go_num, by rw [HNX.out]; exact HJ3.out, hKt HK6.out HK3.out, HTW.out _ HK3.out, (HKC.out _ HK3.out).1, (HKC.out _ HK3.out).2⟩, by simp [intOf]; omega⟩
          · have HJX := Lib.hid hJx3
            clear hJx3
            gi_wp2
            refine bodyPost_ret (results_none rfl _ _ _) rfl ?_
            exact ⟨⟨_, rfl⟩, .inr ⟨_, trivial, HJX.out⟩⟩
        · skip
          have d1 : (i - j == 1) = false := by simp; omega
          by_cases e3 : j - i = 1
          · skip
            have d2 : (j - i == 1) = true := by simp; omega
            have hnb : nb = true := by rw [← HNB.out]; simp [nbI]; omega
            obtain ⟨ex, hex, hnx⟩ := HY1.out hnb
            obtain ⟨fn, tmps, assign, body, hy, hR⟩ := hY pre ex (w5.alloc (.cells #[.int .i64 y, .int .i64 j] 155)) HJ6.out (by omega)
            unfold iEnc at hy
            rw [hex] at hy
            have HR := Lib.hid hR
            have HNX := Lib.hid hnx
            clear hex hnx
            clear hR hnb HNB HY0 HY1 e1 e2 e3
            gi_wp2
            refine ⟨fun h => by simp [Fence.wide] at h, ?_⟩
            refine HR.out.mono ?_
            rintro e W3 (⟨rfl, hJ3, hk3⟩ | ⟨rfl, hJx3⟩)
            · have HJ3 := Lib.hid hJ3
              have HK3 := Lib.hid hk3
              clear hJ3 hk3
              gi_wp2
              refine ⟨⟨k + 1, by omega, by go_num, by rw [HNX.out]; exact HJ3.out, hKt HK6.out HK3.out, HTW.out _ HK3.out, (HKC.out _ HK3.out).1, (HKC.out _ HK3.out).2⟩, by simp [intOf]; omega⟩
            · have HJX := Lib.hid hJx3
              clear hJx3
              gi_wp2
              refine bodyPost_ret (results_none rfl _ _ _) rfl ?_
              exact ⟨⟨_, rfl⟩, .inr ⟨_, trivial, HJX.out⟩⟩
          · skip
            have d2 : (j - i == 1) = false := by simp; omega
            have hnb : nb = false := by rw [← HNB.out]; simp [nbI]; omega
            have HNX := Lib.hid (HY0.out hnb)
            clear hnb HNB HY0 HY1 e1 e2 e3
            gi_wp2
            refine ⟨(fun _ h => by cases h), ?_⟩
            gi_wp2
            refine ⟨⟨k + 1, by omega, by go_num, by rw [HNX.out]; exact HJ6.out, HK6.out, HTW2.out, HV0.out, HV1.out⟩, by simp [intOf]; omega⟩
      · skip
        by_cases e2 : y = x - 1
        · skip
          have c1 : (x == y) = false := by simp; omega
          have c2 : (y == x - 1) = true := by simp; omega
          have c3 : (y == x + 1) = false := by simp; omega
          by_cases e3 : j = i
          · skip
            have d1 : (j == i) = true := by simp; omega
            have hnb : nb = true := by rw [← HNB.out]; simp [nbI]; omega
            obtain ⟨ex, hex, hnx⟩ := HY1.out hnb
            obtain ⟨fn, tmps, assign, body, hy, hR⟩ := hY pre ex (w5.alloc (.cells #[.int .i64 y, .int .i64 j] 155)) HJ6.out (by omega)
            unfold iEnc at hy
            rw [hex] at hy
            have HR := Lib.hid hR
            have HNX := Lib.hid hnx
            clear hex hnx
            clear hR hnb HNB HY0 HY1 e1 e2 e3
            gi_wp2
            refine ⟨fun h => by simp [Fence.wide] at h, ?_⟩
            refine HR.out.mono ?_
            rintro e W3 (⟨rfl, hJ3, hk3⟩ | ⟨rfl, hJx3⟩)
            · have HJ3 := Lib.hid hJ3
              have HK3 := Lib.hid hk3
              clear hJ3 hk3
              gi_wp2
              refine ⟨⟨k + 1, by omega, by go_num, by rw [HNX.out]; exact HJ3.out, hKt HK6.out HK3.out, HTW.out _ HK3.out, (HKC.out _ HK3.out).1, (HKC.out _ HK3.out).2⟩, by simp [intOf]; omega⟩
            · have HJX := Lib.hid hJx3
              clear hJx3
              gi_wp2
              refine bodyPost_ret (results_none rfl _ _ _) rfl ?_
              exact ⟨⟨_, rfl⟩, .inr ⟨_, trivial, HJX.out⟩⟩
          · skip
            have d1 : (j == i) = false := by simp; omega
            by_cases e4 : j = i - 1
            · skip
              have d2 : (j == i - 1) = true := by simp; omega
              have hnb : nb = true := by rw [← HNB.out]; simp [nbI]; omega
              obtain ⟨ex, hex, hnx⟩ := HY1.out hnb
              obtain ⟨fn, tmps, assign, body, hy, hR⟩ := hY pre ex (w5.alloc (.cells #[.int .i64 y, .int .i64 j] 155)) HJ6.out (by omega)
              unfold iEnc at hy
              rw [hex] at hy
              have HR := Lib.hid hR
              have HNX := Lib.hid hnx
              clear hex hnx
              clear hR hnb HNB HY0 HY1 e1 e2 e3 e4
              gi_wp2
              refine ⟨fun h => by simp [Fence.wide] at h, ?_⟩
              refine HR.out.mono ?_
              rintro e W3 (⟨rfl, hJ3, hk3⟩ | ⟨rfl, hJx3⟩)
              · have HJ3 := Lib.hid hJ3
                have HK3 := Lib.hid hk3
                clear hJ3 hk3
                gi_wp2
                refine ⟨⟨k + 1, by omega, by go_num, by rw [HNX.out]; exact HJ3.out, hKt HK6.out HK3.out, HTW.out _ HK3.out, (HKC.out _ HK3.out).1, (HKC.out _ HK3.out).2⟩, by simp [intOf]; omega⟩
              · have HJX := Lib.hid hJx3
                clear hJx3
                gi_wp2
                refine bodyPost_ret (results_none rfl _ _ _) rfl ?_
                exact ⟨⟨_, rfl⟩, .inr ⟨_, trivial, HJX.out⟩⟩
            · skip
              have d2 : (j == i - 1) = false := by simp; omega
              have hnb : nb = false := by rw [← HNB.out]; simp [nbI]; omega
              have HNX := Lib.hid (HY0.out hnb)
              clear hnb HNB HY0 HY1 e1 e2 e3 e4
              gi_wp2
              refine ⟨(fun _ h => by cases h), ?_⟩
              gi_wp2
              refine ⟨⟨k + 1, by omega, by go_num, by rw [HNX.out]; exact HJ6.out, HK6.out, HTW2.out, HV0.out, HV1.out⟩, by simp [intOf]; omega⟩
        · skip
          by_cases e3 : y = x + 1
          · skip
            have c1 : (x == y) = false := by simp; omega
            have c2 : (y == x - 1) = false := by simp; omega
            have c3 : (y == x + 1) = true := by simp; omega
            by_cases e4 : j = i
            · skip
              have d1 : (j == i) = true := by simp; omega
              have hnb : nb = true := by rw [← HNB.out]; simp [nbI]; omega
              obtain ⟨ex, hex, hnx⟩ := HY1.out hnb
              obtain ⟨fn, tmps, assign, body, hy, hR⟩ := hY pre ex (w5.alloc (.cells #[.int .i64 y, .int .i64 j] 155)) HJ6.out (by omega)
              unfold iEnc at hy
              rw [hex] at hy
              have HR := Lib.hid hR
              have HNX := Lib.hid hnx
              clear hex hnx
              clear hR hnb HNB HY0 HY1 e1 e2 e3 e4
              gi_wp2
              refine ⟨fun h => by simp [Fence.wide] at h, ?_⟩
              refine HR.out.mono ?_
              rintro e W3 (⟨rfl, hJ3, hk3⟩ | ⟨rfl, hJx3⟩)
              · have HJ3 := Lib.hid hJ3
                have HK3 := Lib.hid hk3
                clear hJ3 hk3
                gi_wp2
                refine ⟨⟨k + 1, by omega, by go_num, by rw [HNX.out]; exact HJ3.out, hKt HK6.out HK3.out, HTW.out _ HK3.out, (HKC.out _ HK3.out).1, (HKC.out _ HK3.out).2⟩, by simp [intOf]; omega⟩
              · have HJX := Lib.hid hJx3
                clear hJx3
                gi_wp2
                refine bodyPost_ret (results_none rfl _ _ _) rfl ?_
                exact ⟨⟨_, rfl⟩, .inr ⟨_, trivial, HJX.out⟩⟩
            · skip
              have d1 : (j == i) = false := by simp; omega
              by_cases e5 : j = i + 1
              · skip
                have d2 : (j == i + 1) = true := by simp; omega
                have hnb : nb = true := by rw [← HNB.out]; simp [nbI]; omega
                obtain ⟨ex, hex, hnx⟩ := HY1.out hnb
                obtain ⟨fn, tmps, assign, body, hy, hR⟩ := hY pre ex (w5.alloc (.cells #[.int .i64 y, .int .i64 j] 155)) HJ6.out (by omega)
                unfold iEnc at hy
                rw [hex] at hy
                have HR := Lib.hid hR
                have HNX := Lib.hid hnx
                clear hex hnx
                clear hR hnb HNB HY0 HY1 e1 e2 e3 e4 e5
                gi_wp2
                refine ⟨fun h => by simp [Fence.wide] at h, ?_⟩
                refine HR.out.mono ?_
                rintro e W3 (⟨rfl, hJ3, hk3⟩ | ⟨rfl, hJx3⟩)
                · have HJ3 := Lib.hid hJ3
                  have HK3 := Lib.hid hk3
                  clear hJ3 hk3
                  gi_wp2
                  refine ⟨⟨k + 1, by omega, by go_num, by rw [HNX.out]; exact HJ3.out, hKt HK6.out HK3.out, HTW.out _ HK3.out, (HKC.out _ HK3.out).1, (HKC.out _ HK3.out).2⟩, by simp [intOf]; omega⟩
                · have HJX := Lib.hid hJx3
                  clear hJx3
                  gi_wp2
                  refine bodyPost_ret (results_none rfl _ _ _) rfl ?_
                  exact ⟨⟨_, rfl⟩, .inr ⟨_, trivial, HJX.out⟩⟩
              · skip
                have d2 : (j == i + 1) = false := by simp; omega
                have hnb : nb = false := by rw [← HNB.out]; simp [nbI]; omega
                have HNX := Lib.hid (HY0.out hnb)
                clear hnb HNB HY0 HY1 e1 e2 e3 e4 e5
                gi_wp2
                refine ⟨(fun _ h => by cases h), ?_⟩
                gi_wp2
                refine ⟨⟨k + 1, by omega, by go_num, by rw [HNX.out]; exact HJ6.out, HK6.out, HTW2.out, HV0.out, HV1.out⟩, by simp [intOf]; omega⟩
          · skip
            have c1 : (x == y) = false := by simp; omega
            have c2 : (y == x - 1) = false := by simp; omega
            have c3 : (y == x + 1) = false := by simp; omega
            have hnb : nb = false := by rw [← HNB.out]; simp [nbI]; omega
            have HNX := Lib.hid (HY0.out hnb)
            clear hnb HNB HY0 HY1 e1 e2 e3
            gi_wp2
            refine ⟨(fun _ h => by cases h), ?_⟩
            gi_wp2
            refine ⟨⟨k + 1, by omega, by go_num, by rw [HNX.out]; exact HJ6.out, HK6.out, HTW2.out, HV0.out, HV1.out⟩, by simp [intOf]; omega⟩
    · have hki : ¬ (k : Int) < (pn r.rows : Int) := by omega
      obtain rfl : k = pn r.rows := by omega
      gi_wp2
      refine bodyPost_end (v := .tuple #[]) (results_none rfl _ _ _) rfl ?_
      have hj := HJ.out
      exact ⟨⟨_, rfl⟩, .inl (by first | exact ⟨_, rfl, hj⟩ | exact hj)⟩

theorem nb_stops (n q : Nat) (r : Rk) (A : Option Addr) (c p : Nat) (n₀ : Nat) (hr : Ok r) (hp : p < 10) (Kp : World → World → Prop) (hKt : ∀ {A B C : World}, Kp A B → Kp B C → Kp A C) (hKb : ∀ A B : World, n₀ ≤ A.heap.size → Below A.heap.size A B → Kp A B) (hKz : ∀ A B : World, Kp A B → A.heap.size ≤ B.heap.size)
    (hKc : ∀ W W', Kp W W' → NbSt W q r A c p → NbSt W' q r A c p) (hKn : ∀ W W' b o v, Kp W W' → n₀ ≤ b → b < W.heap.size → W.cell? ⟨b, o, none⟩ = some v → W'.cell? ⟨b, o, none⟩ = some v) (w : World) (hn : n₀ ≤ w.heap.size) (hS : NbSt w q r A c p) :
    SeqStopsK Fence.wide n Try.prog 107 #[.pointer (some ⟨q + 1, 0, none⟩), .pointer (some ⟨q, 0, none⟩)] iEnc Kp (fun ys => ys = nbL p (pn r.rows)) (fun _ => True) 100 w :=
  fun l J Jx W hW hJ _ hY h0 => nb1_in n l q r A c p n₀ hr hp Kp hKt hKb hKz hKc hKn J Jx (fun pre W W' h hb => hJ pre W W' none h (only_below hb none) (fun _ e => by cases e)) hY W (Nat.le_trans hn hW.size) (hS.below hW) h0
end Go.Proofs.Ytpekajnjjhibjaa
