/-
  What the recursive closure of lists finds; worlds of which a few blocks have changed; the closure's state.
-/
import Derived.Test.YtadjkinpimmhkaaExd
import Derived.Maps.AppendAt
import Derived.Deep.DeepAppendRoom
namespace Go.Proofs.Ytadjkinpimmhkaa
open Go.RowKit
set_option linter.unusedSimpArgs false
set_option linter.unusedVariables false

/-- The array of tellers with one more of them. -/
def setO (o : Nat → Bool) (k : Nat) : Nat → Bool := fun j => if j = k then true else o j
/-- The lists of so many tellers that explain, those that begin with xs and go on with tellers from k on. -/
def lstL (ex : (Nat → Bool) → Bool) (many : Nat) : Nat → List Int → (Nat → Bool) → Nat → List (List Int)
  | 0, _, _, _ => []
  | d + 1, xs, o, k => (if (xs ++ [(k : Int)]).length = many then (if ex (setO o k) then [xs ++ [(k : Int)]] else []) else lstL ex many d (xs ++ [(k : Int)]) (setO o k) (k + 1)) ++ lstL ex many d xs o (k + 1)
def lstF (ex : (Nat → Bool) → Bool) (many : Nat) (xs : List Int) (o : Nat → Bool) (j : Nat) : List (List Int) :=
  if xs.length = many then (if ex o then [xs] else []) else lstL ex many (4 - j) xs o j
theorem lstL_step (ex : (Nat → Bool) → Bool) (many : Nat) (xs : List Int) (o : Nat → Bool) {k : Nat} (h : k < 4) :
    lstL ex many (4 - k) xs o k = lstF ex many (xs ++ [(k : Int)]) (setO o k) (k + 1) ++ lstL ex many (4 - (k + 1)) xs o (k + 1) := by
  obtain ⟨d, hd⟩ : ∃ d, 4 - k = d + 1 := ⟨3 - k, by omega⟩
  have hd2 : 4 - (k + 1) = d := by omega
  rw [hd, lstF, hd2, lstL]
def costF (j : Nat) : Nat := 5 ^ (5 - j)
theorem cost_step {j k n nk n' : Nat} (h1 : j ≤ k) (h2 : k < 4) (h3 : nk ≤ n + (k - j) * costF (j + 1)) (h4 : n' ≤ nk + costF (k + 1)) : n' ≤ n + (k + 1 - j) * costF (j + 1) := by
  unfold costF at *
  rcases (by omega : j = 0 ∨ j = 1 ∨ j = 2 ∨ j = 3) with rfl | rfl | rfl | rfl <;> rcases (by omega : k = 0 ∨ k = 1 ∨ k = 2 ∨ k = 3) with rfl | rfl | rfl | rfl <;> simp at * <;> omega
theorem cost_in {j k n nk : Nat} (h1 : j ≤ k) (h2 : k < 4) (h3 : nk ≤ n + (k - j) * costF (j + 1)) (h4 : n + costF j ≤ 1000000) : nk + costF (k + 1) ≤ 1000000 := by
  unfold costF at *
  rcases (by omega : j = 0 ∨ j = 1 ∨ j = 2 ∨ j = 3) with rfl | rfl | rfl | rfl <;> rcases (by omega : k = 0 ∨ k = 1 ∨ k = 2 ∨ k = 3) with rfl | rfl | rfl | rfl <;> simp at * <;> omega
theorem cost_end {j n nk : Nat} (h1 : j ≤ 4) (h3 : nk ≤ n + (4 - j) * costF (j + 1)) : nk ≤ n + costF j := by
  unfold costF at *
  rcases (by omega : j = 0 ∨ j = 1 ∨ j = 2 ∨ j = 3 ∨ j = 4) with rfl | rfl | rfl | rfl | rfl <;> simp at * <;> omega
theorem cost_two {j : Nat} (h : j ≤ 4) : 2 ≤ costF j := by
  unfold costF
  rcases (by omega : j = 0 ∨ j = 1 ∨ j = 2 ∨ j = 3 ∨ j = 4) with rfl | rfl | rfl | rfl | rfl <;> decide
theorem cost_one (j : Nat) : 1 ≤ costF j := Nat.pos_pow_of_pos' j
where
  Nat.pos_pow_of_pos' (j : Nat) : 1 ≤ costF j := by unfold costF; exact Nat.one_le_pow _ _ (by omega)

/-- What was there is there as it was, but for the blocks of S. -/
structure Chg (w w' : World) (S : Nat → Prop) : Prop where
  os : w'.os = w.os
  tape : w'.tape = w.tape
  output : w'.output = w.output
  size : w.heap.size ≤ w'.heap.size
  block : ∀ i, i < w.heap.size → ¬ S i → w'.heap[i]? = w.heap[i]?
theorem Chg.refl (w : World) (S : Nat → Prop) : Chg w w S := ⟨rfl, rfl, rfl, Nat.le_refl _, fun _ _ _ => rfl⟩
theorem Chg.ofBelow {w w' : World} (h : Below w.heap.size w w') (S : Nat → Prop) : Chg w w' S := ⟨h.os, h.tape, h.output, h.size, fun i hi _ => h.block i hi⟩
theorem Chg.ofGrown {w w' : World} {row : Option Nat} (h : w.grownBy w' row) {S : Nat → Prop} (hS : ∀ i, some i = row → S i) : Chg w w' S :=
  ⟨h.os, h.tape, h.output, h.size, fun i hi hn => h.block i hi (fun e => hn (hS i e))⟩
theorem Chg.trans {w w' w'' : World} {S T : Nat → Prop} (h : Chg w w' S) (h' : Chg w' w'' T) (hT : ∀ i, i < w.heap.size → T i → S i) : Chg w w'' S :=
  ⟨h'.os.trans h.os, h'.tape.trans h.tape, h'.output.trans h.output, Nat.le_trans h.size h'.size, fun i hi hn => (h'.block i (Nat.lt_of_lt_of_le hi h.size) (fun e => hn (hT i hi e))).trans (h.block i hi hn)⟩
theorem Chg.cell {w w' : World} {S : Nat → Prop} (h : Chg w w' S) {p : Addr} {v : Value} (hc : w.cell? p = some v) (hn : ¬ S p.block) : w'.cell? p = some v := by
  have e := h.block p.block (World.block_lt_of_cell? w p hc) hn
  unfold World.cell? at hc ⊢
  rw [e]
  exact hc
theorem Chg.grown {w w' : World} {S : Nat → Prop} {b : Nat} (h : Chg w w' S) (hS : ∀ i, i < w.heap.size → S i → i = b) : w.grownBy w' (some b) :=
  ⟨h.os, h.tape, h.output, h.size, fun i hi hn => h.block i hi (fun e => hn (by rw [hS i hi e]))⟩
theorem Chg.below {w w' : World} {S : Nat → Prop} {B : Nat} (h : Chg w w' S) (hB : B ≤ w.heap.size) (hS : ∀ i, i < w.heap.size → S i → B ≤ i) : Below B w w' :=
  ⟨h.os, h.tape, h.output, h.size, fun i hi => h.block i (by omega) (fun e => by have := hS i (by omega) e; omega)⟩

/-- A number has been appended to an own list: in its place, or in a new block. -/
structure App (base : Nat) (w : World) (u : Value) (xs : List Int) (y : Int) (w' : World) (u' : Value) : Prop where
  own : OwnI base w' u' (xs ++ [y])
  grw : w.grownBy w' u.ownBlock
  alt : (∃ g cap, u = .slice (some ⟨g, 0, none⟩) xs.length cap ∧ u' = .slice (some ⟨g, 0, none⟩) (xs.length + 1) cap) ∨ ((∃ j, u'.ownBlock = some j ∧ w.heap.size ≤ j) ∧ w.grownBy w' none)

theorem ownI_pre {base g cap n : Nat} {w : World} {xs : List Int} {y : Int} (h : OwnI base w (.slice (some ⟨g, 0, none⟩) (xs.length + 1) cap) (xs ++ [y])) : OwnI base w (.slice (some ⟨g, 0, none⟩) xs.length cap) xs := by
  unfold OwnI at *
  obtain ⟨h1, h2⟩ := h
  refine ⟨by simp, ?_⟩
  rcases h2 with ⟨h2, _⟩ | ⟨g', cap', cur, hv, hb, hg, hn, hm, hs, ht⟩
  · cases h2
  · simp only [Value.slice.injEq, Option.some.injEq, Addr.mk.injEq, and_true] at hv
    obtain ⟨rfl, _, rfl⟩ := hv
    refine .inr ⟨g, cap, cur, rfl, hb, hg, ?_, hm, hs, ?_⟩
    · simp at hn; omega
    · have := congrArg (List.take (xs.length * 1)) ht
      rw [List.take_take, List.map_append, List.take_append_of_le_length (by simp)] at this
      simp at this ⊢
      rw [this, List.take_of_length_le (by simp)]

section
variable {P : Program}
theorem run_app_int {base : Nat} {w : World} {u : Value} {xs : List Int} {y : Int} (ty : TypeId) (hown : OwnI base w u xs) (hl : xs.length ≤ 1000000) (hb : base ≤ w.heap.size) :
    ∃ u' w', (Builtin.append_ #[25, 25] ty #[u, .slice (some ⟨w.heap.size, 0, none⟩) 1 1]).run Try.prog (w.alloc (.cells #[.int .i64 y] 3)) = .ok u' w' ∧ App base w u xs y w' u' := by
  obtain ⟨i0, hi, hz0, hz1, hz2⟩ := info_parts infoInt
  have hO : (w.alloc (.cells #[.int .i64 y] 3)).ownsRow base 3 1 u xs.length (xs.map (Value.int .i64)) := World.ownsRow.alloc hown _
  have hal : w.grownBy (w.alloc (.cells #[.int .i64 y] 3)) u.ownBlock := only_below ((Below.refl _ _).alloc (Nat.le_refl _) _) _
  have hal0 : w.grownBy (w.alloc (.cells #[.int .i64 y] 3)) none := only_below ((Below.refl _ _).alloc (Nat.le_refl _) _) _
  have tr : ∀ {a b c : World} {row : Option Nat}, a.grownBy b row → b.grownBy c row → a.grownBy c row := fun h h' =>
    ⟨h'.os.trans h.os, h'.tape.trans h.tape, h'.output.trans h.output, Nat.le_trans h.size h'.size, fun i hi hn => (h'.block i (Nat.lt_of_lt_of_le hi h.size) hn).trans (h.block i hi hn)⟩
  have hs := src_int w y
  have fresh : ∃ u' w', (Builtin.append_ #[25, 25] ty #[u, .slice (some ⟨w.heap.size, 0, none⟩) 1 1]).run Try.prog (w.alloc (.cells #[.int .i64 y] 3)) = .ok u' w' ∧ w'.ownsRow base 3 1 u' (xs.length + 1) (xs.map (Value.int .i64) ++ [.int .i64 y]) ∧
      (w.alloc (.cells #[.int .i64 y] 3)).grownBy w' u.ownBlock ∧ (u'.ownBlock = u.ownBlock ∨ u'.ownBlock = some (w.alloc (.cells #[.int .i64 y] 3)).heap.size) :=
    run_append_src (P := Try.prog) base 25 ty 3 i0 (.int .i64 0) 1 8 Try.underlying25 hi hz0 hz1 hz2 rfl (by decide) u xs.length (xs.map (Value.int .i64)) hO (some ⟨w.heap.size, 0, none⟩) 1 1 [.int .i64 y] hs (one_ints [y]) (by unfold maxLen; omega) (by omega) (by simp; omega)
  have fin : ∀ {w' : World} {u' : Value}, w'.ownsRow base 3 1 u' (xs.length + 1) (xs.map (Value.int .i64) ++ [.int .i64 y]) → OwnI base w' u' (xs ++ [y]) := fun h => by
    unfold OwnI
    simpa using h
  rcases hO.2 with ⟨rfl, h0⟩ | ⟨g, cap, cur, rfl, hbg, hg, hnc, hcm, hcs, htake⟩
  · obtain ⟨u', w', hr, h1, h2, h3⟩ := fresh
    refine ⟨u', w', hr, fin h1, tr hal h2, .inr ⟨?_, tr hal0 h2⟩⟩
    rcases h3 with h3 | h3
    · rcases h1.2 with ⟨_, h4⟩ | ⟨g, cap, cur, rfl, _⟩
      · omega
      · cases h3
    · exact ⟨_, h3, by simp⟩
  · by_cases hroom : xs.length + 1 ≤ cap
    · obtain ⟨w', hr, h1, h2⟩ := run_append_own_spare (P := Try.prog) (w.alloc (.cells #[.int .i64 y] 3)) base 25 ty 3 i0 1 Try.underlying25 hi hz1 g xs.length cap _ hO ⟨w.heap.size, 0, none⟩ 1 1 [.int .i64 y] rfl (fun j u hu => hs.2.2 _ rfl j u hu) (one_ints [y]) hroom
      exact ⟨_, w', hr, fin h1, tr hal h2, .inl ⟨g, cap, rfl, rfl⟩⟩
    · have holds : ∀ j u, (xs.map (Value.int .i64))[j]? = some u → (w.alloc (.cells #[.int .i64 y] 3)).cell? ((⟨g, 0, none⟩ : Addr).add j) = some u := hO.cells (g := g) rfl
      have hr := run_append_grow (P := Try.prog) (w.alloc (.cells #[.int .i64 y] 3)) 25 ty 3 i0 (.int .i64 0) Try.underlying25 hi hz0 ⟨g, 0, none⟩ xs.length cap (xs.map (Value.int .i64)) (by rw [hz1]; simp) holds ⟨w.heap.size, 0, none⟩ 1 1 [.int .i64 y] (by rw [hz1]; rfl) (fun j u hu => hs.2.2 _ rfl j u hu) (by omega) (by omega) (by rw [hz2]; exact growslice_fits (by omega) (by omega))
      obtain ⟨u', w', hr', h1, h2, h3⟩ := fresh
      rw [hr] at hr'
      simp only [Result.ok.injEq] at hr'
      obtain ⟨hu', hw'⟩ := hr'
      refine ⟨u', w', by rw [hr, hu', hw'], fin h1, tr hal h2, .inr ⟨⟨(w.alloc (.cells #[.int .i64 y] 3)).heap.size, ?_, by simp⟩, ?_⟩⟩
      · rw [← hu']; rfl
      · refine tr hal0 ?_
        rw [← hw']
        exact ⟨rfl, rfl, rfl, by simp, fun k hk _ => heap_alloc_old _ _ hk⟩
end
theorem grown_tr {a b c : World} {row : Option Nat} (h : a.grownBy b row) (h' : b.grownBy c row) : a.grownBy c row :=
  ⟨h'.os.trans h.os, h'.tape.trans h.tape, h'.output.trans h.output, Nat.le_trans h.size h'.size, fun i hi hn => (h'.block i (Nat.lt_of_lt_of_le hi h.size) hn).trans (h.block i hi hn)⟩

/-- A slice of such lists, by values: v's cells are vs. A row is appended. -/
structure AppR (base : Nat) (w : World) (v : Value) (n : Nat) (vs : List Value) (u : Value) (w' : World) (v' : Value) : Prop where
  own : w'.ownsRow base 25 1 v' (n + 1) (vs ++ [u])
  grw : (w.alloc (.cells #[u] 25)).grownBy w' v.ownBlock
  alt : v'.ownBlock = v.ownBlock ∨ v'.ownBlock = some (w.alloc (.cells #[u] 25)).heap.size
theorem run_app_row {base : Nat} {w : World} {v u : Value} {n : Nat} {vs : List Value} (ty : TypeId) (hown : w.ownsRow base 25 1 v n vs) (h1 : ∀ x ∈ [u], x.oneCell' = true) (hl : n ≤ 1000000) (hb : base ≤ w.heap.size) :
    ∃ v' w', (Builtin.append_ #[66, 66] ty #[v, .slice (some ⟨w.heap.size, 0, none⟩) 1 1]).run Try.prog (w.alloc (.cells #[u] 25)) = .ok v' w' ∧ AppR base w v n vs u w' v' := by
  obtain ⟨i1, hi', hy0, hy1, hy2⟩ := info_parts infoInts
  obtain ⟨v', w', hr, h2, h3, h4⟩ := run_append_src (P := Try.prog) base 66 ty 25 i1 (.slice none 0 0) 1 24 Try.underlying66 hi' hy0 hy1 hy2 rfl (by decide) v n vs (hown.alloc (.cells #[u] 25)) (some ⟨w.heap.size, 0, none⟩) 1 1 [u] (src_one w u) h1 (by unfold maxLen; omega) (by omega) (by simp; omega)
  exact ⟨v', w', hr, h2, h3, h4⟩

/-- As run_app_row, at a step of a region that draws its order. -/
theorem step_row {ops : Array Oper} {o : Oper} {a : Act} {K : Act → World → Prop} {Q : Exit → Act → World → Prop} {E : Prop} (s x : Operand) (hgd : o.guard = none) (ho : o.op = .call { callee := .builtin .append, args := #[s, x], argTypes := #[66, 66] })
    (base : Nat) (w : World) (v : Value) (n : Nat) (vs : List Value) (u : Value) (hv : a.eval s = v) (hx : a.eval x = .slice (some ⟨w.heap.size, 0, none⟩) 1 1) (hown : w.ownsRow base 25 1 v n vs) (h1 : ∀ x ∈ [u], x.oneCell' = true) (hl : n ≤ 1000000) (hb : base ≤ w.heap.size)
    (h : ∀ v' w', Hid (AppR base w v n vs u w' v') → K (a.put o.dst v') w') : if Region.wanted o (yielded ops a.tmps) = true then Oper.wp Try.prog o a (w.alloc (.cells #[u] 25)) K Q else E := by
  rw [if_pos (by simp [Region.wanted, hgd])]
  obtain ⟨v', w', hr, hA⟩ := run_app_row (base := base) o.type hown h1 hl hb
  unfold Oper.wp execOp
  simp only [ho, resolve, invoke, builtin, Sem.run_bind, Sem.run_pure, Result.andThen_ok, List.map_toArray, List.map_cons, List.map_nil, hv, hx, hr]
  exact h v' w' hA
/-- As run_app_int, at a step of a region that draws its order. -/
theorem step_int {ops : Array Oper} {o : Oper} {a : Act} {K : Act → World → Prop} {Q : Exit → Act → World → Prop} {E : Prop} (s x : Operand) (hgd : o.guard = none) (ho : o.op = .call { callee := .builtin .append, args := #[s, x], argTypes := #[25, 25] })
    (base : Nat) (w : World) (u : Value) (xs : List Int) (y : Int) (hv : a.eval s = u) (hx : a.eval x = .slice (some ⟨w.heap.size, 0, none⟩) 1 1) (hown : OwnI base w u xs) (hl : xs.length ≤ 1000000) (hb : base ≤ w.heap.size)
    (h : ∀ u' w', Hid (App base w u xs y w' u') → K (a.put o.dst u') w') : if Region.wanted o (yielded ops a.tmps) = true then Oper.wp Try.prog o a (w.alloc (.cells #[.int .i64 y] 3)) K Q else E := by
  rw [if_pos (by simp [Region.wanted, hgd])]
  obtain ⟨u', w', hr, hA⟩ := run_app_int (base := base) (y := y) o.type hown hl hb
  unfold Oper.wp execOp
  simp only [ho, resolve, invoke, builtin, Sem.run_bind, Sem.run_pure, Result.andThen_ok, List.map_toArray, List.map_cons, List.map_nil, hv, hx, hr]
  exact h u' w' hA

structure Ctx where
  B : Nat
  p : Nat
  b : Nat
  bm : Nat
  bx : Nat
  bq : Nat
  bf : Nat
  m : Nat
  c : Nat
  many : Nat
  base : Nat
  A : Option Addr
  ws : List Wd
structure Ctx.Ok (k : Ctx) : Prop where
  lt : k.p < k.base ∧ k.b < k.base ∧ k.bm < k.base ∧ k.bx < k.base ∧ k.bq < k.base ∧ k.bf < k.base
  ge : k.B ≤ k.b ∧ k.B ≤ k.bq ∧ k.B ≤ k.base
  nq : k.bq ≠ k.p ∧ k.bq ≠ k.b ∧ k.bq ≠ k.bm ∧ k.bq ≠ k.bx ∧ k.bq ≠ k.bf
  nb : k.b ≠ k.p ∧ k.b ≠ k.bm ∧ k.b ≠ k.bx ∧ k.b ≠ k.bf
  hl : k.ws.length ≤ 1000000
  hok : ∀ j, j < k.ws.length → wordB (k.m : Int) (wx k.ws j) = true
  hm : k.m ≤ 5

/-- The state of the closure: what it has captured, what it has found, and its list. -/
structure Fst (k : Ctx) (w : World) (l v : Value) (xs : List Int) (vs : List Value) (rows : List (List Int)) (n : Nat) : Prop where
  bs : k.base ≤ w.heap.size
  cm : w.cell? ⟨k.bm, 0, none⟩ = some (.int .i64 (k.many : Int))
  cx : w.cell? ⟨k.bx, 0, none⟩ = some (.pointer (some ⟨k.p, 0, none⟩))
  cq : w.heap[k.bq]? = some (.cells #[v] 66 (0, 0))
  cf : w.cell? ⟨k.bf, 0, none⟩ = some (.func (.func 75) #[] #[.pointer (some ⟨k.bm, 0, none⟩), .pointer (some ⟨k.bx, 0, none⟩), .pointer (some ⟨k.bq, 0, none⟩), .pointer (some ⟨k.bf, 0, none⟩)])
  wat : Wat k.B w k.p k.b n (k.m : Int) k.A k.c k.ws
  own : OwnI k.base w l xs
  rws : Rws k.base w v rows.length vs (rx rows)
  a1 : l.ownBlock = none ∨ l.ownBlock ≠ v.ownBlock
  a2 : ∀ u ∈ vs, l.ownBlock = none ∨ l.ownBlock ≠ u.ownBlock
def Sx (k : Ctx) (l v : Value) (i : Nat) : Prop := i = k.b ∨ i = k.bq ∨ some i = l.ownBlock ∨ some i = v.ownBlock
def FPost (k : Ctx) (w : World) (l v : Value) (xs : List Int) (vs : List Value) (rows : List (List Int)) (n cost : Nat) (res : List (List Int)) (w' : World) : Prop :=
  res.length ≤ cost ∧ ∃ v' nw n', Fst k w' l v' xs (vs ++ nw) (rows ++ res) n' ∧ n' ≤ n + cost ∧ Chg w w' (Sx k l v) ∧ (v'.ownBlock = v.ownBlock ∨ ∃ j, v'.ownBlock = some j ∧ w.heap.size ≤ j) ∧ ∀ u ∈ nw, ∀ j, u.ownBlock = some j → w.heap.size ≤ j

section
variable {k : Ctx} {w w' w'' : World} {l l' v v' : Value} {xs : List Int} {vs : List Value} {rows : List (List Int)} {n : Nat}

theorem Fst.lLt (F : Fst k w l v xs vs rows n) {i : Nat} (h : l.ownBlock = some i) : k.base ≤ i ∧ i < w.heap.size := World.ownsRow.lt F.own i h
theorem Fst.vLt (F : Fst k w l v xs vs rows n) {i : Nat} (h : v.ownBlock = some i) : k.base ≤ i ∧ i < w.heap.size := F.rws.1.lt i h
theorem Fst.uLt (F : Fst k w l v xs vs rows n) {u : Value} (hu : u ∈ vs) {i : Nat} (h : u.ownBlock = some i) : k.base ≤ i ∧ i < w.heap.size := by
  obtain ⟨j, hj, rfl⟩ := List.getElem_of_mem hu
  obtain ⟨u', h1, h2, -⟩ := F.rws.2.1 j (by rw [← F.rws.len]; exact hj)
  rw [List.getElem?_eq_getElem hj] at h1
  injection h1 with h1
  subst h1
  exact World.ownsRow.lt h2 i h
theorem Fst.out (F : Fst k w l v xs vs rows n) (hk : k.Ok) {i : Nat} (hi : w.heap.size ≤ i) : ¬ Sx k l v i := by
  have h1 := hk.lt
  have h2 := F.bs
  rintro (e | e | e | e)
  · omega
  · omega
  · have := F.lLt e.symm; omega
  · have := F.vLt e.symm; omega

theorem Rws.keptBy {base : Nat} {row : Option Nat} {m : Nat} {rs : Nat → List Int} (h : Rws base w v m vs rs) (hg : w.grownBy w' row) (hv : v.ownBlock = none ∨ v.ownBlock ≠ row) (hu : ∀ u ∈ vs, u.ownBlock = none ∨ u.ownBlock ≠ row) : Rws base w' v m vs rs := by
  obtain ⟨h1, h2, h3⟩ := h
  refine ⟨h1.kept hg hv, fun j hj => ?_, h3⟩
  obtain ⟨u, a, b, c⟩ := h2 j hj
  exact ⟨u, a, b.kept hg (hu u (List.mem_of_getElem? a)), c⟩

theorem Fst.step (F : Fst k w l v xs vs rows n) (hk : k.Ok) (hb : Below w.heap.size w w') : Fst k w' l v xs vs rows n := by
  have h1 := hk.lt
  have h2 := F.bs
  have h3 := hk.ge
  exact ⟨Nat.le_trans F.bs hb.size, cell_of_ans hb F.cm, cell_of_ans hb F.cx, (hb.block _ (by omega)).trans F.cq, cell_of_ans hb F.cf, F.wat.step hb (by omega), World.ownsRow.kept F.own (only_below hb none) (own_ne l), F.rws.kept hb, F.a1, F.a2⟩
theorem FPost.nil (F : Fst k w l v xs vs rows n) (hk : k.Ok) (hb : Below w.heap.size w w') (cost : Nat) : FPost k w l v xs vs rows n cost [] w' :=
  ⟨Nat.zero_le _, v, [], n, by simpa using F.step hk hb, by omega, Chg.ofBelow hb _, .inl rfl, fun u hu => by cases hu⟩
theorem Fst.explained (F : Fst k w l v xs vs rows n) (hk : k.Ok) (hW : Wat k.B w' k.p k.b (n + 1) (k.m : Int) k.A k.c k.ws) (hg : w.grownBy w' (some k.b)) : Fst k w' l v xs vs rows (n + 1) := by
  have h1 := hk.lt
  have h2 := F.bs
  have h4 := hk.nb
  have h5 := hk.nq
  refine ⟨Nat.le_trans F.bs hg.size, cell_grown hg F.cm (Ne.symm h4.2.1), cell_grown hg F.cx (Ne.symm h4.2.2.1), (hg.block _ (by omega) (by simpa using h5.2.1)).trans F.cq, cell_grown hg F.cf (Ne.symm h4.2.2.2), hW, F.own.keptBy hg h1.2.1, F.rws.keptBy hg (.inr fun e => ?_) fun u hu => .inr fun e => ?_, F.a1, F.a2⟩
  · have := F.vLt e; omega
  · have := F.uLt hu e; omega
theorem FPost.explained (F : Fst k w l v xs vs rows n) (hk : k.Ok) (hW : Wat k.B w' k.p k.b (n + 1) (k.m : Int) k.A k.c k.ws) (hg : w.grownBy w' (some k.b)) {cost : Nat} (hc : 1 ≤ cost) : FPost k w l v xs vs rows n cost [] w' :=
  ⟨Nat.zero_le _, v, [], n + 1, by simpa using F.explained hk hW hg, by omega, Chg.ofGrown hg (fun i e => .inl (by injection e)), .inl rfl, fun u hu => by cases hu⟩
theorem FPost.trans {n' c1 c2 : Nat} {res res2 : List (List Int)} {nw : List Value} (hw : w.heap.size ≤ w'.heap.size) (F : Fst k w l v xs vs rows n) (F' : Fst k w' l v' xs (vs ++ nw) (rows ++ res) n') (hn : n' ≤ n + c1) (hC : Chg w w' (Sx k l v)) (hv : v'.ownBlock = v.ownBlock ∨ ∃ j, v'.ownBlock = some j ∧ w.heap.size ≤ j)
    (hnw : ∀ u ∈ nw, ∀ j, u.ownBlock = some j → w.heap.size ≤ j) (hr1 : res.length ≤ c1) (h : FPost k w' l v' xs (vs ++ nw) (rows ++ res) n' c2 res2 w'') : FPost k w l v xs vs rows n (c1 + c2) (res ++ res2) w'' := by
  obtain ⟨hr2, v2, nw2, n2, F2, hn2, hC2, hv2, hnw2⟩ := h
  refine ⟨by rw [List.length_append]; omega, v2, nw ++ nw2, n2, by rw [← List.append_assoc, ← List.append_assoc]; exact F2, by omega, hC.trans hC2 fun i hi hS => ?_, ?_, fun u hu j hj => ?_⟩
  · rcases hS with e | e | e | e
    · exact .inl e
    · exact .inr (.inl e)
    · exact .inr (.inr (.inl e))
    · rcases hv with hv | ⟨j, hj, hlt⟩
      · exact .inr (.inr (.inr (by rw [e, hv])))
      · rw [hj] at e
        injection e with e
        omega
  · rcases hv2 with hv2 | ⟨j, hj, hlt⟩
    · rw [hv2]; exact hv
    · exact .inr ⟨j, hj, by omega⟩
  · rcases List.mem_append.1 hu with hu | hu
    · exact hnw u hu j hj
    · have := hnw2 u hu j hj; omega

theorem Fst.app {y : Int} (F : Fst k w l v xs vs rows n) (hk : k.Ok) (a : App k.base w l xs y w' l') : Fst k w' l' v (xs ++ [y]) vs rows n := by
  have h1 := hk.lt
  have h2 := F.bs
  have h3 := hk.ge
  have hC : Chg w w' (fun i => some i = l.ownBlock) := Chg.ofGrown a.grw (fun i e => e)
  have hlow : ∀ i, i < k.base → ¬ (some i = l.ownBlock) := fun i hi e => by have := F.lLt e.symm; omega
  have hbl : Below k.base w w' := hC.below F.bs fun i hi e => (F.lLt e.symm).1
  have hfr : (l'.ownBlock = l.ownBlock ∧ l'.ownBlock ≠ none) ∨ ∃ j, l'.ownBlock = some j ∧ w.heap.size ≤ j := by
    rcases a.alt with ⟨g, cap, rfl, rfl⟩ | ⟨h, _⟩
    · exact .inl ⟨rfl, by simp [Value.ownBlock]⟩
    · exact .inr h
  have hkn : Known w' k.b n (explB (k.m : Int) k.ws) := F.wat.kn.kept a.grw (fun e => hlow k.b h1.2.1 e)
  refine ⟨Nat.le_trans F.bs a.grw.size, hC.cell F.cm (hlow _ h1.2.2.1), hC.cell F.cx (hlow _ h1.2.2.2.1), (a.grw.block _ (by omega) (hlow _ h1.2.2.2.2.1)).trans F.cq, hC.cell F.cf (hlow _ h1.2.2.2.2.2),
    ⟨hC.cell F.wat.cn (hlow _ h1.1), hC.cell F.wat.cl (hlow _ h1.1), hC.cell F.wat.cm (hlow _ h1.1), F.wat.wd.below (hbl.mono h3.2.2), hkn⟩, a.own, F.rws.keptBy a.grw ?_ (fun u hu => ?_), ?_, fun u hu => ?_⟩
  · rcases F.a1 with h | h
    · cases e : v.ownBlock <;> simp [h]
    · exact .inr (Ne.symm h)
  · rcases F.a2 u hu with h | h
    · cases e : u.ownBlock <;> simp [h]
    · exact .inr (Ne.symm h)
  · rcases hfr with ⟨h, h'⟩ | ⟨j, h, hj⟩
    · rw [h]; exact F.a1
    · rw [h]
      refine .inr fun e => ?_
      have := F.vLt e.symm
      omega
  · rcases hfr with ⟨h, h'⟩ | ⟨j, h, hj⟩
    · rw [h]; exact F.a2 u hu
    · rw [h]
      refine .inr fun e => ?_
      have := F.uLt hu e.symm
      omega

theorem own_chg {base m : Nat} {e : TypeId} {u : Value} {us : List Value} {S : Nat → Prop} (h : w.ownsRow base e 1 u m us) (hC : Chg w w' S) (hS : ∀ g, u.ownBlock = some g → ¬ S g) : w'.ownsRow base e 1 u m us := by
  refine ⟨h.1, ?_⟩
  rcases h.2 with hn | ⟨g, cap, cur, rfl, hb, hg, rest⟩
  · exact .inl hn
  · exact .inr ⟨g, cap, cur, rfl, hb, (hC.block g (Array.getElem?_eq_some_iff.1 hg).1 (hS g rfl)).trans hg, rest⟩
theorem FPost.back {y : Int} {cost : Nat} {res : List (List Int)} (F : Fst k w l v xs vs rows n) (hk : k.Ok) (a : App k.base w l xs y w' l') (h : FPost k w' l' v (xs ++ [y]) vs rows n cost res w'') : FPost k w l v xs vs rows n cost res w'' := by
  obtain ⟨hr2, v2, nw, n2, F2, hn2, hC2, hv2, hnw2⟩ := h
  have hsz := a.grw.size
  have hC : Chg w w' (fun i => some i = l.ownBlock) := Chg.ofGrown a.grw (fun i e => e)
  have hfr : (l'.ownBlock = l.ownBlock) ∨ ∃ j, l'.ownBlock = some j ∧ w.heap.size ≤ j := by
    rcases a.alt with ⟨g, cap, rfl, rfl⟩ | ⟨h, _⟩
    · exact .inl rfl
    · exact .inr h
  have hCC : Chg w w'' (Sx k l v) := by
    refine (show Chg w w' (Sx k l v) from ⟨hC.os, hC.tape, hC.output, hC.size, fun i hi hn => hC.block i hi fun e => hn (.inr (.inr (.inl e)))⟩).trans hC2 fun i hi hS => ?_
    rcases hS with e | e | e | e
    · exact .inl e
    · exact .inr (.inl e)
    · rcases hfr with hv | ⟨j, hj, hlt⟩
      · exact .inr (.inr (.inl (by rw [e, hv])))
      · rw [hj] at e
        injection e with e
        omega
    · exact .inr (.inr (.inr e))
  have hv3 : v2.ownBlock = v.ownBlock ∨ ∃ j, v2.ownBlock = some j ∧ w.heap.size ≤ j := by
    rcases hv2 with hv2 | ⟨j, hj, hlt⟩
    · exact .inl hv2
    · exact .inr ⟨j, hj, by omega⟩
  refine ⟨hr2, v2, nw, n2, ⟨F2.bs, F2.cm, F2.cx, F2.cq, F2.cf, F2.wat, ?_, F2.rws, ?_, fun u hu => ?_⟩, hn2, hCC, hv3, fun u hu j hj => by have := hnw2 u hu j hj; omega⟩
  · rcases a.alt with ⟨g, cap, rfl, rfl⟩ | ⟨⟨j, h, hj⟩, hg⟩
    · exact ownI_pre (n := n) F2.own
    · have h4 : OwnI k.base w' l xs := World.ownsRow.kept F.own hg (own_ne l)
      refine own_chg h4 hC2 fun g e hS => ?_
      have h5 := hk.lt
      have h6 := F.lLt e
      rcases hS with e2 | e2 | e2 | e2
      · omega
      · omega
      · rw [h] at e2
        injection e2 with e2
        omega
      · rcases F.a1 with r | r
        · rw [r] at e; cases e
        · exact r (by rw [e, e2])
  · rcases F.a1 with r | r
    · exact .inl r
    · refine .inr fun e => ?_
      rcases hv3 with e2 | ⟨j, e2, hj⟩
      · exact r (e.trans e2)
      · rw [e2] at e
        have := F.lLt e
        omega
  · rcases List.mem_append.1 hu with hu | hu
    · exact F.a2 u hu
    · cases e : l.ownBlock with
      | none => exact .inl rfl
      | some g =>
        refine .inr fun e2 => ?_
        have h7 := hnw2 u hu g e2.symm
        have h8 := F.lLt e
        omega

theorem Fst.keepQ {w1 w2 : World} {u : Value} (F : Fst k w l v xs vs rows n) (hk : k.Ok) (hb : Below w.heap.size w w1) (a : AppR k.base w1 v rows.length vs u w2 v') : w2.cell? ⟨k.bq, 0, none⟩ = some v ∧ w2.frozen? ⟨k.bq, 0, none⟩ = false := by
  have h1 := hk.lt
  have h2 := F.bs
  have F1 := F.step hk (hb.alloc hb.size (.cells #[u] 25))
  have e : w2.heap[k.bq]? = some (.cells #[v] 66 (0, 0)) := (a.grw.block _ (by have := hb.size; simp; omega) (fun e => by have := F.vLt e.symm; omega)).trans F1.cq
  simp [World.cell?, World.frozen?, e]
/-- The list of the round is added. -/
theorem FPost.push {w1 w2 : World} {u : Value} (F : Fst k w l v xs vs rows n) (hk : k.Ok) (hu : OwnI w.heap.size w1 u xs) (hb : Below w.heap.size w w1) (a : AppR k.base w1 v rows.length vs u w2 v') :
    FPost k w l v xs vs rows n 1 [xs] (w2.setCell ⟨k.bq, 0, none⟩ v') := by
  have h1 := hk.lt
  have h2 := F.bs
  have h3 := hk.ge
  have h4 := hk.nq
  have hb2 : Below w.heap.size w (w1.alloc (.cells #[u] 25)) := hb.alloc hb.size _
  have hsz := hb2.size
  have hsz2 := a.grw.size
  have F1 := F.step hk hb2
  have hlow : ∀ i, i < k.base → ¬ some i = v.ownBlock := fun i hi e => by have := F.vLt e.symm; omega
  have hC : Chg (w1.alloc (.cells #[u] 25)) w2 (fun i => some i = v.ownBlock) := Chg.ofGrown a.grw (fun i e => e)
  have hq2 : w2.heap[k.bq]? = some (.cells #[v] 66 (0, 0)) := (a.grw.block _ (by omega) (hlow _ h1.2.2.2.2.1)).trans F1.cq
  have hS : w2.grownBy (w2.setCell ⟨k.bq, 0, none⟩ v') (some k.bq) := only_setCell (World.grownBy.refl w2 (some k.bq)) (.inl rfl) _
  have hCS : Chg w2 (w2.setCell ⟨k.bq, 0, none⟩ v') (fun i => i = k.bq) := Chg.ofGrown hS (fun i e => by injection e)
  have hC0 : Chg w (w2.setCell ⟨k.bq, 0, none⟩ v') (fun i => i = k.bq ∨ some i = v.ownBlock) := by
    refine Chg.trans (Chg.trans (Chg.ofBelow hb2 _) hC fun i hi e => .inr e) hCS fun i hi e => .inl e
  have hCC : Chg w (w2.setCell ⟨k.bq, 0, none⟩ v') (Sx k l v) := ⟨hC0.os, hC0.tape, hC0.output, hC0.size, fun i hi hn => hC0.block i hi fun e => hn (by
    rcases e with e | e
    · exact .inr (.inl e)
    · exact .inr (.inr (.inr e)))⟩
  have hr2 : Rws k.base w2 v' (rows.length + 1) (vs ++ [u]) (rx (rows ++ [xs])) := by
    refine (Rws.congr F.rws (rows' := rx (rows ++ [xs])) fun j hj => ?_).push hb2 F.bs (u := u) ?_ a.grw a.alt a.own
    · unfold rx; simp [List.getElem?_append_left hj]
    · have e : rx (rows ++ [xs]) rows.length = xs := by unfold rx; simp
      rw [e]; exact World.ownsRow.alloc hu _
  have hvf : v'.ownBlock = v.ownBlock ∨ ∃ j, v'.ownBlock = some j ∧ w.heap.size ≤ j := by
    rcases a.alt with e | e
    · exact .inl e
    · exact .inr ⟨_, e, hsz⟩
  have huf : ∀ j, u.ownBlock = some j → w.heap.size ≤ j := fun j e => (World.ownsRow.lt hu j e).1
  have hall : ∀ i, i < k.base → i ≠ k.bq → ∀ {p : Addr} {x : Value}, p.block = i → (w1.alloc (.cells #[u] 25)).cell? p = some x → (w2.setCell ⟨k.bq, 0, none⟩ v').cell? p = some x := fun i hi hne p x e hc => by
    subst e
    exact hCS.cell (hC.cell hc (hlow _ hi)) hne
  have hgB : Below k.base (w1.alloc (.cells #[u] 25)) w2 := hC.below (by omega) fun i hi e => (F.vLt e.symm).1
  refine ⟨Nat.le_refl 1, v', [u], n, ⟨?_, ?_, ?_, ?_, ?_, ⟨?_, ?_, ?_, ?_, ?_⟩, ?_, ?_, ?_, fun x hx => ?_⟩, by omega, hCC, hvf, fun x hx j e => ?_⟩
  · have := hCC.size; omega
  · exact hall _ h1.2.2.1 (Ne.symm h4.2.2.1) rfl F1.cm
  · exact hall _ h1.2.2.2.1 (Ne.symm h4.2.2.2.1) rfl F1.cx
  · simp [World.setCell, Array.getElem?_modify, hq2]
  · exact hall _ h1.2.2.2.2.2 (Ne.symm h4.2.2.2.2) rfl F1.cf
  · exact hall _ h1.1 (Ne.symm h4.1) rfl F1.wat.cn
  · exact hall _ h1.1 (Ne.symm h4.1) rfl F1.wat.cl
  · exact hall _ h1.1 (Ne.symm h4.1) rfl F1.wat.cm
  · exact (F1.wat.wd.below (hgB.mono h3.2.2)).grown hS h3.2.1
  · exact (F1.wat.kn.kept a.grw (fun e => hlow k.b h1.2.1 e)).kept hS (by simpa using Ne.symm h4.2.1)
  · refine own_chg F.own hC0 fun g e hx => ?_
    have h6 := F.lLt e
    rcases hx with e2 | e2
    · omega
    · rcases F.a1 with r | r
      · rw [r] at e; cases e
      · exact r (by rw [e, e2])
  · have e : (rows ++ [xs]).length = rows.length + 1 := by simp
    rw [e]
    refine hr2.keptBy hS (.inr fun e => ?_) fun x hx => .inr fun e => ?_
    · have := (hr2.1.lt _ e).1; omega
    · rcases List.mem_append.1 hx with hx | hx
      · have := F.uLt hx e; omega
      · simp at hx
        subst hx
        have := huf _ e
        omega
  · rcases F.a1 with r | r
    · exact .inl r
    · refine .inr fun e => ?_
      rcases hvf with e2 | ⟨j, e2, hj⟩
      · exact r (e.trans e2)
      · rw [e2] at e
        have := F.lLt e
        omega
  · rcases List.mem_append.1 hx with hx | hx
    · exact F.a2 x hx
    · simp at hx
      subst hx
      cases e : l.ownBlock with
      | none => exact .inl rfl
      | some g =>
        refine .inr fun e2 => ?_
        have h7 := huf g e2.symm
        have h8 := F.lLt e
        omega
  · simp at hx
    subst hx
    exact huf j e
theorem FPost.pushed {w1 w2 w3 : World} {u : Value} {cost : Nat} (F : Fst k w l v xs vs rows n) (hk : k.Ok) (hg : w.grownBy w1 (some k.b)) (F1 : Fst k w1 l v xs vs rows (n + 1)) (hc : 2 ≤ cost) (hu : OwnI w1.heap.size w2 u xs) (hb : Below w1.heap.size w1 w2) (a : AppR k.base w2 v rows.length vs u w3 v') :
    FPost k w l v xs vs rows n cost [xs] (w3.setCell ⟨k.bq, 0, none⟩ v') := by
  have h1 := FPost.push F1 hk hu hb a
  have h2 := FPost.trans (nw := []) (res := []) (c1 := cost - 1) hg.size F (by simpa using F1) (by omega) (Chg.ofGrown hg fun i e => .inl (by injection e)) (.inl rfl) (fun u hu => by cases hu) (Nat.zero_le _) (by simpa using h1)
  rw [show cost - 1 + 1 = cost by omega] at h2
  simpa using h2
end
end Go.Proofs.Ytadjkinpimmhkaa
