/-
  Lemmas of walks that name no function of the program.
-/
import Derived.Test.YtenpiinkbfancaaRows
import Derived.Test.YtenpiinkbfancaaBase
import Derived.WalkLawsBesides
import Derived.Deep.QuietTactic
import Derived.BigQuiet
import Derived.RangeFuncNested
import Derived.RangeFuncBound
import Derived.RangeFuncCalls
import Derived.RangeFuncLeaves
import Derived.Laws.EntriesVeiled
import Derived.Shelf.Abstract
import Derived.OwnWalkIn
import Derived.TacticsInMore
import Derived.LoopNIn
import Derived.LoopIn
import Derived.StillTailTactics
import Derived.Deep.RegionWith
import Derived.Maps.AppendAt
import Derived.Deep.OwnRows
import Derived.Deep.DeepCutAuto
import Derived.Deep.RegionHeld3
import Derived.Laws.CopyOwn
namespace Go.Proofs.Ytenpiinkbfancaa
open Go.RowKit

/-- Is a number from lo to hi? -/
def inB (n lo hi : Int) : Bool := decide (lo ≤ n) && decide (n ≤ hi)
theorem inB_eq (n lo hi : Int) : inB n lo hi = true ↔ lo ≤ n ∧ n ≤ hi := by simp [inB]
/-- a bool, and the world as it was -/
def Same (w : World) (v : Value) (e : Ending) (w' : World) : Prop := e = .returned v ∧ w = w'
theorem Same.ans {w : World} {v : Value} {e : Ending} {w' : World} (h : Same w v e w') : Ans w v e w' := by
  obtain ⟨rfl, rfl⟩ := h
  exact Ans.same
theorem ret_bool {a b : Bool} (h : a = b) : Ending.returned (.bool a) = .returned (.bool b) := by rw [h]
theorem ret_int {k : IntKind} {a b : Int} (h : a = b) : Ending.returned (.int k a) = .returned (.int k b) := by rw [h]
/-- Are two lists the same? -/
def eqB (xs ys : List Int) : Bool := decide (xs = ys)
theorem eqB_len {xs ys : List Int} (h : xs.length ≠ ys.length) : eqB xs ys = false := by
  simp only [eqB, decide_eq_false_iff_not]; rintro rfl; exact h rfl
theorem eqB_at {xs ys : List Int} {k : Nat} (h1 : ix xs k ≠ ix ys k) : eqB xs ys = false := by
  simp only [eqB, decide_eq_false_iff_not]; rintro rfl; exact h1 rfl
theorem eqB_all {xs ys : List Int} (h : xs.length = ys.length) (h1 : ∀ j, j < xs.length → ix xs j = ix ys j) : eqB xs ys = true := by
  simp only [eqB, decide_eq_true_eq]
  refine List.ext_getElem h fun i h2 h3 => ?_
  have := h1 i h2
  rwa [ix_lt h2, ix_lt h3] at this
def pref (xs ys : List Int) (k : Nat) : Prop := ∀ j, j < k → ix xs j = ix ys j
/-- an answer, and nothing but draws -/
def Qt (w : World) (v : Value) (e : Ending) (w' : World) : Prop := e = .returned v ∧ ∃ n, w' = w.drewN n
theorem Qt.ans {w : World} {v : Value} {e : Ending} {w' : World} (h : Qt w v e w') : Ans w v e w' := by
  obtain ⟨rfl, n, rfl⟩ := h
  exact ⟨rfl, below_drewN (Below.refl _ _) n⟩
def Enters (g : Nat) : Prop := ∀ args W, (callFunc g args).run Try.prog W = .ok (.enter g args) W
def AllB (n : Nat) (p : Nat → Bool) : Prop := ∀ k, k < n → p k = true
theorem AllB.succ {k : Nat} {p : Nat → Bool} (h : AllB k p) (hp : p k = true) : AllB (k + 1) p := fun j hj => by
  by_cases e : j = k
  · subst e; exact hp
  · exact h j (by omega)
noncomputable def allB (n : Nat) (p : Nat → Bool) : Bool := (List.range n).all p
theorem allB_iff {n : Nat} {p : Nat → Bool} : allB n p = true ↔ AllB n p := by simp [allB, AllB]
/-- What IndexFunc answers: an index, if one is not right; else -1. -/
def Found (w : World) (n : Nat) (p : Nat → Bool) (e : Ending) (w' : World) : Prop :=
  (∃ k : Nat, e = .returned (.int .i64 k) ∧ allB n p = false ∧ Below w.heap.size w w') ∨ (e = .returned (.int .i64 (-1)) ∧ allB n p = true ∧ Below w.heap.size w w')
theorem found_at {w w' : World} {n k : Nat} {p : Nat → Bool} (hk : k < n) (hp : p k = false) (hb : Below w.heap.size w w') : Found w n p (.returned (.int .i64 k)) w' :=
  .inl ⟨k, rfl, (Bool.eq_false_iff.2 fun h => by rw [allB_iff] at h; rw [h k hk] at hp; simp at hp), hb⟩
theorem found_none {w w' : World} {n : Nat} {p : Nat → Bool} (h : AllB n p) (hb : Below w.heap.size w w') : Found w n p (.returned (.int .i64 (-1))) w' := .inr ⟨rfl, allB_iff.2 h, hb⟩
theorem allB_false {n k : Nat} {p : Nat → Bool} (hk : k < n) (hp : p k = false) : allB n p = false := Bool.eq_false_iff.2 fun h => by rw [allB_iff] at h; rw [h k hk] at hp; cases hp
theorem allB_true {n : Nat} {p : Nat → Bool} (h : AllB n p) : allB n p = true := allB_iff.2 h
theorem push0 (x : Value) (cs : Array Value) : ((#[] : Array Value).push x ++ cs) = #[x] ++ cs := rfl
theorem push00 (x : Value) : ((#[] : Array Value).push x ++ #[]) = #[x] := rfl
theorem push10 (y x : Value) : ((#[y] : Array Value).push x ++ #[]) = #[y, x] := rfl
theorem only_drewN {a w : World} {row : Option Nat} (h : a.grownBy w row) (n : Nat) : a.grownBy (w.drewN n) row := ⟨h.os, h.tape, h.output, h.size, h.block⟩
theorem only_alloc {a w : World} {row : Option Nat} (h : a.grownBy w row) (o : Obj) : a.grownBy (w.alloc o) row :=
  ⟨h.os, h.tape, h.output, Nat.le_trans h.size (by simp), fun i hi hne => (Below.heap_alloc w o i (Nat.lt_of_lt_of_le hi h.size)).trans (h.block i hi hne)⟩
theorem only_setCell {a w : World} {g : Nat} (h : a.grownBy w (some g)) {p : Addr} (hp : p.block = g ∨ a.heap.size ≤ p.block) (u : Value) : a.grownBy (w.setCell p u) (some g) :=
  ⟨h.os, h.tape, h.output, by simpa [World.setCell] using h.size, fun i hi hne => (Below.heap_setCell w p u i (by
    rintro rfl
    rcases hp with hp | hp
    · exact hne (by rw [hp])
    · omega)).trans (h.block i hi hne)⟩
theorem only_below {a w : World} (h : Below a.heap.size a w) (row : Option Nat) : a.grownBy w row := ⟨h.os, h.tape, h.output, h.size, fun i hi _ => h.block i hi⟩
theorem below_only {B g : Nat} {a w : World} (h : a.grownBy w (some g)) (hg : B ≤ g) (hB : B ≤ a.heap.size) : Below B a w :=
  ⟨h.os, h.tape, h.output, h.size, fun i hi => h.block i (by omega) (fun e => by injection e with e; omega)⟩
theorem add_eq (b off j : Nat) : (⟨b, off, none⟩ : Addr).add j = ⟨b, off + j, none⟩ := by
  unfold Addr.add
  split
  · next h => subst h; rfl
  · rfl
theorem Ints.src {B : Nat} {w : World} {A : Option Addr} {xs : List Int} (h : Ints B w A xs) (h0 : 0 < (xs.map (Value.int .i64)).length) : ∃ ad, A = some ad ∧ ∀ j v, (xs.map (Value.int .i64))[j]? = some v → w.cell? (ad.add j) = some v := by
  obtain ⟨b, off, hA, _, hc⟩ := h (by simpa using h0)
  refine ⟨_, hA, fun j v hv => ?_⟩
  rw [add_eq]
  have hj : j < xs.length := by
    rcases Nat.lt_or_ge j xs.length with h | h
    · exact h
    · rw [List.getElem?_eq_none (by simpa using h)] at hv; cases hv
  rw [hc j hj, ix_lt hj]
  simpa [hj] using hv
theorem one_ints (xs : List Int) : ∀ v ∈ xs.map (Value.int .i64), v.oneCell' = true := by
  intro v hv
  obtain ⟨x, _, rfl⟩ := List.mem_map.1 hv
  rfl
/-- A slice's cells, nil let in. -/
def Src (w : World) (size : Nat) (A : Option Addr) (m : Nat) (news : List Value) : Prop :=
  news.length = m * size ∧ (A = none → m = 0) ∧ ∀ ad, A = some ad → ∀ j u, news[j]? = some u → w.cell? (ad.add j) = some u
theorem Ints.isrc {B : Nat} {w : World} {A : Option Addr} {xs : List Int} (h : Ints B w A xs) : Src w 1 A xs.length (xs.map (Value.int .i64)) := by
  refine ⟨by simp, fun hA => ?_, fun ad hA j u hu => ?_⟩
  · rcases Nat.eq_zero_or_pos xs.length with h0 | h0
    · exact h0
    · obtain ⟨b, off, hA', _⟩ := h h0
      rw [hA] at hA'
      cases hA'
  · have h0 : 0 < (xs.map (Value.int .i64)).length := by
      rcases Nat.eq_zero_or_pos (xs.map (Value.int .i64)).length with h0 | h0
      · rw [List.getElem?_eq_none (by omega)] at hu; cases hu
      · exact h0
    obtain ⟨ad', hA', hc⟩ := h.src h0
    rw [hA] at hA'
    injection hA' with e
    subst e
    exact hc j u hu
section
variable {P : Program} {w : World}
theorem run_append_src (base : Nat) (t ty e : TypeId) (i : TypeInfo) (z : Value) (size bytes : Nat) (ht : P.underlying t = some (.slice e)) (hi : P.info? e = some i) (hz : i.zero = some z)
    (hsize : i.size = size) (hby : i.bytes = bytes) (hzs : z.cells.size = size) (hsz : 0 < size)
    (v : Value) (n : Nat) (xs : List Value) (hown : w.ownsRow base e size v n xs) (A : Option Addr) (m c : Nat) (news : List Value) (hs : Src w size A m news) (h1 : ∀ u ∈ news, u.oneCell' = true)
    (h63 : n + m ≤ maxLen) (hbytes : (n + m) * bytes ≤ 140737488355328) (hbase : base ≤ w.heap.size) :
    ∃ v' w', (Builtin.append_ #[t, t] ty #[v, .slice A m c]).run P w = .ok v' w' ∧ w'.ownsRow base e size v' (n + m) (xs ++ news) ∧ w.grownBy w' v.ownBlock ∧
      (v'.ownBlock = v.ownBlock ∨ v'.ownBlock = some w.heap.size) := by
  cases A with
  | some ad =>
    obtain ⟨v', w', h2, h3, h4, _, h5⟩ := run_append_own_at (P := P) w base t ty e i z size bytes ht hi hz hsize hby hzs hsz v n xs hown ad m c news hs.1 (hs.2.2 ad rfl) h1 h63 hbytes hbase
    exact ⟨v', w', h2, h3, h4, h5⟩
  | none =>
    obtain rfl : m = 0 := hs.2.1 rfl
    obtain rfl : news = [] := List.eq_nil_of_length_eq_zero (by simpa using hs.1)
    refine ⟨v, w, ?_, by simpa using hown, World.grownBy.refl _ _, .inl rfl⟩
    rcases hown.2 with ⟨rfl, rfl⟩ | ⟨g, cap, cur, rfl, _, _, hcap, _⟩
    all_goals simp [Builtin.append_, run_underlying ht, sizeOf, typeInfo, hi, Builtin.lenOf, Builtin.firstCells, storeCells]
    omega
theorem wpList_append_src {ops : Array Oper} {rest : List Oper} {o : Oper} {a : Act} {Q : Exit → Act → World → Prop} (hgd : o.guard = none) (s x : Operand) (t : TypeId)
    (ho : o.op = .call { callee := .builtin .append, args := #[s, x], argTypes := #[t, t] })
    (base : Nat) (e : TypeId) (i : TypeInfo) (z : Value) (size bytes : Nat) (ht : P.underlying t = some (.slice e)) (hi : P.info? e = some i) (hz : i.zero = some z)
    (hsize : i.size = size) (hby : i.bytes = bytes) (hzs : z.cells.size = size) (hsz : 0 < size)
    (v : Value) (n : Nat) (xs : List Value) (hv : a.eval s = v) (hown : w.ownsRow base e size v n xs) (A : Option Addr) (m c : Nat) (news : List Value) (hx : a.eval x = .slice A m c) (hs : Src w size A m news) (h1 : ∀ u ∈ news, u.oneCell' = true)
    (h63 : n + m ≤ maxLen) (hbytes : (n + m) * bytes ≤ 140737488355328) (hbase : base ≤ w.heap.size)
    (h : ∀ v' w', w'.ownsRow base e size v' (n + m) (xs ++ news) → w.grownBy w' v.ownBlock → (v'.ownBlock = v.ownBlock ∨ v'.ownBlock = some w.heap.size) → wpList P ops Q rest (a.put o.dst v') w') : wpList P ops Q (o :: rest) a w := by
  refine wpList_plain hgd fun K hK => ?_
  obtain ⟨v', w', hr, h2, h3, h4⟩ := run_append_src (P := P) (w := w) base t o.type e i z size bytes ht hi hz hsize hby hzs hsz v n xs hown A m c news hs h1 h63 hbytes hbase
  unfold Oper.wp execOp
  simp only [ho, resolve, invoke, builtin, Sem.run_bind, Sem.run_pure, Result.andThen_ok, List.map_toArray, List.map_cons, List.map_nil, hv, hx, hr]
  exact hK _ _ (h v' w' h2 h3 h4)
end
theorem ownsRow_form {w : World} {base : Nat} {e : TypeId} {size n : Nat} {v : Value} {xs : List Value} (h : w.ownsRow base e size v n xs) : ∃ A c, v = .slice A n c := by
  rcases h.2 with ⟨rfl, rfl⟩ | ⟨g, cap, cur, rfl, _⟩
  · exact ⟨_, _, rfl⟩
  · exact ⟨_, _, rfl⟩
theorem ownsRow_base {w : World} {base base' : Nat} {e : TypeId} {size n : Nat} {v : Value} {xs : List Value} (h : w.ownsRow base e size v n xs) (hb : base' ≤ base) : w.ownsRow base' e size v n xs := by
  obtain ⟨h1, h2⟩ := h
  refine ⟨h1, ?_⟩
  rcases h2 with h2 | ⟨g, cap, cur, hv, hg, r⟩
  · exact .inl h2
  · exact .inr ⟨g, cap, cur, hv, by omega, r⟩
theorem below_drew_l {B : Nat} {a w : World} (h : Below B a.drew w) : Below B a w := ⟨h.os, h.tape, h.output, h.size, h.block⟩
theorem ownsRow_isInts {w : World} {base : Nat} {v : Value} {xs : List Int} (h : w.ownsRow base 3 1 v xs.length (xs.map (Value.int .i64))) : IsInts w.heap.size w v xs := by
  rcases h.2 with ⟨rfl, h0⟩ | ⟨g, cap, cur, rfl, hb, hg, hn, hm, hs, ht⟩
  · have : xs = [] := List.eq_nil_of_length_eq_zero h0
    subst this
    exact ⟨none, 0, rfl, by simp, by simp, fun hp => by simp at hp⟩
  · refine ⟨_, cap, rfl, hn, by unfold maxLen at hm; omega, fun hp => ⟨g, 0, rfl, (Array.getElem?_eq_some_iff.1 hg).1, fun k hk => ?_⟩⟩
    have := h.cells (g := g) rfl k (.int .i64 (ix xs k)) (by rw [List.getElem?_map, List.getElem?_eq_getElem hk, ix_lt hk]; rfl)
    rwa [add_eq] at this
theorem calls_marks {P : Program} {f : FuncId} {fn : Func} {c : Code} {args : Array Value} {w : World} {R : Ending → World → Prop} (hf : P.funcs[f]? = some fn) (hb : fn.body = some c)
    (h : c.wp P (bodyPostM Fence.wide 0 P fn R) { tmps := args ++ Array.replicate (fn.ntmps - args.size) undef, defers := [] } w) : Calls P f args w R :=
  (callsIn_wide (n := 0)).1 (callsIn_of_wp_marks hf hb trivial (wpIn_wide.2 h) rfl)
theorem cell_alloc_keep {w : World} {a : Addr} {v : Value} (o : Obj) (h : w.cell? a = some v) : (w.alloc o).cell? a = some v := (World.cell?_alloc_lt _ _ _ (World.block_lt_of_cell? w a h)).trans h
theorem cell_of_ans {W w1 : World} (hb : Below W.heap.size W w1) {p : Addr} {v : Value} (h : W.cell? p = some v) : w1.cell? p = some v := (hb.cell (World.block_lt_of_cell? W p h)).trans h
theorem cell_set_keep {w : World} {p a : Addr} {u v : Value} (h : w.cell? a = some v) (hp : p.block ≠ a.block) : (w.setCell p u).cell? a = some v := (World.cell?_setCell_other w p a u (fun e => hp (by rw [e]))).trans h
theorem Grd.step {w w' : World} {A : Option Addr} {xss : List (List Int)} (h : Grd w.heap.size w A xss) (hb : Below w.heap.size w w') : Grd w'.heap.size w' A xss := (h.below hb).more hb.size
theorem Ints.step {w w' : World} {A : Option Addr} {xs : List Int} (h : Ints w.heap.size w A xs) (hb : Below w.heap.size w w') : Ints w'.heap.size w' A xs := (h.below hb).more hb.size
theorem grd_nil (B : Nat) (w : World) : Grd B w none [] := fun h => by simp at h
end Go.Proofs.Ytenpiinkbfancaa
