/-
  What a value reads as: lists of integers, lists of such lists; kept while the blocks below a bound are kept. Plain facts on worlds; no program. Lemmas of walks that name no function of the program. Regions that draw their order, within a round of a loop over a function. A drawn region: quiet operations, a call among them that keeps S, then a forced tail behind all of them (a store, which need not keep S). A drawn region within a round, walked by hand: what yields in every world that meets S is taken first; else whichever may come up. A league's games, and the ranks of its teams. Plain facts; no program. The groups into which a group falls, as the reference finds them. Plain facts; no program. A league's race: points passed on from team to team over open games. Plain facts; no program. The least list of teams that has a property: first in the order of lists, as the program goes through them; least of all, as the reference does. Plain facts; no program. The walks of the smallest functions. Own lists of numbers, own lists of own lists; appends to them. Own lists of slices that are only read; appends of one, and of another such list. all[T]: true just if the function says so of each element; numbers, games. Own lists of games; an append of one.
-/
import Derived.WalkKit
import Derived.WalkSpells
import Derived.Deep.Draws
import Derived.Lib.Hide
import Derived.Test.YtjokbffdepcpkaaRows
import Derived.WalkLawsBesides
import Derived.Deep.QuietTactic
import Derived.BigQuiet
import Derived.RangeFuncNested
import Derived.RangeFuncBound
import Derived.RangeFuncCalls
import Derived.RangeFuncLeaves
import Derived.Laws.EntriesVeiled
import Derived.Shelf.Abstract
import Derived.OwnWalkIn
import Derived.TacticsInMore
import Derived.LoopNIn
import Derived.LoopIn
import Derived.StillTailTactics
import Derived.Deep.RegionWith
import Derived.Maps.AppendAt
import Derived.Deep.OwnRows
import Derived.Deep.DeepCutAuto
import Derived.Deep.RegionHeld3
import Derived.Laws.CopyOwn
namespace Go.Proofs.Ytjokbffdepcpkaa
section

open Go.RowKit

/-- Element k of a list of integers (0 beyond its end); of a list of lists ([] beyond its end). Plain definitions: the walk does not look into them. -/
def ix (xs : List Int) (k : Nat) : Int := xs.getD k 0
def rx (xss : List (List Int)) (k : Nat) : List Int := xss.getD k []

theorem ix_lt {xs : List Int} {k : Nat} (h : k < xs.length) : ix xs k = xs[k] := by simp [ix, h]
theorem rx_lt {xss : List (List Int)} {k : Nat} (h : k < xss.length) : rx xss k = xss[k] := by simp [rx, h]

/-- The slice address A has, from block number below B, the integers xs in world w. -/
def Ints (B : Nat) (w : World) (A : Option Addr) (xs : List Int) : Prop :=
  0 < xs.length → ∃ b off, A = some ⟨b, off, none⟩ ∧ b < B ∧ ∀ k, k < xs.length → w.cell? ⟨b, off + k, none⟩ = some (.int .i64 (ix xs k))

/-- A value that is a slice that reads as xs. -/
def IsInts (B : Nat) (w : World) (v : Value) (xs : List Int) : Prop :=
  ∃ A c, v = .slice A xs.length c ∧ xs.length ≤ c ∧ c ≤ 9223372036854775807 ∧ Ints B w A xs

def Grd (B : Nat) (w : World) (A : Option Addr) (xss : List (List Int)) : Prop :=
  0 < xss.length → ∃ b off, A = some ⟨b, off, none⟩ ∧ b < B ∧ ∀ k, k < xss.length → ∃ v, w.cell? ⟨b, off + k, none⟩ = some v ∧ IsInts B w v (rx xss k)

def IsGrd (B : Nat) (w : World) (v : Value) (xss : List (List Int)) : Prop :=
  ∃ A c, v = .slice A xss.length c ∧ xss.length ≤ c ∧ c ≤ 9223372036854775807 ∧ Grd B w A xss

section
variable {B B' : Nat} {w w' : World} {A : Option Addr} {v : Value} {xs : List Int} {xss : List (List Int)}

theorem Ints.at_ (h : Ints B w A xs) {k : Nat} (hk : k < xs.length) : ∃ b off, A = some ⟨b, off, none⟩ ∧ b < B ∧ w.cell? ⟨b, off + k, none⟩ = some (.int .i64 (ix xs k)) := by
  obtain ⟨b, off, hA, hb, hc⟩ := h (by omega)
  exact ⟨b, off, hA, hb, hc k hk⟩

theorem Grd.at_ (h : Grd B w A xss) {k : Nat} (hk : k < xss.length) : ∃ b off A' c', A = some ⟨b, off, none⟩ ∧ b < B ∧ w.cell? ⟨b, off + k, none⟩ = some (.slice A' (rx xss k).length c') ∧ (rx xss k).length ≤ c' ∧ c' ≤ 9223372036854775807 ∧ Ints B w A' (rx xss k) := by
  obtain ⟨b, off, hA, hb, hc⟩ := h (by omega)
  obtain ⟨v, hv, A', c', rfl, h1, h2, h3⟩ := hc k hk
  exact ⟨b, off, A', c', hA, hb, hv, h1, h2, h3⟩

theorem Ints.below (h : Ints B w A xs) (hb : Below B w w') : Ints B w' A xs := fun hp => by
  obtain ⟨b, off, hA, hlt, hc⟩ := h hp
  exact ⟨b, off, hA, hlt, fun k hk => (hb.cell (p := ⟨b, off + k, none⟩) hlt).trans (hc k hk)⟩
theorem IsInts.below (h : IsInts B w v xs) (hb : Below B w w') : IsInts B w' v xs := by
  obtain ⟨A, c, hv, h1, h2, h3⟩ := h
  exact ⟨A, c, hv, h1, h2, h3.below hb⟩
theorem Grd.below (h : Grd B w A xss) (hb : Below B w w') : Grd B w' A xss := fun hp => by
  obtain ⟨b, off, hA, hlt, hc⟩ := h hp
  refine ⟨b, off, hA, hlt, fun k hk => ?_⟩
  obtain ⟨v, hv, hi⟩ := hc k hk
  exact ⟨v, (hb.cell (p := ⟨b, off + k, none⟩) hlt).trans hv, hi.below hb⟩
theorem IsGrd.below (h : IsGrd B w v xss) (hb : Below B w w') : IsGrd B w' v xss := by
  obtain ⟨A, c, hv, h1, h2, h3⟩ := h
  exact ⟨A, c, hv, h1, h2, h3.below hb⟩

theorem Ints.more (h : Ints B w A xs) (hB : B ≤ B') : Ints B' w A xs := fun hp => by
  obtain ⟨b, off, hA, hlt, hc⟩ := h hp
  exact ⟨b, off, hA, by omega, hc⟩
theorem IsInts.more (h : IsInts B w v xs) (hB : B ≤ B') : IsInts B' w v xs := by
  obtain ⟨A, c, hv, h1, h2, h3⟩ := h
  exact ⟨A, c, hv, h1, h2, h3.more hB⟩
theorem Grd.more (h : Grd B w A xss) (hB : B ≤ B') : Grd B' w A xss := fun hp => by
  obtain ⟨b, off, hA, hlt, hc⟩ := h hp
  refine ⟨b, off, hA, by omega, fun k hk => ?_⟩
  obtain ⟨v, hv, hi⟩ := hc k hk
  exact ⟨v, hv, hi.more hB⟩
theorem IsGrd.more (h : IsGrd B w v xss) (hB : B ≤ B') : IsGrd B' w v xss := by
  obtain ⟨A, c, hv, h1, h2, h3⟩ := h
  exact ⟨A, c, hv, h1, h2, h3.more hB⟩

theorem Ints.alloc (h : Ints B w A xs) (hB : B ≤ w.heap.size) (o : Obj) : Ints B (w.alloc o) A xs := h.below ((Below.refl _ _).alloc hB o)
theorem IsInts.alloc (h : IsInts B w v xs) (hB : B ≤ w.heap.size) (o : Obj) : IsInts B (w.alloc o) v xs := h.below ((Below.refl _ _).alloc hB o)
theorem Grd.alloc (h : Grd B w A xss) (hB : B ≤ w.heap.size) (o : Obj) : Grd B (w.alloc o) A xss := h.below ((Below.refl _ _).alloc hB o)
theorem IsGrd.alloc (h : IsGrd B w v xss) (hB : B ≤ w.heap.size) (o : Obj) : IsGrd B (w.alloc o) v xss := h.below ((Below.refl _ _).alloc hB o)
end

theorem below_drewN {B : Nat} {a w : World} (h : Below B a w) (n : Nat) : Below B a (w.drewN n) := ⟨h.os, h.tape, h.output, h.size, h.block⟩

/-- All old cells and marks read as before: rules for the walk. -/
theorem bcell {W w1 : World} (hb : Below W.heap.size W w1) : (∀ b o, b < W.heap.size → w1.cell? ⟨b, o, none⟩ = W.cell? ⟨b, o, none⟩) ∧ (∀ b o, b < W.heap.size → w1.frozen? ⟨b, o, none⟩ = W.frozen? ⟨b, o, none⟩) :=
  ⟨fun b o h => hb.cell (p := ⟨b, o, none⟩) h, fun b o h => hb.frozen (p := ⟨b, o, none⟩) h⟩

/-- The post of a function that answers v and leaves all that was there. -/
def Ans (w : World) (v : Value) (e : Ending) (w' : World) : Prop := e = .returned v ∧ Below w.heap.size w w'
theorem Ans.same {w : World} {v : Value} : Ans w v (.returned v) w := ⟨rfl, Below.refl _ _⟩
end

section

open Go.RowKit

/-- Is a number from lo to hi? -/
def inB (n lo hi : Int) : Bool := decide (lo ≤ n) && decide (n ≤ hi)
theorem inB_eq (n lo hi : Int) : inB n lo hi = true ↔ lo ≤ n ∧ n ≤ hi := by simp [inB]
/-- a bool, and the world as it was -/
def Same (w : World) (v : Value) (e : Ending) (w' : World) : Prop := e = .returned v ∧ w = w'
theorem Same.ans {w : World} {v : Value} {e : Ending} {w' : World} (h : Same w v e w') : Ans w v e w' := by
  obtain ⟨rfl, rfl⟩ := h
  exact Ans.same
theorem ret_bool {a b : Bool} (h : a = b) : Ending.returned (.bool a) = .returned (.bool b) := by rw [h]
theorem ret_int {k : IntKind} {a b : Int} (h : a = b) : Ending.returned (.int k a) = .returned (.int k b) := by rw [h]
/-- Are two lists the same? -/
def eqB (xs ys : List Int) : Bool := decide (xs = ys)
theorem eqB_len {xs ys : List Int} (h : xs.length ≠ ys.length) : eqB xs ys = false := by
  simp only [eqB, decide_eq_false_iff_not]; rintro rfl; exact h rfl
theorem eqB_at {xs ys : List Int} {k : Nat} (h1 : ix xs k ≠ ix ys k) : eqB xs ys = false := by
  simp only [eqB, decide_eq_false_iff_not]; rintro rfl; exact h1 rfl
theorem eqB_all {xs ys : List Int} (h : xs.length = ys.length) (h1 : ∀ j, j < xs.length → ix xs j = ix ys j) : eqB xs ys = true := by
  simp only [eqB, decide_eq_true_eq]
  refine List.ext_getElem h fun i h2 h3 => ?_
  have := h1 i h2
  rwa [ix_lt h2, ix_lt h3] at this
def pref (xs ys : List Int) (k : Nat) : Prop := ∀ j, j < k → ix xs j = ix ys j
/-- an answer, and nothing but draws -/
def Qt (w : World) (v : Value) (e : Ending) (w' : World) : Prop := e = .returned v ∧ ∃ n, w' = w.drewN n
theorem Qt.ans {w : World} {v : Value} {e : Ending} {w' : World} (h : Qt w v e w') : Ans w v e w' := by
  obtain ⟨rfl, n, rfl⟩ := h
  exact ⟨rfl, below_drewN (Below.refl _ _) n⟩
def Enters (g : Nat) : Prop := ∀ args W, (callFunc g args).run Try.prog W = .ok (.enter g args) W
def AllB (n : Nat) (p : Nat → Bool) : Prop := ∀ k, k < n → p k = true
theorem AllB.succ {k : Nat} {p : Nat → Bool} (h : AllB k p) (hp : p k = true) : AllB (k + 1) p := fun j hj => by
  by_cases e : j = k
  · subst e; exact hp
  · exact h j (by omega)
noncomputable def allB (n : Nat) (p : Nat → Bool) : Bool := (List.range n).all p
theorem allB_iff {n : Nat} {p : Nat → Bool} : allB n p = true ↔ AllB n p := by simp [allB, AllB]
/-- What IndexFunc answers: an index, if one is not right; else -1. -/
def Found (w : World) (n : Nat) (p : Nat → Bool) (e : Ending) (w' : World) : Prop :=
  (∃ k : Nat, e = .returned (.int .i64 k) ∧ allB n p = false ∧ Below w.heap.size w w') ∨ (e = .returned (.int .i64 (-1)) ∧ allB n p = true ∧ Below w.heap.size w w')
theorem found_at {w w' : World} {n k : Nat} {p : Nat → Bool} (hk : k < n) (hp : p k = false) (hb : Below w.heap.size w w') : Found w n p (.returned (.int .i64 k)) w' :=
  .inl ⟨k, rfl, (Bool.eq_false_iff.2 fun h => by rw [allB_iff] at h; rw [h k hk] at hp; simp at hp), hb⟩
theorem found_none {w w' : World} {n : Nat} {p : Nat → Bool} (h : AllB n p) (hb : Below w.heap.size w w') : Found w n p (.returned (.int .i64 (-1))) w' := .inr ⟨rfl, allB_iff.2 h, hb⟩
theorem allB_false {n k : Nat} {p : Nat → Bool} (hk : k < n) (hp : p k = false) : allB n p = false := Bool.eq_false_iff.2 fun h => by rw [allB_iff] at h; rw [h k hk] at hp; cases hp
theorem allB_true {n : Nat} {p : Nat → Bool} (h : AllB n p) : allB n p = true := allB_iff.2 h
theorem push0 (x : Value) (cs : Array Value) : ((#[] : Array Value).push x ++ cs) = #[x] ++ cs := rfl
theorem push00 (x : Value) : ((#[] : Array Value).push x ++ #[]) = #[x] := rfl
theorem push10 (y x : Value) : ((#[y] : Array Value).push x ++ #[]) = #[y, x] := rfl
theorem only_drewN {a w : World} {row : Option Nat} (h : a.grownBy w row) (n : Nat) : a.grownBy (w.drewN n) row := ⟨h.os, h.tape, h.output, h.size, h.block⟩
theorem only_alloc {a w : World} {row : Option Nat} (h : a.grownBy w row) (o : Obj) : a.grownBy (w.alloc o) row :=
  ⟨h.os, h.tape, h.output, Nat.le_trans h.size (by simp), fun i hi hne => (Below.heap_alloc w o i (Nat.lt_of_lt_of_le hi h.size)).trans (h.block i hi hne)⟩
theorem only_setCell {a w : World} {g : Nat} (h : a.grownBy w (some g)) {p : Addr} (hp : p.block = g ∨ a.heap.size ≤ p.block) (u : Value) : a.grownBy (w.setCell p u) (some g) :=
  ⟨h.os, h.tape, h.output, by simpa [World.setCell] using h.size, fun i hi hne => (Below.heap_setCell w p u i (by
    rintro rfl
    rcases hp with hp | hp
    · exact hne (by rw [hp])
    · omega)).trans (h.block i hi hne)⟩
theorem only_below {a w : World} (h : Below a.heap.size a w) (row : Option Nat) : a.grownBy w row := ⟨h.os, h.tape, h.output, h.size, fun i hi _ => h.block i hi⟩
theorem below_only {B g : Nat} {a w : World} (h : a.grownBy w (some g)) (hg : B ≤ g) (hB : B ≤ a.heap.size) : Below B a w :=
  ⟨h.os, h.tape, h.output, h.size, fun i hi => h.block i (by omega) (fun e => by injection e with e; omega)⟩
theorem add_eq (b off j : Nat) : (⟨b, off, none⟩ : Addr).add j = ⟨b, off + j, none⟩ := by
  unfold Addr.add
  split
  · next h => subst h; rfl
  · rfl
theorem Ints.src {B : Nat} {w : World} {A : Option Addr} {xs : List Int} (h : Ints B w A xs) (h0 : 0 < (xs.map (Value.int .i64)).length) : ∃ ad, A = some ad ∧ ∀ j v, (xs.map (Value.int .i64))[j]? = some v → w.cell? (ad.add j) = some v := by
  obtain ⟨b, off, hA, _, hc⟩ := h (by simpa using h0)
  refine ⟨_, hA, fun j v hv => ?_⟩
  rw [add_eq]
  have hj : j < xs.length := by
    rcases Nat.lt_or_ge j xs.length with h | h
    · exact h
    · rw [List.getElem?_eq_none (by simpa using h)] at hv; cases hv
  rw [hc j hj, ix_lt hj]
  simpa [hj] using hv
theorem one_ints (xs : List Int) : ∀ v ∈ xs.map (Value.int .i64), v.oneCell' = true := by
  intro v hv
  obtain ⟨x, _, rfl⟩ := List.mem_map.1 hv
  rfl
/-- A slice's cells, nil let in. -/
def Src (w : World) (size : Nat) (A : Option Addr) (m : Nat) (news : List Value) : Prop :=
  news.length = m * size ∧ (A = none → m = 0) ∧ ∀ ad, A = some ad → ∀ j u, news[j]? = some u → w.cell? (ad.add j) = some u
theorem Ints.isrc {B : Nat} {w : World} {A : Option Addr} {xs : List Int} (h : Ints B w A xs) : Src w 1 A xs.length (xs.map (Value.int .i64)) := by
  refine ⟨by simp, fun hA => ?_, fun ad hA j u hu => ?_⟩
  · rcases Nat.eq_zero_or_pos xs.length with h0 | h0
    · exact h0
    · obtain ⟨b, off, hA', _⟩ := h h0
      rw [hA] at hA'
      cases hA'
  · have h0 : 0 < (xs.map (Value.int .i64)).length := by
      rcases Nat.eq_zero_or_pos (xs.map (Value.int .i64)).length with h0 | h0
      · rw [List.getElem?_eq_none (by omega)] at hu; cases hu
      · exact h0
    obtain ⟨ad', hA', hc⟩ := h.src h0
    rw [hA] at hA'
    injection hA' with e
    subst e
    exact hc j u hu
section
variable {P : Program} {w : World}
theorem run_append_src (base : Nat) (t ty e : TypeId) (i : TypeInfo) (z : Value) (size bytes : Nat) (ht : P.underlying t = some (.slice e)) (hi : P.info? e = some i) (hz : i.zero = some z)
    (hsize : i.size = size) (hby : i.bytes = bytes) (hzs : z.cells.size = size) (hsz : 0 < size)
    (v : Value) (n : Nat) (xs : List Value) (hown : w.ownsRow base e size v n xs) (A : Option Addr) (m c : Nat) (news : List Value) (hs : Src w size A m news) (h1 : ∀ u ∈ news, u.oneCell' = true)
    (h63 : n + m ≤ maxLen) (hbytes : (n + m) * bytes ≤ 140737488355328) (hbase : base ≤ w.heap.size) :
    ∃ v' w', (Builtin.append_ #[t, t] ty #[v, .slice A m c]).run P w = .ok v' w' ∧ w'.ownsRow base e size v' (n + m) (xs ++ news) ∧ w.grownBy w' v.ownBlock ∧
      (v'.ownBlock = v.ownBlock ∨ v'.ownBlock = some w.heap.size) := by
  cases A with
  | some ad =>
    obtain ⟨v', w', h2, h3, h4, _, h5⟩ := run_append_own_at (P := P) w base t ty e i z size bytes ht hi hz hsize hby hzs hsz v n xs hown ad m c news hs.1 (hs.2.2 ad rfl) h1 h63 hbytes hbase
    exact ⟨v', w', h2, h3, h4, h5⟩
  | none =>
    obtain rfl : m = 0 := hs.2.1 rfl
    obtain rfl : news = [] := List.eq_nil_of_length_eq_zero (by simpa using hs.1)
    refine ⟨v, w, ?_, by simpa using hown, World.grownBy.refl _ _, .inl rfl⟩
    rcases hown.2 with ⟨rfl, rfl⟩ | ⟨g, cap, cur, rfl, _, _, hcap, _⟩
    all_goals simp [Builtin.append_, run_underlying ht, sizeOf, typeInfo, hi, Builtin.lenOf, Builtin.firstCells, storeCells]
    omega
theorem wpList_append_src {ops : Array Oper} {rest : List Oper} {o : Oper} {a : Act} {Q : Exit → Act → World → Prop} (hgd : o.guard = none) (s x : Operand) (t : TypeId)
    (ho : o.op = .call { callee := .builtin .append, args := #[s, x], argTypes := #[t, t] })
    (base : Nat) (e : TypeId) (i : TypeInfo) (z : Value) (size bytes : Nat) (ht : P.underlying t = some (.slice e)) (hi : P.info? e = some i) (hz : i.zero = some z)
    (hsize : i.size = size) (hby : i.bytes = bytes) (hzs : z.cells.size = size) (hsz : 0 < size)
    (v : Value) (n : Nat) (xs : List Value) (hv : a.eval s = v) (hown : w.ownsRow base e size v n xs) (A : Option Addr) (m c : Nat) (news : List Value) (hx : a.eval x = .slice A m c) (hs : Src w size A m news) (h1 : ∀ u ∈ news, u.oneCell' = true)
    (h63 : n + m ≤ maxLen) (hbytes : (n + m) * bytes ≤ 140737488355328) (hbase : base ≤ w.heap.size)
    (h : ∀ v' w', w'.ownsRow base e size v' (n + m) (xs ++ news) → w.grownBy w' v.ownBlock → (v'.ownBlock = v.ownBlock ∨ v'.ownBlock = some w.heap.size) → wpList P ops Q rest (a.put o.dst v') w') : wpList P ops Q (o :: rest) a w := by
  refine wpList_plain hgd fun K hK => ?_
  obtain ⟨v', w', hr, h2, h3, h4⟩ := run_append_src (P := P) (w := w) base t o.type e i z size bytes ht hi hz hsize hby hzs hsz v n xs hown A m c news hs h1 h63 hbytes hbase
  unfold Oper.wp execOp
  simp only [ho, resolve, invoke, builtin, Sem.run_bind, Sem.run_pure, Result.andThen_ok, List.map_toArray, List.map_cons, List.map_nil, hv, hx, hr]
  exact hK _ _ (h v' w' h2 h3 h4)
end
theorem ownsRow_form {w : World} {base : Nat} {e : TypeId} {size n : Nat} {v : Value} {xs : List Value} (h : w.ownsRow base e size v n xs) : ∃ A c, v = .slice A n c := by
  rcases h.2 with ⟨rfl, rfl⟩ | ⟨g, cap, cur, rfl, _⟩
  · exact ⟨_, _, rfl⟩
  · exact ⟨_, _, rfl⟩
theorem ownsRow_base {w : World} {base base' : Nat} {e : TypeId} {size n : Nat} {v : Value} {xs : List Value} (h : w.ownsRow base e size v n xs) (hb : base' ≤ base) : w.ownsRow base' e size v n xs := by
  obtain ⟨h1, h2⟩ := h
  refine ⟨h1, ?_⟩
  rcases h2 with h2 | ⟨g, cap, cur, hv, hg, r⟩
  · exact .inl h2
  · exact .inr ⟨g, cap, cur, hv, by omega, r⟩
theorem below_drew_l {B : Nat} {a w : World} (h : Below B a.drew w) : Below B a w := ⟨h.os, h.tape, h.output, h.size, h.block⟩
theorem ownsRow_isInts {w : World} {base : Nat} {v : Value} {xs : List Int} (h : w.ownsRow base 3 1 v xs.length (xs.map (Value.int .i64))) : IsInts w.heap.size w v xs := by
  rcases h.2 with ⟨rfl, h0⟩ | ⟨g, cap, cur, rfl, hb, hg, hn, hm, hs, ht⟩
  · have : xs = [] := List.eq_nil_of_length_eq_zero h0
    subst this
    exact ⟨none, 0, rfl, by simp, by simp, fun hp => by simp at hp⟩
  · refine ⟨_, cap, rfl, hn, by unfold maxLen at hm; omega, fun hp => ⟨g, 0, rfl, (Array.getElem?_eq_some_iff.1 hg).1, fun k hk => ?_⟩⟩
    have := h.cells (g := g) rfl k (.int .i64 (ix xs k)) (by rw [List.getElem?_map, List.getElem?_eq_getElem hk, ix_lt hk]; rfl)
    rwa [add_eq] at this
theorem calls_marks {P : Program} {f : FuncId} {fn : Func} {c : Code} {args : Array Value} {w : World} {R : Ending → World → Prop} (hf : P.funcs[f]? = some fn) (hb : fn.body = some c)
    (h : c.wp P (bodyPostM Fence.wide 0 P fn R) { tmps := args ++ Array.replicate (fn.ntmps - args.size) undef, defers := [] } w) : Calls P f args w R :=
  (callsIn_wide (n := 0)).1 (callsIn_of_wp_marks hf hb trivial (wpIn_wide.2 h) rfl)
theorem cell_alloc_keep {w : World} {a : Addr} {v : Value} (o : Obj) (h : w.cell? a = some v) : (w.alloc o).cell? a = some v := (World.cell?_alloc_lt _ _ _ (World.block_lt_of_cell? w a h)).trans h
theorem cell_of_ans {W w1 : World} (hb : Below W.heap.size W w1) {p : Addr} {v : Value} (h : W.cell? p = some v) : w1.cell? p = some v := (hb.cell (World.block_lt_of_cell? W p h)).trans h
theorem cell_set_keep {w : World} {p a : Addr} {u v : Value} (h : w.cell? a = some v) (hp : p.block ≠ a.block) : (w.setCell p u).cell? a = some v := (World.cell?_setCell_other w p a u (fun e => hp (by rw [e]))).trans h
theorem Grd.step {w w' : World} {A : Option Addr} {xss : List (List Int)} (h : Grd w.heap.size w A xss) (hb : Below w.heap.size w w') : Grd w'.heap.size w' A xss := (h.below hb).more hb.size
theorem Ints.step {w w' : World} {A : Option Addr} {xs : List Int} (h : Ints w.heap.size w A xs) (hb : Below w.heap.size w w') : Ints w'.heap.size w' A xs := (h.below hb).more hb.size
theorem grd_nil (B : Nat) (w : World) : Grd B w none [] := fun h => by simp at h
end

section

open Go.RowKit

theorem uponIn_of_upon {l0 n : Nat} {P : Program} {o : Oper} {a : Act} {K K' : Act → World → Prop} {Q : Exit → Act → World → Prop} (hK : ∀ a w, K a w → K' a w) (hout : ¬ LetsOut Q) (r : Result Next) (h : o.upon P a K Q r) : o.uponIn (Fence.wide.inRound l0) n P a K' Q r := by
  unfold Oper.upon at h
  split at h
  · exact hK _ _ h
  · exact hK _ _ h
  · exact hK _ _ h
  · rename_i f args w'
    refine ⟨fun h => by simp [Fence.wide] at h, CallsIn.inRound l0 (callsIn_wide.2 (h.mono fun e w'' he => ?_))⟩
    cases e with
    | returned v => exact hK _ _ he
    | panicked ch => exact he
    | outgrown => exact absurd he hout
  · rename_i row args w'
    refine ⟨fun h => by simp [Fence.wide] at h, fun c cs _ => ?_⟩
    obtain ⟨v, w'', hR, hs⟩ := h c cs
    exact ⟨v, w'', hK _ _ hR, stepsIn_wide.2 hs⟩
  · exact h
  · exact h.elim

theorem wpOpsIn_of_wpOps {l0 n : Nat} {P : Program} {ops : Array Oper} {Q : Exit → Act → World → Prop} (hnd : ∀ (i : Nat) (o : Oper) (c : Call), ops[i]? = some o → o.op ≠ .defer c) (hout : ¬ LetsOut Q) :
    ∀ (l : List Nat) (a : Act) (w : World), wpOps P ops Q l a w → wpOpsIn (Fence.wide.inRound l0) n P ops Q l a w := by
  intro l
  induction l with
  | nil => exact fun a w h => h
  | cons i rest ih =>
    intro a w h
    simp only [wpOps] at h
    simp only [wpOpsIn]
    cases ho : ops[i]? with
    | none =>
      simp only [ho] at h ⊢
      exact ih a w h
    | some o =>
      simp only [ho] at h ⊢
      split
      · rename_i hw
        rw [if_pos hw] at h
        rcases h with h | ⟨_, h⟩
        · refine ⟨fun _ _ => trivial, ?_⟩
          rw [Oper.semAt_eq _ _ _ (fun c => hnd i o c ho)]
          exact uponIn_of_upon ih hout _ h
        · exact absurd h hout
      · rename_i hw
        rw [if_neg hw] at h
        exact ⟨fun _ _ => trivial, ih _ _ h⟩

def noDefer (ops : List Oper) : Bool := ops.all fun o => match o.op with | .defer _ => false | _ => true

/-- A quiet region within a round. -/
theorem round_quiet {l0 n id : Nat} {P : Program} {Q : Exit → Act → World → Prop} {a : Act} {w : World} {l : List Oper} (hm : P.follows .mixedOrders = true) (hB : Region.lexB .any l.toArray = true) (hnd : noDefer l = true) (hout : ¬ LetsOut Q)
    (h : wpQuiet P l.toArray (fun w' => ∃ n, w' = w.drewN n) (fun a' => ∀ w', (∃ n, w' = w.drewN n) → Q .normal a' w') l a) : (Code.region id l.toArray true).wpIn (Fence.wide.inRound l0) n P Q a w := by
  refine wpIn_region_draw fun t => wpOpsIn_of_wpOps ?_ hout _ _ _ ?_
  · intro i o c ho hc
    simp only [noDefer, List.all_eq_true] at hnd
    have := hnd o (by simp at ho; exact List.mem_of_getElem? ho)
    simp [hc] at this
  · simp only [Region.schedule, hm, Bool.true_or, if_true]
    simp only [Region.lexB, Bool.and_eq_true] at hB
    refine wpAny_sound l.toArray.size t _ a _ (wpAny_of_quiet (C := fun w' => ∃ n, w' = w.drewN n) (Q := fun a' => ∀ w', (∃ n, w' = w.drewN n) → Q .normal a' w') (fun _ w' hw' h => h w' hw') _ _ _ _ ⟨1, rfl⟩ ?_)
    have := wpAnyQ_lex (C := fun w' => ∃ n, w' = w.drewN n) (md := .any) hB.1 l 0 (Array.replicate l.toArray.size false) a (by simp) (by simpa using hB.2) h
    simpa using this

/-- A region within a round, any order. -/
theorem round_any {l0 n id : Nat} {P : Program} {Q : Exit → Act → World → Prop} {a : Act} {w : World} {l : List Oper} (hm : P.follows .mixedOrders = true) (hnd : noDefer l = true) (hout : ¬ LetsOut Q)
    (h : wpAny P .any l.toArray Q l.toArray.size (Array.replicate l.toArray.size false) a { w with drawn := w.drawn + 1 }) : (Code.region id l.toArray true).wpIn (Fence.wide.inRound l0) n P Q a w := by
  refine wpIn_region_draw fun t => wpOpsIn_of_wpOps ?_ hout _ _ _ ?_
  · intro i o c ho hc
    simp only [noDefer, List.all_eq_true] at hnd
    have := hnd o (by simp at ho; exact List.mem_of_getElem? ho)
    simp [hc] at this
  · simp only [Region.schedule, hm, Bool.true_or, if_true]
    exact wpAny_sound l.toArray.size t _ a _ h

/-- A region within a round: a head that only reads, then a tail in one forced order. -/
theorem round_still_tail {l0 m id : Nat} {P : Program} {Q : Exit → Act → World → Prop} {a : Act} {w : World} {l : List Oper} (n : Nat) (hm : P.follows .mixedOrders = true) (hB : Region.lexTailB .any l.toArray n = true) (hnd : noDefer l = true) (hout : ¬ LetsOut Q)
    (h : wpStill P l.toArray w.drew (fun a' => wpList P l.toArray Q (l.drop n) a' w.drew) (l.take n) a) : (Code.region id l.toArray true).wpIn (Fence.wide.inRound l0) m P Q a w := by
  simp only [Region.lexTailB, Bool.and_eq_true, decide_eq_true_eq] at hB
  obtain ⟨⟨⟨⟨hsel, hn⟩, hs⟩, hc⟩, hlex⟩ := hB
  have hn' : n < l.length := by simpa using hn
  have htl : (l.take n).length = n := by simp; omega
  have hdl : (l.drop n).length = l.toArray.size - n := by simp
  have inv0 : HeadInv .any l.toArray n (Array.replicate l.toArray.size false) :=
    ⟨by simp, fun j oj _ hl => (by rw [getD_replicate_false] at hl; cases hl), fun t _ ht => getD_in (by simpa using ht) (getD_replicate_false _ _)⟩
  have H := wpAnyL_lex (md := .any) (g := l.toArray.size - n) hsel hs hc hn (l.take n) 0 _ a (fun j hj => by
    have hj' : j < n := by rw [htl] at hj; exact hj
    simp [hj']) (by simpa using htl) inv0 (by rw [htl]; exact hlex) h
  refine round_any hm hnd hout ?_
  have := wpAny_of_head (Q' := Q) (g := l.toArray.size - n) (fun listed a' hL => by
    have := wpAny_of_seq (md := .any) (Q' := Q) (l.drop n) n listed a' { w with drawn := w.drawn + 1 } (fun j => by simp [List.getElem?_drop]) (by rw [hdl]; exact hL.1) hL.2
    rwa [hdl] at this) _ _ _ H
  rw [htl, show n + (l.toArray.size - n) = l.toArray.size by omega] at this
  exact this

/-- Marks of loops over functions: each names a block of its own that holds no call. -/
def Marks (B : Nat) (w : World) : List Deferred → Prop
  | [] => True
  | d :: ds => (∃ D, B ≤ D ∧ d = { target := .collected D, args := #[] } ∧ w.heap[D]? = some (.deferred (some [])) ∧ (∀ d' ∈ ds, d'.target ≠ .collected D)) ∧ Marks B w ds

theorem Marks.keep {B : Nat} {w w' : World} (h : ∀ (k : Nat) (o : Obj), B ≤ k → w.heap[k]? = some o → o.isCells = false → w'.heap[k]? = some o) : ∀ {ds : List Deferred}, Marks B w ds → Marks B w' ds
  | [], _ => trivial
  | _ :: _, ⟨⟨D, hB, hd, hD, hne⟩, hr⟩ => ⟨⟨D, hB, hd, h D _ hB hD rfl, hne⟩, Marks.keep h hr⟩

theorem Marks.lt {B : Nat} {w : World} : ∀ {ds : List Deferred}, Marks B w ds → ∀ d ∈ ds, ∃ D, d.target = .collected D ∧ D < w.heap.size
  | [], _, _, h => by cases h
  | _ :: _, ⟨⟨D, _, hd, hD, _⟩, hr⟩, d, hm => by
    rcases List.mem_cons.1 hm with rfl | h
    · exact ⟨D, by rw [hd], (Array.getElem?_eq_some_iff.1 hD).1⟩
    · exact Marks.lt hr d h

/-- What the taking up of marks leaves: all blocks of cells, all blocks below B. -/
def Took (B : Nat) (w w' : World) : Prop := w'.os = w.os ∧ w'.tape = w.tape ∧ w'.output = w.output ∧ w'.heap.size = w.heap.size ∧ (∀ k, k < B → w'.heap[k]? = w.heap[k]?) ∧ ∀ (k : Nat) (o : Obj), w.heap[k]? = some o → o.isCells = true → w'.heap[k]? = some o

theorem marks_put {B D : Nat} {w : World} : ∀ {ds : List Deferred}, (∀ d' ∈ ds, d'.target ≠ .collected D) → Marks B w ds → Marks B (w.putObj D (.deferred none)) ds
  | [], _, _ => trivial
  | d :: _, hne, ⟨⟨D', hB', hd', hD', hne'⟩, hr⟩ => ⟨⟨D', hB', hd', (World.putObj_heap_other (fun e => by
      have := hne d (List.mem_cons_self ..)
      rw [hd', e] at this
      exact this rfl)).trans hD', hne'⟩, marks_put (fun d' hd'' => hne d' (List.mem_cons_of_mem _ hd'')) hr⟩

theorem leaves_marks {B : Nat} {P : Program} {fn : Func} {tmps : Array Value} {R : Ending → World → Prop} : ∀ (ds : List Deferred) (w : World), Marks B w ds → (∀ w', Took B w w' → ∃ v, (results fn tmps).run P w' = .ok v w' ∧ R (.returned v) w') → LeavesInM Fence.wide 0 P fn tmps R ds .returning w
  | [], w, _, h => h w ⟨rfl, rfl, rfl, rfl, fun _ _ => rfl, fun _ _ h _ => h⟩
  | d :: ds, w, ⟨⟨D, hB, hd, hD, hne⟩, hr⟩, h => by
    subst hd
    refine ⟨by simp, .inl ⟨D, _, rfl, run_takeDeferred hD, ?_⟩⟩
    refine leaves_marks ds _ (marks_put hne hr) fun w' hw' => h w' ?_
    obtain ⟨h1, h2, h3, h4, h5, h6⟩ := hw'
    refine ⟨h1, h2, h3, by simpa using h4, fun k hk => (h5 k hk).trans (World.putObj_heap_other (by omega)), fun k o hk ho => h6 k o ?_ ho⟩
    refine (World.putObj_heap_other (fun e => ?_)).trans hk
    subst e
    rw [hD] at hk
    cases hk
    cases ho
end

section

open Go.RowKit

section
variable {P : Program} {ops : Array Oper} {Q : Exit → Act → World → Prop} {md : Region.Mode} {S : World → Prop}

/-- Whatever order is picked from here on, and S holds behind every operation with a number below m. -/
def wpAnyT (P : Program) (md : Region.Mode) (ops : Array Oper) (Q : Exit → Act → World → Prop) (S : World → Prop) (m : Nat) : Nat → Array Bool → Act → World → Prop
  | 0, listed, a, w => Region.ready md ops listed = [] ∧ Q .normal a w
  | fuel + 1, listed, a, w =>
    (Region.ready md ops listed = [] → Q .normal a w) ∧
    ∀ i ∈ Region.ready md ops listed, wpOp P ops Q i (fun a' w' => (i < m → S w') ∧ wpAnyT P md ops Q S m fuel (listed.setIfInBounds i true) a' w') a w

theorem wpAny_of_T {m : Nat} : ∀ (fuel : Nat) (listed : Array Bool) (a : Act) (w : World), wpAnyT P md ops Q S m fuel listed a w → wpAny P md ops Q fuel listed a w
  | 0, _, _, _, h => h
  | fuel + 1, _, _, _, h => ⟨h.1, fun i hi => wpOp_mono (fun a' w' h' => wpAny_of_T fuel _ a' w' h'.2) (h.2 i hi)⟩

/-- Those from m on wait for i. -/
def tailWaits (md : Region.Mode) (ops : Array Oper) (m i : Nat) : Bool :=
  (List.range ops.size).all fun j => decide (j < m) || j == i || match ops[j]? with
    | some oj => oj.after.any fun e => Region.binds md e && e.on == i
    | none => true

theorem tailWaits_spec {m i : Nat} (h : tailWaits md ops m i = true) {j : Nat} {oj : Oper} (hj : ops[j]? = some oj) (hne : j ≠ i) (hno : ∀ e ∈ oj.after, Region.binds md e = true → e.on ≠ i) : j < m := by
  simp only [tailWaits, List.all_eq_true, List.mem_range] at h
  have h1 := h j (Array.getElem?_eq_some_iff.1 hj).1
  simp only [hj, Bool.or_eq_true, beq_iff_eq, hne, or_false, decide_eq_true_eq] at h1
  rcases h1 with h1 | h1
  · exact h1
  · simp only [Array.any_eq_true, Bool.and_eq_true, beq_iff_eq] at h1
    obtain ⟨x, hx, h2, h3⟩ := h1
    exact absurd h3 (hno _ (Array.getElem_mem hx) h2)

theorem wpAnyT_first {m i : Nat} {oi : Oper} {v : Value} (hi : ops[i]? = some oi) (hsel : ∀ (j : Nat) (o : Oper) cs b, ops[j]? = some o → o.op ≠ .select cs b)
    (hQ : ∀ c a w, Q (.panic c) (a.put oi.dst v) w → Q (.panic c) a w) (hwt : tailWaits md ops m i = true) :
    ∀ (fuel : Nat) (listed : Array Bool) (a : Act) (w : World),
      (∀ j oj, ops[j]? = some oj → j ≠ i → listed.getD j true = false → (∀ e ∈ oj.after, Region.binds md e = true → e.on ≠ i) → oi.apart ops oj = true) →
      i ∈ Region.ready md ops listed → YieldsIf P ops S oi v a → S w →
      wpAnyT P md ops Q S m fuel (listed.setIfInBounds i true) (a.put oi.dst v) w → wpAnyT P md ops Q S m (fuel + 1) listed a w := by
  intro fuel
  induction fuel with
  | zero =>
    intro listed a w _ hr hy hS H
    refine ⟨fun h => (by rw [h] at hr; cases hr), fun j hj => ?_⟩
    by_cases hji : j = i
    · subst hji; exact hy.wpOp hi hS ⟨fun _ => hS, H⟩
    · have := ready_mono hj hji
      rw [H.1] at this
      cases this
  | succ fuel ih =>
    intro listed a w hfree hr hy hS H
    refine ⟨fun h => (by rw [h] at hr; cases hr), fun j hj => ?_⟩
    by_cases hji : j = i
    · subst hji; exact hy.wpOp hi hS ⟨fun _ => hS, H⟩
    · have h1 := H.2 j (ready_mono hj hji)
      obtain ⟨hjun, oj, hoj, hall⟩ := mem_ready.1 hj
      have hnot : ∀ e ∈ oj.after, Region.binds md e = true → e.on ≠ i := fun e he hb heq => by
        have h1 := hall e he hb
        have h0 := (mem_ready.1 hr).1
        rw [heq] at h1
        rcases Nat.lt_or_ge i listed.size with h' | h'
        · simp [h'] at h0 h1; rw [h0] at h1; cases h1
        · simp [Array.getElem?_eq_none h'] at h1
      have hjm := tailWaits_spec hwt hoj hji hnot
      have h2 := wpOp_putIf hoj (hfree j oj hoj hji hjun hnot) (fun cs b => hsel i oi cs b hi) (fun cs b => hsel j oj cs b hoj) hQ hy h1
      have hfree' : ∀ k ok, ops[k]? = some ok → k ≠ i → (listed.setIfInBounds j true).getD k true = false →
          (∀ e ∈ ok.after, Region.binds md e = true → e.on ≠ i) → oi.apart ops ok = true := fun k ok hk hki hun hno => by
        refine hfree k ok hk hki ?_ hno
        by_cases hjk : j = k
        · subst hjk; exact hjun
        · rw [getD_set_ne true hjk] at hun; exact hun
      refine wpOp_mono (fun a' w' h3 => ⟨h3.2.1, ih (listed.setIfInBounds j true) a' w' hfree' (ready_mono hr (Ne.symm hji)) h3.1 (h3.2.1 hjm) ?_⟩) h2
      rw [Array.setIfInBounds_comm _ _ hji]
      exact h3.2.2

/-- Quiet operations in their order, each in every world that meets S. -/
def stillS (P : Program) (ops : Array Oper) (S : World → Prop) (L : Act → Prop) : List Oper → Act → Prop
  | [], a => L a
  | o :: l, a => ∃ v, YieldsIf P ops S o v a ∧ stillS P ops S L l (a.put o.dst v)

theorem stillS_nil {L : Act → Prop} {a : Act} (h : L a) : stillS P ops S L [] a := h
theorem stillS_cons {L : Act → Prop} {a : Act} {o : Oper} {l : List Oper} (v : Value) (hw : Region.wanted o (yielded ops a.tmps) = true) (hy : ∀ w, S w → (execOp a.eval o).run P w = .ok (.value v) w)
    (h : stillS P ops S L l (a.put o.dst v)) : stillS P ops S L (o :: l) a := ⟨v, .inl ⟨hw, hy⟩, h⟩

def lexT (md : Region.Mode) (ops : Array Oper) (m g : Nat) : Nat → Nat → Array Bool → Bool
  | 0, k, listed => Region.seqB md ops g k listed
  | f + 1, k, listed => (Region.ready md ops listed).contains k && Region.free md ops listed k && tailWaits md ops m k && lexT md ops m g f (k + 1) (listed.setIfInBounds k true)

theorem wpAnyT_lex {m g : Nat} {L : Act → Prop} {w : World} (hsel : Region.noSelect ops = true) (hQ : ∀ c a a' w, Q (.panic c) a w → Q (.panic c) a' w) (hS : S w)
    (hL : ∀ listed a, L a → ∀ k, Region.seqB md ops g k listed = true → k + g = ops.size → wpAnyT P md ops Q S m g listed a w) :
    ∀ (l : List Oper) (k : Nat) (listed : Array Bool) (a : Act), (∀ j, j < l.length → l[j]? = ops[k + j]?) → k + l.length + g = ops.size →
    lexT md ops m g l.length k listed = true → stillS P ops S L l a → wpAnyT P md ops Q S m (l.length + g) listed a w
  | [], k, listed, a, _, hk, hB, h => by
    rw [List.length_nil, Nat.zero_add]
    exact hL listed a h k hB (by simpa using hk)
  | o :: l, k, listed, a, hl, hk, hB, ⟨v, hy, h⟩ => by
    have h0 : ops[k]? = some o := by simpa using (hl 0 (by simp)).symm
    simp only [List.length_cons, lexT, Bool.and_eq_true] at hB
    obtain ⟨⟨⟨hr, hf⟩, ht⟩, hB'⟩ := hB
    rw [show (o :: l).length + g = (l.length + g) + 1 by simp only [List.length_cons]; omega]
    refine wpAnyT_first h0 (Region.noSelect_spec hsel) (fun c a w h => hQ c _ _ w h) ht _ listed a w (Region.free_spec h0 hf) (by simpa using hr) hy hS ?_
    exact wpAnyT_lex hsel hQ hS hL l (k + 1) _ _ (fun j hj => by have := hl (j + 1) (by simp; omega); simpa [Nat.add_assoc, Nat.add_comm 1 j] using this) (by simp only [List.length_cons] at hk; omega) hB' h

theorem wpAnyT_seq {m : Nat} : ∀ (l : List Oper) (k : Nat) (listed : Array Bool) (a : Act) (w : World), (∀ j, l[j]? = ops[k + j]?) → m ≤ k →
    Region.seqB md ops l.length k listed = true → wpList P ops Q l a w → wpAnyT P md ops Q S m l.length listed a w
  | [], _, _, _, _, _, _, hB, h => ⟨by simpa [Region.seqB] using hB, h⟩
  | o :: l, k, listed, a, w, hl, hk, hB, h => by
    have h0 : ops[k]? = some o := by simpa using (hl 0).symm
    simp only [List.length_cons, Region.seqB, Bool.and_eq_true, decide_eq_true_eq] at hB
    refine ⟨fun h1 => (by rw [hB.1] at h1; cases h1), fun i hi => ?_⟩
    rw [hB.1] at hi
    have hik : i = k := by simpa using hi
    subst hik
    have hw : wpOp P ops Q i (wpList P ops Q l) a w := by unfold wpOp; simp only [h0]; exact h
    exact wpOp_mono (fun a' w' h' => ⟨fun h => by omega, wpAnyT_seq l (i + 1) _ a' w' (fun j => by have := hl (j + 1); simpa [Nat.add_assoc, Nat.add_comm 1 j] using this) (by omega) hB.2 h'⟩) hw

/-- n quiet operations, then number n, a call that keeps S, then the rest, which waits for all of them. -/
theorem region_call_tail {id : Nat} {a : Act} {w : World} {l : List Oper} (n : Nat) (S : World → Prop) {o : Oper} (hm : P.follows .mixedOrders = true) (hsel : Region.noSelect l.toArray = true) (hQ : ∀ c a a' w, Q (.panic c) a w → Q (.panic c) a' w)
    (hn : n < l.length) (ho : l[n]? = some o) (hB : lexT .any l.toArray (n + 1) (l.length - n) n 0 (Array.replicate l.toArray.size false) = true) (hS : S w.drew)
    (h : stillS P l.toArray S (fun a' => ∀ K : Act → World → Prop, Hid (∀ a'' w'', S w'' → wpList P l.toArray Q (l.drop (n + 1)) a'' w'' → K a'' w'') → if Region.wanted o (yielded l.toArray a'.tmps) = true then Oper.wp P o a' w.drew K Q else K (a'.put o.dst undef) w.drew) (l.take n) a) :
    (Code.region id l.toArray true).wp P Q a w := by
  have htl : (l.take n).length = n := by simp; omega
  refine wp_region_any hm (wpAny_of_T (S := S) (m := n + 1) _ _ _ _ ?_)
  have := wpAnyT_lex (md := .any) (g := l.length - n) (m := n + 1) (Q := Q) (w := w.drew) hsel hQ hS ?_ (l.take n) 0 (Array.replicate l.toArray.size false) a (fun j hj => by
    have hj' : j < n := by rw [htl] at hj; exact hj
    simp [hj']) (by rw [htl]; simp; omega) (by rw [htl]; exact hB) h
  · rw [htl, show n + (l.length - n) = l.toArray.size by simp; omega] at this
    exact this
  · intro listed a' hL k hs hk
    have hkn : k = n := by simp at hk; omega
    subst hkn
    rw [show l.length - k = (l.drop (k + 1)).length + 1 by simp; omega] at hs ⊢
    simp only [Region.seqB, Bool.and_eq_true, decide_eq_true_eq] at hs
    refine ⟨fun h1 => (by rw [hs.1] at h1; cases h1), fun i hi => ?_⟩
    rw [hs.1] at hi
    have hik : i = k := by simpa using hi
    subst hik
    refine wpOp_step (o := o) (by simpa using ho) fun K hK => hL K fun a'' w'' h1 h2 => hK _ _ ⟨fun _ => h1, ?_⟩
    exact wpAnyT_seq (l.drop (i + 1)) (i + 1) _ _ _ (fun j => by simp [List.getElem?_drop]) (Nat.le_refl _) hs.2 h2
end
end

section

open Go.RowKit

section
variable {P : Program} {ops : Array Oper} {Q : Exit → Act → World → Prop} {md : Region.Mode} {S : World → Prop}

theorem round_T {l0 n id : Nat} {a : Act} {w : World} {l : List Oper} (S : World → Prop) (m : Nat) (hm : P.follows .mixedOrders = true) (hnd : noDefer l = true) (hout : ¬ LetsOut Q) (hS : S w.drew)
    (h : S w.drew → wpAnyT P .any l.toArray Q S m l.toArray.size (Array.replicate l.toArray.size false) a w.drew) : (Code.region id l.toArray true).wpIn (Fence.wide.inRound l0) n P Q a w :=
  round_any hm hnd hout (wpAny_of_T _ _ _ _ (h hS))

theorem T_take {m i : Nat} {oi : Oper} {v : Value} {fuel : Nat} {listed : Array Bool} {a : Act} {w : World} (hi : ops[i]? = some oi)
    (hs : Region.noSelect ops = true) (hf : Region.free md ops listed i = true) (hr : (Region.ready md ops listed).contains i = true) (hwt : tailWaits md ops m i = true)
    (hQ : ∀ c a w, Q (.panic c) (a.put oi.dst v) w → Q (.panic c) a w) (hw : Region.wanted oi (yielded ops a.tmps) = true) (hS : S w) (hy : ∀ w, S w → (execOp a.eval oi).run P w = .ok (.value v) w)
    (h : wpAnyT P md ops Q S m fuel (listed.setIfInBounds i true) (a.put oi.dst v) w) : wpAnyT P md ops Q S m (fuel + 1) listed a w :=
  wpAnyT_first hi (Region.noSelect_spec hs) hQ hwt fuel listed a w (Region.free_spec hi hf) (by simpa using hr) (.inl ⟨hw, hy⟩) hS h

def TReady (P : Program) (md : Region.Mode) (ops : Array Oper) (Q : Exit → Act → World → Prop) (S : World → Prop) (m : Nat) (fuel : Nat) (listed : Array Bool) (a : Act) (w : World) (rs : List Nat) : Prop :=
  ∀ i ∈ rs, wpOp P ops Q i (fun a' w' => (i < m → S w') ∧ wpAnyT P md ops Q S m fuel (listed.setIfInBounds i true) a' w') a w
theorem TReady.nil {m fuel : Nat} {listed : Array Bool} {a : Act} {w : World} : TReady P md ops Q S m fuel listed a w [] := fun _ h => by cases h
theorem TReady.cons {m fuel : Nat} {listed : Array Bool} {a : Act} {w : World} {i : Nat} {o : Oper} {rs : List Nat} (ho : ops[i]? = some o)
    (h : ∀ K' : Act → World → Prop, Shut (∀ a w, (i < m → S w) → ((i < m → S w) → wpAnyT P md ops Q S m fuel (listed.setIfInBounds i true) a w) → K' a w) → if Region.wanted o (yielded ops a.tmps) = true then Oper.wp P o a w K' Q else K' (a.put o.dst undef) w)
    (hs : TReady P md ops Q S m fuel listed a w rs) : TReady P md ops Q S m fuel listed a w (i :: rs) := fun j hj => by
  rcases List.mem_cons.1 hj with rfl | hj
  · exact wpOp_step ho (fun K' hK => h K' (fun a w hS hW => hK a w ⟨hS, hW hS⟩))
  · exact hs j hj
theorem T_ready {m : Nat} {rs : List Nat} {fuel : Nat} {listed : Array Bool} {a : Act} {w : World} (hr : Region.ready md ops listed = rs) (hne : rs ≠ [])
    (h : TReady P md ops Q S m fuel listed a w rs) : wpAnyT P md ops Q S m (fuel + 1) listed a w := ⟨fun h0 => absurd (hr ▸ h0) hne, hr ▸ h⟩
theorem T_done {m : Nat} {listed : Array Bool} {a : Act} {w : World} (hr : Region.ready md ops listed = []) (h : Q .normal a w) :
    ∀ fuel, wpAnyT P md ops Q S m fuel listed a w
  | 0 => ⟨hr, h⟩
  | _ + 1 => ⟨fun _ => h, by rw [hr]; simp⟩
end
end

section

set_option linter.unusedVariables false
set_option linter.unusedSimpArgs false

/-- A game: two teams, their pins, is it open? -/
structure Gm where
  a : Int
  b : Int
  pa : Int
  pb : Int
  op : Bool
def gmx (gs : List Gm) (k : Nat) : Gm := gs.getD k ⟨0, 0, 0, 0, false⟩
theorem gmx_lt {gs : List Gm} {k : Nat} (h : k < gs.length) : gmx gs k = gs[k] := by simp [gmx, h]
/-- A league: teams and games. -/
structure Lg where
  teams : Int
  games : List Gm
def gA (g : Gm) : Int := if g.op then 0 else if g.pb < g.pa then 2 else if g.pa < g.pb then 0 else 1
def gB (g : Gm) : Int := if g.op then 0 else if g.pb < g.pa then 0 else if g.pa < g.pb then 2 else 1
/-- Is a number from lo to hi? -/
def gameB (n : Int) (g : Gm) : Bool := decide (0 ≤ g.a ∧ g.a < n) && decide (0 ≤ g.b ∧ g.b < n) && decide (g.a ≠ g.b) && decide (0 ≤ g.pa ∧ g.pa ≤ 3000) && decide (0 ≤ g.pb ∧ g.pb ≤ 3000) && (!g.op || decide (g.pa = 0 ∧ g.pb = 0))
def faultL (l : Lg) : Int := if 20 < l.games.length then 3 else if ¬ (2 ≤ l.teams ∧ l.teams ≤ 6) then 1 else if l.games.all (gameB l.teams) then 0 else 1
structure Valid (l : Lg) : Prop where
  len : l.games.length ≤ 20
  t2 : 2 ≤ l.teams
  t6 : l.teams ≤ 6
  game : ∀ k, k < l.games.length → gameB l.teams (gmx l.games k) = true
theorem valid_iff {l : Lg} : faultL l = 0 ↔ Valid l := by
  unfold faultL
  constructor
  · intro h
    split at h
    · cases h
    · split at h
      · cases h
      · split at h
        · next h1 h2 h3 =>
          rw [List.all_eq_true] at h3
          exact ⟨by omega, by omega, by omega, fun k hk => h3 _ (by rw [gmx_lt hk]; exact List.getElem_mem hk)⟩
        · cases h
  · rintro ⟨h1, h2, h3, h4⟩
    rw [if_neg (by omega), if_neg (by omega), if_pos]
    rw [List.all_eq_true]
    intro g hg
    obtain ⟨k, hk, rfl⟩ := List.getElem_of_mem hg
    rw [← gmx_lt hk]
    exact h4 k hk
structure GmOk (n : Int) (g : Gm) : Prop where
  a0 : 0 ≤ g.a
  an : g.a < n
  b0 : 0 ≤ g.b
  bn : g.b < n
  ne : g.a ≠ g.b
  pa0 : 0 ≤ g.pa
  pa1 : g.pa ≤ 3000
  pb0 : 0 ≤ g.pb
  pb1 : g.pb ≤ 3000
  op : g.op = true → g.pa = 0 ∧ g.pb = 0
theorem gameB_iff {n : Int} {g : Gm} : gameB n g = true ↔ GmOk n g := by
  unfold gameB
  simp only [Bool.and_eq_true, Bool.or_eq_true, decide_eq_true_eq, Bool.not_eq_true']
  constructor
  · rintro ⟨⟨⟨⟨⟨⟨h1, h2⟩, h3, h4⟩, h5⟩, h6, h7⟩, h8, h9⟩, h10⟩
    refine ⟨h1, h2, h3, h4, h5, h6, h7, h8, h9, fun h => ?_⟩
    rcases h10 with h10 | h10
    · rw [h] at h10; cases h10
    · exact h10
  · rintro ⟨h1, h2, h3, h4, h5, h6, h7, h8, h9, h10⟩
    refine ⟨⟨⟨⟨⟨⟨h1, h2⟩, h3, h4⟩, h5⟩, h6, h7⟩, h8, h9⟩, ?_⟩
    cases e : g.op
    · exact .inl rfl
    · exact .inr (h10 e)
theorem Valid.at {l : Lg} (h : Valid l) {k : Nat} (hk : k < l.games.length) : GmOk l.teams (gmx l.games k) := gameB_iff.1 (h.game k hk)
theorem Valid.mem {l : Lg} (h : Valid l) {g : Gm} (hg : g ∈ l.games) : GmOk l.teams g := by
  obtain ⟨k, hk, rfl⟩ := List.getElem_of_mem hg
  rw [← gmx_lt hk]
  exact h.at hk
theorem g_range (g : Gm) : 0 ≤ gA g ∧ gA g ≤ 2 ∧ 0 ≤ gB g ∧ gB g ≤ 2 := by
  unfold gA gB
  repeat' split
  all_goals omega

/-- What a rule gives for a game against o, with so many points, and pins, in a group. -/
def ruV (code : Int) (grp : Int → Bool) (o p q : Int) : Int := if code = 1 then p else if code = 2 then p / 2 else if code = 3 then (if grp o then p else 0) else q
/-- What a rule gives a team for a game. -/
def vG (code : Int) (grp : Int → Bool) (t : Int) (g : Gm) : Int := if g.b = t then ruV code grp g.a (gB g) g.pb else if g.a = t then ruV code grp g.b (gA g) g.pa else 0
def numS (code : Int) (grp : Int → Bool) (t : Int) : List Gm → Int
  | [] => 0
  | g :: gs => vG code grp t g + numS code grp t gs
section
variable {code : Int} {grp grp' : Int → Bool} {t : Int} {gs hs : List Gm} {n : Int}
theorem numS_append : ∀ gs, numS code grp t (gs ++ hs) = numS code grp t gs + numS code grp t hs
  | [] => by simp [numS]
  | g :: gs => by
    simp only [List.cons_append, numS]
    rw [numS_append gs]
    omega
theorem numS_take {k : Nat} (h : k < gs.length) : numS code grp t (gs.take (k + 1)) = numS code grp t (gs.take k) + vG code grp t (gmx gs k) := by
  rw [List.take_succ_eq_append_getElem h, numS_append, gmx_lt h]
  simp [numS]
theorem numS_congr (h : ∀ g ∈ gs, vG code grp t g = vG code grp' t g) : numS code grp t gs = numS code grp' t gs := by
  induction gs with
  | nil => rfl
  | cons g gs ih =>
    simp only [numS]
    rw [h g (by simp), ih (fun g hg => h g (by simp [hg]))]
theorem vG_range {g : Gm} (h : GmOk n g) : 0 ≤ vG code grp t g ∧ vG code grp t g ≤ 3000 := by
  have := g_range g
  have := h.pa0; have := h.pa1; have := h.pb0; have := h.pb1
  unfold vG ruV
  repeat' split
  all_goals omega
theorem numS_range (h : ∀ g ∈ gs, GmOk n g) : 0 ≤ numS code grp t gs ∧ numS code grp t gs ≤ 3000 * gs.length := by
  induction gs with
  | nil => simp [numS]
  | cons g gs ih =>
    have a := ih (fun g hg => h g (by simp [hg]))
    have b := vG_range (code := code) (grp := grp) (t := t) (h g (by simp))
    simp only [numS, List.length_cons]
    omega
end

def hasI (l : List Int) (n : Int) : Bool := decide (n ∈ l)
def wholeL (n : Nat) : List Int := (List.range n).map Int.ofNat
theorem mem_whole {n : Nat} {t : Int} : t ∈ wholeL n ↔ 0 ≤ t ∧ t < n := by
  unfold wholeL
  rw [List.mem_map]
  constructor
  · rintro ⟨a, h, rfl⟩
    rw [List.mem_range] at h
    simp; omega
  · rintro ⟨h1, h2⟩
    exact ⟨t.toNat, List.mem_range.2 (by omega), by simp; omega⟩
/-- The greatest of some numbers, of -1 and the first k of a list. -/
def bestK (f : Int → Int) (l : List Int) : Nat → Int
  | 0 => -1
  | k + 1 => max (bestK f l k) (f (ix l k))
theorem bestK_ge {f : Int → Int} {l : List Int} : ∀ k, -1 ≤ bestK f l k ∧ ∀ j, j < k → f (ix l j) ≤ bestK f l k
  | 0 => ⟨Int.le_refl _, fun j h => by omega⟩
  | k + 1 => by
    have := bestK_ge (f := f) (l := l) k
    refine ⟨by simp only [bestK]; omega, fun j hj => ?_⟩
    simp only [bestK]
    by_cases e : j = k
    · subst e; omega
    · have := this.2 j (by omega); omega
theorem bestK_at {f : Int → Int} {l : List Int} (h0 : ∀ t, 0 ≤ f t) : ∀ k, 0 < k → ∃ j, j < k ∧ bestK f l k = f (ix l j)
  | 0, h => by omega
  | k + 1, _ => by
    simp only [bestK]
    by_cases e : bestK f l k ≤ f (ix l k)
    · exact ⟨k, by omega, by omega⟩
    · by_cases ek : k = 0
      · subst ek; simp only [bestK] at e; have := h0 (ix l 0); omega
      · obtain ⟨j, hj, ej⟩ := bestK_at h0 k (by omega)
        exact ⟨j, by omega, by rw [Int.max_eq_left (by omega)]; exact ej⟩
def bestV (f : Int → Int) (l : List Int) : Int := bestK f l l.length
theorem best_ge {f : Int → Int} {l : List Int} {t : Int} (h : t ∈ l) : f t ≤ bestV f l := by
  obtain ⟨k, hk, rfl⟩ := List.getElem_of_mem h
  rw [← ix_lt hk]
  exact (bestK_ge l.length).2 k hk
theorem best_at {f : Int → Int} {l : List Int} (h0 : ∀ t, 0 ≤ f t) (h : l ≠ []) : ∃ t ∈ l, f t = bestV f l := by
  obtain ⟨j, hj, e⟩ := bestK_at (f := f) (l := l) h0 l.length (List.length_pos_iff.2 h)
  refine ⟨ix l j, by rw [ix_lt hj]; exact List.getElem_mem hj, e.symm⟩
def aheadL (f : Int → Int) (l : List Int) : List Int := l.filter fun t => decide (f t = bestV f l)
def behindL (f : Int → Int) (l : List Int) : List Int := l.filter fun t => !decide (f t = bestV f l)
/-- The groups into which a list falls. -/
def fallL (f : Int → Int) : Nat → List Int → List (List Int)
  | 0, _ => []
  | m + 1, l => if l = [] then [] else aheadL f l :: fallL f m (behindL f l)
theorem ahead_ne {f : Int → Int} {l : List Int} (h0 : ∀ t, 0 ≤ f t) (h : l ≠ []) : aheadL f l ≠ [] := by
  obtain ⟨t, ht, e⟩ := best_at h0 h
  intro hn
  have : t ∈ aheadL f l := List.mem_filter.2 ⟨ht, by simp [e]⟩
  rw [hn] at this
  cases this
theorem split_perm (f : Int → Int) (l : List Int) : (aheadL f l ++ behindL f l).Perm l := List.filter_append_perm _ _
theorem behind_len {f : Int → Int} {l : List Int} (h0 : ∀ t, 0 ≤ f t) (h : l ≠ []) : (behindL f l).length < l.length := by
  have h1 := (split_perm f l).length_eq
  have h2 := List.length_pos_iff.2 (ahead_ne h0 h)
  rw [List.length_append] at h1
  omega
structure FallOk (f : Int → Int) (l : List Int) (G : List (List Int)) : Prop where
  perm : G.flatten.Perm l
  ne : ∀ g ∈ G, g ≠ []
  same : ∀ g ∈ G, ∀ t ∈ g, ∀ o ∈ g, f t = f o
  pw : G.Pairwise fun g h => ∀ t ∈ g, ∀ o ∈ h, f o < f t
theorem fall_ok {f : Int → Int} (h0 : ∀ t, 0 ≤ f t) : ∀ m l, l.length ≤ m → FallOk f l (fallL f m l)
  | 0, l, h => by
    obtain rfl : l = [] := List.eq_nil_of_length_eq_zero (by omega)
    exact ⟨.nil, fun g h => (by cases h), fun g h => (by cases h), .nil⟩
  | m + 1, l, h => by
    rw [fallL]
    by_cases e : l = []
    · rw [if_pos e, e]
      exact ⟨.nil, fun g h => (by cases h), fun g h => (by cases h), .nil⟩
    · rw [if_neg e]
      have hl := behind_len h0 e
      obtain ⟨h1, h2, h3, h4⟩ := fall_ok h0 m (behindL f l) (by omega)
      have hb : ∀ t, t ∈ (fallL f m (behindL f l)).flatten → f t < bestV f l := fun t ht => by
        have := (h1.mem_iff).1 ht
        unfold behindL at this
        rw [List.mem_filter] at this
        have h5 := best_ge (f := f) this.1
        have h6 := this.2
        simp at h6
        omega
      refine ⟨?_, fun g hg => ?_, fun g hg t ht o ho => ?_, List.Pairwise.cons (fun g hg t ht o ho => ?_) h4⟩
      · rw [List.flatten_cons]
        exact (h1.append_left _).trans (split_perm f l)
      · rcases List.mem_cons.1 hg with rfl | hg
        · exact ahead_ne h0 e
        · exact h2 g hg
      · rcases List.mem_cons.1 hg with rfl | hg
        · unfold aheadL at ht ho
          rw [List.mem_filter] at ht ho
          have a := ht.2
          have b := ho.2
          simp at a b
          omega
        · exact h3 g hg t ht o ho
      · have a := hb o (List.mem_flatten.2 ⟨g, hg, ho⟩)
        unfold aheadL at ht
        rw [List.mem_filter] at ht
        have b := ht.2
        simp at b
        omega

section
variable (n : Nat) (gs : List Gm) (rules : List Int)
/-- In one class, ahead: by the first k rules. -/
def semK : Nat → (Int → Int → Bool) × (Int → Int → Bool)
  | 0 => (fun _ _ => true, fun _ _ => false)
  | k + 1 =>
    let N := fun t => numS (ix rules k) (fun o => hasI (wholeL n) o && (semK k).1 t o) t gs
    (fun t o => (semK k).1 t o && decide (N t = N o), fun t o => (semK k).2 t o || ((semK k).1 t o && decide (N o < N t)))
def clsK (k : Nat) (t o : Int) : Bool := (semK n gs rules k).1 t o
def ahdK (k : Nat) (t o : Int) : Bool := (semK n gs rules k).2 t o
def NK (k : Nat) (t : Int) : Int := numS (ix rules k) (fun o => hasI (wholeL n) o && clsK n gs rules k t o) t gs
theorem clsK_succ (k : Nat) (t o : Int) : clsK n gs rules (k + 1) t o = (clsK n gs rules k t o && decide (NK n gs rules k t = NK n gs rules k o)) := rfl
theorem ahdK_succ (k : Nat) (t o : Int) : ahdK n gs rules (k + 1) t o = (ahdK n gs rules k t o || (clsK n gs rules k t o && decide (NK n gs rules k o < NK n gs rules k t))) := rfl
/-- The groups behind the first k rules. -/
def grpN (k : Nat) (g : List Int) (t : Int) : Int := numS (ix rules k) (hasI g) t gs
def fallG (k : Nat) (g : List Int) : List (List Int) := fallL (grpN gs rules k g) g.length g
def groupsK : Nat → List (List Int)
  | 0 => [wholeL n]
  | k + 1 => (groupsK k).flatMap (fallG gs rules k)
structure Rep (cls ahd : Int → Int → Bool) (G : List (List Int)) : Prop where
  perm : G.flatten.Perm (wholeL n)
  ne : ∀ g ∈ G, g ≠ []
  same : ∀ g ∈ G, ∀ t ∈ g, ∀ o ∈ g, cls t o = true ∧ ahd t o = false
  pw : G.Pairwise fun g h => ∀ t ∈ g, ∀ o ∈ h, ahd t o = true ∧ ahd o t = false ∧ cls t o = false ∧ cls o t = false
end
theorem Rep.has {n : Nat} {cls ahd : Int → Int → Bool} {G : List (List Int)} (h : Rep n cls ahd G) {g : List Int} (hg : g ∈ G) {t o : Int} (ht : t ∈ g) (ho : o ∈ wholeL n) : hasI g o = cls t o := by
  have hof : o ∈ G.flatten := h.perm.mem_iff.2 ho
  obtain ⟨h1, hh1, ho1⟩ := List.mem_flatten.1 hof
  cases e : cls t o
  · unfold hasI
    rw [decide_eq_false_iff_not]
    intro hog
    rw [(h.same g hg t ht o hog).1] at e
    cases e
  · unfold hasI
    rw [decide_eq_true_eq]
    by_cases eg : g = h1
    · rw [eg]; exact ho1
    · exfalso
      have := h.pw
      obtain ⟨i, hi, rfl⟩ := List.getElem_of_mem hg
      obtain ⟨j, hj, rfl⟩ := List.getElem_of_mem hh1
      rw [List.pairwise_iff_getElem] at this
      by_cases hij : i < j
      · rw [(this i j hi hj hij t ht o ho1).2.2.1] at e; cases e
      · by_cases hji : j < i
        · rw [(this j i hj hi hji o ho1 t ht).2.2.2] at e; cases e
        · obtain rfl : i = j := by omega
          exact eg rfl
theorem whole_nodup (n : Nat) : (wholeL n).Nodup := by
  unfold wholeL
  refine List.Pairwise.map _ (fun a b h => ?_) List.nodup_range
  intro e
  exact h (Int.ofNat.inj e)
theorem rep_zero {n : Nat} {gs : List Gm} {rules : List Int} (hn : 0 < n) : Rep n (clsK n gs rules 0) (ahdK n gs rules 0) (groupsK n gs rules 0) := by
  refine ⟨by simp [groupsK], fun g hg => ?_, fun g hg t ht o ho => ⟨rfl, rfl⟩, by simp [groupsK]⟩
  simp only [groupsK, List.mem_singleton] at hg
  subst hg
  intro e
  have : (0 : Int) ∈ wholeL n := mem_whole.2 ⟨Int.le_refl _, by omega⟩
  rw [e] at this
  cases this
theorem rep_succ {n : Nat} {gs : List Gm} {rules : List Int} {k : Nat} (hgs : ∀ g ∈ gs, GmOk n g) (h : Rep n (clsK n gs rules k) (ahdK n gs rules k) (groupsK n gs rules k)) : Rep n (clsK n gs rules (k + 1)) (ahdK n gs rules (k + 1)) (groupsK n gs rules (k + 1)) := by
  have hN : ∀ g ∈ groupsK n gs rules k, ∀ t ∈ g, grpN gs rules k g t = NK n gs rules k t := fun g hg t ht => by
    unfold grpN NK
    refine numS_congr fun x hx => ?_
    have hok := hgs x hx
    have e1 : x.b = t → hasI g x.a = (hasI (wholeL n) x.a && clsK n gs rules k t x.a) := fun e => by
      have hm : x.a ∈ wholeL n := mem_whole.2 ⟨hok.a0, hok.an⟩
      rw [h.has hg ht hm, show hasI (wholeL n) x.a = true from decide_eq_true hm, Bool.true_and]
    have e2 : x.a = t → hasI g x.b = (hasI (wholeL n) x.b && clsK n gs rules k t x.b) := fun e => by
      have hm : x.b ∈ wholeL n := mem_whole.2 ⟨hok.b0, hok.bn⟩
      rw [h.has hg ht hm, show hasI (wholeL n) x.b = true from decide_eq_true hm, Bool.true_and]
    unfold vG ruV
    split
    · next e => rw [e1 e]
    · split
      · next e => rw [e2 e]
      · rfl
  have h0 : ∀ g t, 0 ≤ grpN gs rules k g t := fun g t => (numS_range hgs).1
  have hf : ∀ g, FallOk (grpN gs rules k g) g (fallG gs rules k g) := fun g => fall_ok (h0 g) g.length g (Nat.le_refl _)
  have hmem : ∀ g x t, x ∈ fallG gs rules k g → t ∈ x → t ∈ g := fun g x t hx ht => (hf g).perm.mem_iff.1 (List.mem_flatten.2 ⟨x, hx, ht⟩)
  refine ⟨?_, fun x hx => ?_, fun x hx t ht o ho => ?_, ?_⟩
  · have : ∀ G : List (List Int), (G.flatMap (fallG gs rules k)).flatten.Perm G.flatten := by
      intro G
      induction G with
      | nil => exact .nil
      | cons g G ih =>
        rw [List.flatMap_cons, List.flatten_append, List.flatten_cons]
        exact List.Perm.append (hf g).perm ih
    exact (this _).trans h.perm
  · obtain ⟨g, hg, hx⟩ := List.mem_flatMap.1 hx
    exact (hf g).ne x hx
  · obtain ⟨g, hg, hx⟩ := List.mem_flatMap.1 hx
    have a := h.same g hg t (hmem g x t hx ht) o (hmem g x o hx ho)
    have b := (hf g).same x hx t ht o ho
    rw [hN g hg t (hmem g x t hx ht), hN g hg o (hmem g x o hx ho)] at b
    rw [clsK_succ, ahdK_succ, a.1, a.2, b]
    simp
  · show (groupsK n gs rules (k + 1)).Pairwise _
    rw [groupsK, List.pairwise_flatMap]
    refine ⟨fun g hg => ?_, ?_⟩
    · refine List.Pairwise.imp_of_mem (fun {x y} hx hy hxy t ht o ho => ?_) (hf g).pw
      have a := h.same g hg t (hmem g x t hx ht) o (hmem g y o hy ho)
      have a2 := h.same g hg o (hmem g y o hy ho) t (hmem g x t hx ht)
      have b := hxy t ht o ho
      rw [hN g hg t (hmem g x t hx ht), hN g hg o (hmem g y o hy ho)] at b
      rw [ahdK_succ, ahdK_succ, clsK_succ, clsK_succ, a.1, a.2, a2.1, a2.2]
      simp
      omega
    · refine List.Pairwise.imp_of_mem (fun {g g'} hg hg' hgg x hx y hy t ht o ho => ?_) h.pw
      have a := hgg t (hmem g x t hx ht) o (hmem g' y o hy ho)
      rw [ahdK_succ, ahdK_succ, clsK_succ, clsK_succ, a.1, a.2.1, a.2.2.1, a.2.2.2]
      simp
theorem rep_k {n : Nat} {gs : List Gm} {rules : List Int} (hn : 0 < n) (hgs : ∀ g ∈ gs, GmOk n g) : ∀ k, Rep n (clsK n gs rules k) (ahdK n gs rules k) (groupsK n gs rules k)
  | 0 => rep_zero hn
  | k + 1 => rep_succ hgs (rep_k hn hgs k)
/-- The rank of a team: how many are in the groups ahead, and one. -/
def rankG (t : Int) : List (List Int) → Int → Int
  | [], r => r
  | g :: G, r => if t ∈ g then r else rankG t G (r + g.length)
theorem rankG_ge {t : Int} : ∀ G r, r ≤ rankG t G r
  | [], r => Int.le_refl _
  | g :: G, r => by
    rw [rankG]
    split
    · exact Int.le_refl _
    · have := rankG_ge (t := t) G (r + g.length)
      omega
section
variable {cls ahd : Int → Int → Bool}
theorem rank_rel {G : List (List Int)} (hne : ∀ g ∈ G, g ≠ []) (hs : ∀ g ∈ G, ∀ t ∈ g, ∀ o ∈ g, cls t o = true ∧ ahd t o = false)
    (hpw : G.Pairwise fun g h => ∀ t ∈ g, ∀ o ∈ h, ahd t o = true ∧ ahd o t = false ∧ cls t o = false ∧ cls o t = false) {t o : Int} (ht : t ∈ G.flatten) (ho : o ∈ G.flatten) (r : Int) :
    (rankG t G r < rankG o G r ↔ ahd t o = true) ∧ (rankG t G r = rankG o G r ↔ cls t o = true) := by
  induction G generalizing r with
  | nil => cases ht
  | cons g G ih =>
    rw [List.pairwise_cons] at hpw
    have hg1 := List.length_pos_iff.2 (hne g (by simp))
    rw [rankG, rankG]
    rw [List.flatten_cons, List.mem_append] at ht ho
    by_cases e1 : t ∈ g
    · by_cases e2 : o ∈ g
      · have := hs g (by simp) t e1 o e2
        rw [if_pos e1, if_pos e2, this.1, this.2]
        simp
      · rw [if_pos e1, if_neg e2]
        have ho' := ho.resolve_left e2
        obtain ⟨h, hh, hoh⟩ := List.mem_flatten.1 ho'
        have := hpw.1 h hh t e1 o hoh
        have k := rankG_ge (t := o) G (r + g.length)
        rw [this.1, this.2.2.1]
        simp
        omega
    · have ht' := ht.resolve_left e1
      by_cases e2 : o ∈ g
      · rw [if_neg e1, if_pos e2]
        obtain ⟨h, hh, hoh⟩ := List.mem_flatten.1 ht'
        have := hpw.1 h hh o e2 t hoh
        have k := rankG_ge (t := t) G (r + g.length)
        rw [this.2.1, this.2.2.2]
        simp
        omega
      · rw [if_neg e1, if_neg e2]
        exact ih (fun g hg => hne g (by simp [hg])) (fun g hg => hs g (by simp [hg])) hpw.2 ht' (ho.resolve_left e2) _
theorem rank_cnt {G : List (List Int)} (hs : ∀ g ∈ G, ∀ t ∈ g, ∀ o ∈ g, cls t o = true ∧ ahd t o = false)
    (hpw : G.Pairwise fun g h => ∀ t ∈ g, ∀ o ∈ h, ahd t o = true ∧ ahd o t = false ∧ cls t o = false ∧ cls o t = false) {t : Int} (ht : t ∈ G.flatten) (r : Int) : rankG t G r = r + (G.flatten.countP fun o => ahd o t) := by
  induction G generalizing r with
  | nil => cases ht
  | cons g G ih =>
    rw [List.pairwise_cons] at hpw
    rw [rankG, List.flatten_cons, List.countP_append]
    rw [List.flatten_cons, List.mem_append] at ht
    by_cases e1 : t ∈ g
    · rw [if_pos e1]
      have c1 : g.countP (fun o => ahd o t) = 0 := List.countP_eq_zero.2 fun o ho => by rw [(hs g (by simp) o ho t e1).2]; simp
      have c2 : G.flatten.countP (fun o => ahd o t) = 0 := List.countP_eq_zero.2 fun o ho => by
        obtain ⟨h, hh, hoh⟩ := List.mem_flatten.1 ho
        rw [(hpw.1 h hh t e1 o hoh).2.1]; simp
      rw [c1, c2]; simp
    · rw [if_neg e1]
      have ht' := ht.resolve_left e1
      obtain ⟨h, hh, hth⟩ := List.mem_flatten.1 ht'
      have c1 : g.countP (fun o => ahd o t) = g.length := List.countP_eq_length.2 fun o ho => (hpw.1 h hh o ho t hth).1
      rw [ih (fun g hg => hs g (by simp [hg])) hpw.2 ht' _, c1]
      simp
      omega
end
/-- The rank of t behind the first k rules. -/
def rankV (n : Nat) (gs : List Gm) (rules : List Int) (k : Nat) (t : Int) : Int := rankG t (groupsK n gs rules k) 1
section
variable {n : Nat} {gs : List Gm} {rules : List Int} {k : Nat} {t o : Int}
theorem rank_lt (hn : 0 < n) (hgs : ∀ g ∈ gs, GmOk n g) (ht : t ∈ wholeL n) (ho : o ∈ wholeL n) : rankV n gs rules k t < rankV n gs rules k o ↔ ahdK n gs rules k t o = true := by
  have h := rep_k (rules := rules) hn hgs k
  exact (rank_rel h.ne h.same h.pw (h.perm.mem_iff.2 ht) (h.perm.mem_iff.2 ho) 1).1
theorem rank_eq (hn : 0 < n) (hgs : ∀ g ∈ gs, GmOk n g) (ht : t ∈ wholeL n) (ho : o ∈ wholeL n) : rankV n gs rules k t = rankV n gs rules k o ↔ clsK n gs rules k t o = true := by
  have h := rep_k (rules := rules) hn hgs k
  exact (rank_rel h.ne h.same h.pw (h.perm.mem_iff.2 ht) (h.perm.mem_iff.2 ho) 1).2
theorem rank_count (hn : 0 < n) (hgs : ∀ g ∈ gs, GmOk n g) (ht : t ∈ wholeL n) : rankV n gs rules k t = 1 + ((wholeL n).countP fun o => ahdK n gs rules k o t) := by
  have h := rep_k (rules := rules) hn hgs k
  unfold rankV
  rw [rank_cnt h.same h.pw (h.perm.mem_iff.2 ht) 1, h.perm.countP_eq]
end
end

section

set_option linter.unusedVariables false
set_option linter.unusedSimpArgs false

theorem bestK_append {f : Int → Int} {l m : List Int} : ∀ k, k ≤ l.length → bestK f (l ++ m) k = bestK f l k
  | 0, _ => rfl
  | k + 1, h => by
    simp only [bestK]
    rw [bestK_append k (by omega), ix_lt (show k < (l ++ m).length by simp; omega), ix_lt (by omega), List.getElem_append_left (by omega)]
theorem bestV_snoc {f : Int → Int} {l : List Int} {x : Int} : bestV f (l ++ [x]) = max (bestV f l) (f x) := by
  unfold bestV
  rw [List.length_append, List.length_singleton]
  simp only [bestK]
  rw [bestK_append _ (Nat.le_refl _), ix_lt (show l.length < (l ++ [x]).length by simp)]
  simp
theorem take_snoc {l : List Int} {k : Nat} (h : k < l.length) : l.take (k + 1) = l.take k ++ [ix l k] := by rw [List.take_succ_eq_append_getElem h, ix_lt h]
/-- The greatest number that is not above n, of the first k of a list. -/
def bestR (f : Int → Int) (l : List Int) (n : Int) : Nat → Int
  | 0 => -1
  | k + 1 => if f (ix l k) ≤ n then max (bestR f l n k) (f (ix l k)) else bestR f l n k
def lowL (f : Int → Int) (l : List Int) (n : Int) : List Int := l.filter fun t => decide (f t ≤ n)
theorem bestR_is {f : Int → Int} {l : List Int} {n : Int} : ∀ k, k ≤ l.length → bestR f l n k = bestV f (lowL f (l.take k) n)
  | 0, _ => by simp [bestR, lowL, bestV, bestK]
  | k + 1, h => by
    rw [bestR, bestR_is k (by omega), take_snoc (by omega), lowL, lowL, List.filter_append]
    by_cases e : f (ix l k) ≤ n
    · rw [if_pos e]
      simp only [List.filter_cons, List.filter_nil, decide_eq_true e, if_true]
      rw [bestV_snoc]
    · rw [if_neg e]
      simp [e]
theorem bestR_all {f : Int → Int} {l : List Int} {n : Int} : bestR f l n l.length = bestV f (lowL f l n) := by rw [bestR_is _ (Nat.le_refl _), List.take_length]
theorem fall_fuel {f : Int → Int} (h0 : ∀ t, 0 ≤ f t) : ∀ m k l, l.length ≤ m → l.length ≤ k → fallL f m l = fallL f k l
  | 0, k, l, h, _ => by
    obtain rfl : l = [] := List.eq_nil_of_length_eq_zero (by omega)
    cases k <;> simp [fallL]
  | m + 1, 0, l, _, h => by
    obtain rfl : l = [] := List.eq_nil_of_length_eq_zero (by omega)
    simp [fallL]
  | m + 1, k + 1, l, h1, h2 => by
    rw [fallL, fallL]
    by_cases e : l = []
    · rw [if_pos e, if_pos e]
    · rw [if_neg e, if_neg e]
      have := behind_len h0 e
      rw [fall_fuel h0 m k _ (by omega) (by omega)]
theorem fall_step {f : Int → Int} (h0 : ∀ t, 0 ≤ f t) {l : List Int} (h : l ≠ []) : fallL f l.length l = aheadL f l :: fallL f (behindL f l).length (behindL f l) := by
  have hl := behind_len h0 h
  have hp := List.length_pos_iff.2 h
  rw [fall_fuel h0 l.length (l.length - 1 + 1) l (Nat.le_refl _) (by omega), fallL, if_neg h, fall_fuel h0 _ (behindL f l).length _ (by omega) (Nat.le_refl _)]
theorem low_same {f : Int → Int} {l : List Int} {n : Int} : aheadL f (lowL f l n) = if bestV f (lowL f l n) ≤ n then l.filter (fun t => decide (f t = bestV f (lowL f l n))) else aheadL f (lowL f l n) := by
  split
  · next h =>
    unfold aheadL
    generalize bestV f (lowL f l n) = b at *
    unfold lowL
    rw [List.filter_filter]
    refine List.filter_congr fun t _ => ?_
    by_cases e : f t = b
    · have : f t ≤ n := by omega
      simp [e]
      omega
    · simp [e]
  · rfl
theorem low_best_le {f : Int → Int} (h0 : ∀ t, 0 ≤ f t) {l : List Int} {n : Int} (h : lowL f l n ≠ []) : bestV f (lowL f l n) ≤ n := by
  obtain ⟨t, ht, e⟩ := best_at h0 h
  unfold lowL at ht
  rw [List.mem_filter] at ht
  have := ht.2
  simp at this
  omega
theorem low_behind {f : Int → Int} (h0 : ∀ t, 0 ≤ f t) {l : List Int} {n : Int} (h : lowL f l n ≠ []) : behindL f (lowL f l n) = lowL f l (bestV f (lowL f l n) - 1) := by
  have hb := low_best_le h0 h
  generalize hB : bestV f (lowL f l n) = b at *
  have hge : ∀ t, t ∈ l → f t ≤ n → f t ≤ b := fun t ht hn => by
    rw [← hB]
    exact best_ge (List.mem_filter.2 ⟨ht, by simpa using hn⟩)
  unfold behindL
  rw [hB]
  unfold lowL
  rw [List.filter_filter]
  refine List.filter_congr fun t ht => ?_
  have := hge t ht
  by_cases e1 : f t ≤ n
  · have := this e1
    by_cases e2 : f t = b
    · simp [e2]; omega
    · have : f t ≤ b - 1 := by omega
      simp [e1, e2, this]
  · have : ¬ f t ≤ b - 1 := by omega
    simp [e1, this]
theorem low_none {f : Int → Int} (h0 : ∀ t, 0 ≤ f t) {l : List Int} {n : Int} (h : bestV f (lowL f l n) < 0) : lowL f l n = [] := by
  apply Classical.byContradiction
  intro hne
  obtain ⟨t, ht, e⟩ := best_at h0 hne
  have := h0 t
  omega
theorem low_neg {f : Int → Int} (h0 : ∀ t, 0 ≤ f t) {l : List Int} {n : Int} (h : n < 0) : lowL f l n = [] := by
  unfold lowL
  rw [List.filter_eq_nil_iff]
  intro t _
  have := h0 t
  simp
  omega
theorem low_all {f : Int → Int} {l : List Int} {n : Int} (h : ∀ t ∈ l, f t ≤ n) : lowL f l n = l := by
  unfold lowL
  rw [List.filter_eq_self]
  intro t ht
  simpa using h t ht
/-- What the reference's loop has, and has to do yet. -/
def FallR (f : Int → Int) (l : List Int) (n : Int) (out : List (List Int)) : Prop := out ++ fallL f (lowL f l n).length (lowL f l n) = fallL f l.length l
theorem fallR_start {f : Int → Int} {l : List Int} {n : Int} (h : ∀ t ∈ l, f t ≤ n) : FallR f l n [] := by
  unfold FallR
  rw [low_all h]
  rfl
theorem fallR_next {f : Int → Int} (h0 : ∀ t, 0 ≤ f t) {l : List Int} {n b : Int} {out : List (List Int)} (h : FallR f l n out) (hb : bestV f (lowL f l n) = b) (hb0 : 0 ≤ b) : FallR f l (b - 1) (out ++ [l.filter fun t => decide (f t = b)]) := by
  have hne : lowL f l n ≠ [] := fun e => by
    rw [e] at hb
    have : bestV f [] = -1 := rfl
    omega
  unfold FallR at h ⊢
  rw [fall_step h0 hne, low_behind h0 hne, low_same, if_pos (low_best_le h0 hne), hb] at h
  rw [← h, List.append_assoc]
  rfl
theorem fallR_done {f : Int → Int} {l : List Int} {n : Int} {out : List (List Int)} (h : FallR f l n out) (hn : lowL f l n = []) : out = fallL f l.length l := by
  unfold FallR at h
  rw [hn] at h
  simpa [fallL] using h
end

section

set_option linter.unusedVariables false
set_option linter.unusedSimpArgs false

def updI (f : Nat → Int) (k : Nat) (v : Int) : Nat → Int := fun j => if j = k then v else f j
def updB (f : Nat → Bool) (k : Nat) (v : Bool) : Nat → Bool := fun j => if j = k then v else f j
theorem updI_eq {f : Nat → Int} {k : Nat} {v : Int} : updI f k v k = v := by simp [updI]
theorem updI_ne {f : Nat → Int} {k j : Nat} {v : Int} (h : j ≠ k) : updI f k v j = f j := by simp [updI, h]
theorem updB_eq {f : Nat → Bool} {k : Nat} {v : Bool} : updB f k v k = v := by simp [updB]
theorem updB_ne {f : Nat → Bool} {k j : Nat} {v : Bool} (h : j ≠ k) : updB f k v j = f j := by simp [updB, h]

/-- Games (n of them, A i and B i meet in i), a team that would be first, what it can reach. -/
structure Rc where
  m : Nat
  n : Nat
  A : Nat → Nat
  B : Nat → Nat
  tm : Nat
  rc : Int
/-- What A has of each game, what all teams have, who was seen. -/
structure Fl where
  gv : Nat → Int
  hv : Nat → Int
  sn : Nat → Bool
namespace Rc
variable (R : Rc)
def oth (i t : Nat) : Nat := if R.B i = t then R.A i else R.B i
def giv (s : Fl) (i t : Nat) : Int := if R.B i = t then 2 - s.gv i else s.gv i
def stp (i t : Nat) : Int := if R.B i = t then 1 else -1
def skp (s : Fl) (i t : Nat) : Prop := (R.A i ≠ t ∧ R.B i ≠ t) ∨ R.A i = R.tm ∨ R.B i = R.tm ∨ R.giv s i t = 0 ∨ s.sn (R.oth i t) = true
instance (s : Fl) (i t : Nat) : Decidable (R.skp s i t) := by unfold skp; infer_instance
def move (s : Fl) (i t : Nat) : Fl :=
  { s with gv := updI s.gv i (s.gv i + R.stp i t), hv := updI (updI s.hv t (s.hv t - 1)) (R.oth i t) (updI s.hv t (s.hv t - 1) (R.oth i t) + 1) }
def mark (s : Fl) (t : Nat) : Fl := { s with sn := updB s.sn t true }
def loopF (rec : Nat → Fl → Bool × Fl) : Nat → Nat → Nat → Fl → Bool × Fl
  | 0, _, _, s => (false, s)
  | m + 1, i, t, s => if R.skp s i t then loopF rec m (i + 1) t s else
      if s.hv (R.oth i t) < R.rc then (true, R.move s i t) else
        match rec (R.oth i t) s with
        | (true, s') => (true, R.move s' i t)
        | (false, s') => loopF rec m (i + 1) t s'
def passF : Nat → Nat → Fl → Bool × Fl
  | 0, _, s => (false, s)
  | f + 1, t, s => R.loopF (passF f) R.n 0 t (mark s t)
/-- What team u has of the first k games. -/
def wt (gv : Nat → Int) (u : Nat) : Nat → Int
  | 0 => 0
  | k + 1 => wt gv u k + (if R.A k = u then gv k else 0) + (if R.B k = u then 2 - gv k else 0)
/-- Teams not seen. -/
def free (sn : Nat → Bool) : Nat → Nat
  | 0 => 0
  | k + 1 => free sn k + if sn k then 0 else 1
theorem free_mono {a b : Nat → Bool} (h : ∀ k, a k = true → b k = true) : ∀ m, free b m ≤ free a m
  | 0 => Nat.le_refl _
  | m + 1 => by
    have := free_mono h m
    have := h m
    simp only [free]
    cases ha : a m <;> cases hb : b m <;> simp_all <;> omega
theorem free_mark {a : Nat → Bool} {t : Nat} (h : a t = false) : ∀ m, t < m → free (updB a t true) m + 1 = free a m
  | 0, h => by omega
  | m + 1, hm => by
    simp only [free]
    by_cases e : t = m
    · subst e
      have : ∀ k, k ≤ t → free (updB a t true) k = free a k := by
        intro k hk
        induction k with
        | zero => rfl
        | succ k ih =>
          simp only [free]
          rw [ih (by omega), updB_ne (by omega)]
      rw [this t (Nat.le_refl _), updB_eq, h]
      simp
    · have := free_mark h m (by omega)
      rw [updB_ne (by omega)]
      omega
theorem free_pos {a : Nat → Bool} {t : Nat} (h : a t = false) : ∀ m, t < m → 0 < free a m
  | 0, h => by omega
  | m + 1, hm => by
    simp only [free]
    by_cases e : t = m
    · subst e; rw [h]; simp
    · have := free_pos h m (by omega); omega
def one (p : Prop) [Decidable p] : Int := if p then 1 else 0
/-- The games are of teams below m, of two. -/
def Ok : Prop := ∀ i, i < R.n → R.A i < R.m ∧ R.B i < R.m ∧ R.A i ≠ R.B i
/-- What holds between s and s', where a point went from t to z; games of teams that were seen in old are as they were. -/
structure Went (s s' : Fl) (t z : Nat) (old : Nat → Bool) : Prop where
  hz : s.hv z < R.rc
  z6 : z < R.m
  ztm : z ≠ R.tm
  hv : ∀ u, s'.hv u = s.hv u - one (u = t) + one (u = z)
  wt : ∀ u, R.wt s'.gv u R.n = R.wt s.gv u R.n - one (u = t) + one (u = z)
  rg : ∀ i, i < R.n → 0 ≤ s'.gv i ∧ s'.gv i ≤ 2
  tg : ∀ i, i < R.n → R.A i = R.tm ∨ R.B i = R.tm → s'.gv i = s.gv i
  sg : ∀ i, i < R.n → old (R.A i) = true ∨ old (R.B i) = true → s'.gv i = s.gv i
/-- u's points of the first m games can go to seen teams only. -/
def Shut (gv : Nat → Int) (sn : Nat → Bool) (u m : Nat) : Prop := ∀ i, i < m → R.A i = u ∨ R.B i = u → R.A i ≠ R.tm → R.B i ≠ R.tm → (if R.B i = u then 2 - gv i else gv i) ≠ 0 → sn (R.oth i u) = true
theorem Shut.mono {gv : Nat → Int} {a b : Nat → Bool} {u m : Nat} (h : R.Shut gv a u m) (hab : ∀ k, a k = true → b k = true) : R.Shut gv b u m := fun i h1 h2 h3 h4 h5 => hab _ (h i h1 h2 h3 h4 h5)
structure Stuck (s s' : Fl) (old : Nat → Bool) : Prop where
  gv : s'.gv = s.gv
  hv : s'.hv = s.hv
  up : ∀ u, s.sn u = true → s'.sn u = true
  full : ∀ u, s'.sn u = true → old u = false → u < R.m ∧ u ≠ R.tm ∧ R.rc ≤ s.hv u ∧ R.Shut s.gv s'.sn u R.n
theorem wt_other {gv : Nat → Int} {i u : Nat} {v : Int} : ∀ k, k ≤ i → R.wt (updI gv i v) u k = R.wt gv u k
  | 0, _ => rfl
  | k + 1, h => by
    simp only [wt]
    rw [wt_other k (by omega), updI_ne (by omega)]
theorem wt_upd {gv : Nat → Int} {i u : Nat} {v : Int} : ∀ k, i < k → R.wt (updI gv i v) u k = R.wt gv u k + (if R.A i = u then v - gv i else 0) + (if R.B i = u then gv i - v else 0)
  | 0, h => by omega
  | k + 1, h => by
    simp only [wt]
    by_cases e : i = k
    · subst e
      rw [wt_other R i (Nat.le_refl _), updI_eq]
      split <;> split <;> omega
    · rw [wt_upd k (by omega), updI_ne (by omega)]
      split <;> split <;> split <;> split <;> omega
variable {R}
theorem skp_not {s : Fl} {i t : Nat} (h : ¬ R.skp s i t) : (R.A i = t ∨ R.B i = t) ∧ R.A i ≠ R.tm ∧ R.B i ≠ R.tm ∧ R.giv s i t ≠ 0 ∧ s.sn (R.oth i t) = false := by
  unfold skp at h
  simp only [not_or, not_and, Decidable.not_not] at h
  refine ⟨?_, h.2.1, h.2.2.1, h.2.2.2.1, by simpa using h.2.2.2.2⟩
  by_cases e : R.A i = t
  · exact .inl e
  · exact .inr (h.1 e)
theorem oth_ne (hok : R.Ok) {i t : Nat} (hi : i < R.n) (h : R.A i = t ∨ R.B i = t) : R.oth i t ≠ t := by
  obtain ⟨o1, o2, o3⟩ := hok i hi
  unfold oth
  split <;> omega
/-- One point over one game, behind a way from the other team to z (or none: z is the other team). -/
theorem move_went (hok : R.Ok) {s s1 : Fl} {i t z : Nat} {old : Nat → Bool} (hi : i < R.n) (ht : s.sn t = true) (hold : ∀ k, old k = true → s.sn k = true) (hot0 : old t = false) (hs : ¬ R.skp s i t) (hrg : ∀ j, j < R.n → 0 ≤ s.gv j ∧ s.gv j ≤ 2)
    (h1 : R.Went s s1 (R.oth i t) z s.sn) : R.Went s (R.move s1 i t) t z old := by
  obtain ⟨a1, a2, a3, a4, a5⟩ := skp_not hs
  obtain ⟨o1, o2, o3⟩ := hok i hi
  have hot := oth_ne hok hi a1
  have hg : s1.gv i = s.gv i := h1.sg i hi (by rcases a1 with e | e <;> rw [e] <;> simp [ht])
  have hgi := hrg i hi
  have hr : 0 ≤ s1.gv i + R.stp i t ∧ s1.gv i + R.stp i t ≤ 2 := by
    rw [hg]
    unfold giv at a4
    unfold stp
    split at a4
    · next e => rw [if_pos e]; omega
    · next e => rw [if_neg e]; omega
  refine ⟨h1.hz, h1.z6, h1.ztm, fun u => ?_, fun u => ?_, fun j hj => ?_, fun j hj hj2 => ?_, fun j hj hj2 => ?_⟩
  · have e1 := h1.hv u
    have e2 := h1.hv t
    have e3 := h1.hv (R.oth i t)
    show updI (updI s1.hv t (s1.hv t - 1)) (R.oth i t) (updI s1.hv t (s1.hv t - 1) (R.oth i t) + 1) u = _
    by_cases eo : u = R.oth i t
    · subst eo
      rw [updI_eq, updI_ne hot, e3]
      simp [one, hot]
      omega
    · rw [updI_ne eo]
      by_cases et : u = t
      · subst et
        rw [updI_eq, e2]
        simp [one, eo]
        omega
      · rw [updI_ne et, e1]
        simp [one, eo, et]
  · show R.wt (updI s1.gv i (s1.gv i + R.stp i t)) u R.n = _
    rw [wt_upd R _ hi, h1.wt u]
    unfold oth stp one
    rcases a1 with e | e
    · by_cases hb : R.B i = t
      · omega
      · simp only [if_neg hb]
        subst e
        by_cases eu : R.A i = u
        · subst eu
          rw [if_neg (by omega : ¬ R.B i = R.A i), if_neg (by omega : ¬ R.A i = R.B i)]
          simp
          omega
        · by_cases ev : R.B i = u
          · subst ev
            have : ¬ R.B i = R.A i := by omega
            simp [eu, this]
            omega
          · have e1 : ¬ u = R.A i := by omega
            have e2 : ¬ u = R.B i := by omega
            simp [eu, ev, e1, e2]
    · simp only [if_pos e]
      subst e
      by_cases eu : R.A i = u
      · subst eu
        have : ¬ R.B i = R.A i := by omega
        have : ¬ R.A i = R.B i := by omega
        simp [*]
        omega
      · by_cases ev : R.B i = u
        · subst ev
          have : ¬ R.B i = R.A i := by omega
          simp [eu, this]
          omega
        · have e1 : ¬ u = R.A i := by omega
          have e2 : ¬ u = R.B i := by omega
          simp [eu, ev, e1, e2]
  · show 0 ≤ updI s1.gv i (s1.gv i + R.stp i t) j ∧ updI s1.gv i (s1.gv i + R.stp i t) j ≤ 2
    by_cases e : j = i
    · subst e; rw [updI_eq]; exact hr
    · rw [updI_ne e]; exact h1.rg j hj
  · show updI s1.gv i (s1.gv i + R.stp i t) j = _
    by_cases e : j = i
    · subst e; omega
    · rw [updI_ne e]; exact h1.tg j hj hj2
  · show updI s1.gv i (s1.gv i + R.stp i t) j = _
    by_cases e : j = i
    · subst e
      exfalso
      have ho : old (R.oth j t) = false := by
        cases e : old (R.oth j t)
        · rfl
        · rw [hold _ e] at a5; cases a5
      unfold oth at ho
      rcases a1 with e | e
      · have hb : ¬ R.B j = t := by omega
        rw [if_neg hb] at ho
        rw [e, hot0, ho] at hj2
        simp at hj2
      · rw [if_pos e] at ho
        rw [e, hot0, ho] at hj2
        simp at hj2
    · rw [updI_ne e]
      exact h1.sg j hj (hj2.imp (hold _) (hold _))
theorem went_self {s : Fl} {z : Nat} {old : Nat → Bool} (h : s.hv z < R.rc) (hm : z < R.m) (hz : z ≠ R.tm) (hrg : ∀ j, j < R.n → 0 ≤ s.gv j ∧ s.gv j ≤ 2) : R.Went s s z z old :=
  ⟨h, hm, hz, fun u => by omega, fun u => by omega, hrg, fun _ _ _ => rfl, fun _ _ _ => rfl⟩
/-- What a pass does. -/
def PassOk (R : Rc) (f : Nat) (rec : Nat → Fl → Bool × Fl) : Prop := ∀ t s, t < R.m → t ≠ R.tm → s.sn t = false → free s.sn R.m ≤ f → R.rc ≤ s.hv t → (∀ j, j < R.n → 0 ≤ s.gv j ∧ s.gv j ≤ 2) →
  ((rec t s).1 = true → ∃ z, R.Went s (rec t s).2 t z s.sn) ∧ ((rec t s).1 = false → R.Stuck s (rec t s).2 s.sn ∧ (rec t s).2.sn t = true)
theorem oth_tm {i t : Nat} (ha : R.A i ≠ R.tm) (hb : R.B i ≠ R.tm) : R.oth i t ≠ R.tm := by unfold oth; split <;> assumption
theorem oth_lt (hok : R.Ok) {i t : Nat} (hi : i < R.n) : R.oth i t < R.m := by
  obtain ⟨o1, o2, o3⟩ := hok i hi
  unfold oth; split <;> assumption
theorem loop_ok (hok : R.Ok) {f : Nat} {rec : Nat → Fl → Bool × Fl} (hrec : R.PassOk f rec) {t : Nat} {old : Nat → Bool} (hm : t < R.m) (htm : t ≠ R.tm) (hot0 : old t = false) : ∀ m i s, i + m = R.n → s.sn t = true → (∀ k, old k = true → s.sn k = true) → free s.sn R.m ≤ f → R.rc ≤ s.hv t → (∀ j, j < R.n → 0 ≤ s.gv j ∧ s.gv j ≤ 2) →
    R.Shut s.gv s.sn t i → (∀ u, s.sn u = true → old u = false → u ≠ t → u < R.m ∧ u ≠ R.tm ∧ R.rc ≤ s.hv u ∧ R.Shut s.gv s.sn u R.n) →
    ((R.loopF rec m i t s).1 = true → ∃ z, R.Went s (R.loopF rec m i t s).2 t z old) ∧ ((R.loopF rec m i t s).1 = false → R.Stuck s (R.loopF rec m i t s).2 old)
  | 0, i, s, him, ht, hold, hf, hrc, hrg, hsh, hfull => by
    obtain rfl : i = R.n := by omega
    refine ⟨fun h => (by cases h), fun _ => ⟨rfl, rfl, fun _ h => h, fun u hu ho => ?_⟩⟩
    by_cases e : u = t
    · subst e; exact ⟨hm, htm, hrc, hsh⟩
    · exact hfull u hu ho e
  | m + 1, i, s, him, ht, hold, hf, hrc, hrg, hsh, hfull => by
    have hi : i < R.n := by omega
    rw [loopF]
    by_cases hs : R.skp s i t
    · rw [if_pos hs]
      refine loop_ok hok hrec hm htm hot0 m (i + 1) s (by omega) ht hold hf hrc hrg (fun j hj hj1 hj2 hj3 hj4 => ?_) hfull
      by_cases e : j = i
      · subst e
        unfold skp giv at hs
        rcases hs with hs | hs | hs | hs | hs
        · rcases hj1 with h | h
          · exact absurd h hs.1
          · exact absurd h hs.2
        · exact absurd hs hj2
        · exact absurd hs hj3
        · exact absurd hs hj4
        · exact hs
      · exact hsh j (by omega) hj1 hj2 hj3 hj4
    · rw [if_neg hs]
      obtain ⟨a1, a2, a3, a4, a5⟩ := skp_not hs
      by_cases hlt : s.hv (R.oth i t) < R.rc
      · rw [if_pos hlt]
        exact ⟨fun _ => ⟨_, move_went hok hi ht hold hot0 hs hrg (went_self hlt (oth_lt hok hi) (oth_tm a2 a3) hrg)⟩, fun h => by cases h⟩
      · rw [if_neg hlt]
        obtain ⟨r1, r2⟩ := hrec (R.oth i t) s (oth_lt hok hi) (oth_tm a2 a3) a5 hf (by omega) hrg
        cases er : rec (R.oth i t) s with
        | mk b s1 =>
          rw [er] at r1 r2
          cases b
          · obtain ⟨g, hst⟩ := r2 rfl
            have e1 := g.gv
            have e2 := g.hv
            have e3 := g.up
            have e4 := g.full
            dsimp only at e1 e2 e3 e4 hst ⊢
            have hl := loop_ok hok hrec hm htm hot0 m (i + 1) s1 (by omega) (e3 t ht) (fun k hk => e3 k (hold k hk)) (Nat.le_trans (free_mono e3 R.m) hf) (by rw [e2]; exact hrc) (by rw [e1]; exact hrg) (fun j hj hj1 hj2 hj3 hj4 => by
              rw [e1] at hj4
              by_cases e : j = i
              · subst e; exact hst
              · exact e3 _ (hsh j (by omega) hj1 hj2 hj3 hj4)) (fun u hu ho hut => by
              rw [e1, e2]
              cases eu : s.sn u
              · exact e4 u hu eu
              · obtain ⟨b1, b2, b3, b4⟩ := hfull u eu ho hut
                exact ⟨b1, b2, b3, Shut.mono R b4 e3⟩)
            refine ⟨fun h => ?_, fun h => ?_⟩
            · obtain ⟨z, w1, w2, w3, w4, w5, w6, w7, w8⟩ := hl.1 h
              rw [e2] at w1 w4
              rw [e1] at w5 w7 w8
              exact ⟨z, w1, w2, w3, w4, w5, w6, w7, w8⟩
            · obtain ⟨w1, w2, w3, w4⟩ := hl.2 h
              rw [e1] at w1 w4
              rw [e2] at w2 w4
              exact ⟨w1, w2, fun u hu => w3 u (e3 u hu), w4⟩
          · obtain ⟨z, hw⟩ := r1 rfl
            exact ⟨fun _ => ⟨z, move_went hok hi ht hold hot0 hs hrg hw⟩, fun h => by cases h⟩
theorem loop_up {rec : Nat → Fl → Bool × Fl} (hrec : ∀ t s u, s.sn u = true → (rec t s).2.sn u = true) {t : Nat} : ∀ m i s u, s.sn u = true → (R.loopF rec m i t s).2.sn u = true
  | 0, i, s, u, h => h
  | m + 1, i, s, u, h => by
    rw [loopF]
    split
    · exact loop_up hrec m (i + 1) s u h
    · split
      · exact h
      · have := hrec (R.oth i t) s u h
        split
        · next e => rw [e] at this; exact this
        · next e => rw [e] at this; exact loop_up hrec m (i + 1) _ u this
theorem pass_up : ∀ f t s u, s.sn u = true → (R.passF f t s).2.sn u = true
  | 0, t, s, u, h => h
  | f + 1, t, s, u, h => by
    rw [passF]
    refine loop_up (pass_up f) _ _ _ u ?_
    show updB s.sn t true u = true
    by_cases e : u = t
    · subst e; exact updB_eq
    · rw [updB_ne e]; exact h
theorem pass_ok (hok : R.Ok) : ∀ f, R.PassOk f (R.passF f)
  | 0 => fun t s hm _ hs hf => by
    have := free_pos hs R.m hm
    omega
  | f + 1 => fun t s hm htm hs hf hrc hrg => by
    have hfm := free_mark hs R.m hm
    have h0 : (mark s t).sn t = true := updB_eq
    have hl := loop_ok hok (pass_ok hok f) hm htm hs R.n 0 (mark s t) (by omega) h0 (fun k hk => by
        show updB s.sn t true k = true
        by_cases e : k = t
        · subst e; exact updB_eq
        · rw [updB_ne e]; exact hk) (by show free (updB s.sn t true) R.m ≤ f; omega) hrc hrg (fun j hj => by omega) (fun u hu ho hut => by
        have : updB s.sn t true u = true := hu
        rw [updB_ne hut, ho] at this
        cases this)
    rw [passF]
    refine ⟨fun h => ?_, fun h => ?_⟩
    · obtain ⟨z, w1, w2, w3, w4, w5, w6, w7, w8⟩ := hl.1 h
      exact ⟨z, w1, w2, w3, w4, w5, w6, w7, w8⟩
    · obtain ⟨w1, w2, w3, w4⟩ := hl.2 h
      refine ⟨⟨w1, w2, fun u hu => w3 u ?_, w4⟩, loop_up (pass_up f) _ _ _ t h0⟩
      show updB s.sn t true u = true
      by_cases e : u = t
      · subst e; exact updB_eq
      · rw [updB_ne e]; exact hu

/-- The sum over teams of S below m. -/
def sumS (S : Nat → Bool) (f : Nat → Int) : Nat → Int
  | 0 => 0
  | m + 1 => sumS S f m + if S m then f m else 0
theorem sumS_add {S : Nat → Bool} {f g : Nat → Int} : ∀ m, sumS S (fun u => f u + g u) m = sumS S f m + sumS S g m
  | 0 => rfl
  | m + 1 => by
    simp only [sumS]
    rw [sumS_add m]
    split <;> omega
theorem sumS_zero {S : Nat → Bool} {f : Nat → Int} : ∀ m, (∀ u, u < m → S u = true → f u = 0) → sumS S f m = 0
  | 0, _ => rfl
  | m + 1, h => by
    simp only [sumS]
    rw [sumS_zero m (fun u hu => h u (by omega))]
    split
    · next e => rw [h m (by omega) e]; rfl
    · rfl
theorem sumS_one {S : Nat → Bool} {a : Nat} {x : Int} : ∀ m, a < m → sumS S (fun u => if a = u then x else 0) m = if S a then x else 0
  | 0, h => by omega
  | m + 1, h => by
    simp only [sumS]
    by_cases e : a = m
    · subst e
      rw [sumS_zero a (fun u hu _ => if_neg (by omega))]
      simp
    · rw [sumS_one m (by omega), if_neg e]
      simp
theorem sumS_le {S : Nat → Bool} {f g : Nat → Int} : ∀ m, (∀ u, u < m → S u = true → f u ≤ g u) → sumS S f m ≤ sumS S g m
  | 0, _ => Int.le_refl _
  | m + 1, h => by
    simp only [sumS]
    have := sumS_le m (fun u hu => h u (by omega))
    split
    · next e => have := h m (by omega) e; omega
    · omega
/-- A bound of all that is passed by one. -/
theorem sumS_lt {S : Nat → Bool} {f g : Nat → Int} {t : Nat} (ht : S t = true) (hlt : f t < g t) : ∀ m, t < m → (∀ u, u < m → S u = true → f u ≤ g u) → sumS S f m < sumS S g m
  | 0, h, _ => by omega
  | m + 1, h, hle => by
    simp only [sumS]
    by_cases e : t = m
    · subst e
      have := sumS_le t (fun u hu => hle u (by omega))
      rw [if_pos ht, if_pos ht]
      omega
    · have := sumS_lt ht hlt m (by omega) (fun u hu => hle u (by omega))
      split
      · next e => have := hle m (by omega) e; omega
      · omega
variable (R) in
/-- How many of the first k games are of two teams of S; of a team. -/
def inS (S : Nat → Bool) : Nat → Int
  | 0 => 0
  | k + 1 => inS S k + if S (R.A k) && S (R.B k) then 1 else 0
variable (R) in
def cnt (t : Nat) : Nat → Int
  | 0 => 0
  | k + 1 => cnt t k + if R.A k = t ∨ R.B k = t then 1 else 0
/-- Nobody of S gives a point away: they have two of each game of theirs, none of another one. -/
theorem sum_wt (hok : R.Ok) {gv : Nat → Int} {S : Nat → Bool} (htm : S R.tm = false) (h : ∀ i, i < R.n → (S (R.A i) = true → S (R.B i) = false → gv i = 0) ∧ (S (R.B i) = true → S (R.A i) = false → gv i = 2)) : ∀ k, k ≤ R.n → sumS S (fun u => R.wt gv u k) R.m = 2 * R.inS S k
  | 0, _ => by rw [show sumS S (fun u => R.wt gv u 0) R.m = 0 from sumS_zero R.m (fun u _ _ => rfl)]; rfl
  | k + 1, hk => by
    obtain ⟨o1, o2, o3⟩ := hok k (by omega)
    have e : (fun u => R.wt gv u (k + 1)) = fun u => (R.wt gv u k + (if R.A k = u then gv k else 0)) + (if R.B k = u then 2 - gv k else 0) := rfl
    rw [e, sumS_add, sumS_add, sum_wt hok htm h k (by omega), sumS_one R.m o1, sumS_one R.m o2, inS]
    obtain ⟨h1, h2⟩ := h k (by omega)
    cases ha : S (R.A k) <;> cases hb : S (R.B k)
    · simp
    · rw [h2 hb ha]; simp
    · rw [h1 ha hb]; simp
    · simp; omega
/-- At least two points of each game between two of S are theirs. -/
theorem sum_ge (hok : R.Ok) {gv : Nat → Int} {S : Nat → Bool} (hrg : ∀ j, j < R.n → 0 ≤ gv j ∧ gv j ≤ 2) : ∀ k, k ≤ R.n → 2 * R.inS S k ≤ sumS S (fun u => R.wt gv u k) R.m
  | 0, _ => by rw [show sumS S (fun u => R.wt gv u 0) R.m = 0 from sumS_zero R.m (fun u _ _ => rfl)]; exact Int.le_refl _
  | k + 1, hk => by
    obtain ⟨o1, o2, o3⟩ := hok k (by omega)
    have e : (fun u => R.wt gv u (k + 1)) = fun u => (R.wt gv u k + (if R.A k = u then gv k else 0)) + (if R.B k = u then 2 - gv k else 0) := rfl
    have ih := sum_ge hok (S := S) hrg k (by omega)
    have hg := hrg k (by omega)
    rw [e, sumS_add, sumS_add, sumS_one R.m o1, sumS_one R.m o2, inS]
    cases ha : S (R.A k) <;> cases hb : S (R.B k) <;> simp <;> omega
/-- A team has two points of each of its games at most. -/
theorem wt_le (hok : R.Ok) {gv : Nat → Int} (hrg : ∀ j, j < R.n → 0 ≤ gv j ∧ gv j ≤ 2) (t : Nat) : ∀ k, k ≤ R.n → 0 ≤ R.wt gv t k ∧ R.wt gv t k ≤ 2 * R.cnt t k
  | 0, _ => ⟨Int.le_refl _, Int.le_refl _⟩
  | k + 1, hk => by
    obtain ⟨o1, o2, o3⟩ := hok k (by omega)
    have ih := wt_le hok hrg t k (by omega)
    have hg := hrg k (by omega)
    simp only [wt, cnt]
    by_cases ha : R.A k = t
    · have hb : ¬ R.B k = t := by omega
      simp [ha, hb]; omega
    · by_cases hb : R.B k = t
      · simp [ha, hb]; omega
      · simp [ha, hb]; omega
/-- Teams that rule the team out: together they have more than it can reach, on the average. -/
structure Rules (R : Rc) (base : Nat → Int) (S : Nat → Bool) : Prop where
  tm : S R.tm = false
  u6 : ∀ u, S u = true → u < R.m
  more : R.rc * sumS S (fun _ => 1) R.m < sumS S base R.m + 2 * R.inS S R.n
theorem sumS_const {S : Nat → Bool} {c : Int} : ∀ m, sumS S (fun _ => c) m = c * sumS S (fun _ => 1) m
  | 0 => by simp [sumS]
  | m + 1 => by
    simp only [sumS]
    rw [sumS_const m]
    split
    · rw [Int.mul_add]; omega
    · rw [Int.mul_add]; omega
variable (R) in
/-- A race that is settled so far: what all have is what they had, and of the open games. -/
structure Inv (base : Nat → Int) (s : Fl) : Prop where
  hv : ∀ u, u ≠ R.tm → s.hv u = base u + R.wt s.gv u R.n
  rg : ∀ j, j < R.n → 0 ≤ s.gv j ∧ s.gv j ≤ 2
  own : ∀ j, j < R.n → (R.A j = R.tm → s.gv j = 2) ∧ (R.B j = R.tm → s.gv j = 0)
variable (R) in
def shiftF (t : Nat) (s : Fl) : Bool × Fl := R.passF R.m t { s with sn := fun _ => false }
theorem free_all : ∀ m, free (fun _ => false) m = m
  | 0 => rfl
  | m + 1 => by simp only [free]; rw [free_all m]; rfl
theorem shift_true (hok : R.Ok) {base : Nat → Int} {s : Fl} (h : R.Inv base s) {t : Nat} (hm : t < R.m) (htm : t ≠ R.tm) (hrc : R.rc < s.hv t) (e : (R.shiftF t s).1 = true) : R.Inv base (R.shiftF t s).2 ∧ (R.shiftF t s).2.hv t = s.hv t - 1 ∧ (∀ u, s.hv u ≤ R.rc → (R.shiftF t s).2.hv u ≤ R.rc) ∧ (R.shiftF t s).2.hv R.tm = s.hv R.tm := by
  obtain ⟨z, w⟩ := (pass_ok hok R.m t { s with sn := fun _ => false } hm htm rfl (by rw [free_all]; omega) (by dsimp only; omega) h.rg).1 e
  have hzt : t ≠ z := by rintro rfl; have := w.hz; dsimp only at this; omega
  refine ⟨⟨fun u hu => ?_, w.rg, fun j hj => ⟨fun ha => ?_, fun hb => ?_⟩⟩, ?_, fun u hu => ?_, ?_⟩
  · have a := w.hv u
    have b := w.wt u
    have c := h.hv u hu
    unfold shiftF
    dsimp only at a b
    omega
  · rw [show (R.shiftF t s).2.gv j = s.gv j from w.tg j hj (.inl ha)]
    exact (h.own j hj).1 ha
  · rw [show (R.shiftF t s).2.gv j = s.gv j from w.tg j hj (.inr hb)]
    exact (h.own j hj).2 hb
  · have a := w.hv t
    simp [one, hzt] at a
    exact a
  · have a := w.hv u
    have hz := w.hz
    unfold shiftF
    dsimp only at a hz
    rw [a]
    unfold one
    by_cases e1 : u = z
    · subst e1
      split <;> simp <;> omega
    · rw [if_neg e1]
      split <;> omega
  · have a := w.hv R.tm
    have e1 : R.tm ≠ z := fun e => w.ztm e.symm
    have e2 : R.tm ≠ t := fun e => htm e.symm
    simp [one, e1, e2] at a
    exact a
theorem shift_false (hok : R.Ok) {base : Nat → Int} {s : Fl} (h : R.Inv base s) {t : Nat} (hm : t < R.m) (htm : t ≠ R.tm) (hrc : R.rc < s.hv t) (e : (R.shiftF t s).1 = false) : ∃ S, R.Rules base S := by
  obtain ⟨w, hst⟩ := (pass_ok hok R.m t { s with sn := fun _ => false } hm htm rfl (by rw [free_all]; omega) (by dsimp only; omega) h.rg).2 e
  obtain ⟨S, hS⟩ : ∃ S, S = (R.passF R.m t { s with sn := fun _ => false }).2.sn := ⟨_, rfl⟩
  rw [← hS] at hst
  have hf : ∀ u, S u = true → u < R.m ∧ u ≠ R.tm ∧ R.rc ≤ s.hv u ∧ R.Shut s.gv S u R.n := fun u hu => by
    rw [hS] at hu ⊢
    exact w.full u hu rfl
  have hS0 : S R.tm = false := by
    cases e : S R.tm
    · rfl
    · exact absurd rfl (hf _ e).2.1
  refine ⟨S, hS0, fun u hu => (hf u hu).1, ?_⟩
  have k1 := sum_wt hok (gv := s.gv) hS0 (fun i hi => by
    obtain ⟨o1, o2, o3⟩ := hok i hi
    refine ⟨fun ha hb => ?_, fun hb ha => ?_⟩
    · by_cases e1 : R.B i = R.tm
      · exact (h.own i hi).2 e1
      · have e2 : R.A i ≠ R.tm := fun e => by rw [e] at ha; rw [hS0] at ha; cases ha
        have := (hf _ ha).2.2.2 i hi (.inl rfl) e2 e1
        have e3 : ¬ R.B i = R.A i := by omega
        unfold oth at this
        rw [if_neg e3, if_neg e3, hb] at this
        apply Decidable.byContradiction
        intro hne
        exact absurd (this hne) (by simp)
    · by_cases e1 : R.A i = R.tm
      · exact (h.own i hi).1 e1
      · have e2 : R.B i ≠ R.tm := fun e => by rw [e] at hb; rw [hS0] at hb; cases hb
        have := (hf _ hb).2.2.2 i hi (.inr rfl) e1 e2
        unfold oth at this
        rw [if_pos rfl, if_pos rfl, ha] at this
        apply Decidable.byContradiction
        intro hne
        exact absurd (this (by omega)) (by simp)) R.n (Nat.le_refl _)
  have k2 : sumS S s.hv R.m = sumS S base R.m + sumS S (fun u => R.wt s.gv u R.n) R.m := by
    rw [← sumS_add]
    apply Int.le_antisymm
    · exact sumS_le R.m (fun u _ hu => by rw [h.hv u (hf u hu).2.1]; exact Int.le_refl _)
    · exact sumS_le R.m (fun u _ hu => by rw [h.hv u (hf u hu).2.1]; exact Int.le_refl _)
  have k3 := sumS_lt (S := S) (f := fun _ => R.rc) (g := s.hv) hst hrc R.m hm (fun u _ hu => (hf u hu).2.2.1)
  rw [sumS_const] at k3
  omega
/-- A team that is ruled out has less than one of those that do it, by all outcomes. -/
theorem ruled (hok : R.Ok) {base : Nat → Int} {S : Nat → Bool} (h : R.Rules base S) (hrc : R.rc = base R.tm + 2 * R.cnt R.tm R.n) {gv : Nat → Int} (hrg : ∀ j, j < R.n → 0 ≤ gv j ∧ gv j ≤ 2) : ∃ u, S u = true ∧ base R.tm + R.wt gv R.tm R.n < base u + R.wt gv u R.n := by
  apply Classical.byContradiction
  intro hno
  have hle : ∀ u, u < R.m → S u = true → base u + R.wt gv u R.n ≤ R.rc := fun u _ hu => by
    have h1 := (wt_le hok hrg R.tm R.n (Nat.le_refl _)).2
    have h2 : ¬ base R.tm + R.wt gv R.tm R.n < base u + R.wt gv u R.n := fun h => hno ⟨u, hu, h⟩
    omega
  have k1 := sumS_le (S := S) (f := fun u => base u + R.wt gv u R.n) (g := fun _ => R.rc) R.m hle
  rw [sumS_add, sumS_const] at k1
  have k2 := sum_ge hok (S := S) hrg R.n (Nat.le_refl _)
  have := h.more
  omega
/-- Where nobody has more than the team can reach, it is first. -/
theorem settled (hok : R.Ok) {base : Nat → Int} {s : Fl} (h : R.Inv base s) (hrc : R.rc = base R.tm + 2 * R.cnt R.tm R.n) (hle : ∀ u, u < R.m → u ≠ R.tm → s.hv u ≤ R.rc) : base R.tm + R.wt s.gv R.tm R.n = R.rc ∧ ∀ u, u < R.m → base u + R.wt s.gv u R.n ≤ base R.tm + R.wt s.gv R.tm R.n := by
  have e : ∀ k, k ≤ R.n → R.wt s.gv R.tm k = 2 * R.cnt R.tm k := by
    intro k
    induction k with
    | zero => intro _; rfl
    | succ k ih =>
      intro hk
      obtain ⟨o1, o2, o3⟩ := hok k (by omega)
      obtain ⟨h1, h2⟩ := h.own k (by omega)
      simp only [wt, cnt]
      rw [ih (by omega)]
      by_cases ha : R.A k = R.tm
      · have hb : ¬ R.B k = R.tm := by omega
        simp [ha, hb, h1 ha]; omega
      · by_cases hb : R.B k = R.tm
        · simp [ha, hb, h2 hb]; omega
        · simp [ha, hb]
  have e1 := e R.n (Nat.le_refl _)
  refine ⟨by omega, fun u hu => ?_⟩
  by_cases eu : u = R.tm
  · subst eu; exact Int.le_refl _
  · have h1 := hle u hu eu
    rw [h.hv u eu] at h1
    omega
/-- One team alone rules the team out. -/
theorem rules_one {base : Nat → Int} {t : Nat} (hm : t < R.m) (htm : t ≠ R.tm) (hok : R.Ok) (h : R.rc < base t) : R.Rules base (fun u => decide (u = t)) := by
  have e : ∀ k, k ≤ R.n → R.inS (fun u => decide (u = t)) k = 0 := by
    intro k
    induction k with
    | zero => intro _; rfl
    | succ k ih =>
      intro hk
      obtain ⟨o1, o2, o3⟩ := hok k (by omega)
      simp only [inS]
      rw [ih (by omega)]
      by_cases ha : R.A k = t
      · have hb : ¬ R.B k = t := by omega
        simp [hb]
      · simp [ha]
  have k1 : sumS (fun u => decide (u = t)) (fun _ => (1 : Int)) R.m = 1 := by
    have := sumS_one (S := fun u => decide (u = t)) (a := t) (x := (1 : Int)) R.m hm
    simp only [decide_true, if_true] at this
    refine Eq.trans ?_ this
    apply Int.le_antisymm
    · exact sumS_le R.m (fun u _ hu => by simp at hu; simp [hu])
    · exact sumS_le R.m (fun u _ hu => by simp at hu; simp [hu])
  have k2 : sumS (fun u => decide (u = t)) base R.m = base t := by
    have := sumS_one (S := fun u => decide (u = t)) (a := t) (x := base t) R.m hm
    simp only [decide_true, if_true] at this
    refine Eq.trans ?_ this
    apply Int.le_antisymm
    · exact sumS_le R.m (fun u _ hu => by simp at hu; simp [hu])
    · exact sumS_le R.m (fun u _ hu => by simp at hu; simp [hu])
  refine ⟨by simp; omega, fun u hu => by simp at hu; omega, ?_⟩
  rw [k1, k2, e R.n (Nat.le_refl _)]
  omega
end Rc
end

section

set_option linter.unusedVariables false
set_option linter.unusedSimpArgs false

/-- All lists of so many teams more, that begin so, from a team on. -/
def candL (T : Nat) (tm : Int) : Nat → List Int → Nat → List (List Int)
  | 0, l, _ => [l]
  | m + 1, l, nx => (List.range' nx (T - nx)).flatMap fun (t : Nat) => if (t : Int) = tm then [] else candL T tm m (l ++ [(t : Int)]) (t + 1)
/-- All lists of 1 to k teams. -/
def allC (T : Nat) (tm : Int) (k : Nat) : List (List Int) := (List.range' 1 k).flatMap fun m => candL T tm m [] 0
def bitsL (T bits : Nat) : List Int := ((List.range T).filter fun t => bits.testBit t).map Int.ofNat
def lexB : List Int → List Int → Bool
  | a :: us, b :: vs => if a = b then lexB us vs else decide (a < b)
  | _, _ => false
def lessL (a b : List Int) : Bool := if a.length = b.length then lexB a b else decide (a.length < b.length)
/-- What the reference has behind the bits from 1 to k. -/
def refBest (T : Nat) (p : List Int → Bool) : Nat → List Int
  | 0 => []
  | k + 1 => if p (bitsL T (k + 1)) && (decide (refBest T p k = []) || lessL (bitsL T (k + 1)) (refBest T p k)) then bitsL T (k + 1) else refBest T p k
theorem least_unique {C : List (List Int)} (hord : ∀ i j, i < C.length → j < C.length → lessL (C.getD i []) (C.getD j []) = decide (i < j)) {p : List Int → Bool} {b : List Int} (hb : b ∈ C) (hp : p b = true) (hmin : ∀ x ∈ C, p x = true → lessL x b = false) : C.find? p = some b := by
  obtain ⟨i, hi, rfl⟩ := List.getElem_of_mem hb
  rw [List.find?_eq_some_iff_getElem]
  refine ⟨hp, i, hi, rfl, fun j hj => ?_⟩
  cases e : p C[j]
  · rfl
  · have h1 := hmin _ (List.getElem_mem (by omega)) e
    have h2 := hord j i (by omega) hi
    rw [List.getD_eq_getElem?_getD, List.getD_eq_getElem?_getD, List.getElem?_eq_getElem (by omega), List.getElem?_eq_getElem hi] at h2
    simp only [Option.getD_some] at h2
    rw [h1] at h2
    simp at h2
    omega
theorem fold_least {C : List (List Int)} (hord : ∀ i j, i < C.length → j < C.length → lessL (C.getD i []) (C.getD j []) = decide (i < j)) (hne : ∀ x ∈ C, x ≠ []) {T : Nat} {p : List Int → Bool} : ∀ k, (∀ b, 1 ≤ b → b ≤ k → p (bitsL T b) = true → bitsL T b ∈ C) →
    (refBest T p k = [] ∧ ∀ b, 1 ≤ b → b ≤ k → p (bitsL T b) = false) ∨ (refBest T p k ∈ C ∧ p (refBest T p k) = true ∧ ∀ b, 1 ≤ b → b ≤ k → p (bitsL T b) = true → lessL (bitsL T b) (refBest T p k) = false)
  | 0, _ => .inl ⟨rfl, fun b h1 h2 => by omega⟩
  | k + 1, hmem => by
    have hat : ∀ x ∈ C, ∃ i, i < C.length ∧ x = C.getD i [] := fun x hx => by
      obtain ⟨i, hi, rfl⟩ := List.getElem_of_mem hx
      exact ⟨i, hi, by rw [List.getD_eq_getElem?_getD, List.getElem?_eq_getElem hi]; rfl⟩
    have ih := fold_least hord hne k (fun b h1 h2 => hmem b h1 (by omega))
    rw [refBest]
    cases ep : p (bitsL T (k + 1))
    · simp only [Bool.false_and, Bool.false_eq_true, if_false]
      rcases ih with ⟨h1, h2⟩ | ⟨h1, h2, h3⟩
      · refine .inl ⟨h1, fun b hb1 hb2 => ?_⟩
        by_cases e : b = k + 1
        · subst e; exact ep
        · exact h2 b hb1 (by omega)
      · refine .inr ⟨h1, h2, fun b hb1 hb2 hpb => ?_⟩
        by_cases e : b = k + 1
        · subst e; rw [ep] at hpb; cases hpb
        · exact h3 b hb1 (by omega) hpb
    · have hC := hmem (k + 1) (by omega) (Nat.le_refl _) ep
      obtain ⟨i, hi, ei⟩ := hat _ hC
      rcases ih with ⟨h1, h2⟩ | ⟨h1, h2, h3⟩
      · rw [h1]
        simp only [decide_true, Bool.true_or, Bool.and_true, if_true]
        refine .inr ⟨hC, ep, fun b hb1 hb2 hpb => ?_⟩
        by_cases e : b = k + 1
        · subst e; rw [ei, hord i i hi hi]; simp
        · rw [h2 b hb1 (by omega)] at hpb; cases hpb
      · have hn := hne _ h1
        obtain ⟨j, hj, ej⟩ := hat _ h1
        simp only [decide_eq_false hn, Bool.false_or, Bool.true_and]
        cases el : lessL (bitsL T (k + 1)) (refBest T p k)
        · rw [if_neg (by simp)]
          refine .inr ⟨h1, h2, fun b hb1 hb2 hpb => ?_⟩
          by_cases e : b = k + 1
          · subst e; exact el
          · exact h3 b hb1 (by omega) hpb
        · rw [if_pos rfl]
          refine .inr ⟨hC, ep, fun b hb1 hb2 hpb => ?_⟩
          by_cases e : b = k + 1
          · subst e; rw [ei, hord i i hi hi]; simp
          · have h4 := h3 b hb1 (by omega) hpb
            obtain ⟨x, hx, ex⟩ := hat _ (hmem b hb1 hb2 hpb)
            rw [ex, ej, hord x j hx hj] at h4
            rw [ei, ej, hord i j hi hj] at el
            rw [ex, ei, hord x i hx hi]
            simp at h4 el ⊢
            omega
/-- All that is to be looked at for so many teams. -/
def ordB (T tm : Nat) : Bool :=
  let C := allC T tm (T - 1)
  ((List.range C.length).all fun i => (List.range C.length).all fun j => lessL (C.getD i []) (C.getD j []) == decide (i < j)) &&
  (C.all fun x => !x.isEmpty && !hasI x tm && (List.range' 1 (2 ^ T - 1)).any fun b => decide (bitsL T b = x)) &&
  ((List.range' 1 (2 ^ T - 1)).all fun b => hasI (bitsL T b) tm || C.any fun x => decide (x = bitsL T b))
theorem ord_all : ∀ T, 2 ≤ T → T ≤ 6 → ∀ tm, tm < T → ordB T tm = true := by
  intro T h1 h2
  obtain rfl | rfl | rfl | rfl | rfl : T = 2 ∨ T = 3 ∨ T = 4 ∨ T = 5 ∨ T = 6 := by omega
  all_goals decide +kernel
theorem reason_eq {T tm : Nat} (h2 : 2 ≤ T) (h6 : T ≤ 6) (ht : tm < T) (p : List Int → Bool) : refBest T (fun s => !hasI s tm && p s) (2 ^ T - 1) = ((allC T tm (T - 1)).find? p).getD [] ∧ ((allC T tm (T - 1)).find? p = none ↔ refBest T (fun s => !hasI s tm && p s) (2 ^ T - 1) = []) := by
  have h := ord_all T h2 h6 tm ht
  unfold ordB at h
  simp only [Bool.and_eq_true, List.all_eq_true, List.any_eq_true, Bool.or_eq_true, List.mem_range, beq_iff_eq, decide_eq_true_eq, List.mem_range'_1, Bool.not_eq_true', List.isEmpty_eq_false_iff] at h
  obtain ⟨⟨hord, hC⟩, hD⟩ := h
  generalize hc : allC T tm (T - 1) = C at *
  have hne : ∀ x ∈ C, x ≠ [] := fun x hx => (hC x hx).1.1
  have hf := fold_least (T := T) (p := fun s => !hasI s tm && p s) (fun i j hi hj => hord i hi j hj) hne (2 ^ T - 1) (fun b hb1 hb2 hp => by
    rcases hD b ⟨hb1, by omega⟩ with h | ⟨x, hx, e⟩
    · simp [h] at hp
    · rw [← e]; exact hx)
  rcases hf with ⟨e, hno⟩ | ⟨hm, hp, hmin⟩
  · have hn : C.find? p = none := by
      rw [List.find?_eq_none]
      intro x hx
      obtain ⟨⟨_, h3⟩, b, hb, rfl⟩ := hC x hx
      have := hno b hb.1 (by omega)
      simp [h3] at this
      simp [this]
    rw [hn, e]
    simp
  · have hs : C.find? p = some (refBest T (fun s => !hasI s tm && p s) (2 ^ T - 1)) := by
      refine least_unique (fun i j hi hj => hord i hi j hj) hm (by simpa using (Bool.and_eq_true _ _ ▸ hp).2) fun x hx hpx => ?_
      obtain ⟨⟨_, h3⟩, b, hb, rfl⟩ := hC x hx
      exact hmin b hb.1 (by omega) (by simp [h3, hpx])
    rw [hs]
    have := hne _ hm
    simp [this]
end

section

open Go.RowKit

set_option maxHeartbeats 400000 in
theorem within81_c (n lo hi : Int) (w : World) : Calls Try.prog 81 #[.int .i64 n, .int .i64 lo, .int .i64 hi] w (Same w (.bool (inB n lo hi))) := by
  by_cases h : lo ≤ n
  · go_enter Try.func81, Try.ntmps81
    go_wp2
    go_ret
    exact ⟨ret_bool (by simp [inB, h]), rfl⟩
  · go_enter Try.func81, Try.ntmps81
    go_wp2
    go_ret
    exact ⟨ret_bool (by simp only [inB]; rw [decide_eq_false (by omega)]; rfl), rfl⟩
set_option maxHeartbeats 400000 in
theorem in46_c (n lo hi : Int) (w : World) : Calls Try.prog 46 #[.int .i64 n, .int .i64 lo, .int .i64 hi] w (Same w (.bool (inB n lo hi))) := by
  by_cases h : lo ≤ n
  · go_enter Try.func46, Try.ntmps46
    go_wp2
    go_ret
    exact ⟨ret_bool (by simp [inB, h]), rfl⟩
  · go_enter Try.func46, Try.ntmps46
    go_wp2
    go_ret
    exact ⟨ret_bool (by simp only [inB]; rw [decide_eq_false (by omega)]; rfl), rfl⟩
set_option maxHeartbeats 400000 in
theorem ints23_c {B : Nat} (A A' : Option Addr) (xs ys : List Int) (c c' : Nat) (w : World) (hx : Ints B w A xs) (hy : Ints B w A' ys) (hc : xs.length ≤ c ∧ c ≤ 9223372036854775807) (_hc' : ys.length ≤ c' ∧ c' ≤ 9223372036854775807) :
    Calls Try.prog 23 #[.slice A xs.length c, .slice A' ys.length c'] w (Qt w (.bool (eqB xs ys))) := by
  by_cases hl : xs.length = ys.length
  · have HL := Lib.hid hl
    have hne : ((xs.length : Int) != (ys.length : Int)) = false := by simp [hl]
    clear hl
    go_enter Try.func23, Try.ntmps23
    go_wp2
    go_loopw [5] (fun i wr => ∃ k n : Nat, k ≤ xs.length ∧ i = .int .i64 k ∧ pref xs ys k ∧ wr = w.drewN n) (fun i _ => xs.length - (intOf i).toNat)
    case atStart => exact ⟨0, 0, by omega, rfl, fun j hj => by omega, rfl⟩
    case round =>
      obtain ⟨k, n, hk, rfl, hp, rfl⟩ := hrel
      by_cases h1 : k < xs.length
      · obtain ⟨b, off, rfl, hb, hcell⟩ := hx.at_ h1
        obtain ⟨b', off', rfl, hb', hcell'⟩ := hy.at_ (k := k) (by have := HL.out; omega)
        have h1' : k < ys.length := by have := HL.out; omega
        by_cases he : ix xs k = ix ys k
        · have he' : (ix xs k != ix ys k) = false := by simp [he]
          have HE := Lib.hid he
          clear he
          go_wp2
          go_quiet (fail)
          go_wp2
          go_roundw
          case rel => exact ⟨k + 1, _, by omega, by go_num, fun j hj => by
            by_cases e : j = k
            · subst e; exact HE.out
            · exact hp j (by omega), rfl⟩
          case measure => simp [intOf]; omega
        · have he' : (ix xs k != ix ys k) = true := by simp [he]
          go_wp2
          go_quiet (fail)
          go_wp2
          go_ret
          exact ⟨ret_bool (eqB_at he).symm, _, World.drewN_drewN _ _ _⟩
      · go_wp2
        go_ret
        exact ⟨ret_bool (eqB_all HL.out (fun j hj => hp j (by omega))).symm, _, rfl⟩
  · have hne : ((xs.length : Int) != (ys.length : Int)) = true := by simp; omega
    go_enter Try.func23, Try.ntmps23
    go_wp2
    go_ret
    exact ⟨ret_bool (eqB_len hl).symm, 0, rfl⟩
end

section

open Go.RowKit

theorem infoInt : (Try.prog.info? 3).map (fun i => (i.zero, i.size, i.bytes)) = some (some (.int .i64 0), 1, 8) := by kernel_rfl
theorem infoInts : (Try.prog.info? 34).map (fun i => (i.zero, i.size, i.bytes)) = some (some (.slice none 0 0), 1, 24) := by kernel_rfl
/-- Value v is an own slice of n own slices; row j holds rows j. -/
def Rws (base : Nat) (w : World) (v : Value) (n : Nat) (vs : List Value) (rows : Nat → List Int) : Prop :=
  w.ownsRow base 34 1 v n vs ∧ (∀ j, j < n → ∃ u, vs[j]? = some u ∧ w.ownsRow base 3 1 u (rows j).length ((rows j).map (Value.int .i64)) ∧ (u.ownBlock = none ∨ u.ownBlock ≠ v.ownBlock)) ∧
    ∀ (i j : Nat) (u u' : Value), i < j → vs[i]? = some u → vs[j]? = some u' → (u.ownBlock = none ∨ u.ownBlock ≠ u'.ownBlock)
theorem Rws.len {base : Nat} {w : World} {v : Value} {n : Nat} {vs : List Value} {rows : Nat → List Int} (h : Rws base w v n vs rows) : vs.length = n := by have := h.1.1; omega
theorem Rws.nil (base : Nat) (w : World) (rows : Nat → List Int) : Rws base w (.slice none 0 0) 0 [] rows :=
  ⟨World.ownsRow_nil _ _ _ _, fun j hj => by omega, fun i j u u' _ h => by simp at h⟩
theorem grown_none {w w' : World} {B : Nat} (h : Below B w w') (hB : w.heap.size ≤ B) : w.grownBy w' none := only_below (h.mono hB) none
theorem Rws.kept {base : Nat} {w w' : World} {v : Value} {n : Nat} {vs : List Value} {rows : Nat → List Int} (h : Rws base w v n vs rows) (hg : Below w.heap.size w w') : Rws base w' v n vs rows := by
  obtain ⟨h1, h2, h3⟩ := h
  have k : ∀ {u : Value} {e : TypeId} {m : Nat} {us : List Value}, w.ownsRow base e 1 u m us → w'.ownsRow base e 1 u m us := fun {u e m us} hu => hu.kept (only_below hg none) (by cases u.ownBlock <;> simp)
  refine ⟨k h1, fun j hj => ?_, h3⟩
  obtain ⟨u, a, b, c⟩ := h2 j hj
  exact ⟨u, a, k b, c⟩
theorem Rws.push {base : Nat} {w w1 w2 : World} {v v' u : Value} {n : Nat} {vs : List Value} {rows : Nat → List Int} (h : Rws base w v n vs rows) (hb : Below w.heap.size w w1) (hB : base ≤ w.heap.size)
    (hu : w1.ownsRow w.heap.size 3 1 u (rows n).length ((rows n).map (Value.int .i64))) (hg : w1.grownBy w2 v.ownBlock) (hv : v'.ownBlock = v.ownBlock ∨ v'.ownBlock = some w1.heap.size)
    (ho : w2.ownsRow base 34 1 v' (n + 1) (vs ++ [u])) : Rws base w2 v' (n + 1) (vs ++ [u]) rows := by
  have hl := h.len
  have hvlt : ∀ k, v.ownBlock = some k → k < w.heap.size := fun k e => (h.1.lt k e).2
  have hult := hu.lt
  have hu2 : w2.ownsRow w.heap.size 3 1 u (rows n).length ((rows n).map (Value.int .i64)) := hu.kept hg (by
    cases e : u.ownBlock with
    | none => exact .inl rfl
    | some k =>
      refine .inr fun e' => ?_
      have a := hvlt k e'.symm
      have b := (hult k e).1
      omega)
  have hsz := hb.size
  refine ⟨ho, fun j hj => ?_, fun i j x y hij hx hy => ?_⟩
  · by_cases e : j = n
    · subst e
      refine ⟨u, by rw [List.getElem?_append_right (by omega)]; simp [hl], ownsRow_base hu2 hB, ?_⟩
      cases e : u.ownBlock with
      | none => exact .inl rfl
      | some k =>
        have a := hult k e
        refine .inr fun e' => ?_
        rcases hv with hv | hv
        · rw [hv] at e'
          have := hvlt k e'.symm
          omega
        · rw [hv] at e'
          injection e' with e'
          omega
    · obtain ⟨x, a, b, c⟩ := h.2.1 j (by omega)
      refine ⟨x, by rw [List.getElem?_append_left (by omega)]; exact a, (b.kept (only_below hb none) (by cases x.ownBlock <;> simp)).kept hg c, ?_⟩
      cases e : x.ownBlock with
      | none => exact .inl rfl
      | some k =>
        rcases hv with hv | hv
        · rw [hv]; rw [e] at c; exact c
        · have d := (b.lt k e).2
          rw [hv]
          refine .inr fun e' => ?_
          injection e' with e'
          omega
  · have hj : j < n + 1 := by
      have := (List.getElem?_eq_some_iff.1 hy).1
      rw [List.length_append] at this
      simp at this
      omega
    by_cases e : j = n
    · subst e
      rw [List.getElem?_append_right (by omega)] at hy
      rw [List.getElem?_append_left (by omega)] at hx
      simp [hl] at hy
      subst hy
      obtain ⟨x', a, b, c⟩ := h.2.1 i (by omega)
      rw [hx] at a
      injection a with a
      subst a
      cases e : x.ownBlock with
      | none => exact .inl rfl
      | some k =>
        have d := (b.lt k e).2
        refine .inr fun e' => ?_
        have := (hult k e'.symm).1
        omega
    · rw [List.getElem?_append_left (by omega)] at hy hx
      exact h.2.2 i j x y hij hx hy
theorem Rws.grd {base : Nat} {w : World} {v : Value} {vs : List Value} {yss : List (List Int)} (h : Rws base w v yss.length vs (rx yss)) : IsGrd w.heap.size w v yss := by
  obtain ⟨h1, h2, _⟩ := h
  rcases h1.2 with ⟨rfl, h0⟩ | ⟨g, cap, cur, rfl, hb, hg, hn, hm, hs, ht⟩
  · have : yss = [] := List.eq_nil_of_length_eq_zero h0
    subst this
    exact ⟨none, 0, rfl, by simp, by simp, fun hp => by simp at hp⟩
  · refine ⟨_, cap, rfl, hn, by unfold maxLen at hm; omega, fun hp => ⟨g, 0, rfl, (Array.getElem?_eq_some_iff.1 hg).1, fun k hk => ?_⟩⟩
    obtain ⟨u, a, b, c⟩ := h2 k hk
    refine ⟨u, ?_, ownsRow_isInts b⟩
    have := h1.cells (g := g) rfl k u a
    rwa [add_eq] at this
theorem src_one (w : World) (u : Value) : Src (w.alloc (.cells #[u] 34)) 1 (some ⟨w.heap.size, 0, none⟩) 1 [u] := by
  refine ⟨rfl, (fun h => by cases h), fun ad hA j x hx => ?_⟩
  injection hA with hA
  subst hA
  cases j with
  | zero =>
    simp at hx
    subst hx
    rw [add_eq]
    simp
  | succ j => simp at hx
theorem one_slices {base : Nat} {w : World} {e : TypeId} {u : Value} {n : Nat} {xs : List Value} (h : w.ownsRow base e 1 u n xs) : ∀ x ∈ [u], x.oneCell' = true := by
  obtain ⟨A, c, rfl⟩ := ownsRow_form h
  intro x hx
  simp at hx
  subst hx
  rfl
theorem le_alloc {b : Nat} {w w1 : World} {o : Obj} (h : b ≤ w.heap.size) (hb : Below w.heap.size w w1) : b ≤ (w1.alloc o).heap.size := by
  have := hb.size
  rw [World.size_alloc]
  omega
theorem own_ne (u : Value) : u.ownBlock = none ∨ u.ownBlock ≠ none := by cases u.ownBlock <;> simp
theorem below_lit {w w' : World} {n c : Nat} {o : Obj} (h : (w.alloc o).grownBy w' (Value.slice (some ⟨w.heap.size, 0, none⟩) n c).ownBlock) : Below w.heap.size w w' :=
  ((Below.refl w.heap.size w).alloc (Nat.le_refl _) o).grown h (by simp) (fun k e => by injection e with e; subst e; exact Nat.le_refl _)
theorem Rws.congr {base : Nat} {w : World} {v : Value} {n : Nat} {vs : List Value} {rows rows' : Nat → List Int} (h : Rws base w v n vs rows) (e : ∀ j, j < n → rows' j = rows j) : Rws base w v n vs rows' :=
  ⟨h.1, fun j hj => by rw [e j hj]; exact h.2.1 j hj, h.2.2⟩
theorem Rws.row {base : Nat} {w : World} {v : Value} {n : Nat} {vs : List Value} {rows : Nat → List Int} (h : Rws base w v n vs rows) {j : Nat} (hj : j < n) (h0 : 0 < (rows j).length) :
    ∃ g c gr cr, v = .slice (some ⟨g, 0, none⟩) n c ∧ w.cell? ⟨g, j, none⟩ = some (.slice (some ⟨gr, 0, none⟩) (rows j).length cr) ∧ vs[j]? = some (.slice (some ⟨gr, 0, none⟩) (rows j).length cr) ∧ base ≤ g ∧ base ≤ gr ∧ (∀ b, b < (rows j).length → w.cell? ⟨gr, b, none⟩ = some (.int .i64 (ix (rows j) b))) ∧ (∀ b, w.frozen? ⟨gr, b, none⟩ = false) ∧ g < w.heap.size ∧ gr < w.heap.size ∧ gr ≠ g := by
  obtain ⟨u, hu, ho, hne⟩ := h.2.1 j hj
  rcases h.1.2 with ⟨_, h2⟩ | ⟨g, cap, cur, hv, hb, hg, hn, hm, hs, ht⟩
  · omega
  · rcases ho.2 with ⟨_, h2⟩ | ⟨gr, cr, cur', hv', hb', hg', hn', hm', hs', ht'⟩
    · omega
    · subst hv hv'
      refine ⟨g, cap, gr, cr, rfl, ?_, hu, hb, hb', fun b hb => ?_, fun b => ?_, (Array.getElem?_eq_some_iff.1 hg).1, (Array.getElem?_eq_some_iff.1 hg').1, fun e => by
        subst e
        rcases hne with hne | hne
        · cases hne
        · exact hne rfl⟩
      · have := h.1.cells (g := g) rfl j _ hu
        rw [add_eq] at this
        simpa using this
      · have := ho.cells (g := gr) rfl b (.int .i64 (ix (rows j) b)) (by rw [List.getElem?_map, List.getElem?_eq_getElem hb, ix_lt hb]; rfl)
        rw [add_eq] at this
        simpa using this
      · exact ho.frozenAt b
theorem Rws.store {base : Nat} {w : World} {v : Value} {n : Nat} {vs : List Value} {rows : Nat → List Int} (h : Rws base w v n vs rows) {j b gr m cr : Nat} {x : Int} (hj : j < n) (hu : vs[j]? = some (.slice (some ⟨gr, 0, none⟩) m cr)) :
    Rws base (w.setCell ⟨gr, b, none⟩ (.int .i64 x)) v n vs (fun i => if i = j then (rows j).set b x else rows i) := by
  obtain ⟨u, hu', ho, hne⟩ := h.2.1 j hj
  rw [hu] at hu'
  injection hu' with hu'
  subst hu'
  have hm : m = (rows j).length := by
    obtain ⟨A, c, e⟩ := ownsRow_form ho
    injection e
  subst hm
  obtain ⟨h1, hg⟩ := ho.stored b (.int .i64 x)
  have hk : ∀ {u : Value} {e : TypeId} {m : Nat} {us : List Value}, w.ownsRow base e 1 u m us → (u.ownBlock = none ∨ u.ownBlock ≠ some gr) → (w.setCell ⟨gr, b, none⟩ (.int .i64 x)).ownsRow base e 1 u m us := fun hu hne => hu.kept hg hne
  refine ⟨hk h.1 ?_, fun i hi => ?_, h.2.2⟩
  · rcases hne with hne | hne
    · cases hne
    · exact .inr (Ne.symm hne)
  · by_cases e : i = j
    · subst e
      refine ⟨_, hu, ?_, hne⟩
      dsimp only
      rw [if_pos rfl]
      simpa [List.map_set] using h1
    · obtain ⟨u, a, c, d⟩ := h.2.1 i hi
      refine ⟨u, a, ?_, d⟩
      dsimp only
      rw [if_neg e]
      refine hk c ?_
      rcases Nat.lt_or_gt_of_ne e with e | e
      · exact h.2.2 i j _ _ e a hu
      · rcases h.2.2 j i _ _ e hu a with r | r
        · cases r
        · exact .inr (Ne.symm r)
/-- An own list of numbers, in a block from base on. -/
def OwnI (base : Nat) (w : World) (u : Value) (xs : List Int) : Prop := w.ownsRow base 3 1 u xs.length (xs.map (Value.int .i64))
theorem OwnI.nil (base : Nat) (w : World) : OwnI base w (.slice none 0 0) [] := World.ownsRow_nil _ _ _ _
theorem OwnI.form {base : Nat} {w : World} {u : Value} {xs : List Int} (h : OwnI base w u xs) : ∃ A c, u = .slice A xs.length c := ownsRow_form h
theorem OwnI.kept {base : Nat} {w w' : World} {u : Value} {xs : List Int} (h : OwnI base w u xs) (hb : Below w.heap.size w w') : OwnI base w' u xs := World.ownsRow.kept h (only_below hb none) (by cases u.ownBlock <;> simp)
theorem OwnI.isInts {base : Nat} {w : World} {u : Value} {xs : List Int} (h : OwnI base w u xs) : IsInts w.heap.size w u xs := ownsRow_isInts h
theorem src_int (w : World) (y : Int) : Src (w.alloc (.cells #[.int .i64 y] 3)) 1 (some ⟨w.heap.size, 0, none⟩) 1 [.int .i64 y] := by
  refine ⟨rfl, (fun h => by cases h), fun ad hA j x hx => ?_⟩
  injection hA with hA
  subst hA
  cases j with
  | zero =>
    simp at hx
    subst hx
    rw [add_eq]
    simp
  | succ j => simp at hx
theorem own_below {base : Nat} {w w1 : World} {o : Obj} {e : TypeId} {u : Value} {n : Nat} {xs : List Value} (hown : w.ownsRow base e 1 u n xs) (hB : base ≤ w.heap.size) (hg : (w.alloc o).grownBy w1 u.ownBlock) : Below base w w1 :=
  ((Below.refl base w).alloc hB o).grown hg (by simp; omega) (fun k e => (hown.lt k e).1)
section
variable {ops : Array Oper} {rest : List Oper} {o : Oper} {a : Act} {Q : Exit → Act → World → Prop}
theorem wpList_app_int (s x : Operand) (hgd : o.guard = none) (ho : o.op = .call { callee := .builtin .append, args := #[s, x], argTypes := #[34, 34] }) (base : Nat) (w : World) (u : Value) (xs : List Int) (y : Int)
    (hv : a.eval s = u) (hx : a.eval x = .slice (some ⟨w.heap.size, 0, none⟩) 1 1) (hown : Hid (OwnI base w u xs)) (hl : xs.length ≤ 1000000) (hb : base ≤ w.heap.size)
    (h : ∀ A c w', Hid (OwnI base w' (.slice A (xs.length + 1) c) (xs ++ [y])) → Hid (Below base w w') → wpList Try.prog ops Q rest (a.put o.dst (.slice A (xs.length + 1) c)) w') :
    wpList Try.prog ops Q (o :: rest) a (w.alloc (.cells #[.int .i64 y] 3)) := by
  obtain ⟨i0, hi, hz0, hz1, hz2⟩ := info_parts infoInt
  have hO : w.ownsRow base 3 1 u xs.length (xs.map (Value.int .i64)) := hown
  refine wpList_append_src hgd s x 34 ho base 3 i0 (.int .i64 0) 1 8 Try.underlying34 hi hz0 hz1 hz2 rfl (by decide) u xs.length (xs.map (Value.int .i64)) hv (hO.alloc _) (some ⟨w.heap.size, 0, none⟩) 1 1 [.int .i64 y] hx (src_int w y) (one_ints [y]) (by unfold maxLen; omega) (by omega) (by simp; omega) ?_
  intro v' w' h1 h2 _
  obtain ⟨A, c, rfl⟩ := ownsRow_form h1
  refine h A c w' ?_ (own_below hO hb h2)
  show OwnI _ _ _ _
  unfold OwnI
  simpa using h1
theorem wpList_app_row (s x : Operand) (hgd : o.guard = none) (ho : o.op = .call { callee := .builtin .append, args := #[s, x], argTypes := #[93, 93] }) (base : Nat) (w w1 : World) (v : Value) (k : Nat) (vs : List Value) (rows : Nat → List Int) (Au : Option Addr) (m cu : Nat)
    (hv : a.eval s = v) (hx : a.eval x = .slice (some ⟨w1.heap.size, 0, none⟩) 1 1) (hR : Hid (Rws base w v k vs rows)) (hm : (rows k).length = m) (hu : Hid (OwnI w.heap.size w1 (.slice Au m cu) (rows k))) (hW : Hid (Below w.heap.size w w1)) (hl : k ≤ 1000000) (hb : base ≤ w.heap.size)
    (h : ∀ A c vs' w', Hid (Rws base w' (.slice A (k + 1) c) (k + 1) vs' rows) → Hid (Below base w w') → wpList Try.prog ops Q rest (a.put o.dst (.slice A (k + 1) c)) w') :
    wpList Try.prog ops Q (o :: rest) a (w1.alloc (.cells #[.slice Au m cu] 34)) := by
  subst hm
  obtain ⟨i1, hi', hy0, hy1, hy2⟩ := info_parts infoInts
  have hO := hR.out.1
  have hO1 : (w1.alloc (.cells #[.slice Au (rows k).length cu] 34)).ownsRow base 34 1 v k vs := (hO.kept (only_below hW.out none) (own_ne v)).alloc _
  have hU : w1.ownsRow w.heap.size 3 1 (.slice Au (rows k).length cu) (rows k).length ((rows k).map (Value.int .i64)) := hu.out
  refine wpList_append_src hgd s x 93 ho base 34 i1 (.slice none 0 0) 1 24 Try.underlying93 hi' hy0 hy1 hy2 rfl (by decide) v k vs hv hO1 (some ⟨w1.heap.size, 0, none⟩) 1 1 [.slice Au (rows k).length cu] hx (src_one w1 _) (one_slices hU) (by unfold maxLen; omega) (by omega) (le_alloc hb hW.out) ?_
  intro v' w' h1 h2 h3
  obtain ⟨A, c, rfl⟩ := ownsRow_form h1
  have hb1 : Below w.heap.size w (w1.alloc (.cells #[.slice Au (rows k).length cu] 34)) := hW.out.alloc hW.out.size _
  exact h A c _ w' (hR.out.push hb1 hb (hU.alloc _) h2 h3 h1) ((hb1.mono hb).grown h2 (le_alloc hb hW.out) (fun j e => (hO.lt j e).1))
end
/-- A new own list of numbers. -/
def NewO (w : World) (xs : List Int) (e : Ending) (w' : World) : Prop := ∃ A c, e = .returned (.slice A xs.length c) ∧ OwnI w.heap.size w' (.slice A xs.length c) xs ∧ Below w.heap.size w w'
set_option maxHeartbeats 400000 in
theorem list39_c {B : Nat} (A : Option Addr) (xs : List Int) (c : Nat) (w : World) (hx : Ints B w A xs) (hl : xs.length ≤ 1000000) : Calls Try.prog 39 #[.slice A xs.length c] w (NewO w xs) := by
  obtain ⟨i0, hi, hz0, hz1, hz2⟩ := info_parts infoInt
  have hs := Lib.hid hx.isrc
  have ho : Hid (w.ownsRow w.heap.size 3 1 (.slice none 0 0) 0 []) := World.ownsRow_nil _ _ _ _
  have h63 : Hid (0 + xs.length ≤ maxLen) := by show _ ≤ _; unfold maxLen; omega
  have hby : Hid ((0 + xs.length) * 8 ≤ 140737488355328) := by show _ ≤ _; omega
  clear hx
  go_enter Try.func39, Try.ntmps39
  go_wp2_with (at_builtin; refine wpList_append_src rfl (.const (.slice none 0 0)) (.tmp 3) 34 rfl w.heap.size 3 i0 (.int .i64 0) 1 8 Try.underlying34 hi hz0 hz1 hz2 rfl (by decide) (.slice none 0 0) 0 [] rfl ho.out A xs.length c _ rfl hs.out (one_ints xs) h63.out hby.out (Nat.le_refl _) ?_; intro v' w1 hown hgrow _; rw [List.nil_append, Nat.zero_add] at hown; obtain ⟨Au, cu, rfl⟩ := ownsRow_form hown; have HO := Lib.hid hown; have HG := Lib.hid hgrow; clear hown hgrow)
  go_ret
  exact ⟨_, _, rfl, HO.out, (Below.refl w.heap.size w).grown HG.out (Nat.le_refl _) (fun k e => by cases e)⟩
theorem OwnI.keptBy {base g : Nat} {w w' : World} {u : Value} {xs : List Int} (h : OwnI base w u xs) (hg : w.grownBy w' (some g)) (hb : g < base) : OwnI base w' u xs := World.ownsRow.kept h hg (.inr fun e => by
  have := (World.ownsRow.lt h g e).1
  omega)
theorem two {W0 w1 : World} {g : Nat} {a b : Value} {t : TypeId} (h : W0.heap[g]? = some (.cells #[a, b] t)) (hb : Below W0.heap.size W0 w1) :
    w1.cell? ⟨g, 0, none⟩ = some a ∧ w1.cell? ⟨g, 1, none⟩ = some b ∧ ∀ o, w1.frozen? ⟨g, o, none⟩ = false := by
  have h1 := (hb.block g (Array.getElem?_eq_some_iff.1 h).1).trans h
  simp [World.cell?, World.frozen?, h1]
theorem isInts_parts {B : Nat} {w : World} {A : Option Addr} {n c : Nat} {xs : List Int} (h : IsInts B w (.slice A n c) xs) : xs.length ≤ c ∧ c ≤ 9223372036854775807 ∧ Ints B w A xs := by
  obtain ⟨A', c', e, h1, h2, h3⟩ := h
  injection e with e1 e2 e3
  subst e1 e3
  exact ⟨h1, h2, h3⟩
end

section

open Go.RowKit
set_option linter.unusedVariables false
set_option linter.unusedSimpArgs false

/-- The block that a slice with elements reads. -/
def blkOf : Value → Option Nat
  | .slice (some a) (_ + 1) _ => some a.block
  | _ => none
section
variable {α : Type}
/-- A reading of a slice: kept while its block is; the block is there. -/
structure RdK (Rd : World → Value → α → Prop) : Prop where
  frame : ∀ {w w' : World} {u : Value} {x : α}, Rd w u x → (∀ b, blkOf u = some b → w'.heap[b]? = w.heap[b]?) → Rd w' u x
  lt : ∀ {w : World} {u : Value} {x : α} {b : Nat}, Rd w u x → blkOf u = some b → b < w.heap.size
  sl : ∀ {w : World} {u : Value} {x : α}, Rd w u x → ∃ A n c, u = .slice A n c
/-- v is an own list of slices that read as xs, none of them in the list's own block, nor below lo. -/
def Rs (Rd : World → Value → α → Prop) (e : TypeId) (base lo : Nat) (w : World) (v : Value) (xs : List α) : Prop :=
  ∃ vs : List Value, w.ownsRow base e 1 v xs.length vs ∧ ∀ j (h : j < xs.length), ∃ u, vs[j]? = some u ∧ Rd w u xs[j] ∧ ∀ b, blkOf u = some b → lo ≤ b ∧ v.ownBlock ≠ some b
variable {Rd : World → Value → α → Prop} {e : TypeId} {base lo : Nat} {w w' w1 w2 : World} {v v' u : Value} {xs ys : List α}
theorem Rs.form (h : Rs Rd e base lo w v xs) : ∃ A c, v = .slice A xs.length c := by
  obtain ⟨vs, h, -⟩ := h
  exact ownsRow_form h
theorem Rs.nil : Rs Rd e base lo w (.slice none 0 0) [] := ⟨[], World.ownsRow_nil _ _ _ _, fun j h => by simp at h⟩
theorem Rs.kept (K : RdK Rd) (h : Rs Rd e base lo w v xs) (hb : Below w.heap.size w w') : Rs Rd e base lo w' v xs := by
  obtain ⟨vs, h1, h2⟩ := h
  refine ⟨vs, h1.kept (only_below hb none) (by cases v.ownBlock <;> simp), fun j hj => ?_⟩
  obtain ⟨u, a, b, c⟩ := h2 j hj
  exact ⟨u, a, K.frame b fun k hk => hb.block k (K.lt b hk), c⟩
/-- A block is set that is neither the list's own, nor one of its elements' blocks. -/
theorem Rs.keptBy (K : RdK Rd) {g : Nat} (h : Rs Rd e base lo w v xs) (hg : w.grownBy w' (some g)) (hb : g < base) (hl : g < lo) : Rs Rd e base lo w' v xs := by
  obtain ⟨vs, h1, h2⟩ := h
  refine ⟨vs, h1.kept hg (.inr fun e => by have := (h1.lt g e).1; omega), fun j hj => ?_⟩
  obtain ⟨u, a, b, c⟩ := h2 j hj
  exact ⟨u, a, K.frame b fun k hk => hg.block k (K.lt b hk) (fun e => by injection e with e; have := (c k hk).1; omega), c⟩
theorem Rs.low {lo' : Nat} (h : Rs Rd e base lo w v xs) (hl : lo' ≤ lo) : Rs Rd e base lo' w v xs := by
  obtain ⟨vs, h1, h2⟩ := h
  refine ⟨vs, h1, fun j hj => ?_⟩
  obtain ⟨u, a, b, c⟩ := h2 j hj
  exact ⟨u, a, b, fun k hk => ⟨Nat.le_trans hl (c k hk).1, (c k hk).2⟩⟩
theorem Rs.lowBase {base' : Nat} (h : Rs Rd e base lo w v xs) (hl : base' ≤ base) : Rs Rd e base' lo w v xs := by
  obtain ⟨vs, h1, h2⟩ := h
  exact ⟨vs, ownsRow_base h1 hl, h2⟩
/-- One element, in new memory. -/
theorem Rs.lit (hb : base ≤ w.heap.size) (K : RdK Rd) {x : α} (h : Rd w u x) (hl : ∀ b, blkOf u = some b → lo ≤ b) : Rs Rd e base lo (w.alloc (.cells #[u] e)) (.slice (some ⟨w.heap.size, 0, none⟩) 1 1) [x] := by
  refine ⟨[u], ?_, fun j hj => ?_⟩
  · have := World.ownsRow_lit (base := base) (e := e) (size := 1) w #[u] 1 hb (by unfold maxLen; omega) (by simp)
    simpa using this
  · have hj' : j < 1 := by simpa using hj
    obtain rfl : j = 0 := by omega
    refine ⟨u, rfl, K.frame h fun b hb2 => Below.heap_alloc w _ b (K.lt h hb2), fun b hb2 => ⟨hl b hb2, fun e1 => ?_⟩⟩
    have e2 : w.heap.size = b := by injection e1
    have := K.lt h hb2
    omega
/-- What an element reads as. -/
theorem Rs.at_ (h : Rs Rd e base lo w v xs) {k : Nat} (hk : k < xs.length) : ∃ g c u, v = .slice (some ⟨g, 0, none⟩) xs.length c ∧ xs.length ≤ c ∧ c ≤ 9223372036854775807 ∧ g < w.heap.size ∧ w.cell? ⟨g, k, none⟩ = some u ∧ Rd w u xs[k] := by
  obtain ⟨vs, h1, h2⟩ := h
  obtain ⟨u, a, b, -⟩ := h2 k hk
  have h3 := h1
  rcases h1.2 with ⟨rfl, h0⟩ | ⟨g, cap, cur, rfl, hb, hg, hn, hm, hs, ht⟩
  · omega
  · refine ⟨g, cap, u, rfl, hn, by unfold maxLen at hm; omega, (Array.getElem?_eq_some_iff.1 hg).1, ?_, b⟩
    have := h3.cells (g := g) rfl k u a
    rw [add_eq, Nat.zero_add] at this
    exact this
theorem Rs.parts {A : Option Addr} {n c : Nat} (h : Rs Rd e base lo w (.slice A n c) xs) : n = xs.length ∧ xs.length ≤ c ∧ c ≤ 9223372036854775807 := by
  obtain ⟨vs, h1, -⟩ := h
  rcases h1.2 with ⟨e, h0⟩ | ⟨g, cap, cur, e, hb, hg, hn, hm, hs, ht⟩
  · injection e with e1 e2 e3
    omega
  · injection e with e1 e2 e3
    unfold maxLen at hm
    omega
theorem Rs.oneCell (K : RdK Rd) {vs : List Value} (hl : vs.length = xs.length) (h2 : ∀ j (h : j < xs.length), ∃ u, vs[j]? = some u ∧ Rd w u xs[j] ∧ ∀ b, blkOf u = some b → lo ≤ b ∧ v.ownBlock ≠ some b) : ∀ u ∈ vs, u.oneCell' = true := by
  intro u hu
  obtain ⟨j, hj, rfl⟩ := List.getElem_of_mem hu
  obtain ⟨u', a, b, -⟩ := h2 j (by omega)
  rw [List.getElem?_eq_getElem hj] at a
  injection a with a
  obtain ⟨A, n, c, e⟩ := K.sl b
  rw [a, e]
  rfl
theorem Rs.src (h : Rs Rd e base lo w v xs) {A : Option Addr} {n c : Nat} (hv : v = .slice A n c) : ∃ vs : List Value, Src w 1 A n vs ∧ vs.length = xs.length ∧ n = xs.length ∧ ∀ j (h : j < xs.length), ∃ u, vs[j]? = some u ∧ Rd w u xs[j] ∧ ∀ b, blkOf u = some b → lo ≤ b ∧ v.ownBlock ≠ some b := by
  obtain ⟨vs, h1, h2⟩ := h
  have h3 := h1
  have hl := h1.1
  rcases h1.2 with ⟨e1, h0⟩ | ⟨g, cap, cur, e1, hb, hg, hn, hm, hs, ht⟩
  · rw [hv] at e1
    injection e1 with e1 e2 e3
    subst e1 e2 e3
    refine ⟨vs, ⟨by omega, fun _ => rfl, fun ad h => by cases h⟩, by omega, by omega, h2⟩
  · rw [hv] at e1
    injection e1 with e1 e2 e3
    subst e1 e2 e3
    refine ⟨vs, ⟨by omega, fun h => (by cases h), fun ad h j u hu => ?_⟩, by omega, rfl, h2⟩
    injection h with h
    subst h
    exact h3.cells (g := g) (by rw [hv]; rfl) j u hu
/-- The element type of such a list, in the program's table. -/
def STy (t e : TypeId) : Prop := Try.prog.underlying t = some (.slice e) ∧ ∃ i, Try.prog.info? e = some i ∧ i.zero = some (.slice none 0 0) ∧ i.size = 1 ∧ i.bytes = 24
/-- An append of all elements of another list. -/
theorem run_appRs (K : RdK Rd) {t : TypeId} (hT : STy t e) (ty : TypeId) {w0 : World} {base1 lo1 : Nat} {A : Option Addr} {n c : Nat} (h1 : Rs Rd e base lo w0 v xs) (hb : Below w0.heap.size w0 w) (hB : base ≤ w0.heap.size) (h2 : Rs Rd e base1 lo1 w (.slice A n c) ys) (hl1 : w0.heap.size ≤ lo1) (hlo : lo ≤ w0.heap.size)
    (hl : xs.length + ys.length ≤ 1000000) : ∃ A' c' w', (Builtin.append_ #[t, t] ty #[v, .slice A n c]).run Try.prog w = .ok (.slice A' (xs.length + ys.length) c') w' ∧ Rs Rd e base lo w' (.slice A' (xs.length + ys.length) c') (xs ++ ys) ∧ Below base w0 w' := by
  obtain ⟨hu, i, hi, hz, hz1, hz2⟩ := hT
  have h1k := h1.kept K hb
  obtain ⟨vs, o1, o2⟩ := h1
  obtain ⟨us, s1, s2, rfl, s4⟩ := h2.src rfl
  have o1k : w.ownsRow base e 1 v xs.length vs := o1.kept (only_below hb none) (by cases v.ownBlock <;> simp)
  have hsz := hb.size
  obtain ⟨v', w', hr, a1, a2, a3⟩ := run_append_src (P := Try.prog) (w := w) base t ty e i _ 1 24 hu hi hz hz1 hz2 rfl (by decide) v xs.length vs o1k A ys.length c us s1 (Rs.oneCell K s2 s4) (by unfold maxLen; omega) (by omega) (by omega)
  obtain ⟨A', c', rfl⟩ := ownsRow_form a1
  have hvl := o1.1
  refine ⟨A', c', w', hr, ⟨vs ++ us, by rw [List.length_append]; exact a1, fun j hj => ?_⟩, (hb.mono hB).grown a2 (by omega) (fun k e => (o1.lt k e).1)⟩
  by_cases hj1 : j < xs.length
  · obtain ⟨u, b1, b2, b3⟩ := o2 j hj1
    refine ⟨u, by rw [List.getElem?_append_left (by omega)]; exact b1, ?_, fun b hbk => ?_⟩
    · rw [List.getElem_append_left hj1]
      refine K.frame b2 fun k hk => ?_
      have hk1 := K.lt b2 hk
      rw [a2.block k (by omega) (fun e => (b3 k hk).2 e.symm)]
      exact hb.block k hk1
    · refine ⟨(b3 b hbk).1, fun e => ?_⟩
      rcases a3 with a3 | a3
      · rw [a3] at e; exact (b3 b hbk).2 e
      · rw [a3] at e
        injection e with e
        have := K.lt b2 hbk
        omega
  · obtain ⟨u, b1, b2, b3⟩ := s4 (j - xs.length) (by rw [List.length_append] at hj; omega)
    refine ⟨u, by rw [List.getElem?_append_right (by omega), show j - vs.length = j - xs.length by omega]; exact b1, ?_, fun b hbk => ?_⟩
    · rw [List.getElem_append_right (by omega)]
      refine K.frame b2 fun k hk => ?_
      refine a2.block k (K.lt b2 hk) fun e => ?_
      have := (o1.lt k e.symm).2
      have := (b3 k hk).1
      omega
    · have hk1 := (b3 b hbk).1
      refine ⟨by omega, fun e => ?_⟩
      rcases a3 with a3 | a3
      · rw [a3] at e
        have := (o1.lt b e).2
        omega
      · rw [a3] at e
        injection e with e
        have := K.lt b2 hbk
        omega
section
variable {ops : Array Oper} {rest : List Oper} {o : Oper} {a : Act} {KK : Act → World → Prop} {Q : Exit → Act → World → Prop} {E : Prop}
theorem wpList_appRs (K : RdK Rd) {t : TypeId} (hT : STy t e) (s y : Operand) (hgd : o.guard = none) (ho : o.op = .call { callee := .builtin .append, args := #[s, y], argTypes := #[t, t] }) {w0 : World} {base1 lo1 : Nat} {A : Option Addr} {n c : Nat} (hv : a.eval s = v) (hx : a.eval y = .slice A n c)
    (h1 : Hid (Rs Rd e base lo w0 v xs)) (hb : Hid (Below w0.heap.size w0 w)) (hB : base ≤ w0.heap.size) (h2 : Hid (Rs Rd e base1 lo1 w (.slice A n c) ys)) (hl1 : w0.heap.size ≤ lo1) (hlo : lo ≤ w0.heap.size) (hl : xs.length + ys.length ≤ 1000000)
    (h : ∀ A' c' w', Hid (Rs Rd e base lo w' (.slice A' (xs.length + ys.length) c') (xs ++ ys)) → Hid (Below base w0 w') → wpList Try.prog ops Q rest (a.put o.dst (.slice A' (xs.length + ys.length) c')) w') :
    wpList Try.prog ops Q (o :: rest) a w := by
  refine wpList_plain hgd fun K' hK => ?_
  obtain ⟨A', c', w', hr, k1, k2⟩ := run_appRs K hT o.type h1.out hb.out hB h2.out hl1 hlo hl
  unfold Oper.wp execOp
  simp only [ho, resolve, invoke, builtin, Sem.run_bind, Sem.run_pure, Result.andThen_ok, List.map_toArray, List.map_cons, List.map_nil, hv, hx, hr]
  exact hK _ _ (h _ _ _ k1 k2)
theorem step_appRs (K : RdK Rd) {t : TypeId} (hT : STy t e) (s y : Operand) (hgd : o.guard = none) (ho : o.op = .call { callee := .builtin .append, args := #[s, y], argTypes := #[t, t] }) {w0 : World} {base1 lo1 : Nat} {A : Option Addr} {n c : Nat} (hv : a.eval s = v) (hx : a.eval y = .slice A n c)
    (h1 : Hid (Rs Rd e base lo w0 v xs)) (hb : Hid (Below w0.heap.size w0 w)) (hB : base ≤ w0.heap.size) (h2 : Hid (Rs Rd e base1 lo1 w (.slice A n c) ys)) (hl1 : w0.heap.size ≤ lo1) (hlo : lo ≤ w0.heap.size) (hl : xs.length + ys.length ≤ 1000000)
    (hK : ∀ A' c' w', Hid (Rs Rd e base lo w' (.slice A' (xs.length + ys.length) c') (xs ++ ys)) → Hid (Below base w0 w') → KK (a.put o.dst (.slice A' (xs.length + ys.length) c')) w') :
    if Region.wanted o (yielded ops a.tmps) = true then Oper.wp Try.prog o a w KK Q else E := by
  rw [if_pos (by simp [Region.wanted, hgd])]
  obtain ⟨A', c', w', hr, k1, k2⟩ := run_appRs K hT o.type h1.out hb.out hB h2.out hl1 hlo hl
  unfold Oper.wp execOp
  simp only [ho, resolve, invoke, builtin, Sem.run_bind, Sem.run_pure, Result.andThen_ok, List.map_toArray, List.map_cons, List.map_nil, hv, hx, hr]
  exact hK _ _ _ k1 k2
end
end
/-- Readings as numbers. -/
def RdI (w : World) (u : Value) (xs : List Int) : Prop := IsInts w.heap.size w u xs
theorem cell_same {w w' : World} {b i : Nat} (h : w'.heap[b]? = w.heap[b]?) : w'.cell? ⟨b, i, none⟩ = w.cell? ⟨b, i, none⟩ := by
  simp only [World.cell?, h]
theorem heap_same_lt {w w' : World} {b : Nat} (h : w'.heap[b]? = w.heap[b]?) (hb : b < w.heap.size) : b < w'.heap.size := by
  rw [Array.getElem?_eq_getElem hb] at h
  exact (Array.getElem?_eq_some_iff.1 h).1
theorem rdI : RdK RdI where
  frame := by
    rintro w w' u xs ⟨A, c, rfl, h1, h2, h3⟩ hf
    refine ⟨A, c, rfl, h1, h2, fun hp => ?_⟩
    obtain ⟨b, off, rfl, hb, hc⟩ := h3 hp
    have hs : w'.heap[b]? = w.heap[b]? := hf b (by
      obtain ⟨n, hn⟩ : ∃ n, xs.length = n + 1 := ⟨xs.length - 1, by omega⟩
      rw [hn]; rfl)
    exact ⟨b, off, rfl, heap_same_lt hs hb, fun k hk => (cell_same hs).trans (hc k hk)⟩
  lt := by
    rintro w u xs b ⟨A, c, rfl, h1, h2, h3⟩ hb
    obtain ⟨n, hn⟩ | h0 : (∃ n, xs.length = n + 1) ∨ xs.length = 0 := by
      rcases xs.length with _ | n
      · exact .inr rfl
      · exact .inl ⟨n, rfl⟩
    · obtain ⟨b', off, rfl, hb', _⟩ := h3 (by omega)
      rw [hn] at hb
      have hb2 : b' = b := by injection hb
      omega
    · rw [h0] at hb
      cases A <;> cases hb
  sl := by
    rintro w u xs ⟨A, c, rfl, -⟩
    exact ⟨_, _, _, rfl⟩
/-- A new own list of numbers is read so. -/
theorem rdI_own {base : Nat} {w : World} {u : Value} {xs : List Int} (h : w.ownsRow base 3 1 u xs.length (xs.map (Value.int .i64))) : RdI w u xs ∧ ∀ b, blkOf u = some b → base ≤ b := by
  refine ⟨ownsRow_isInts h, fun b hb => ?_⟩
  rcases h.2 with ⟨rfl, h0⟩ | ⟨g, cap, cur, rfl, h1, _⟩
  · cases hb
  · rcases hx : xs.length with _ | n
    · rw [hx] at hb; cases hb
    · rw [hx] at hb
      injection hb with hb
      subst hb
      exact h1
theorem Rs.grd {e : TypeId} {base lo : Nat} {w : World} {A : Option Addr} {n c : Nat} {yss : List (List Int)} (h : Rs RdI e base lo w (.slice A n c) yss) : Grd w.heap.size w A yss := fun hp => by
  obtain ⟨g, c', u, e1, _, _, hg, _⟩ := h.at_ hp
  injection e1 with e1 e2 e3
  subst e1
  refine ⟨g, 0, rfl, hg, fun k hk => ?_⟩
  obtain ⟨g', c', u, e1, _, _, _, h1, h2⟩ := h.at_ hk
  injection e1 with e1 e2 e3
  injection e1 with e1
  injection e1 with e1
  subst e1
  exact ⟨u, by simpa using h1, by rw [rx_lt hk]; exact h2⟩
end

section

open Go.RowKit
set_option linter.unusedVariables false

/-- Elements of a slice of structs. -/
def W5 (w : World) (b p : Nat) (x : Gm) : Prop := w.cell? ⟨b, p, none⟩ = some (.int .i64 x.a) ∧ w.cell? ⟨b, p + 1, none⟩ = some (.int .i64 x.b) ∧ w.cell? ⟨b, p + 2, none⟩ = some (.int .i64 x.pa) ∧ w.cell? ⟨b, p + 3, none⟩ = some (.int .i64 x.pb) ∧ w.cell? ⟨b, p + 4, none⟩ = some (.bool x.op)
theorem W5.below {B : Nat} {w w' : World} {b p : Nat} {x : Gm} (h : W5 w b p x) (hb : Below B w w') (hlt : b < B) : W5 w' b p x := ⟨(hb.cell (p := ⟨b, p, none⟩) hlt).trans h.1, (hb.cell (p := ⟨b, p + 1, none⟩) hlt).trans h.2.1, (hb.cell (p := ⟨b, p + 2, none⟩) hlt).trans h.2.2.1, (hb.cell (p := ⟨b, p + 3, none⟩) hlt).trans h.2.2.2.1, (hb.cell (p := ⟨b, p + 4, none⟩) hlt).trans h.2.2.2.2⟩
def Gms (B : Nat) (w : World) (A : Option Addr) (ws : List Gm) : Prop :=
  0 < ws.length → ∃ b off, A = some ⟨b, off, none⟩ ∧ b < B ∧ ∀ k, k < ws.length → W5 w b (off + k * 5) (gmx ws k)
theorem Gms.at_ {B : Nat} {w : World} {A : Option Addr} {ws : List Gm} (h : Gms B w A ws) {k : Nat} (hk : k < ws.length) : ∃ b off, A = some ⟨b, off, none⟩ ∧ b < B ∧ W5 w b (off + k * 5) (gmx ws k) := by
  obtain ⟨b, off, hA, hb, hc⟩ := h (by omega)
  exact ⟨b, off, hA, hb, hc k hk⟩
theorem Gms.below {B : Nat} {w w' : World} {A : Option Addr} {ws : List Gm} (h : Gms B w A ws) (hb : Below B w w') : Gms B w' A ws := fun hp => by
  obtain ⟨b, off, hA, hlt, hc⟩ := h hp
  exact ⟨b, off, hA, hlt, fun k hk => (hc k hk).below hb hlt⟩
theorem Gms.more {B B' : Nat} {w : World} {A : Option Addr} {ws : List Gm} (h : Gms B w A ws) (hB : B ≤ B') : Gms B' w A ws := fun hp => by
  obtain ⟨b, off, hA, hlt, hc⟩ := h hp
  exact ⟨b, off, hA, by omega, hc⟩
theorem Gms.step {w w' : World} {A : Option Addr} {ws : List Gm} (h : Gms w.heap.size w A ws) (hb : Below w.heap.size w w') : Gms w'.heap.size w' A ws := (h.below hb).more hb.size
theorem Gms_nil (B : Nat) (w : World) : Gms B w none [] := fun h => by simp at h
/-- The value of one. -/
def gmV (x : Gm) : Value := .agg #[.int .i64 x.a, .int .i64 x.b, .int .i64 x.pa, .int .i64 x.pb, .bool x.op]
def Byts (B : Nat) (w : World) (A : Option Addr) (ws : List Int) : Prop :=
  0 < ws.length → ∃ b off, A = some ⟨b, off, none⟩ ∧ b < B ∧ ∀ k, k < ws.length → w.cell? ⟨b, off + k, none⟩ = some (.int .u8 (ix ws k)) ∧ 0 ≤ ix ws k ∧ ix ws k ≤ 255
theorem Byts.at_ {B : Nat} {w : World} {A : Option Addr} {ws : List Int} (h : Byts B w A ws) {k : Nat} (hk : k < ws.length) : ∃ b off, A = some ⟨b, off, none⟩ ∧ b < B ∧ w.cell? ⟨b, off + k, none⟩ = some (.int .u8 (ix ws k)) ∧ 0 ≤ ix ws k ∧ ix ws k ≤ 255 := by
  obtain ⟨b, off, hA, hb, hc⟩ := h (by omega)
  exact ⟨b, off, hA, hb, hc k hk⟩
theorem Byts.below {B : Nat} {w w' : World} {A : Option Addr} {ws : List Int} (h : Byts B w A ws) (hb : Below B w w') : Byts B w' A ws := fun hp => by
  obtain ⟨b, off, hA, hlt, hc⟩ := h hp
  exact ⟨b, off, hA, hlt, fun k hk => ⟨(hb.cell (p := ⟨b, off + k, none⟩) hlt).trans (hc k hk).1, (hc k hk).2⟩⟩
theorem Byts.more {B B' : Nat} {w : World} {A : Option Addr} {ws : List Int} (h : Byts B w A ws) (hB : B ≤ B') : Byts B' w A ws := fun hp => by
  obtain ⟨b, off, hA, hlt, hc⟩ := h hp
  exact ⟨b, off, hA, by omega, hc⟩
theorem Byts.step {w w' : World} {A : Option Addr} {ws : List Int} (h : Byts w.heap.size w A ws) (hb : Below w.heap.size w w') : Byts w'.heap.size w' A ws := (h.below hb).more hb.size
theorem Byts_nil (B : Nat) (w : World) : Byts B w none [] := fun h => by simp at h
def Wds (B : Nat) (w : World) (A : Option Addr) (ws : List Int) : Prop :=
  0 < ws.length → ∃ b off, A = some ⟨b, off, none⟩ ∧ b < B ∧ ∀ k, k < ws.length → w.cell? ⟨b, off + k, none⟩ = some (.int .u16 (ix ws k)) ∧ 0 ≤ ix ws k ∧ ix ws k ≤ 65535
theorem Wds.at_ {B : Nat} {w : World} {A : Option Addr} {ws : List Int} (h : Wds B w A ws) {k : Nat} (hk : k < ws.length) : ∃ b off, A = some ⟨b, off, none⟩ ∧ b < B ∧ w.cell? ⟨b, off + k, none⟩ = some (.int .u16 (ix ws k)) ∧ 0 ≤ ix ws k ∧ ix ws k ≤ 65535 := by
  obtain ⟨b, off, hA, hb, hc⟩ := h (by omega)
  exact ⟨b, off, hA, hb, hc k hk⟩
theorem Wds.below {B : Nat} {w w' : World} {A : Option Addr} {ws : List Int} (h : Wds B w A ws) (hb : Below B w w') : Wds B w' A ws := fun hp => by
  obtain ⟨b, off, hA, hlt, hc⟩ := h hp
  exact ⟨b, off, hA, hlt, fun k hk => ⟨(hb.cell (p := ⟨b, off + k, none⟩) hlt).trans (hc k hk).1, (hc k hk).2⟩⟩
theorem Wds.more {B B' : Nat} {w : World} {A : Option Addr} {ws : List Int} (h : Wds B w A ws) (hB : B ≤ B') : Wds B' w A ws := fun hp => by
  obtain ⟨b, off, hA, hlt, hc⟩ := h hp
  exact ⟨b, off, hA, by omega, hc⟩
theorem Wds.step {w w' : World} {A : Option Addr} {ws : List Int} (h : Wds w.heap.size w A ws) (hb : Below w.heap.size w w') : Wds w'.heap.size w' A ws := (h.below hb).more hb.size
theorem Wds_nil (B : Nat) (w : World) : Wds B w none [] := fun h => by simp at h
set_option maxHeartbeats 400000 in
theorem clGm (g bx : Nat) (fs cs : Array Value) (x : Gm) (W : World) (b : Bool) (he : Enters g)
    (hbx : W.cell? ⟨bx, 0, none⟩ = some (.func (.func g) fs cs)) (hc : Calls Try.prog g (fs.push (gmV x) ++ cs) (W.alloc (.cells #[.int .i64 x.a, .int .i64 x.b, .int .i64 x.pa, .int .i64 x.pb, .bool x.op] 85)) (Ans (W.alloc (.cells #[.int .i64 x.a, .int .i64 x.b, .int .i64 x.pa, .int .i64 x.pb, .bool x.op] 85)) (.bool b))) :
    Calls Try.prog 83 #[gmV x, .pointer (some ⟨bx, 0, none⟩)] W (Ans W (.bool (!b))) := by
  have H := Lib.hid hc
  clear hc
  unfold Enters at he
  obtain ⟨xa, xb, xpa, xpb, xop⟩ := x
  unfold gmV at H ⊢
  dsimp only at H ⊢
  have hbx2 := cell_alloc_keep (.cells #[.int .i64 xa, .int .i64 xb, .int .i64 xpa, .int .i64 xpb, .bool xop] 85) hbx
  have hb0 : Below W.heap.size W (W.alloc (.cells #[.int .i64 xa, .int .i64 xb, .int .i64 xpa, .int .i64 xpb, .bool xop] 85)) := (Below.refl _ _).alloc (Nat.le_refl _) _
  have hz0 := hb0.size
  go_enter Try.func83, Try.ntmps83
  go_wp2_with fail
  refine H.out.mono ?_
  rintro e w1 ⟨rfl, hb⟩
  go_wp2_with fail
  go_ret
  exact ⟨rfl, hb0.trans (hb.mono hz0)⟩
/-- The function g says p k of element k, in whatever world that has the old blocks. -/
def RightGm (B : Nat) (w : World) (n g : Nat) (fs cs : Array Value) (ws : List Gm) (p : Nat → Bool) : Prop :=
  ∀ k, k < n → ∀ W, Below B w W → Calls Try.prog g (fs.push (gmV (gmx ws k)) ++ cs) W (Ans W (.bool (p k)))
theorem RightGm.below {B : Nat} {w w' : World} {n g : Nat} {fs cs : Array Value} {ws : List Gm} {p : Nat → Bool} (h : RightGm B w n g fs cs ws p) (hb : Below B w w') : RightGm B w' n g fs cs ws p :=
  fun k hk W hW => h k hk W (hb.trans hW)

set_option maxHeartbeats 400000 in
theorem indexGm {B : Nat} (A : Option Addr) (c g bx : Nat) (fs cs : Array Value) (ws : List Gm) (p : Nat → Bool) (w : World) (he : Enters g) (hB : B ≤ w.heap.size) (hbx : bx < w.heap.size) (hn : ws.length ≤ 9223372036854775807)
    (hcell : w.cell? ⟨bx, 0, none⟩ = some (.func (.func g) fs cs)) (hel : Gms B w A ws) (hr : RightGm B w ws.length g fs cs ws p) :
    Calls Try.prog 107 #[.slice A ws.length c, .func (.func 83) #[] #[.pointer (some ⟨bx, 0, none⟩)]] w (Found w ws.length p) := by
  have HR := Lib.hid hr
  have HC := Lib.hid hcell
  have HE := Lib.hid he
  clear hr hcell he
  go_enter Try.func107, Try.ntmps107
  go_wp2_with fail
  go_loopw [8] (fun i wr => ∃ k : Nat, k ≤ ws.length ∧ i = .int .i64 k ∧ AllB k p ∧ Below w.heap.size w wr) (fun i _ => ws.length - (intOf i).toNat)
  case atStart => exact ⟨0, by omega, rfl, fun j hj => by omega, Below.refl _ _⟩
  case round =>
    obtain ⟨k, hk, rfl, hp, hb⟩ := hrel
    by_cases h1 : k < ws.length
    · skip
      obtain ⟨b, off, rfl, hb1, hc0⟩ := hel.at_ h1
      obtain ⟨c1, c2, c3, c4, c5⟩ := (hc0.below hb (by omega) : W5 wr b (off + k * 5) (gmx ws k))
      clear hc0
      have hz := hb.size
      have hcl := clGm g bx fs cs (gmx ws k) wr (p k) HE.out ((hb.cell (p := ⟨bx, 0, none⟩) hbx).trans HC.out) (HR.out k h1 _ ((hb.mono hB).alloc (by omega) _))
      unfold gmV at hcl
      have HCL := Lib.hid hcl
      clear hcl
      cases hpk : p k
      · have HP := Lib.hid hpk
        clear hpk
        go_wp2_with fail
        refine HCL.out.mono ?_
        rw [HP.out]
        rintro e w1 ⟨rfl, hb2⟩
        go_wp2_with fail
        go_ret
        exact found_at h1 HP.out (hb.trans (hb2.mono hz))
      · have HP := Lib.hid hpk
        clear hpk
        go_wp2_with fail
        refine HCL.out.mono ?_
        rw [HP.out]
        rintro e w1 ⟨rfl, hb2⟩
        go_wp2_with fail
        go_roundw
        case rel => exact ⟨k + 1, by omega, by go_num, hp.succ HP.out, hb.trans (hb2.mono hz)⟩
        case measure => simp [intOf]; omega
    · go_wp2_with fail
      go_ret
      exact found_none (by have : k = ws.length := by omega
                           rwa [this] at hp) hb
set_option maxHeartbeats 400000 in
theorem containsGm {B : Nat} (A : Option Addr) (c g bx : Nat) (fs cs : Array Value) (ws : List Gm) (p : Nat → Bool) (w : World) (he : Enters g) (hB : B ≤ w.heap.size) (hbx : bx < w.heap.size) (hn : ws.length ≤ 9223372036854775807)
    (hcell : w.cell? ⟨bx, 0, none⟩ = some (.func (.func g) fs cs)) (hel : Gms B w A ws) (hr : RightGm B w ws.length g fs cs ws p) :
    Calls Try.prog 82 #[.slice A ws.length c, .func (.func 83) #[] #[.pointer (some ⟨bx, 0, none⟩)]] w (Ans w (.bool (!allB ws.length p))) := by
  have H := Lib.hid (indexGm A c g bx fs cs ws p w he hB hbx hn hcell hel hr)
  clear hcell hr he
  go_enter Try.func82, Try.ntmps82
  go_wp2_with fail
  refine H.out.mono ?_
  rintro e w1 (⟨k, rfl, hk, hb⟩ | ⟨rfl, hk, hb⟩)
  · go_wp2_with fail
    go_ret
    exact ⟨ret_bool (by rw [hk]; simp), hb⟩
  · go_wp2_with fail
    go_ret
    exact ⟨ret_bool (by rw [hk]; rfl), hb⟩
set_option maxHeartbeats 400000 in
theorem allGm {B : Nat} (A : Option Addr) (c g : Nat) (fs cs : Array Value) (ws : List Gm) (p : Nat → Bool) (w : World) (he : Enters g) (hB : B ≤ w.heap.size) (hn : ws.length ≤ 9223372036854775807)
    (hel : Gms B w A ws) (hr : RightGm B w ws.length g fs cs ws p) :
    Calls Try.prog 51 #[.slice A ws.length c, .func (.func g) fs cs] w (Ans w (.bool (allB ws.length p))) := by
  have hw : Below B w (w.alloc (.cells #[.func (.func g) fs cs] 88)) := (Below.refl _ _).alloc hB _
  have H := Lib.hid (containsGm (B := B) A c g w.heap.size fs cs ws p (w.alloc (.cells #[.func (.func g) fs cs] 88)) he (by simp; omega) (by simp) hn (by simp) (hel.below hw) (hr.below hw))
  clear hr he
  go_enter Try.func51, Try.ntmps51
  go_wp2_with fail
  refine H.out.mono ?_
  rintro e w1 ⟨rfl, hb⟩
  go_wp2_with fail
  go_ret
  exact ⟨ret_bool (by simp), (((Below.refl w.heap.size w).alloc (Nat.le_refl _) _).trans (hb.mono (by simp)))⟩
set_option maxHeartbeats 400000 in
theorem clI (g bx : Nat) (fs cs : Array Value) (x : Int) (W : World) (b : Bool) (he : Enters g)
    (hbx : W.cell? ⟨bx, 0, none⟩ = some (.func (.func g) fs cs)) (hc : Calls Try.prog g (fs.push (.int .i64 x) ++ cs) W (Ans W (.bool b))) :
    Calls Try.prog 103 #[.int .i64 x, .pointer (some ⟨bx, 0, none⟩)] W (Ans W (.bool (!b))) := by
  have H := Lib.hid hc
  clear hc
  unfold Enters at he
  go_enter Try.func103, Try.ntmps103
  go_wp2_with fail
  refine H.out.mono ?_
  rintro e w1 ⟨rfl, hb⟩
  go_wp2_with fail
  go_ret
  exact ⟨rfl, hb⟩
/-- The function g says p k of element k, in whatever world that has the old blocks. -/
def RightI (B : Nat) (w : World) (n g : Nat) (fs cs : Array Value) (ws : List Int) (p : Nat → Bool) : Prop :=
  ∀ k, k < n → ∀ W, Below B w W → Calls Try.prog g (fs.push (.int .i64 (ix ws k)) ++ cs) W (Ans W (.bool (p k)))
theorem RightI.below {B : Nat} {w w' : World} {n g : Nat} {fs cs : Array Value} {ws : List Int} {p : Nat → Bool} (h : RightI B w n g fs cs ws p) (hb : Below B w w') : RightI B w' n g fs cs ws p :=
  fun k hk W hW => h k hk W (hb.trans hW)

set_option maxHeartbeats 400000 in
theorem indexI {B : Nat} (A : Option Addr) (c g bx : Nat) (fs cs : Array Value) (ws : List Int) (p : Nat → Bool) (w : World) (he : Enters g) (hB : B ≤ w.heap.size) (hbx : bx < w.heap.size) (hn : ws.length ≤ 9223372036854775807)
    (hcell : w.cell? ⟨bx, 0, none⟩ = some (.func (.func g) fs cs)) (hel : Ints B w A ws) (hr : RightI B w ws.length g fs cs ws p) :
    Calls Try.prog 110 #[.slice A ws.length c, .func (.func 103) #[] #[.pointer (some ⟨bx, 0, none⟩)]] w (Found w ws.length p) := by
  have HR := Lib.hid hr
  have HC := Lib.hid hcell
  have HE := Lib.hid he
  clear hr hcell he
  go_enter Try.func110, Try.ntmps110
  go_wp2_with fail
  go_loopw [8] (fun i wr => ∃ k : Nat, k ≤ ws.length ∧ i = .int .i64 k ∧ AllB k p ∧ Below w.heap.size w wr) (fun i _ => ws.length - (intOf i).toNat)
  case atStart => exact ⟨0, by omega, rfl, fun j hj => by omega, Below.refl _ _⟩
  case round =>
    obtain ⟨k, hk, rfl, hp, hb⟩ := hrel
    by_cases h1 : k < ws.length
    · skip
      obtain ⟨b, off, rfl, hb1, c1⟩ := (hel.below (hb.mono hB)).at_ h1
      have hz := hb.size
      have hcl := clI g bx fs cs (ix ws k) wr (p k) HE.out ((hb.cell (p := ⟨bx, 0, none⟩) hbx).trans HC.out) (HR.out k h1 _ (hb.mono hB))
      have HCL := Lib.hid hcl
      clear hcl
      cases hpk : p k
      · have HP := Lib.hid hpk
        clear hpk
        go_wp2_with fail
        refine HCL.out.mono ?_
        rw [HP.out]
        rintro e w1 ⟨rfl, hb2⟩
        go_wp2_with fail
        go_ret
        exact found_at h1 HP.out (hb.trans (hb2.mono hz))
      · have HP := Lib.hid hpk
        clear hpk
        go_wp2_with fail
        refine HCL.out.mono ?_
        rw [HP.out]
        rintro e w1 ⟨rfl, hb2⟩
        go_wp2_with fail
        go_roundw
        case rel => exact ⟨k + 1, by omega, by go_num, hp.succ HP.out, hb.trans (hb2.mono hz)⟩
        case measure => simp [intOf]; omega
    · go_wp2_with fail
      go_ret
      exact found_none (by have : k = ws.length := by omega
                           rwa [this] at hp) hb
set_option maxHeartbeats 400000 in
theorem containsI {B : Nat} (A : Option Addr) (c g bx : Nat) (fs cs : Array Value) (ws : List Int) (p : Nat → Bool) (w : World) (he : Enters g) (hB : B ≤ w.heap.size) (hbx : bx < w.heap.size) (hn : ws.length ≤ 9223372036854775807)
    (hcell : w.cell? ⟨bx, 0, none⟩ = some (.func (.func g) fs cs)) (hel : Ints B w A ws) (hr : RightI B w ws.length g fs cs ws p) :
    Calls Try.prog 102 #[.slice A ws.length c, .func (.func 103) #[] #[.pointer (some ⟨bx, 0, none⟩)]] w (Ans w (.bool (!allB ws.length p))) := by
  have H := Lib.hid (indexI A c g bx fs cs ws p w he hB hbx hn hcell hel hr)
  clear hcell hr he
  go_enter Try.func102, Try.ntmps102
  go_wp2_with fail
  refine H.out.mono ?_
  rintro e w1 (⟨k, rfl, hk, hb⟩ | ⟨rfl, hk, hb⟩)
  · go_wp2_with fail
    go_ret
    exact ⟨ret_bool (by rw [hk]; simp), hb⟩
  · go_wp2_with fail
    go_ret
    exact ⟨ret_bool (by rw [hk]; rfl), hb⟩
set_option maxHeartbeats 400000 in
theorem allI {B : Nat} (A : Option Addr) (c g : Nat) (fs cs : Array Value) (ws : List Int) (p : Nat → Bool) (w : World) (he : Enters g) (hB : B ≤ w.heap.size) (hn : ws.length ≤ 9223372036854775807)
    (hel : Ints B w A ws) (hr : RightI B w ws.length g fs cs ws p) :
    Calls Try.prog 73 #[.slice A ws.length c, .func (.func g) fs cs] w (Ans w (.bool (allB ws.length p))) := by
  have hw : Below B w (w.alloc (.cells #[.func (.func g) fs cs] 86)) := (Below.refl _ _).alloc hB _
  have H := Lib.hid (containsI (B := B) A c g w.heap.size fs cs ws p (w.alloc (.cells #[.func (.func g) fs cs] 86)) he (by simp; omega) (by simp) hn (by simp) (hel.below hw) (hr.below hw))
  clear hr he
  go_enter Try.func73, Try.ntmps73
  go_wp2_with fail
  refine H.out.mono ?_
  rintro e w1 ⟨rfl, hb⟩
  go_wp2_with fail
  go_ret
  exact ⟨ret_bool (by simp), (((Below.refl w.heap.size w).alloc (Nat.le_refl _) _).trans (hb.mono (by simp)))⟩
set_option maxHeartbeats 400000 in
theorem clU (g bx : Nat) (fs cs : Array Value) (x : Int) (W : World) (b : Bool) (he : Enters g)
    (hbx : W.cell? ⟨bx, 0, none⟩ = some (.func (.func g) fs cs)) (hc : Calls Try.prog g (fs.push (.int .u8 x) ++ cs) W (Ans W (.bool b))) :
    Calls Try.prog 85 #[.int .u8 x, .pointer (some ⟨bx, 0, none⟩)] W (Ans W (.bool (!b))) := by
  have H := Lib.hid hc
  clear hc
  unfold Enters at he
  go_enter Try.func85, Try.ntmps85
  go_wp2_with fail
  refine H.out.mono ?_
  rintro e w1 ⟨rfl, hb⟩
  go_wp2_with fail
  go_ret
  exact ⟨rfl, hb⟩
/-- The function g says p k of element k, in whatever world that has the old blocks. -/
def RightU (B : Nat) (w : World) (n g : Nat) (fs cs : Array Value) (ws : List Int) (p : Nat → Bool) : Prop :=
  ∀ k, k < n → ∀ W, Below B w W → Calls Try.prog g (fs.push (.int .u8 (ix ws k)) ++ cs) W (Ans W (.bool (p k)))
theorem RightU.below {B : Nat} {w w' : World} {n g : Nat} {fs cs : Array Value} {ws : List Int} {p : Nat → Bool} (h : RightU B w n g fs cs ws p) (hb : Below B w w') : RightU B w' n g fs cs ws p :=
  fun k hk W hW => h k hk W (hb.trans hW)

set_option maxHeartbeats 400000 in
theorem indexU {B : Nat} (A : Option Addr) (c g bx : Nat) (fs cs : Array Value) (ws : List Int) (p : Nat → Bool) (w : World) (he : Enters g) (hB : B ≤ w.heap.size) (hbx : bx < w.heap.size) (hn : ws.length ≤ 9223372036854775807)
    (hcell : w.cell? ⟨bx, 0, none⟩ = some (.func (.func g) fs cs)) (hel : Byts B w A ws) (hr : RightU B w ws.length g fs cs ws p) :
    Calls Try.prog 108 #[.slice A ws.length c, .func (.func 85) #[] #[.pointer (some ⟨bx, 0, none⟩)]] w (Found w ws.length p) := by
  have HR := Lib.hid hr
  have HC := Lib.hid hcell
  have HE := Lib.hid he
  clear hr hcell he
  go_enter Try.func108, Try.ntmps108
  go_wp2_with fail
  go_loopw [8] (fun i wr => ∃ k : Nat, k ≤ ws.length ∧ i = .int .i64 k ∧ AllB k p ∧ Below w.heap.size w wr) (fun i _ => ws.length - (intOf i).toNat)
  case atStart => exact ⟨0, by omega, rfl, fun j hj => by omega, Below.refl _ _⟩
  case round =>
    obtain ⟨k, hk, rfl, hp, hb⟩ := hrel
    by_cases h1 : k < ws.length
    · skip
      obtain ⟨b, off, rfl, hb1, c1, -⟩ := (hel.below (hb.mono hB)).at_ h1
      have hz := hb.size
      have hcl := clU g bx fs cs (ix ws k) wr (p k) HE.out ((hb.cell (p := ⟨bx, 0, none⟩) hbx).trans HC.out) (HR.out k h1 _ (hb.mono hB))
      have HCL := Lib.hid hcl
      clear hcl
      cases hpk : p k
      · have HP := Lib.hid hpk
        clear hpk
        go_wp2_with fail
        refine HCL.out.mono ?_
        rw [HP.out]
        rintro e w1 ⟨rfl, hb2⟩
        go_wp2_with fail
        go_ret
        exact found_at h1 HP.out (hb.trans (hb2.mono hz))
      · have HP := Lib.hid hpk
        clear hpk
        go_wp2_with fail
        refine HCL.out.mono ?_
        rw [HP.out]
        rintro e w1 ⟨rfl, hb2⟩
        go_wp2_with fail
        go_roundw
        case rel => exact ⟨k + 1, by omega, by go_num, hp.succ HP.out, hb.trans (hb2.mono hz)⟩
        case measure => simp [intOf]; omega
    · go_wp2_with fail
      go_ret
      exact found_none (by have : k = ws.length := by omega
                           rwa [this] at hp) hb
set_option maxHeartbeats 400000 in
theorem containsU {B : Nat} (A : Option Addr) (c g bx : Nat) (fs cs : Array Value) (ws : List Int) (p : Nat → Bool) (w : World) (he : Enters g) (hB : B ≤ w.heap.size) (hbx : bx < w.heap.size) (hn : ws.length ≤ 9223372036854775807)
    (hcell : w.cell? ⟨bx, 0, none⟩ = some (.func (.func g) fs cs)) (hel : Byts B w A ws) (hr : RightU B w ws.length g fs cs ws p) :
    Calls Try.prog 84 #[.slice A ws.length c, .func (.func 85) #[] #[.pointer (some ⟨bx, 0, none⟩)]] w (Ans w (.bool (!allB ws.length p))) := by
  have H := Lib.hid (indexU A c g bx fs cs ws p w he hB hbx hn hcell hel hr)
  clear hcell hr he
  go_enter Try.func84, Try.ntmps84
  go_wp2_with fail
  refine H.out.mono ?_
  rintro e w1 (⟨k, rfl, hk, hb⟩ | ⟨rfl, hk, hb⟩)
  · go_wp2_with fail
    go_ret
    exact ⟨ret_bool (by rw [hk]; simp), hb⟩
  · go_wp2_with fail
    go_ret
    exact ⟨ret_bool (by rw [hk]; rfl), hb⟩
set_option maxHeartbeats 400000 in
theorem allU {B : Nat} (A : Option Addr) (c g : Nat) (fs cs : Array Value) (ws : List Int) (p : Nat → Bool) (w : World) (he : Enters g) (hB : B ≤ w.heap.size) (hn : ws.length ≤ 9223372036854775807)
    (hel : Byts B w A ws) (hr : RightU B w ws.length g fs cs ws p) :
    Calls Try.prog 53 #[.slice A ws.length c, .func (.func g) fs cs] w (Ans w (.bool (allB ws.length p))) := by
  have hw : Below B w (w.alloc (.cells #[.func (.func g) fs cs] 90)) := (Below.refl _ _).alloc hB _
  have H := Lib.hid (containsU (B := B) A c g w.heap.size fs cs ws p (w.alloc (.cells #[.func (.func g) fs cs] 90)) he (by simp; omega) (by simp) hn (by simp) (hel.below hw) (hr.below hw))
  clear hr he
  go_enter Try.func53, Try.ntmps53
  go_wp2_with fail
  refine H.out.mono ?_
  rintro e w1 ⟨rfl, hb⟩
  go_wp2_with fail
  go_ret
  exact ⟨ret_bool (by simp), (((Below.refl w.heap.size w).alloc (Nat.le_refl _) _).trans (hb.mono (by simp)))⟩
end

section

open Go.RowKit
set_option linter.unusedSimpArgs false
set_option linter.unusedVariables false

def cellsM (x : Gm) : List Value := [.int .i64 x.a, .int .i64 x.b, .int .i64 x.pa, .int .i64 x.pb, .bool x.op]
def flatM (ls : List Gm) : List Value := ls.flatMap cellsM
theorem flatM_len (ls : List Gm) : (flatM ls).length = ls.length * 5 := by
  induction ls with
  | nil => rfl
  | cons x xs ih => simp only [flatM, cellsM, List.flatMap_cons, List.length_append, List.length_cons, List.length_nil] at *; omega
theorem flatM_append (ws vs : List Gm) : flatM (ws ++ vs) = flatM ws ++ flatM vs := by simp [flatM]
theorem flatM_at : ∀ (ls : List Gm) (k : Nat), k < ls.length → (flatM ls)[k * 5]? = some (.int .i64 (gmx ls k).a) ∧ (flatM ls)[k * 5 + 1]? = some (.int .i64 (gmx ls k).b) ∧ (flatM ls)[k * 5 + 2]? = some (.int .i64 (gmx ls k).pa) ∧ (flatM ls)[k * 5 + 3]? = some (.int .i64 (gmx ls k).pb) ∧ (flatM ls)[k * 5 + 4]? = some (.bool (gmx ls k).op)
  | x :: xs, 0, _ => by simp [flatM, cellsM, gmx]
  | x :: xs, k + 1, h => by
    have := flatM_at xs k (by simpa using h)
    simp only [flatM, cellsM, List.flatMap_cons, gmx, List.getD_cons_succ] at *
    rw [show (k + 1) * 5 = k * 5 + 5 by omega]
    simpa using this
theorem one_flatM (ls : List Gm) : ∀ v ∈ flatM ls, v.oneCell' = true := by
  intro v hv
  simp only [flatM, cellsM, List.mem_flatMap] at hv
  obtain ⟨p, _, hv⟩ := hv
  simp at hv
  rcases hv with rfl | rfl | rfl | rfl | rfl <;> rfl
def OwnM (e : TypeId) (base : Nat) (w : World) (u : Value) (ls : List Gm) : Prop := w.ownsRow base e 5 u ls.length (flatM ls)
theorem OwnM.form {e : TypeId} {base : Nat} {w : World} {u : Value} {ls : List Gm} (h : OwnM e base w u ls) : ∃ A c, u = .slice A ls.length c := ownsRow_form h
theorem OwnM.nil (e : TypeId) (base : Nat) (w : World) : OwnM e base w (.slice none 0 0) [] := World.ownsRow_nil _ _ _ _
theorem OwnM.kept {e : TypeId} {base : Nat} {w w' : World} {u : Value} {ls : List Gm} (h : OwnM e base w u ls) (hb : Below w.heap.size w w') : OwnM e base w' u ls := World.ownsRow.kept h (only_below hb none) (by cases u.ownBlock <;> simp)
theorem OwnM.keptBy {e : TypeId} {base g : Nat} {w w' : World} {u : Value} {ls : List Gm} (h : OwnM e base w u ls) (hg : w.grownBy w' (some g)) (hb : g < base) : OwnM e base w' u ls := World.ownsRow.kept h hg (.inr fun e => by
  have := (World.ownsRow.lt h g e).1
  omega)
theorem OwnM.parts {e : TypeId} {base : Nat} {w : World} {A : Option Addr} {n c : Nat} {ls : List Gm} (h : OwnM e base w (.slice A n c) ls) : ls.length ≤ c ∧ c ≤ 9223372036854775807 ∧ Gms w.heap.size w A ls := by
  rcases h.2 with ⟨e, h0⟩ | ⟨g, cap, cur, e, hb, hg, hn, hm, hs, ht⟩
  · injection e with e1 e2 e3
    subst e1 e3
    exact ⟨by omega, by omega, fun hp => by omega⟩
  · injection e with e1 e2 e3
    subst e1 e3
    refine ⟨hn, by unfold maxLen at hm; omega, fun hp => ⟨g, 0, rfl, (Array.getElem?_eq_some_iff.1 hg).1, fun k hk => ?_⟩⟩
    obtain ⟨a0, a1, a2, a3, a4⟩ := flatM_at ls k hk
    have b0 := h.cells (g := g) rfl _ _ a0
    have b1 := h.cells (g := g) rfl _ _ a1
    have b2 := h.cells (g := g) rfl _ _ a2
    have b3 := h.cells (g := g) rfl _ _ a3
    have b4 := h.cells (g := g) rfl _ _ a4
    rw [add_eq] at b0 b1 b2 b3 b4
    exact ⟨b0, by rw [Nat.add_assoc]; exact b1, by rw [Nat.add_assoc]; exact b2, by rw [Nat.add_assoc]; exact b3, by rw [Nat.add_assoc]; exact b4⟩
theorem infoM85 : (Try.prog.info? 85).map (fun i => (i.zero, i.size, i.bytes)) = some (some (.agg #[.int .i64 0, .int .i64 0, .int .i64 0, .int .i64 0, .bool false]), 5, 40) := by kernel_rfl
theorem infoM70 : (Try.prog.info? 70).map (fun i => (i.zero, i.size, i.bytes)) = some (some (.agg #[.int .i64 0, .int .i64 0, .int .i64 0, .int .i64 0, .bool false]), 5, 40) := by kernel_rfl
def MTy (t e : TypeId) : Prop := (t = 30 ∧ e = 85) ∨ (t = 22 ∧ e = 70)
theorem tyM {t e : TypeId} (h : MTy t e) : Try.prog.underlying t = some (.slice e) ∧ ∃ i, Try.prog.info? e = some i ∧ i.zero = some (.agg #[.int .i64 0, .int .i64 0, .int .i64 0, .int .i64 0, .bool false]) ∧ i.size = 5 ∧ i.bytes = 40 := by
  rcases h with ⟨rfl, rfl⟩ | ⟨rfl, rfl⟩
  · obtain ⟨i, a, b, c, d⟩ := info_parts infoM85
    exact ⟨by kernel_rfl, i, a, b, c, d⟩
  · obtain ⟨i, a, b, c, d⟩ := info_parts infoM70
    exact ⟨by kernel_rfl, i, a, b, c, d⟩
theorem srcM (w : World) (x : Gm) (e : TypeId) : Src (w.alloc (.cells #[.int .i64 x.a, .int .i64 x.b, .int .i64 x.pa, .int .i64 x.pb, .bool x.op] e)) 5 (some ⟨w.heap.size, 0, none⟩) 1 (flatM [x]) := by
  refine ⟨rfl, (fun h => by cases h), fun ad hA j u hu => ?_⟩
  injection hA with hA
  subst hA
  rw [add_eq]
  rcases j with _ | _ | _ | _ | _ | j <;> simp [flatM, cellsM] at hu
  all_goals
    subst hu
    simp
section
variable {t e : TypeId} {ops : Array Oper} {rest : List Oper} {o : Oper} {a : Act} {K : Act → World → Prop} {Q : Exit → Act → World → Prop} {E : Prop}
theorem run_appM (hT : MTy t e) (ty : TypeId) (base : Nat) (w : World) (u : Value) (ls : List Gm) (x : Gm) (hown : OwnM e base w u ls) (hl : ls.length ≤ 1000000) (hb : base ≤ w.heap.size) :
    ∃ A c w', (Builtin.append_ #[t, t] ty #[u, .slice (some ⟨w.heap.size, 0, none⟩) 1 1]).run Try.prog (w.alloc (.cells #[.int .i64 x.a, .int .i64 x.b, .int .i64 x.pa, .int .i64 x.pb, .bool x.op] e)) = .ok (.slice A (ls.length + 1) c) w' ∧ OwnM e base w' (.slice A (ls.length + 1) c) (ls ++ [x]) ∧ Below base w w' := by
  obtain ⟨hu, i, hi, hz, hz1, hz2⟩ := tyM hT
  have hO : w.ownsRow base e 5 u ls.length (flatM ls) := hown
  obtain ⟨u', w', hr, h1, h2, h3⟩ := run_append_src (P := Try.prog) (w := w.alloc (.cells #[.int .i64 x.a, .int .i64 x.b, .int .i64 x.pa, .int .i64 x.pb, .bool x.op] e)) base t ty e i _ 5 40 hu hi hz hz1 hz2 rfl (by decide) u ls.length (flatM ls) (hO.alloc _) (some ⟨w.heap.size, 0, none⟩) 1 1 (flatM [x]) (srcM w x e) (one_flatM [x]) (by unfold maxLen; omega) (by omega) (by simp; omega)
  obtain ⟨A, c, rfl⟩ := ownsRow_form h1
  refine ⟨A, c, w', hr, ?_, ((Below.refl base w).alloc hb _).grown h2 (by simp; omega) (fun k e => (hO.lt k e).1)⟩
  unfold OwnM
  rw [flatM_append, List.length_append]
  exact h1
theorem step_appM (hT : MTy t e) (s y : Operand) (hgd : o.guard = none) (ho : o.op = .call { callee := .builtin .append, args := #[s, y], argTypes := #[t, t] }) (base : Nat) (w : World) (u : Value) (ls : List Gm) (x : Gm)
    (hv : a.eval s = u) (hx : a.eval y = .slice (some ⟨w.heap.size, 0, none⟩) 1 1) (hown : Hid (OwnM e base w u ls)) (hl : ls.length ≤ 1000000) (hb : base ≤ w.heap.size)
    (hK : ∀ A c w', Hid (OwnM e base w' (.slice A (ls.length + 1) c) (ls ++ [x])) → Hid (Below base w w') → K (a.put o.dst (.slice A (ls.length + 1) c)) w') :
    if Region.wanted o (yielded ops a.tmps) = true then Oper.wp Try.prog o a (w.alloc (.cells #[.int .i64 x.a, .int .i64 x.b, .int .i64 x.pa, .int .i64 x.pb, .bool x.op] e)) K Q else E := by
  rw [if_pos (by simp [Region.wanted, hgd])]
  obtain ⟨A, c, w', hr, h1, h2⟩ := run_appM hT o.type base w u ls x hown.out hl hb
  unfold Oper.wp execOp
  simp only [ho, resolve, invoke, builtin, Sem.run_bind, Sem.run_pure, Result.andThen_ok, List.map_toArray, List.map_cons, List.map_nil, hv, hx, hr]
  exact hK _ _ _ h1 h2
theorem wpList_appM (hT : MTy t e) (s y : Operand) (hgd : o.guard = none) (ho : o.op = .call { callee := .builtin .append, args := #[s, y], argTypes := #[t, t] }) (base : Nat) (w : World) (u : Value) (ls : List Gm) (x : Gm)
    (hv : a.eval s = u) (hx : a.eval y = .slice (some ⟨w.heap.size, 0, none⟩) 1 1) (hown : Hid (OwnM e base w u ls)) (hl : ls.length ≤ 1000000) (hb : base ≤ w.heap.size)
    (h : ∀ A c w', Hid (OwnM e base w' (.slice A (ls.length + 1) c) (ls ++ [x])) → Hid (Below base w w') → wpList Try.prog ops Q rest (a.put o.dst (.slice A (ls.length + 1) c)) w') :
    wpList Try.prog ops Q (o :: rest) a (w.alloc (.cells #[.int .i64 x.a, .int .i64 x.b, .int .i64 x.pa, .int .i64 x.pb, .bool x.op] e)) := by
  refine wpList_plain hgd fun K hK => ?_
  obtain ⟨A, c, w', hr, h1, h2⟩ := run_appM hT o.type base w u ls x hown.out hl hb
  unfold Oper.wp execOp
  simp only [ho, resolve, invoke, builtin, Sem.run_bind, Sem.run_pure, Result.andThen_ok, List.map_toArray, List.map_cons, List.map_nil, hv, hx, hr]
  exact hK _ _ (h _ _ _ h1 h2)
end
end
end Go.Proofs.Ytjokbffdepcpkaa
