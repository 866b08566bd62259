/-
  The rounds of a league, and lanes for their matches: what the search finds. Plain facts; no program. Matches in memory; own lists of matches, and rows of them. Halls, count, the least of some numbers; the rounds in which each team meets each other one. How uneven the uses of lanes are; how often a team has a lane at most. The state of the search for lanes: matches in rows, uses, lanes that are taken. give: lanes for the matches from one on. give: lanes for one match, and on. Lanes for all matches; an evenest schedule. Build: an evenest schedule.
-/
import Derived.Test.YtjokbffdepcpkaaPB
import Derived.Test.YtjokbffdepcpkaaPA
import Derived.Test.YtjokbffdepcpkaaPC
import Derived.Deep.QuietTactic
import Derived.BigQuiet
import Derived.WalkMore
namespace Go.Proofs.Ytjokbffdepcpkaa
section

set_option linter.unusedVariables false
set_option linter.unusedSimpArgs false

/-- A match: two teams, a lane. -/
structure Mt where
  a : Int
  b : Int
  l : Int
def mtx (ls : List Mt) (k : Nat) : Mt := ls.getD k ⟨0, 0, 0⟩
def rowx (s : List (List Mt)) (k : Nat) : List Mt := s.getD k []
theorem mtx_lt {ls : List Mt} {k : Nat} (h : k < ls.length) : mtx ls k = ls[k] := by simp [mtx, h]
theorem rowx_lt {s : List (List Mt)} {k : Nat} (h : k < s.length) : rowx s k = s[k] := by simp [rowx, h]
/-- Match i of round r, if there is one. -/
def matN (n r i : Nat) : Option (Nat × Nat) :=
  let even := n + n % 2
  let a := (r + i) % (even - 1)
  let b := if i = 0 then even - 1 else (r + (even - 1) - i) % (even - 1)
  if a < n ∧ b < n then some (min a b, max a b) else none
def roundN (n r : Nat) : List (Nat × Nat) := (List.range ((n + n % 2) / 2)).filterMap (matN n r)
def roundsN (n : Nat) : List (List (Nat × Nat)) := (List.range (n - 1 + n % 2)).map (roundN n)
def lenr (L : List (List (Nat × Nat))) (r : Nat) : Nat := (L.getD r []).length
def prs (L : List (List (Nat × Nat))) (r i : Nat) : Nat × Nat := (L.getD r []).getD i (0, 0)
/-- How often a team had each lane: D (3 t + l). -/
def rowD (D : Nat → Int) (t h : Nat) : List Int := (List.range h).map fun l => D (t * 3 + l)
def minK (l : List Int) : Nat → Int
  | 0 => ix l 0
  | k + 1 => min (minK l k) (ix l k)
def unevK (D : Nat → Int) (h : Nat) : Nat → Int
  | 0 => 0
  | t + 1 => max (unevK D h t) (maxK (rowD D t h) h - minK (rowD D t h) h)
def unevD (D : Nat → Int) (n : Nat) : Int := unevK D (n / 2) n
def badD (D : Nat → Int) (n h : Nat) (un : Int) (t l : Nat) : Bool := decide (((n : Int) - 1 - D (t * 3 + l)).tdiv (max 1 ((h : Int) - 1)) < D (t * 3 + l) - un) && decide (1 < h)
def mostD (D : Nat → Int) (n : Nat) (un : Int) : Bool := (List.range n).all fun t => (List.range (n / 2)).all fun l => !badD D n (n / 2) un t l
def incD (D : Nat → Int) (p : Nat) (x : Int) : Nat → Int := updI' D p (D p + x)
def upd2 (ln : Nat → Nat → Int) (r i : Nat) (v : Int) : Nat → Nat → Int := fun r' i' => if r' = r ∧ i' = i then v else ln r' i'
/-- All lanes from one on (m of them) for a match. -/
def loopG (rec : (Nat → Bool) → (Nat → Int) → (Nat → Nat → Int) → Bool × (Nat → Nat → Int)) (r i : Nat) (p : Nat × Nat) (tk : Nat → Bool) (D : Nat → Int) : Nat → Nat → (Nat → Nat → Int) → Bool × (Nat → Nat → Int)
  | 0, _, ln => (false, ln)
  | m + 1, lane, ln => if tk lane then loopG rec r i p tk D m (lane + 1) ln else
      match rec (updB tk lane true) (incD (incD D (p.1 * 3 + lane) 1) (p.2 * 3 + lane) 1) (upd2 ln r i (lane : Int)) with
      | (true, ln') => (true, ln')
      | (false, ln') => loopG rec r i p tk D m (lane + 1) ln'
/-- Lanes for the matches from match i of round r on: are there some? And what lies in the lanes' places behind the search. -/
def giveF (L : List (List (Nat × Nat))) (n : Nat) (un : Int) : Nat → Nat → Nat → (Nat → Bool) → (Nat → Int) → (Nat → Nat → Int) → Bool × (Nat → Nat → Int)
  | 0, _, _, _, _, ln => (false, ln)
  | d + 1, r, i, tk, D, ln =>
    if r = L.length then (decide (unevD D n ≤ un), ln)
    else if i = lenr L r then (if mostD D n un then giveF L n un d (r + 1) 0 (fun _ => false) D ln else (false, ln))
    else loopG (giveF L n un d r (i + 1)) r i (prs L r i) tk D (n / 2) 0 ln
def need (L : List (List (Nat × Nat))) (r i : Nat) : Nat := ((L.drop r).map fun x => x.length + 1).sum + 1 - i
theorem need_sum {L : List (List (Nat × Nat))} {r : Nat} (h : r < L.length) : ((L.drop r).map fun x => x.length + 1).sum = (lenr L r + 1) + ((L.drop (r + 1)).map fun x => x.length + 1).sum := by
  rw [List.drop_eq_getElem_cons h, List.map_cons, List.sum_cons]
  unfold lenr
  rw [List.getD_eq_getElem?_getD, List.getElem?_eq_getElem h]
  rfl
theorem need_next {L : List (List (Nat × Nat))} {r : Nat} (h : r < L.length) : need L (r + 1) 0 + 1 = need L r (lenr L r) := by
  have := need_sum h
  unfold need
  omega
theorem need_in {L : List (List (Nat × Nat))} {r i : Nat} (h : r < L.length) (hi : i < lenr L r) : need L r (i + 1) + 1 = need L r i := by
  have := need_sum h
  unfold need
  omega
theorem need_pos {L : List (List (Nat × Nat))} {r i : Nat} (hi : i ≤ lenr L r) : 0 < need L r i := by
  by_cases h : r < L.length
  · have := need_sum h
    unfold need
    omega
  · have : lenr L r = 0 := by
      unfold lenr
      rw [List.getD_eq_getElem?_getD, List.getElem?_eq_none (Nat.le_of_not_lt h)]
      rfl
    unfold need
    omega
def layF (n : Nat) (un : Int) (ln : Nat → Nat → Int) : Bool × (Nat → Nat → Int) := giveF (roundsN n) n un 40 0 0 (fun _ => false) (fun _ => 0) ln
/-- The lanes' places when so many tries have failed. -/
def lnK (n : Nat) : Nat → Nat → Nat → Int
  | 0 => fun _ _ => 0
  | u + 1 => (layF n (u : Int) (lnK n u)).2
def leastN (n : Nat) : Nat := if n = 4 then 3 else if n = 6 then 1 else 0
theorem lay_fails : ∀ n, 2 ≤ n → n ≤ 6 → ∀ u, u < leastN n → (layF n (u : Int) (lnK n u)).1 = false := by
  intro n h1 h2
  obtain rfl | rfl | rfl | rfl | rfl : n = 2 ∨ n = 3 ∨ n = 4 ∨ n = 5 ∨ n = 6 := by omega
  all_goals decide +kernel
theorem lay_done : ∀ n, 2 ≤ n → n ≤ 6 → (layF n (leastN n : Int) (lnK n (leastN n))).1 = true := by
  intro n h1 h2
  obtain rfl | rfl | rfl | rfl | rfl : n = 2 ∨ n = 3 ∨ n = 4 ∨ n = 5 ∨ n = 6 := by omega
  all_goals decide +kernel
theorem need_rounds : ∀ n, 2 ≤ n → n ≤ 6 → need (roundsN n) 0 0 ≤ 40 := by
  intro n h1 h2
  obtain rfl | rfl | rfl | rfl | rfl : n = 2 ∨ n = 3 ∨ n = 4 ∨ n = 5 ∨ n = 6 := by omega
  all_goals decide +kernel
/-- The schedule with lanes. -/
def matS (L : List (List (Nat × Nat))) (ln : Nat → Nat → Int) : List (List Mt) := (List.range L.length).map fun r => (List.range (lenr L r)).map fun i => ⟨((prs L r i).1 : Int), ((prs L r i).2 : Int), ln r i⟩
def buildS (n : Nat) : List (List Mt) := matS (roundsN n) (lnK n (leastN n + 1))
/-- What has been found of a schedule so far: pairs that have met, how often teams had lanes; and of a round: teams and lanes that are taken. -/
structure Rs3 where
  met : List (Int × Int)
  D : Nat → Int
def fitM (n : Nat) (st : Rs3) (busy taken : Nat → Bool) (m : Mt) : Bool :=
  inB m.a 0 (m.b - 1) && decide (m.b < n) && inB m.l 0 ((n / 2 : Nat) - 1) && !st.met.contains (m.a, m.b) && !busy m.a.toNat && !busy m.b.toNat && !taken m.l.toNat
def addM (st : Rs3) (m : Mt) : Rs3 := ⟨st.met ++ [(m.a, m.b)], incD (incD st.D (m.a.toNat * 3 + m.l.toNat) 1) (m.b.toNat * 3 + m.l.toNat) 1⟩
def roundF (n : Nat) : List Mt → (Nat → Bool) → (Nat → Bool) → Rs3 → Option Rs3
  | [], _, _, st => some st
  | m :: ms, busy, taken, st => if fitM n st busy taken m then roundF n ms (updB (updB busy m.a.toNat true) m.b.toNat true) (updB taken m.l.toNat true) (addM st m) else none
def allF (n : Nat) : List (List Mt) → Rs3 → Option Rs3
  | [], st => some st
  | x :: xs, st => (roundF n x (fun _ => false) (fun _ => false) st).bind (allF n xs)
def st0 : Rs3 := ⟨[], fun _ => 0⟩
/-- Is a schedule right? -/
def rightS (n : Nat) (s : List (List Mt)) : Bool := match allF n s st0 with
  | none => false
  | some st => decide (s.length = n - 1 + n % 2) && decide (st.met.length = n * (n - 1) / 2)
def usesS (n : Nat) (s : List (List Mt)) : Nat → Int := ((allF n s st0).getD st0).D
def unevS (n : Nat) (s : List (List Mt)) : Int := unevD (usesS n s) n
def proveS (n : Nat) (s : List (List Mt)) (un : Int) : Bool := rightS n s && decide (unevS n s ≤ un)
theorem build_right : ∀ n, 2 ≤ n → n ≤ 6 → rightS n (buildS n) = true ∧ unevS n (buildS n) = (leastN n : Int) := by
  intro n h1 h2
  obtain rfl | rfl | rfl | rfl | rfl : n = 2 ∨ n = 3 ∨ n = 4 ∨ n = 5 ∨ n = 6 := by omega
  all_goals constructor <;> decide +kernel
end

section

open Go.RowKit
set_option linter.unusedSimpArgs false
set_option linter.unusedVariables false

/-- Elements of a slice of structs. -/
def W3 (w : World) (b p : Nat) (x : Mt) : Prop := w.cell? ⟨b, p, none⟩ = some (.int .i64 x.a) ∧ w.cell? ⟨b, p + 1, none⟩ = some (.int .i64 x.b) ∧ w.cell? ⟨b, p + 2, none⟩ = some (.int .i64 x.l)
theorem W3.below {B : Nat} {w w' : World} {b p : Nat} {x : Mt} (h : W3 w b p x) (hb : Below B w w') (hlt : b < B) : W3 w' b p x := ⟨(hb.cell (p := ⟨b, p, none⟩) hlt).trans h.1, (hb.cell (p := ⟨b, p + 1, none⟩) hlt).trans h.2.1, (hb.cell (p := ⟨b, p + 2, none⟩) hlt).trans h.2.2⟩
def Mts (B : Nat) (w : World) (A : Option Addr) (ws : List Mt) : Prop :=
  0 < ws.length → ∃ b off, A = some ⟨b, off, none⟩ ∧ b < B ∧ ∀ k, k < ws.length → W3 w b (off + k * 3) (mtx ws k)
theorem Mts.at_ {B : Nat} {w : World} {A : Option Addr} {ws : List Mt} (h : Mts B w A ws) {k : Nat} (hk : k < ws.length) : ∃ b off, A = some ⟨b, off, none⟩ ∧ b < B ∧ W3 w b (off + k * 3) (mtx ws k) := by
  obtain ⟨b, off, hA, hb, hc⟩ := h (by omega)
  exact ⟨b, off, hA, hb, hc k hk⟩
theorem Mts.below {B : Nat} {w w' : World} {A : Option Addr} {ws : List Mt} (h : Mts B w A ws) (hb : Below B w w') : Mts B w' A ws := fun hp => by
  obtain ⟨b, off, hA, hlt, hc⟩ := h hp
  exact ⟨b, off, hA, hlt, fun k hk => (hc k hk).below hb hlt⟩
theorem Mts.more {B B' : Nat} {w : World} {A : Option Addr} {ws : List Mt} (h : Mts B w A ws) (hB : B ≤ B') : Mts B' w A ws := fun hp => by
  obtain ⟨b, off, hA, hlt, hc⟩ := h hp
  exact ⟨b, off, hA, by omega, hc⟩
theorem Mts.step {w w' : World} {A : Option Addr} {ws : List Mt} (h : Mts w.heap.size w A ws) (hb : Below w.heap.size w w') : Mts w'.heap.size w' A ws := (h.below hb).more hb.size
theorem Mts_nil (B : Nat) (w : World) : Mts B w none [] := fun h => by simp at h
/-- The value of one. -/
def mtV (x : Mt) : Value := .agg #[.int .i64 x.a, .int .i64 x.b, .int .i64 x.l]
def cellsT (x : Mt) : List Value := [.int .i64 x.a, .int .i64 x.b, .int .i64 x.l]
def flatT (ls : List Mt) : List Value := ls.flatMap cellsT
theorem flatT_len (ls : List Mt) : (flatT ls).length = ls.length * 3 := by
  induction ls with
  | nil => rfl
  | cons x xs ih => simp only [flatT, cellsT, List.flatMap_cons, List.length_append, List.length_cons, List.length_nil] at *; omega
theorem flatT_append (ws vs : List Mt) : flatT (ws ++ vs) = flatT ws ++ flatT vs := by simp [flatT]
theorem flatT_at : ∀ (ls : List Mt) (k : Nat), k < ls.length → (flatT ls)[k * 3]? = some (.int .i64 (mtx ls k).a) ∧ (flatT ls)[k * 3 + 1]? = some (.int .i64 (mtx ls k).b) ∧ (flatT ls)[k * 3 + 2]? = some (.int .i64 (mtx ls k).l)
  | x :: xs, 0, _ => by simp [flatT, cellsT, mtx]
  | x :: xs, k + 1, h => by
    have := flatT_at xs k (by simpa using h)
    simp only [flatT, cellsT, List.flatMap_cons, mtx, List.getD_cons_succ] at *
    rw [show (k + 1) * 3 = k * 3 + 3 by omega]
    simpa using this
theorem one_flatT (ls : List Mt) : ∀ v ∈ flatT ls, v.oneCell' = true := by
  intro v hv
  simp only [flatT, cellsT, List.mem_flatMap] at hv
  obtain ⟨p, _, hv⟩ := hv
  simp at hv
  rcases hv with rfl | rfl | rfl <;> rfl
def OwnT (e : TypeId) (base : Nat) (w : World) (u : Value) (ls : List Mt) : Prop := w.ownsRow base e 3 u ls.length (flatT ls)
theorem OwnT.form {e : TypeId} {base : Nat} {w : World} {u : Value} {ls : List Mt} (h : OwnT e base w u ls) : ∃ A c, u = .slice A ls.length c := ownsRow_form h
theorem OwnT.nil (e : TypeId) (base : Nat) (w : World) : OwnT e base w (.slice none 0 0) [] := World.ownsRow_nil _ _ _ _
theorem OwnT.kept {e : TypeId} {base : Nat} {w w' : World} {u : Value} {ls : List Mt} (h : OwnT e base w u ls) (hb : Below w.heap.size w w') : OwnT e base w' u ls := World.ownsRow.kept h (only_below hb none) (by cases u.ownBlock <;> simp)
theorem OwnT.keptBy {e : TypeId} {base g : Nat} {w w' : World} {u : Value} {ls : List Mt} (h : OwnT e base w u ls) (hg : w.grownBy w' (some g)) (hb : g < base) : OwnT e base w' u ls := World.ownsRow.kept h hg (.inr fun e => by
  have := (World.ownsRow.lt h g e).1
  omega)
theorem OwnT.parts {e : TypeId} {base : Nat} {w : World} {A : Option Addr} {n c : Nat} {ls : List Mt} (h : OwnT e base w (.slice A n c) ls) : ls.length ≤ c ∧ c ≤ 9223372036854775807 ∧ Mts w.heap.size w A ls := by
  rcases h.2 with ⟨e, h0⟩ | ⟨g, cap, cur, e, hb, hg, hn, hm, hs, ht⟩
  · injection e with e1 e2 e3
    subst e1 e3
    exact ⟨by omega, by omega, fun hp => by omega⟩
  · injection e with e1 e2 e3
    subst e1 e3
    refine ⟨hn, by unfold maxLen at hm; omega, fun hp => ⟨g, 0, rfl, (Array.getElem?_eq_some_iff.1 hg).1, fun k hk => ?_⟩⟩
    obtain ⟨a0, a1, a2⟩ := flatT_at ls k hk
    have b0 := h.cells (g := g) rfl _ _ a0
    have b1 := h.cells (g := g) rfl _ _ a1
    have b2 := h.cells (g := g) rfl _ _ a2
    rw [add_eq] at b0 b1 b2
    exact ⟨b0, by rw [Nat.add_assoc]; exact b1, by rw [Nat.add_assoc]; exact b2⟩
theorem infoT57 : (Try.prog.info? 57).map (fun i => (i.zero, i.size, i.bytes)) = some (some (.agg #[.int .i64 0, .int .i64 0, .int .i64 0]), 3, 24) := by kernel_rfl
def TTy (t e : TypeId) : Prop := (t = 55 ∧ e = 57)
theorem tyT {t e : TypeId} (h : TTy t e) : Try.prog.underlying t = some (.slice e) ∧ ∃ i, Try.prog.info? e = some i ∧ i.zero = some (.agg #[.int .i64 0, .int .i64 0, .int .i64 0]) ∧ i.size = 3 ∧ i.bytes = 24 := by
  rcases h with ⟨rfl, rfl⟩
  · obtain ⟨i, a, b, c, d⟩ := info_parts infoT57
    exact ⟨by kernel_rfl, i, a, b, c, d⟩
theorem srcT (w : World) (x : Mt) (e : TypeId) : Src (w.alloc (.cells #[.int .i64 x.a, .int .i64 x.b, .int .i64 x.l] e)) 3 (some ⟨w.heap.size, 0, none⟩) 1 (flatT [x]) := by
  refine ⟨rfl, (fun h => by cases h), fun ad hA j u hu => ?_⟩
  injection hA with hA
  subst hA
  rw [add_eq]
  rcases j with _ | _ | _ | j <;> simp [flatT, cellsT] at hu
  all_goals
    subst hu
    simp
section
variable {t e : TypeId} {ops : Array Oper} {rest : List Oper} {o : Oper} {a : Act} {K : Act → World → Prop} {Q : Exit → Act → World → Prop} {E : Prop}
theorem run_appT (hT : TTy t e) (ty : TypeId) (base : Nat) (w : World) (u : Value) (ls : List Mt) (x : Mt) (hown : OwnT e base w u ls) (hl : ls.length ≤ 1000000) (hb : base ≤ w.heap.size) :
    ∃ A c w', (Builtin.append_ #[t, t] ty #[u, .slice (some ⟨w.heap.size, 0, none⟩) 1 1]).run Try.prog (w.alloc (.cells #[.int .i64 x.a, .int .i64 x.b, .int .i64 x.l] e)) = .ok (.slice A (ls.length + 1) c) w' ∧ OwnT e base w' (.slice A (ls.length + 1) c) (ls ++ [x]) ∧ Below base w w' := by
  obtain ⟨hu, i, hi, hz, hz1, hz2⟩ := tyT hT
  have hO : w.ownsRow base e 3 u ls.length (flatT ls) := hown
  obtain ⟨u', w', hr, h1, h2, h3⟩ := run_append_src (P := Try.prog) (w := w.alloc (.cells #[.int .i64 x.a, .int .i64 x.b, .int .i64 x.l] e)) base t ty e i _ 3 24 hu hi hz hz1 hz2 rfl (by decide) u ls.length (flatT ls) (hO.alloc _) (some ⟨w.heap.size, 0, none⟩) 1 1 (flatT [x]) (srcT w x e) (one_flatT [x]) (by unfold maxLen; omega) (by omega) (by simp; omega)
  obtain ⟨A, c, rfl⟩ := ownsRow_form h1
  refine ⟨A, c, w', hr, ?_, ((Below.refl base w).alloc hb _).grown h2 (by simp; omega) (fun k e => (hO.lt k e).1)⟩
  unfold OwnT
  rw [flatT_append, List.length_append]
  exact h1
theorem step_appT (hT : TTy t e) (s y : Operand) (hgd : o.guard = none) (ho : o.op = .call { callee := .builtin .append, args := #[s, y], argTypes := #[t, t] }) (base : Nat) (w : World) (u : Value) (ls : List Mt) (x : Mt)
    (hv : a.eval s = u) (hx : a.eval y = .slice (some ⟨w.heap.size, 0, none⟩) 1 1) (hown : Hid (OwnT e base w u ls)) (hl : ls.length ≤ 1000000) (hb : base ≤ w.heap.size)
    (hK : ∀ A c w', Hid (OwnT e base w' (.slice A (ls.length + 1) c) (ls ++ [x])) → Hid (Below base w w') → K (a.put o.dst (.slice A (ls.length + 1) c)) w') :
    if Region.wanted o (yielded ops a.tmps) = true then Oper.wp Try.prog o a (w.alloc (.cells #[.int .i64 x.a, .int .i64 x.b, .int .i64 x.l] e)) K Q else E := by
  rw [if_pos (by simp [Region.wanted, hgd])]
  obtain ⟨A, c, w', hr, h1, h2⟩ := run_appT hT o.type base w u ls x hown.out hl hb
  unfold Oper.wp execOp
  simp only [ho, resolve, invoke, builtin, Sem.run_bind, Sem.run_pure, Result.andThen_ok, List.map_toArray, List.map_cons, List.map_nil, hv, hx, hr]
  exact hK _ _ _ h1 h2
theorem wpList_appT (hT : TTy t e) (s y : Operand) (hgd : o.guard = none) (ho : o.op = .call { callee := .builtin .append, args := #[s, y], argTypes := #[t, t] }) (base : Nat) (w : World) (u : Value) (ls : List Mt) (x : Mt)
    (hv : a.eval s = u) (hx : a.eval y = .slice (some ⟨w.heap.size, 0, none⟩) 1 1) (hown : Hid (OwnT e base w u ls)) (hl : ls.length ≤ 1000000) (hb : base ≤ w.heap.size)
    (h : ∀ A c w', Hid (OwnT e base w' (.slice A (ls.length + 1) c) (ls ++ [x])) → Hid (Below base w w') → wpList Try.prog ops Q rest (a.put o.dst (.slice A (ls.length + 1) c)) w') :
    wpList Try.prog ops Q (o :: rest) a (w.alloc (.cells #[.int .i64 x.a, .int .i64 x.b, .int .i64 x.l] e)) := by
  refine wpList_plain hgd fun K hK => ?_
  obtain ⟨A, c, w', hr, h1, h2⟩ := run_appT hT o.type base w u ls x hown.out hl hb
  unfold Oper.wp execOp
  simp only [ho, resolve, invoke, builtin, Sem.run_bind, Sem.run_pure, Result.andThen_ok, List.map_toArray, List.map_cons, List.map_nil, hv, hx, hr]
  exact hK _ _ (h _ _ _ h1 h2)
end
/-- A list of lists of matches, read. -/
def Grm (B : Nat) (w : World) (A : Option Addr) (s : List (List Mt)) : Prop :=
  0 < s.length → ∃ b off, A = some ⟨b, off, none⟩ ∧ b < B ∧ ∀ k, k < s.length → ∃ A' c', w.cell? ⟨b, off + k, none⟩ = some (.slice A' (rowx s k).length c') ∧ (rowx s k).length ≤ c' ∧ c' ≤ 9223372036854775807 ∧ Mts B w A' (rowx s k)
theorem Grm.at_ {B : Nat} {w : World} {A : Option Addr} {s : List (List Mt)} (h : Grm B w A s) {k : Nat} (hk : k < s.length) : ∃ b off A' c', A = some ⟨b, off, none⟩ ∧ b < B ∧ w.cell? ⟨b, off + k, none⟩ = some (.slice A' (rowx s k).length c') ∧ (rowx s k).length ≤ c' ∧ c' ≤ 9223372036854775807 ∧ Mts B w A' (rowx s k) := by
  obtain ⟨b, off, hA, hb, hc⟩ := h (by omega)
  obtain ⟨A', c', h1, h2, h3, h4⟩ := hc k hk
  exact ⟨b, off, A', c', hA, hb, h1, h2, h3, h4⟩
theorem Grm.below {B : Nat} {w w' : World} {A : Option Addr} {s : List (List Mt)} (h : Grm B w A s) (hb : Below B w w') : Grm B w' A s := fun hp => by
  obtain ⟨b, off, hA, hlt, hc⟩ := h hp
  refine ⟨b, off, hA, hlt, fun k hk => ?_⟩
  obtain ⟨A', c', h1, h2, h3, h4⟩ := hc k hk
  exact ⟨A', c', (hb.cell (p := ⟨b, off + k, none⟩) hlt).trans h1, h2, h3, h4.below hb⟩
theorem Grm.more {B B' : Nat} {w : World} {A : Option Addr} {s : List (List Mt)} (h : Grm B w A s) (hB : B ≤ B') : Grm B' w A s := fun hp => by
  obtain ⟨b, off, hA, hlt, hc⟩ := h hp
  refine ⟨b, off, hA, by omega, fun k hk => ?_⟩
  obtain ⟨A', c', h1, h2, h3, h4⟩ := hc k hk
  exact ⟨A', c', h1, h2, h3, h4.more hB⟩
theorem Grm.step {w w' : World} {A : Option Addr} {s : List (List Mt)} (h : Grm w.heap.size w A s) (hb : Below w.heap.size w w') : Grm w'.heap.size w' A s := (h.below hb).more hb.size
/-- Value v is an own slice of n own slices; row j holds rows j. -/
def Rwt (base : Nat) (w : World) (v : Value) (n : Nat) (vs : List Value) (rows : Nat → List Mt) : Prop :=
  w.ownsRow base 55 1 v n vs ∧ (∀ j, j < n → ∃ u, vs[j]? = some u ∧ w.ownsRow base 57 3 u (rows j).length (flatT (rows j)) ∧ (u.ownBlock = none ∨ u.ownBlock ≠ v.ownBlock)) ∧
    ∀ (i j : Nat) (u u' : Value), i < j → vs[i]? = some u → vs[j]? = some u' → (u.ownBlock = none ∨ u.ownBlock ≠ u'.ownBlock)
theorem Rwt.len {base : Nat} {w : World} {v : Value} {n : Nat} {vs : List Value} {rows : Nat → List Mt} (h : Rwt base w v n vs rows) : vs.length = n := by have := h.1.1; omega
theorem Rwt.nil (base : Nat) (w : World) (rows : Nat → List Mt) : Rwt base w (.slice none 0 0) 0 [] rows :=
  ⟨World.ownsRow_nil _ _ _ _, fun j hj => by omega, fun i j u u' _ h => by simp at h⟩
theorem Rwt.kept {base : Nat} {w w' : World} {v : Value} {n : Nat} {vs : List Value} {rows : Nat → List Mt} (h : Rwt base w v n vs rows) (hg : Below w.heap.size w w') : Rwt base w' v n vs rows := by
  obtain ⟨h1, h2, h3⟩ := h
  have k : ∀ {u : Value} {e : TypeId} {s m : Nat} {us : List Value}, w.ownsRow base e s u m us → w'.ownsRow base e s u m us := fun {u e s m us} hu => hu.kept (only_below hg none) (by cases u.ownBlock <;> simp)
  refine ⟨k h1, fun j hj => ?_, h3⟩
  obtain ⟨u, a, b, c⟩ := h2 j hj
  exact ⟨u, a, k b, c⟩
theorem Rwt.push {base : Nat} {w w1 w2 : World} {v v' u : Value} {n : Nat} {vs : List Value} {rows : Nat → List Mt} (h : Rwt base w v n vs rows) (hb : Below w.heap.size w w1) (hB : base ≤ w.heap.size)
    (hu : w1.ownsRow w.heap.size 57 3 u (rows n).length (flatT (rows n))) (hg : w1.grownBy w2 v.ownBlock) (hv : v'.ownBlock = v.ownBlock ∨ v'.ownBlock = some w1.heap.size)
    (ho : w2.ownsRow base 55 1 v' (n + 1) (vs ++ [u])) : Rwt base w2 v' (n + 1) (vs ++ [u]) rows := by
  have hl := h.len
  have hvlt : ∀ k, v.ownBlock = some k → k < w.heap.size := fun k e => (h.1.lt k e).2
  have hult := hu.lt
  have hu2 : w2.ownsRow w.heap.size 57 3 u (rows n).length (flatT (rows n)) := hu.kept hg (by
    cases e : u.ownBlock with
    | none => exact .inl rfl
    | some k =>
      refine .inr fun e' => ?_
      have a := hvlt k e'.symm
      have b := (hult k e).1
      omega)
  have hsz := hb.size
  refine ⟨ho, fun j hj => ?_, fun i j x y hij hx hy => ?_⟩
  · by_cases e : j = n
    · subst e
      refine ⟨u, by rw [List.getElem?_append_right (by omega)]; simp [hl], ownsRow_base hu2 hB, ?_⟩
      cases e : u.ownBlock with
      | none => exact .inl rfl
      | some k =>
        have a := hult k e
        refine .inr fun e' => ?_
        rcases hv with hv | hv
        · rw [hv] at e'
          have := hvlt k e'.symm
          omega
        · rw [hv] at e'
          injection e' with e'
          omega
    · obtain ⟨x, a, b, c⟩ := h.2.1 j (by omega)
      refine ⟨x, by rw [List.getElem?_append_left (by omega)]; exact a, (b.kept (only_below hb none) (by cases x.ownBlock <;> simp)).kept hg c, ?_⟩
      cases e : x.ownBlock with
      | none => exact .inl rfl
      | some k =>
        rcases hv with hv | hv
        · rw [hv]; rw [e] at c; exact c
        · have d := (b.lt k e).2
          rw [hv]
          refine .inr fun e' => ?_
          injection e' with e'
          omega
  · have hj : j < n + 1 := by
      have := (List.getElem?_eq_some_iff.1 hy).1
      rw [List.length_append] at this
      simp at this
      omega
    by_cases e : j = n
    · subst e
      rw [List.getElem?_append_right (by omega)] at hy
      rw [List.getElem?_append_left (by omega)] at hx
      simp [hl] at hy
      subst hy
      obtain ⟨x', a, b, c⟩ := h.2.1 i (by omega)
      rw [hx] at a
      injection a with a
      subst a
      cases e : x.ownBlock with
      | none => exact .inl rfl
      | some k =>
        have d := (b.lt k e).2
        refine .inr fun e' => ?_
        have := (hult k e'.symm).1
        omega
    · rw [List.getElem?_append_left (by omega)] at hy hx
      exact h.2.2 i j x y hij hx hy
theorem Rwt.congr {base : Nat} {w : World} {v : Value} {n : Nat} {vs : List Value} {rows rows' : Nat → List Mt} (h : Rwt base w v n vs rows) (e : ∀ j, j < n → rows' j = rows j) : Rwt base w v n vs rows' :=
  ⟨h.1, fun j hj => by rw [e j hj]; exact h.2.1 j hj, h.2.2⟩
theorem Rwt.row {base : Nat} {w : World} {v : Value} {n : Nat} {vs : List Value} {rows : Nat → List Mt} (h : Rwt base w v n vs rows) {j : Nat} (hj : j < n) (h0 : 0 < (rows j).length) :
    ∃ g c gr cr, v = .slice (some ⟨g, 0, none⟩) n c ∧ n ≤ c ∧ c ≤ 9223372036854775807 ∧ w.cell? ⟨g, j, none⟩ = some (.slice (some ⟨gr, 0, none⟩) (rows j).length cr) ∧ (rows j).length ≤ cr ∧ cr ≤ 9223372036854775807 ∧ vs[j]? = some (.slice (some ⟨gr, 0, none⟩) (rows j).length cr) ∧ base ≤ g ∧ base ≤ gr ∧ (∀ b, b < (rows j).length → W3 w gr (b * 3) (mtx (rows j) b)) ∧ (∀ b, w.frozen? ⟨gr, b, none⟩ = false) ∧ g < w.heap.size ∧ gr < w.heap.size ∧ gr ≠ g := by
  obtain ⟨u, hu, ho, hne⟩ := h.2.1 j hj
  rcases h.1.2 with ⟨_, h2⟩ | ⟨g, cap, cur, hv, hb, hg, hn, hm, hs, ht⟩
  · omega
  · rcases ho.2 with ⟨_, h2⟩ | ⟨gr, cr, cur', hv', hb', hg', hn', hm', hs', ht'⟩
    · omega
    · subst hv hv'
      refine ⟨g, cap, gr, cr, rfl, by omega, by unfold maxLen at hm; omega, ?_, by omega, by unfold maxLen at hm'; omega, hu, hb, hb', fun b hb => ?_, fun b => ?_, (Array.getElem?_eq_some_iff.1 hg).1, (Array.getElem?_eq_some_iff.1 hg').1, fun e => by
        subst e
        rcases hne with hne | hne
        · cases hne
        · exact hne rfl⟩
      · have := h.1.cells (g := g) rfl j _ hu
        rw [add_eq] at this
        simpa using this
      · obtain ⟨a0, a1, a2⟩ := flatT_at (rows j) b hb
        have b0 := ho.cells (g := gr) rfl _ _ a0
        have b1 := ho.cells (g := gr) rfl _ _ a1
        have b2 := ho.cells (g := gr) rfl _ _ a2
        rw [add_eq] at b0 b1 b2
        simp only [Nat.zero_add] at b0 b1 b2
        exact ⟨b0, b1, b2⟩
      · exact ho.frozenAt b
theorem infoMts : (Try.prog.info? 55).map (fun i => (i.zero, i.size, i.bytes)) = some (some (.slice none 0 0), 1, 24) := by kernel_rfl
theorem src_oneT (w : World) (u : Value) : Src (w.alloc (.cells #[u] 55)) 1 (some ⟨w.heap.size, 0, none⟩) 1 [u] := by
  refine ⟨rfl, (fun h => by cases h), fun ad hA j x hx => ?_⟩
  injection hA with hA
  subst hA
  cases j with
  | zero =>
    simp at hx
    subst hx
    rw [add_eq]
    simp
  | succ j => simp at hx
theorem one_slicesT {base s : Nat} {w : World} {e : TypeId} {u : Value} {n : Nat} {xs : List Value} (h : w.ownsRow base e s u n xs) : ∀ x ∈ [u], x.oneCell' = true := by
  obtain ⟨A, c, rfl⟩ := ownsRow_form h
  intro x hx
  simp at hx
  subst hx
  rfl
section
variable {ops : Array Oper} {rest : List Oper} {o : Oper} {a : Act} {Q : Exit → Act → World → Prop}
theorem wpList_app_rowT (s x : Operand) (hgd : o.guard = none) (ho : o.op = .call { callee := .builtin .append, args := #[s, x], argTypes := #[47, 47] }) (base : Nat) (w w1 : World) (v : Value) (k : Nat) (vs : List Value) (rows : Nat → List Mt) (Au : Option Addr) (m cu : Nat)
    (hv : a.eval s = v) (hx : a.eval x = .slice (some ⟨w1.heap.size, 0, none⟩) 1 1) (hR : Hid (Rwt base w v k vs rows)) (hm : (rows k).length = m) (hu : Hid (OwnT 57 w.heap.size w1 (.slice Au m cu) (rows k))) (hW : Hid (Below w.heap.size w w1)) (hl : k ≤ 1000000) (hb : base ≤ w.heap.size)
    (h : ∀ A c vs' w', Hid (Rwt base w' (.slice A (k + 1) c) (k + 1) vs' rows) → Hid (Below base w w') → wpList Try.prog ops Q rest (a.put o.dst (.slice A (k + 1) c)) w') :
    wpList Try.prog ops Q (o :: rest) a (w1.alloc (.cells #[.slice Au m cu] 55)) := by
  subst hm
  obtain ⟨i1, hi', hy0, hy1, hy2⟩ := info_parts infoMts
  have hO := hR.out.1
  have hO1 : (w1.alloc (.cells #[.slice Au (rows k).length cu] 55)).ownsRow base 55 1 v k vs := (hO.kept (only_below hW.out none) (own_ne v)).alloc _
  have hU : w1.ownsRow w.heap.size 57 3 (.slice Au (rows k).length cu) (rows k).length (flatT (rows k)) := hu.out
  refine wpList_append_src hgd s x 47 ho base 55 i1 (.slice none 0 0) 1 24 Try.underlying47 hi' hy0 hy1 hy2 rfl (by decide) v k vs hv hO1 (some ⟨w1.heap.size, 0, none⟩) 1 1 [.slice Au (rows k).length cu] hx (src_oneT w1 _) (one_slicesT hU) (by unfold maxLen; omega) (by omega) (le_alloc hb hW.out) ?_
  intro v' w' h1 h2 h3
  obtain ⟨A, c, rfl⟩ := ownsRow_form h1
  have hb1 : Below w.heap.size w (w1.alloc (.cells #[.slice Au (rows k).length cu] 55)) := hW.out.alloc hW.out.size _
  exact h A c _ w' (hR.out.push hb1 hb (hU.alloc _) h2 h3 h1) ((hb1.mono hb).grown h2 (le_alloc hb hW.out) (fun j e => (hO.lt j e).1))
end
end

section

open Go.RowKit
set_option linter.unusedSimpArgs false
set_option linter.unusedVariables false

attribute [local go_sem] Oper.semAt_some
set_option maxHeartbeats 1000000 in
theorem min101_c {B : Nat} (A : Option Addr) (c : Nat) (xs : List Int) (w : World) (h : Ints B w A xs) (hc : xs.length ≤ c ∧ c ≤ 9223372036854775807) (h1 : 1 ≤ xs.length) :
    Calls Try.prog 101 #[.slice A xs.length c] w (Same w (.int .i64 (minK xs xs.length))) := by
  have HI := Lib.hid h
  obtain ⟨b, off, rfl, _, c1⟩ := h.at_ (k := 0) h1
  have hln : ¬ (xs.length : Int) < 1 := by omega
  rw [Nat.add_zero] at c1
  clear h
  go_enter Try.func101, Try.ntmps101
  go_wp2_with fail
  clear c1 hln
  go_loop [3, 4] (fun m i => ∃ k : Nat, 1 ≤ k ∧ k ≤ xs.length ∧ i = .int .i64 k ∧ m = .int .i64 (minK xs k)) (fun _ i => xs.length - (intOf i).toNat)
  case atStart => exact ⟨1, by omega, h1, rfl, by simp [minK]⟩
  case round =>
    obtain ⟨k, hk0, hk, rfl, rfl⟩ := hrel
    by_cases hk1 : k < xs.length
    · have h1i : (k : Int) < (xs.length : Int) := by omega
      obtain ⟨b', off', hA, _, c1⟩ := HI.out.at_ hk1
      cases hA
      have HM : Hid (minK xs (k + 1) = if ix xs k < minK xs k then ix xs k else minK xs k) := by
        show _ = _
        simp only [minK]
        split <;> omega
      generalize minK xs k = m at *
      generalize ix xs k = x at *
      go_wp2_with fail
      go_round
      case rel => exact ⟨k + 1, by omega, by omega, by go_num, by rw [HM.out]⟩
      case measure => simp [intOf]; omega
    · obtain rfl : k = xs.length := by omega
      go_wp2_with fail
      go_ret
      exact ⟨rfl, rfl⟩
theorem n26 {n : Nat} (h : 2 ≤ n ∧ n ≤ 6) : n = 2 ∨ n = 3 ∨ n = 4 ∨ n = 5 ∨ n = 6 := by omega
set_option maxHeartbeats 1000000 in
theorem halls99_c (n : Nat) (w : World) (hn : 2 ≤ n ∧ n ≤ 6) : Calls Try.prog 99 #[.int .i64 (n : Int)] w (Same w (.int .i64 ((n / 2 : Nat) : Int))) := by
  rcases n26 hn with rfl | rfl | rfl | rfl | rfl
  all_goals
    go_enter Try.func99, Try.ntmps99
    go_wp2_with fail
    go_ret
    exact ⟨rfl, rfl⟩
set_option maxHeartbeats 1000000 in
theorem count96_c (n : Nat) (w : World) (hn : 2 ≤ n ∧ n ≤ 6) : Calls Try.prog 96 #[.int .i64 (n : Int)] w (Same w (.int .i64 ((n - 1 + n % 2 : Nat) : Int))) := by
  rcases n26 hn with rfl | rfl | rfl | rfl | rfl
  all_goals
    go_enter Try.func96, Try.ntmps96
    go_wp2_with fail
    go_ret
    exact ⟨rfl, rfl⟩
def toM (p : Nat × Nat) : Mt := ⟨(p.1 : Int), (p.2 : Int), 0⟩
def preT (n r k : Nat) : List Mt := ((List.range k).filterMap (matN n r)).map toM
def rowT (n r : Nat) : List Mt := (roundN n r).map toM
theorem preT_len (n r k : Nat) : (preT n r k).length ≤ k := by
  unfold preT
  rw [List.length_map]
  have := List.length_filterMap_le (matN n r) (List.range k)
  simpa using this
theorem preT_yes {n r k : Nat} {p : Nat × Nat} (h : matN n r k = some p) : preT n r (k + 1) = preT n r k ++ [toM p] := by
  unfold preT
  rw [List.range_succ, List.filterMap_append, List.map_append]
  simp [h]
theorem preT_no {n r k : Nat} (h : matN n r k = none) : preT n r (k + 1) = preT n r k := by
  unfold preT
  rw [List.range_succ, List.filterMap_append, List.map_append]
  simp [h]
/-- What rounds answers: new own rows. -/
def RoundsP (n : Nat) (w : World) (e : Ending) (w' : World) : Prop := ∃ A c vs, e = .returned (.slice A (n - 1 + n % 2) c) ∧ Rwt w.heap.size w' (.slice A (n - 1 + n % 2) c) (n - 1 + n % 2) vs (rowT n) ∧ Below w.heap.size w w'
set_option maxRecDepth 100000 in
set_option maxHeartbeats 8000000 in
theorem rounds64_c (n : Nat) (w : World) (hn : 2 ≤ n ∧ n ≤ 6) : Calls Try.prog 64 #[.int .i64 (n : Int)] w (RoundsP n w) := by
  have HCN := Lib.hid (fun W => count96_c n W hn)
  obtain ⟨z, hz⟩ : ∃ z, n % 2 = z := ⟨_, rfl⟩
  obtain ⟨E, hE⟩ : ∃ E, n + z = E := ⟨_, rfl⟩
  obtain ⟨e1, he1⟩ : ∃ e1, E - 1 = e1 := ⟨_, rfl⟩
  obtain ⟨hf, hhf⟩ : ∃ h, E / 2 = h := ⟨_, rfl⟩
  have hE6 : 2 ≤ E ∧ E ≤ 6 ∧ e1 + 1 = E ∧ hf ≤ 3 ∧ n ≤ E := by omega
  have HM : Hid (∀ r k, matN n r k = if (r + k) % e1 < n ∧ (if k = 0 then e1 else (r + e1 - k) % e1) < n then some (min ((r + k) % e1) (if k = 0 then e1 else (r + e1 - k) % e1), max ((r + k) % e1) (if k = 0 then e1 else (r + e1 - k) % e1)) else none) := fun r k => by
    unfold matN
    dsimp only
    rw [hz, hE, he1]
  have HRW : Hid (∀ r, preT n r hf = rowT n r) := fun r => by
    unfold preT rowT roundN
    rw [hz, hE, hhf]
  have m1 : (n : Int).tmod 2 = (z : Int) := by rw [Int.tmod_eq_emod_of_nonneg (by omega)]; omega
  have m2 : (n : Int) % 2 = (z : Int) := by omega
  have m3 : IntKind.i64.wrap (z : Int) = (z : Int) := IntWalk.i64_in _ (by omega)
  have m4 : IntKind.i64.wrap ((n : Int) + (z : Int)) = (E : Int) := by rw [IntWalk.i64_in _ (by omega)]; omega
  have d1 : (E : Int).tdiv 2 = (hf : Int) := by rw [Int.tdiv_eq_ediv_of_nonneg (by omega)]; omega
  have d2 : (E : Int) / 2 = (hf : Int) := by omega
  have d3 : IntKind.i64.wrap (hf : Int) = (hf : Int) := IntWalk.i64_in _ (by omega)
  have w1 : IntKind.i64.wrap ((E : Int) - 1) = (e1 : Int) := by rw [IntWalk.i64_in _ (by omega)]; omega
  have HZ : Hid (n - 1 + n % 2 ≤ 6) := by show _ ≤ _; omega
  clear hz hE he1 hhf
  have HEE := Lib.hid hE6
  clear hE6
  go_enter Try.func64, Try.ntmps64
  go_wp2_with fail
  refine (HCN.out _).mono ?_
  rintro e w1 ⟨rfl, rfl⟩
  obtain ⟨R, hR⟩ : ∃ R, n - 1 + n % 2 = R := ⟨_, rfl⟩
  rw [hR] at HCN HZ ⊢
  have HRR := Lib.hid hR
  clear hR
  go_wp2_with fail
  go_loopw [2, 15] (fun v i wr => ∃ (r : Nat) (A : Option Addr) (c : Nat) (vs : List Value), r ≤ R ∧ i = .int .i64 r ∧ v = .slice A r c ∧ Rwt w.heap.size wr (.slice A r c) r vs (rowT n) ∧ Below w.heap.size w wr) (fun _ i _ => R - (intOf i).toNat)
  case atStart => exact ⟨0, none, 0, [], by omega, rfl, rfl, Rwt.nil _ _ _, Below.refl _ _⟩
  case round =>
    rename_i vv _
    obtain ⟨r, A, c, vs, hr, rfl, rfl, hRt, hb⟩ := hrel
    have HRt := Lib.hid hRt
    have HB := Lib.hid hb
    clear hRt hb
    by_cases h1 : r < R
    · have h1i : (r : Int) < (R : Int) := by omega
      have hwr : IntKind.i64.wrap ((r : Int) + 1) = (r : Int) + 1 := IntWalk.i64_in _ (by have := HZ.out; omega)
      have HR6 : Hid (r ≤ 6) := by show _ ≤ _; have := HZ.out; omega
      generalize wr = wt at *
      go_wp2_with fail
      go_loopw [5, 20] (fun v i wr => ∃ (k : Nat) (A : Option Addr) (c : Nat), k ≤ hf ∧ i = .int .i64 k ∧ v = .slice A (preT n r k).length c ∧ OwnT 57 wt.heap.size wr (.slice A (preT n r k).length c) (preT n r k) ∧ Below wt.heap.size wt wr) (fun _ i _ => hf - (intOf i).toNat)
      case atStart => exact ⟨0, none, 0, by omega, rfl, rfl, OwnT.nil _ _ _, Below.refl _ _⟩
      case round =>
        rename_i v5 _
        obtain ⟨k, A5, c5, hk, rfl, rfl, hO, hb⟩ := hrel
        have HO := Lib.hid hO
        have HB5 := Lib.hid hb
        clear hO hb
        have HLP := Lib.hid (preT_len n r k)
        by_cases h2 : k < hf
        · have h2i : (k : Int) < (hf : Int) := by omega
          have HK3 : Hid (k ≤ 3) := by show _ ≤ _; have := HEE.out; omega
          have hwk : IntKind.i64.wrap ((k : Int) + 1) = (k : Int) + 1 := IntWalk.i64_in _ (by have := HK3.out; omega)
          obtain ⟨a, ha⟩ : ∃ a, (r + k) % e1 = a := ⟨_, rfl⟩
          obtain ⟨b1, hb1⟩ : ∃ b1, r + e1 - k = b1 := ⟨_, rfl⟩
          obtain ⟨b0, hb0⟩ : ∃ b0, b1 % e1 = b0 := ⟨_, rfl⟩
          have hm0 : matN n r k = if a < n ∧ (if k = 0 then e1 else b0) < n then some (min a (if k = 0 then e1 else b0), max a (if k = 0 then e1 else b0)) else none := by rw [HM.out, ha, hb1, hb0]
          have HMK := Lib.hid hm0
          have a1 : IntKind.i64.wrap ((r : Int) + (k : Int)) = (r : Int) + (k : Int) := IntWalk.i64_in _ (by have := HK3.out; have := HR6.out; omega)
          have hepos : 0 < e1 := by have := HEE.out; omega
          have a2 : ((r : Int) + (k : Int)).tmod (e1 : Int) = (a : Int) := by rw [Int.tmod_eq_emod_of_nonneg (by omega), ← ha]; simp
          have a3 : ((r : Int) + (k : Int)) % (e1 : Int) = (a : Int) := by rw [← ha]; simp
          have a4 : IntKind.i64.wrap (a : Int) = (a : Int) := IntWalk.i64_in _ (by have := Nat.mod_lt (r + k) hepos; have := HEE.out; omega)
          have c1 : IntKind.i64.wrap ((r : Int) - (k : Int)) = (r : Int) - (k : Int) := IntWalk.i64_in _ (by have := HK3.out; have := HR6.out; omega)
          have c2 : IntKind.i64.wrap ((r : Int) - (k : Int) + (E : Int)) = (r : Int) - (k : Int) + (E : Int) := IntWalk.i64_in _ (by have := HK3.out; have := HR6.out; have := HEE.out; omega)
          have hkE : k ≤ e1 := by have := HEE.out; omega
          have c3 : IntKind.i64.wrap ((r : Int) - (k : Int) + (E : Int) - 1) = (b1 : Int) := by
            have := HEE.out
            rw [IntWalk.i64_in _ (by have := HK3.out; have := HR6.out; omega)]
            omega
          have c4 : (b1 : Int).tmod (e1 : Int) = (b0 : Int) := by rw [Int.tmod_eq_emod_of_nonneg (by omega), ← hb0]; simp
          have c5' : (b1 : Int) % (e1 : Int) = (b0 : Int) := by rw [← hb0]; simp
          have c6 : IntKind.i64.wrap (b0 : Int) = (b0 : Int) := IntWalk.i64_in _ (by have := Nat.mod_lt b1 hepos; have := HEE.out; omega)
          have hne1 : ¬ (e1 : Int) = 0 := by omega
          have hne2 : ¬ e1 = 0 := by omega
          clear ha hb1 hb0 hm0 hepos hkE
          have HOQ : Hid (∀ m, OwnT 57 wt.heap.size (wr.drewN m) (.slice A5 (preT n r k).length c5) (preT n r k)) := fun m => HO.out.kept (below_drewN (Below.refl _ _) m)
          have HBQ : Hid (∀ m, Below wt.heap.size wt (wr.drewN m)) := fun m => below_drewN HB5.out m
          have w8 : IntKind.i64.wrap (e1 : Int) = (e1 : Int) := IntWalk.i64_in _ (by have := HEE.out; omega)
          clear HO HB5
          go_upto_region 9 with fail
          go_quiet (fail)
          replace HOQ := Lib.hid (HOQ.out nq)
          replace HBQ := Lib.hid (HBQ.out nq)
          generalize wr.drewN nq = wq at *
          have hz : wt.heap.size ≤ wq.heap.size := HBQ.out.size
          clear a1 a2 a3 a4 c1 c2 c3 c4 c5' c6
          obtain ⟨bb, hbb⟩ : ∃ bb, (if k = 0 then e1 else b0) = bb := ⟨_, rfl⟩
          rw [hbb] at HMK
          obtain ⟨mn, hmn⟩ : ∃ mn, min a bb = mn := ⟨_, rfl⟩
          obtain ⟨mx, hmx⟩ : ∃ mx, max a bb = mx := ⟨_, rfl⟩
          rw [hmn, hmx] at HMK
          have HLP6 : Hid ((preT n r k).length ≤ 1000000) := by show _ ≤ _; have := HLP.out; have := HK3.out; omega
          by_cases g0 : k = 0
          · rw [if_pos g0] at hbb
            subst hbb
            have gk : ((k : Int) == 0) = true := by simp [g0]
            go_upto_region 12 with fail
            by_cases ga : a < n
            · by_cases gb : e1 < n
              · have gai : (a : Int) < (n : Int) := by omega
                have gbi : (e1 : Int) < (n : Int) := by omega
                rcases Nat.lt_trichotomy a e1 with gl | gl | gl
                · have l1 : (a : Int) < (e1 : Int) := by omega
                  have l2 : ¬ (e1 : Int) < (a : Int) := by omega
                  have HP : Hid (preT n r (k + 1) = preT n r k ++ [⟨(a : Int), (e1 : Int), 0⟩]) := by
                    show _ = _
                    refine preT_yes (p := (a, e1)) ?_
                    rw [HMK.out, if_pos ⟨ga, gb⟩, ← hmn, ← hmx]
                    congr 2 <;> omega
                  have hll : (preT n r k ++ [(⟨(a : Int), (e1 : Int), 0⟩ : Mt)]).length = (preT n r k).length + 1 := by simp
                  clear ga gb HMK hmn hmx gl
                  generalize preT n r k = pk at *
                  go_wp2_with (at_builtin; refine wpList_appT (t := 55) (e := 57) ⟨rfl, rfl⟩ (.tmp 50) (.tmp 58) rfl rfl wt.heap.size wq _ pk ⟨(a : Int), (e1 : Int), 0⟩ rfl rfl HOQ HLP6.out hz ?_; intro A9 c9 w9 HO9 HB9)
                  go_roundw
                  case rel => exact ⟨k + 1, A9, c9, by omega, by go_num, by rw [HP.out, hll], by rw [HP.out, hll]; exact HO9.out, HBQ.out.trans HB9.out⟩
                  case measure => simp [intOf]; omega
                · subst gl
                  have l1 : ¬ (a : Int) < (a : Int) := by omega
                  have l2 : (a : Int) ≤ (a : Int) := by omega
                  have HP : Hid (preT n r (k + 1) = preT n r k ++ [⟨(a : Int), (a : Int), 0⟩]) := by
                    show _ = _
                    refine preT_yes (p := (a, a)) ?_
                    rw [HMK.out, if_pos ⟨ga, gb⟩, ← hmn, ← hmx]
                    congr 2 <;> omega
                  have hll : (preT n r k ++ [(⟨(a : Int), (a : Int), 0⟩ : Mt)]).length = (preT n r k).length + 1 := by simp
                  clear ga gb HMK hmn hmx
                  generalize preT n r k = pk at *
                  go_wp2_with (at_builtin; refine wpList_appT (t := 55) (e := 57) ⟨rfl, rfl⟩ (.tmp 50) (.tmp 58) rfl rfl wt.heap.size wq _ pk ⟨(a : Int), (a : Int), 0⟩ rfl rfl HOQ HLP6.out hz ?_; intro A9 c9 w9 HO9 HB9)
                  go_roundw
                  case rel => exact ⟨k + 1, A9, c9, by omega, by go_num, by rw [HP.out, hll], by rw [HP.out, hll]; exact HO9.out, HBQ.out.trans HB9.out⟩
                  case measure => simp [intOf]; omega
                · have l1 : ¬ (a : Int) < (e1 : Int) := by omega
                  have l2 : (e1 : Int) < (a : Int) := by omega
                  have HP : Hid (preT n r (k + 1) = preT n r k ++ [⟨(e1 : Int), (a : Int), 0⟩]) := by
                    show _ = _
                    refine preT_yes (p := (e1, a)) ?_
                    rw [HMK.out, if_pos ⟨ga, gb⟩, ← hmn, ← hmx]
                    congr 2 <;> omega
                  have hll : (preT n r k ++ [(⟨(e1 : Int), (a : Int), 0⟩ : Mt)]).length = (preT n r k).length + 1 := by simp
                  clear ga gb HMK hmn hmx gl
                  generalize preT n r k = pk at *
                  go_wp2_with (at_builtin; refine wpList_appT (t := 55) (e := 57) ⟨rfl, rfl⟩ (.tmp 50) (.tmp 58) rfl rfl wt.heap.size wq _ pk ⟨(e1 : Int), (a : Int), 0⟩ rfl rfl HOQ HLP6.out hz ?_; intro A9 c9 w9 HO9 HB9)
                  go_roundw
                  case rel => exact ⟨k + 1, A9, c9, by omega, by go_num, by rw [HP.out, hll], by rw [HP.out, hll]; exact HO9.out, HBQ.out.trans HB9.out⟩
                  case measure => simp [intOf]; omega
              · have gai : (a : Int) < (n : Int) := by omega
                have gbi : ¬ (e1 : Int) < (n : Int) := by omega
                have gbd : decide ((e1 : Int) < (n : Int)) = false := decide_eq_false gbi
                have HP : Hid (preT n r (k + 1) = preT n r k) := preT_no (by rw [HMK.out, if_neg (fun h => gb h.2)])
                clear ga gb HMK
                go_wp2_with fail
                go_roundw
                case rel => exact ⟨k + 1, A5, c5, by omega, by go_num, by rw [HP.out], by rw [HP.out]; exact HOQ.out, HBQ.out⟩
                case measure => simp [intOf]; omega
            · have gai : ¬ (a : Int) < (n : Int) := by omega
              have gad : decide ((a : Int) < (n : Int)) = false := decide_eq_false gai
              have HP : Hid (preT n r (k + 1) = preT n r k) := preT_no (by rw [HMK.out, if_neg (fun h => ga h.1)])
              clear ga HMK
              go_wp2_with fail
              go_roundw
              case rel => exact ⟨k + 1, A5, c5, by omega, by go_num, by rw [HP.out], by rw [HP.out]; exact HOQ.out, HBQ.out⟩
              case measure => simp [intOf]; omega
          · rw [if_neg g0] at hbb
            subst hbb
            have gk : ((k : Int) == 0) = false := by simp; omega
            go_upto_region 12 with fail
            by_cases ga : a < n
            · by_cases gb : b0 < n
              · have gai : (a : Int) < (n : Int) := by omega
                have gbi : (b0 : Int) < (n : Int) := by omega
                rcases Nat.lt_trichotomy a b0 with gl | gl | gl
                · have l1 : (a : Int) < (b0 : Int) := by omega
                  have l2 : ¬ (b0 : Int) < (a : Int) := by omega
                  have HP : Hid (preT n r (k + 1) = preT n r k ++ [⟨(a : Int), (b0 : Int), 0⟩]) := by
                    show _ = _
                    refine preT_yes (p := (a, b0)) ?_
                    rw [HMK.out, if_pos ⟨ga, gb⟩, ← hmn, ← hmx]
                    congr 2 <;> omega
                  have hll : (preT n r k ++ [(⟨(a : Int), (b0 : Int), 0⟩ : Mt)]).length = (preT n r k).length + 1 := by simp
                  clear ga gb HMK hmn hmx gl
                  generalize preT n r k = pk at *
                  go_wp2_with (at_builtin; refine wpList_appT (t := 55) (e := 57) ⟨rfl, rfl⟩ (.tmp 50) (.tmp 58) rfl rfl wt.heap.size wq _ pk ⟨(a : Int), (b0 : Int), 0⟩ rfl rfl HOQ HLP6.out hz ?_; intro A9 c9 w9 HO9 HB9)
                  go_roundw
                  case rel => exact ⟨k + 1, A9, c9, by omega, by go_num, by rw [HP.out, hll], by rw [HP.out, hll]; exact HO9.out, HBQ.out.trans HB9.out⟩
                  case measure => simp [intOf]; omega
                · subst gl
                  have l1 : ¬ (a : Int) < (a : Int) := by omega
                  have l2 : (a : Int) ≤ (a : Int) := by omega
                  have HP : Hid (preT n r (k + 1) = preT n r k ++ [⟨(a : Int), (a : Int), 0⟩]) := by
                    show _ = _
                    refine preT_yes (p := (a, a)) ?_
                    rw [HMK.out, if_pos ⟨ga, gb⟩, ← hmn, ← hmx]
                    congr 2 <;> omega
                  have hll : (preT n r k ++ [(⟨(a : Int), (a : Int), 0⟩ : Mt)]).length = (preT n r k).length + 1 := by simp
                  clear ga gb HMK hmn hmx
                  generalize preT n r k = pk at *
                  go_wp2_with (at_builtin; refine wpList_appT (t := 55) (e := 57) ⟨rfl, rfl⟩ (.tmp 50) (.tmp 58) rfl rfl wt.heap.size wq _ pk ⟨(a : Int), (a : Int), 0⟩ rfl rfl HOQ HLP6.out hz ?_; intro A9 c9 w9 HO9 HB9)
                  go_roundw
                  case rel => exact ⟨k + 1, A9, c9, by omega, by go_num, by rw [HP.out, hll], by rw [HP.out, hll]; exact HO9.out, HBQ.out.trans HB9.out⟩
                  case measure => simp [intOf]; omega
                · have l1 : ¬ (a : Int) < (b0 : Int) := by omega
                  have l2 : (b0 : Int) < (a : Int) := by omega
                  have HP : Hid (preT n r (k + 1) = preT n r k ++ [⟨(b0 : Int), (a : Int), 0⟩]) := by
                    show _ = _
                    refine preT_yes (p := (b0, a)) ?_
                    rw [HMK.out, if_pos ⟨ga, gb⟩, ← hmn, ← hmx]
                    congr 2 <;> omega
                  have hll : (preT n r k ++ [(⟨(b0 : Int), (a : Int), 0⟩ : Mt)]).length = (preT n r k).length + 1 := by simp
                  clear ga gb HMK hmn hmx gl
                  generalize preT n r k = pk at *
                  go_wp2_with (at_builtin; refine wpList_appT (t := 55) (e := 57) ⟨rfl, rfl⟩ (.tmp 50) (.tmp 58) rfl rfl wt.heap.size wq _ pk ⟨(b0 : Int), (a : Int), 0⟩ rfl rfl HOQ HLP6.out hz ?_; intro A9 c9 w9 HO9 HB9)
                  go_roundw
                  case rel => exact ⟨k + 1, A9, c9, by omega, by go_num, by rw [HP.out, hll], by rw [HP.out, hll]; exact HO9.out, HBQ.out.trans HB9.out⟩
                  case measure => simp [intOf]; omega
              · have gai : (a : Int) < (n : Int) := by omega
                have gbi : ¬ (b0 : Int) < (n : Int) := by omega
                have gbd : decide ((b0 : Int) < (n : Int)) = false := decide_eq_false gbi
                have HP : Hid (preT n r (k + 1) = preT n r k) := preT_no (by rw [HMK.out, if_neg (fun h => gb h.2)])
                clear ga gb HMK
                go_wp2_with fail
                go_roundw
                case rel => exact ⟨k + 1, A5, c5, by omega, by go_num, by rw [HP.out], by rw [HP.out]; exact HOQ.out, HBQ.out⟩
                case measure => simp [intOf]; omega
            · have gai : ¬ (a : Int) < (n : Int) := by omega
              have gad : decide ((a : Int) < (n : Int)) = false := decide_eq_false gai
              have HP : Hid (preT n r (k + 1) = preT n r k) := preT_no (by rw [HMK.out, if_neg (fun h => ga h.1)])
              clear ga HMK
              go_wp2_with fail
              go_roundw
              case rel => exact ⟨k + 1, A5, c5, by omega, by go_num, by rw [HP.out], by rw [HP.out]; exact HOQ.out, HBQ.out⟩
              case measure => simp [intOf]; omega
        · obtain rfl : k = hf := by omega
          have h2i : ¬ (k : Int) < (k : Int) := by omega
          have HE : Hid ((rowT n r).length = (preT n r k).length) := by show _ = _; rw [HRW.out r]
          have HO2 : Hid (OwnT 57 wt.heap.size wr (.slice A5 (preT n r k).length c5) (rowT n r)) := by
            show OwnT _ _ _ _ _
            rw [← HRW.out r]
            exact HO.out
          have hr1 : r ≤ 1000000 := by have := HR6.out; omega
          have hzw : w.heap.size ≤ wt.heap.size := HB.out.size
          clear HO HM
          generalize (preT n r k).length = ln at *
          go_wp2_with (at_builtin; refine wpList_app_rowT (.tmp 61) (.tmp 63) rfl rfl w.heap.size wt wr _ r vs (rowT n) A5 _ c5 rfl rfl HRt HE.out HO2 HB5 hr1 hzw ?_; intro A9 c9 vs9 w9 HR9 HB9)
          go_roundw
          case rel => exact ⟨r + 1, A9, c9, vs9, by omega, by go_num, rfl, HR9.out, HB.out.trans HB9.out⟩
          case measure => simp [intOf]; omega
    · obtain rfl : r = R := by omega
      have h1i : ¬ (r : Int) < (r : Int) := by omega
      go_wp2_with fail
      go_ret
      exact ⟨A, c, vs, by rw [HRR.out]; rfl, by rw [HRR.out]; exact HRt.out, HB.out⟩
end

section

open Go.RowKit
set_option linter.unusedSimpArgs false
set_option linter.unusedVariables false

attribute [local go_sem] Oper.semAt_some
/-- The uses of lanes: a value; a box. -/
def uV (D : Nat → Int) : Value := .agg #[.int .i64 (D 0), .int .i64 (D 1), .int .i64 (D 2), .int .i64 (D 3), .int .i64 (D 4), .int .i64 (D 5), .int .i64 (D 6), .int .i64 (D 7), .int .i64 (D 8), .int .i64 (D 9), .int .i64 (D 10), .int .i64 (D 11), .int .i64 (D 12), .int .i64 (D 13), .int .i64 (D 14), .int .i64 (D 15), .int .i64 (D 16), .int .i64 (D 17)]
def UAt (W : World) (b : Nat) (D : Nat → Int) : Prop := W.heap[b]? = some (.cells #[.int .i64 (D 0), .int .i64 (D 1), .int .i64 (D 2), .int .i64 (D 3), .int .i64 (D 4), .int .i64 (D 5), .int .i64 (D 6), .int .i64 (D 7), .int .i64 (D 8), .int .i64 (D 9), .int .i64 (D 10), .int .i64 (D 11), .int .i64 (D 12), .int .i64 (D 13), .int .i64 (D 14), .int .i64 (D 15), .int .i64 (D 16), .int .i64 (D 17)] 110)
section
variable {W W' : World} {b : Nat} {D : Nat → Int}
theorem UAt.lt (h : UAt W b D) : b < W.heap.size := (Array.getElem?_eq_some_iff.1 h).1
theorem UAt.step (h : UAt W b D) (hb : Below W.heap.size W W') : UAt W' b D := (hb.block b h.lt).trans h
theorem UAt.low {B : Nat} (h : UAt W b D) (hb : Below B W W') (hq : b < B) : UAt W' b D := (hb.block b hq).trans h
theorem UAt.cell (h : UAt W b D) {k : Nat} (hk : k < 18) : W.cell? ⟨b, k, none⟩ = some (.int .i64 (D k)) ∧ W.frozen? ⟨b, k, none⟩ = false := by
  unfold UAt at h
  have : k = 0 ∨ k = 1 ∨ k = 2 ∨ k = 3 ∨ k = 4 ∨ k = 5 ∨ k = 6 ∨ k = 7 ∨ k = 8 ∨ k = 9 ∨ k = 10 ∨ k = 11 ∨ k = 12 ∨ k = 13 ∨ k = 14 ∨ k = 15 ∨ k = 16 ∨ k = 17 := by omega
  rcases this with rfl | rfl | rfl | rfl | rfl | rfl | rfl | rfl | rfl | rfl | rfl | rfl | rfl | rfl | rfl | rfl | rfl | rfl <;> simp [World.cell?, World.frozen?, h]
theorem UAt.set (h : UAt W b D) {k : Nat} (hk : k < 18) (v : Int) : UAt (W.setCell ⟨b, k, none⟩ (.int .i64 v)) b (updI' D k v) := by
  unfold UAt at h ⊢
  have : k = 0 ∨ k = 1 ∨ k = 2 ∨ k = 3 ∨ k = 4 ∨ k = 5 ∨ k = 6 ∨ k = 7 ∨ k = 8 ∨ k = 9 ∨ k = 10 ∨ k = 11 ∨ k = 12 ∨ k = 13 ∨ k = 14 ∨ k = 15 ∨ k = 16 ∨ k = 17 := by omega
  rcases this with rfl | rfl | rfl | rfl | rfl | rfl | rfl | rfl | rfl | rfl | rfl | rfl | rfl | rfl | rfl | rfl | rfl | rfl <;> simp [World.setCell, Array.getElem?_modify, h, updI']
theorem rowD_len (D : Nat → Int) (t h : Nat) : (rowD D t h).length = h := by simp [rowD]
theorem UAt.ints (h : UAt W b D) {t k : Nat} (ht : t < 6) (hk : k ≤ 3) : Ints W.heap.size W (some ⟨b, t * 3, none⟩) (rowD D t k) := fun _ => by
  refine ⟨b, t * 3, rfl, h.lt, fun j hj => ?_⟩
  rw [rowD_len] at hj
  rw [(h.cell (k := t * 3 + j) (by omega)).1]
  simp [rowD, ix, hj]
end
theorem rowD_rng {D : Nat → Int} (hD : ∀ k, 0 ≤ D k ∧ D k ≤ 1000) {t h : Nat} : ∀ k, k < h → 0 ≤ maxK (rowD D t h) k ∧ maxK (rowD D t h) k ≤ 1000 ∧ 0 ≤ minK (rowD D t h) k ∧ minK (rowD D t h) k ≤ 1000
  | 0, hk => by
    have := hD (t * 3)
    simp [maxK, minK, rowD, ix, hk]
    omega
  | k + 1, hk => by
    obtain ⟨h1, h2, h3, h4⟩ := rowD_rng hD (t := t) k (by omega : k < h)
    have h5 : ix (rowD D t h) k = D (t * 3 + k) := by simp [rowD, ix, show k < h by omega]
    have := hD (t * 3 + k)
    simp only [maxK, minK, h5]
    omega
theorem rowD_rngL {D : Nat → Int} (hD : ∀ k, 0 ≤ D k ∧ D k ≤ 1000) {t h : Nat} (hh : 1 ≤ h) : 0 ≤ maxK (rowD D t h) h ∧ maxK (rowD D t h) h ≤ 1000 ∧ 0 ≤ minK (rowD D t h) h ∧ minK (rowD D t h) h ≤ 1000 := by
  obtain ⟨k, rfl⟩ : ∃ k, h = k + 1 := ⟨h - 1, by omega⟩
  obtain ⟨h1, h2, h3, h4⟩ := rowD_rng hD (t := t) k (by omega : k < k + 1)
  have h5 : ix (rowD D t (k + 1)) k = D (t * 3 + k) := by simp [rowD, ix]
  have := hD (t * 3 + k)
  simp only [maxK, minK, h5]
  omega
theorem unevK_rng {D : Nat → Int} (hD : ∀ k, 0 ≤ D k ∧ D k ≤ 1000) {h : Nat} (hh : 1 ≤ h) : ∀ t, 0 ≤ unevK D h t ∧ unevK D h t ≤ 1000
  | 0 => by simp [unevK]
  | t + 1 => by
    have := unevK_rng hD hh t
    obtain ⟨h1, h2, h3, h4⟩ := rowD_rngL hD (t := t) hh
    simp only [unevK]
    omega
set_option maxRecDepth 100000 in
set_option maxHeartbeats 4000000 in
theorem uneven67_c (D : Nat → Int) (n : Nat) (w : World) (hn : 2 ≤ n ∧ n ≤ 6) (hD : ∀ k, 0 ≤ D k ∧ D k ≤ 1000) : Calls Try.prog 67 #[.agg #[.int .i64 (D 0), .int .i64 (D 1), .int .i64 (D 2), .int .i64 (D 3), .int .i64 (D 4), .int .i64 (D 5), .int .i64 (D 6), .int .i64 (D 7), .int .i64 (D 8), .int .i64 (D 9), .int .i64 (D 10), .int .i64 (D 11), .int .i64 (D 12), .int .i64 (D 13), .int .i64 (D 14), .int .i64 (D 15), .int .i64 (D 16), .int .i64 (D 17)], .int .i64 (n : Int)] w (Ans w (.int .i64 (unevD D n))) := by
  have hb : Below w.heap.size w (w.alloc (.cells #[.int .i64 (D 0), .int .i64 (D 1), .int .i64 (D 2), .int .i64 (D 3), .int .i64 (D 4), .int .i64 (D 5), .int .i64 (D 6), .int .i64 (D 7), .int .i64 (D 8), .int .i64 (D 9), .int .i64 (D 10), .int .i64 (D 11), .int .i64 (D 12), .int .i64 (D 13), .int .i64 (D 14), .int .i64 (D 15), .int .i64 (D 16), .int .i64 (D 17)] 110)) := (Below.refl _ _).alloc (Nat.le_refl _) _
  have hu : UAt (w.alloc (.cells #[.int .i64 (D 0), .int .i64 (D 1), .int .i64 (D 2), .int .i64 (D 3), .int .i64 (D 4), .int .i64 (D 5), .int .i64 (D 6), .int .i64 (D 7), .int .i64 (D 8), .int .i64 (D 9), .int .i64 (D 10), .int .i64 (D 11), .int .i64 (D 12), .int .i64 (D 13), .int .i64 (D 14), .int .i64 (D 15), .int .i64 (D 16), .int .i64 (D 17)] 110)) w.heap.size D := World.alloc_heap_new _ _
  have HB := Lib.hid hb
  have HU := Lib.hid hu
  have HD := Lib.hid hD
  have HHL := Lib.hid (fun W => halls99_c n W hn)
  obtain ⟨h, hh⟩ : ∃ h, n / 2 = h := ⟨_, rfl⟩
  have HUV : Hid (unevD D n = unevK D h n) := by show _ = _; unfold unevD; rw [hh]
  rw [hh] at HHL
  have hh3 : 1 ≤ h ∧ h ≤ 3 := by omega
  clear hb hu hh hD
  go_enter Try.func67, Try.ntmps67
  go_wp2_with fail
  generalize (w.alloc (.cells #[.int .i64 (D 0), .int .i64 (D 1), .int .i64 (D 2), .int .i64 (D 3), .int .i64 (D 4), .int .i64 (D 5), .int .i64 (D 6), .int .i64 (D 7), .int .i64 (D 8), .int .i64 (D 9), .int .i64 (D 10), .int .i64 (D 11), .int .i64 (D 12), .int .i64 (D 13), .int .i64 (D 14), .int .i64 (D 15), .int .i64 (D 16), .int .i64 (D 17)] 110)) = x1 at *
  go_loopw [5, 9] (fun v i wr => ∃ t : Nat, t ≤ n ∧ i = .int .i64 t ∧ v = .int .i64 (unevK D h t) ∧ UAt wr w.heap.size D ∧ Below w.heap.size w wr) (fun _ i _ => n - (intOf i).toNat)
  case atStart => exact ⟨0, by omega, rfl, rfl, HU.out, HB.out⟩
  case round =>
    rename_i vv _
    obtain ⟨t, ht, rfl, rfl, hu, hb⟩ := hrel
    have HUR := Lib.hid hu
    have HBR := Lib.hid hb
    clear hu hb
    by_cases h1 : t < n
    · have h1i : (t : Int) < (n : Int) := by omega
      have ht6 : (t : Int) < 6 := by omega
      have hwt : IntKind.i64.wrap ((t : Int) + 1) = (t : Int) + 1 := IntWalk.i64_in _ (by omega)
      have hh3i : (h : Int) ≤ 3 := by omega
      go_upto_region 5 with fail
      go_quiet ((go_at_call 99; exact Calls.quiet_of_same ((HHL.out _).mono fun e w2 h => ⟨h.1, h.2.symm⟩)))
      replace HUR := Lib.hid (HUR.out.step (below_drewN (Below.refl _ _) nq))
      replace HBR : Hid (Below w.heap.size w (wr.drewN nq)) := below_drewN HBR.out nq
      generalize wr.drewN nq = wq at *
      have hI := HUR.out.ints (t := t) (k := h) (by omega) (by omega)
      have HMX : Hid (Calls Try.prog 100 #[.slice (some ⟨w.heap.size, t * 3, none⟩) h 3] wq (Same wq (.int .i64 (maxK (rowD D t h) h)))) := by
        have := max100_c _ 3 (rowD D t h) wq hI (by rw [rowD_len]; omega) (by rw [rowD_len]; omega)
        rwa [rowD_len] at this
      have HMN : Hid (Calls Try.prog 101 #[.slice (some ⟨w.heap.size, t * 3, none⟩) h 3] wq (Same wq (.int .i64 (minK (rowD D t h) h)))) := by
        have := min101_c _ 3 (rowD D t h) wq hI (by rw [rowD_len]; omega) (by rw [rowD_len]; omega)
        rwa [rowD_len] at this
      obtain ⟨r1, r2, r3, r4⟩ := rowD_rngL HD.out (t := t) (h := h) hh3.1
      have hws : IntKind.i64.wrap (maxK (rowD D t h) h - minK (rowD D t h) h) = maxK (rowD D t h) h - minK (rowD D t h) h := IntWalk.i64_in _ (by omega)
      have HUN : Hid (unevK D h (t + 1) = max (unevK D h t) (maxK (rowD D t h) h - minK (rowD D t h) h)) := rfl
      clear hI
      generalize maxK (rowD D t h) h = mx at *
      generalize minK (rowD D t h) h = mn at *
      generalize unevK D h t = uk at *
      go_wp2_with fail
      refine HMX.out.mono ?_
      rintro e w1 ⟨rfl, rfl⟩
      go_wp2_with fail
      refine HMN.out.mono ?_
      rintro e w1 ⟨rfl, rfl⟩
      go_wp2_with fail
      refine (great2 wq _ _).mono ?_
      rintro e w1 ⟨rfl, rfl⟩
      have hbq : Below wq.heap.size wq (wq.alloc (.cells #[.int .i64 uk, .int .i64 (mx - mn)] 3)) := (Below.refl _ _).alloc (Nat.le_refl _) _
      have HUF := Lib.hid (HUR.out.step hbq)
      have HBF : Hid (Below w.heap.size w (wq.alloc (.cells #[.int .i64 uk, .int .i64 (mx - mn)] 3))) := HBR.out.trans (hbq.mono HBR.out.size)
      clear hbq
      go_wp2_with fail
      go_roundw
      case rel => exact ⟨t + 1, by omega, by go_num, by rw [HUN.out], HUF.out, HBF.out⟩
      case measure => simp [intOf]; omega
    · obtain rfl : t = n := by omega
      have h1i : ¬ (t : Int) < (t : Int) := by omega
      go_wp2_with fail
      go_ret
      exact ⟨ret_int (by rw [HUV.out]), HBR.out⟩
theorem mostD_bad {D : Nat → Int} {n : Nat} {un : Int} {t l : Nat} (ht : t < n) (hl : l < n / 2) (h : badD D n (n / 2) un t l = true) : mostD D n un = false := by
  refine Bool.eq_false_iff.2 fun hm => ?_
  simp only [mostD, List.all_eq_true, List.mem_range] at hm
  have := hm t ht l hl
  rw [h] at this
  cases this
theorem mostD_ok {D : Nat → Int} {n : Nat} {un : Int} (h : ∀ t, t < n → ∀ l, l < n / 2 → badD D n (n / 2) un t l = false) : mostD D n un = true := by
  simp only [mostD, List.all_eq_true, List.mem_range]
  intro t ht l hl
  rw [h t ht l hl]
  rfl
set_option maxRecDepth 100000 in
set_option maxHeartbeats 4000000 in
theorem most98_c (D : Nat → Int) (n : Nat) (un : Int) (w : World) (hn : 2 ≤ n ∧ n ≤ 6) (hD : ∀ k, 0 ≤ D k ∧ D k ≤ 1000) (hun : 0 ≤ un ∧ un ≤ 1000) : Calls Try.prog 98 #[.agg #[.int .i64 (D 0), .int .i64 (D 1), .int .i64 (D 2), .int .i64 (D 3), .int .i64 (D 4), .int .i64 (D 5), .int .i64 (D 6), .int .i64 (D 7), .int .i64 (D 8), .int .i64 (D 9), .int .i64 (D 10), .int .i64 (D 11), .int .i64 (D 12), .int .i64 (D 13), .int .i64 (D 14), .int .i64 (D 15), .int .i64 (D 16), .int .i64 (D 17)], .int .i64 (n : Int), .int .i64 un] w (Ans w (.bool (mostD D n un))) := by
  have hb : Below w.heap.size w (w.alloc (.cells #[.int .i64 (D 0), .int .i64 (D 1), .int .i64 (D 2), .int .i64 (D 3), .int .i64 (D 4), .int .i64 (D 5), .int .i64 (D 6), .int .i64 (D 7), .int .i64 (D 8), .int .i64 (D 9), .int .i64 (D 10), .int .i64 (D 11), .int .i64 (D 12), .int .i64 (D 13), .int .i64 (D 14), .int .i64 (D 15), .int .i64 (D 16), .int .i64 (D 17)] 110)) := (Below.refl _ _).alloc (Nat.le_refl _) _
  have hu : UAt (w.alloc (.cells #[.int .i64 (D 0), .int .i64 (D 1), .int .i64 (D 2), .int .i64 (D 3), .int .i64 (D 4), .int .i64 (D 5), .int .i64 (D 6), .int .i64 (D 7), .int .i64 (D 8), .int .i64 (D 9), .int .i64 (D 10), .int .i64 (D 11), .int .i64 (D 12), .int .i64 (D 13), .int .i64 (D 14), .int .i64 (D 15), .int .i64 (D 16), .int .i64 (D 17)] 110)) w.heap.size D := World.alloc_heap_new _ _
  have HB := Lib.hid hb
  have HU := Lib.hid hu
  have HD := Lib.hid hD
  have HHL := Lib.hid (fun W => halls99_c n W hn)
  have HBAD := Lib.hid (fun t l h1 h2 h3 => mostD_bad (D := D) (n := n) (un := un) (t := t) (l := l) h1 h2 h3)
  have HOK := Lib.hid (fun h => mostD_ok (D := D) (n := n) (un := un) h)
  obtain ⟨h, hh⟩ : ∃ h, n / 2 = h := ⟨_, rfl⟩
  rw [hh] at HHL HBAD HOK
  have hh3 : 1 ≤ h ∧ h ≤ 3 := by omega
  have hwh : IntKind.i64.wrap ((h : Int) - 1) = (h : Int) - 1 := IntWalk.i64_in _ (by omega)
  have hwn : IntKind.i64.wrap ((n : Int) - 1) = (n : Int) - 1 := IntWalk.i64_in _ (by omega)
  have hh3i : (h : Int) ≤ 3 := by omega
  clear hb hu hh hD
  go_enter Try.func98, Try.ntmps98
  go_wp2_with fail
  generalize (w.alloc (.cells #[.int .i64 (D 0), .int .i64 (D 1), .int .i64 (D 2), .int .i64 (D 3), .int .i64 (D 4), .int .i64 (D 5), .int .i64 (D 6), .int .i64 (D 7), .int .i64 (D 8), .int .i64 (D 9), .int .i64 (D 10), .int .i64 (D 11), .int .i64 (D 12), .int .i64 (D 13), .int .i64 (D 14), .int .i64 (D 15), .int .i64 (D 16), .int .i64 (D 17)] 110)) = x1 at *
  go_loopw [12] (fun i wr => ∃ t : Nat, t ≤ n ∧ i = .int .i64 t ∧ (∀ t', t' < t → ∀ l, l < h → badD D n h un t' l = false) ∧ UAt wr w.heap.size D ∧ Below w.heap.size w wr) (fun i _ => n - (intOf i).toNat)
  case atStart => exact ⟨0, by omega, rfl, fun t' h' => by omega, HU.out, HB.out⟩
  case round =>
    obtain ⟨t, ht, rfl, hno, hu, hb⟩ := hrel
    have HUR := Lib.hid hu
    have HBR := Lib.hid hb
    have HNO := Lib.hid hno
    clear hu hb hno
    by_cases h1 : t < n
    · have h1i : (t : Int) < (n : Int) := by omega
      have ht6 : (t : Int) < 6 := by omega
      have hwt : IntKind.i64.wrap ((t : Int) + 1) = (t : Int) + 1 := IntWalk.i64_in _ (by omega)
      go_upto_region 4 with fail
      go_quiet ((go_at_call 99; exact Calls.quiet_of_same ((HHL.out _).mono fun e w2 h => ⟨h.1, h.2.symm⟩)))
      replace HUR := Lib.hid (HUR.out.step (below_drewN (Below.refl _ _) nq))
      replace HBR : Hid (Below w.heap.size w (wr.drewN nq)) := below_drewN HBR.out nq
      generalize wr.drewN nq = wq at *
      go_wp2_with fail
      go_loopw [21] (fun i wr => ∃ l : Nat, l ≤ h ∧ i = .int .i64 l ∧ (∀ l', l' < l → badD D n h un t l' = false) ∧ UAt wr w.heap.size D ∧ Below w.heap.size w wr) (fun i _ => h - (intOf i).toNat)
      case atStart => exact ⟨0, by omega, rfl, fun t' h' => by omega, HUR.out, HBR.out⟩
      case round =>
        clear HUR HBR
        obtain ⟨l, hl, rfl, hno, hu, hb⟩ := hrel
        have HUR := Lib.hid hu
        have HBR := Lib.hid hb
        have HNL := Lib.hid hno
        clear hu hb hno
        by_cases h2 : l < h
        · have h2i : (l : Int) < (h : Int) := by omega
          have hwl : IntKind.i64.wrap ((l : Int) + 1) = (l : Int) + 1 := IntWalk.i64_in _ (by omega)
          obtain ⟨c0, -⟩ := HUR.out.cell (k := t * 3 + l) (by omega)
          have hdk := HD.out (t * 3 + l)
          have HBD : Hid (badD D n h un t l = (decide (((n : Int) - 1 - D (t * 3 + l)).tdiv (max 1 ((h : Int) - 1)) < D (t * 3 + l) - un) && decide (1 < h))) := rfl
          have HBY := Lib.hid (HBAD.out t l h1 h2)
          obtain ⟨m, hm⟩ : ∃ m, max 1 ((h : Int) - 1) = m := ⟨_, rfl⟩
          have hm1 : 1 ≤ m := by omega
          rw [hm] at HBD
          generalize D (t * 3 + l) = dk at *
          obtain ⟨q, hq⟩ : ∃ q, ((n : Int) - 1 - dk).tdiv m = q := ⟨_, rfl⟩
          have hqb : q.natAbs ≤ ((n : Int) - 1 - dk).natAbs := by rw [← hq]; exact Int.natAbs_tdiv_le_natAbs _ _
          rw [hq] at HBD
          have hw1 : IntKind.i64.wrap ((n : Int) - 1 - dk) = (n : Int) - 1 - dk := IntWalk.i64_in _ (by omega)
          have hw2 : IntKind.i64.wrap (dk - un) = dk - un := IntWalk.i64_in _ (by omega)
          have hw3 : IntKind.i64.wrap q = q := IntWalk.i64_in _ (by omega)
          have hm0 : ¬ m = 0 := by omega
          have HG := Lib.hid (great2 wr 1 ((h : Int) - 1))
          rw [hm] at HG
          have hba : Below wr.heap.size wr (wr.alloc (.cells #[.int .i64 1, .int .i64 ((h : Int) - 1)] 3)) := (Below.refl _ _).alloc (Nat.le_refl _) _
          have HUF := Lib.hid (HUR.out.step hba)
          have HBF : Hid (Below w.heap.size w (wr.alloc (.cells #[.int .i64 1, .int .i64 ((h : Int) - 1)] 3))) := HBR.out.trans (hba.mono HBR.out.size)
          clear hba hm hqb hdk
          by_cases h3 : q < dk - un
          · by_cases h4 : 1 < h
            · have h4i : (1 : Int) < (h : Int) := by omega
              have HF : Hid (mostD D n un = false) := HBY.out (by rw [HBD.out, decide_eq_true h3, decide_eq_true h4]; rfl)
              go_wp2_with fail
              refine (HHL.out _).mono ?_
              rintro e w5 ⟨rfl, rfl⟩
              go_wp2_with fail
              refine HG.out.mono ?_
              rintro e w5 ⟨rfl, rfl⟩
              go_wp2_with fail
              refine (HHL.out _).mono ?_
              rintro e w5 ⟨rfl, rfl⟩
              go_wp2_with fail
              go_ret
              exact ⟨ret_bool HF.out.symm, HBF.out⟩
            · have h4i : ¬ (1 : Int) < (h : Int) := by omega
              have HF : Hid (badD D n h un t l = false) := by show _ = _; rw [HBD.out, decide_eq_false h4, Bool.and_false]
              go_wp2_with fail
              refine (HHL.out _).mono ?_
              rintro e w5 ⟨rfl, rfl⟩
              go_wp2_with fail
              refine HG.out.mono ?_
              rintro e w5 ⟨rfl, rfl⟩
              go_wp2_with fail
              refine (HHL.out _).mono ?_
              rintro e w5 ⟨rfl, rfl⟩
              go_wp2_with fail
              go_roundw
              case rel => exact ⟨l + 1, by omega, by go_num, fun l' hl' => (by rcases Nat.lt_or_ge l' l with e | e; exact HNL.out l' e; rw [show l' = l by omega]; exact HF.out), HUF.out, HBF.out⟩
              case measure => simp [intOf]; omega
          · have h3d : decide (q < dk - un) = false := decide_eq_false h3
            have HF : Hid (badD D n h un t l = false) := by show _ = _; rw [HBD.out, decide_eq_false h3, Bool.false_and]
            go_wp2_with fail
            refine (HHL.out _).mono ?_
            rintro e w5 ⟨rfl, rfl⟩
            go_wp2_with fail
            refine HG.out.mono ?_
            rintro e w5 ⟨rfl, rfl⟩
            go_wp2_with fail
            go_roundw
            case rel => exact ⟨l + 1, by omega, by go_num, fun l' hl' => (by rcases Nat.lt_or_ge l' l with e | e; exact HNL.out l' e; rw [show l' = l by omega]; exact HF.out), HUF.out, HBF.out⟩
            case measure => simp [intOf]; omega
        · obtain rfl : l = h := by omega
          have h2i : ¬ (l : Int) < (l : Int) := by omega
          go_wp2_with fail
          go_roundw
          case rel => exact ⟨t + 1, by omega, by go_num, fun t' ht' => (by rcases Nat.lt_or_ge t' t with e | e; exact HNO.out t' e; rw [show t' = t by omega]; exact HNL.out), HUR.out, HBR.out⟩
          case measure => simp [intOf]; omega
    · obtain rfl : t = n := by omega
      have h1i : ¬ (t : Int) < (t : Int) := by omega
      go_wp2_with fail
      go_ret
      exact ⟨ret_bool (HOK.out HNO.out).symm, HBR.out⟩
end

section

open Go.RowKit
set_option linter.unusedSimpArgs false
set_option linter.unusedVariables false

attribute [local go_sem] Oper.semAt_some
def dnB (D : Nat → Bool) (m : Nat) : List Value := (List.range m).map fun k => Value.bool (D k)
/-- Block g holds m numbers. -/
def DnB (w : World) (g : Nat) (D : Nat → Bool) (m : Nat) : Prop := w.heap[g]? = some (.cells (dnB D m).toArray 4)
theorem DnB.lt {w : World} {g m : Nat} {D : Nat → Bool} (h : DnB w g D m) : g < w.heap.size := (Array.getElem?_eq_some_iff.1 h).1
theorem DnB.step {w w' : World} {g m : Nat} {D : Nat → Bool} (h : DnB w g D m) (hb : Below w.heap.size w w') : DnB w' g D m := (hb.block g h.lt).trans h
theorem DnB.cell {w : World} {g m : Nat} {D : Nat → Bool} (h : DnB w g D m) {p : Nat} (hp : p < m) : w.cell? ⟨g, p, none⟩ = some (.bool (D p)) ∧ w.frozen? ⟨g, p, none⟩ = false := by
  unfold DnB at h
  refine ⟨?_, by simp [World.frozen?, h]⟩
  simp [World.cell?, h, dnB, hp]
theorem DnB.set {w : World} {g m : Nat} {D : Nat → Bool} (h : DnB w g D m) (p : Nat) (b : Bool) : DnB (w.setCell ⟨g, p, none⟩ (.bool b)) g (updB D p b) m := by
  have e : ((dnB D m).toArray.setIfInBounds p (.bool b)) = (dnB (updB D p b) m).toArray := by
    refine Array.ext (by simp [dnB]) fun i h1 h2 => ?_
    simp only [Array.getElem_setIfInBounds, List.getElem_toArray]
    by_cases e : p = i
    · subst e; simp [dnB, updB]
    · simp [dnB, updB, e, Ne.symm e]
  unfold DnB at h ⊢
  rw [← e]
  simp [World.setCell, Array.getElem?_modify, h]
theorem dnB_new (w : World) (m : Nat) : DnB (w.alloc (.cells (madeCells #[.bool false] m) 4)) w.heap.size (fun _ => false) m := by
  have e : madeCells #[.bool false] m = (dnB (fun _ => false) m).toArray := by
    refine Array.toList_inj.1 ?_
    rw [toList_madeCells_one]
    refine List.ext_getElem (by simp [dnB]) fun i h1 h2 => ?_
    simp [dnB]
  unfold DnB
  rw [← e]
  exact World.alloc_heap_new _ _
theorem DnB.congr {w : World} {g m : Nat} {D D' : Nat → Bool} (h : DnB w g D m) (e : ∀ k, k < m → D k = D' k) : DnB w g D' m := by
  have : dnB D m = dnB D' m := List.map_congr_left fun k hk => by rw [e k (List.mem_range.1 hk)]
  unfold DnB at h ⊢
  rw [← this]
  exact h
/-- What give has captured: blocks of the boxes; the rows' blocks; the matches. -/
structure GC where
  n : Nat
  un : Int
  L : List (List (Nat × Nat))
  go : Nat
  co : Nat
  G : Nat → Nat
  C : Nat → Nat
  bl : Nat
  bu : Nat
  bn : Nat
  be : Nat
  bf : Nat
structure GC.Ok (k : GC) : Prop where
  hn : 2 ≤ k.n ∧ k.n ≤ 6
  hun : 0 ≤ k.un ∧ k.un ≤ 1000
  inj : ∀ r r', r < k.L.length → r' < k.L.length → k.G r = k.G r' → r = r'
  ne : ∀ r, r < k.L.length → k.G r ≠ k.go ∧ k.G r ≠ k.bl ∧ k.G r ≠ k.bu ∧ k.G r ≠ k.bn ∧ k.G r ≠ k.be ∧ k.G r ≠ k.bf
  nu : k.bu ≠ k.go ∧ k.bu ≠ k.bl ∧ k.bu ≠ k.bn ∧ k.bu ≠ k.be ∧ k.bu ≠ k.bf
  hL : ∀ r, r < k.L.length → ∀ i, i < lenr k.L r → (prs k.L r i).1 < 6 ∧ (prs k.L r i).2 < 6
  hc : k.L.length ≤ k.co ∧ k.co ≤ 9223372036854775807 ∧ k.L.length ≤ 1000
  hp : ∀ r, r < k.L.length → 0 < lenr k.L r
  hr : ∀ r, r < k.L.length → lenr k.L r ≤ k.C r ∧ k.C r ≤ 9223372036854775807 ∧ lenr k.L r ≤ 1000
structure GSt (k : GC) (w : World) (D : Nat → Int) (ln : Nat → Nat → Int) : Prop where
  cl : w.cell? ⟨k.bl, 0, none⟩ = some (.slice (some ⟨k.go, 0, none⟩) k.L.length k.co)
  cn : w.cell? ⟨k.bn, 0, none⟩ = some (.int .i64 k.n)
  ce : w.cell? ⟨k.be, 0, none⟩ = some (.int .i64 k.un)
  cf : w.cell? ⟨k.bf, 0, none⟩ = some (.func (.func 97) #[] #[.pointer (some ⟨k.bl, 0, none⟩), .pointer (some ⟨k.bu, 0, none⟩), .pointer (some ⟨k.bn, 0, none⟩), .pointer (some ⟨k.be, 0, none⟩), .pointer (some ⟨k.bf, 0, none⟩)])
  out : ∀ r, r < k.L.length → w.cell? ⟨k.go, r, none⟩ = some (.slice (some ⟨k.G r, 0, none⟩) (lenr k.L r) (k.C r))
  row : ∀ r, r < k.L.length → ∀ i, i < lenr k.L r → (w.cell? ⟨k.G r, i * 3, none⟩ = some (.int .i64 (prs k.L r i).1) ∧ w.cell? ⟨k.G r, i * 3 + 1, none⟩ = some (.int .i64 (prs k.L r i).2) ∧ w.cell? ⟨k.G r, i * 3 + 2, none⟩ = some (.int .i64 (ln r i))) ∧ w.frozen? ⟨k.G r, i * 3 + 2, none⟩ = false
  us : UAt w k.bu D
def Sg (k : GC) (i : Nat) : Prop := i = k.bu ∨ ∃ r, r < k.L.length ∧ i = k.G r
/-- A block that is none of the state's. -/
def Apart (k : GC) (b : Nat) : Prop := b ≠ k.bl ∧ b ≠ k.bn ∧ b ≠ k.be ∧ b ≠ k.bf ∧ b ≠ k.go ∧ b ≠ k.bu ∧ ∀ r, r < k.L.length → b ≠ k.G r
section
variable {k : GC} {w w' w2 : World} {D : Nat → Int} {ln : Nat → Nat → Int} {tk : Nat → Bool} {tb h : Nat}
theorem GSt.step (s : GSt k w D ln) (hb : Below w.heap.size w w') : GSt k w' D ln :=
  ⟨cell_of_ans hb s.cl, cell_of_ans hb s.cn, cell_of_ans hb s.ce, cell_of_ans hb s.cf, fun r hr => cell_of_ans hb (s.out r hr), fun r hr i hi => by
    obtain ⟨⟨a, b, c⟩, d⟩ := s.row r hr i hi
    refine ⟨⟨cell_of_ans hb a, cell_of_ans hb b, cell_of_ans hb c⟩, ?_⟩
    have := (bcell hb).2 (k.G r) (i * 3 + 2) (World.block_lt_of_cell? _ _ a)
    rw [this, d], s.us.step hb⟩
theorem GSt.lts (s : GSt k w D ln) : k.bl < w.heap.size ∧ k.bn < w.heap.size ∧ k.be < w.heap.size ∧ k.bf < w.heap.size ∧ k.bu < w.heap.size ∧ (∀ r, r < k.L.length → k.go < w.heap.size) ∧ ∀ r, r < k.L.length → 0 < lenr k.L r → k.G r < w.heap.size :=
  ⟨World.block_lt_of_cell? _ _ s.cl, World.block_lt_of_cell? _ _ s.cn, World.block_lt_of_cell? _ _ s.ce, World.block_lt_of_cell? _ _ s.cf, s.us.lt, fun r hr => World.block_lt_of_cell? _ _ (s.out r hr), fun r hr h => World.block_lt_of_cell? _ _ (s.row r hr 0 h).1.1⟩
theorem GSt.setFar (s : GSt k w D ln) {b : Nat} (hb : Apart k b) (o : Nat) (v : Value) : GSt k (w.setCell ⟨b, o, none⟩ v) D ln := by
  obtain ⟨h1, h2, h3, h4, h5, h6, h7⟩ := hb
  refine ⟨cell_set_keep s.cl h1, cell_set_keep s.cn h2, cell_set_keep s.ce h3, cell_set_keep s.cf h4, fun r hr => cell_set_keep (s.out r hr) h5, fun r hr i hi => ?_, ?_⟩
  · obtain ⟨⟨a, b, c⟩, d⟩ := s.row r hr i hi
    exact ⟨⟨cell_set_keep a (h7 r hr), cell_set_keep b (h7 r hr), cell_set_keep c (h7 r hr)⟩, by rw [World.frozen?_setCell]; exact d⟩
  · exact (Below.heap_setCell w ⟨b, o, none⟩ v k.bu (fun e => h6 e.symm)).trans s.us
theorem GSt.setU (s : GSt k w D ln) (hk : k.Ok) {p : Nat} (hp : p < 18) (v : Int) : GSt k (w.setCell ⟨k.bu, p, none⟩ (.int .i64 v)) (updI' D p v) ln := by
  obtain ⟨h1, h2, h3, h4, h5⟩ := hk.nu
  refine ⟨cell_set_keep s.cl h2, cell_set_keep s.cn h3, cell_set_keep s.ce h4, cell_set_keep s.cf h5, fun r hr => cell_set_keep (s.out r hr) h1, fun r hr i hi => ?_, s.us.set hp v⟩
  obtain ⟨⟨a, b, c⟩, d⟩ := s.row r hr i hi
  have h7 := (hk.ne r hr).2.2.1
  exact ⟨⟨cell_set_keep a (Ne.symm h7), cell_set_keep b (Ne.symm h7), cell_set_keep c (Ne.symm h7)⟩, by rw [World.frozen?_setCell]; exact d⟩
theorem GSt.setL (s : GSt k w D ln) (hk : k.Ok) {r i : Nat} (hr : r < k.L.length) (hi : i < lenr k.L r) (v : Int) : GSt k (w.setCell ⟨k.G r, i * 3 + 2, none⟩ (.int .i64 v)) D (upd2 ln r i v) := by
  obtain ⟨h1, h2, h3, h4, h5, h6⟩ := hk.ne r hr
  refine ⟨cell_set_keep s.cl h2, cell_set_keep s.cn h4, cell_set_keep s.ce h5, cell_set_keep s.cf h6, fun r' hr' => cell_set_keep (s.out r' hr') h1, fun r' hr' i' hi' => ?_, ?_⟩
  · obtain ⟨⟨a, b, c⟩, d⟩ := s.row r' hr' i' hi'
    rw [World.frozen?_setCell]
    refine ⟨?_, d⟩
    by_cases e : r' = r
    · subst e
      refine ⟨(World.cell?_setCell_other w _ _ _ (fun e => by injection e; omega)).trans a, (World.cell?_setCell_other w _ _ _ (fun e => by injection e; omega)).trans b, ?_⟩
      by_cases e2 : i' = i
      · subst e2
        rw [World.cell?_setCell_same w _ _ c]
        simp [upd2]
      · rw [World.cell?_setCell_other w _ _ _ (fun e => by injection e; omega), c]
        simp [upd2, e2]
    · have e3 : k.G r ≠ k.G r' := fun e4 => e (hk.inj r r' hr hr' e4).symm
      refine ⟨cell_set_keep a e3, cell_set_keep b e3, ?_⟩
      rw [cell_set_keep c e3]
      simp [upd2, e]
  · exact (Below.heap_setCell w ⟨k.G r, i * 3 + 2, none⟩ (.int .i64 v) k.bu (fun e => h3 e.symm)).trans s.us
theorem DnB.setFar (s : DnB w tb tk h) {p : Addr} (hp : p.block ≠ tb) (v : Value) : DnB (w.setCell p v) tb tk h := (Below.heap_setCell w p v tb (fun e => hp e.symm)).trans s
theorem Chg.set (w : World) {S : Nat → Prop} {p : Addr} (hp : S p.block) (v : Value) : Chg w (w.setCell p v) S := ⟨rfl, rfl, rfl, by simp [World.setCell], fun i _ hn => Below.heap_setCell w p v i (fun e => hn (e ▸ hp))⟩
/-- What give does: res, and what lies in the lanes' places. -/
def GPost (k : GC) (w : World) (tb h : Nat) (tk : Nat → Bool) (D : Nat → Int) (res : Bool × (Nat → Nat → Int)) (e : Ending) (w' : World) : Prop :=
  e = .returned (.bool res.1) ∧ (∃ D', GSt k w' D' res.2 ∧ (res.1 = false → D' = D)) ∧ (res.1 = false → DnB w' tb tk h) ∧ Chg w w' (fun i => Sg k i ∨ i = tb)
theorem upd_incs {D : Nat → Int} {p q : Nat} : incD (incD (incD (incD D p 1) q 1) p (-1)) q (-1) = D := by
  funext x
  simp only [incD, updI']
  by_cases e1 : x = p <;> by_cases e2 : x = q <;> by_cases e3 : p = q <;> simp_all <;> omega
theorem updB_back {tk : Nat → Bool} {l : Nat} (h : tk l = false) : updB (updB tk l true) l false = tk := by
  funext x
  simp only [updB]
  by_cases e : x = l
  · simp [e, h]
  · simp [e]
theorem incD_rng {D : Nat → Int} {p d : Nat} (h : ∀ x, 0 ≤ D x ∧ D x + (d : Int) + 1 ≤ 1000) : ∀ x, 0 ≤ incD D p 1 x ∧ incD D p 1 x + (d : Int) ≤ 1000 := fun x => by
  have h1 := h x
  have h2 := h p
  simp only [incD, updI']
  split <;> omega
end
def GiveC (k : GC) (d : Nat) : Prop := ∀ (w : World) (r i tb c : Nat) (tk : Nat → Bool) (D : Nat → Int) (ln : Nat → Nat → Int), GSt k w D ln → DnB w tb tk (k.n / 2) → Apart k tb → tb < w.heap.size → (r < k.L.length ∧ i ≤ lenr k.L r ∨ r = k.L.length ∧ i = 0) → need k.L r i ≤ d → (∀ x, 0 ≤ D x ∧ D x + 2 * (d : Int) ≤ 1000) → k.n / 2 ≤ c ∧ c ≤ 9223372036854775807 →
  Calls Try.prog 97 #[.int .i64 (r : Int), .int .i64 (i : Int), .slice (some ⟨tb, 0, none⟩) (k.n / 2) c, .pointer (some ⟨k.bl, 0, none⟩), .pointer (some ⟨k.bu, 0, none⟩), .pointer (some ⟨k.bn, 0, none⟩), .pointer (some ⟨k.be, 0, none⟩), .pointer (some ⟨k.bf, 0, none⟩)] w (GPost k w tb (k.n / 2) tk D (giveF k.L k.n k.un d r i tk D ln))
theorem under110 : Try.prog.underlying 110 = some (.array 6 108) := by kernel_rfl
theorem size110 : (Try.prog.info? 110).map (·.size) = some 18 := by kernel_rfl
/-- The whole array is loaded. -/
theorem exec_load110 {W : World} {b : Nat} {D : Nat → Int} (h : UAt W b D) {a : Act} {o : Oper} (x : Operand) (ho : o.op = .load 110 x) (hx : a.eval x = .pointer (some ⟨b, 0, none⟩)) : (execOp a.eval o).run Try.prog W = .ok (.value (.agg #[.int .i64 (D 0), .int .i64 (D 1), .int .i64 (D 2), .int .i64 (D 3), .int .i64 (D 4), .int .i64 (D 5), .int .i64 (D 6), .int .i64 (D 7), .int .i64 (D 8), .int .i64 (D 9), .int .i64 (D 10), .int .i64 (D 11), .int .i64 (D 12), .int .i64 (D 13), .int .i64 (D 14), .int .i64 (D 15), .int .i64 (D 16), .int .i64 (D 17)])) W := by
  unfold execOp
  simp only [ho, hx, Instr.loadAt, Instr.sureAddr, Sem.run_bind, Sem.run_pure, Result.andThen_ok, run_loadVar_row W b 110 110 _ _ _ h under110 rfl size110]
theorem wp_load110 {W : World} {b : Nat} {D : Nat → Int} (h : UAt W b D) {a : Act} {o : Oper} {K : Act → World → Prop} {Q : Exit → Act → World → Prop} (x : Operand) (ho : o.op = .load 110 x) (hx : a.eval x = .pointer (some ⟨b, 0, none⟩)) (hk : K (a.put o.dst (.agg #[.int .i64 (D 0), .int .i64 (D 1), .int .i64 (D 2), .int .i64 (D 3), .int .i64 (D 4), .int .i64 (D 5), .int .i64 (D 6), .int .i64 (D 7), .int .i64 (D 8), .int .i64 (D 9), .int .i64 (D 10), .int .i64 (D 11), .int .i64 (D 12), .int .i64 (D 13), .int .i64 (D 14), .int .i64 (D 15), .int .i64 (D 16), .int .i64 (D 17)])) W) : o.wp Try.prog a W K Q :=
  wp_load_row 110 x ho b hx 110 _ _ _ h under110 rfl size110 hk
theorem UAt.all {W : World} {b : Nat} {D : Nat → Int} (h : UAt W b D) : W.cell? ⟨b, 0, none⟩ = some (.int .i64 (D 0)) ∧ W.cell? ⟨b, 1, none⟩ = some (.int .i64 (D 1)) ∧ W.cell? ⟨b, 2, none⟩ = some (.int .i64 (D 2)) ∧ W.cell? ⟨b, 3, none⟩ = some (.int .i64 (D 3)) ∧ W.cell? ⟨b, 4, none⟩ = some (.int .i64 (D 4)) ∧ W.cell? ⟨b, 5, none⟩ = some (.int .i64 (D 5)) ∧ W.cell? ⟨b, 6, none⟩ = some (.int .i64 (D 6)) ∧ W.cell? ⟨b, 7, none⟩ = some (.int .i64 (D 7)) ∧ W.cell? ⟨b, 8, none⟩ = some (.int .i64 (D 8)) ∧ W.cell? ⟨b, 9, none⟩ = some (.int .i64 (D 9)) ∧ W.cell? ⟨b, 10, none⟩ = some (.int .i64 (D 10)) ∧ W.cell? ⟨b, 11, none⟩ = some (.int .i64 (D 11)) ∧ W.cell? ⟨b, 12, none⟩ = some (.int .i64 (D 12)) ∧ W.cell? ⟨b, 13, none⟩ = some (.int .i64 (D 13)) ∧ W.cell? ⟨b, 14, none⟩ = some (.int .i64 (D 14)) ∧ W.cell? ⟨b, 15, none⟩ = some (.int .i64 (D 15)) ∧ W.cell? ⟨b, 16, none⟩ = some (.int .i64 (D 16)) ∧ W.cell? ⟨b, 17, none⟩ = some (.int .i64 (D 17)) := ⟨(h.cell (k := 0) (by omega)).1, (h.cell (k := 1) (by omega)).1, (h.cell (k := 2) (by omega)).1, (h.cell (k := 3) (by omega)).1, (h.cell (k := 4) (by omega)).1, (h.cell (k := 5) (by omega)).1, (h.cell (k := 6) (by omega)).1, (h.cell (k := 7) (by omega)).1, (h.cell (k := 8) (by omega)).1, (h.cell (k := 9) (by omega)).1, (h.cell (k := 10) (by omega)).1, (h.cell (k := 11) (by omega)).1, (h.cell (k := 12) (by omega)).1, (h.cell (k := 13) (by omega)).1, (h.cell (k := 14) (by omega)).1, (h.cell (k := 15) (by omega)).1, (h.cell (k := 16) (by omega)).1, (h.cell (k := 17) (by omega)).1⟩
theorem Apart.new {k : GC} {w : World} {D : Nat → Int} {ln : Nat → Nat → Int} (s : GSt k w D ln) (hk : k.Ok) (h0 : 0 < k.L.length) {b : Nat} (hb : w.heap.size ≤ b) : Apart k b := by
  obtain ⟨h1, h2, h3, h4, h5, h6, h7⟩ := s.lts
  have := h6 0 h0
  exact ⟨by omega, by omega, by omega, by omega, by omega, by omega, fun r hr => by have := h7 r hr (hk.hp r hr); omega⟩
theorem GPost.next {k : GC} {w y w' : World} {tb tb' h : Nat} {tk tk' : Nat → Bool} {D : Nat → Int} {res : Bool × (Nat → Nat → Int)} {e : Ending} (hb : Below w.heap.size w y) (hT : DnB w tb tk h) (ha : Apart k tb) (ht : w.heap.size ≤ tb') (p : GPost k y tb' h tk' D res e w') : GPost k w tb h tk D res e w' := by
  obtain ⟨h1, h2, h3, h4⟩ := p
  have hlt := hT.lt
  have hsz := hb.size
  refine ⟨h1, h2, fun _ => (h4.block tb (by omega) ?_).trans (hT.step hb), (Chg.ofBelow hb _).trans h4 fun i hi hS => ?_⟩
  · rintro ((e | ⟨r, hr, e⟩) | e)
    · exact ha.2.2.2.2.2.1 e
    · exact ha.2.2.2.2.2.2 r hr e
    · omega
  · rcases hS with e | e
    · exact .inl e
    · omega
theorem loopG_skip {rec : (Nat → Bool) → (Nat → Int) → (Nat → Nat → Int) → Bool × (Nat → Nat → Int)} {r i h lane : Nat} {p : Nat × Nat} {tk : Nat → Bool} {D : Nat → Int} {ln : Nat → Nat → Int} (hl : lane < h) (ht : tk lane = true) : loopG rec r i p tk D (h - lane) lane ln = loopG rec r i p tk D (h - (lane + 1)) (lane + 1) ln := by
  rw [show h - lane = (h - (lane + 1)) + 1 by omega, loopG, if_pos ht]
theorem loopG_hit {rec : (Nat → Bool) → (Nat → Int) → (Nat → Nat → Int) → Bool × (Nat → Nat → Int)} {r i h lane : Nat} {p : Nat × Nat} {tk : Nat → Bool} {D : Nat → Int} {ln ln' : Nat → Nat → Int} (hl : lane < h) (ht : tk lane = false)
    (hr : rec (updB tk lane true) (incD (incD D (p.1 * 3 + lane) 1) (p.2 * 3 + lane) 1) (upd2 ln r i (lane : Int)) = (true, ln')) : loopG rec r i p tk D (h - lane) lane ln = (true, ln') := by
  rw [show h - lane = (h - (lane + 1)) + 1 by omega, loopG, if_neg (by simp [ht]), hr]
theorem loopG_miss {rec : (Nat → Bool) → (Nat → Int) → (Nat → Nat → Int) → Bool × (Nat → Nat → Int)} {r i h lane : Nat} {p : Nat × Nat} {tk : Nat → Bool} {D : Nat → Int} {ln ln' : Nat → Nat → Int} (hl : lane < h) (ht : tk lane = false)
    (hr : rec (updB tk lane true) (incD (incD D (p.1 * 3 + lane) 1) (p.2 * 3 + lane) 1) (upd2 ln r i (lane : Int)) = (false, ln')) : loopG rec r i p tk D (h - lane) lane ln = loopG rec r i p tk D (h - (lane + 1)) (lane + 1) ln' := by
  rw [show h - lane = (h - (lane + 1)) + 1 by omega, loopG, if_neg (by simp [ht]), hr]
end

section

open Go.RowKit
set_option linter.unusedSimpArgs false
set_option linter.unusedVariables false

attribute [local go_sem] Oper.semAt_some
theorem below_cat {w a b : World} (h2 : Below a.heap.size a b) (h1 : Below w.heap.size w a) : Below w.heap.size w b := h1.trans (h2.mono h1.size)
theorem infoBl : (Try.prog.info? 4).map (fun i => (i.zero, i.size, i.bytes)) = some (some (.bool false), 1, 1) := by kernel_rfl
set_option maxRecDepth 100000 in
set_option maxHeartbeats 8000000 in
theorem give_end {k : GC} (hk : k.Ok) (d : Nat) (w : World) (r i tb c : Nat) (tk : Nat → Bool) (D : Nat → Int) (ln : Nat → Nat → Int) (s : GSt k w D ln) (hT : DnB w tb tk (k.n / 2)) (hr : r = k.L.length) (hD : ∀ x, 0 ≤ D x ∧ D x ≤ 1000) :
    Calls Try.prog 97 #[.int .i64 (r : Int), .int .i64 (i : Int), .slice (some ⟨tb, 0, none⟩) (k.n / 2) c, .pointer (some ⟨k.bl, 0, none⟩), .pointer (some ⟨k.bu, 0, none⟩), .pointer (some ⟨k.bn, 0, none⟩), .pointer (some ⟨k.be, 0, none⟩), .pointer (some ⟨k.bf, 0, none⟩)] w (GPost k w tb (k.n / 2) tk D (giveF k.L k.n k.un (d + 1) r i tk D ln)) := by
  have HK := Lib.hid hk
  have HS := Lib.hid s
  have HT := Lib.hid hT
  have HD := Lib.hid hD
  have HRES : Hid (giveF k.L k.n k.un (d + 1) r i tk D ln = (decide (unevD D k.n ≤ k.un), ln)) := by show _ = _; rw [giveF, if_pos hr]
  have hr1 : ((r : Int) == (k.L.length : Int)) = true := by simp [hr]
  have cL := s.cl
  obtain ⟨h, hh⟩ : ∃ h, k.n / 2 = h := ⟨_, rfl⟩
  rw [hh] at HT ⊢
  clear hk s hT hr hh hD
  go_enter Try.func97, Try.ntmps97
  go_wp2_with fail
  go_step3
  go_upto_region 2 with fail
  refine wp_region_noPanic ?_
  have hS : (fun W' : World => Below w.heap.size w W') w.drew := (Below.refl _ _).drew
  refine wp_region_any (by kernel_rfl) (wpAny_of_T (S := fun W' : World => Below w.heap.size w W') (m := 6) _ _ _ _ ?_)
  refine' T_take (i := 0) (v := .agg #[.int .i64 (D 0), .int .i64 (D 1), .int .i64 (D 2), .int .i64 (D 3), .int .i64 (D 4), .int .i64 (D 5), .int .i64 (D 6), .int .i64 (D 7), .int .i64 (D 8), .int .i64 (D 9), .int .i64 (D 10), .int .i64 (D 11), .int .i64 (D 12), .int .i64 (D 13), .int .i64 (D 14), .int .i64 (D 15), .int .i64 (D 16), .int .i64 (D 17)]) rfl (by kernel_rfl) (by kernel_rfl) (by kernel_rfl) (by kernel_rfl) (fun _ _ _ h => h) (by kernel_rfl) hS ?_ ?_
  · intro Wv hW
    exact exec_load110 (HS.out.step hW).us (.tmp 4) rfl rfl
  try simp only [Act.put, List.setIfInBounds_toArray, List.set_cons_zero, List.set_cons_succ]
  refine' T_take (i := 1) (v := _) rfl (by kernel_rfl) (by kernel_rfl) (by kernel_rfl) (by kernel_rfl) (fun _ _ _ h => h) (by kernel_rfl) hS ?_ ?_
  rotate_left 1
  · intro Wv hW
    have g0 := (HS.out.step hW).cn
    have g1 := (HS.out.step hW).ce
    go_simp
    first | done | with_reducible rfl | omega
  try simp only [Act.put, List.setIfInBounds_toArray, List.set_cons_zero, List.set_cons_succ]
  refine' T_take (i := 3) (v := _) rfl (by kernel_rfl) (by kernel_rfl) (by kernel_rfl) (by kernel_rfl) (fun _ _ _ h => h) (by kernel_rfl) hS ?_ ?_
  rotate_left 1
  · intro Wv hW
    have g0 := (HS.out.step hW).cn
    have g1 := (HS.out.step hW).ce
    go_simp
    first | done | with_reducible rfl | omega
  try simp only [Act.put, List.setIfInBounds_toArray, List.set_cons_zero, List.set_cons_succ]
  refine T_ready (rs := [2]) (by kernel_rfl) (by simp) ?_
  refine TReady.cons rfl (fun K hK => ?_) TReady.nil
  try go_simp
  refine (uneven67_c D k.n _ HK.out.hn HD.out).mono ?_
  rintro e y1 ⟨rfl, hb⟩
  have hS2 : Below w.heap.size w y1 := below_cat hb hS
  try go_simp
  refine hK.out _ _ (fun _ => hS2) (fun _ => ?_)
  clear hK K hS hb
  replace hS := hS2
  clear hS2
  try simp only [Act.put, List.setIfInBounds_toArray, List.set_cons_zero, List.set_cons_succ]
  refine' T_take (i := 4) (v := _) rfl (by kernel_rfl) (by kernel_rfl) (by kernel_rfl) (by kernel_rfl) (fun _ _ _ h => h) (by kernel_rfl) hS ?_ ?_
  rotate_left 1
  · intro Wv hW
    go_simp
    first | done | with_reducible rfl | omega
  try simp only [Act.put, List.setIfInBounds_toArray, List.set_cons_zero, List.set_cons_succ]
  refine' T_take (i := 5) (v := _) rfl (by kernel_rfl) (by kernel_rfl) (by kernel_rfl) (by kernel_rfl) (fun _ _ _ h => h) (by kernel_rfl) hS ?_ ?_
  rotate_left 1
  · intro Wv hW
    go_simp
    first | done | with_reducible rfl | omega
  try simp only [Act.put, List.setIfInBounds_toArray, List.set_cons_zero, List.set_cons_succ]
  refine T_done (by kernel_rfl) ?_ _
  refine NoPanic.normal ?_
  try go_simp
  go_wp2_with fail
  try rw [Exit.noGoto_ret]
  go_ret
  rw [HRES.out]
  exact ⟨rfl, ⟨D, HS.out.step hS, fun _ => rfl⟩, fun _ => HT.out.step hS, Chg.ofBelow hS _⟩
set_option maxRecDepth 100000 in
set_option maxHeartbeats 8000000 in
theorem give_next {k : GC} (hk : k.Ok) {d : Nat} (ih : GiveC k d) (w : World) (r tb c : Nat) (tk : Nat → Bool) (D : Nat → Int) (ln : Nat → Nat → Int) (s : GSt k w D ln) (hT : DnB w tb tk (k.n / 2)) (ha : Apart k tb) (hr : r < k.L.length) (hnd : need k.L r (lenr k.L r) ≤ d + 1) (hD : ∀ x, 0 ≤ D x ∧ D x + 2 * ((d + 1 : Nat) : Int) ≤ 1000) :
    Calls Try.prog 97 #[.int .i64 (r : Int), .int .i64 (lenr k.L r : Int), .slice (some ⟨tb, 0, none⟩) (k.n / 2) c, .pointer (some ⟨k.bl, 0, none⟩), .pointer (some ⟨k.bu, 0, none⟩), .pointer (some ⟨k.bn, 0, none⟩), .pointer (some ⟨k.be, 0, none⟩), .pointer (some ⟨k.bf, 0, none⟩)] w (GPost k w tb (k.n / 2) tk D (giveF k.L k.n k.un (d + 1) r (lenr k.L r) tk D ln)) := by
  have HK := Lib.hid hk
  have HS := Lib.hid s
  have HT := Lib.hid hT
  have HA := Lib.hid ha
  have hn26 := hk.hn
  have HM := Lib.hid (fun W => most98_c D k.n k.un W hk.hn (fun x => by have := hD x; omega) hk.hun)
  have HHL := Lib.hid (fun W => halls99_c k.n W hk.hn)
  have HRES : Hid (giveF k.L k.n k.un (d + 1) r (lenr k.L r) tk D ln = if mostD D k.n k.un = true then giveF k.L k.n k.un d (r + 1) 0 (fun _ => false) D ln else (false, ln)) := by show _ = _; rw [giveF, if_neg (by omega), if_pos rfl]
  have hr1 : ((r : Int) == (k.L.length : Int)) = false := by simp; omega
  have hri : (r : Int) < (k.L.length : Int) := by omega
  have hlen := hk.hc
  have hwr : IntKind.i64.wrap ((r : Int) + 1) = (r : Int) + 1 := IntWalk.i64_in _ (by omega)
  have cL := s.cl
  have cO := s.out r hr
  have HCALL : Hid (∀ y : World, Below w.heap.size w y → Calls Try.prog 97 #[.int .i64 ((r : Int) + 1), .int .i64 0, .slice (some ⟨y.heap.size, 0, none⟩) (k.n / 2) (k.n / 2), .pointer (some ⟨k.bl, 0, none⟩), .pointer (some ⟨k.bu, 0, none⟩), .pointer (some ⟨k.bn, 0, none⟩), .pointer (some ⟨k.be, 0, none⟩), .pointer (some ⟨k.bf, 0, none⟩)] (y.alloc (.cells (madeCells #[.bool false] (k.n / 2)) 4))
      (GPost k w tb (k.n / 2) tk D (giveF k.L k.n k.un d (r + 1) 0 (fun _ => false) D ln))) := fun y hb => by
    have hb2 : Below w.heap.size w (y.alloc (.cells (madeCells #[.bool false] (k.n / 2)) 4)) := hb.alloc hb.size _
    have h := ih (y.alloc (.cells (madeCells #[.bool false] (k.n / 2)) 4)) (r + 1) 0 y.heap.size (k.n / 2) (fun _ => false) D ln (s.step hb2) (dnB_new y (k.n / 2)) (Apart.new s hk (by omega) hb.size) (by simp) (by
      by_cases e : r + 1 < k.L.length
      · exact .inl ⟨e, Nat.zero_le _⟩
      · exact .inr ⟨by omega, rfl⟩) (by have := need_next hr; omega) (fun x => by have := hD x; omega) (by omega)
    exact h.mono fun e w' hp => GPost.next hb2 hT ha hb.size hp
  obtain ⟨h, hh⟩ : ∃ h, k.n / 2 = h := ⟨_, rfl⟩
  have hmk : ∀ W, (Instr.makeSlice 133 (.int .i64 (h : Int)) (.int .i64 (h : Int))).run Try.prog W = .ok (.slice (some ⟨W.heap.size, 0, none⟩) h h) (W.alloc (.cells (madeCells #[.bool false] h) 4)) := by
    exact fun W => run_make_row' 133 4 (.bool false) 1 (by kernel_rfl) infoBl rfl .i64 .i64 h (by omega) (by omega) W
  rw [hh] at HT HHL HCALL ⊢
  have HUS : Hid (UAt w.drew k.bu D) := (HS.out.step (Below.refl _ _).drew).us
  clear hk s hT ha hh hD ih hnd hlen
  cases hmm : mostD D k.n k.un
  · rw [hmm] at HM
    rw [hmm, if_neg (by simp)] at HRES
    clear hmm
    go_enter Try.func97, Try.ntmps97
    go_wp2_with fail
    go_step3
    go_upto_region 4 with fail
    refine wp_region_noPanic ?_
    have hS : (fun W' : World => W'.cell? ⟨k.bn, 0, none⟩ = some (.int .i64 k.n) ∧ W'.cell? ⟨k.be, 0, none⟩ = some (.int .i64 k.un) ∧ W'.cell? ⟨k.bf, 0, none⟩ = some (.func (.func 97) #[] #[.pointer (some ⟨k.bl, 0, none⟩), .pointer (some ⟨k.bu, 0, none⟩), .pointer (some ⟨k.bn, 0, none⟩), .pointer (some ⟨k.be, 0, none⟩), .pointer (some ⟨k.bf, 0, none⟩)])) w.drew := ⟨HS.out.cn, HS.out.ce, HS.out.cf⟩
    refine wp_region_any (by kernel_rfl) (wpAny_of_T (S := fun W' : World => W'.cell? ⟨k.bn, 0, none⟩ = some (.int .i64 k.n) ∧ W'.cell? ⟨k.be, 0, none⟩ = some (.int .i64 k.un) ∧ W'.cell? ⟨k.bf, 0, none⟩ = some (.func (.func 97) #[] #[.pointer (some ⟨k.bl, 0, none⟩), .pointer (some ⟨k.bu, 0, none⟩), .pointer (some ⟨k.bn, 0, none⟩), .pointer (some ⟨k.be, 0, none⟩), .pointer (some ⟨k.bf, 0, none⟩)])) (m := 14) _ _ _ _ ?_)
    refine' T_take (i := 1) (v := _) rfl (by kernel_rfl) (by kernel_rfl) (by kernel_rfl) (by kernel_rfl) (fun _ _ _ h => h) (by kernel_rfl) hS ?_ ?_
    rotate_left 1
    · intro Wv hW
      obtain ⟨g0, g1, g2⟩ := hW
      go_simp
      first | done | with_reducible rfl | omega
    try simp only [Act.put, List.setIfInBounds_toArray, List.set_cons_zero, List.set_cons_succ]
    refine' T_take (i := 2) (v := _) rfl (by kernel_rfl) (by kernel_rfl) (by kernel_rfl) (by kernel_rfl) (fun _ _ _ h => h) (by kernel_rfl) hS ?_ ?_
    rotate_left 1
    · intro Wv hW
      obtain ⟨g0, g1, g2⟩ := hW
      go_simp
      first | done | with_reducible rfl | omega
    try simp only [Act.put, List.setIfInBounds_toArray, List.set_cons_zero, List.set_cons_succ]
    refine T_ready (rs := [0]) (by kernel_rfl) (by simp) ?_
    refine TReady.cons rfl (fun K hK => ?_) TReady.nil
    rw [if_pos (by kernel_rfl)]
    refine wp_load110 HUS.out (.tmp 4) rfl rfl ?_
    refine hK.out _ _ (fun _ => hS) (fun _ => ?_)
    clear hK K
    try simp only [Act.put, List.setIfInBounds_toArray, List.set_cons_zero, List.set_cons_succ]
    refine T_ready (rs := [3]) (by kernel_rfl) (by simp) ?_
    refine TReady.cons rfl (fun K hK => ?_) TReady.nil
    try go_simp
    refine (HM.out _).mono ?_
    rintro e y1 ⟨rfl, hb⟩
    have hB1 : Below w.heap.size w y1 := below_drew_l hb
    have HS1 := Lib.hid (HS.out.step hB1)
    clear hb
    try go_simp
    refine hK.out _ _ (fun _ => ⟨HS1.out.cn, HS1.out.ce, HS1.out.cf⟩) (fun hS => ?_)
    replace hS := hS (by decide)
    clear hK K
    try simp only [Act.put, List.setIfInBounds_toArray, List.set_cons_zero, List.set_cons_succ]
    refine' T_take (i := 4) (v := .bool false) rfl (by kernel_rfl) (by kernel_rfl) (by kernel_rfl) (by kernel_rfl) (fun _ _ _ h => h) (by kernel_rfl) hS ?_ ?_
    skip
    · intro Wv hW
      obtain ⟨g0, g1, g2⟩ := hW
      go_simp
      first | done | with_reducible rfl | omega
    try simp only [Act.put, List.setIfInBounds_toArray, List.set_cons_zero, List.set_cons_succ]
    refine' T_skip (i := 5) rfl (by kernel_rfl) (by kernel_rfl) (by kernel_rfl) (by kernel_rfl) (fun _ _ _ h => h) (by kernel_rfl) hS ?_
    try simp only [Act.put, List.setIfInBounds_toArray, List.set_cons_zero, List.set_cons_succ]
    refine' T_skip (i := 6) rfl (by kernel_rfl) (by kernel_rfl) (by kernel_rfl) (by kernel_rfl) (fun _ _ _ h => h) (by kernel_rfl) hS ?_
    try simp only [Act.put, List.setIfInBounds_toArray, List.set_cons_zero, List.set_cons_succ]
    refine' T_skip (i := 7) rfl (by kernel_rfl) (by kernel_rfl) (by kernel_rfl) (by kernel_rfl) (fun _ _ _ h => h) (by kernel_rfl) hS ?_
    try simp only [Act.put, List.setIfInBounds_toArray, List.set_cons_zero, List.set_cons_succ]
    refine' T_skip (i := 8) rfl (by kernel_rfl) (by kernel_rfl) (by kernel_rfl) (by kernel_rfl) (fun _ _ _ h => h) (by kernel_rfl) hS ?_
    try simp only [Act.put, List.setIfInBounds_toArray, List.set_cons_zero, List.set_cons_succ]
    refine' T_skip (i := 9) rfl (by kernel_rfl) (by kernel_rfl) (by kernel_rfl) (by kernel_rfl) (fun _ _ _ h => h) (by kernel_rfl) hS ?_
    try simp only [Act.put, List.setIfInBounds_toArray, List.set_cons_zero, List.set_cons_succ]
    refine' T_skip (i := 10) rfl (by kernel_rfl) (by kernel_rfl) (by kernel_rfl) (by kernel_rfl) (fun _ _ _ h => h) (by kernel_rfl) hS ?_
    try simp only [Act.put, List.setIfInBounds_toArray, List.set_cons_zero, List.set_cons_succ]
    refine' T_skip (i := 11) rfl (by kernel_rfl) (by kernel_rfl) (by kernel_rfl) (by kernel_rfl) (fun _ _ _ h => h) (by kernel_rfl) hS ?_
    try simp only [Act.put, List.setIfInBounds_toArray, List.set_cons_zero, List.set_cons_succ]
    refine' T_take (i := 12) (v := .bool false) rfl (by kernel_rfl) (by kernel_rfl) (by kernel_rfl) (by kernel_rfl) (fun _ _ _ h => h) (by kernel_rfl) hS ?_ ?_
    skip
    · intro Wv hW
      obtain ⟨g0, g1, g2⟩ := hW
      go_simp
      first | done | with_reducible rfl | omega
    try simp only [Act.put, List.setIfInBounds_toArray, List.set_cons_zero, List.set_cons_succ]
    refine' T_take (i := 13) (v := _) rfl (by kernel_rfl) (by kernel_rfl) (by kernel_rfl) (by kernel_rfl) (fun _ _ _ h => h) (by kernel_rfl) hS ?_ ?_
    rotate_left 1
    · intro Wv hW
      obtain ⟨g0, g1, g2⟩ := hW
      go_simp
      first | done | with_reducible rfl | omega
    try simp only [Act.put, List.setIfInBounds_toArray, List.set_cons_zero, List.set_cons_succ]
    refine T_done (by kernel_rfl) ?_ _
    refine NoPanic.normal ?_
    try go_simp
    go_wp2_with fail
    try rw [Exit.noGoto_ret]
    go_ret
    rw [HRES.out]
    exact ⟨rfl, ⟨D, HS1.out, fun _ => rfl⟩, fun _ => HT.out.step hB1, Chg.ofBelow hB1 _⟩
  · rw [hmm] at HM
    rw [hmm, if_pos rfl] at HRES
    clear hmm
    generalize giveF k.L k.n k.un d (r + 1) 0 (fun _ => false) D ln = res at *
    go_enter Try.func97, Try.ntmps97
    go_wp2_with fail
    go_step3
    go_upto_region 4 with fail
    refine wp_region_noPanic ?_
    have hS : (fun W' : World => W'.cell? ⟨k.bn, 0, none⟩ = some (.int .i64 k.n) ∧ W'.cell? ⟨k.be, 0, none⟩ = some (.int .i64 k.un) ∧ W'.cell? ⟨k.bf, 0, none⟩ = some (.func (.func 97) #[] #[.pointer (some ⟨k.bl, 0, none⟩), .pointer (some ⟨k.bu, 0, none⟩), .pointer (some ⟨k.bn, 0, none⟩), .pointer (some ⟨k.be, 0, none⟩), .pointer (some ⟨k.bf, 0, none⟩)])) w.drew := ⟨HS.out.cn, HS.out.ce, HS.out.cf⟩
    refine wp_region_any (by kernel_rfl) (wpAny_of_T (S := fun W' : World => W'.cell? ⟨k.bn, 0, none⟩ = some (.int .i64 k.n) ∧ W'.cell? ⟨k.be, 0, none⟩ = some (.int .i64 k.un) ∧ W'.cell? ⟨k.bf, 0, none⟩ = some (.func (.func 97) #[] #[.pointer (some ⟨k.bl, 0, none⟩), .pointer (some ⟨k.bu, 0, none⟩), .pointer (some ⟨k.bn, 0, none⟩), .pointer (some ⟨k.be, 0, none⟩), .pointer (some ⟨k.bf, 0, none⟩)])) (m := 14) _ _ _ _ ?_)
    refine' T_take (i := 1) (v := _) rfl (by kernel_rfl) (by kernel_rfl) (by kernel_rfl) (by kernel_rfl) (fun _ _ _ h => h) (by kernel_rfl) hS ?_ ?_
    rotate_left 1
    · intro Wv hW
      obtain ⟨g0, g1, g2⟩ := hW
      go_simp
      first | done | with_reducible rfl | omega
    try simp only [Act.put, List.setIfInBounds_toArray, List.set_cons_zero, List.set_cons_succ]
    refine' T_take (i := 2) (v := _) rfl (by kernel_rfl) (by kernel_rfl) (by kernel_rfl) (by kernel_rfl) (fun _ _ _ h => h) (by kernel_rfl) hS ?_ ?_
    rotate_left 1
    · intro Wv hW
      obtain ⟨g0, g1, g2⟩ := hW
      go_simp
      first | done | with_reducible rfl | omega
    try simp only [Act.put, List.setIfInBounds_toArray, List.set_cons_zero, List.set_cons_succ]
    refine T_ready (rs := [0]) (by kernel_rfl) (by simp) ?_
    refine TReady.cons rfl (fun K hK => ?_) TReady.nil
    rw [if_pos (by kernel_rfl)]
    refine wp_load110 HUS.out (.tmp 4) rfl rfl ?_
    refine hK.out _ _ (fun _ => hS) (fun _ => ?_)
    clear hK K
    try simp only [Act.put, List.setIfInBounds_toArray, List.set_cons_zero, List.set_cons_succ]
    refine T_ready (rs := [3]) (by kernel_rfl) (by simp) ?_
    refine TReady.cons rfl (fun K hK => ?_) TReady.nil
    try go_simp
    refine (HM.out _).mono ?_
    rintro e y1 ⟨rfl, hb⟩
    have hB1 : Below w.heap.size w y1 := below_drew_l hb
    have HS1 := Lib.hid (HS.out.step hB1)
    clear hb
    try go_simp
    refine hK.out _ _ (fun _ => ⟨HS1.out.cn, HS1.out.ce, HS1.out.cf⟩) (fun hS => ?_)
    replace hS := hS (by decide)
    clear hK K
    try simp only [Act.put, List.setIfInBounds_toArray, List.set_cons_zero, List.set_cons_succ]
    refine' T_take (i := 4) (v := .bool true) rfl (by kernel_rfl) (by kernel_rfl) (by kernel_rfl) (by kernel_rfl) (fun _ _ _ h => h) (by kernel_rfl) hS ?_ ?_
    skip
    · intro Wv hW
      obtain ⟨g0, g1, g2⟩ := hW
      go_simp
      first | done | with_reducible rfl | omega
    try simp only [Act.put, List.setIfInBounds_toArray, List.set_cons_zero, List.set_cons_succ]
    refine' T_take (i := 5) (v := _) rfl (by kernel_rfl) (by kernel_rfl) (by kernel_rfl) (by kernel_rfl) (fun _ _ _ h => h) (by kernel_rfl) hS ?_ ?_
    rotate_left 1
    · intro Wv hW
      obtain ⟨g0, g1, g2⟩ := hW
      go_simp
      first | done | with_reducible rfl | omega
    try simp only [Act.put, List.setIfInBounds_toArray, List.set_cons_zero, List.set_cons_succ]
    refine' T_take (i := 6) (v := _) rfl (by kernel_rfl) (by kernel_rfl) (by kernel_rfl) (by kernel_rfl) (fun _ _ _ h => h) (by kernel_rfl) hS ?_ ?_
    rotate_left 1
    · intro Wv hW
      obtain ⟨g0, g1, g2⟩ := hW
      go_simp
      first | done | with_reducible rfl | omega
    try simp only [Act.put, List.setIfInBounds_toArray, List.set_cons_zero, List.set_cons_succ]
    refine' T_take (i := 7) (v := _) rfl (by kernel_rfl) (by kernel_rfl) (by kernel_rfl) (by kernel_rfl) (fun _ _ _ h => h) (by kernel_rfl) hS ?_ ?_
    rotate_left 1
    · intro Wv hW
      obtain ⟨g0, g1, g2⟩ := hW
      go_simp
      first | done | with_reducible rfl | omega
    try simp only [Act.put, List.setIfInBounds_toArray, List.set_cons_zero, List.set_cons_succ]
    refine' T_take (i := 8) (v := _) rfl (by kernel_rfl) (by kernel_rfl) (by kernel_rfl) (by kernel_rfl) (fun _ _ _ h => h) (by kernel_rfl) hS ?_ ?_
    rotate_left 1
    · intro Wv hW
      obtain ⟨g0, g1, g2⟩ := hW
      go_simp
      first | done | with_reducible rfl | omega
    try simp only [Act.put, List.setIfInBounds_toArray, List.set_cons_zero, List.set_cons_succ]
    refine T_ready (rs := [9]) (by kernel_rfl) (by simp) ?_
    refine TReady.cons rfl (fun K hK => ?_) TReady.nil
    try go_simp
    refine (HHL.out _).mono ?_
    rintro e y2 ⟨rfl, rfl⟩
    try go_simp
    refine hK.out _ _ (fun _ => hS) (fun _ => ?_)
    clear hK K
    try simp only [Act.put, List.setIfInBounds_toArray, List.set_cons_zero, List.set_cons_succ]
    refine T_ready (rs := [10]) (by kernel_rfl) (by simp) ?_
    refine TReady.cons rfl (fun K hK => ?_) TReady.nil
    try go_simp
    refine hK.out _ _ (fun _ => ⟨cell_alloc_keep _ hS.1, cell_alloc_keep _ hS.2.1, cell_alloc_keep _ hS.2.2⟩) (fun hS => ?_)
    replace hS := hS (by decide)
    clear hK K
    try simp only [Act.put, List.setIfInBounds_toArray, List.set_cons_zero, List.set_cons_succ]
    refine T_ready (rs := [11]) (by kernel_rfl) (by simp) ?_
    refine TReady.cons rfl (fun K hK => ?_) TReady.nil
    try go_simp
    refine (HCALL.out _ hB1).mono ?_
    rintro e w3 hp
    have he : e = .returned (.bool res.1) := hp.1
    subst he
    have HP := Lib.hid hp
    obtain ⟨D9, h9, -⟩ := hp.2.1
    have h91 := h9.cn
    have h92 := h9.ce
    have h93 := h9.cf
    clear hp h9
    try go_simp
    refine hK.out _ _ (fun _ => ⟨h91, h92, h93⟩) (fun hS => ?_)
    replace hS := hS (by decide)
    clear hK K h91 h92 h93
    try simp only [Act.put, List.setIfInBounds_toArray, List.set_cons_zero, List.set_cons_succ]
    refine' T_take (i := 12) (v := _) rfl (by kernel_rfl) (by kernel_rfl) (by kernel_rfl) (by kernel_rfl) (fun _ _ _ h => h) (by kernel_rfl) hS ?_ ?_
    rotate_left 1
    · intro Wv hW
      obtain ⟨g0, g1, g2⟩ := hW
      go_simp
      first | done | with_reducible rfl | omega
    try simp only [Act.put, List.setIfInBounds_toArray, List.set_cons_zero, List.set_cons_succ]
    refine' T_take (i := 13) (v := _) rfl (by kernel_rfl) (by kernel_rfl) (by kernel_rfl) (by kernel_rfl) (fun _ _ _ h => h) (by kernel_rfl) hS ?_ ?_
    rotate_left 1
    · intro Wv hW
      obtain ⟨g0, g1, g2⟩ := hW
      go_simp
      first | done | with_reducible rfl | omega
    try simp only [Act.put, List.setIfInBounds_toArray, List.set_cons_zero, List.set_cons_succ]
    refine T_done (by kernel_rfl) ?_ _
    refine NoPanic.normal ?_
    try go_simp
    go_wp2_with fail
    try rw [Exit.noGoto_ret]
    go_ret
    rw [HRES.out]
    exact HP.out
end

section

open Go.RowKit
set_option linter.unusedSimpArgs false
set_option linter.unusedVariables false

attribute [local go_sem] Oper.semAt_some
set_option maxRecDepth 100000 in
set_option maxHeartbeats 8000000 in
theorem give_lanes {k : GC} (hk : k.Ok) {d : Nat} (ih : GiveC k d) (w : World) (r i tb c : Nat) (tk : Nat → Bool) (D : Nat → Int) (ln : Nat → Nat → Int) (s : GSt k w D ln) (hT : DnB w tb tk (k.n / 2)) (ha : Apart k tb) (hr : r < k.L.length) (hi : i < lenr k.L r) (hnd : need k.L r i ≤ d + 1) (hD : ∀ x, 0 ≤ D x ∧ D x + 2 * ((d + 1 : Nat) : Int) ≤ 1000) (hc : k.n / 2 ≤ c ∧ c ≤ 9223372036854775807) :
    Calls Try.prog 97 #[.int .i64 (r : Int), .int .i64 (i : Int), .slice (some ⟨tb, 0, none⟩) (k.n / 2) c, .pointer (some ⟨k.bl, 0, none⟩), .pointer (some ⟨k.bu, 0, none⟩), .pointer (some ⟨k.bn, 0, none⟩), .pointer (some ⟨k.be, 0, none⟩), .pointer (some ⟨k.bf, 0, none⟩)] w (GPost k w tb (k.n / 2) tk D (giveF k.L k.n k.un (d + 1) r i tk D ln)) := by
  have HK := Lib.hid hk
  have HA := Lib.hid ha
  have HR1 := Lib.hid hr
  have HI1 := Lib.hid hi
  have hn26 := hk.hn
  have HHL := Lib.hid (fun W => halls99_c k.n W hk.hn)
  obtain ⟨pa, hpa⟩ : ∃ pa, (prs k.L r i).1 = pa := ⟨_, rfl⟩
  obtain ⟨pb, hpb⟩ : ∃ pb, (prs k.L r i).2 = pb := ⟨_, rfl⟩
  have hp6 := hk.hL r hr i hi
  rw [hpa, hpb] at hp6
  have HPA := Lib.hid hpa
  have HPB := Lib.hid hpb
  have HRES : Hid (giveF k.L k.n k.un (d + 1) r i tk D ln = loopG (giveF k.L k.n k.un d r (i + 1)) r i (prs k.L r i) tk D (k.n / 2) 0 ln) := by show _ = _; rw [giveF, if_neg (by omega), if_neg (by omega)]
  have hr1 : ((r : Int) == (k.L.length : Int)) = false := by simp; omega
  have hi1 : ((i : Int) == (lenr k.L r : Int)) = false := by simp; omega
  have hri : (r : Int) < (k.L.length : Int) := by omega
  have hii : (i : Int) < (lenr k.L r : Int) := by omega
  have hlen := hk.hc
  have hrow := hk.hr r hr
  have hwi1 : IntKind.i64.wrap ((i : Int) + 1) = (i : Int) + 1 := IntWalk.i64_in _ (by omega)
  have cL := s.cl
  have cO := s.out r hr
  have cN := s.cn
  have HIH : Hid (∀ (W : World) (tk2 : Nat → Bool) (D2 : Nat → Int) (ln2 : Nat → Nat → Int), GSt k W D2 ln2 → DnB W tb tk2 (k.n / 2) → (∀ x, 0 ≤ D2 x ∧ D2 x + 2 * (d : Int) ≤ 1000) → Calls Try.prog 97 #[.int .i64 (r : Int), .int .i64 ((i : Int) + 1), .slice (some ⟨tb, 0, none⟩) (k.n / 2) c, .pointer (some ⟨k.bl, 0, none⟩), .pointer (some ⟨k.bu, 0, none⟩), .pointer (some ⟨k.bn, 0, none⟩), .pointer (some ⟨k.be, 0, none⟩), .pointer (some ⟨k.bf, 0, none⟩)] W
      (GPost k W tb (k.n / 2) tk2 D2 (giveF k.L k.n k.un d r (i + 1) tk2 D2 ln2))) := fun W tk2 D2 ln2 h1 h2 h3 =>
    ih W r (i + 1) tb c tk2 D2 ln2 h1 h2 ha h2.lt (.inl ⟨hr, hi⟩) (by have := need_in hr hi; omega) h3 hc
  have HS0 := Lib.hid s
  have HT0 := Lib.hid hT
  have HRG2 : Hid (∀ x, 0 ≤ D x ∧ D x + 2 * (d : Int) + 2 ≤ 1000) := fun x => by have := hD x; omega
  obtain ⟨h, hh⟩ : ∃ h, k.n / 2 = h := ⟨_, rfl⟩
  have hh3 : 1 ≤ h ∧ h ≤ 3 := by omega
  have hGG := (hk.ne r hr)
  have HGT : Hid (k.G r ≠ tb) := fun e => ha.2.2.2.2.2.2 r hr e.symm
  have HUT : Hid (k.bu ≠ tb) := fun e => ha.2.2.2.2.2.1 e.symm
  rw [hh] at HT0 HHL HIH HRES hc ⊢
  clear hk s hT ha hh hD ih hnd hlen hpa hpb hr hi hGG
  go_enter Try.func97, Try.ntmps97
  go_wp2_with fail
  go_step3
  go_wp2_with fail
  go_step3
  go_wp2_with fail
  refine (HHL.out _).mono ?_
  rintro e w9 ⟨rfl, rfl⟩
  go_wp2_with fail
  clear cL cO cN
  go_loopw [53] (fun x wr => ∃ (lane : Nat) (lnc : Nat → Nat → Int), lane ≤ h ∧ x = .int .i64 lane ∧ GSt k wr D lnc ∧ DnB wr tb tk h ∧ Chg w wr (fun j => Sg k j ∨ j = tb) ∧ loopG (giveF k.L k.n k.un d r (i + 1)) r i (prs k.L r i) tk D (h - lane) lane lnc = loopG (giveF k.L k.n k.un d r (i + 1)) r i (prs k.L r i) tk D h 0 ln) (fun x _ => h - (intOf x).toNat)
  case atStart => exact ⟨0, ln, by omega, rfl, HS0.out, HT0.out, Chg.refl _ _, rfl⟩
  case round =>
    obtain ⟨lane, lnc, hl, rfl, hs, ht, hC, htg⟩ := hrel
    have HS := Lib.hid hs
    have HT := Lib.hid ht
    have HC := Lib.hid hC
    have HTG := Lib.hid htg
    clear hs ht hC htg HS0 HT0
    by_cases h1 : lane < h
    · have h1i : (lane : Int) < (h : Int) := by omega
      have hl3 : (lane : Int) < 3 := by omega
      have hpa6 : (pa : Int) < 6 := by omega
      have hpb6 : (pb : Int) < 6 := by omega
      have hwl : IntKind.i64.wrap ((lane : Int) + 1) = (lane : Int) + 1 := IntWalk.i64_in _ (by omega)
      obtain ⟨cT, fT⟩ := HT.out.cell h1
      cases htk : tk lane
      rotate_left 1
      · rw [htk] at cT
        have HN := Lib.hid ((loopG_skip (rec := giveF k.L k.n k.un d r (i + 1)) (r := r) (i := i) (p := prs k.L r i) (D := D) (ln := lnc) h1 htk).symm.trans HTG.out)
        clear htk
        go_wp2_with fail
        go_roundw
        case rel => exact ⟨lane + 1, lnc, by omega, by go_num, HS.out, HT.out, HC.out, HN.out⟩
        case measure => simp [intOf]; omega
      · rw [htk] at cT
        have HTK := Lib.hid htk
        obtain ⟨⟨-, -, cL2⟩, fL2⟩ := HS.out.row r HR1.out i HI1.out
        have s1 := HS.out.setL HK.out HR1.out HI1.out (lane : Int)
        have t1 := HT.out.setFar (p := ⟨k.G r, i * 3 + 2, none⟩) HGT.out (.int .i64 (lane : Int))
        have s2 := s1.setFar HA.out lane (.bool true)
        have t2 := t1.set lane true
        obtain ⟨cT2, fT2⟩ := t1.cell h1
        rw [htk] at cT2
        have HC2 := Lib.hid ((HC.out.trans (Chg.set wr (S := fun j => Sg k j ∨ j = tb) (p := ⟨k.G r, i * 3 + 2, none⟩) (.inl (.inr ⟨r, HR1.out, rfl⟩)) (.int .i64 (lane : Int))) (fun _ _ h => h)).trans (Chg.set _ (S := fun j => Sg k j ∨ j = tb) (p := ⟨tb, lane, none⟩) (.inr rfl) (.bool true)) (fun _ _ h => h))
        have HS2 := Lib.hid s2
        have HT2 := Lib.hid t2
        clear s1 t1 s2 t2 htk
        go_upto_region 11 with fail
        generalize ((wr.setCell ⟨k.G r, i * 3 + 2, none⟩ (.int .i64 (lane : Int))).setCell ⟨tb, lane, none⟩ (.bool true)) = W2 at *
        clear cL2 fL2 cT fT cT2 fT2 HS HT HC
        obtain ⟨⟨cA0, cA1, -⟩, -⟩ := HS2.out.row r HR1.out i HI1.out
        rw [HPA.out] at cA0
        rw [HPB.out] at cA1
        have cA := cA0
        clear cA0 cA1
        obtain ⟨cD, fD⟩ := HS2.out.us.cell (k := pa * 3 + lane) (by omega)
        have hwi : IntKind.i64.wrap (D (pa * 3 + lane) + 1) = D (pa * 3 + lane) + 1 := IntWalk.i64_in _ (by have := HRG2.out (pa * 3 + lane); omega)
        refine wp_region_noPanic ?_
        have hS : (fun W' : World => Below W2.heap.size W2 W') W2.drew := (Below.refl _ _).drew
        refine wp_region_any (by kernel_rfl) (wpAny_of_T (S := fun W' : World => Below W2.heap.size W2 W') (m := 11) _ _ _ _ ?_)
        refine' T_take (i := 0) (v := _) rfl (by kernel_rfl) (by kernel_rfl) (by kernel_rfl) (by kernel_rfl) (fun _ _ _ h => h) (by kernel_rfl) hS ?_ ?_
        rotate_left 1
        · intro Wv hW
          go_simp
          first | done | with_reducible rfl | omega
        try simp only [Act.put, List.setIfInBounds_toArray, List.set_cons_zero, List.set_cons_succ]
        refine' T_take (i := 1) (v := _) rfl (by kernel_rfl) (by kernel_rfl) (by kernel_rfl) (by kernel_rfl) (fun _ _ _ h => h) (by kernel_rfl) hS ?_ ?_
        rotate_left 1
        · intro Wv hW
          go_simp
          first | done | with_reducible rfl | omega
        try simp only [Act.put, List.setIfInBounds_toArray, List.set_cons_zero, List.set_cons_succ]
        refine' T_take (i := 2) (v := _) rfl (by kernel_rfl) (by kernel_rfl) (by kernel_rfl) (by kernel_rfl) (fun _ _ _ h => h) (by kernel_rfl) hS ?_ ?_
        rotate_left 1
        · intro Wv hW
          go_simp
          first | done | with_reducible rfl | omega
        try simp only [Act.put, List.setIfInBounds_toArray, List.set_cons_zero, List.set_cons_succ]
        refine' T_take (i := 3) (v := _) rfl (by kernel_rfl) (by kernel_rfl) (by kernel_rfl) (by kernel_rfl) (fun _ _ _ h => h) (by kernel_rfl) hS ?_ ?_
        rotate_left 1
        · intro Wv hW
          have g0 := cell_of_ans hW cA
          have g1 := cell_of_ans hW cD
          go_simp
          first | done | with_reducible rfl | omega
        try simp only [Act.put, List.setIfInBounds_toArray, List.set_cons_zero, List.set_cons_succ]
        refine' T_take (i := 4) (v := _) rfl (by kernel_rfl) (by kernel_rfl) (by kernel_rfl) (by kernel_rfl) (fun _ _ _ h => h) (by kernel_rfl) hS ?_ ?_
        rotate_left 1
        · intro Wv hW
          go_simp
          first | done | with_reducible rfl | omega
        try simp only [Act.put, List.setIfInBounds_toArray, List.set_cons_zero, List.set_cons_succ]
        refine' T_take (i := 5) (v := _) rfl (by kernel_rfl) (by kernel_rfl) (by kernel_rfl) (by kernel_rfl) (fun _ _ _ h => h) (by kernel_rfl) hS ?_ ?_
        rotate_left 1
        · intro Wv hW
          go_simp
          first | done | with_reducible rfl | omega
        try simp only [Act.put, List.setIfInBounds_toArray, List.set_cons_zero, List.set_cons_succ]
        refine' T_take (i := 6) (v := _) rfl (by kernel_rfl) (by kernel_rfl) (by kernel_rfl) (by kernel_rfl) (fun _ _ _ h => h) (by kernel_rfl) hS ?_ ?_
        rotate_left 1
        · intro Wv hW
          go_simp
          first | done | with_reducible rfl | omega
        try simp only [Act.put, List.setIfInBounds_toArray, List.set_cons_zero, List.set_cons_succ]
        refine' T_take (i := 7) (v := _) rfl (by kernel_rfl) (by kernel_rfl) (by kernel_rfl) (by kernel_rfl) (fun _ _ _ h => h) (by kernel_rfl) hS ?_ ?_
        rotate_left 1
        · intro Wv hW
          have g0 := cell_of_ans hW cA
          have g1 := cell_of_ans hW cD
          go_simp
          first | done | with_reducible rfl | omega
        try simp only [Act.put, List.setIfInBounds_toArray, List.set_cons_zero, List.set_cons_succ]
        refine' T_take (i := 8) (v := _) rfl (by kernel_rfl) (by kernel_rfl) (by kernel_rfl) (by kernel_rfl) (fun _ _ _ h => h) (by kernel_rfl) hS ?_ ?_
        rotate_left 1
        · intro Wv hW
          go_simp
          first | done | with_reducible rfl | omega
        try simp only [Act.put, List.setIfInBounds_toArray, List.set_cons_zero, List.set_cons_succ]
        refine T_ready (rs := [9]) (by kernel_rfl) (by simp) ?_
        refine TReady.cons rfl (fun K hK => ?_) TReady.nil
        try go_simp
        refine hK.out _ _ (fun _ => hS) (fun _ => ?_)
        clear hK K
        try simp only [Act.put, List.setIfInBounds_toArray, List.set_cons_zero, List.set_cons_succ]
        refine' T_take (i := 10) (v := _) rfl (by kernel_rfl) (by kernel_rfl) (by kernel_rfl) (by kernel_rfl) (fun _ _ _ h => h) (by kernel_rfl) hS ?_ ?_
        rotate_left 1
        · intro Wv hW
          go_simp
          first | done | with_reducible rfl | omega
        try simp only [Act.put, List.setIfInBounds_toArray, List.set_cons_zero, List.set_cons_succ]
        refine T_ready (rs := [11]) (by kernel_rfl) (by simp) ?_
        refine TReady.cons rfl (fun K hK => ?_) TReady.nil
        try go_simp
        refine hK.out _ _ (fun h => absurd h (by decide)) (fun _ => ?_)
        clear hK K
        try simp only [Act.put, List.setIfInBounds_toArray, List.set_cons_zero, List.set_cons_succ]
        refine T_done (by kernel_rfl) ?_ _
        refine NoPanic.normal ?_
        try go_simp
        go_upto_region 12 with fail
        have s9 := (HS2.out.setU HK.out (p := pa * 3 + lane) (by omega) (D (pa * 3 + lane) + 1)).step (Below.refl _ _).drew
        have t9 := (HT2.out.setFar (p := ⟨k.bu, pa * 3 + lane, none⟩) HUT.out (.int .i64 (D (pa * 3 + lane) + 1))).step (Below.refl _ _).drew
        have HC3 := Lib.hid ((HC2.out.trans (Chg.set W2 (S := fun j => Sg k j ∨ j = tb) (p := ⟨k.bu, pa * 3 + lane, none⟩) (.inl (.inl rfl)) (.int .i64 (D (pa * 3 + lane) + 1))) (fun _ _ h => h)).trans (Chg.ofBelow (Below.refl _ _).drew (fun j => Sg k j ∨ j = tb)) (fun _ _ h => h))
        obtain ⟨D3, hDn⟩ : ∃ D9, incD D (pa * 3 + lane) (1) = D9 := ⟨_, rfl⟩
        have e9 : updI' D (pa * 3 + lane) (D (pa * 3 + lane) + 1) = D3 := hDn
        rw [e9] at s9
        have HE3 := Lib.hid hDn
        have HS3 := Lib.hid s9
        have HT3 := Lib.hid t9
        have HRG3 : Hid (∀ x, 0 ≤ D3 x ∧ D3 x + 2 * (d : Int) + 1 ≤ 1000) := fun x => by have h8 := HRG2.out x; have h9 := HRG2.out (pa * 3 + lane); rw [← hDn]; simp only [incD, updI']; split <;> omega
        clear s9 t9 e9 hDn cA cD fD hwi hS
        generalize (W2.setCell ⟨k.bu, pa * 3 + lane, none⟩ (.int .i64 (D (pa * 3 + lane) + 1))).drew = W3 at *
        clear HS2 HT2 HC2
        obtain ⟨⟨cA0, cA1, -⟩, -⟩ := HS3.out.row r HR1.out i HI1.out
        rw [HPA.out] at cA0
        rw [HPB.out] at cA1
        have cA := cA1
        clear cA0 cA1
        obtain ⟨cD, fD⟩ := HS3.out.us.cell (k := pb * 3 + lane) (by omega)
        have hwi : IntKind.i64.wrap (D3 (pb * 3 + lane) + 1) = D3 (pb * 3 + lane) + 1 := IntWalk.i64_in _ (by have := HRG3.out (pb * 3 + lane); omega)
        refine wp_region_noPanic ?_
        have hS : (fun W' : World => Below W3.heap.size W3 W') W3.drew := (Below.refl _ _).drew
        refine wp_region_any (by kernel_rfl) (wpAny_of_T (S := fun W' : World => Below W3.heap.size W3 W') (m := 11) _ _ _ _ ?_)
        refine' T_take (i := 0) (v := _) rfl (by kernel_rfl) (by kernel_rfl) (by kernel_rfl) (by kernel_rfl) (fun _ _ _ h => h) (by kernel_rfl) hS ?_ ?_
        rotate_left 1
        · intro Wv hW
          go_simp
          first | done | with_reducible rfl | omega
        try simp only [Act.put, List.setIfInBounds_toArray, List.set_cons_zero, List.set_cons_succ]
        refine' T_take (i := 1) (v := _) rfl (by kernel_rfl) (by kernel_rfl) (by kernel_rfl) (by kernel_rfl) (fun _ _ _ h => h) (by kernel_rfl) hS ?_ ?_
        rotate_left 1
        · intro Wv hW
          go_simp
          first | done | with_reducible rfl | omega
        try simp only [Act.put, List.setIfInBounds_toArray, List.set_cons_zero, List.set_cons_succ]
        refine' T_take (i := 2) (v := _) rfl (by kernel_rfl) (by kernel_rfl) (by kernel_rfl) (by kernel_rfl) (fun _ _ _ h => h) (by kernel_rfl) hS ?_ ?_
        rotate_left 1
        · intro Wv hW
          go_simp
          first | done | with_reducible rfl | omega
        try simp only [Act.put, List.setIfInBounds_toArray, List.set_cons_zero, List.set_cons_succ]
        refine' T_take (i := 3) (v := _) rfl (by kernel_rfl) (by kernel_rfl) (by kernel_rfl) (by kernel_rfl) (fun _ _ _ h => h) (by kernel_rfl) hS ?_ ?_
        rotate_left 1
        · intro Wv hW
          have g0 := cell_of_ans hW cA
          have g1 := cell_of_ans hW cD
          go_simp
          first | done | with_reducible rfl | omega
        try simp only [Act.put, List.setIfInBounds_toArray, List.set_cons_zero, List.set_cons_succ]
        refine' T_take (i := 4) (v := _) rfl (by kernel_rfl) (by kernel_rfl) (by kernel_rfl) (by kernel_rfl) (fun _ _ _ h => h) (by kernel_rfl) hS ?_ ?_
        rotate_left 1
        · intro Wv hW
          go_simp
          first | done | with_reducible rfl | omega
        try simp only [Act.put, List.setIfInBounds_toArray, List.set_cons_zero, List.set_cons_succ]
        refine' T_take (i := 5) (v := _) rfl (by kernel_rfl) (by kernel_rfl) (by kernel_rfl) (by kernel_rfl) (fun _ _ _ h => h) (by kernel_rfl) hS ?_ ?_
        rotate_left 1
        · intro Wv hW
          go_simp
          first | done | with_reducible rfl | omega
        try simp only [Act.put, List.setIfInBounds_toArray, List.set_cons_zero, List.set_cons_succ]
        refine' T_take (i := 6) (v := _) rfl (by kernel_rfl) (by kernel_rfl) (by kernel_rfl) (by kernel_rfl) (fun _ _ _ h => h) (by kernel_rfl) hS ?_ ?_
        rotate_left 1
        · intro Wv hW
          go_simp
          first | done | with_reducible rfl | omega
        try simp only [Act.put, List.setIfInBounds_toArray, List.set_cons_zero, List.set_cons_succ]
        refine' T_take (i := 7) (v := _) rfl (by kernel_rfl) (by kernel_rfl) (by kernel_rfl) (by kernel_rfl) (fun _ _ _ h => h) (by kernel_rfl) hS ?_ ?_
        rotate_left 1
        · intro Wv hW
          have g0 := cell_of_ans hW cA
          have g1 := cell_of_ans hW cD
          go_simp
          first | done | with_reducible rfl | omega
        try simp only [Act.put, List.setIfInBounds_toArray, List.set_cons_zero, List.set_cons_succ]
        refine' T_take (i := 8) (v := _) rfl (by kernel_rfl) (by kernel_rfl) (by kernel_rfl) (by kernel_rfl) (fun _ _ _ h => h) (by kernel_rfl) hS ?_ ?_
        rotate_left 1
        · intro Wv hW
          go_simp
          first | done | with_reducible rfl | omega
        try simp only [Act.put, List.setIfInBounds_toArray, List.set_cons_zero, List.set_cons_succ]
        refine T_ready (rs := [9]) (by kernel_rfl) (by simp) ?_
        refine TReady.cons rfl (fun K hK => ?_) TReady.nil
        try go_simp
        refine hK.out _ _ (fun _ => hS) (fun _ => ?_)
        clear hK K
        try simp only [Act.put, List.setIfInBounds_toArray, List.set_cons_zero, List.set_cons_succ]
        refine' T_take (i := 10) (v := _) rfl (by kernel_rfl) (by kernel_rfl) (by kernel_rfl) (by kernel_rfl) (fun _ _ _ h => h) (by kernel_rfl) hS ?_ ?_
        rotate_left 1
        · intro Wv hW
          go_simp
          first | done | with_reducible rfl | omega
        try simp only [Act.put, List.setIfInBounds_toArray, List.set_cons_zero, List.set_cons_succ]
        refine T_ready (rs := [11]) (by kernel_rfl) (by simp) ?_
        refine TReady.cons rfl (fun K hK => ?_) TReady.nil
        try go_simp
        refine hK.out _ _ (fun h => absurd h (by decide)) (fun _ => ?_)
        clear hK K
        try simp only [Act.put, List.setIfInBounds_toArray, List.set_cons_zero, List.set_cons_succ]
        refine T_done (by kernel_rfl) ?_ _
        refine NoPanic.normal ?_
        try go_simp
        go_upto_region 13 with fail
        have s9 := (HS3.out.setU HK.out (p := pb * 3 + lane) (by omega) (D3 (pb * 3 + lane) + 1)).step (Below.refl _ _).drew
        have t9 := (HT3.out.setFar (p := ⟨k.bu, pb * 3 + lane, none⟩) HUT.out (.int .i64 (D3 (pb * 3 + lane) + 1))).step (Below.refl _ _).drew
        have HC4 := Lib.hid ((HC3.out.trans (Chg.set W3 (S := fun j => Sg k j ∨ j = tb) (p := ⟨k.bu, pb * 3 + lane, none⟩) (.inl (.inl rfl)) (.int .i64 (D3 (pb * 3 + lane) + 1))) (fun _ _ h => h)).trans (Chg.ofBelow (Below.refl _ _).drew (fun j => Sg k j ∨ j = tb)) (fun _ _ h => h))
        obtain ⟨D4, hDn⟩ : ∃ D9, incD D3 (pb * 3 + lane) (1) = D9 := ⟨_, rfl⟩
        have e9 : updI' D3 (pb * 3 + lane) (D3 (pb * 3 + lane) + 1) = D4 := hDn
        rw [e9] at s9
        have HE4 := Lib.hid hDn
        have HS4 := Lib.hid s9
        have HT4 := Lib.hid t9
        have HRG4 : Hid (∀ x, 0 ≤ D4 x ∧ D4 x + 2 * (d : Int) ≤ 1000) := fun x => by have h8 := HRG3.out x; have h9 := HRG3.out (pb * 3 + lane); rw [← hDn]; simp only [incD, updI']; split <;> omega
        clear s9 t9 e9 hDn cA cD fD hwi hS
        generalize (W3.setCell ⟨k.bu, pb * 3 + lane, none⟩ (.int .i64 (D3 (pb * 3 + lane) + 1))).drew = W4 at *
        clear HS3 HT3 HC3
        have HCL := Lib.hid (HIH.out W4 (updB tk lane true) D4 (upd2 lnc r i (lane : Int)) HS4.out HT4.out (fun x => by have := HRG4.out x; omega))
        obtain ⟨⟨b, ln9⟩, hres⟩ : ∃ q, giveF k.L k.n k.un d r (i + 1) (updB tk lane true) D4 (upd2 lnc r i (lane : Int)) = q := ⟨_, rfl⟩
        rw [hres] at HCL
        have hres2 : giveF k.L k.n k.un d r (i + 1) (updB tk lane true) (incD (incD D ((prs k.L r i).1 * 3 + lane) 1) ((prs k.L r i).2 * 3 + lane) 1) (upd2 lnc r i (lane : Int)) = (b, ln9) := by rw [HPA.out, HPB.out, HE3.out, HE4.out, hres]
        clear hres
        have cF := HS4.out.cf
        have hdec : (Ending.returned (.bool b)) = .returned (.bool b) := rfl
        cases b
        rotate_left 1
        · have HN := Lib.hid ((loopG_hit (rec := giveF k.L k.n k.un d r (i + 1)) (r := r) (i := i) (p := prs k.L r i) (D := D) (ln := lnc) h1 HTK.out hres2).symm.trans HTG.out)
          clear hres2 HTG
          go_wp2_with fail
          refine HCL.out.mono ?_
          rintro e W5 hp
          have he : e = .returned (.bool true) := hp.1
          subst he
          have HP := Lib.hid hp
          clear hp cF HCL
          go_wp2_with fail
          try rw [Exit.noGoto_ret]
          go_ret
          rw [HRES.out, ← HN.out]
          obtain ⟨-, ⟨D9, h5, -⟩, -, h7⟩ := HP.out
          exact ⟨rfl, ⟨D9, h5, (fun h => by cases h)⟩, (fun h => by cases h), HC4.out.trans h7 fun _ _ h => h⟩
        · have HN := Lib.hid ((loopG_miss (rec := giveF k.L k.n k.un d r (i + 1)) (r := r) (i := i) (p := prs k.L r i) (D := D) (ln := lnc) h1 HTK.out hres2).symm.trans HTG.out)
          clear hres2 HTG
          go_wp2_with fail
          refine HCL.out.mono ?_
          rintro e W5 hp
          have he : e = .returned (.bool false) := hp.1
          subst he
          obtain ⟨-, ⟨D9, s5, e5⟩, t5, c5⟩ := hp
          rw [e5 rfl] at s5
          clear e5
          replace t5 := t5 rfl
          obtain ⟨cT, fT⟩ := t5.cell h1
          have s6 := s5.setFar HA.out lane (.bool false)
          have t6 := t5.set lane false
          rw [updB_back HTK.out] at t6
          have HC6 := Lib.hid ((HC4.out.trans c5 (fun _ _ h => h)).trans (Chg.set W5 (S := fun j => Sg k j ∨ j = tb) (p := ⟨tb, lane, none⟩) (.inr rfl) (.bool false)) (fun _ _ h => h))
          have HS6 := Lib.hid s6
          have HT6 := Lib.hid t6
          have HRG6 := Lib.hid HRG4.out
          clear s5 t5 c5 s6 t6 cF HCL HS4 HT4 HC4
          go_upto_region 16 with fail
          clear cT fT
          generalize (W5.setCell ⟨tb, lane, none⟩ (.bool false)) = W6 at *
          obtain ⟨⟨cA0, cA1, -⟩, -⟩ := HS6.out.row r HR1.out i HI1.out
          rw [HPA.out] at cA0
          rw [HPB.out] at cA1
          have cA := cA0
          clear cA0 cA1
          obtain ⟨cD, fD⟩ := HS6.out.us.cell (k := pa * 3 + lane) (by omega)
          have hwi : IntKind.i64.wrap (D4 (pa * 3 + lane) - 1) = D4 (pa * 3 + lane) - 1 := IntWalk.i64_in _ (by have := HRG6.out (pa * 3 + lane); omega)
          refine wp_region_noPanic ?_
          have hS : (fun W' : World => Below W6.heap.size W6 W') W6.drew := (Below.refl _ _).drew
          refine wp_region_any (by kernel_rfl) (wpAny_of_T (S := fun W' : World => Below W6.heap.size W6 W') (m := 11) _ _ _ _ ?_)
          refine' T_take (i := 0) (v := _) rfl (by kernel_rfl) (by kernel_rfl) (by kernel_rfl) (by kernel_rfl) (fun _ _ _ h => h) (by kernel_rfl) hS ?_ ?_
          rotate_left 1
          · intro Wv hW
            go_simp
            first | done | with_reducible rfl | omega
          try simp only [Act.put, List.setIfInBounds_toArray, List.set_cons_zero, List.set_cons_succ]
          refine' T_take (i := 1) (v := _) rfl (by kernel_rfl) (by kernel_rfl) (by kernel_rfl) (by kernel_rfl) (fun _ _ _ h => h) (by kernel_rfl) hS ?_ ?_
          rotate_left 1
          · intro Wv hW
            go_simp
            first | done | with_reducible rfl | omega
          try simp only [Act.put, List.setIfInBounds_toArray, List.set_cons_zero, List.set_cons_succ]
          refine' T_take (i := 2) (v := _) rfl (by kernel_rfl) (by kernel_rfl) (by kernel_rfl) (by kernel_rfl) (fun _ _ _ h => h) (by kernel_rfl) hS ?_ ?_
          rotate_left 1
          · intro Wv hW
            go_simp
            first | done | with_reducible rfl | omega
          try simp only [Act.put, List.setIfInBounds_toArray, List.set_cons_zero, List.set_cons_succ]
          refine' T_take (i := 3) (v := _) rfl (by kernel_rfl) (by kernel_rfl) (by kernel_rfl) (by kernel_rfl) (fun _ _ _ h => h) (by kernel_rfl) hS ?_ ?_
          rotate_left 1
          · intro Wv hW
            have g0 := cell_of_ans hW cA
            have g1 := cell_of_ans hW cD
            go_simp
            first | done | with_reducible rfl | omega
          try simp only [Act.put, List.setIfInBounds_toArray, List.set_cons_zero, List.set_cons_succ]
          refine' T_take (i := 4) (v := _) rfl (by kernel_rfl) (by kernel_rfl) (by kernel_rfl) (by kernel_rfl) (fun _ _ _ h => h) (by kernel_rfl) hS ?_ ?_
          rotate_left 1
          · intro Wv hW
            go_simp
            first | done | with_reducible rfl | omega
          try simp only [Act.put, List.setIfInBounds_toArray, List.set_cons_zero, List.set_cons_succ]
          refine' T_take (i := 5) (v := _) rfl (by kernel_rfl) (by kernel_rfl) (by kernel_rfl) (by kernel_rfl) (fun _ _ _ h => h) (by kernel_rfl) hS ?_ ?_
          rotate_left 1
          · intro Wv hW
            go_simp
            first | done | with_reducible rfl | omega
          try simp only [Act.put, List.setIfInBounds_toArray, List.set_cons_zero, List.set_cons_succ]
          refine' T_take (i := 6) (v := _) rfl (by kernel_rfl) (by kernel_rfl) (by kernel_rfl) (by kernel_rfl) (fun _ _ _ h => h) (by kernel_rfl) hS ?_ ?_
          rotate_left 1
          · intro Wv hW
            go_simp
            first | done | with_reducible rfl | omega
          try simp only [Act.put, List.setIfInBounds_toArray, List.set_cons_zero, List.set_cons_succ]
          refine' T_take (i := 7) (v := _) rfl (by kernel_rfl) (by kernel_rfl) (by kernel_rfl) (by kernel_rfl) (fun _ _ _ h => h) (by kernel_rfl) hS ?_ ?_
          rotate_left 1
          · intro Wv hW
            have g0 := cell_of_ans hW cA
            have g1 := cell_of_ans hW cD
            go_simp
            first | done | with_reducible rfl | omega
          try simp only [Act.put, List.setIfInBounds_toArray, List.set_cons_zero, List.set_cons_succ]
          refine' T_take (i := 8) (v := _) rfl (by kernel_rfl) (by kernel_rfl) (by kernel_rfl) (by kernel_rfl) (fun _ _ _ h => h) (by kernel_rfl) hS ?_ ?_
          rotate_left 1
          · intro Wv hW
            go_simp
            first | done | with_reducible rfl | omega
          try simp only [Act.put, List.setIfInBounds_toArray, List.set_cons_zero, List.set_cons_succ]
          refine T_ready (rs := [9]) (by kernel_rfl) (by simp) ?_
          refine TReady.cons rfl (fun K hK => ?_) TReady.nil
          try go_simp
          refine hK.out _ _ (fun _ => hS) (fun _ => ?_)
          clear hK K
          try simp only [Act.put, List.setIfInBounds_toArray, List.set_cons_zero, List.set_cons_succ]
          refine' T_take (i := 10) (v := _) rfl (by kernel_rfl) (by kernel_rfl) (by kernel_rfl) (by kernel_rfl) (fun _ _ _ h => h) (by kernel_rfl) hS ?_ ?_
          rotate_left 1
          · intro Wv hW
            go_simp
            first | done | with_reducible rfl | omega
          try simp only [Act.put, List.setIfInBounds_toArray, List.set_cons_zero, List.set_cons_succ]
          refine T_ready (rs := [11]) (by kernel_rfl) (by simp) ?_
          refine TReady.cons rfl (fun K hK => ?_) TReady.nil
          try go_simp
          refine hK.out _ _ (fun h => absurd h (by decide)) (fun _ => ?_)
          clear hK K
          try simp only [Act.put, List.setIfInBounds_toArray, List.set_cons_zero, List.set_cons_succ]
          refine T_done (by kernel_rfl) ?_ _
          refine NoPanic.normal ?_
          try go_simp
          go_upto_region 17 with fail
          have s9 := (HS6.out.setU HK.out (p := pa * 3 + lane) (by omega) (D4 (pa * 3 + lane) - 1)).step (Below.refl _ _).drew
          have t9 := (HT6.out.setFar (p := ⟨k.bu, pa * 3 + lane, none⟩) HUT.out (.int .i64 (D4 (pa * 3 + lane) - 1))).step (Below.refl _ _).drew
          have HC7 := Lib.hid ((HC6.out.trans (Chg.set W6 (S := fun j => Sg k j ∨ j = tb) (p := ⟨k.bu, pa * 3 + lane, none⟩) (.inl (.inl rfl)) (.int .i64 (D4 (pa * 3 + lane) - 1))) (fun _ _ h => h)).trans (Chg.ofBelow (Below.refl _ _).drew (fun j => Sg k j ∨ j = tb)) (fun _ _ h => h))
          obtain ⟨D7, hDn⟩ : ∃ D9, incD D4 (pa * 3 + lane) (-1) = D9 := ⟨_, rfl⟩
          have e9 : updI' D4 (pa * 3 + lane) (D4 (pa * 3 + lane) - 1) = D7 := hDn
          rw [e9] at s9
          have HE7 := Lib.hid hDn
          have HS7 := Lib.hid s9
          have HT7 := Lib.hid t9
          have HRG7 : Hid (∀ x, -1 ≤ D7 x ∧ D7 x + 2 * (d : Int) ≤ 1000) := fun x => by have h8 := HRG6.out x; have h9 := HRG6.out (pa * 3 + lane); rw [← hDn]; simp only [incD, updI']; split <;> omega
          clear s9 t9 e9 hDn cA cD fD hwi hS
          generalize (W6.setCell ⟨k.bu, pa * 3 + lane, none⟩ (.int .i64 (D4 (pa * 3 + lane) - 1))).drew = W7 at *
          clear HS6 HT6 HC6
          obtain ⟨⟨cA0, cA1, -⟩, -⟩ := HS7.out.row r HR1.out i HI1.out
          rw [HPA.out] at cA0
          rw [HPB.out] at cA1
          have cA := cA1
          clear cA0 cA1
          obtain ⟨cD, fD⟩ := HS7.out.us.cell (k := pb * 3 + lane) (by omega)
          have hwi : IntKind.i64.wrap (D7 (pb * 3 + lane) - 1) = D7 (pb * 3 + lane) - 1 := IntWalk.i64_in _ (by have := HRG7.out (pb * 3 + lane); omega)
          refine wp_region_noPanic ?_
          have hS : (fun W' : World => Below W7.heap.size W7 W') W7.drew := (Below.refl _ _).drew
          refine wp_region_any (by kernel_rfl) (wpAny_of_T (S := fun W' : World => Below W7.heap.size W7 W') (m := 11) _ _ _ _ ?_)
          refine' T_take (i := 0) (v := _) rfl (by kernel_rfl) (by kernel_rfl) (by kernel_rfl) (by kernel_rfl) (fun _ _ _ h => h) (by kernel_rfl) hS ?_ ?_
          rotate_left 1
          · intro Wv hW
            go_simp
            first | done | with_reducible rfl | omega
          try simp only [Act.put, List.setIfInBounds_toArray, List.set_cons_zero, List.set_cons_succ]
          refine' T_take (i := 1) (v := _) rfl (by kernel_rfl) (by kernel_rfl) (by kernel_rfl) (by kernel_rfl) (fun _ _ _ h => h) (by kernel_rfl) hS ?_ ?_
          rotate_left 1
          · intro Wv hW
            go_simp
            first | done | with_reducible rfl | omega
          try simp only [Act.put, List.setIfInBounds_toArray, List.set_cons_zero, List.set_cons_succ]
          refine' T_take (i := 2) (v := _) rfl (by kernel_rfl) (by kernel_rfl) (by kernel_rfl) (by kernel_rfl) (fun _ _ _ h => h) (by kernel_rfl) hS ?_ ?_
          rotate_left 1
          · intro Wv hW
            go_simp
            first | done | with_reducible rfl | omega
          try simp only [Act.put, List.setIfInBounds_toArray, List.set_cons_zero, List.set_cons_succ]
          refine' T_take (i := 3) (v := _) rfl (by kernel_rfl) (by kernel_rfl) (by kernel_rfl) (by kernel_rfl) (fun _ _ _ h => h) (by kernel_rfl) hS ?_ ?_
          rotate_left 1
          · intro Wv hW
            have g0 := cell_of_ans hW cA
            have g1 := cell_of_ans hW cD
            go_simp
            first | done | with_reducible rfl | omega
          try simp only [Act.put, List.setIfInBounds_toArray, List.set_cons_zero, List.set_cons_succ]
          refine' T_take (i := 4) (v := _) rfl (by kernel_rfl) (by kernel_rfl) (by kernel_rfl) (by kernel_rfl) (fun _ _ _ h => h) (by kernel_rfl) hS ?_ ?_
          rotate_left 1
          · intro Wv hW
            go_simp
            first | done | with_reducible rfl | omega
          try simp only [Act.put, List.setIfInBounds_toArray, List.set_cons_zero, List.set_cons_succ]
          refine' T_take (i := 5) (v := _) rfl (by kernel_rfl) (by kernel_rfl) (by kernel_rfl) (by kernel_rfl) (fun _ _ _ h => h) (by kernel_rfl) hS ?_ ?_
          rotate_left 1
          · intro Wv hW
            go_simp
            first | done | with_reducible rfl | omega
          try simp only [Act.put, List.setIfInBounds_toArray, List.set_cons_zero, List.set_cons_succ]
          refine' T_take (i := 6) (v := _) rfl (by kernel_rfl) (by kernel_rfl) (by kernel_rfl) (by kernel_rfl) (fun _ _ _ h => h) (by kernel_rfl) hS ?_ ?_
          rotate_left 1
          · intro Wv hW
            go_simp
            first | done | with_reducible rfl | omega
          try simp only [Act.put, List.setIfInBounds_toArray, List.set_cons_zero, List.set_cons_succ]
          refine' T_take (i := 7) (v := _) rfl (by kernel_rfl) (by kernel_rfl) (by kernel_rfl) (by kernel_rfl) (fun _ _ _ h => h) (by kernel_rfl) hS ?_ ?_
          rotate_left 1
          · intro Wv hW
            have g0 := cell_of_ans hW cA
            have g1 := cell_of_ans hW cD
            go_simp
            first | done | with_reducible rfl | omega
          try simp only [Act.put, List.setIfInBounds_toArray, List.set_cons_zero, List.set_cons_succ]
          refine' T_take (i := 8) (v := _) rfl (by kernel_rfl) (by kernel_rfl) (by kernel_rfl) (by kernel_rfl) (fun _ _ _ h => h) (by kernel_rfl) hS ?_ ?_
          rotate_left 1
          · intro Wv hW
            go_simp
            first | done | with_reducible rfl | omega
          try simp only [Act.put, List.setIfInBounds_toArray, List.set_cons_zero, List.set_cons_succ]
          refine T_ready (rs := [9]) (by kernel_rfl) (by simp) ?_
          refine TReady.cons rfl (fun K hK => ?_) TReady.nil
          try go_simp
          refine hK.out _ _ (fun _ => hS) (fun _ => ?_)
          clear hK K
          try simp only [Act.put, List.setIfInBounds_toArray, List.set_cons_zero, List.set_cons_succ]
          refine' T_take (i := 10) (v := _) rfl (by kernel_rfl) (by kernel_rfl) (by kernel_rfl) (by kernel_rfl) (fun _ _ _ h => h) (by kernel_rfl) hS ?_ ?_
          rotate_left 1
          · intro Wv hW
            go_simp
            first | done | with_reducible rfl | omega
          try simp only [Act.put, List.setIfInBounds_toArray, List.set_cons_zero, List.set_cons_succ]
          refine T_ready (rs := [11]) (by kernel_rfl) (by simp) ?_
          refine TReady.cons rfl (fun K hK => ?_) TReady.nil
          try go_simp
          refine hK.out _ _ (fun h => absurd h (by decide)) (fun _ => ?_)
          clear hK K
          try simp only [Act.put, List.setIfInBounds_toArray, List.set_cons_zero, List.set_cons_succ]
          refine T_done (by kernel_rfl) ?_ _
          refine NoPanic.normal ?_
          try go_simp
          go_upto_region 18 with fail
          have s9 := (HS7.out.setU HK.out (p := pb * 3 + lane) (by omega) (D7 (pb * 3 + lane) - 1)).step (Below.refl _ _).drew
          have t9 := (HT7.out.setFar (p := ⟨k.bu, pb * 3 + lane, none⟩) HUT.out (.int .i64 (D7 (pb * 3 + lane) - 1))).step (Below.refl _ _).drew
          have HC8 := Lib.hid ((HC7.out.trans (Chg.set W7 (S := fun j => Sg k j ∨ j = tb) (p := ⟨k.bu, pb * 3 + lane, none⟩) (.inl (.inl rfl)) (.int .i64 (D7 (pb * 3 + lane) - 1))) (fun _ _ h => h)).trans (Chg.ofBelow (Below.refl _ _).drew (fun j => Sg k j ∨ j = tb)) (fun _ _ h => h))
          obtain ⟨D8, hDn⟩ : ∃ D9, incD D7 (pb * 3 + lane) (-1) = D9 := ⟨_, rfl⟩
          have e9 : updI' D7 (pb * 3 + lane) (D7 (pb * 3 + lane) - 1) = D8 := hDn
          rw [e9] at s9
          have HE8 := Lib.hid hDn
          have HS8 := Lib.hid s9
          have HT8 := Lib.hid t9
          have HRG8 : Hid (∀ x, -2 ≤ D8 x ∧ D8 x + 2 * (d : Int) ≤ 1000) := fun x => by have h8 := HRG7.out x; have h9 := HRG7.out (pb * 3 + lane); rw [← hDn]; simp only [incD, updI']; split <;> omega
          clear s9 t9 e9 hDn cA cD fD hwi hS
          generalize (W7.setCell ⟨k.bu, pb * 3 + lane, none⟩ (.int .i64 (D7 (pb * 3 + lane) - 1))).drew = W8 at *
          clear HS7 HT7 HC7
          have hD8 : D8 = D := by rw [← HE8.out, ← HE7.out, ← HE4.out, ← HE3.out, upd_incs]
          rw [hD8] at HS8
          go_wp2_with fail
          go_roundw
          case rel => exact ⟨lane + 1, ln9, by omega, by go_num, HS8.out, HT8.out, HC8.out, HN.out⟩
          case measure => simp [intOf]; omega
    · obtain rfl : lane = h := by omega
      have h1i : ¬ (lane : Int) < (lane : Int) := by omega
      go_wp2_with fail
      try rw [Exit.noGoto_ret]
      go_ret
      have h9 := HTG.out
      rw [Nat.sub_self] at h9
      rw [HRES.out, ← h9, loopG]
      exact ⟨rfl, ⟨D, HS.out, fun _ => rfl⟩, fun _ => HT.out, HC.out⟩
theorem give97_c {k : GC} (hk : k.Ok) : ∀ d, GiveC k d
  | 0 => fun w r i tb c tk D ln s hT ha htb hri hnd hD hc => by
    exfalso
    rcases hri with ⟨h1, h2⟩ | ⟨h1, h2⟩
    · have := need_pos h2; omega
    · subst h1 h2
      have := need_pos (L := k.L) (r := k.L.length) (i := 0) (Nat.zero_le _)
      omega
  | d + 1 => fun w r i tb c tk D ln s hT ha htb hri hnd hD hc => by
    rcases hri with ⟨h1, h2⟩ | ⟨h1, h2⟩
    · by_cases e : i = lenr k.L r
      · subst e
        exact give_next hk (give97_c hk d) w r tb c tk D ln s hT ha h1 hnd hD
      · exact give_lanes hk (give97_c hk d) w r i tb c tk D ln s hT ha h1 (by omega) hnd hD hc
    · exact give_end hk d w r i tb c tk D ln s hT h1 (fun x => by have := hD x; omega)
end

section

open Go.RowKit
set_option linter.unusedSimpArgs false
set_option linter.unusedVariables false

attribute [local go_sem] Oper.semAt_some
/-- Rows of matches in memory, with their lanes. -/
structure LSt (w : World) (L : List (List (Nat × Nat))) (go co : Nat) (G C : Nat → Nat) (ln : Nat → Nat → Int) : Prop where
  out : ∀ r, r < L.length → w.cell? ⟨go, r, none⟩ = some (.slice (some ⟨G r, 0, none⟩) (lenr L r) (C r))
  row : ∀ r, r < L.length → ∀ i, i < lenr L r → (w.cell? ⟨G r, i * 3, none⟩ = some (.int .i64 (prs L r i).1) ∧ w.cell? ⟨G r, i * 3 + 1, none⟩ = some (.int .i64 (prs L r i).2) ∧ w.cell? ⟨G r, i * 3 + 2, none⟩ = some (.int .i64 (ln r i))) ∧ w.frozen? ⟨G r, i * 3 + 2, none⟩ = false
/-- What does not turn: the rows are apart, and long enough. -/
structure LOk (B : Nat) (w : World) (L : List (List (Nat × Nat))) (go co : Nat) (G C : Nat → Nat) : Prop where
  inj : ∀ r r', r < L.length → r' < L.length → G r = G r' → r = r'
  ne : ∀ r, r < L.length → G r ≠ go
  hc : L.length ≤ co ∧ co ≤ 9223372036854775807 ∧ L.length ≤ 1000
  hp : ∀ r, r < L.length → 0 < lenr L r
  hr : ∀ r, r < L.length → lenr L r ≤ C r ∧ C r ≤ 9223372036854775807 ∧ lenr L r ≤ 1000
  lt : go < w.heap.size ∧ ∀ r, r < L.length → B ≤ G r ∧ G r < w.heap.size
theorem LSt.step {w w' : World} {L : List (List (Nat × Nat))} {go co : Nat} {G C : Nat → Nat} {ln : Nat → Nat → Int} (s : LSt w L go co G C ln) (hb : Below w.heap.size w w') : LSt w' L go co G C ln :=
  ⟨fun r hr => cell_of_ans hb (s.out r hr), fun r hr i hi => by
    obtain ⟨⟨a, b, c⟩, d⟩ := s.row r hr i hi
    refine ⟨⟨cell_of_ans hb a, cell_of_ans hb b, cell_of_ans hb c⟩, ?_⟩
    have := (bcell hb).2 (G r) (i * 3 + 2) (World.block_lt_of_cell? _ _ a)
    rw [this, d]⟩
theorem LOk.more {B : Nat} {w w' : World} {L : List (List (Nat × Nat))} {go co : Nat} {G C : Nat → Nat} (h : LOk B w L go co G C) (hs : w.heap.size ≤ w'.heap.size) : LOk B w' L go co G C :=
  ⟨h.inj, h.ne, h.hc, h.hp, h.hr, by have := h.lt.1; omega, fun r hr => by have := h.lt.2 r hr; omega⟩
theorem rounds_ok : ∀ n, 2 ≤ n → n ≤ 6 → (∀ r, r < (roundsN n).length → ∀ i, i < lenr (roundsN n) r → (prs (roundsN n) r i).1 < 6 ∧ (prs (roundsN n) r i).2 < 6) ∧ (roundsN n).length = n - 1 + n % 2 ∧ (roundsN n).length ≤ 10 ∧ ∀ r, r < (roundsN n).length → 0 < lenr (roundsN n) r ∧ lenr (roundsN n) r ≤ 10 := by
  intro n h1 h2
  obtain rfl | rfl | rfl | rfl | rfl : n = 2 ∨ n = 3 ∨ n = 4 ∨ n = 5 ∨ n = 6 := by omega
  all_goals decide +kernel
/-- What lay does: are there lanes? And what lies in the lanes' places. -/
def LayP (w : World) (L : List (List (Nat × Nat))) (go co : Nat) (G C : Nat → Nat) (res : Bool × (Nat → Nat → Int)) (e : Ending) (w' : World) : Prop :=
  e = .returned (.bool res.1) ∧ LSt w' L go co G C res.2 ∧ Chg w w' (fun j => ∃ r, r < L.length ∧ j = G r)
set_option maxRecDepth 100000 in
set_option maxHeartbeats 8000000 in
theorem lay65_c {B n : Nat} (hn : 2 ≤ n ∧ n ≤ 6) (un : Int) (hun : 0 ≤ un ∧ un ≤ 1000) (go co : Nat) (G C : Nat → Nat) (ln : Nat → Nat → Int) (w : World) (hk : LOk B w (roundsN n) go co G C) (hs : LSt w (roundsN n) go co G C ln) :
    Calls Try.prog 65 #[.int .i64 (n : Int), .slice (some ⟨go, 0, none⟩) (roundsN n).length co, .int .i64 un] w (LayP w (roundsN n) go co G C (layF n un ln)) := by
  obtain ⟨hro1, -, -, -⟩ := rounds_ok n hn.1 hn.2
  have hnd := need_rounds n hn.1 hn.2
  have HHL := Lib.hid (fun W => halls99_c n W hn)
  have hgl : ∀ r, r < (roundsN n).length → G r < w.heap.size ∧ go < w.heap.size := fun r hr => ⟨(hk.lt.2 r hr).2, hk.lt.1⟩
  have hgo := hk.lt.1
  have hlay : layF n un ln = giveF (roundsN n) n un 40 0 0 (fun _ => false) (fun _ => 0) ln := rfl
  have hb5 : Below w.heap.size w (((((w.alloc (.cells #[.int .i64 (n : Int)] 3)).alloc (.cells #[.slice (some ⟨go, 0, none⟩) (roundsN n).length co] 47)).alloc (.cells #[.int .i64 un] 3)).alloc (.cells #[.int .i64 0, .int .i64 0, .int .i64 0, .int .i64 0, .int .i64 0, .int .i64 0, .int .i64 0, .int .i64 0, .int .i64 0, .int .i64 0, .int .i64 0, .int .i64 0, .int .i64 0, .int .i64 0, .int .i64 0, .int .i64 0, .int .i64 0, .int .i64 0] 110)).alloc (.cells #[(.func (.func 97) #[] #[.pointer (some ⟨w.heap.size + 1, 0, none⟩), .pointer (some ⟨w.heap.size + 3, 0, none⟩), .pointer (some ⟨w.heap.size, 0, none⟩), .pointer (some ⟨w.heap.size + 2, 0, none⟩), .pointer (some ⟨w.heap.size + 4, 0, none⟩)])] 132)) := (((((Below.refl _ _).alloc (Nat.le_refl _) _).alloc (by simp) _).alloc (by simp; omega) _).alloc (by simp; omega) _).alloc (by simp; omega) _
  have hkk : GC.Ok ⟨n, un, roundsN n, go, co, G, C, w.heap.size + 1, w.heap.size + 3, w.heap.size, w.heap.size + 2, w.heap.size + 4⟩ :=
    ⟨hn, hun, hk.inj, fun r hr => ⟨hk.ne r hr, by have := hgl r hr; dsimp only; omega, by have := hgl r hr; dsimp only; omega, by have := hgl r hr; dsimp only; omega, by have := hgl r hr; dsimp only; omega, by have := hgl r hr; dsimp only; omega⟩, ⟨by dsimp only; omega, by dsimp only; omega, by dsimp only; omega, by dsimp only; omega, by dsimp only; omega⟩, hro1, hk.hc, hk.hp, hk.hr⟩
  have k0 : (((((w.alloc (.cells #[.int .i64 (n : Int)] 3)).alloc (.cells #[.slice (some ⟨go, 0, none⟩) (roundsN n).length co] 47)).alloc (.cells #[.int .i64 un] 3)).alloc (.cells #[.int .i64 0, .int .i64 0, .int .i64 0, .int .i64 0, .int .i64 0, .int .i64 0, .int .i64 0, .int .i64 0, .int .i64 0, .int .i64 0, .int .i64 0, .int .i64 0, .int .i64 0, .int .i64 0, .int .i64 0, .int .i64 0, .int .i64 0, .int .i64 0] 110)).alloc (.cells #[(.func (.func 97) #[] #[.pointer (some ⟨w.heap.size + 1, 0, none⟩), .pointer (some ⟨w.heap.size + 3, 0, none⟩), .pointer (some ⟨w.heap.size, 0, none⟩), .pointer (some ⟨w.heap.size + 2, 0, none⟩), .pointer (some ⟨w.heap.size + 4, 0, none⟩)])] 132)).cell? ⟨w.heap.size, 0, none⟩ = some (.int .i64 (n : Int)) := by go_simp
  have k1 : (((((w.alloc (.cells #[.int .i64 (n : Int)] 3)).alloc (.cells #[.slice (some ⟨go, 0, none⟩) (roundsN n).length co] 47)).alloc (.cells #[.int .i64 un] 3)).alloc (.cells #[.int .i64 0, .int .i64 0, .int .i64 0, .int .i64 0, .int .i64 0, .int .i64 0, .int .i64 0, .int .i64 0, .int .i64 0, .int .i64 0, .int .i64 0, .int .i64 0, .int .i64 0, .int .i64 0, .int .i64 0, .int .i64 0, .int .i64 0, .int .i64 0] 110)).alloc (.cells #[(.func (.func 97) #[] #[.pointer (some ⟨w.heap.size + 1, 0, none⟩), .pointer (some ⟨w.heap.size + 3, 0, none⟩), .pointer (some ⟨w.heap.size, 0, none⟩), .pointer (some ⟨w.heap.size + 2, 0, none⟩), .pointer (some ⟨w.heap.size + 4, 0, none⟩)])] 132)).cell? ⟨w.heap.size + 4, 0, none⟩ = some (.func (.func 97) #[] #[.pointer (some ⟨w.heap.size + 1, 0, none⟩), .pointer (some ⟨w.heap.size + 3, 0, none⟩), .pointer (some ⟨w.heap.size, 0, none⟩), .pointer (some ⟨w.heap.size + 2, 0, none⟩), .pointer (some ⟨w.heap.size + 4, 0, none⟩)]) := by go_simp
  have s5 : GSt ⟨n, un, roundsN n, go, co, G, C, w.heap.size + 1, w.heap.size + 3, w.heap.size, w.heap.size + 2, w.heap.size + 4⟩ (((((w.alloc (.cells #[.int .i64 (n : Int)] 3)).alloc (.cells #[.slice (some ⟨go, 0, none⟩) (roundsN n).length co] 47)).alloc (.cells #[.int .i64 un] 3)).alloc (.cells #[.int .i64 0, .int .i64 0, .int .i64 0, .int .i64 0, .int .i64 0, .int .i64 0, .int .i64 0, .int .i64 0, .int .i64 0, .int .i64 0, .int .i64 0, .int .i64 0, .int .i64 0, .int .i64 0, .int .i64 0, .int .i64 0, .int .i64 0, .int .i64 0] 110)).alloc (.cells #[(.func (.func 97) #[] #[.pointer (some ⟨w.heap.size + 1, 0, none⟩), .pointer (some ⟨w.heap.size + 3, 0, none⟩), .pointer (some ⟨w.heap.size, 0, none⟩), .pointer (some ⟨w.heap.size + 2, 0, none⟩), .pointer (some ⟨w.heap.size + 4, 0, none⟩)])] 132)) (fun _ => 0) ln := by
    have h5 := hs.step hb5
    refine ⟨by go_simp, k0, by go_simp, k1, h5.out, h5.row, ?_⟩
    have := World.alloc_heap_new (((w.alloc (.cells #[.int .i64 (n : Int)] 3)).alloc (.cells #[.slice (some ⟨go, 0, none⟩) (roundsN n).length co] 47)).alloc (.cells #[.int .i64 un] 3)) (.cells #[.int .i64 0, .int .i64 0, .int .i64 0, .int .i64 0, .int .i64 0, .int .i64 0, .int .i64 0, .int .i64 0, .int .i64 0, .int .i64 0, .int .i64 0, .int .i64 0, .int .i64 0, .int .i64 0, .int .i64 0, .int .i64 0, .int .i64 0, .int .i64 0] 110)
    have e : (((w.alloc (.cells #[.int .i64 (n : Int)] 3)).alloc (.cells #[.slice (some ⟨go, 0, none⟩) (roundsN n).length co] 47)).alloc (.cells #[.int .i64 un] 3)).heap.size = w.heap.size + 3 := by simp
    rw [e] at this
    exact (heap_alloc_old _ _ (by simp)).trans this
  obtain ⟨h, hh⟩ : ∃ h, n / 2 = h := ⟨_, rfl⟩
  have hmk : ∀ W, (Instr.makeSlice 133 (.int .i64 (h : Int)) (.int .i64 (h : Int))).run Try.prog W = .ok (.slice (some ⟨W.heap.size, 0, none⟩) h h) (W.alloc (.cells (madeCells #[.bool false] h) 4)) := by
    exact fun W => run_make_row' 133 4 (.bool false) 1 (by kernel_rfl) infoBl rfl .i64 .i64 h (by omega) (by omega) W
  have HCALL0 : Hid (∀ y5 : World, y5 = (((((w.alloc (.cells #[.int .i64 (n : Int)] 3)).alloc (.cells #[.slice (some ⟨go, 0, none⟩) (roundsN n).length co] 47)).alloc (.cells #[.int .i64 un] 3)).alloc (.cells #[.int .i64 0, .int .i64 0, .int .i64 0, .int .i64 0, .int .i64 0, .int .i64 0, .int .i64 0, .int .i64 0, .int .i64 0, .int .i64 0, .int .i64 0, .int .i64 0, .int .i64 0, .int .i64 0, .int .i64 0, .int .i64 0, .int .i64 0, .int .i64 0] 110)).alloc (.cells #[(.func (.func 97) #[] #[.pointer (some ⟨w.heap.size + 1, 0, none⟩), .pointer (some ⟨w.heap.size + 3, 0, none⟩), .pointer (some ⟨w.heap.size, 0, none⟩), .pointer (some ⟨w.heap.size + 2, 0, none⟩), .pointer (some ⟨w.heap.size + 4, 0, none⟩)])] 132)) → Calls Try.prog 97 #[.int .i64 0, .int .i64 0, .slice (some ⟨y5.heap.size, 0, none⟩) h h, .pointer (some ⟨w.heap.size + 1, 0, none⟩), .pointer (some ⟨w.heap.size + 3, 0, none⟩), .pointer (some ⟨w.heap.size, 0, none⟩), .pointer (some ⟨w.heap.size + 2, 0, none⟩), .pointer (some ⟨w.heap.size + 4, 0, none⟩)] (y5.drew.alloc (.cells (madeCells #[.bool false] h) 4))
      (GPost ⟨n, un, roundsN n, go, co, G, C, w.heap.size + 1, w.heap.size + 3, w.heap.size, w.heap.size + 2, w.heap.size + 4⟩ (y5.drew.alloc (.cells (madeCells #[.bool false] h) 4)) y5.heap.size h (fun _ => false) (fun _ => 0) (layF n un ln))) := fun y5 e => by
    subst hh
    rw [hlay]
    have hb6 : Below y5.heap.size y5 (y5.drew.alloc (.cells (madeCells #[.bool false] (n / 2)) 4)) := ((Below.refl _ _).drew).alloc (Nat.le_refl _) _
    rw [← e] at s5
    exact give97_c hkk 40 _ 0 0 y5.heap.size (n / 2) (fun _ => false) (fun _ => 0) ln (s5.step hb6) (dnB_new y5.drew (n / 2)) (Apart.new s5 hkk (by dsimp only; have := (rounds_ok n hn.1 hn.2).2.1; omega) (Nat.le_refl _)) (by simp) (.inl ⟨by dsimp only; have := (rounds_ok n hn.1 hn.2).2.1; omega, Nat.zero_le _⟩) hnd (fun x => by simp) (by dsimp only; omega)
  rw [hh] at HHL
  have HBB := Lib.hid hb5
  have HGL := Lib.hid hgl
  have HSZ : Hid ((((((w.alloc (.cells #[.int .i64 (n : Int)] 3)).alloc (.cells #[.slice (some ⟨go, 0, none⟩) (roundsN n).length co] 47)).alloc (.cells #[.int .i64 un] 3)).alloc (.cells #[.int .i64 0, .int .i64 0, .int .i64 0, .int .i64 0, .int .i64 0, .int .i64 0, .int .i64 0, .int .i64 0, .int .i64 0, .int .i64 0, .int .i64 0, .int .i64 0, .int .i64 0, .int .i64 0, .int .i64 0, .int .i64 0, .int .i64 0, .int .i64 0] 110)).alloc (.cells #[(.func (.func 97) #[] #[.pointer (some ⟨w.heap.size + 1, 0, none⟩), .pointer (some ⟨w.heap.size + 3, 0, none⟩), .pointer (some ⟨w.heap.size, 0, none⟩), .pointer (some ⟨w.heap.size + 2, 0, none⟩), .pointer (some ⟨w.heap.size + 4, 0, none⟩)])] 132)).heap.size = w.heap.size + 5) := by show _ = _; simp
  clear hk hs s5 hro1 hnd hgl hlay hb5 hkk hh hgo
  generalize layF n un ln = res at *
  go_enter Try.func65, Try.ntmps65
  go_upto_region 4 with fail
  obtain ⟨y5, hy5⟩ : ∃ y5, (((((w.alloc (.cells #[.int .i64 (n : Int)] 3)).alloc (.cells #[.slice (some ⟨go, 0, none⟩) (roundsN n).length co] 47)).alloc (.cells #[.int .i64 un] 3)).alloc (.cells #[.int .i64 0, .int .i64 0, .int .i64 0, .int .i64 0, .int .i64 0, .int .i64 0, .int .i64 0, .int .i64 0, .int .i64 0, .int .i64 0, .int .i64 0, .int .i64 0, .int .i64 0, .int .i64 0, .int .i64 0, .int .i64 0, .int .i64 0, .int .i64 0] 110)).alloc (.cells #[(.func (.func 97) #[] #[.pointer (some ⟨w.heap.size + 1, 0, none⟩), .pointer (some ⟨w.heap.size + 3, 0, none⟩), .pointer (some ⟨w.heap.size, 0, none⟩), .pointer (some ⟨w.heap.size + 2, 0, none⟩), .pointer (some ⟨w.heap.size + 4, 0, none⟩)])] 132)) = y5 := ⟨_, rfl⟩
  have HCALL := Lib.hid (HCALL0.out y5 hy5.symm)
  rw [hy5] at HBB HSZ k0 k1
  clear HCALL0
  generalize (((((w.alloc (.cells #[.int .i64 (n : Int)] 3)).alloc (.cells #[.slice (some ⟨go, 0, none⟩) (roundsN n).length co] 47)).alloc (.cells #[.int .i64 un] 3)).alloc (.cells #[.int .i64 0, .int .i64 0, .int .i64 0, .int .i64 0, .int .i64 0, .int .i64 0, .int .i64 0, .int .i64 0, .int .i64 0, .int .i64 0, .int .i64 0, .int .i64 0, .int .i64 0, .int .i64 0, .int .i64 0, .int .i64 0, .int .i64 0, .int .i64 0] 110)).alloc (.cells #[(.func (.func 97) #[] #[.pointer (some ⟨w.heap.size + 1, 0, none⟩), .pointer (some ⟨w.heap.size + 3, 0, none⟩), .pointer (some ⟨w.heap.size, 0, none⟩), .pointer (some ⟨w.heap.size + 2, 0, none⟩), .pointer (some ⟨w.heap.size + 4, 0, none⟩)])] 132)) = y5x at *
  obtain rfl := hy5
  refine wp_region_noPanic ?_
  have hS : (fun W' : World => W'.cell? ⟨w.heap.size, 0, none⟩ = some (.int .i64 (n : Int)) ∧ W'.cell? ⟨w.heap.size + 4, 0, none⟩ = some (.func (.func 97) #[] #[.pointer (some ⟨w.heap.size + 1, 0, none⟩), .pointer (some ⟨w.heap.size + 3, 0, none⟩), .pointer (some ⟨w.heap.size, 0, none⟩), .pointer (some ⟨w.heap.size + 2, 0, none⟩), .pointer (some ⟨w.heap.size + 4, 0, none⟩)])) y5x.drew := ⟨k0, k1⟩
  refine wp_region_any (by kernel_rfl) (wpAny_of_T (S := fun W' : World => W'.cell? ⟨w.heap.size, 0, none⟩ = some (.int .i64 (n : Int)) ∧ W'.cell? ⟨w.heap.size + 4, 0, none⟩ = some (.func (.func 97) #[] #[.pointer (some ⟨w.heap.size + 1, 0, none⟩), .pointer (some ⟨w.heap.size + 3, 0, none⟩), .pointer (some ⟨w.heap.size, 0, none⟩), .pointer (some ⟨w.heap.size + 2, 0, none⟩), .pointer (some ⟨w.heap.size + 4, 0, none⟩)])) (m := 6) _ _ _ _ ?_)
  refine' T_take (i := 0) (v := _) rfl (by kernel_rfl) (by kernel_rfl) (by kernel_rfl) (by kernel_rfl) (fun _ _ _ h => h) (by kernel_rfl) hS ?_ ?_
  rotate_left 1
  · intro Wv hW
    obtain ⟨g0, g1⟩ := hW
    go_simp
    first | done | with_reducible rfl | omega
  try simp only [Act.put, List.setIfInBounds_toArray, List.set_cons_zero, List.set_cons_succ]
  refine' T_take (i := 1) (v := _) rfl (by kernel_rfl) (by kernel_rfl) (by kernel_rfl) (by kernel_rfl) (fun _ _ _ h => h) (by kernel_rfl) hS ?_ ?_
  rotate_left 1
  · intro Wv hW
    obtain ⟨g0, g1⟩ := hW
    go_simp
    first | done | with_reducible rfl | omega
  try simp only [Act.put, List.setIfInBounds_toArray, List.set_cons_zero, List.set_cons_succ]
  refine T_ready (rs := [2]) (by kernel_rfl) (by simp) ?_
  refine TReady.cons rfl (fun K hK => ?_) TReady.nil
  try go_simp
  refine (HHL.out _).mono ?_
  rintro e y2 ⟨rfl, rfl⟩
  try go_simp
  refine hK.out _ _ (fun _ => hS) (fun _ => ?_)
  clear hK K
  try simp only [Act.put, List.setIfInBounds_toArray, List.set_cons_zero, List.set_cons_succ]
  refine T_ready (rs := [3]) (by kernel_rfl) (by simp) ?_
  refine TReady.cons rfl (fun K hK => ?_) TReady.nil
  try go_simp
  refine hK.out _ _ (fun _ => ⟨cell_alloc_keep _ hS.1, cell_alloc_keep _ hS.2⟩) (fun hS => ?_)
  replace hS := hS (by decide)
  clear hK K
  try simp only [Act.put, List.setIfInBounds_toArray, List.set_cons_zero, List.set_cons_succ]
  refine T_ready (rs := [4]) (by kernel_rfl) (by simp) ?_
  refine TReady.cons rfl (fun K hK => ?_) TReady.nil
  try go_simp
  refine HCALL.out.mono ?_
  rintro e w3 hp
  have he : e = .returned (.bool res.1) := hp.1
  subst he
  have HP := Lib.hid hp
  obtain ⟨D9, h9, -⟩ := hp.2.1
  have h91 := h9.cn
  have h93 := h9.cf
  clear hp h9
  try go_simp
  refine hK.out _ _ (fun _ => ⟨h91, h93⟩) (fun hS => ?_)
  replace hS := hS (by decide)
  clear hK K h91 h93
  try simp only [Act.put, List.setIfInBounds_toArray, List.set_cons_zero, List.set_cons_succ]
  refine' T_take (i := 5) (v := _) rfl (by kernel_rfl) (by kernel_rfl) (by kernel_rfl) (by kernel_rfl) (fun _ _ _ h => h) (by kernel_rfl) hS ?_ ?_
  rotate_left 1
  · intro Wv hW
    obtain ⟨g0, g1⟩ := hW
    go_simp
    first | done | with_reducible rfl | omega
  try simp only [Act.put, List.setIfInBounds_toArray, List.set_cons_zero, List.set_cons_succ]
  refine T_done (by kernel_rfl) ?_ _
  refine NoPanic.normal ?_
  try go_simp
  go_wp2_with fail
  go_ret
  obtain ⟨h1, ⟨D9, h2, -⟩, -, h4⟩ := HP.out
  refine ⟨rfl, ⟨h2.out, h2.row⟩, (Chg.ofBelow (HBB.out.trans ((((Below.refl y5x.heap.size y5x).drew).alloc (Nat.le_refl _) _).mono (by have := HSZ.out; omega))) _).trans h4 fun j hj hS => ?_⟩
  have := HSZ.out
  rcases hS with (e | ⟨r, hr, e⟩) | e
  · dsimp only at e; omega
  · exact ⟨r, hr, e⟩
  · omega
end

section

open Go.RowKit
set_option linter.unusedSimpArgs false
set_option linter.unusedVariables false

attribute [local go_sem] Oper.semAt_some
def gOf : Value → Nat
  | .slice (some a) _ _ => a.block
  | _ => 0
def cOf : Value → Nat
  | .slice _ _ c => c
  | _ => 0
theorem rowT_at : ∀ n, 2 ≤ n → n ≤ 6 → ∀ r, r < (roundsN n).length → lenr (roundsN n) r = (rowT n r).length ∧ ∀ i, i < lenr (roundsN n) r → mtx (rowT n r) i = ⟨((prs (roundsN n) r i).1 : Int), ((prs (roundsN n) r i).2 : Int), 0⟩ := by
  intro n h1 h2 r hr
  have e : (roundsN n).getD r [] = roundN n r := by
    unfold roundsN at *
    rw [List.length_map, List.length_range] at hr
    rw [List.getD_eq_getElem?_getD, List.getElem?_map, List.getElem?_range hr]
    rfl
  refine ⟨by unfold lenr rowT; rw [e, List.length_map], fun i hi => ?_⟩
  unfold lenr at hi
  rw [e] at hi
  unfold prs mtx rowT
  rw [e, List.getD_eq_getElem?_getD, List.getD_eq_getElem?_getD, List.getElem?_map, List.getElem?_eq_getElem hi]
  rfl
theorem rwt_lay {n B : Nat} {w : World} {A : Option Addr} {c : Nat} {vs : List Value} (h1 : 2 ≤ n) (h2 : n ≤ 6) (h : Rwt B w (.slice A (n - 1 + n % 2) c) (n - 1 + n % 2) vs (rowT n)) :
    ∃ go co G C, A = some ⟨go, 0, none⟩ ∧ c = co ∧ LOk B w (roundsN n) go co G C ∧ LSt w (roundsN n) go co G C (fun _ _ => 0) := by
  obtain ⟨-, hR, hR10, hlen⟩ := rounds_ok n h1 h2
  rw [← hR] at h
  have hrow : ∀ r, r < (roundsN n).length → ∃ g c' gr cr, (Value.slice A (roundsN n).length c) = .slice (some ⟨g, 0, none⟩) (roundsN n).length c' ∧ (roundsN n).length ≤ c' ∧ c' ≤ 9223372036854775807 ∧ w.cell? ⟨g, r, none⟩ = some (.slice (some ⟨gr, 0, none⟩) (rowT n r).length cr) ∧ (rowT n r).length ≤ cr ∧ cr ≤ 9223372036854775807 ∧ vs[r]? = some (.slice (some ⟨gr, 0, none⟩) (rowT n r).length cr) ∧ B ≤ g ∧ B ≤ gr ∧ (∀ b, b < (rowT n r).length → W3 w gr (b * 3) (mtx (rowT n r) b)) ∧ (∀ b, w.frozen? ⟨gr, b, none⟩ = false) ∧ g < w.heap.size ∧ gr < w.heap.size ∧ gr ≠ g :=
    fun r hr => h.row hr (by rw [← (rowT_at n h1 h2 r hr).1]; exact (hlen r hr).1)
  obtain ⟨go, co, _, _, hv, hco1, hco2, _⟩ := hrow 0 (by omega)
  injection hv with e1 _ e2
  subst e1 e2
  have hat : ∀ r, r < (roundsN n).length → ∃ gr cr, vs[r]? = some (.slice (some ⟨gr, 0, none⟩) (rowT n r).length cr) ∧ gOf (vs.getD r undef) = gr ∧ cOf (vs.getD r undef) = cr ∧ w.cell? ⟨go, r, none⟩ = some (.slice (some ⟨gr, 0, none⟩) (rowT n r).length cr) ∧ (rowT n r).length ≤ cr ∧ cr ≤ 9223372036854775807 ∧ B ≤ gr ∧ (∀ b, b < (rowT n r).length → W3 w gr (b * 3) (mtx (rowT n r) b)) ∧ (∀ b, w.frozen? ⟨gr, b, none⟩ = false) ∧ go < w.heap.size ∧ gr < w.heap.size ∧ gr ≠ go := fun r hr => by
    obtain ⟨g, c', gr, cr, hv, _, _, a1, a2, a3, a4, a5, a6, a7, a8, a9, a10, a11⟩ := hrow r hr
    injection hv with e1
    injection e1 with e1
    injection e1 with e1
    subst e1
    exact ⟨gr, cr, a4, by rw [List.getD_eq_getElem?_getD, a4]; rfl, by rw [List.getD_eq_getElem?_getD, a4]; rfl, a1, a2, a3, a6, a7, a8, a9, a10, a11⟩
  refine ⟨go, c, fun r => gOf (vs.getD r undef), fun r => cOf (vs.getD r undef), rfl, rfl, ⟨fun r r' hr hr' e => ?_, fun r hr => ?_, ⟨hco1, hco2, by omega⟩, fun r hr => (hlen r hr).1, fun r hr => ?_, ?_, fun r hr => ?_⟩, fun r hr => ?_, fun r hr i hi => ?_⟩
  · obtain ⟨gr, cr, a1, a2, -⟩ := hat r hr
    obtain ⟨gr', cr', b1, b2, -⟩ := hat r' hr'
    try dsimp only at e
    rw [a2, b2] at e
    subst e
    rcases Nat.lt_trichotomy r r' with h3 | h3 | h3
    · rcases h.2.2 r r' _ _ h3 a1 b1 with h4 | h4
      · cases h4
      · exact absurd rfl h4
    · exact h3
    · rcases h.2.2 r' r _ _ h3 b1 a1 with h4 | h4
      · cases h4
      · exact absurd rfl h4
  · obtain ⟨gr, cr, a1, a2, a3, a4, a5, a6, a7, a8, a9, a10, a11, a12⟩ := hat r hr
    try dsimp only
    rw [a2]
    exact a12
  · obtain ⟨gr, cr, a1, a2, a3, a4, a5, a6, a7, a8, a9, a10, a11, a12⟩ := hat r hr
    try dsimp only
    rw [a3, (rowT_at n h1 h2 r hr).1]
    exact ⟨a5, a6, by rw [← (rowT_at n h1 h2 r hr).1]; have := (hlen r hr).2; omega⟩
  · obtain ⟨gr, cr, a1, a2, a3, a4, a5, a6, a7, a8, a9, a10, a11, a12⟩ := hat 0 (by omega)
    exact a10
  · obtain ⟨gr, cr, a1, a2, a3, a4, a5, a6, a7, a8, a9, a10, a11, a12⟩ := hat r hr
    try dsimp only
    rw [a2]
    exact ⟨a7, a11⟩
  · obtain ⟨gr, cr, a1, a2, a3, a4, -⟩ := hat r hr
    try dsimp only
    rw [a2, a3, (rowT_at n h1 h2 r hr).1]
    exact a4
  · obtain ⟨gr, cr, a1, a2, a3, a4, a5, a6, a7, a8, a9, a10, a11, a12⟩ := hat r hr
    obtain ⟨hl, hm⟩ := rowT_at n h1 h2 r hr
    try dsimp only
    rw [a2]
    obtain ⟨b1, b2, b3⟩ := a8 i (by omega)
    rw [hm i hi] at b1 b2 b3
    exact ⟨⟨b1, b2, b3⟩, a9 _⟩
theorem matS_len (L : List (List (Nat × Nat))) (ln : Nat → Nat → Int) : (matS L ln).length = L.length := by simp [matS]
theorem matS_row {L : List (List (Nat × Nat))} {ln : Nat → Nat → Int} {r : Nat} (hr : r < L.length) : (rowx (matS L ln) r).length = lenr L r ∧ ∀ i, i < lenr L r → mtx (rowx (matS L ln) r) i = ⟨((prs L r i).1 : Int), ((prs L r i).2 : Int), ln r i⟩ := by
  have e : rowx (matS L ln) r = (List.range (lenr L r)).map fun i => ⟨((prs L r i).1 : Int), ((prs L r i).2 : Int), ln r i⟩ := by
    unfold rowx matS
    rw [List.getD_eq_getElem?_getD, List.getElem?_map, List.getElem?_range hr]
    rfl
  rw [e]
  refine ⟨by simp, fun i hi => ?_⟩
  unfold mtx
  rw [List.getD_eq_getElem?_getD, List.getElem?_map, List.getElem?_range hi]
  rfl
theorem LSt.grm {w : World} {B : Nat} {L : List (List (Nat × Nat))} {go co : Nat} {G C : Nat → Nat} {ln : Nat → Nat → Int} (s : LSt w L go co G C ln) (hk : LOk B w L go co G C) : Grm w.heap.size w (some ⟨go, 0, none⟩) (matS L ln) := fun _ => by
  refine ⟨go, 0, rfl, hk.lt.1, fun r hr => ?_⟩
  rw [matS_len] at hr
  obtain ⟨h1, h2⟩ := matS_row (ln := ln) hr
  rw [h1, Nat.zero_add]
  refine ⟨_, C r, s.out r hr, (hk.hr r hr).1, (hk.hr r hr).2.1, fun _ => ⟨G r, 0, rfl, (hk.lt.2 r hr).2, fun i hi => ?_⟩⟩
  rw [h1] at hi
  rw [h2 i hi, Nat.zero_add]
  exact (s.row r hr i hi).1
/-- What Build answers. -/
def BuildP (n : Nat) (w : World) (e : Ending) (w' : World) : Prop := ∃ A c, e = .returned (.tuple #[.slice A (buildS n).length c, .int .i64 0]) ∧ (Grm w'.heap.size w' A (buildS n) ∧ (buildS n).length ≤ c ∧ c ≤ 9223372036854775807) ∧ Below w.heap.size w w'
set_option maxHeartbeats 1000000 in
theorem build29_bad (n : Int) (w : World) (h : inB n 2 6 = false) : Calls Try.prog 29 #[.int .i64 n] w (Same w (.tuple #[.slice none 0 0, .int .i64 2])) := by
  have HT := Lib.hid (teams50_c n w)
  rw [h] at HT
  clear h
  go_enter Try.func29, Try.ntmps29
  go_wp2_with fail
  refine HT.out.mono ?_
  rintro e w1 ⟨rfl, rfl⟩
  go_wp2_with fail
  refine bodyPost_ret (results_tmp2 rfl _ _ _) rfl ?_
  exact ⟨rfl, rfl⟩
set_option maxRecDepth 100000 in
set_option maxHeartbeats 4000000 in
theorem build29_c (n : Nat) (w : World) (hn : 2 ≤ n ∧ n ≤ 6) : Calls Try.prog 29 #[.int .i64 (n : Int)] w (BuildP n w) := by
  have HT := Lib.hid (teams50_c (n : Int) w)
  rw [show inB (n : Int) 2 6 = true by rw [inB_eq]; omega] at HT
  have HR := Lib.hid (rounds64_c n w hn)
  have hR := (rounds_ok n hn.1 hn.2).2.1
  go_enter Try.func29, Try.ntmps29
  go_wp2_with fail
  refine HT.out.mono ?_
  rintro e w1 ⟨rfl, rfl⟩
  go_wp2_with fail
  refine HR.out.mono ?_
  rintro e w1 ⟨A, c, vs, rfl, hrw, hb⟩
  obtain ⟨go, co, G, C, rfl, rfl, hk, hs⟩ := rwt_lay hn.1 hn.2 hrw
  rw [← hR]
  have HK := Lib.hid hk
  have HS := Lib.hid hs
  have HB := Lib.hid hb
  have HLY := Lib.hid (fun (u : Nat) (W : World) (hu : u ≤ 1000) (h1 : w1.heap.size ≤ W.heap.size) (h2 : LSt W (roundsN n) go c G C (lnK n u)) => lay65_c (B := w.heap.size) hn (u : Int) (by omega) go c G C (lnK n u) W (hk.more h1) h2)
  have HF := Lib.hid (lay_fails n hn.1 hn.2)
  have HD := Lib.hid (lay_done n hn.1 hn.2)
  have hlu : leastN n ≤ 3 := by unfold leastN; split <;> (try split) <;> omega
  have HLEN : Hid ((buildS n).length = (roundsN n).length) := matS_len _ _
  have HBS : Hid (buildS n = matS (roundsN n) (lnK n (leastN n + 1))) := rfl
  have HC0 := Lib.hid hk.hc
  clear hrw hk hs hb hR HR HT
  go_wp2_with fail
  go_loopw [5] (fun i wr => ∃ u : Nat, u ≤ leastN n ∧ i = .int .i64 u ∧ LSt wr (roundsN n) go c G C (lnK n u) ∧ Below w.heap.size w wr ∧ w1.heap.size ≤ wr.heap.size) (fun i _ => leastN n - (intOf i).toNat)
  case atStart => exact ⟨0, by omega, rfl, HS.out, HB.out, Nat.le_refl _⟩
  case round =>
    clear HS HB
    obtain ⟨u, hu, rfl, hs, hb, hz⟩ := hrel
    have HC := Lib.hid (HLY.out u wr (by omega) hz hs)
    have HB := Lib.hid hb
    have HZ := Lib.hid hz
    have hwu : IntKind.i64.wrap ((u : Int) + 1) = (u : Int) + 1 := IntWalk.i64_in _ (by omega)
    clear hs hb hz
    have HP0 : Hid (∀ w2, LayP wr (roundsN n) go c G C (layF n (u : Int) (lnK n u)) (.returned (.bool (layF n (u : Int) (lnK n u)).1)) w2 → LSt w2 (roundsN n) go c G C (lnK n (u + 1)) ∧ Below w.heap.size w w2 ∧ w1.heap.size ≤ w2.heap.size) := fun w2 hp => by
      obtain ⟨-, h2, h3⟩ := hp
      have hbw := HB.out.size
      refine ⟨h2, HB.out.trans (h3.below hbw fun j _ ⟨r, hr, e⟩ => by rw [e]; exact (HK.out.lt.2 r hr).1), Nat.le_trans HZ.out h3.size⟩
    by_cases h1 : u < leastN n
    · have hf := HF.out u h1
      go_wp2_with fail
      refine HC.out.mono ?_
      rintro e w2 hp
      obtain rfl := hp.1
      have HP := Lib.hid (HP0.out w2 hp)
      rw [hf]
      clear hp hf HP0 HC
      go_wp2_with fail
      go_roundw
      case rel => exact ⟨u + 1, by omega, by go_num, HP.out.1, HP.out.2.1, HP.out.2.2⟩
      case measure => simp [intOf]; omega
    · obtain rfl : u = leastN n := by omega
      have hf := HD.out
      go_wp2_with fail
      refine HC.out.mono ?_
      rintro e w2 hp
      obtain rfl := hp.1
      have HP := Lib.hid (HP0.out w2 hp)
      rw [hf]
      clear hp hf HP0 HC
      go_wp2_with fail
      refine bodyPost_ret (results_tmp2 rfl _ _ _) rfl ?_
      have hg := LSt.grm (B := w.heap.size) HP.out.1 (HK.out.more HP.out.2.2)
      exact ⟨some ⟨go, 0, none⟩, c, by rw [HLEN.out]; rfl, ⟨by rw [HBS.out]; exact hg, by rw [HLEN.out]; exact HC0.out.1, HC0.out.2.1⟩, HP.out.2.1⟩
end
end Go.Proofs.Ytjokbffdepcpkaa
