/-
  From a contract that answers true and leaves all that was there, to the given form of a statement; and how arguments read. How a list of words reads. How a line reads. How a list of lines, and a list of numbers read.
-/
import Derived.Test.YtgnonfomlgkpcaaBase
import Derived.Test.YtgnonfomlgkpcaaRows
import Derived.ProofKit
import Derived.OpenShut
import Derived.WideKeyArgs
import Derived.Deep.Matrix
import Derived.SizedLaws
import Derived.Test.YtgnonfomlgkpcaaPicked
import Derived.Test.YtgnonfomlgkpcaaBlock
import Derived.Deep.Slices
namespace Go.Proofs.Ytgnonfomlgkpcaa
section

open Go.ChangeShapes Go.WideShapes Go.ChangeAt Go.RowKit Go.Deep

theorem Try.own : ownKnob Try.prog.godebug = none := by kernel_rfl
theorem Try.laidOut : laidOutB Try.prog = true := by kernel_rfl

theorem spot_none {w : World} {a : Addr} {v : Value} (h : w.cell? a = some v) : a = ⟨a.block, a.off, none⟩ := by
  obtain ⟨b, o, s⟩ := a
  cases s with
  | none => rfl
  | some s =>
    simp only [World.cell?] at h
    split at h <;> simp at h

theorem addr_add (b o n : Nat) : (⟨b, o, none⟩ : Addr).add n = ⟨b, o + n, none⟩ := by
  unfold Addr.add
  split <;> simp [*]

section
variable {H : Type} {enc : TypeId × Value → H} {P : Program}

theorem below_sameAt {W W' : World} (hb : Below W.heap.size W W') {p : MemPlace} (hp : p.block < W.heap.size) : W.sameAt W' p := by
  cases p with
  | cell b off => exact hb.cell (p := ⟨b, off, none⟩) hp
  | map b => exact hb.block b hp

theorem below_kept {W W' : World} (hb : Below W.heap.size W W') (may : MemPlace → Prop) : W.keptBut W' may := by
  refine ⟨hb.os, hb.output, fun i hi => ?_⟩
  rw [hb.block i hi]
  cases h : W.heap[i]? with
  | none => trivial
  | some o => cases o <;> simp

theorem trodAll_stays (hl : laidOutB P = true) {W W' : World} {sp : Nat → Bool} : ∀ {ts : List TypeId} {vs : List Value} {ds : List (DataW H)} {ps : List MemPlace}, (∀ t ∈ ts, P.readableRec t = true ∧ t < P.types.size) →
    DataW.TrodAll enc P W 0 (fun _ => true) true ts vs ds ps → (∀ p ∈ ps, W.sameAt W' p) → (∀ p ∈ ps, sp p.block = true) → DataW.TrodAll enc P W' 0 sp true ts vs ds ps
  | [], _, _, _, _, h, _, _ => by
    obtain ⟨rfl, rfl, rfl⟩ := trodAll_nil h
    exact trodAll_mk0
  | t :: ts, _, _, _, hr, h, hs, hb => by
    obtain ⟨v, vs, d, ds, p, q, rfl, rfl, rfl, h1, h2⟩ := trodAll_cons h
    exact trodAll_cons_mk (WideElems.Trod_stays hl (hr t (by simp)).1 (hr t (by simp)).2 h1 (fun x hx => hs x (by simp [hx])) (fun x hx => hb x (by simp [hx])))
      (trodAll_stays hl (fun t ht => hr t (by simp [ht])) h2 (fun x hx => hs x (by simp [hx])) (fun x hx => hb x (by simp [hx])))

theorem law_post (hl : laidOutB P = true) {f : Func} {s : ChangeSpec} {W W' : World} {args : Array Value} {ds gs : List (DataW H)} {before : List MemPlace} {tb : TypeId}
    (hW : DataW.Whole enc P f.params.toList s.vars false W args.toList ds gs before) (hv : s.vars = []) (hr : ∀ t ∈ f.params.toList, P.readableRec t = true ∧ t < P.types.size)
    (hres : f.resultTypes = #[tb]) (htb : P.underlying tb = some .bool) (hfn : s.fn H (ds ++ gs) = { results := [.lit (.bool true)], args := ds }) (hb : Below W.heap.size W W') :
    s.post enc P f false true false false W args (.bool true) W' := by
  have hlt : ∀ p ∈ before, p.block < W.heap.size := hW.lt
  have hW' := hW
  obtain ⟨p, q, hA, hV, rfl, hz, hn⟩ := hW
  have hq : q = [] ∧ gs = [] := by
    rw [hv] at hV
    obtain ⟨rfl, rfl⟩ := trodVars_none hV
    exact ⟨rfl, rfl⟩
  obtain ⟨rfl, rfl⟩ := hq
  refine ⟨ds, [], p ++ [], [], p, [], hW', ?_, ?_, ?_, below_kept hb _, fun h => by cases h⟩
  · rw [hfn, hres]
    exact trodAll_cons_mk (p := []) (shut_bool htb true) trodAll_mk0
  · rw [hfn]
    exact trodAll_stays hl hr hA (fun x hx => below_sameAt hb (hlt x (by simp [hx]))) (fun x hx => by simpa using hlt x (by simp [hx]))
  · rw [hfn, hv]
    rfl
end

section
variable {H : Type} {enc : TypeId × Value → H} {W : World} {b0 : Nat}

theorem Try.cells3 : Try.prog.cellsOf 3 = 1 := by kernel_rfl
theorem Try.cells45 : Try.prog.cellsOf 45 = 1 := by kernel_rfl
theorem Try.cells22 : Try.prog.cellsOf 22 = 1 := by kernel_rfl
theorem Try.cells24 : Try.prog.cellsOf 24 = 2 := by kernel_rfl
theorem Try.cells26 : Try.prog.cellsOf 26 = 4 := by kernel_rfl

theorem open_intsC {fuel : Nat} {cs : List Value} {x : DataW H × List MemPlace} (h : DataW.trod enc Try.prog W 0 (fun _ => true) true fuel 45 cs = some x) :
    ∃ A xs c, cs = [.slice A xs.length c] ∧ (xs.length ≤ c ∧ c ≤ 9223372036854775807) ∧ Ints W.heap.size W A xs := by
  rcases open_ints Try.underlying45 Try.underlying3 Try.cells3 h with ⟨rfl, _⟩ | ⟨a, len, cap, zs, rfl, _, hl, hm, hz, _, hc, _⟩
  · exact ⟨none, [], 0, rfl, by decide, fun hp => by simp at hp⟩
  · simp only [if_true] at hz
    unfold maxLen at hm
    have e : (zs.take len).length = len := by rw [List.length_take]; omega
    refine ⟨some a, zs.take len, cap, by rw [e], by omega, fun hp => ?_⟩
    have h0 := spot_none (hc 0 (by omega))
    rw [show a.add 0 = a from by simp [Addr.add]] at h0
    refine ⟨a.block, a.off, by rw [← h0], World.block_lt_of_cell? W _ (hc 0 (by omega)), fun k hk => ?_⟩
    have := hc k (by omega)
    rw [h0, addr_add] at this
    rw [this, ix]
    congr 2
    simp only [List.getD_eq_getElem?_getD, List.getElem?_take]
    rw [if_pos (by omega)]

theorem open_grdC {fuel : Nat} {cs : List Value} {x : DataW H × List MemPlace} (h : DataW.trod enc Try.prog W 0 (fun _ => true) true fuel 22 cs = some x) :
    ∃ A xss c, cs = [.slice A xss.length c] ∧ (xss.length ≤ c ∧ c ≤ 9223372036854775807) ∧ Grd W.heap.size W A xss := by
  rcases open_int_rows Try.underlying22 Try.underlying45 Try.underlying3 Try.cells45 Try.cells3 h with ⟨rfl, _⟩ | ⟨a, len, cap, A, L, C, Z, rfl, _, hl, hm, _, hrows⟩
  · exact ⟨none, [], 0, rfl, by decide, fun hp => by simp at hp⟩
  · unfold maxLen at hm
    have e : ((List.range len).map fun r => (Z r).take (L r)).length = len := by simp
    refine ⟨some a, (List.range len).map fun r => (Z r).take (L r), cap, by rw [e], by omega, fun hp => ?_⟩
    rw [e] at hp
    have h0 := spot_none (hrows 0 (by omega)).1
    rw [show a.add 0 = a from by simp [Addr.add]] at h0
    refine ⟨a.block, a.off, by rw [← h0], World.block_lt_of_cell? W _ (hrows 0 (by omega)).1, fun k hk => ?_⟩
    rw [e] at hk
    obtain ⟨h1, h2, h3, h4, _, h5, h6⟩ := hrows k (by omega)
    have e1 : rx ((List.range len).map fun r => (Z r).take (L r)) k = (Z k).take (L k) := by rw [rx_lt (by simpa using hk)]; simp
    have e2 : ((Z k).take (L k)).length = L k := by rw [List.length_take]; omega
    unfold maxLen at h3
    rw [h0, addr_add] at h1
    refine ⟨_, h1, A k, C k, by rw [e1, e2], by rw [e1, e2]; exact h2, h3, ?_⟩
    rw [e1]
    intro hp'
    rw [e2] at hp'
    cases hA : A k with
    | none => have := h5 hA; omega
    | some a' =>
      obtain ⟨_, hc⟩ := h6 a' hA
      have h0' := spot_none (hc 0 (by omega))
      rw [show a'.add 0 = a' from by simp [Addr.add]] at h0'
      refine ⟨a'.block, a'.off, by rw [← h0'], World.block_lt_of_cell? W _ (hc 0 (by omega)), fun j hj => ?_⟩
      rw [e2] at hj
      have := hc j (by omega)
      rw [h0', addr_add] at this
      rw [this, ix]
      congr 2
      simp only [List.getD_eq_getElem?_getD, List.getElem?_take]
      rw [if_pos (by omega)]

set_option maxRecDepth 100000 in
theorem open_grd {v : Value} {d : DataW H} {p : List MemPlace} (hv : Value.okWide Try.prog W .any b0 22 v) (h : DataW.Trod enc Try.prog W 0 (fun _ => true) true 22 v d p) :
    ∃ A xss c, v = .slice A xss.length c ∧ (xss.length ≤ c ∧ c ≤ 9223372036854775807) ∧ Grd W.heap.size W A xss := by
  obtain ⟨a, len, cap, rfl⟩ := okWide_slice Try.underlying22 hv
  obtain ⟨fuel, hf⟩ := h
  obtain ⟨A, xss, c, e, h1, h2⟩ := open_grdC hf
  simp only [Value.cells] at e
  exact ⟨A, xss, c, by simpa using e, h1, h2⟩

theorem array4 {cs : Array Value} (h : cs.size = 4) : ∃ a b c d, cs = #[a, b, c, d] := by
  obtain ⟨l⟩ := cs
  match l, h with
  | [a, b, c, d], _ => exact ⟨a, b, c, d, rfl⟩

set_option maxRecDepth 100000 in
theorem open_lane {v : Value} {d : DataW H} {p : List MemPlace} (hv : Value.okWide Try.prog W .any b0 26 v) (h : DataW.Trod enc Try.prog W 0 (fun _ => true) true 26 v d p) :
    ∃ A xss c lo hi ca, v = .agg #[.slice A xss.length c, .int .i64 lo, .int .i64 hi, .int .i64 ca] ∧ (xss.length ≤ c ∧ c ≤ 9223372036854775807) ∧ Grd W.heap.size W A xss := by
  obtain ⟨cs, rfl, hsz⟩ := okWide_struct Try.underlying26 hv
  obtain ⟨c0, c1, c2, c3, rfl⟩ := array4 (hsz.trans Try.cells26)
  obtain ⟨fuel, hf⟩ := h
  obtain ⟨xs, n, _, _, hl, hlen, hfs⟩ := DataW.trod_struct Try.underlying26 hf
  have f0 : DataW.trod enc Try.prog W 0 (fun _ => true) true n 22 (List.take (Try.prog.cellsOf 22) [c0, c1, c2, c3]) = xs[0]? := hfs 0 _ rfl
  have f1 : DataW.trod enc Try.prog W 0 (fun _ => true) true n 24 (List.take (Try.prog.cellsOf 24) [c1, c2, c3]) = xs[1]? := hfs 1 _ rfl
  have f2 : DataW.trod enc Try.prog W 0 (fun _ => true) true n 3 (List.take (Try.prog.cellsOf 3) [c3]) = xs[2]? := hfs 2 _ rfl
  rw [Try.cells22] at f0
  rw [Try.cells24] at f1
  rw [Try.cells3] at f2
  match xs, hlen with
  | [y0, y1, y2], _ =>
    obtain ⟨A, xss, c, e, h1, h2⟩ := open_grdC f0
    obtain ⟨z0, z1, m, _, _, g0, g1⟩ := trod_struct2 Try.underlying24 f1
    rw [Try.cells3] at g0 g1
    obtain ⟨n0, e0, _, _⟩ := DataW.trod_int Try.underlying3 g0
    obtain ⟨n1, e1, _, _⟩ := DataW.trod_int Try.underlying3 g1
    obtain ⟨n2, e2, _, _⟩ := DataW.trod_int Try.underlying3 f2
    simp at e e0 e1 e2
    subst e e0 e1 e2
    exact ⟨A, xss, c, n0, n1, n2, rfl, h1, h2⟩
end
end

section

open Go.ChangeShapes Go.WideShapes Go.ChangeAt Go.RowKit Go.Deep

theorem Try.cells129 : Try.prog.cellsOf 129 = 1 := by kernel_rfl

section
variable {H : Type} {enc : TypeId × Value → H} {W : World} {b0 : Nat}
set_option maxRecDepth 100000 in
theorem open_wds {v : Value} {d : DataW H} {p : List MemPlace} (hv : Value.okWide Try.prog W .any b0 50 v) (h : DataW.Trod enc Try.prog W 0 (fun _ => true) true 50 v d p) :
    ∃ A ws c, v = .slice A ws.length c ∧ (ws.length ≤ c ∧ c ≤ 9223372036854775807) ∧ Wds W.heap.size W A ws := by
  obtain ⟨a0, len0, cap0, rfl⟩ := okWide_slice Try.underlying50 hv
  obtain ⟨fuel, hf⟩ := h
  rcases open_ints Try.underlying50 Try.underlying129 Try.cells129 hf with ⟨e, _⟩ | ⟨a, len, cap, zs, e, _, hl, hm, hz, _, hc, hw⟩
  · simp only [Value.cells] at e
    exact ⟨none, [], 0, by simpa using e, by decide, fun hp => by simp at hp⟩
  · simp only [if_true] at hz
    unfold maxLen at hm
    have e0 : (zs.take len).length = len := by rw [List.length_take]; omega
    simp only [Value.cells] at e
    refine ⟨some a, zs.take len, cap, by rw [e0]; simpa using e, by omega, fun hp => ?_⟩
    have h0 := spot_none (hc 0 (by omega))
    rw [show a.add 0 = a from by simp [Addr.add]] at h0
    refine ⟨a.block, a.off, by rw [← h0], World.block_lt_of_cell? W _ (hc 0 (by omega)), fun k hk => ?_⟩
    have := hc k (by omega)
    rw [h0, addr_add] at this
    have ei : ix (zs.take len) k = zs.getD k 0 := by
      simp only [ix, List.getD_eq_getElem?_getD, List.getElem?_take]
      rw [if_pos (by omega)]
    have hwk := hw (zs.getD k 0) (by
      rw [List.getD_eq_getElem?_getD, List.getElem?_eq_getElem (show k < zs.length by omega)]
      exact List.getElem_mem _)
    have hb : 0 ≤ zs.getD k 0 ∧ zs.getD k 0 ≤ 65535 := by simpa [Lit.wf, IntKind.min, IntKind.max, IntKind.signed, IntKind.bits] using hwk
    rw [ei]
    exact ⟨this, hb⟩
end
end

section

open Go.ChangeShapes Go.WideShapes Go.ChangeAt Go.RowKit Go.Deep

theorem Try.cells55 : Try.prog.cellsOf 55 = 2 := by kernel_rfl

theorem array2 {cs : Array Value} (h : cs.size = 2) : ∃ a b, cs = #[a, b] := by
  obtain ⟨l⟩ := cs
  match l, h with
  | [a, b], _ => exact ⟨a, b, rfl⟩

section
variable {H : Type} {enc : TypeId × Value → H} {W : World} {b0 : Nat}
theorem open_lineC {fuel : Nat} {c0 c1 : Value} {x : DataW H × List MemPlace} (h : DataW.trod enc Try.prog W 0 (fun _ => true) true fuel 55 [c0, c1] = some x) :
    ∃ A xs c A' ys c', c0 = .slice A xs.length c ∧ c1 = .slice A' ys.length c' ∧ (xs.length ≤ c ∧ c ≤ 9223372036854775807) ∧ (ys.length ≤ c' ∧ c' ≤ 9223372036854775807) ∧ Ints W.heap.size W A xs ∧ Ints W.heap.size W A' ys := by
  obtain ⟨y0, y1, n, _, _, g0, g1⟩ := trod_struct2 Try.underlying55 h
  have f0 : DataW.trod enc Try.prog W 0 (fun _ => true) true n 45 (List.take (Try.prog.cellsOf 45) [c0, c1]) = some y0 := g0
  have f1 : DataW.trod enc Try.prog W 0 (fun _ => true) true n 45 (List.take (Try.prog.cellsOf 45) [c1]) = some y1 := g1
  rw [Try.cells45] at f0 f1
  obtain ⟨A, xs, c, e0, h1, h2⟩ := open_intsC f0
  obtain ⟨A', ys, c', e1, h3, h4⟩ := open_intsC f1
  simp at e0 e1
  exact ⟨A, xs, c, A', ys, c', e0, e1, h1, h3, h2, h4⟩
set_option maxRecDepth 100000 in
theorem open_line {v : Value} {d : DataW H} {p : List MemPlace} (hv : Value.okWide Try.prog W .any b0 55 v) (h : DataW.Trod enc Try.prog W 0 (fun _ => true) true 55 v d p) :
    ∃ A xs c A' ys c', v = .agg #[.slice A xs.length c, .slice A' ys.length c'] ∧ (xs.length ≤ c ∧ c ≤ 9223372036854775807) ∧ (ys.length ≤ c' ∧ c' ≤ 9223372036854775807) ∧ Ints W.heap.size W A xs ∧ Ints W.heap.size W A' ys := by
  obtain ⟨cs, rfl, hsz⟩ := okWide_struct Try.underlying55 hv
  obtain ⟨c0, c1, rfl⟩ := array2 (hsz.trans Try.cells55)
  obtain ⟨fuel, hf⟩ := h
  obtain ⟨A, xs, c, A', ys, c', rfl, rfl, h1, h2, h3, h4⟩ := open_lineC (c0 := c0) (c1 := c1) hf
  exact ⟨A, xs, c, A', ys, c', rfl, h1, h2, h3, h4⟩
end
end

section

open Go.ChangeShapes Go.WideShapes Go.ChangeAt Go.RowKit Go.Deep

section
variable {H : Type} {enc : TypeId × Value → H} {W : World} {b0 : Nat}
theorem list2 {cs : List Value} (h : cs.length = 2) : ∃ a b, cs = [a, b] := by
  match cs, h with
  | [a, b], _ => exact ⟨a, b, rfl⟩
theorem lx_lt {ls : Lines} {k : Nat} (h : k < ls.length) : lx ls k = ls[k] := by simp [lx, h]
theorem open_lnsC {fuel : Nat} {cs : List Value} {x : DataW H × List MemPlace} (h : DataW.trod enc Try.prog W 0 (fun _ => true) true fuel 57 cs = some x) :
    ∃ A ls c, cs = [.slice A ls.length c] ∧ (ls.length ≤ c ∧ c ≤ 9223372036854775807) ∧ Lns W.heap.size W A ls := by
  rcases open_slice Try.underlying57 h with ⟨rfl, _⟩ | ⟨a, len, cap, m, n, D, Pl, rfl, _, hl, hm, hmm, _, hx⟩
  · exact ⟨none, [], 0, rfl, by decide, fun hp => by simp at hp⟩
  · have hlm : len ≤ m := by rw [hmm]; split <;> omega
    unfold maxLen at hm
    have each : ∀ i, i < len → ∃ q : List Int × List Int, ∃ v u, W.cell? (a.add (i * 2)) = some v ∧ W.cell? ((a.add (i * 2)).add 1) = some u ∧ IsInts W.heap.size W v q.1 ∧ IsInts W.heap.size W u q.2 := by
      intro i hi
      obtain ⟨cs', h1, h2⟩ := hx i (by omega)
      rw [Try.cells55] at h1
      obtain ⟨_, hlen, hcell⟩ := World.cells?_some h1
      obtain ⟨c0, c1, rfl⟩ := list2 hlen
      obtain ⟨A1, xs, d1, A2, ys, d2, rfl, rfl, q1, q2, q3, q4⟩ := open_lineC h2
      have e0 := hcell 0 (by omega)
      have e1 := hcell 1 (by omega)
      rw [show (a.add (i * 2)).add 0 = a.add (i * 2) from by simp [Addr.add]] at e0
      exact ⟨(xs, ys), _, _, by simpa using e0, by simpa using e1, ⟨A1, d1, rfl, q1.1, q1.2, q3⟩, ⟨A2, d2, rfl, q2.1, q2.2, q4⟩⟩
    obtain ⟨q, hq⟩ := pick_lt each
    have e : ((List.range len).map q).length = len := by simp
    refine ⟨some a, (List.range len).map q, cap, by rw [e], by omega, fun hp => ?_⟩
    rw [e] at hp
    obtain ⟨v0, u0, g0, g1, _⟩ := hq 0 hp
    have h0 := spot_none g0
    rw [show a.add (0 * 2) = a from by simp [Addr.add]] at h0
    refine ⟨a.block, a.off, by rw [← h0], ?_, fun k hk => ?_⟩
    · have := World.block_lt_of_cell? W _ g0
      rwa [show a.add (0 * 2) = a from by simp [Addr.add]] at this
    · rw [e] at hk
      obtain ⟨v, u, c0, c1, c2, c3⟩ := hq k hk
      have ew : lx ((List.range len).map q) k = q k := by rw [lx_lt (by simpa using hk)]; simp
      rw [ew]
      rw [h0, addr_add] at c0 c1
      rw [addr_add] at c1
      exact ⟨v, u, c0, c1, c2, c3⟩
set_option maxRecDepth 100000 in
theorem open_lns {v : Value} {d : DataW H} {p : List MemPlace} (hv : Value.okWide Try.prog W .any b0 57 v) (h : DataW.Trod enc Try.prog W 0 (fun _ => true) true 57 v d p) :
    ∃ A ls c, v = .slice A ls.length c ∧ (ls.length ≤ c ∧ c ≤ 9223372036854775807) ∧ Lns W.heap.size W A ls := by
  obtain ⟨a, len, cap, rfl⟩ := okWide_slice Try.underlying57 hv
  obtain ⟨fuel, hf⟩ := h
  obtain ⟨A, ls, c, e, h1, h2⟩ := open_lnsC hf
  simp only [Value.cells] at e
  exact ⟨A, ls, c, by simpa using e, h1, h2⟩
set_option maxRecDepth 100000 in
theorem open_int45 {v : Value} {d : DataW H} {p : List MemPlace} (hv : Value.okWide Try.prog W .any b0 45 v) (h : DataW.Trod enc Try.prog W 0 (fun _ => true) true 45 v d p) :
    ∃ A xs c, v = .slice A xs.length c ∧ (xs.length ≤ c ∧ c ≤ 9223372036854775807) ∧ Ints W.heap.size W A xs := by
  obtain ⟨a, len, cap, rfl⟩ := okWide_slice Try.underlying45 hv
  obtain ⟨fuel, hf⟩ := h
  obtain ⟨A, xs, c, e, h1, h2⟩ := open_intsC hf
  simp only [Value.cells] at e
  exact ⟨A, xs, c, by simpa using e, h1, h2⟩
end
end
end Go.Proofs.Ytgnonfomlgkpcaa
