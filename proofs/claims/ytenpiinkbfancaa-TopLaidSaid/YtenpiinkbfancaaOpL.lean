/-
  TopLaid: the arguments opened: a lane, a start, words.
-/
import Derived.Test.YtenpiinkbfancaaTw3
import Derived.ProofKit
import Derived.OpenShut
import Derived.WideKeyArgs
import Derived.Deep.Matrix
import Derived.Deep.Slices
import Derived.Deep.Grids
import Derived.SizedLaws
namespace Go.Proofs.Ytenpiinkbfancaa.Pa
open Go.ChangeShapes Go.WideShapes Go.ChangeAt Go.RowKit Go.Deep
set_option linter.unusedSimpArgs false
set_option linter.unusedVariables false

theorem spot_none {w : World} {a : Addr} {v : Value} (h : w.cell? a = some v) : a = ⟨a.block, a.off, none⟩ := by
  obtain ⟨b, o, s⟩ := a
  cases s with
  | none => rfl
  | some s =>
    simp only [World.cell?] at h
    split at h <;> simp at h
theorem addr_add (b o n : Nat) : (⟨b, o, none⟩ : Addr).add n = ⟨b, o + n, none⟩ := by
  unfold Addr.add
  split <;> simp [*]
section
variable {H : Type} {enc : TypeId × Value → H} {P : Program}
theorem below_sameAt {W W' : World} (hb : Below W.heap.size W W') {p : MemPlace} (hp : p.block < W.heap.size) : W.sameAt W' p := by
  cases p with
  | cell b off => exact hb.cell (p := ⟨b, off, none⟩) hp
  | map b => exact hb.block b hp
theorem below_kept {W W' : World} (hb : Below W.heap.size W W') (may : MemPlace → Prop) : W.keptBut W' may := by
  refine ⟨hb.os, hb.output, fun i hi => ?_⟩
  rw [hb.block i hi]
  cases h : W.heap[i]? with
  | none => trivial
  | some o => cases o <;> simp
theorem trodAll_stays (hl : laidOutB P = true) {W W' : World} {sp : Nat → Bool} : ∀ {ts : List TypeId} {vs : List Value} {ds : List (DataW H)} {ps : List MemPlace}, (∀ t ∈ ts, P.readableRec t = true ∧ t < P.types.size) →
    DataW.TrodAll enc P W 0 (fun _ => true) true ts vs ds ps → (∀ p ∈ ps, W.sameAt W' p) → (∀ p ∈ ps, sp p.block = true) → DataW.TrodAll enc P W' 0 sp true ts vs ds ps
  | [], _, _, _, _, h, _, _ => by
    obtain ⟨rfl, rfl, rfl⟩ := trodAll_nil h
    exact trodAll_mk0
  | t :: ts, _, _, _, hr, h, hs, hb => by
    obtain ⟨v, vs, d, ds, p, q, rfl, rfl, rfl, h1, h2⟩ := trodAll_cons h
    exact trodAll_cons_mk (WideElems.Trod_stays hl (hr t (by simp)).1 (hr t (by simp)).2 h1 (fun x hx => hs x (by simp [hx])) (fun x hx => hb x (by simp [hx])))
      (trodAll_stays hl (fun t ht => hr t (by simp [ht])) h2 (fun x hx => hs x (by simp [hx])) (fun x hx => hb x (by simp [hx])))
theorem law_post (hl : laidOutB P = true) {f : Func} {s : ChangeSpec} {W W' : World} {args : Array Value} {ds gs : List (DataW H)} {before : List MemPlace} {tb : TypeId}
    (hW : DataW.Whole enc P f.params.toList s.vars false W args.toList ds gs before) (hv : s.vars = []) (hr : ∀ t ∈ f.params.toList, P.readableRec t = true ∧ t < P.types.size)
    (hres : f.resultTypes = #[tb]) (htb : P.underlying tb = some .bool) (hfn : s.fn H (ds ++ gs) = { results := [.lit (.bool true)], args := ds }) (hb : Below W.heap.size W W') :
    s.post enc P f false true false false W args (.bool true) W' := by
  have hlt : ∀ p ∈ before, p.block < W.heap.size := hW.lt
  have hW' := hW
  obtain ⟨p, q, hA, hV, rfl, hz, hn⟩ := hW
  have hq : q = [] ∧ gs = [] := by
    rw [hv] at hV
    obtain ⟨rfl, rfl⟩ := trodVars_none hV
    exact ⟨rfl, rfl⟩
  obtain ⟨rfl, rfl⟩ := hq
  refine ⟨ds, [], p ++ [], [], p, [], hW', ?_, ?_, ?_, below_kept hb _, fun h => by cases h⟩
  · rw [hfn, hres]
    exact trodAll_cons_mk (p := []) (shut_bool htb true) trodAll_mk0
  · rw [hfn]
    exact trodAll_stays hl hr hA (fun x hx => below_sameAt hb (hlt x (by simp [hx]))) (fun x hx => by simpa using hlt x (by simp [hx]))
  · rw [hfn, hv]
    rfl
end
section
variable {H : Type} {enc : TypeId × Value → H} {W : World} {b0 : Nat}
theorem cells3 : Try.prog.cellsOf 3 = 1 := by kernel_rfl
theorem cells73 : Try.prog.cellsOf 73 = 1 := by kernel_rfl
theorem cells85 : Try.prog.cellsOf 85 = 1 := by kernel_rfl
theorem cells86 : Try.prog.cellsOf 86 = 1 := by kernel_rfl
theorem cells88 : Try.prog.cellsOf 88 = 4 := by kernel_rfl
theorem cells90 : Try.prog.cellsOf 90 = 2 := by kernel_rfl
theorem cells183 : Try.prog.cellsOf 183 = 2 := by kernel_rfl
theorem cells185 : Try.prog.cellsOf 185 = 5 := by kernel_rfl
theorem und3 : Try.prog.underlying 3 = some (.int .i64) := by kernel_rfl
theorem und5 : Try.prog.underlying 5 = some (.int .u8) := by kernel_rfl
theorem und73 : Try.prog.underlying 73 = some (.int .u16) := by kernel_rfl
theorem und25 : Try.prog.underlying 25 = some (.slice 73) := by kernel_rfl
theorem und85 : Try.prog.underlying 85 = some (.slice 183) := by kernel_rfl
theorem und86 : Try.prog.underlying 86 = some (.slice 185) := by kernel_rfl
theorem und88 : Try.prog.underlying 88 = some (.struct (Try.prog.fieldsOf 88)) := by kernel_rfl
theorem und90 : Try.prog.underlying 90 = some (.struct (Try.prog.fieldsOf 90)) := by kernel_rfl
theorem und183 : Try.prog.underlying 183 = some (.struct (Try.prog.fieldsOf 183)) := by kernel_rfl
theorem und185 : Try.prog.underlying 185 = some (.struct (Try.prog.fieldsOf 185)) := by kernel_rfl
theorem list2 {cs : List Value} (h : cs.length = 2) : ∃ a b, cs = [a, b] := by
  match cs, h with
  | [a, b], _ => exact ⟨a, b, rfl⟩
theorem list5 {cs : List Value} (h : cs.length = 5) : ∃ a b c d e, cs = [a, b, c, d, e] := by
  match cs, h with
  | [a, b, c, d, e], _ => exact ⟨a, b, c, d, e, rfl⟩
theorem array2 {cs : Array Value} (h : cs.size = 2) : ∃ a b, cs = #[a, b] := by
  obtain ⟨l⟩ := cs
  obtain ⟨a, b, rfl⟩ := list2 (by simpa using h)
  exact ⟨a, b, rfl⟩
theorem array4 {cs : Array Value} (h : cs.size = 4) : ∃ a b c d, cs = #[a, b, c, d] := by
  obtain ⟨l⟩ := cs
  match l, (by simpa using h : l.length = 4) with
  | [a, b, c, d], _ => exact ⟨a, b, c, d, rfl⟩
set_option maxRecDepth 100000 in
theorem open_rg {fuel : Nat} {cs : List Value} {x : DataW H × List MemPlace} (hl : cs.length = 2) (h : DataW.trod enc Try.prog W 0 (fun _ => true) true fuel 183 cs = some x) :
    ∃ a b : Int, cs = [.int .i64 a, .int .i64 b] := by
  obtain ⟨c0, c1, rfl⟩ := list2 hl
  obtain ⟨xs, n, _, _, hl, hlen, hfs⟩ := DataW.trod_struct und183 h
  have f0 : DataW.trod enc Try.prog W 0 (fun _ => true) true n 3 (List.take (Try.prog.cellsOf 3) [c0, c1]) = xs[0]? := hfs 0 _ rfl
  have f1 : DataW.trod enc Try.prog W 0 (fun _ => true) true n 3 (List.take (Try.prog.cellsOf 3) [c1]) = xs[1]? := hfs 1 _ rfl
  rw [cells3] at f0 f1
  match xs, hlen with
  | [y0, y1], _ =>
    obtain ⟨n0, e0, _, _⟩ := DataW.trod_int und3 f0
    obtain ⟨n1, e1, _, _⟩ := DataW.trod_int und3 f1
    simp at e0 e1
    subst e0 e1
    exact ⟨n0, n1, rfl⟩
set_option maxRecDepth 100000 in
theorem open_pt {fuel : Nat} {cs : List Value} {x : DataW H × List MemPlace} (hl : cs.length = 5) (h : DataW.trod enc Try.prog W 0 (fun _ => true) true fuel 185 cs = some x) :
    ∃ a b c d e : Int, cs = [.int .i64 a, .int .i64 b, .int .i64 c, .int .i64 d, .int .i64 e] := by
  obtain ⟨c0, c1, c2, c3, c4, rfl⟩ := list5 hl
  obtain ⟨xs, n, _, _, hl, hlen, hfs⟩ := DataW.trod_struct und185 h
  have f0 : DataW.trod enc Try.prog W 0 (fun _ => true) true n 183 (List.take (Try.prog.cellsOf 183) [c0, c1, c2, c3, c4]) = xs[0]? := hfs 0 _ rfl
  have f1 : DataW.trod enc Try.prog W 0 (fun _ => true) true n 183 (List.take (Try.prog.cellsOf 183) [c2, c3, c4]) = xs[1]? := hfs 1 _ rfl
  have f2 : DataW.trod enc Try.prog W 0 (fun _ => true) true n 3 (List.take (Try.prog.cellsOf 3) [c4]) = xs[2]? := hfs 2 _ rfl
  rw [cells183] at f0 f1
  rw [cells3] at f2
  match xs, hlen with
  | [y0, y1, y2], _ =>
    obtain ⟨n0, n1, e0⟩ := open_rg rfl f0
    obtain ⟨n2, n3, e1⟩ := open_rg rfl f1
    obtain ⟨n4, e2, _, _⟩ := DataW.trod_int und3 f2
    simp at e0 e1 e2
    obtain ⟨rfl, rfl⟩ := e0
    obtain ⟨rfl, rfl⟩ := e1
    subst e2
    exact ⟨n0, n1, n2, n3, n4, rfl⟩
set_option maxRecDepth 100000 in
theorem open_hooksC {fuel : Nat} {cs : List Value} {x : DataW H × List MemPlace} (h : DataW.trod enc Try.prog W 0 (fun _ => true) true fuel 85 cs = some x) :
    ∃ (A : Option Addr) (rs : List (List Int)) (c : Nat), cs = [.slice A rs.length c] ∧ (rs.length ≤ c ∧ c ≤ 9223372036854775807) ∧ Recs 2 W.heap.size W A rs ∧ ∀ r ∈ rs, r.length = 2 := by
  rcases open_slice und85 h with ⟨rfl, _⟩ | ⟨a, len, cap, m, n, D, Pl, rfl, _, hl, hm, hmm, _, hx⟩
  · exact ⟨none, [], 0, rfl, by decide, fun hp => by simp at hp, fun r hr => by simp at hr⟩
  · have hlm : len ≤ m := by rw [hmm]; split <;> omega
    unfold maxLen at hm
    have each : ∀ i, i < len → ∃ r : List Int, r.length = 2 ∧ W.cell? (a.add (i * 2)) = some (.int .i64 (ix r 0)) ∧ W.cell? ((a.add (i * 2)).add 1) = some (.int .i64 (ix r 1)) := by
      intro i hi
      obtain ⟨cs', h1, h2⟩ := hx i (by omega)
      rw [cells183] at h1
      obtain ⟨_, hlen, hcell⟩ := World.cells?_some h1
      obtain ⟨v0, v1, rfl⟩ := open_rg hlen h2
      have e0 := hcell 0 (by omega)
      have e1 := hcell 1 (by omega)
      rw [show (a.add (i * 2)).add 0 = a.add (i * 2) from by simp [Addr.add]] at e0
      exact ⟨[v0, v1], rfl, by simpa [ix] using e0, by simpa [ix] using e1⟩
    obtain ⟨q, hq⟩ := choose_lt each
    have e : ((List.range len).map q).length = len := by simp
    refine ⟨some a, (List.range len).map q, cap, by rw [e], by omega, fun hp => ?_, fun r hr => ?_⟩
    · rw [e] at hp
      have h0 := spot_none (hq 0 hp).2.1
      rw [show a.add (0 * 2) = a from by simp [Addr.add]] at h0
      refine ⟨a.block, a.off, by rw [← h0], ?_, fun k hk j hj => ?_⟩
      · have := World.block_lt_of_cell? W _ (hq 0 hp).2.1
        rwa [show a.add (0 * 2) = a from by simp [Addr.add]] at this
      · rw [e] at hk
        obtain ⟨-, c0, c1⟩ := hq k hk
        have ew : rx ((List.range len).map q) k = q k := by rw [rx_lt (by simpa using hk)]; simp
        rw [ew]
        rw [h0, addr_add] at c0 c1
        rw [addr_add] at c1
        rcases j with _ | _ | j
        · exact c0
        · exact c1
        · omega
    · obtain ⟨k, hk, rfl⟩ := List.mem_map.1 hr
      exact (hq k (List.mem_range.1 hk)).1
set_option maxRecDepth 100000 in
theorem open_patchesC {fuel : Nat} {cs : List Value} {x : DataW H × List MemPlace} (h : DataW.trod enc Try.prog W 0 (fun _ => true) true fuel 86 cs = some x) :
    ∃ (A : Option Addr) (rs : List (List Int)) (c : Nat), cs = [.slice A rs.length c] ∧ (rs.length ≤ c ∧ c ≤ 9223372036854775807) ∧ Recs 5 W.heap.size W A rs ∧ ∀ r ∈ rs, r.length = 5 := by
  rcases open_slice und86 h with ⟨rfl, _⟩ | ⟨a, len, cap, m, n, D, Pl, rfl, _, hl, hm, hmm, _, hx⟩
  · exact ⟨none, [], 0, rfl, by decide, fun hp => by simp at hp, fun r hr => by simp at hr⟩
  · have hlm : len ≤ m := by rw [hmm]; split <;> omega
    unfold maxLen at hm
    have each : ∀ i, i < len → ∃ r : List Int, r.length = 5 ∧ W.cell? (a.add (i * 5)) = some (.int .i64 (ix r 0)) ∧ W.cell? ((a.add (i * 5)).add 1) = some (.int .i64 (ix r 1)) ∧ W.cell? ((a.add (i * 5)).add 2) = some (.int .i64 (ix r 2)) ∧ W.cell? ((a.add (i * 5)).add 3) = some (.int .i64 (ix r 3)) ∧ W.cell? ((a.add (i * 5)).add 4) = some (.int .i64 (ix r 4)) := by
      intro i hi
      obtain ⟨cs', h1, h2⟩ := hx i (by omega)
      rw [cells185] at h1
      obtain ⟨_, hlen, hcell⟩ := World.cells?_some h1
      obtain ⟨v0, v1, v2, v3, v4, rfl⟩ := open_pt hlen h2
      have e0 := hcell 0 (by omega)
      have e1 := hcell 1 (by omega)
      have e2 := hcell 2 (by omega)
      have e3 := hcell 3 (by omega)
      have e4 := hcell 4 (by omega)
      rw [show (a.add (i * 5)).add 0 = a.add (i * 5) from by simp [Addr.add]] at e0
      exact ⟨[v0, v1, v2, v3, v4], rfl, by simpa [ix] using e0, by simpa [ix] using e1, by simpa [ix] using e2, by simpa [ix] using e3, by simpa [ix] using e4⟩
    obtain ⟨q, hq⟩ := choose_lt each
    have e : ((List.range len).map q).length = len := by simp
    refine ⟨some a, (List.range len).map q, cap, by rw [e], by omega, fun hp => ?_, fun r hr => ?_⟩
    · rw [e] at hp
      have h0 := spot_none (hq 0 hp).2.1
      rw [show a.add (0 * 5) = a from by simp [Addr.add]] at h0
      refine ⟨a.block, a.off, by rw [← h0], ?_, fun k hk j hj => ?_⟩
      · have := World.block_lt_of_cell? W _ (hq 0 hp).2.1
        rwa [show a.add (0 * 5) = a from by simp [Addr.add]] at this
      · rw [e] at hk
        obtain ⟨-, c0, c1, c2, c3, c4⟩ := hq k hk
        have ew : rx ((List.range len).map q) k = q k := by rw [rx_lt (by simpa using hk)]; simp
        rw [ew]
        rw [h0, addr_add] at c0 c1 c2 c3 c4
        rw [addr_add] at c1 c2 c3 c4
        rcases j with _ | _ | _ | _ | _ | j
        · exact c0
        · exact c1
        · exact c2
        · exact c3
        · exact c4
        · omega
    · obtain ⟨k, hk, rfl⟩ := List.mem_map.1 hr
      exact (hq k (List.mem_range.1 hk)).1
set_option maxRecDepth 100000 in
theorem open_lane {v : Value} {d : DataW H} {p : List MemPlace} (hv : Value.okWide Try.prog W .any b0 88 v) (h : DataW.Trod enc Try.prog W 0 (fun _ => true) true 88 v d p) :
    ∃ (l : Ln) (A B : Option Addr) (c c' : Nat), v = LV l A B c c' ∧ Recs 2 W.heap.size W A l.hk ∧ Recs 5 W.heap.size W B l.pt ∧ (∀ r ∈ l.hk, r.length = 2) ∧ ∀ r ∈ l.pt, r.length = 5 := by
  obtain ⟨cs, rfl, hsz⟩ := okWide_struct und88 hv
  obtain ⟨c0, c1, c2, c3, rfl⟩ := array4 (hsz.trans cells88)
  obtain ⟨fuel, hf⟩ := h
  obtain ⟨xs, n, _, _, hl, hlen, hfs⟩ := DataW.trod_struct und88 hf
  have f0 : DataW.trod enc Try.prog W 0 (fun _ => true) true n 3 (List.take (Try.prog.cellsOf 3) [c0, c1, c2, c3]) = xs[0]? := hfs 0 _ rfl
  have f1 : DataW.trod enc Try.prog W 0 (fun _ => true) true n 3 (List.take (Try.prog.cellsOf 3) [c1, c2, c3]) = xs[1]? := hfs 1 _ rfl
  have f2 : DataW.trod enc Try.prog W 0 (fun _ => true) true n 85 (List.take (Try.prog.cellsOf 85) [c2, c3]) = xs[2]? := hfs 2 _ rfl
  have f3 : DataW.trod enc Try.prog W 0 (fun _ => true) true n 86 (List.take (Try.prog.cellsOf 86) [c3]) = xs[3]? := hfs 3 _ rfl
  rw [cells3] at f0 f1
  rw [cells85] at f2
  rw [cells86] at f3
  match xs, hlen with
  | [y0, y1, y2, y3], _ =>
    obtain ⟨n0, e0, _, _⟩ := DataW.trod_int und3 f0
    obtain ⟨n1, e1, _, _⟩ := DataW.trod_int und3 f1
    obtain ⟨A, hs, c, e2, h1, h2, h3⟩ := open_hooksC f2
    obtain ⟨B, ps, c', e3, h4, h5, h6⟩ := open_patchesC f3
    simp at e0 e1 e2 e3
    subst e0 e1 e2 e3
    exact ⟨⟨n0, n1, hs, ps⟩, A, B, c, c', rfl, h2, h5, h3, h6⟩
set_option maxRecDepth 100000 in
theorem open_start {v : Value} {d : DataW H} {p : List MemPlace} (hv : Value.okWide Try.prog W .any b0 90 v) (h : DataW.Trod enc Try.prog W 0 (fun _ => true) true 90 v d p) :
    ∃ s : Int × Int, v = .agg #[.int .i64 s.1, .int .i64 s.2] := by
  obtain ⟨cs, rfl, hsz⟩ := okWide_struct und90 hv
  obtain ⟨c0, c1, rfl⟩ := array2 (hsz.trans cells90)
  obtain ⟨fuel, hf⟩ := h
  obtain ⟨xs, n, _, _, hl, hlen, hfs⟩ := DataW.trod_struct und90 hf
  have f0 : DataW.trod enc Try.prog W 0 (fun _ => true) true n 3 (List.take (Try.prog.cellsOf 3) [c0, c1]) = xs[0]? := hfs 0 _ rfl
  have f1 : DataW.trod enc Try.prog W 0 (fun _ => true) true n 3 (List.take (Try.prog.cellsOf 3) [c1]) = xs[1]? := hfs 1 _ rfl
  rw [cells3] at f0 f1
  match xs, hlen with
  | [y0, y1], _ =>
    obtain ⟨n0, e0, _, _⟩ := DataW.trod_int und3 f0
    obtain ⟨n1, e1, _, _⟩ := DataW.trod_int und3 f1
    simp at e0 e1
    subst e0 e1
    exact ⟨(n0, n1), rfl⟩
set_option maxRecDepth 100000 in
theorem open_u16s {v : Value} {d : DataW H} {p : List MemPlace} (hv : Value.okWide Try.prog W .any b0 25 v) (h : DataW.Trod enc Try.prog W 0 (fun _ => true) true 25 v d p) :
    ∃ A ws c, v = .slice A ws.length c ∧ (ws.length ≤ c ∧ c ≤ 9223372036854775807) ∧ W16 W.heap.size W A ws := by
  obtain ⟨a0, len0, cap0, rfl⟩ := okWide_slice und25 hv
  obtain ⟨fuel, hf⟩ := h
  rcases open_ints und25 und73 cells73 hf with ⟨e, _⟩ | ⟨a, len, cap, zs, e, _, hl, hm, hz, _, hc, hw⟩
  · simp only [Value.cells] at e
    exact ⟨none, [], 0, by simpa using e, by decide, fun hp => by simp at hp⟩
  · simp only [if_true] at hz
    unfold maxLen at hm
    have e0 : (zs.take len).length = len := by rw [List.length_take]; omega
    simp only [Value.cells] at e
    refine ⟨some a, zs.take len, cap, by rw [e0]; simpa using e, by omega, fun hp => ?_⟩
    have h0 := spot_none (hc 0 (by omega))
    rw [show a.add 0 = a from by simp [Addr.add]] at h0
    refine ⟨a.block, a.off, by rw [← h0], World.block_lt_of_cell? W _ (hc 0 (by omega)), fun k hk => ?_⟩
    have := hc k (by omega)
    rw [h0, addr_add] at this
    have ei : ix (zs.take len) k = zs.getD k 0 := by
      simp only [ix, List.getD_eq_getElem?_getD, List.getElem?_take]
      rw [if_pos (by omega)]
    have hwk := hw (zs.getD k 0) (by
      rw [List.getD_eq_getElem?_getD, List.getElem?_eq_getElem (show k < zs.length by omega)]
      exact List.getElem_mem _)
    have hb : 0 ≤ zs.getD k 0 ∧ zs.getD k 0 ≤ 65535 := by simpa [Lit.wf, IntKind.min, IntKind.max, IntKind.signed, IntKind.bits] using hwk
    rw [ei]
    exact ⟨this, hb⟩
set_option maxRecDepth 100000 in
theorem open_words {v : Value} {d : DataW H} {p : List MemPlace} (hv : Value.okWide Try.prog W .any b0 25 v) (h : DataW.Trod enc Try.prog W 0 (fun _ => true) true 25 v d p)
    (hsz : ∀ elems spare, d = .slice elems spare → (elems.length + spare.length) * Try.prog.bytesOf 73 ≤ reachBytes) :
    ∃ A ws c, v = .slice A ws.length c ∧ (ws.length ≤ c ∧ c ≤ 9223372036854775807) ∧ W16 W.heap.size W A ws ∧ ws.length ≤ 70368744177664 := by
  have hW := open_u16s hv h
  obtain ⟨A, ws, c, rfl, h1, h2⟩ := hW
  refine ⟨A, ws, c, rfl, h1, h2, ?_⟩
  obtain ⟨fuel, hf⟩ := h
  have hb : Try.prog.bytesOf 73 = 2 := by kernel_rfl
  rcases open_ints und25 und73 cells73 hf with ⟨e, _⟩ | ⟨a, len, cap, zs, e, _, hl, hm, hz, hx, hc, hw⟩
  · simp only [Value.cells] at e
    have : ws.length = 0 := by simpa using (by simpa using e : A = none ∧ ws.length = 0 ∧ c = 0).2.1
    omega
  · simp only [if_true] at hz
    simp only [Value.cells] at e
    have e2 : A = some a ∧ ws.length = len ∧ c = cap := by simpa using e
    injection hx with hd hp
    have := hsz _ _ hd
    rw [hb] at this
    have hr : reachBytes = 140737488351232 := by decide
    rw [hr] at this
    have hlz : (lits IntKind.u16 (zs.take len) : List (DataW H)).length = len := by
      unfold lits
      rw [List.length_map, List.length_take]
      omega
    rw [hlz] at this
    omega
set_option maxRecDepth 100000 in
theorem open_u8 {v : Value} {d : DataW H} {p : List MemPlace} (hv : Value.okWide Try.prog W .any b0 5 v) (h : DataW.Trod enc Try.prog W 0 (fun _ => true) true 5 v d p) : ∃ b : Nat, v = .int .u8 (b : Int) ∧ b ≤ 255 := by
  obtain ⟨n, rfl, h1, h2, h3⟩ := open_int und5 hv h
  have hb : 0 ≤ n ∧ n ≤ 255 := by simpa [Lit.wf, IntKind.min, IntKind.max, IntKind.signed, IntKind.bits] using h3
  exact ⟨n.toNat, by rw [Int.toNat_of_nonneg hb.1], by omega⟩
end
end Go.Proofs.Ytenpiinkbfancaa.Pa
