/-
  From a contract that answers true and leaves all that was there, to the given form of a statement; and how arguments read.
-/
import Derived.Test.YtgnonfomlgkpcaaBase
import Derived.Test.YtgnonfomlgkpcaaRows
import Derived.ProofKit
import Derived.OpenShut
import Derived.WideKeyArgs
import Derived.Deep.Matrix
import Derived.SizedLaws
namespace Go.Proofs.Ytgnonfomlgkpcaa
open Go.ChangeShapes Go.WideShapes Go.ChangeAt Go.RowKit Go.Deep

theorem Try.own : ownKnob Try.prog.godebug = none := by kernel_rfl
theorem Try.laidOut : laidOutB Try.prog = true := by kernel_rfl

theorem spot_none {w : World} {a : Addr} {v : Value} (h : w.cell? a = some v) : a = ⟨a.block, a.off, none⟩ := by
  obtain ⟨b, o, s⟩ := a
  cases s with
  | none => rfl
  | some s =>
    simp only [World.cell?] at h
    split at h <;> simp at h

theorem addr_add (b o n : Nat) : (⟨b, o, none⟩ : Addr).add n = ⟨b, o + n, none⟩ := by
  unfold Addr.add
  split <;> simp [*]

section
variable {H : Type} {enc : TypeId × Value → H} {P : Program}

theorem below_sameAt {W W' : World} (hb : Below W.heap.size W W') {p : MemPlace} (hp : p.block < W.heap.size) : W.sameAt W' p := by
  cases p with
  | cell b off => exact hb.cell (p := ⟨b, off, none⟩) hp
  | map b => exact hb.block b hp

theorem below_kept {W W' : World} (hb : Below W.heap.size W W') (may : MemPlace → Prop) : W.keptBut W' may := by
  refine ⟨hb.os, hb.output, fun i hi => ?_⟩
  rw [hb.block i hi]
  cases h : W.heap[i]? with
  | none => trivial
  | some o => cases o <;> simp

theorem trodAll_stays (hl : laidOutB P = true) {W W' : World} {sp : Nat → Bool} : ∀ {ts : List TypeId} {vs : List Value} {ds : List (DataW H)} {ps : List MemPlace}, (∀ t ∈ ts, P.readableRec t = true ∧ t < P.types.size) →
    DataW.TrodAll enc P W 0 (fun _ => true) true ts vs ds ps → (∀ p ∈ ps, W.sameAt W' p) → (∀ p ∈ ps, sp p.block = true) → DataW.TrodAll enc P W' 0 sp true ts vs ds ps
  | [], _, _, _, _, h, _, _ => by
    obtain ⟨rfl, rfl, rfl⟩ := trodAll_nil h
    exact trodAll_mk0
  | t :: ts, _, _, _, hr, h, hs, hb => by
    obtain ⟨v, vs, d, ds, p, q, rfl, rfl, rfl, h1, h2⟩ := trodAll_cons h
    exact trodAll_cons_mk (WideElems.Trod_stays hl (hr t (by simp)).1 (hr t (by simp)).2 h1 (fun x hx => hs x (by simp [hx])) (fun x hx => hb x (by simp [hx])))
      (trodAll_stays hl (fun t ht => hr t (by simp [ht])) h2 (fun x hx => hs x (by simp [hx])) (fun x hx => hb x (by simp [hx])))

theorem law_post (hl : laidOutB P = true) {f : Func} {s : ChangeSpec} {W W' : World} {args : Array Value} {ds gs : List (DataW H)} {before : List MemPlace} {tb : TypeId}
    (hW : DataW.Whole enc P f.params.toList s.vars false W args.toList ds gs before) (hv : s.vars = []) (hr : ∀ t ∈ f.params.toList, P.readableRec t = true ∧ t < P.types.size)
    (hres : f.resultTypes = #[tb]) (htb : P.underlying tb = some .bool) (hfn : s.fn H (ds ++ gs) = { results := [.lit (.bool true)], args := ds }) (hb : Below W.heap.size W W') :
    s.post enc P f false true false false W args (.bool true) W' := by
  have hlt : ∀ p ∈ before, p.block < W.heap.size := hW.lt
  have hW' := hW
  obtain ⟨p, q, hA, hV, rfl, hz, hn⟩ := hW
  have hq : q = [] ∧ gs = [] := by
    rw [hv] at hV
    obtain ⟨rfl, rfl⟩ := trodVars_none hV
    exact ⟨rfl, rfl⟩
  obtain ⟨rfl, rfl⟩ := hq
  refine ⟨ds, [], p ++ [], [], p, [], hW', ?_, ?_, ?_, below_kept hb _, fun h => by cases h⟩
  · rw [hfn, hres]
    exact trodAll_cons_mk (p := []) (shut_bool htb true) trodAll_mk0
  · rw [hfn]
    exact trodAll_stays hl hr hA (fun x hx => below_sameAt hb (hlt x (by simp [hx]))) (fun x hx => by simpa using hlt x (by simp [hx]))
  · rw [hfn, hv]
    rfl
end

section
variable {H : Type} {enc : TypeId × Value → H} {W : World} {b0 : Nat}

theorem Try.cells3 : Try.prog.cellsOf 3 = 1 := by kernel_rfl
theorem Try.cells45 : Try.prog.cellsOf 45 = 1 := by kernel_rfl
theorem Try.cells22 : Try.prog.cellsOf 22 = 1 := by kernel_rfl
theorem Try.cells24 : Try.prog.cellsOf 24 = 2 := by kernel_rfl
theorem Try.cells26 : Try.prog.cellsOf 26 = 4 := by kernel_rfl

theorem open_intsC {fuel : Nat} {cs : List Value} {x : DataW H × List MemPlace} (h : DataW.trod enc Try.prog W 0 (fun _ => true) true fuel 45 cs = some x) :
    ∃ A xs c, cs = [.slice A xs.length c] ∧ (xs.length ≤ c ∧ c ≤ 9223372036854775807) ∧ Ints W.heap.size W A xs := by
  rcases open_ints Try.underlying45 Try.underlying3 Try.cells3 h with ⟨rfl, _⟩ | ⟨a, len, cap, zs, rfl, _, hl, hm, hz, _, hc, _⟩
  · exact ⟨none, [], 0, rfl, by decide, fun hp => by simp at hp⟩
  · simp only [if_true] at hz
    unfold maxLen at hm
    have e : (zs.take len).length = len := by rw [List.length_take]; omega
    refine ⟨some a, zs.take len, cap, by rw [e], by omega, fun hp => ?_⟩
    have h0 := spot_none (hc 0 (by omega))
    rw [show a.add 0 = a from by simp [Addr.add]] at h0
    refine ⟨a.block, a.off, by rw [← h0], World.block_lt_of_cell? W _ (hc 0 (by omega)), fun k hk => ?_⟩
    have := hc k (by omega)
    rw [h0, addr_add] at this
    rw [this, ix]
    congr 2
    simp only [List.getD_eq_getElem?_getD, List.getElem?_take]
    rw [if_pos (by omega)]

theorem open_grdC {fuel : Nat} {cs : List Value} {x : DataW H × List MemPlace} (h : DataW.trod enc Try.prog W 0 (fun _ => true) true fuel 22 cs = some x) :
    ∃ A xss c, cs = [.slice A xss.length c] ∧ (xss.length ≤ c ∧ c ≤ 9223372036854775807) ∧ Grd W.heap.size W A xss := by
  rcases open_int_rows Try.underlying22 Try.underlying45 Try.underlying3 Try.cells45 Try.cells3 h with ⟨rfl, _⟩ | ⟨a, len, cap, A, L, C, Z, rfl, _, hl, hm, _, hrows⟩
  · exact ⟨none, [], 0, rfl, by decide, fun hp => by simp at hp⟩
  · unfold maxLen at hm
    have e : ((List.range len).map fun r => (Z r).take (L r)).length = len := by simp
    refine ⟨some a, (List.range len).map fun r => (Z r).take (L r), cap, by rw [e], by omega, fun hp => ?_⟩
    rw [e] at hp
    have h0 := spot_none (hrows 0 (by omega)).1
    rw [show a.add 0 = a from by simp [Addr.add]] at h0
    refine ⟨a.block, a.off, by rw [← h0], World.block_lt_of_cell? W _ (hrows 0 (by omega)).1, fun k hk => ?_⟩
    rw [e] at hk
    obtain ⟨h1, h2, h3, h4, _, h5, h6⟩ := hrows k (by omega)
    have e1 : rx ((List.range len).map fun r => (Z r).take (L r)) k = (Z k).take (L k) := by rw [rx_lt (by simpa using hk)]; simp
    have e2 : ((Z k).take (L k)).length = L k := by rw [List.length_take]; omega
    unfold maxLen at h3
    rw [h0, addr_add] at h1
    refine ⟨_, h1, A k, C k, by rw [e1, e2], by rw [e1, e2]; exact h2, h3, ?_⟩
    rw [e1]
    intro hp'
    rw [e2] at hp'
    cases hA : A k with
    | none => have := h5 hA; omega
    | some a' =>
      obtain ⟨_, hc⟩ := h6 a' hA
      have h0' := spot_none (hc 0 (by omega))
      rw [show a'.add 0 = a' from by simp [Addr.add]] at h0'
      refine ⟨a'.block, a'.off, by rw [← h0'], World.block_lt_of_cell? W _ (hc 0 (by omega)), fun j hj => ?_⟩
      rw [e2] at hj
      have := hc j (by omega)
      rw [h0', addr_add] at this
      rw [this, ix]
      congr 2
      simp only [List.getD_eq_getElem?_getD, List.getElem?_take]
      rw [if_pos (by omega)]

set_option maxRecDepth 100000 in
theorem open_grd {v : Value} {d : DataW H} {p : List MemPlace} (hv : Value.okWide Try.prog W .any b0 22 v) (h : DataW.Trod enc Try.prog W 0 (fun _ => true) true 22 v d p) :
    ∃ A xss c, v = .slice A xss.length c ∧ (xss.length ≤ c ∧ c ≤ 9223372036854775807) ∧ Grd W.heap.size W A xss := by
  obtain ⟨a, len, cap, rfl⟩ := okWide_slice Try.underlying22 hv
  obtain ⟨fuel, hf⟩ := h
  obtain ⟨A, xss, c, e, h1, h2⟩ := open_grdC hf
  simp only [Value.cells] at e
  exact ⟨A, xss, c, by simpa using e, h1, h2⟩

theorem array4 {cs : Array Value} (h : cs.size = 4) : ∃ a b c d, cs = #[a, b, c, d] := by
  obtain ⟨l⟩ := cs
  match l, h with
  | [a, b, c, d], _ => exact ⟨a, b, c, d, rfl⟩

set_option maxRecDepth 100000 in
theorem open_lane {v : Value} {d : DataW H} {p : List MemPlace} (hv : Value.okWide Try.prog W .any b0 26 v) (h : DataW.Trod enc Try.prog W 0 (fun _ => true) true 26 v d p) :
    ∃ A xss c lo hi ca, v = .agg #[.slice A xss.length c, .int .i64 lo, .int .i64 hi, .int .i64 ca] ∧ (xss.length ≤ c ∧ c ≤ 9223372036854775807) ∧ Grd W.heap.size W A xss := by
  obtain ⟨cs, rfl, hsz⟩ := okWide_struct Try.underlying26 hv
  obtain ⟨c0, c1, c2, c3, rfl⟩ := array4 (hsz.trans Try.cells26)
  obtain ⟨fuel, hf⟩ := h
  obtain ⟨xs, n, _, _, hl, hlen, hfs⟩ := DataW.trod_struct Try.underlying26 hf
  have f0 : DataW.trod enc Try.prog W 0 (fun _ => true) true n 22 (List.take (Try.prog.cellsOf 22) [c0, c1, c2, c3]) = xs[0]? := hfs 0 _ rfl
  have f1 : DataW.trod enc Try.prog W 0 (fun _ => true) true n 24 (List.take (Try.prog.cellsOf 24) [c1, c2, c3]) = xs[1]? := hfs 1 _ rfl
  have f2 : DataW.trod enc Try.prog W 0 (fun _ => true) true n 3 (List.take (Try.prog.cellsOf 3) [c3]) = xs[2]? := hfs 2 _ rfl
  rw [Try.cells22] at f0
  rw [Try.cells24] at f1
  rw [Try.cells3] at f2
  match xs, hlen with
  | [y0, y1, y2], _ =>
    obtain ⟨A, xss, c, e, h1, h2⟩ := open_grdC f0
    obtain ⟨z0, z1, m, _, _, g0, g1⟩ := trod_struct2 Try.underlying24 f1
    rw [Try.cells3] at g0 g1
    obtain ⟨n0, e0, _, _⟩ := DataW.trod_int Try.underlying3 g0
    obtain ⟨n1, e1, _, _⟩ := DataW.trod_int Try.underlying3 g1
    obtain ⟨n2, e2, _, _⟩ := DataW.trod_int Try.underlying3 f2
    simp at e e0 e1 e2
    subst e e0 e1 e2
    exact ⟨A, xss, c, n0, n1, n2, rfl, h1, h2⟩
end
end Go.Proofs.Ytgnonfomlgkpcaa
