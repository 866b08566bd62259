/-
  Rows of one's own: append; Clone; the list of all cells.
-/
import Derived.Test.YtgnonfomlgkpcaaF
import Derived.Deep.RegionWith
import Derived.Maps.AppendAt
import Derived.Deep.OwnRows
namespace Go.Proofs.Ytgnonfomlgkpcaa
open Go.RowKit

/-- A slice's cells, nil let in. -/
def Src (w : World) (size : Nat) (A : Option Addr) (m : Nat) (news : List Value) : Prop :=
  news.length = m * size ∧ (A = none → m = 0) ∧ ∀ ad, A = some ad → ∀ j u, news[j]? = some u → w.cell? (ad.add j) = some u

theorem Ints.isrc {B : Nat} {w : World} {A : Option Addr} {xs : List Int} (h : Ints B w A xs) : Src w 1 A xs.length (xs.map (Value.int .i64)) := by
  refine ⟨by simp, fun hA => ?_, fun ad hA j u hu => ?_⟩
  · rcases Nat.eq_zero_or_pos xs.length with h0 | h0
    · exact h0
    · obtain ⟨b, off, hA', _⟩ := h h0
      rw [hA] at hA'
      cases hA'
  · have h0 : 0 < (xs.map (Value.int .i64)).length := by
      rcases Nat.eq_zero_or_pos (xs.map (Value.int .i64)).length with h0 | h0
      · rw [List.getElem?_eq_none (by omega)] at hu; cases hu
      · exact h0
    obtain ⟨ad', hA', hc⟩ := h.src h0
    rw [hA] at hA'
    injection hA' with e
    subst e
    exact hc j u hu

section
variable {P : Program} {w : World}
theorem run_append_src (base : Nat) (t ty e : TypeId) (i : TypeInfo) (z : Value) (size bytes : Nat) (ht : P.underlying t = some (.slice e)) (hi : P.info? e = some i) (hz : i.zero = some z)
    (hsize : i.size = size) (hby : i.bytes = bytes) (hzs : z.cells.size = size) (hsz : 0 < size)
    (v : Value) (n : Nat) (xs : List Value) (hown : w.ownsRow base e size v n xs) (A : Option Addr) (m c : Nat) (news : List Value) (hs : Src w size A m news) (h1 : ∀ u ∈ news, u.oneCell' = true)
    (h63 : n + m ≤ maxLen) (hbytes : (n + m) * bytes ≤ 140737488355328) (hbase : base ≤ w.heap.size) :
    ∃ v' w', (Builtin.append_ #[t, t] ty #[v, .slice A m c]).run P w = .ok v' w' ∧ w'.ownsRow base e size v' (n + m) (xs ++ news) ∧ w.grownBy w' v.ownBlock ∧
      (v'.ownBlock = v.ownBlock ∨ v'.ownBlock = some w.heap.size) := by
  cases A with
  | some ad =>
    obtain ⟨v', w', h2, h3, h4, _, h5⟩ := run_append_own_at (P := P) w base t ty e i z size bytes ht hi hz hsize hby hzs hsz v n xs hown ad m c news hs.1 (hs.2.2 ad rfl) h1 h63 hbytes hbase
    exact ⟨v', w', h2, h3, h4, h5⟩
  | none =>
    obtain rfl : m = 0 := hs.2.1 rfl
    obtain rfl : news = [] := List.eq_nil_of_length_eq_zero (by simpa using hs.1)
    refine ⟨v, w, ?_, by simpa using hown, World.grownBy.refl _ _, .inl rfl⟩
    rcases hown.2 with ⟨rfl, rfl⟩ | ⟨g, cap, cur, rfl, _, _, hcap, _⟩
    all_goals simp [Builtin.append_, run_underlying ht, sizeOf, typeInfo, hi, Builtin.lenOf, Builtin.firstCells, storeCells]
    omega

theorem wpList_append_src {ops : Array Oper} {rest : List Oper} {o : Oper} {a : Act} {Q : Exit → Act → World → Prop} (hgd : o.guard = none) (s x : Operand) (t : TypeId)
    (ho : o.op = .call { callee := .builtin .append, args := #[s, x], argTypes := #[t, t] })
    (base : Nat) (e : TypeId) (i : TypeInfo) (z : Value) (size bytes : Nat) (ht : P.underlying t = some (.slice e)) (hi : P.info? e = some i) (hz : i.zero = some z)
    (hsize : i.size = size) (hby : i.bytes = bytes) (hzs : z.cells.size = size) (hsz : 0 < size)
    (v : Value) (n : Nat) (xs : List Value) (hv : a.eval s = v) (hown : w.ownsRow base e size v n xs) (A : Option Addr) (m c : Nat) (news : List Value) (hx : a.eval x = .slice A m c) (hs : Src w size A m news) (h1 : ∀ u ∈ news, u.oneCell' = true)
    (h63 : n + m ≤ maxLen) (hbytes : (n + m) * bytes ≤ 140737488355328) (hbase : base ≤ w.heap.size)
    (h : ∀ v' w', w'.ownsRow base e size v' (n + m) (xs ++ news) → w.grownBy w' v.ownBlock → (v'.ownBlock = v.ownBlock ∨ v'.ownBlock = some w.heap.size) → wpList P ops Q rest (a.put o.dst v') w') : wpList P ops Q (o :: rest) a w := by
  refine wpList_plain hgd fun K hK => ?_
  obtain ⟨v', w', hr, h2, h3, h4⟩ := run_append_src (P := P) (w := w) base t o.type e i z size bytes ht hi hz hsize hby hzs hsz v n xs hown A m c news hs h1 h63 hbytes hbase
  unfold Oper.wp execOp
  simp only [ho, resolve, invoke, builtin, Sem.run_bind, Sem.run_pure, Result.andThen_ok, List.map_toArray, List.map_cons, List.map_nil, hv, hx, hr]
  exact hK _ _ (h v' w' h2 h3 h4)
end

theorem infoInt : (Try.prog.info? 3).map (fun i => (i.zero, i.size, i.bytes)) = some (some (.int .i64 0), 1, 8) := by kernel_rfl
theorem infoInts : (Try.prog.info? 45).map (fun i => (i.zero, i.size, i.bytes)) = some (some (.slice none 0 0), 1, 24) := by kernel_rfl

/-- A new slice of integers. -/
def NewInts (w : World) (xs : List Int) (e : Ending) (w' : World) : Prop :=
  ∃ A c, e = .returned (.slice A xs.length c) ∧ w'.ownsRow w.heap.size 3 1 (.slice A xs.length c) xs.length (xs.map (Value.int .i64)) ∧ Below w.heap.size w w'

theorem ownsRow_form {w : World} {base : Nat} {e : TypeId} {size n : Nat} {v : Value} {xs : List Value} (h : w.ownsRow base e size v n xs) : ∃ A c, v = .slice A n c := by
  rcases h.2 with ⟨rfl, rfl⟩ | ⟨g, cap, cur, rfl, _⟩
  · exact ⟨_, _, rfl⟩
  · exact ⟨_, _, rfl⟩
theorem ownsRow_base {w : World} {base base' : Nat} {e : TypeId} {size n : Nat} {v : Value} {xs : List Value} (h : w.ownsRow base e size v n xs) (hb : base' ≤ base) : w.ownsRow base' e size v n xs := by
  obtain ⟨h1, h2⟩ := h
  refine ⟨h1, ?_⟩
  rcases h2 with h2 | ⟨g, cap, cur, hv, hg, r⟩
  · exact .inl h2
  · exact .inr ⟨g, cap, cur, hv, by omega, r⟩
theorem below_drew_l {B : Nat} {a w : World} (h : Below B a.drew w) : Below B a w := ⟨h.os, h.tape, h.output, h.size, h.block⟩

set_option maxHeartbeats 400000 in
theorem clone_c {B : Nat} (A : Option Addr) (xs : List Int) (c : Nat) (w : World) (hx : Ints B w A xs) (hB : B ≤ w.heap.size) (hl : xs.length ≤ 1000000) :
    Calls Try.prog 77 #[.slice A xs.length c] w (NewInts w xs) := by
  obtain ⟨i0, hi, hz0, hz1, hz2⟩ := info_parts infoInt
  cases A with
  | none =>
    have h0 : xs.length = 0 := hx.isrc.2.1 rfl
    obtain rfl : xs = [] := List.eq_nil_of_length_eq_zero h0
    clear h0
    rw [List.length_nil]
    have heq : ∀ W, (binOp .eql 45 (.slice none 0 c) (.slice none 0 0)).run Try.prog W = .ok (.bool true) W := fun W => Lib.run_eql_slice_nil W 45 3 none _ _ 0 0 Try.underlying45
    clear hx
    go_enter Try.func77, Try.ntmps77
    go_wp2_with fail
    go_ret
    exact ⟨_, _, rfl, World.ownsRow_nil _ _ _ _, Below.refl _ _⟩
  | some ad =>
    have heq : ∀ W, (binOp .eql 45 (.slice (some ad) xs.length c) (.slice none 0 0)).run Try.prog W = .ok (.bool false) W := fun W => Lib.run_eql_slice_nil W 45 3 (some ad) _ _ 0 0 Try.underlying45
    have hs := Lib.hid ((hx.alloc hB (.cells #[] 3)).isrc)
    have ho : Hid ((w.alloc (.cells #[] 3)).ownsRow w.heap.size 3 1 (.slice (some ⟨w.heap.size, 0, none⟩) 0 0) 0 []) := World.ownsRow_lit w #[] 0 (Nat.le_refl _) (by simp [maxLen]) (by simp)
    have h63 : Hid (0 + xs.length ≤ maxLen) := by show _ ≤ _; unfold maxLen; omega
    have hby : Hid ((0 + xs.length) * 8 ≤ 140737488355328) := by show _ ≤ _; omega
    go_enter Try.func77, Try.ntmps77
    go_wp2_with (at_builtin; refine wpList_append_src rfl (.tmp 5) (.tmp 6) 45 rfl w.heap.size 3 i0 (.int .i64 0) 1 8 Try.underlying45 hi hz0 hz1 hz2 rfl (by decide) (.slice (some ⟨w.heap.size, 0, none⟩) 0 0) 0 [] rfl ho.out (some ad) xs.length c _ rfl hs.out (one_ints xs) h63.out hby.out (by simp) ?_; intro v' w1 hown hgrow _; have HO := Lib.hid hown; have HG := Lib.hid hgrow; clear hown hgrow)
    go_ret
    have hown := HO.out
    rw [List.nil_append, Nat.zero_add] at hown
    obtain ⟨A', c', rfl⟩ := ownsRow_form hown
    exact ⟨_, _, rfl, hown, ((Below.refl w.heap.size w).alloc (Nat.le_refl _) _).grown HG.out (by simp) (fun k e => by injection e with e; subst e; exact Nat.le_refl _)⟩

/-- Row j of nb boards. -/
def rowOf (o : Nat → Int) (nb j : Nat) : List Int := (List.range nb).map fun b => o (j * 12 + b)
def rowsOf (o : Nat → Int) (nb n : Nat) : List (List Int) := (List.range n).map (rowOf o nb)
theorem rowOf_len (o : Nat → Int) (nb j : Nat) : (rowOf o nb j).length = nb := by simp [rowOf]
theorem ix_rowOf (o : Nat → Int) {nb j b : Nat} (h : b < nb) : ix (rowOf o nb j) b = o (j * 12 + b) := by
  rw [ix_lt (by rw [rowOf_len]; exact h)]
  simp [rowOf]
theorem rowsOf_len (o : Nat → Int) (nb n : Nat) : (rowsOf o nb n).length = n := by simp [rowsOf]
theorem rx_rowsOf (o : Nat → Int) {nb n j : Nat} (h : j < n) : rx (rowsOf o nb n) j = rowOf o nb j := by
  rw [rx_lt (by rw [rowsOf_len]; exact h)]
  simp [rowsOf]

theorem Worn.ints {w : World} {g : Nat} {fv : Value} {lo hi ca : Int} {o : Nat → Int} (h : Worn w g fv lo hi ca o) {nb j : Nat} (hj : j < 8) (hnb : nb ≤ 12) : Ints w.heap.size w (some ⟨g, 4 + j * 12, none⟩) (rowOf o nb j) := fun _ =>
  ⟨g, 4 + j * 12, rfl, h.lt, fun k hk => by
    rw [rowOf_len] at hk
    rw [ix_rowOf o hk]
    exact h.at_ (by omega) (by omega)⟩

theorem ownsRow_isInts {w : World} {base : Nat} {v : Value} {xs : List Int} (h : w.ownsRow base 3 1 v xs.length (xs.map (Value.int .i64))) : IsInts w.heap.size w v xs := by
  rcases h.2 with ⟨rfl, h0⟩ | ⟨g, cap, cur, rfl, hb, hg, hn, hm, hs, ht⟩
  · have : xs = [] := List.eq_nil_of_length_eq_zero h0
    subst this
    exact ⟨none, 0, rfl, by simp, by simp, fun hp => by simp at hp⟩
  · refine ⟨_, cap, rfl, hn, by unfold maxLen at hm; omega, fun hp => ⟨g, 0, rfl, (Array.getElem?_eq_some_iff.1 hg).1, fun k hk => ?_⟩⟩
    have := h.cells (g := g) rfl k (.int .i64 (ix xs k)) (by rw [List.getElem?_map, List.getElem?_eq_getElem hk, ix_lt hk]; rfl)
    rwa [add_eq] at this

/-- Block g holds n slices; the first k of them are rows of their own, in younger blocks. -/
def Outs (w : World) (g n k : Nat) (rows : Nat → List Int) : Prop :=
  ∃ arr : Array Value, w.heap[g]? = some (.cells arr 45 (0, 0)) ∧ arr.size = n ∧ ∀ j, j < k → ∃ v, arr[j]? = some v ∧ w.ownsRow (g + 1) 3 1 v (rows j).length ((rows j).map (Value.int .i64))

theorem Outs.keep {w w' : World} {g n k : Nat} {rows : Nat → List Int} (h : Outs w g n k rows) (hb : Below w.heap.size w w') : Outs w' g n k rows := by
  obtain ⟨arr, h1, h2, h3⟩ := h
  refine ⟨arr, (hb.block g (Array.getElem?_eq_some_iff.1 h1).1).trans h1, h2, fun j hj => ?_⟩
  obtain ⟨v, h4, h5⟩ := h3 j hj
  exact ⟨v, h4, h5.kept (only_below hb none) (by cases v.ownBlock <;> simp)⟩

theorem Outs.step {w : World} {g n k : Nat} {rows : Nat → List Int} {v : Value} (h : Outs w g n k rows) (hk : k < n) (hv : w.ownsRow (g + 1) 3 1 v (rows k).length ((rows k).map (Value.int .i64))) : Outs (w.setCell ⟨g, k, none⟩ v) g n (k + 1) rows := by
  obtain ⟨arr, h1, h2, h3⟩ := h
  have hset : w.grownBy (w.setCell ⟨g, k, none⟩ v) (some g) := only_setCell (World.grownBy.refl _ _) (.inl rfl) _
  have hne : ∀ {u : Value} {m : Nat} {us : List Value}, w.ownsRow (g + 1) 3 1 u m us → (w.setCell ⟨g, k, none⟩ v).ownsRow (g + 1) 3 1 u m us := fun {u m us} hu => hu.kept hset (by
    by_cases e : u.ownBlock = none
    · exact .inl e
    · refine .inr fun e' => ?_
      have := (hu.lt g e').1
      omega)
  refine ⟨arr.setIfInBounds k v, ?_, by simp [h2], fun j hj => ?_⟩
  · simp [World.setCell, Array.getElem?_modify, h1]
  · by_cases e : j = k
    · subst e
      exact ⟨v, by simp [h2, hk], hne hv⟩
    · obtain ⟨u, h4, h5⟩ := h3 j (by omega)
      exact ⟨u, by simp [Ne.symm e, h4], hne h5⟩

theorem Outs.grd {w : World} {g n : Nat} {yss : List (List Int)} (h : Outs w g n n (rx yss)) (hn : yss.length = n) (hm : n ≤ 9223372036854775807) : IsGrd w.heap.size w (.slice (some ⟨g, 0, none⟩) n n) yss := by
  subst hn
  obtain ⟨arr, h1, h2, h3⟩ := h
  refine ⟨_, _, rfl, Nat.le_refl _, hm, fun hp => ⟨g, 0, rfl, (Array.getElem?_eq_some_iff.1 h1).1, fun k hk => ?_⟩⟩
  obtain ⟨v, h4, h5⟩ := h3 k hk
  refine ⟨v, ?_, ownsRow_isInts h5⟩
  simp [World.cell?, h1, h4]

theorem Outs.lt {w : World} {g n k : Nat} {rows : Nat → List Int} (h : Outs w g n k rows) : g < w.heap.size := by
  obtain ⟨arr, h1, _⟩ := h
  exact (Array.getElem?_eq_some_iff.1 h1).1
theorem Outs.cell {w : World} {g n k : Nat} {rows : Nat → List Int} (h : Outs w g n k rows) {j : Nat} (hj : j < n) : (∃ u, w.cell? ⟨g, j, none⟩ = some u) ∧ w.frozen? ⟨g, j, none⟩ = false := by
  obtain ⟨arr, h1, h2, h3⟩ := h
  exact ⟨⟨arr[j], by simp [World.cell?, h1, h2, hj]⟩, by simp [World.frozen?, h1]⟩

/-- A new list of lists. -/
def NewGrd (w : World) (yss : List (List Int)) (e : Ending) (w' : World) : Prop :=
  ∃ v, e = .returned v ∧ IsGrd w'.heap.size w' v yss ∧ Below w.heap.size w w'

set_option maxHeartbeats 2000000 in
set_option maxRecDepth 100000 in
theorem list_c {B : Nat} (g : Nat) (A : Option Addr) (c : Nat) (lo hi ca : Int) (o : Nat → Int) (xss : List (List Int)) (w : World) (hW : Worn w g (.slice A xss.length c) lo hi ca o) (hB : B ≤ w.heap.size) (hr : Grd B w A xss) (h0 : 0 < xss.length) (h8 : xss.length ≤ 8) (h12 : (rx xss 0).length ≤ 12) :
    Calls Try.prog 64 #[.pointer (some ⟨g, 0, none⟩)] w (NewGrd w (rowsOf o (rx xss 0).length xss.length)) := by
  have hg := hW.lt
  have hg1 : g < w.heap.size + 1 := by omega
  have hc0 := hW.c0
  have hmk : ∀ W, (Instr.makeSlice 22 (.int .i64 (xss.length : Int)) (.int .i64 (xss.length : Int))).run Try.prog W = .ok (.slice (some ⟨W.heap.size, 0, none⟩) xss.length xss.length) (W.alloc (.cells (madeCells #[.slice none 0 0] xss.length) 45)) :=
    fun W => run_make_row' 22 45 (.slice none 0 0) 24 Try.underlying22 infoInts rfl .i64 .i64 xss.length (by omega) (by omega) W
  have hw1 : Below w.heap.size w (w.alloc (.cells (madeCells #[.slice none 0 0] xss.length) 45)) := (Below.refl _ _).alloc (Nat.le_refl _) _
  have HO : Hid (Outs (w.alloc (.cells (madeCells #[.slice none 0 0] xss.length) 45)) w.heap.size xss.length 0 (rx (rowsOf o (rx xss 0).length xss.length))) := ⟨_, World.alloc_heap_new w _, size_madeCells _ _, fun j hj => by omega⟩
  have HW := Lib.hid hW
  have HR := Lib.hid hr
  clear hW hr
  go_enter Try.func64, Try.ntmps64
  go_wp2_with fail
  go_loopw [14] (fun i wr => ∃ k : Nat, k ≤ xss.length ∧ i = .int .i64 k ∧ Outs wr w.heap.size xss.length k (rx (rowsOf o (rx xss 0).length xss.length)) ∧ Below w.heap.size w wr) (fun i _ => xss.length - (intOf i).toNat)
  case atStart => exact ⟨0, by omega, rfl, HO.out, hw1⟩
  case round =>
    obtain ⟨k, hk, rfl, hO, hb⟩ := hrel
    clear hw1 HO hmk hc0
    by_cases h1 : k < xss.length
    · have hW := HW.out.below hb hg
      have hr := HR.out.below (hb.mono hB)
      have hz := hb.size
      have d0 := hW.c0
      have d1 := hW.c1
      have d2 := hW.c2
      have d3 := hW.c3
      have HB := Lib.hid hb
      have HO := Lib.hid hO
      clear hb hO
      have H84 := Lib.hid (boards_c (B := B) A xss c lo hi ca wr.drew (by simp; omega) hr h0)
      have HI : Hid (Ints wr.heap.size wr (some ⟨g, 4 + k * 12, none⟩) (rowOf o (rx xss 0).length k)) := hW.ints (by omega) h12
      have HL : Hid ((rowOf o (rx xss 0).length k).length = (rx xss 0).length) := rowOf_len _ _ _
      have h12i : ((rx xss 0).length : Int) ≤ 12 := by omega
      have h12j : (0 : Int) ≤ ((rx xss 0).length : Int) := by omega
      clear hW hr
      go_wp2_with fail
      go_region_with (first | (go_at_call 84; refine H84.out.mono ?_; rintro e w1 ⟨rfl, hb1⟩; have HB1 := Lib.hid hb1; clear hb1 H84) | (go_at_call 77; have h77 := clone_c (B := wr.heap.size) (some ⟨g, 4 + k * 12, none⟩) (rowOf o (rx xss 0).length k) 12 w1 (HI.out.below (below_drew_l HB1.out)) HB1.out.size (by rw [HL.out]; omega); rw [HL.out] at h77; refine h77.mono ?_; clear h77; rintro e w2 ⟨va, vc, rfl, hv, hb2⟩; have hO2 := HO.out.keep ((below_drew_l HB1.out).trans (hb2.mono HB1.out.size)); obtain ⟨⟨u, hcell⟩, hfr⟩ := hO2.cell h1; have HO2 := Lib.hid hO2; have HV := Lib.hid hv; have HB2 := Lib.hid hb2; clear hO2 hv hb2))
      all_goals
        go_wp2_with fail
        go_roundw
        case rel =>
          have hlt := HO.out.lt
          have hz1 := HB1.out.size
          rw [World.size_drew] at hz1
          exact ⟨k + 1, by omega, by go_num, HO2.out.step h1 (by rw [rx_rowsOf o h1]; exact ownsRow_base HV.out (by omega)), (HB.out.trans ((below_drew_l HB1.out).mono hz)).trans (((Below.refl _ w1).trans (HB2.out.mono (Nat.le_refl _))).mono (by omega)) |>.setCell (p := ⟨w.heap.size, k, none⟩) (Nat.le_refl _) _⟩
        case measure => simp [intOf]; omega
    · obtain rfl : k = xss.length := by omega
      go_wp2_with fail
      go_ret
      exact ⟨_, rfl, hO.grd (rowsOf_len _ _ _) (by omega), hb⟩
end Go.Proofs.Ytgnonfomlgkpcaa
