/-
  join, kind, Kind.
-/
import Derived.Test.YtpekajnjjhibjaaJnM
import Derived.Test.YtpekajnjjhibjaaRt
namespace Go.Proofs.Ytpekajnjjhibjaa
open Go.RowKit
set_option linter.unusedSimpArgs false
set_option linter.unusedVariables false

attribute [local go_sem] Oper.semAt_some
/-- The piece's block; what join reads. -/
def PcAt (W : World) (b u : Nat) : Prop := W.heap[b]? = some (.cells #[.int .u16 (u : Int)] 100)
theorem PcAt.cell {W : World} {b u : Nat} (h : PcAt W b u) : W.cell? ⟨b, 0, none⟩ = some (.int .u16 (u : Int)) ∧ W.frozen? ⟨b, 0, none⟩ = false := by
  unfold PcAt at h
  simp [World.cell?, World.frozen?, h]
theorem PcAt.lt {W : World} {b u : Nat} (h : PcAt W b u) : b < W.heap.size := (Array.getElem?_eq_some_iff.1 h).1
theorem PcAt.step {W W' : World} {b u : Nat} (h : PcAt W b u) (hb : Below W.heap.size W W') : PcAt W' b u := (hb.block b h.lt).trans h
theorem PcAt.set {W : World} {b u : Nat} (h : PcAt W b u) (v : Nat) : PcAt (W.setCell ⟨b, 0, none⟩ (.int .u16 (v : Int))) b v := by
  unfold PcAt at h ⊢
  simp [World.setCell, Array.getElem?_modify, h]
theorem KpS.of_own {n₀ : Nat} {S : Nat → Prop} {A B : World} {row : Option Nat} (h : A.grownBy B row) (hr : ∀ q, row = some q → n₀ ≤ q ∧ ∃ o : Obj, A.heap[q]? = some o ∧ o.isCells = false) : KpS n₀ S A B :=
  ⟨h.size, h.os, h.tape, h.output, fun i x h0 h1 _ => (h.block i (Array.getElem?_eq_some_iff.1 h0).1 (fun e => by
    obtain ⟨h2, o, ho, hc⟩ := hr i e.symm
    rcases h1 with h1 | h1
    · omega
    · rw [ho] at h0; cases h0; rw [hc] at h1; cases h1)).trans h0⟩
structure JCtx (W : World) (bp bk bs bj : Nat) (r : Rk) (A : Option Addr) (c s : Nat) : Prop where
  k0 : W.cell? ⟨bk, 0, none⟩ = some (.int .i64 r.rows)
  k1 : W.cell? ⟨bk, 1, none⟩ = some (.int .i64 r.mid)
  k2 : W.cell? ⟨bk, 2, none⟩ = some (.int .i64 r.gap)
  k3 : W.cell? ⟨bk, 3, none⟩ = some (.int .i64 r.reach)
  k4 : W.cell? ⟨bk, 4, none⟩ = some (.slice A r.links.length c)
  s0 : W.cell? ⟨bs, 0, none⟩ = some (.int .u16 (s : Int))
  j0 : W.cell? ⟨bj, 0, none⟩ = some (.func (.func 97) #[] #[.pointer (some ⟨bp, 0, none⟩), .pointer (some ⟨bk, 0, none⟩), .pointer (some ⟨bs, 0, none⟩), .pointer (some ⟨bj, 0, none⟩)])
  n1 : bk ≠ bp
  n2 : bs ≠ bp
  n3 : bj ≠ bp
theorem JCtx.step {W W' : World} {bp bk bs bj : Nat} {r : Rk} {A : Option Addr} {c s : Nat} (h : JCtx W bp bk bs bj r A c s) (hb : Below W.heap.size W W') : JCtx W' bp bk bs bj r A c s :=
  ⟨cell_of_ans hb h.k0, cell_of_ans hb h.k1, cell_of_ans hb h.k2, cell_of_ans hb h.k3, cell_of_ans hb h.k4, cell_of_ans hb h.s0, cell_of_ans hb h.j0, h.n1, h.n2, h.n3⟩
theorem JCtx.grown {W W' : World} {bp bk bs bj : Nat} {r : Rk} {A : Option Addr} {c s : Nat} (h : JCtx W bp bk bs bj r A c s) (hg : W.grownBy W' (some bp)) : JCtx W' bp bk bs bj r A c s := by
  have e1 : some bk ≠ some bp := fun e => h.n1 (by injection e)
  have e2 : some bs ≠ some bp := fun e => h.n2 (by injection e)
  have e3 : some bj ≠ some bp := fun e => h.n3 (by injection e)
  exact ⟨hg.cell h.k0 e1, hg.cell h.k1 e1, hg.cell h.k2 e1, hg.cell h.k3 e1, hg.cell h.k4 e1, hg.cell h.s0 e2, hg.cell h.j0 e3, h.n1, h.n2, h.n3⟩
theorem JCtx.kept {W W' : World} {bp bk bs bj n₀ : Nat} {r : Rk} {A : Option Addr} {c s : Nat} (h : JCtx W bp bk bs bj r A c s) (hg : KpS n₀ (fun k => k = bp) W W') : JCtx W' bp bk bs bj r A c s :=
  ⟨hg.cell h.k0 h.n1, hg.cell h.k1 h.n1, hg.cell h.k2 h.n1, hg.cell h.k3 h.n1, hg.cell h.k4 h.n1, hg.cell h.s0 h.n2, hg.cell h.j0 h.n3, h.n1, h.n2, h.n3⟩
def JoinC (bp bk bs bj : Nat) (r : Rk) (A : Option Addr) (c s d : Nat) : Prop :=
  ∀ (w : World) (p u : Nat), 10 - many u ≤ d → JCtx w bp bk bs bj r A c s → PcAt w bp u → u < 2 ^ 10 → Sub u s → p < 10 → s.testBit p = true → ¬ u.testBit p = true →
    Calls Try.prog 97 #[.int .i64 (p : Int), .pointer (some ⟨bp, 0, none⟩), .pointer (some ⟨bk, 0, none⟩), .pointer (some ⟨bs, 0, none⟩), .pointer (some ⟨bj, 0, none⟩)] w (fun e w' => (∃ v, e = .returned v) ∧ ∃ u', PcAt w' bp u' ∧ JRes s u p u' ∧ w.grownBy w' (some bp))
theorem enters97 : ∀ args w, (callFunc 97 args).run Try.prog w = .ok (.enter 97 args) w := enters_of Try.func97 (by kernel_rfl) rfl

set_option maxRecDepth 100000 in
set_option maxHeartbeats 8000000 in
theorem join_step {bp bk bs bj : Nat} {r : Rk} {A : Option Addr} {c s d : Nat} (hr : Ok r) (hs10 : s < 2 ^ 10) (hsp : ∀ z, s.testBit z = true → z < pn r.rows) (ih : ∀ d', d' < d → JoinC bp bk bs bj r A c s d') : JoinC bp bk bs bj r A c s d := by
  intro w p u hd hC hP hu hus hp hsp' hup
  have hpn := pn_le hr.rows1 hr.rows4
  obtain ⟨p0, p1⟩ := hP.cell
  have HC := Lib.hid hC
  have HP := Lib.hid hP
  have HIH := Lib.hid ih
  have HUS := Lib.hid hus
  have HSP := Lib.hid hsp
  have HI0 := Lib.hid (JInv.start hu hus hsp' hp)
  have HUP := Lib.hid hup
  have hw := shl_u16 hp
  have HO := Lib.hid (or_u16 hu hp)
  clear ih hC hP hus hsp hup
  refine calls_marks Try.func97 rfl ?_
  simp only [Try.ntmps97, List.size_toArray, List.length_cons, List.length_nil, Nat.reduceAdd, Nat.reduceSub, Array.replicate_succ, Array.replicate_zero, List.push_toArray, List.append_toArray, List.nil_append, List.cons_append]
  go_upto_region 0 with fail
  refine wp_region_still_tail 4 (by kernel_rfl) (by kernel_rfl) ?_
  simp only [List.take_succ_cons, List.take_zero, List.drop_succ_cons, List.drop_zero]
  repeat still_step
  refine wpStill_nil ?_
  have HPx : Hid (PcAt (w.setCell ⟨bp, 0, none⟩ (.int .u16 (bits .or .u16 (u : Int) ((2 : Int) ^ p)))).drew bp (u ||| 2 ^ p)) := by
    show PcAt _ _ _
    rw [HO.out]
    exact HP.out.set (u ||| 2 ^ p)
  have HGx : Hid (w.grownBy (w.setCell ⟨bp, 0, none⟩ (.int .u16 (bits .or .u16 (u : Int) ((2 : Int) ^ p)))).drew (some bp)) := only_drewN (only_setCell (World.grownBy.refl _ _) (.inl rfl) _) 1
  have hCx := HC.out.grown HGx.out
  have HCx := Lib.hid hCx
  obtain ⟨x0, x1, x2, x3, x4, x5, x6, x7, x8, x9⟩ := hCx
  go_wp2_with (go_at_call 98; refine (neighbours_c r A c p _).mono ?_; rintro e w2 ⟨rfl, hb, hz, hN⟩)
  have hsz : (w.setCell ⟨bp, 0, none⟩ (.int .u16 (bits .or .u16 (u : Int) ((2 : Int) ^ p)))).drew.heap.size = w.heap.size := by simp [World.drew, World.setCell]
  have HP2 := Lib.hid (HPx.out.step hb)
  have HC2 := Lib.hid (HCx.out.step hb)
  have HG2 : Hid (w.grownBy w2 (some bp)) := HGx.out.trans (only_below hb _)
  rw [hsz] at hN hz
  clear hb hsz HPx HCx HGx x0 x1 x2 x3 x4 x5 x6 hw
  have hbq : bp < w.heap.size := HP.out.lt
  generalize bits .or .u16 (u : Int) ((2 : Int) ^ p) = bw at *
  generalize (2 : Int) ^ p = pw at *
  obtain ⟨q, hq⟩ : ∃ q, q = w.heap.size := ⟨_, rfl⟩
  rw [← hq] at hN hz hbq
  simp only [← hq]
  clear hq
  refine wpIn_wide.1 (wpIn_rangeFunc_ownH (F := Fence.wide) (n := 5) (α := NbX p) rfl (by omega) (gf := 107) (lb := #[.pointer (some ⟨q + 1, 0, none⟩), .pointer (some ⟨q, 0, none⟩)]) rfl trivial (enters_of Try.func107 (by kernel_rfl) rfl)
    (nb_stops 4 q r A c p w2.heap.size hr hp (KpS w2.heap.size (fun k => k = bp)) (fun h k => h.trans k) (fun _ _ _ hb => KpS.of_below hb) (fun _ _ h => h.1)
      (fun W W' hk hs => hs.kept hk ⟨by omega, by omega⟩) (fun W W' b o v hk hnb _ hc => hk.cell hc (by dsimp only; omega)) w2 (Nat.le_refl _) hN)
    (fun h k => h.trans k) ?keepPut (Below.refl _ _) (fun _ => rfl)
    (fun pre W => ∃ v, PcAt W bp v ∧ JInv s u p pre v ∧ JCtx W bp bk bs bj r A c s ∧ KpS w2.heap.size (fun k => k = bp) w2 W)
    (fun _ _ _ => False) ?ownI (fun _ _ _ _ _ hs _ _ => hs) ⟨_, HP2.out, HI0.out, HC2.out, KpS.refl _ _ _⟩
    (fun x a' W => a' = { tmps := #[.int .i64 (p : Int), .pointer (some ⟨bp, 0, none⟩), .pointer (some ⟨bk, 0, none⟩), .pointer (some ⟨bs, 0, none⟩), .pointer (some ⟨bj, 0, none⟩), undef, .int .i64 (x.1 : Int), .int .u16 (u : Int), .int .i64 (p : Int), .int .u16 pw, .int .u16 bw, .agg #[.int .i64 r.rows, .int .i64 r.mid, .int .i64 r.gap, .int .i64 r.reach, .slice A r.links.length c], .int .i64 (p : Int), .func (.func 107) #[] #[.pointer (some ⟨q + 1, 0, none⟩), .pointer (some ⟨q, 0, none⟩)], .int .i64 (x.1 : Int), undef, undef, undef, undef, undef, undef, undef, undef, undef, undef, undef, undef], defers := [] })
    (fun _ _ _ _ _ _ h _ _ => h) ?assign ?body ?done ?stop)
  case keepPut =>
    intro W l x y hl hx hc _
    exact KpS.of_put hl hx hc _
  case ownI =>
    rintro pre W W' row ⟨v, hv, hj, hc, hk⟩ hg' hrow
    have h9 := KpS.of_own (S := fun k => k = bp) hg' hrow
    refine ⟨v, (hg'.block bp hv.lt (fun e => ?_)).trans hv, hj, hc.kept h9, hk.trans h9⟩
    obtain ⟨_, ob, ho, hno⟩ := hrow _ e.symm
    rw [show W.heap[bp]? = _ from hv] at ho
    cases ho
    cases hno
  case assign =>
    rintro l pre x W K hI hK
    simp only [iEnc]
    gi_wp2
    exact hK _ _ (KeepsFrom.refl _ _) (KpS.refl _ _ _) hI rfl
  case done =>
    rintro D ys W hD rfl ⟨v, hv, hj, hc, hk⟩ hK
    have hres := hj.done (m := pn r.rows) hpn.2 HSP.out
    have HKD := Lib.hid hK
    have HR := Lib.hid hres
    have HV := Lib.hid hv
    have HK := Lib.hid hk
    clear hK hres hv hj hc hk
    go_wp2_with fail
    refine ⟨by simp, .inl ⟨_, _, rfl, run_takeDeferred (w := W) HKD.out, ?_⟩⟩
    refine ⟨.tuple #[], by simp [results, Try.results97, go_sem], ⟨_, rfl⟩, v, ?_, HR.out, ?_⟩
    · exact (World.putObj_heap_other (by omega)).trans HV.out
    · have h1 := HG2.out
      have h2 := HK.out
      refine ⟨h2.2.1.trans h1.os, h2.2.2.1.trans h1.tape, h2.2.2.2.1.trans h1.output, ?_, fun k hk hne => ?_⟩
      · have := h1.size
        have := h2.1
        simp; omega
      · have hkb : ¬ k = bp := fun e => hne (by rw [e])
        have := h1.size
        obtain ⟨o, ho⟩ : ∃ o, w2.heap[k]? = some o := ⟨_, Array.getElem?_eq_getElem (by omega)⟩
        rw [World.putObj_heap_other (by omega), h2.2.2.2.2 k o ho (.inl (by omega)) hkb, ← ho, h1.block k hk hne]
  case body =>
    rintro l pre x a' W hl ⟨rr, hr'⟩ ⟨v, hv, hj, hc, hk⟩ rfl hlt
    obtain ⟨v0, v1⟩ := hv.cell
    have c5 := hc.s0
    have c6 := hc.j0
    have hn10 := x.2.1
    have hv10 := hj.1
    have HV := Lib.hid hv
    have HJ := Lib.hid hj
    have HCc := Lib.hid hc
    have HK := Lib.hid hk
    have HSK : Hid ((s.testBit x.1 = true → v.testBit x.1 = true) → JInv s u p (pre ++ [x]) v) := fun h => hj.skip x h
    have HTK : Hid (s.testBit x.1 = true → ∀ v', JRes s v x.1 v' → JInv s u p (pre ++ [x]) v') := fun h v' h2 => hj.take x h h2
    have hgr := hj.grows hu HUP.out
    have hml := many_le v
    have HVS := Lib.hid hj.2.2.1
    generalize x.1 = n at *
    clear hv hj hc hk
    cases e1 : s.testBit n
    · have HI2 := Lib.hid (HSK.out (fun h => by rw [e1] at h; cases h))
      gi_wp2_with (refine ⟨trivial, ?_⟩; gi_at_call 85; refine (CallsIn.inRound l (callsIn_wide.2 (has_c _ _ _ (by omega) (by omega)))).mono ?_; rintro e w3 ⟨rfl, rfl⟩)
      refine ⟨trivial, ?_⟩
      gi_wp2
      exact ⟨KeepsFrom.refl _ _, KpS.refl _ _ _, v, HV.out, HI2.out, HCc.out, HK.out⟩
    · cases e2 : v.testBit n
      · have HJC := Lib.hid (HIH.out (10 - many v) (by omega) W n v (Nat.le_refl _) HCc.out HV.out hv10 HVS.out hn10 e1 (by rw [e2]; simp))
        have HT2 := Lib.hid (HTK.out e1)
        gi_wp2_with (refine ⟨trivial, ?_⟩; gi_at_call 85; refine (CallsIn.inRound l (callsIn_wide.2 (has_c _ _ _ (by omega) (by omega)))).mono ?_; rintro e w3 ⟨rfl, rfl⟩)
        refine ⟨trivial, (CallsIn.inRound l (callsIn_wide.2 HJC.out)).mono ?_⟩
        rintro e w3 ⟨⟨v9, rfl⟩, v', hv', hj', hg'⟩
        have HV' := Lib.hid hv'
        have HJ' := Lib.hid hj'
        have HG' := Lib.hid hg'
        clear hv' hj' hg'
        gi_wp2
        have hk' : KpS w2.heap.size (fun k => k = bp) W w3 := KpS.of_grown HG'.out (fun q e => by injection e with e; exact e.symm)
        refine ⟨(KeepsOthers.of_grownBy HG'.out fun j o ej hj => ?_).from _, hk', v', HV'.out, HT2.out v' HJ'.out, HCc.out.grown HG'.out, HK.out.trans hk'⟩
        injection ej with ej
        subst ej
        rw [show W.heap[bp]? = _ from HV.out] at hj
        cases hj
        rfl
      · have HI2 := Lib.hid (HSK.out (fun _ => e2))
        gi_wp2_with (refine ⟨trivial, ?_⟩; gi_at_call 85; refine (CallsIn.inRound l (callsIn_wide.2 (has_c _ _ _ (by omega) (by omega)))).mono ?_; rintro e w3 ⟨rfl, rfl⟩)
        exact ⟨KeepsFrom.refl _ _, KpS.refl _ _ _, v, HV.out, HI2.out, HCc.out, HK.out⟩
  case stop => exact fun _ _ _ _ _ _ h _ => h.elim

theorem join_c {bp bk bs bj : Nat} {r : Rk} {A : Option Addr} {c s : Nat} (hr : Ok r) (hs10 : s < 2 ^ 10) (hsp : ∀ z, s.testBit z = true → z < pn r.rows) : ∀ d, JoinC bp bk bs bj r A c s d := by
  intro d
  induction d using Nat.strongRecOn with
  | _ d ih => exact join_step hr hs10 hsp ih
theorem kindS_small {s : Nat} (h : many s < 2) : kindS s = many s := by unfold kindS; rw [if_pos h]
theorem kindS_big {s v : Nat} (hs : s < 2 ^ 10) (h : ¬ many s < 2) (hr : JRes s 0 (firstS s) v) : kindS s = if v = s then 2 else if s.testBit 0 = true then 4 else 3 := by
  unfold kindS
  rw [if_neg h]
  have h1 := hr.whole hs
  by_cases e : v = s
  · rw [if_pos (h1.1 e), if_pos e]
  · rw [if_neg (fun h2 => e (h1.2 h2)), if_neg e]
theorem first_mem {s : Nat} (h : 0 < many s) : (listS s)[0]? = some (firstS s) ∧ firstS s < 10 ∧ s.testBit (firstS s) = true := by
  unfold many at h
  unfold firstS
  cases hl : listS s with
  | nil => rw [hl] at h; simp at h
  | cons x l =>
    have : x ∈ listS s := by rw [hl]; simp
    rw [mem_listS] at this
    exact ⟨by simp, by simpa using this.1, by simpa using this.2⟩

set_option maxRecDepth 100000 in
set_option maxHeartbeats 8000000 in
theorem kind_c (r : Rk) (A : Option Addr) (c s : Nat) (w : World) (hr : Ok r) (hs : s < 2 ^ 10) (hsp : ∀ z, s.testBit z = true → z < pn r.rows) :
    Calls Try.prog 74 #[.agg #[.int .i64 r.rows, .int .i64 r.mid, .int .i64 r.gap, .int .i64 r.reach, .slice A r.links.length c], .int .u16 (s : Int)] w (Ans w (.int .u8 (kindS s : Int))) := by
  have HB := Lib.hid (Below.refl w.heap.size w)
  have hb : Below w.heap.size w (w.alloc (.cells #[.int .i64 r.rows, .int .i64 r.mid, .int .i64 r.gap, .int .i64 r.reach, .slice A r.links.length c] 39)) := (Below.refl _ _).alloc (Nat.le_refl _) _
  replace HB := Lib.hid (HB.out.trans (hb.mono HB.out.size))
  clear hb
  have k0 : (w.alloc (.cells #[.int .i64 r.rows, .int .i64 r.mid, .int .i64 r.gap, .int .i64 r.reach, .slice A r.links.length c] 39)).cell? ⟨w.heap.size, 0, none⟩ = some (.int .i64 r.rows) := by simp
  have k1 : (w.alloc (.cells #[.int .i64 r.rows, .int .i64 r.mid, .int .i64 r.gap, .int .i64 r.reach, .slice A r.links.length c] 39)).cell? ⟨w.heap.size, 1, none⟩ = some (.int .i64 r.mid) := by simp
  have k2 : (w.alloc (.cells #[.int .i64 r.rows, .int .i64 r.mid, .int .i64 r.gap, .int .i64 r.reach, .slice A r.links.length c] 39)).cell? ⟨w.heap.size, 2, none⟩ = some (.int .i64 r.gap) := by simp
  have k3 : (w.alloc (.cells #[.int .i64 r.rows, .int .i64 r.mid, .int .i64 r.gap, .int .i64 r.reach, .slice A r.links.length c] 39)).cell? ⟨w.heap.size, 3, none⟩ = some (.int .i64 r.reach) := by simp
  have k4 : (w.alloc (.cells #[.int .i64 r.rows, .int .i64 r.mid, .int .i64 r.gap, .int .i64 r.reach, .slice A r.links.length c] 39)).cell? ⟨w.heap.size, 4, none⟩ = some (.slice A r.links.length c) := by simp
  have hb : Below (w.alloc (.cells #[.int .i64 r.rows, .int .i64 r.mid, .int .i64 r.gap, .int .i64 r.reach, .slice A r.links.length c] 39)).heap.size (w.alloc (.cells #[.int .i64 r.rows, .int .i64 r.mid, .int .i64 r.gap, .int .i64 r.reach, .slice A r.links.length c] 39)) ((w.alloc (.cells #[.int .i64 r.rows, .int .i64 r.mid, .int .i64 r.gap, .int .i64 r.reach, .slice A r.links.length c] 39)).alloc (.cells #[.int .u16 (s : Int)] 100)) := (Below.refl _ _).alloc (Nat.le_refl _) _
  replace k0 := cell_of_ans hb k0
  replace k1 := cell_of_ans hb k1
  replace k2 := cell_of_ans hb k2
  replace k3 := cell_of_ans hb k3
  replace k4 := cell_of_ans hb k4
  replace HB := Lib.hid (HB.out.trans (hb.mono HB.out.size))
  clear hb
  have s0 : ((w.alloc (.cells #[.int .i64 r.rows, .int .i64 r.mid, .int .i64 r.gap, .int .i64 r.reach, .slice A r.links.length c] 39)).alloc (.cells #[.int .u16 (s : Int)] 100)).cell? ⟨w.heap.size + 1, 0, none⟩ = some (.int .u16 (s : Int)) := by simp
  have hml := many_le s
  have hln : (natsI (listS s)).length = many s := by rw [natsI_len]; rfl
  go_enter Try.func74, Try.ntmps74
  go_wp2_with fail
  generalize ((w.alloc (.cells #[.int .i64 r.rows, .int .i64 r.mid, .int .i64 r.gap, .int .i64 r.reach, .slice A r.links.length c] 39)).alloc (.cells #[.int .u16 (s : Int)] 100)) = x2 at *
  refine (list_s s _ (by omega)).mono ?_
  rintro e x1 ⟨Al, cl, rfl, hO, hb⟩
  replace k0 := cell_of_ans hb k0
  replace k1 := cell_of_ans hb k1
  replace k2 := cell_of_ans hb k2
  replace k3 := cell_of_ans hb k3
  replace k4 := cell_of_ans hb k4
  replace s0 := cell_of_ans hb s0
  replace HB := Lib.hid (HB.out.trans (hb.mono HB.out.size))
  clear hb
  obtain ⟨hcl, hcl2, hI⟩ := isInts_parts (ownsRow_isInts hO)
  rw [hln] at hcl ⊢
  have HI := Lib.hid hI
  clear hO hI
  by_cases h2 : many s < 2
  · have h2i : (many s : Int) < 2 := by omega
    have HR : Hid (kindS s = many s) := kindS_small h2
    have hw : IntKind.u8.wrap (many s : Int) = (many s : Int) := by rw [IntKind.wrap_u8']; omega
    generalize many s = m at *
    clear h2
    go_wp2_with fail
    go_ret
    exact ⟨ret_int (by rw [HR.out]), HB.out⟩
  · have h2i : ¬ (many s : Int) < 2 := by omega
    have HKB : Hid (∀ v, JRes s 0 (firstS s) v → kindS s = if v = s then 2 else if s.testBit 0 = true then 4 else 3) := fun v h => kindS_big hs h2 h
    obtain ⟨hf0, hf1, hf2⟩ := first_mem (s := s) (by omega)
    generalize hff : firstS s = f at *
    obtain ⟨b1, o1, hA1, hlt1, hc1⟩ := HI.out.at_ (k := 0) (by rw [hln]; omega)
    rw [show ix (natsI (listS s)) 0 = (f : Int) by rw [ix_lt (by rw [hln]; omega)]; simp [natsI]; obtain ⟨hh, hh2⟩ := List.getElem?_eq_some_iff.1 hf0; rw [hh2]] at hc1
    rw [Nat.add_zero] at hc1
    subst hA1
    have hms : 0 < many s := by omega
    have hmsi : (0 : Int) < (many s : Int) := by omega
    clear HI
    have ltk0 := World.block_lt_of_cell? _ _ k0
    dsimp only at ltk0
    have lts0 := World.block_lt_of_cell? _ _ s0
    dsimp only at lts0
    have lthc1 := World.block_lt_of_cell? _ _ hc1
    dsimp only at lthc1
    go_wp2_with fail
    have hb1 : Below x1.heap.size x1 ((x1.alloc (.cells #[.int .u16 0] 100)).alloc (.cells #[.func (.func 97) #[] #[.pointer (some ⟨x1.heap.size, 0, none⟩), .pointer (some ⟨w.heap.size, 0, none⟩), .pointer (some ⟨w.heap.size + 1, 0, none⟩), .pointer (some ⟨x1.heap.size + 1, 0, none⟩)]] 147)) := ((Below.refl _ _).alloc (Nat.le_refl _) _).alloc (by simp) _
    have hP0 : PcAt ((x1.alloc (.cells #[.int .u16 0] 100)).alloc (.cells #[.func (.func 97) #[] #[.pointer (some ⟨x1.heap.size, 0, none⟩), .pointer (some ⟨w.heap.size, 0, none⟩), .pointer (some ⟨w.heap.size + 1, 0, none⟩), .pointer (some ⟨x1.heap.size + 1, 0, none⟩)]] 147)) x1.heap.size 0 := ((show PcAt (x1.alloc (.cells #[.int .u16 0] 100)) x1.heap.size 0 from World.alloc_heap_new _ _).step ((Below.refl _ _).alloc (Nat.le_refl _) _))
    have hC0 : JCtx ((x1.alloc (.cells #[.int .u16 0] 100)).alloc (.cells #[.func (.func 97) #[] #[.pointer (some ⟨x1.heap.size, 0, none⟩), .pointer (some ⟨w.heap.size, 0, none⟩), .pointer (some ⟨w.heap.size + 1, 0, none⟩), .pointer (some ⟨x1.heap.size + 1, 0, none⟩)]] 147)) x1.heap.size w.heap.size (w.heap.size + 1) (x1.heap.size + 1) r A c s := ⟨cell_of_ans hb1 k0, cell_of_ans hb1 k1, cell_of_ans hb1 k2, cell_of_ans hb1 k3, cell_of_ans hb1 k4, cell_of_ans hb1 s0, by go_simp, by omega, by omega, by omega⟩
    replace hc1 := cell_of_ans hb1 hc1
    replace s0 := cell_of_ans hb1 s0
    have j0 := hC0.j0
    have HB3 : Hid (Below w.heap.size w ((x1.alloc (.cells #[.int .u16 0] 100)).alloc (.cells #[.func (.func 97) #[] #[.pointer (some ⟨x1.heap.size, 0, none⟩), .pointer (some ⟨w.heap.size, 0, none⟩), .pointer (some ⟨w.heap.size + 1, 0, none⟩), .pointer (some ⟨x1.heap.size + 1, 0, none⟩)]] 147))) := HB.out.trans (hb1.mono HB.out.size)
    clear hb1 k0 k1 k2 k3 k4
    generalize ((x1.alloc (.cells #[.int .u16 0] 100)).alloc (.cells #[.func (.func 97) #[] #[.pointer (some ⟨x1.heap.size, 0, none⟩), .pointer (some ⟨w.heap.size, 0, none⟩), .pointer (some ⟨w.heap.size + 1, 0, none⟩), .pointer (some ⟨x1.heap.size + 1, 0, none⟩)]] 147)) = x3 at *
    have hbp : w.heap.size ≤ x1.heap.size := HB.out.size
    have hbb : b1 < x1.heap.size := lthc1
    have hs1 : w.heap.size + 1 < x1.heap.size := lts0
    generalize x1.heap.size = bp at *
    have hd : Below x3.heap.size x3 x3.drew := (Below.refl _ _).drew
    have HJC := Lib.hid (join_c hr hs hsp 10 x3.drew f 0 (by omega) (hC0.step hd) (hP0.step hd) (by decide) (fun p h => by simp at h) hf1 hf2 (by simp))
    have HBD : Hid (Below w.heap.size w x3.drew) := HB3.out.trans (hd.mono HB3.out.size)
    clear hd hC0 hP0
    go_region_held3 (fun w' => w'.cell? ⟨bp + 1, 0, none⟩ = some (.func (.func 97) #[] #[.pointer (some ⟨bp, 0, none⟩), .pointer (some ⟨w.heap.size, 0, none⟩), .pointer (some ⟨w.heap.size + 1, 0, none⟩), .pointer (some ⟨bp + 1, 0, none⟩)]) ∧ w'.cell? ⟨b1, o1, none⟩ = some (.int .i64 (f : Int)) ∧ w'.cell? ⟨w.heap.size + 1, 0, none⟩ = some (.int .u16 (s : Int))) (go_keep) (first | (go_at_call 97; refine HJC.out.mono ?_; rintro e x9 ⟨⟨v9, rfl⟩, v, hv, hj, hg⟩; replace j0 := hg.cell j0 (by simp); replace hc1 := hg.cell hc1 (by simp; omega); replace s0 := hg.cell s0 (by simp; omega); have HV := Lib.hid hv; have HJ := Lib.hid hj; have HG := Lib.hid hg; clear hv hj hg))
    have HBE : Hid (Below w.heap.size w x9) := HBD.out.grown HG.out HBD.out.size (fun k e => by injection e with e; omega)
    obtain ⟨v0, -⟩ := HV.out.cell
    have HKV := Lib.hid (HKB.out v HJ.out)
    have hv10 := HJ.out.1
    by_cases e1 : v = s
    · have e1b : ((v : Int) == (s : Int)) = true := by simp [e1]
      have HR : Hid (kindS s = 2) := by show _ = _; rw [HKV.out, if_pos e1]
      clear e1
      go_wp2_with fail
      go_ret
      exact ⟨ret_int (by rw [HR.out]; rfl), HBE.out⟩
    · have e1b : ((v : Int) == (s : Int)) = false := by simp; omega
      rw [if_neg e1] at HKV
      have HH := Lib.hid (has_c s 0 x9 (by omega) (by decide))
      clear e1
      cases e2 : s.testBit 0
      · rw [e2] at HH HKV
        clear e2
        go_wp2_with fail
        refine HH.out.mono ?_
        rintro e w9 ⟨rfl, rfl⟩
        go_wp2_with fail
        go_ret
        exact ⟨ret_int (by rw [HKV.out]; rfl), HBE.out⟩
      · rw [e2] at HH HKV
        clear e2
        go_wp2_with fail
        refine HH.out.mono ?_
        rintro e w9 ⟨rfl, rfl⟩
        go_wp2_with fail
        go_ret
        exact ⟨ret_int (by rw [HKV.out]; rfl), HBE.out⟩
end Go.Proofs.Ytpekajnjjhibjaa
