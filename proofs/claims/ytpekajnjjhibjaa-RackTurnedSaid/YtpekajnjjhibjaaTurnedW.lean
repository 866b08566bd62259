/-
  The walk of RackTurned.
-/
import Derived.Test.YtpekajnjjhibjaaTurn1
import Derived.Test.YtpekajnjjhibjaaE6
import Derived.Test.YtpekajnjjhibjaaAwk
namespace Go.Proofs.Ytpekajnjjhibjaa
open Go.RowKit
set_option linter.unusedSimpArgs false
set_option linter.unusedVariables false

attribute [local go_sem] Oper.semAt_some
theorem Wds.below {B : Nat} {w w' : World} {A : Option Addr} {ws : List Int} (h : Wds B w A ws) (hb : Below B w w') : Wds B w' A ws := fun hp => by
  obtain ⟨b, off, hA, h0, hc⟩ := h hp
  exact ⟨b, off, hA, h0, fun k hk => ⟨(hb.cell (p := ⟨b, off + k, none⟩) h0).trans (hc k hk).1, (hc k hk).2⟩⟩
theorem Wds.more {B B' : Nat} {w : World} {A : Option Addr} {ws : List Int} (h : Wds B w A ws) (hB : B ≤ B') : Wds B' w A ws := fun hp => by
  obtain ⟨b, off, hA, h0, hc⟩ := h hp
  exact ⟨b, off, hA, by omega, hc⟩
/-- A copy of the turned rack, in the numbers of the rack. -/
def RackQ (W : World) (x r : Rk) (e : Ending) (w' : World) : Prop := ∃ A c, e = .returned (.agg #[.int .i64 r.rows, .int .i64 r.mid, .int .i64 r.gap, .int .i64 r.reach, .slice A r.links.length c]) ∧ (Lks w'.heap.size w' A x.links ∧ r.links.length ≤ c ∧ c ≤ 9223372036854775807) ∧ Below W.heap.size W w'
theorem RackP.toQ {W w' : World} {x r : Rk} {e : Ending} (h : RackP W x e w') (hx : x.rows = r.rows ∧ x.mid = r.mid ∧ x.gap = r.gap ∧ x.reach = r.reach ∧ x.links.length = r.links.length) : RackQ W x r e w' := by
  obtain ⟨A, c, h3, h4, h5⟩ := h
  obtain ⟨a1, a2, a3, a4, a5⟩ := hx
  exact ⟨A, c, by rw [h3, a1, a2, a3, a4, a5], by rw [← a5]; exact h4, h5⟩
/-- All below B, and one block more, as it was. -/
structure Far (B lq : Nat) (w w' : World) : Prop where
  b : Below B w w'
  e : w'.heap[lq]? = w.heap[lq]?
theorem Far.at {B lq : Nat} {w w' : World} {i : Nat} {v : Value} (h : Far B lq w w') (hc : w.cell? ⟨lq, i, none⟩ = some v) : w'.cell? ⟨lq, i, none⟩ = some v := by
  simp only [World.cell?] at hc ⊢
  rw [h.e]
  exact hc
theorem Far.low {B lq : Nat} {w w' : World} {p i : Nat} {v : Value} (h : Far B lq w w') (hp : p < B) (hc : w.cell? ⟨p, i, none⟩ = some v) : w'.cell? ⟨p, i, none⟩ = some v := (h.b.cell (p := ⟨p, i, none⟩) hp).trans hc
theorem Far.alloc {B lq : Nat} {w w' : World} (h : Far B lq w w') (hB : B ≤ w.heap.size) (hl : lq < w.heap.size) (hs : w.heap.size ≤ w'.heap.size) (o : Obj) : Far B lq w (w'.alloc o) :=
  ⟨h.b.alloc (Nat.le_trans hB hs) o, (Below.heap_alloc w' o lq (by omega)).trans h.e⟩
section
variable {t e : TypeId} {ops : Array Oper} {o : Oper} {a : Act} {K : Act → World → Prop} {Q : Exit → Act → World → Prop} {E : Prop}
theorem step_appK2 (hT : KTy t e) (s y : Operand) (hgd : o.guard = none) (ho : o.op = .call { callee := .builtin .append, args := #[s, y], argTypes := #[t, t] }) (base lq : Nat) (w : World) (u : Value) (ls : List Lk) (x : Lk)
    (hv : a.eval s = u) (hx : a.eval y = .slice (some ⟨w.heap.size, 0, none⟩) 1 1) (hown : Hid (OwnK e base w u ls)) (hl : ls.length ≤ 1000000) (hb : base ≤ w.heap.size) (hlq : u.ownBlock ≠ some lq) (hls : lq < w.heap.size)
    (hK : ∀ A c w', Hid (OwnK e base w' (.slice A (ls.length + 1) c) (ls ++ [x])) → Hid (Far base lq w w') → K (a.put o.dst (.slice A (ls.length + 1) c)) w') :
    if Region.wanted o (yielded ops a.tmps) = true then Oper.wp Try.prog o a (w.alloc (.cells #[.int .i64 x.f, .int .i64 x.t, .bool x.s] e)) K Q else E := by
  rw [if_pos (by simp [Region.wanted, hgd])]
  obtain ⟨hu, i, hi, hz, hz1, hz2⟩ := tyK hT
  have hO : w.ownsRow base e 3 u ls.length (flatK ls) := hown.out
  obtain ⟨u', w', hr, h1, h2, h3⟩ := run_append_src (P := Try.prog) (w := w.alloc (.cells #[.int .i64 x.f, .int .i64 x.t, .bool x.s] e)) base t o.type e i _ 3 24 hu hi hz hz1 hz2 rfl (by decide) u ls.length (flatK ls) (hO.alloc _) (some ⟨w.heap.size, 0, none⟩) 1 1 (flatK [x]) (srcK w x e) (one_flatK [x]) (by unfold maxLen; omega) (by omega) (by simp; omega)
  obtain ⟨A, c, rfl⟩ := ownsRow_form h1
  unfold Oper.wp execOp
  simp only [ho, resolve, invoke, builtin, Sem.run_bind, Sem.run_pure, Result.andThen_ok, List.map_toArray, List.map_cons, List.map_nil, hv, hx, hr]
  refine hK A c w' ?_ ⟨((Below.refl base w).alloc hb _).grown h2 (by simp; omega) (fun k e => (hO.lt k e).1), (h2.block lq (by simp; omega) hlq.symm).trans (Below.heap_alloc w _ lq (by omega))⟩
  show OwnK _ _ _ _ _
  unfold OwnK
  rw [flatK_append, List.length_append]
  exact h1
end

set_option maxRecDepth 100000 in
set_option maxHeartbeats 32000000 in
theorem turned11_c (r : Rk) (A xA Ab Aw : Option Addr) (c cx cb cw : Nat) (xs ws : List Int) (ball : List Rg) (w : World) (hl : Lks w.heap.size w A r.links) (hc : r.links.length ≤ c ∧ c ≤ 9223372036854775807) (hx : Ints w.heap.size w xA xs) (hcx : xs.length ≤ cx ∧ cx ≤ 9223372036854775807) (hball : Rgs w.heap.size w Ab ball) (hcb : ball.length ≤ cb ∧ cb ≤ 9223372036854775807) (hws : Wds w.heap.size w Aw ws) (hcw : ws.length ≤ cw ∧ cw ≤ 9223372036854775807) :
    Calls Try.prog 11 #[.agg #[.int .i64 r.rows, .int .i64 r.mid, .int .i64 r.gap, .int .i64 r.reach, .slice A r.links.length c], .slice xA xs.length cx, .slice Ab ball.length cb, .slice Aw ws.length cw] w (Ans w (.bool true)) := by
  have HB := Lib.hid (Below.refl w.heap.size w)
  have HL := Lib.hid hl
  have HX := Lib.hid hx
  have HBa := Lib.hid hball
  have HWs := Lib.hid hws
  clear hl hx hball hws
  have hb : Below w.heap.size w (w.alloc (.cells #[.int .i64 r.rows, .int .i64 r.mid, .int .i64 r.gap, .int .i64 r.reach, .slice A r.links.length c] 24)) := (Below.refl _ _).alloc (Nat.le_refl _) _
  replace HL := Lib.hid (HL.out.step hb)
  replace HX := Lib.hid (HX.out.step hb)
  replace HBa := Lib.hid (HBa.out.step hb)
  replace HWs := Lib.hid (HWs.out.step hb)
  replace HB := Lib.hid (HB.out.trans (hb.mono HB.out.size))
  clear hb
  have k0 : (w.alloc (.cells #[.int .i64 r.rows, .int .i64 r.mid, .int .i64 r.gap, .int .i64 r.reach, .slice A r.links.length c] 24)).cell? ⟨w.heap.size, 0, none⟩ = some (.int .i64 r.rows) := by simp
  have k1 : (w.alloc (.cells #[.int .i64 r.rows, .int .i64 r.mid, .int .i64 r.gap, .int .i64 r.reach, .slice A r.links.length c] 24)).cell? ⟨w.heap.size, 1, none⟩ = some (.int .i64 r.mid) := by simp
  have k2 : (w.alloc (.cells #[.int .i64 r.rows, .int .i64 r.mid, .int .i64 r.gap, .int .i64 r.reach, .slice A r.links.length c] 24)).cell? ⟨w.heap.size, 2, none⟩ = some (.int .i64 r.gap) := by simp
  have k3 : (w.alloc (.cells #[.int .i64 r.rows, .int .i64 r.mid, .int .i64 r.gap, .int .i64 r.reach, .slice A r.links.length c] 24)).cell? ⟨w.heap.size, 3, none⟩ = some (.int .i64 r.reach) := by simp
  have k4 : (w.alloc (.cells #[.int .i64 r.rows, .int .i64 r.mid, .int .i64 r.gap, .int .i64 r.reach, .slice A r.links.length c] 24)).cell? ⟨w.heap.size, 4, none⟩ = some (.slice A r.links.length c) := by simp
  cases hrd : readyB r xs ball
  · go_enter Try.func11, Try.ntmps11
    go_wp2_with fail
    generalize (w.alloc (.cells #[.int .i64 r.rows, .int .i64 r.mid, .int .i64 r.gap, .int .i64 r.reach, .slice A r.links.length c] 24)) = x1 at *
    refine (ready15_c r A xA Ab c cx cb xs ball _ HL.out hc HX.out hcx HBa.out hcb).mono ?_
    rw [hrd]
    rintro e w2 ⟨rfl, hb⟩
    replace HL := Lib.hid (HL.out.step hb)
    replace HX := Lib.hid (HX.out.step hb)
    replace HBa := Lib.hid (HBa.out.step hb)
    replace HWs := Lib.hid (HWs.out.step hb)
    replace k0 := cell_of_ans hb k0
    replace k1 := cell_of_ans hb k1
    replace k2 := cell_of_ans hb k2
    replace k3 := cell_of_ans hb k3
    replace k4 := cell_of_ans hb k4
    replace HB := Lib.hid (HB.out.trans (hb.mono HB.out.size))
    clear hb
    clear hrd
    go_wp2_with fail
    refine (awake16_c _).mono ?_
    rintro e wz ⟨rfl, hb⟩
    replace HL := Lib.hid (HL.out.step hb)
    replace HX := Lib.hid (HX.out.step hb)
    replace HBa := Lib.hid (HBa.out.step hb)
    replace HWs := Lib.hid (HWs.out.step hb)
    replace k0 := cell_of_ans hb k0
    replace k1 := cell_of_ans hb k1
    replace k2 := cell_of_ans hb k2
    replace k3 := cell_of_ans hb k3
    replace k4 := cell_of_ans hb k4
    replace HB := Lib.hid (HB.out.trans (hb.mono HB.out.size))
    clear hb
    go_wp2_with fail
    go_ret
    exact ⟨rfl, HB.out⟩
  have hrd2 := hrd
  rw [readyB, Bool.and_eq_true, decide_eq_true_eq] at hrd2
  obtain ⟨hth, he⟩ := hrd2
  rw [thinB, Bool.and_eq_true, Bool.and_eq_true, decide_eq_true_eq, decide_eq_true_eq, decide_eq_true_eq] at hth
  obtain ⟨hl16, hx15, hb8⟩ := hth
  have hlen : r.links.length ≤ 1000000 := by omega
  have hxl : xs.length ≤ 1000000 := by omega
  have hbl : ball.length ≤ 1000000 := by omega
  obtain ⟨hpe, hr, hbr0, -, hrg⟩ := thr_parts he
  have hmid0 := hr.mid0
  have hmid60 := hr.mid60
  have hpn := pn_le hr.rows1 hr.rows4
  have hpm := (turn_pins hpe).1
  have hkv := turn_kind hpe
  have hml : (mirR r).links.length ≤ 1000000 := by rw [mirR_len]; exact hlen
  have htl : (turnL r xs).length ≤ 1000000 := by have := turnT_len xs (pn r.rows); unfold turnL; omega
  have hgl : (mirG r ball).length ≤ 1000000 := by rw [mirG_len]; exact hbl
  have HLK : Hid (∀ k, k < r.links.length → ∃ f t : Nat, (lx r.links k).f = (f : Int) ∧ (lx r.links k).t = (t : Int) ∧ f < 10 ∧ t < 10 ∧ lx (mirR r).links k = ⟨(mir f : Int), (mir t : Int), (lx r.links k).s⟩) := fun k hk => by
    have h3 := link_parts (hr.link k hk)
    exact ⟨_, _, by omega, by omega, by omega, by omega, lx_mir hk⟩
  have HRG := Lib.hid hrg
  have HGX : Hid (∀ k, k < ball.length → gx (mirG r ball) k = ⟨2 * r.mid - (gx ball k).hi, 2 * r.mid - (gx ball k).lo⟩) := fun k hk => gx_mir hk
  have HTR := Lib.hid (fun (xA4 : Option Addr) (l : List Int) (cx4 : Nat) (W : World) h1 h2 => turned48_c r A xA4 c cx4 l W hr h1 h2)
  have HKI := Lib.hid (fun (A4 xA4 : Option Addr) (c4 cx4 : Nat) (W : World) h1 h2 h3 h4 => Kind_c r A4 xA4 c4 cx4 xs W h1 h2 h3 h4)
  have HKM := Lib.hid (fun (A4 xA4 : Option Addr) (c4 cx4 : Nat) (W : World) h1 h2 h3 h4 => Kind_c (mirR r) A4 xA4 c4 cx4 (turnL r xs) W h1 h2 h3 h4)
  have HRM := Lib.hid (fun (A4 : Option Addr) (c4 : Nat) (W : World) h1 h2 => rack18_c (mirR r) A4 c4 W h1 h2 hml)
  have HRY := Lib.hid (fun (A4 xA4 Ab4 : Option Addr) (c4 cx4 cb4 : Nat) (W : World) h1 h2 h3 h4 h5 h6 => ready15_c (mirR r) A4 xA4 Ab4 c4 cx4 cb4 (turnL r xs) (mirG r ball) W h1 h2 h3 h4 h5 h6)
  rw [hpe] at HKI
  rw [hpm, hkv] at HKM
  have HTLW : Hid (readyB (mirR r) (turnL r xs) (mirG r ball) = true → hitErr r xs ball (pickB ball ws) (pickC r.links ws) = 0 ∧ hitErr (mirR r) (turnL r xs) (mirG r ball) (mirB r (pickB ball ws)) (pickC r.links ws) = 0 ∧
      turnL r (hitL r xs ball (pickB ball ws) (pickC r.links ws)) = hitL (mirR r) (turnL r xs) (mirG r ball) (mirB r (pickB ball ws)) (pickC r.links ws) ∧
      turnL r (sureL r xs ball) = sureL (mirR r) (turnL r xs) (mirG r ball) ∧ turnL r (mayL r xs ball) = mayL (mirR r) (turnL r xs) (mirG r ball) ∧ thrErr (mirR r) (turnL r xs) (mirG r ball) = 0) := fun h => by
    rw [readyB, Bool.and_eq_true, decide_eq_true_eq] at h
    obtain ⟨a, b, c, d⟩ := turn_law (ws := ws) he h.2
    exact ⟨hit_ok he, a, b, c, d, h.2⟩
  have HPK := Lib.hid (fun W h1 h2 h3 => picked49_c r A Ab Aw c cb cw ball ws W h1 hc h2 hcb h3 hcw (fun k hk => ⟨(hrg k hk).1, (hrg k hk).2.1, (hrg k hk).2.2.1⟩) hl16 hb8)
  have HPB : Hid (∀ k, k < (pickB ball ws).length → 0 ≤ ix (pickB ball ws) k ∧ ix (pickB ball ws) k ≤ 60) := fun k hk => by
    rw [pickB_len] at hk
    have h1 := pick_within (ws := ws) (fun k hk => (hrg k hk).2.1) k hk
    have h2 := hrg k hk
    omega
  have hyl : (pickB ball ws).length ≤ 1000000 := by rw [pickB_len]; exact hbl
  have hsl : (pickC r.links ws).length ≤ 1000000 := by rw [pickC_len]; exact hlen
  have HFal := Lib.hid (fun (A4 xA4 Ab4 : Option Addr) (c4 cx4 cb4 : Nat) (W : World) h1 h2 h3 h4 h5 h6 => falls17_c r A4 xA4 Ab4 c4 cx4 cb4 xs ball W h1 h2 h3 h4 h5 h6)
  rw [he] at HFal
  have HHit := Lib.hid (fun (A4 xA4 Ab4 yA sA : Option Addr) (c4 cx4 cb4 cy cs : Nat) (W : World) h1 h2 h3 h4 h5 h6 h7 h8 h9 h10 => hit_c r A4 xA4 Ab4 yA sA c4 cx4 cb4 cy cs xs (pickB ball ws) ball (pickC r.links ws) W h1 h2 h3 h4 h5 h6 h7 h8 h9 h10)
  clear he hpe hkv hrg hr hbr0 hpm
  go_enter Try.func11, Try.ntmps11
  go_wp2_with fail
  generalize (w.alloc (.cells #[.int .i64 r.rows, .int .i64 r.mid, .int .i64 r.gap, .int .i64 r.reach, .slice A r.links.length c] 24)) = x1 at *
  refine (ready15_c r A xA Ab c cx cb xs ball _ HL.out hc HX.out hcx HBa.out hcb).mono ?_
  rw [hrd]
  rintro e w2 ⟨rfl, hb⟩
  replace HL := Lib.hid (HL.out.step hb)
  replace HX := Lib.hid (HX.out.step hb)
  replace HBa := Lib.hid (HBa.out.step hb)
  replace HWs := Lib.hid (HWs.out.step hb)
  replace k0 := cell_of_ans hb k0
  replace k1 := cell_of_ans hb k1
  replace k2 := cell_of_ans hb k2
  replace k3 := cell_of_ans hb k3
  replace k4 := cell_of_ans hb k4
  replace HB := Lib.hid (HB.out.trans (hb.mono HB.out.size))
  clear hb
  clear hrd
  have ltk0 := World.block_lt_of_cell? _ _ k0
  dsimp only at ltk0
  go_upto_region 5 with fail
  have hb : Below w2.heap.size w2 (w2.alloc (.cells #[.int .i64 r.rows, .int .i64 r.mid, .int .i64 r.gap, .int .i64 r.reach, .slice none 0 0] 24)) := (Below.refl _ _).alloc (Nat.le_refl _) _
  obtain ⟨q, hq⟩ : ∃ q, q = w2.heap.size := ⟨_, rfl⟩
  replace HL := Lib.hid (HL.out.below hb)
  replace HX := Lib.hid (HX.out.below hb)
  replace HBa := Lib.hid (HBa.out.below hb)
  replace HWs := Lib.hid (HWs.out.below hb)
  replace k0 := cell_of_ans hb k0
  replace k1 := cell_of_ans hb k1
  replace k2 := cell_of_ans hb k2
  replace k3 := cell_of_ans hb k3
  replace k4 := cell_of_ans hb k4
  have HM : Hid (At5 (w2.alloc (.cells #[.int .i64 r.rows, .int .i64 r.mid, .int .i64 r.gap, .int .i64 r.reach, .slice none 0 0] 24)) w2.heap.size 24 (.int .i64 r.rows) (.int .i64 r.mid) (.int .i64 r.gap) (.int .i64 r.reach) (.slice none 0 0)) := World.alloc_heap_new _ _
  have HB3 : Hid (Below w.heap.size w (w2.alloc (.cells #[.int .i64 r.rows, .int .i64 r.mid, .int .i64 r.gap, .int .i64 r.reach, .slice none 0 0] 24))) := HB.out.trans (hb.mono HB.out.size)
  generalize (w2.alloc (.cells #[.int .i64 r.rows, .int .i64 r.mid, .int .i64 r.gap, .int .i64 r.reach, .slice none 0 0] 24)) = x3 at *
  rw [← hq] at HL HX HBa HWs HM ltk0
  simp only [← hq]
  clear hb hq HB
  go_wp2_with fail
  go_loopw [10, 11] (fun i lv wr => ∃ (k : Nat) (A' : Option Addr) (c' : Nat), k ≤ r.links.length ∧ i = .int .i64 k ∧ At5 wr q 24 (.int .i64 r.rows) (.int .i64 r.mid) (.int .i64 r.gap) (.int .i64 r.reach) (.slice A' k c') ∧ OwnK 28 (q + 1) wr (.slice A' k c') ((mirR r).links.take k) ∧ Below q x3 wr) (fun i _ _ => r.links.length - (intOf i).toNat)
  case atStart => exact ⟨0, none, 0, by omega, rfl, HM.out, by simp; exact OwnK.nil _ _ _, Below.refl _ _⟩
  case round =>
    clear HM
    obtain ⟨k, A', c', hk, rfl, hM, hO, hb⟩ := hrel
    have HM := Lib.hid hM
    have HO := Lib.hid hO
    have HBR := Lib.hid hb
    have hwr : q + 1 ≤ wr.heap.size := by have := hM.lt; omega
    obtain ⟨⟨m0, m1, m2, m3, m4⟩, -⟩ := hM.cells
    replace k0 := (hb.cell (p := ⟨w.heap.size, 0, none⟩) ltk0).trans k0
    replace k1 := (hb.cell (p := ⟨w.heap.size, 1, none⟩) ltk0).trans k1
    replace k2 := (hb.cell (p := ⟨w.heap.size, 2, none⟩) ltk0).trans k2
    replace k3 := (hb.cell (p := ⟨w.heap.size, 3, none⟩) ltk0).trans k3
    replace k4 := (hb.cell (p := ⟨w.heap.size, 4, none⟩) ltk0).trans k4
    clear hM hO
    by_cases h1 : k < r.links.length
    · obtain ⟨b, off, rfl, hb0, c1, c2, c3⟩ := (HL.out.below hb).at_ h1
      obtain ⟨fN, tN, e1, e2, hf10, ht10, e3⟩ := HLK.out k h1
      have hkm : k < (mirR r).links.length := by rw [mirR_len]; exact h1
      have HT : Hid ((mirR r).links.take (k + 1) = (mirR r).links.take k ++ [lx (mirR r).links k]) := by show _ = _; rw [List.take_succ_eq_append_getElem hkm, lx_lt hkm]
      have HTLn : Hid (((mirR r).links.take k).length = k) := by show _ = _; simp; omega
      rw [e3] at HT
      rw [e1] at c1
      rw [e2] at c2
      have h1i : (k : Int) < (r.links.length : Int) := by omega
      have HM1 := Lib.hid (fun W => mirrored47_c fN W hf10)
      have HM2 := Lib.hid (fun W => mirrored47_c tN W ht10)
      clear hb e1 e2 e3 hkm
      generalize (mirR r).links.take k = tk at *
      generalize (lx r.links k).s = ls at *
      go_upto_region 9 with fail
      obtain ⟨lq, hlq⟩ : ∃ lq, lq = wr.heap.size := ⟨_, rfl⟩
      have j0 : (wr.alloc (.cells #[.int .i64 (fN : Int), .int .i64 (tN : Int), .bool ls] 28)).cell? ⟨wr.heap.size, 0, none⟩ = some (.int .i64 (fN : Int)) := by simp
      have j1 : (wr.alloc (.cells #[.int .i64 (fN : Int), .int .i64 (tN : Int), .bool ls] 28)).cell? ⟨wr.heap.size, 1, none⟩ = some (.int .i64 (tN : Int)) := by simp
      have j2 : (wr.alloc (.cells #[.int .i64 (fN : Int), .int .i64 (tN : Int), .bool ls] 28)).cell? ⟨wr.heap.size, 2, none⟩ = some (.bool ls) := by simp
      have hba : Below wr.heap.size wr (wr.alloc (.cells #[.int .i64 (fN : Int), .int .i64 (tN : Int), .bool ls] 28)) := (Below.refl _ _).alloc (Nat.le_refl _) _
      have hown : (Value.slice A' k c').ownBlock ≠ some wr.heap.size := fun e => by have := (World.ownsRow.lt HO.out _ e).2; omega
      replace HO : Hid (OwnK 28 (q + 1) (wr.alloc (.cells #[.int .i64 (fN : Int), .int .i64 (tN : Int), .bool ls] 28)).drew (.slice A' k c') tk) := (HO.out.kept hba).kept (Below.refl _ _).drew
      replace HM := Lib.hid (HM.out.step hba)
      have HBR2 := Lib.hid (HBR.out.trans (hba.mono (by omega)))
      replace m4 := cell_of_ans hba m4
      clear m0 m1 m2 m3 c1 c2 c3
      have hsz : (wr.alloc (.cells #[.int .i64 (fN : Int), .int .i64 (tN : Int), .bool ls] 28)).heap.size = wr.heap.size + 1 := by simp
      generalize hgx : (wr.alloc (.cells #[.int .i64 (fN : Int), .int .i64 (tN : Int), .bool ls] 28)) = wl at *
      clear hgx hba
      rw [← hlq] at j0 j1 j2 hown hsz hwr
      simp only [← hlq]
      clear hlq HBR
      have hwl : q + 1 ≤ wl.heap.size := by omega
      have hll : lq < wl.heap.size := by omega
      clear hsz
      refine wp_region_noPanic ?_
      have hS : (fun W' : World => Far (q + 1) lq wl W') wl.drew := ⟨(Below.refl _ _).drew, rfl⟩
      refine wp_region_any (by kernel_rfl) (wpAny_of_T (S := fun W' : World => Far (q + 1) lq wl W') (m := 14) _ _ _ _ ?_)
      refine' T_take (i := 0) (v := _) rfl (by kernel_rfl) (by kernel_rfl) (by kernel_rfl) (by kernel_rfl) (fun _ _ _ h => h) (by kernel_rfl) hS ?_ ?_
      rotate_left 1
      · intro Wv hW
        have j0 := hW.at j0
        have j1 := hW.at j1
        have j2 := hW.at j2
        have m4 := hW.low (show q < q + 1 by omega) m4
        go_simp
        first | done | with_reducible rfl | omega
      try simp only [Act.put, List.setIfInBounds_toArray, List.set_cons_zero, List.set_cons_succ]
      refine' T_take (i := 1) (v := _) rfl (by kernel_rfl) (by kernel_rfl) (by kernel_rfl) (by kernel_rfl) (fun _ _ _ h => h) (by kernel_rfl) hS ?_ ?_
      rotate_left 1
      · intro Wv hW
        have j0 := hW.at j0
        have j1 := hW.at j1
        have j2 := hW.at j2
        have m4 := hW.low (show q < q + 1 by omega) m4
        go_simp
        first | done | with_reducible rfl | omega
      try simp only [Act.put, List.setIfInBounds_toArray, List.set_cons_zero, List.set_cons_succ]
      refine' T_take (i := 2) (v := _) rfl (by kernel_rfl) (by kernel_rfl) (by kernel_rfl) (by kernel_rfl) (fun _ _ _ h => h) (by kernel_rfl) hS ?_ ?_
      rotate_left 1
      · intro Wv hW
        have j0 := hW.at j0
        have j1 := hW.at j1
        have j2 := hW.at j2
        have m4 := hW.low (show q < q + 1 by omega) m4
        go_simp
        first | done | with_reducible rfl | omega
      try simp only [Act.put, List.setIfInBounds_toArray, List.set_cons_zero, List.set_cons_succ]
      refine' T_take (i := 3) (v := _) rfl (by kernel_rfl) (by kernel_rfl) (by kernel_rfl) (by kernel_rfl) (fun _ _ _ h => h) (by kernel_rfl) hS ?_ ?_
      rotate_left 1
      · intro Wv hW
        have j0 := hW.at j0
        have j1 := hW.at j1
        have j2 := hW.at j2
        have m4 := hW.low (show q < q + 1 by omega) m4
        go_simp
        first | done | with_reducible rfl | omega
      try simp only [Act.put, List.setIfInBounds_toArray, List.set_cons_zero, List.set_cons_succ]
      refine' T_take (i := 5) (v := _) rfl (by kernel_rfl) (by kernel_rfl) (by kernel_rfl) (by kernel_rfl) (fun _ _ _ h => h) (by kernel_rfl) hS ?_ ?_
      rotate_left 1
      · intro Wv hW
        have j0 := hW.at j0
        have j1 := hW.at j1
        have j2 := hW.at j2
        have m4 := hW.low (show q < q + 1 by omega) m4
        go_simp
        first | done | with_reducible rfl | omega
      try simp only [Act.put, List.setIfInBounds_toArray, List.set_cons_zero, List.set_cons_succ]
      refine' T_take (i := 6) (v := _) rfl (by kernel_rfl) (by kernel_rfl) (by kernel_rfl) (by kernel_rfl) (fun _ _ _ h => h) (by kernel_rfl) hS ?_ ?_
      rotate_left 1
      · intro Wv hW
        have j0 := hW.at j0
        have j1 := hW.at j1
        have j2 := hW.at j2
        have m4 := hW.low (show q < q + 1 by omega) m4
        go_simp
        first | done | with_reducible rfl | omega
      try simp only [Act.put, List.setIfInBounds_toArray, List.set_cons_zero, List.set_cons_succ]
      refine' T_take (i := 8) (v := _) rfl (by kernel_rfl) (by kernel_rfl) (by kernel_rfl) (by kernel_rfl) (fun _ _ _ h => h) (by kernel_rfl) hS ?_ ?_
      rotate_left 1
      · intro Wv hW
        have j0 := hW.at j0
        have j1 := hW.at j1
        have j2 := hW.at j2
        have m4 := hW.low (show q < q + 1 by omega) m4
        go_simp
        first | done | with_reducible rfl | omega
      try simp only [Act.put, List.setIfInBounds_toArray, List.set_cons_zero, List.set_cons_succ]
      refine' T_take (i := 9) (v := _) rfl (by kernel_rfl) (by kernel_rfl) (by kernel_rfl) (by kernel_rfl) (fun _ _ _ h => h) (by kernel_rfl) hS ?_ ?_
      rotate_left 1
      · intro Wv hW
        have j0 := hW.at j0
        have j1 := hW.at j1
        have j2 := hW.at j2
        have m4 := hW.low (show q < q + 1 by omega) m4
        go_simp
        first | done | with_reducible rfl | omega
      try simp only [Act.put, List.setIfInBounds_toArray, List.set_cons_zero, List.set_cons_succ]
      refine T_ready (rs := [4]) (by kernel_rfl) (by simp) ?_
      refine TReady.cons rfl (fun K hK => ?_) TReady.nil
      try go_simp
      refine (HM1.out _).mono ?_
      rintro e v9 ⟨rfl, rfl⟩
      try go_simp
      refine hK.out _ _ (fun _ => hS) (fun _ => ?_)
      clear hK K
      try simp only [Act.put, List.setIfInBounds_toArray, List.set_cons_zero, List.set_cons_succ]
      refine T_ready (rs := [7]) (by kernel_rfl) (by simp) ?_
      refine TReady.cons rfl (fun K hK => ?_) TReady.nil
      try go_simp
      refine (HM2.out _).mono ?_
      rintro e v9 ⟨rfl, rfl⟩
      try go_simp
      refine hK.out _ _ (fun _ => hS) (fun _ => ?_)
      clear hK K
      try simp only [Act.put, List.setIfInBounds_toArray, List.set_cons_zero, List.set_cons_succ]
      refine' T_take (i := 10) (v := _) rfl (by kernel_rfl) (by kernel_rfl) (by kernel_rfl) (by kernel_rfl) (fun _ _ _ h => h) (by kernel_rfl) hS ?_ ?_
      rotate_left 1
      · intro Wv hW
        have j0 := hW.at j0
        have j1 := hW.at j1
        have j2 := hW.at j2
        have m4 := hW.low (show q < q + 1 by omega) m4
        go_simp
        first | done | with_reducible rfl | omega
      try simp only [Act.put, List.setIfInBounds_toArray, List.set_cons_zero, List.set_cons_succ]
      refine T_ready (rs := [11]) (by kernel_rfl) (by simp) ?_
      refine TReady.cons rfl (fun K hK => ?_) TReady.nil
      try go_simp
      refine hK.out _ _ (fun _ => hS.alloc hwl hll hS.b.size _) (fun hS2 => ?_)
      replace hS := hS2 (by decide)
      clear hS2 hK K
      try simp only [Act.put, List.setIfInBounds_toArray, List.set_cons_zero, List.set_cons_succ]
      refine T_ready (rs := [12]) (by kernel_rfl) (by simp) ?_
      refine TReady.cons rfl (fun K hK => ?_) TReady.nil
      refine step_appK2 (t := 22) (e := 28) (.inr ⟨rfl, rfl⟩) (.tmp 53) (.tmp 63) rfl rfl (q + 1) lq wl.drew _ tk ⟨(mir fN : Int), (mir tN : Int), ls⟩ rfl rfl HO (by have := HTLn.out; omega) hwl hown hll ?_
      intro A9 c9 w9 HO2 HF2
      have hS2 : Far (q + 1) lq wl w9 := ⟨below_drew_l HF2.out.b, HF2.out.e⟩
      refine hK.out _ _ (fun _ => hS2) (fun _ => ?_)
      clear hK K hS
      have hS := hS2
      clear hS2
      try simp only [Act.put, List.setIfInBounds_toArray, List.set_cons_zero, List.set_cons_succ]
      refine' T_take (i := 13) (v := _) rfl (by kernel_rfl) (by kernel_rfl) (by kernel_rfl) (by kernel_rfl) (fun _ _ _ h => h) (by kernel_rfl) hS ?_ ?_
      rotate_left 1
      · intro Wv hW
        have j0 := hW.at j0
        have j1 := hW.at j1
        have j2 := hW.at j2
        have m4 := hW.low (show q < q + 1 by omega) m4
        go_simp
        first | done | with_reducible rfl | omega
      try simp only [Act.put, List.setIfInBounds_toArray, List.set_cons_zero, List.set_cons_succ]
      refine T_ready (rs := [14]) (by kernel_rfl) (by simp) ?_
      refine TReady.cons rfl (fun K hK => ?_) TReady.nil
      have HM9 := HM.out.low hS.b (show q < q + 1 by omega)
      obtain ⟨⟨-, -, -, -, n4⟩, nf⟩ := HM9.cells
      have nf4 := nf 4
      clear nf
      try go_simp
      refine hK.out _ _ (fun h => absurd h (by decide)) (fun _ => ?_)
      clear hK K
      try simp only [Act.put, List.setIfInBounds_toArray, List.set_cons_zero, List.set_cons_succ]
      refine T_done (by kernel_rfl) ?_ _
      refine NoPanic.normal ?_
      try go_simp
      simp only [HTLn.out]
      have ho2 := HO2.out
      rw [HTLn.out] at ho2
      have hg : w9.grownBy (w9.setCell ⟨q, 4, none⟩ (.slice A9 (k + 1) c9)) (some q) := only_setCell (World.grownBy.refl _ _) (.inl rfl) _
      have HO3 := Lib.hid (ho2.keptBy hg (by omega))
      have HM3 := Lib.hid (HM9.set4 (.slice A9 (k + 1) c9))
      have HB4 : Hid (Below q x3 (w9.setCell ⟨q, 4, none⟩ (.slice A9 (k + 1) c9))) := (HBR2.out.trans (hS.b.mono (by omega))).setCell (Nat.le_refl _) _
      clear hg
      clear ho2 HM9 n4 nf4 HO2
      go_wp2_with fail
      go_roundw
      case rel => exact ⟨k + 1, A9, c9, by omega, by go_num, HM3.out, by rw [HT.out]; exact HO3.out, HB4.out⟩
      case measure => simp [intOf]; omega
    · obtain rfl : k = r.links.length := by omega
      have h1i : ¬ (r.links.length : Int) < (r.links.length : Int) := by omega
      rw [show (mirR r).links.take r.links.length = (mirR r).links from by rw [← mirR_len]; exact List.take_length] at HO
      obtain ⟨hmc1, hmc2, hmk⟩ := HO.out.parts
      have HLM := Lib.hid hmk
      have HMC : Hid ((mirR r).links.length ≤ c' ∧ c' ≤ 9223372036854775807) := ⟨hmc1, hmc2⟩
      have hqw : q ≤ wr.heap.size := by omega
      replace HL := Lib.hid ((HL.out.below hb).more hqw)
      replace HX := Lib.hid ((HX.out.below hb).more hqw)
      replace HBa := Lib.hid ((HBa.out.below hb).more hqw)
      replace HWs := Lib.hid ((HWs.out.below hb).more hqw)
      have HB : Hid (Below w.heap.size w wr) := HB3.out.trans (hb.mono (by omega))
      clear hmk HO HM hb HBR HLK hmc1 hmc2
      generalize wr = y0 at *
      go_wp2_with fail
      go_loopw [12, 13] (fun o i wr => ∃ k : Nat, k ≤ ball.length ∧ i = .int .i64 k ∧ OwnG 33 y0.heap.size wr o ((mirG r ball).take k) ∧ Below y0.heap.size y0 wr) (fun _ i _ => ball.length - (intOf i).toNat)
      case atStart => exact ⟨0, by omega, rfl, by simp; exact OwnG.nil _ _ _, Below.refl _ _⟩
      case round =>
        obtain ⟨k, hk, rfl, hO, hb⟩ := hrel
        have HO := Lib.hid hO
        have HBr := Lib.hid hb
        obtain ⟨Gm, co, rfl⟩ := hO.form
        have hwr : y0.heap.size ≤ wr.heap.size := hb.size
        clear hO
        by_cases h1 : k < ball.length
        · have h1i : (k : Int) < (ball.length : Int) := by omega
          obtain ⟨b, off, rfl, hb0, c1, c2⟩ := (HBa.out.below hb).at_ h1
          have z1 := cell_of_ans hb k1
          have ltz1 : w.heap.size < y0.heap.size := by have := World.block_lt_of_cell? _ _ k1; exact this
          have hg := HRG.out k h1
          have hkm : k < (mirG r ball).length := by rw [mirG_len]; exact h1
          have HT : Hid ((mirG r ball).take (k + 1) = (mirG r ball).take k ++ [⟨2 * r.mid - (gx ball k).hi, 2 * r.mid - (gx ball k).lo⟩]) := by show _ = _; rw [← HGX.out k h1, List.take_succ_eq_append_getElem hkm, gx_lt hkm]
          have hgtl : ((mirG r ball).take k).length ≤ 1000000 := by simp; omega
          generalize (mirG r ball).take k = tk at *
          generalize (gx ball k).lo = lo at *
          generalize (gx ball k).hi = hi at *
          have hw1 : IntKind.i64.wrap (2 * r.mid) = 2 * r.mid := IntWalk.i64_in _ (by omega)
          have hw2 : IntKind.i64.wrap (2 * r.mid - hi) = 2 * r.mid - hi := IntWalk.i64_in _ (by omega)
          have hw3 : IntKind.i64.wrap (2 * r.mid - lo) = 2 * r.mid - lo := IntWalk.i64_in _ (by omega)
          have HOd : Hid (OwnG 33 y0.heap.size wr.drew (.slice Gm tk.length co) tk) := HO.out.kept (Below.refl _ _).drew
          clear hb hg hkm
          go_upto_region 14 with fail
          refine wp_region_noPanic ?_
          have hS : (fun W' : World => Below y0.heap.size wr W') wr.drew := (Below.refl _ _).drew
          refine wp_region_any (by kernel_rfl) (wpAny_of_T (S := fun W' : World => Below y0.heap.size wr W') (m := 23) _ _ _ _ ?_)
          refine' T_take (i := 0) (v := _) rfl (by kernel_rfl) (by kernel_rfl) (by kernel_rfl) (by kernel_rfl) (fun _ _ _ h => h) (by kernel_rfl) hS ?_ ?_
          rotate_left 1
          · intro Wv hW
            replace c1 := (hW.cell (p := ⟨b, off + k * 2, none⟩) hb0).trans c1
            replace c2 := (hW.cell (p := ⟨b, off + k * 2 + 1, none⟩) hb0).trans c2
            replace z1 := (hW.cell (p := ⟨w.heap.size, 1, none⟩) ltz1).trans z1
            go_simp
            first | done | with_reducible rfl | omega
          try simp only [Act.put, List.setIfInBounds_toArray, List.set_cons_zero, List.set_cons_succ]
          refine' T_take (i := 1) (v := _) rfl (by kernel_rfl) (by kernel_rfl) (by kernel_rfl) (by kernel_rfl) (fun _ _ _ h => h) (by kernel_rfl) hS ?_ ?_
          rotate_left 1
          · intro Wv hW
            replace c1 := (hW.cell (p := ⟨b, off + k * 2, none⟩) hb0).trans c1
            replace c2 := (hW.cell (p := ⟨b, off + k * 2 + 1, none⟩) hb0).trans c2
            replace z1 := (hW.cell (p := ⟨w.heap.size, 1, none⟩) ltz1).trans z1
            go_simp
            first | done | with_reducible rfl | omega
          try simp only [Act.put, List.setIfInBounds_toArray, List.set_cons_zero, List.set_cons_succ]
          refine' T_take (i := 2) (v := _) rfl (by kernel_rfl) (by kernel_rfl) (by kernel_rfl) (by kernel_rfl) (fun _ _ _ h => h) (by kernel_rfl) hS ?_ ?_
          rotate_left 1
          · intro Wv hW
            replace c1 := (hW.cell (p := ⟨b, off + k * 2, none⟩) hb0).trans c1
            replace c2 := (hW.cell (p := ⟨b, off + k * 2 + 1, none⟩) hb0).trans c2
            replace z1 := (hW.cell (p := ⟨w.heap.size, 1, none⟩) ltz1).trans z1
            go_simp
            first | done | with_reducible rfl | omega
          try simp only [Act.put, List.setIfInBounds_toArray, List.set_cons_zero, List.set_cons_succ]
          refine' T_take (i := 3) (v := _) rfl (by kernel_rfl) (by kernel_rfl) (by kernel_rfl) (by kernel_rfl) (fun _ _ _ h => h) (by kernel_rfl) hS ?_ ?_
          rotate_left 1
          · intro Wv hW
            replace c1 := (hW.cell (p := ⟨b, off + k * 2, none⟩) hb0).trans c1
            replace c2 := (hW.cell (p := ⟨b, off + k * 2 + 1, none⟩) hb0).trans c2
            replace z1 := (hW.cell (p := ⟨w.heap.size, 1, none⟩) ltz1).trans z1
            go_simp
            first | done | with_reducible rfl | omega
          try simp only [Act.put, List.setIfInBounds_toArray, List.set_cons_zero, List.set_cons_succ]
          refine' T_take (i := 4) (v := _) rfl (by kernel_rfl) (by kernel_rfl) (by kernel_rfl) (by kernel_rfl) (fun _ _ _ h => h) (by kernel_rfl) hS ?_ ?_
          rotate_left 1
          · intro Wv hW
            replace c1 := (hW.cell (p := ⟨b, off + k * 2, none⟩) hb0).trans c1
            replace c2 := (hW.cell (p := ⟨b, off + k * 2 + 1, none⟩) hb0).trans c2
            replace z1 := (hW.cell (p := ⟨w.heap.size, 1, none⟩) ltz1).trans z1
            go_simp
            first | done | with_reducible rfl | omega
          try simp only [Act.put, List.setIfInBounds_toArray, List.set_cons_zero, List.set_cons_succ]
          refine' T_take (i := 5) (v := _) rfl (by kernel_rfl) (by kernel_rfl) (by kernel_rfl) (by kernel_rfl) (fun _ _ _ h => h) (by kernel_rfl) hS ?_ ?_
          rotate_left 1
          · intro Wv hW
            replace c1 := (hW.cell (p := ⟨b, off + k * 2, none⟩) hb0).trans c1
            replace c2 := (hW.cell (p := ⟨b, off + k * 2 + 1, none⟩) hb0).trans c2
            replace z1 := (hW.cell (p := ⟨w.heap.size, 1, none⟩) ltz1).trans z1
            go_simp
            first | done | with_reducible rfl | omega
          try simp only [Act.put, List.setIfInBounds_toArray, List.set_cons_zero, List.set_cons_succ]
          refine' T_take (i := 6) (v := _) rfl (by kernel_rfl) (by kernel_rfl) (by kernel_rfl) (by kernel_rfl) (fun _ _ _ h => h) (by kernel_rfl) hS ?_ ?_
          rotate_left 1
          · intro Wv hW
            replace c1 := (hW.cell (p := ⟨b, off + k * 2, none⟩) hb0).trans c1
            replace c2 := (hW.cell (p := ⟨b, off + k * 2 + 1, none⟩) hb0).trans c2
            replace z1 := (hW.cell (p := ⟨w.heap.size, 1, none⟩) ltz1).trans z1
            go_simp
            first | done | with_reducible rfl | omega
          try simp only [Act.put, List.setIfInBounds_toArray, List.set_cons_zero, List.set_cons_succ]
          refine' T_take (i := 7) (v := _) rfl (by kernel_rfl) (by kernel_rfl) (by kernel_rfl) (by kernel_rfl) (fun _ _ _ h => h) (by kernel_rfl) hS ?_ ?_
          rotate_left 1
          · intro Wv hW
            replace c1 := (hW.cell (p := ⟨b, off + k * 2, none⟩) hb0).trans c1
            replace c2 := (hW.cell (p := ⟨b, off + k * 2 + 1, none⟩) hb0).trans c2
            replace z1 := (hW.cell (p := ⟨w.heap.size, 1, none⟩) ltz1).trans z1
            go_simp
            first | done | with_reducible rfl | omega
          try simp only [Act.put, List.setIfInBounds_toArray, List.set_cons_zero, List.set_cons_succ]
          refine' T_take (i := 8) (v := _) rfl (by kernel_rfl) (by kernel_rfl) (by kernel_rfl) (by kernel_rfl) (fun _ _ _ h => h) (by kernel_rfl) hS ?_ ?_
          rotate_left 1
          · intro Wv hW
            replace c1 := (hW.cell (p := ⟨b, off + k * 2, none⟩) hb0).trans c1
            replace c2 := (hW.cell (p := ⟨b, off + k * 2 + 1, none⟩) hb0).trans c2
            replace z1 := (hW.cell (p := ⟨w.heap.size, 1, none⟩) ltz1).trans z1
            go_simp
            first | done | with_reducible rfl | omega
          try simp only [Act.put, List.setIfInBounds_toArray, List.set_cons_zero, List.set_cons_succ]
          refine' T_take (i := 9) (v := _) rfl (by kernel_rfl) (by kernel_rfl) (by kernel_rfl) (by kernel_rfl) (fun _ _ _ h => h) (by kernel_rfl) hS ?_ ?_
          rotate_left 1
          · intro Wv hW
            replace c1 := (hW.cell (p := ⟨b, off + k * 2, none⟩) hb0).trans c1
            replace c2 := (hW.cell (p := ⟨b, off + k * 2 + 1, none⟩) hb0).trans c2
            replace z1 := (hW.cell (p := ⟨w.heap.size, 1, none⟩) ltz1).trans z1
            go_simp
            first | done | with_reducible rfl | omega
          try simp only [Act.put, List.setIfInBounds_toArray, List.set_cons_zero, List.set_cons_succ]
          refine' T_take (i := 10) (v := _) rfl (by kernel_rfl) (by kernel_rfl) (by kernel_rfl) (by kernel_rfl) (fun _ _ _ h => h) (by kernel_rfl) hS ?_ ?_
          rotate_left 1
          · intro Wv hW
            replace c1 := (hW.cell (p := ⟨b, off + k * 2, none⟩) hb0).trans c1
            replace c2 := (hW.cell (p := ⟨b, off + k * 2 + 1, none⟩) hb0).trans c2
            replace z1 := (hW.cell (p := ⟨w.heap.size, 1, none⟩) ltz1).trans z1
            go_simp
            first | done | with_reducible rfl | omega
          try simp only [Act.put, List.setIfInBounds_toArray, List.set_cons_zero, List.set_cons_succ]
          refine' T_take (i := 11) (v := _) rfl (by kernel_rfl) (by kernel_rfl) (by kernel_rfl) (by kernel_rfl) (fun _ _ _ h => h) (by kernel_rfl) hS ?_ ?_
          rotate_left 1
          · intro Wv hW
            replace c1 := (hW.cell (p := ⟨b, off + k * 2, none⟩) hb0).trans c1
            replace c2 := (hW.cell (p := ⟨b, off + k * 2 + 1, none⟩) hb0).trans c2
            replace z1 := (hW.cell (p := ⟨w.heap.size, 1, none⟩) ltz1).trans z1
            go_simp
            first | done | with_reducible rfl | omega
          try simp only [Act.put, List.setIfInBounds_toArray, List.set_cons_zero, List.set_cons_succ]
          refine' T_take (i := 12) (v := _) rfl (by kernel_rfl) (by kernel_rfl) (by kernel_rfl) (by kernel_rfl) (fun _ _ _ h => h) (by kernel_rfl) hS ?_ ?_
          rotate_left 1
          · intro Wv hW
            replace c1 := (hW.cell (p := ⟨b, off + k * 2, none⟩) hb0).trans c1
            replace c2 := (hW.cell (p := ⟨b, off + k * 2 + 1, none⟩) hb0).trans c2
            replace z1 := (hW.cell (p := ⟨w.heap.size, 1, none⟩) ltz1).trans z1
            go_simp
            first | done | with_reducible rfl | omega
          try simp only [Act.put, List.setIfInBounds_toArray, List.set_cons_zero, List.set_cons_succ]
          refine' T_take (i := 13) (v := _) rfl (by kernel_rfl) (by kernel_rfl) (by kernel_rfl) (by kernel_rfl) (fun _ _ _ h => h) (by kernel_rfl) hS ?_ ?_
          rotate_left 1
          · intro Wv hW
            replace c1 := (hW.cell (p := ⟨b, off + k * 2, none⟩) hb0).trans c1
            replace c2 := (hW.cell (p := ⟨b, off + k * 2 + 1, none⟩) hb0).trans c2
            replace z1 := (hW.cell (p := ⟨w.heap.size, 1, none⟩) ltz1).trans z1
            go_simp
            first | done | with_reducible rfl | omega
          try simp only [Act.put, List.setIfInBounds_toArray, List.set_cons_zero, List.set_cons_succ]
          refine' T_take (i := 14) (v := _) rfl (by kernel_rfl) (by kernel_rfl) (by kernel_rfl) (by kernel_rfl) (fun _ _ _ h => h) (by kernel_rfl) hS ?_ ?_
          rotate_left 1
          · intro Wv hW
            replace c1 := (hW.cell (p := ⟨b, off + k * 2, none⟩) hb0).trans c1
            replace c2 := (hW.cell (p := ⟨b, off + k * 2 + 1, none⟩) hb0).trans c2
            replace z1 := (hW.cell (p := ⟨w.heap.size, 1, none⟩) ltz1).trans z1
            go_simp
            first | done | with_reducible rfl | omega
          try simp only [Act.put, List.setIfInBounds_toArray, List.set_cons_zero, List.set_cons_succ]
          refine' T_take (i := 15) (v := _) rfl (by kernel_rfl) (by kernel_rfl) (by kernel_rfl) (by kernel_rfl) (fun _ _ _ h => h) (by kernel_rfl) hS ?_ ?_
          rotate_left 1
          · intro Wv hW
            replace c1 := (hW.cell (p := ⟨b, off + k * 2, none⟩) hb0).trans c1
            replace c2 := (hW.cell (p := ⟨b, off + k * 2 + 1, none⟩) hb0).trans c2
            replace z1 := (hW.cell (p := ⟨w.heap.size, 1, none⟩) ltz1).trans z1
            go_simp
            first | done | with_reducible rfl | omega
          try simp only [Act.put, List.setIfInBounds_toArray, List.set_cons_zero, List.set_cons_succ]
          refine' T_take (i := 16) (v := _) rfl (by kernel_rfl) (by kernel_rfl) (by kernel_rfl) (by kernel_rfl) (fun _ _ _ h => h) (by kernel_rfl) hS ?_ ?_
          rotate_left 1
          · intro Wv hW
            replace c1 := (hW.cell (p := ⟨b, off + k * 2, none⟩) hb0).trans c1
            replace c2 := (hW.cell (p := ⟨b, off + k * 2 + 1, none⟩) hb0).trans c2
            replace z1 := (hW.cell (p := ⟨w.heap.size, 1, none⟩) ltz1).trans z1
            go_simp
            first | done | with_reducible rfl | omega
          try simp only [Act.put, List.setIfInBounds_toArray, List.set_cons_zero, List.set_cons_succ]
          refine' T_take (i := 17) (v := _) rfl (by kernel_rfl) (by kernel_rfl) (by kernel_rfl) (by kernel_rfl) (fun _ _ _ h => h) (by kernel_rfl) hS ?_ ?_
          rotate_left 1
          · intro Wv hW
            replace c1 := (hW.cell (p := ⟨b, off + k * 2, none⟩) hb0).trans c1
            replace c2 := (hW.cell (p := ⟨b, off + k * 2 + 1, none⟩) hb0).trans c2
            replace z1 := (hW.cell (p := ⟨w.heap.size, 1, none⟩) ltz1).trans z1
            go_simp
            first | done | with_reducible rfl | omega
          try simp only [Act.put, List.setIfInBounds_toArray, List.set_cons_zero, List.set_cons_succ]
          refine' T_take (i := 18) (v := _) rfl (by kernel_rfl) (by kernel_rfl) (by kernel_rfl) (by kernel_rfl) (fun _ _ _ h => h) (by kernel_rfl) hS ?_ ?_
          rotate_left 1
          · intro Wv hW
            replace c1 := (hW.cell (p := ⟨b, off + k * 2, none⟩) hb0).trans c1
            replace c2 := (hW.cell (p := ⟨b, off + k * 2 + 1, none⟩) hb0).trans c2
            replace z1 := (hW.cell (p := ⟨w.heap.size, 1, none⟩) ltz1).trans z1
            go_simp
            first | done | with_reducible rfl | omega
          try simp only [Act.put, List.setIfInBounds_toArray, List.set_cons_zero, List.set_cons_succ]
          refine' T_take (i := 19) (v := _) rfl (by kernel_rfl) (by kernel_rfl) (by kernel_rfl) (by kernel_rfl) (fun _ _ _ h => h) (by kernel_rfl) hS ?_ ?_
          rotate_left 1
          · intro Wv hW
            replace c1 := (hW.cell (p := ⟨b, off + k * 2, none⟩) hb0).trans c1
            replace c2 := (hW.cell (p := ⟨b, off + k * 2 + 1, none⟩) hb0).trans c2
            replace z1 := (hW.cell (p := ⟨w.heap.size, 1, none⟩) ltz1).trans z1
            go_simp
            first | done | with_reducible rfl | omega
          try simp only [Act.put, List.setIfInBounds_toArray, List.set_cons_zero, List.set_cons_succ]
          refine T_ready (rs := [20]) (by kernel_rfl) (by simp) ?_
          refine TReady.cons rfl (fun K hK => ?_) TReady.nil
          try go_simp
          refine hK.out _ _ (fun _ => hS.alloc (Nat.le_trans hwr hS.size) _) (fun hS2 => ?_)
          replace hS := hS2 (by decide)
          clear hS2 hK K
          try simp only [Act.put, List.setIfInBounds_toArray, List.set_cons_zero, List.set_cons_succ]
          refine T_ready (rs := [21]) (by kernel_rfl) (by simp) ?_
          refine TReady.cons rfl (fun K hK => ?_) TReady.nil
          refine step_appG (t := 26) (e := 33) (.inr ⟨rfl, rfl⟩) (.tmp 72) (.tmp 92) rfl rfl y0.heap.size wr.drew _ tk ⟨2 * r.mid - hi, 2 * r.mid - lo⟩ rfl rfl HOd hgtl hwr ?_
          intro A9 c9 w9 HO2 HB2
          refine hK.out _ _ (fun _ => below_drew_l HB2.out) (fun hS2 => ?_)
          replace hS := hS2 (by decide)
          clear hK K hS2
          try simp only [Act.put, List.setIfInBounds_toArray, List.set_cons_zero, List.set_cons_succ]
          refine' T_take (i := 22) (v := _) rfl (by kernel_rfl) (by kernel_rfl) (by kernel_rfl) (by kernel_rfl) (fun _ _ _ h => h) (by kernel_rfl) hS ?_ ?_
          rotate_left 1
          · intro Wv hW
            replace c1 := (hW.cell (p := ⟨b, off + k * 2, none⟩) hb0).trans c1
            replace c2 := (hW.cell (p := ⟨b, off + k * 2 + 1, none⟩) hb0).trans c2
            replace z1 := (hW.cell (p := ⟨w.heap.size, 1, none⟩) ltz1).trans z1
            go_simp
            first | done | with_reducible rfl | omega
          try simp only [Act.put, List.setIfInBounds_toArray, List.set_cons_zero, List.set_cons_succ]
          refine T_done (by kernel_rfl) ?_ _
          refine NoPanic.normal ?_
          try go_simp
          go_wp2_with fail
          go_roundw
          case rel => exact ⟨k + 1, by omega, by go_num, by rw [HT.out]; exact HO2.out, HBr.out.trans hS⟩
          case measure => simp [intOf]; omega
        · obtain rfl : k = ball.length := by omega
          have h1i : ¬ (ball.length : Int) < (ball.length : Int) := by omega
          have htk : (mirG r ball).take ball.length = mirG r ball := by rw [← mirG_len r ball]; exact List.take_length
          rw [htk] at HO
          simp only [htk]
          obtain ⟨hgc1, hgc2, hgg⟩ := HO.out.parts
          have HGM := Lib.hid hgg
          have HGC : Hid ((mirG r ball).length ≤ co ∧ co ≤ 9223372036854775807) := ⟨hgc1, hgc2⟩
          clear htk HGX HRG HBr
          replace k0 := cell_of_ans hb k0
          replace k1 := cell_of_ans hb k1
          replace k2 := cell_of_ans hb k2
          replace k3 := cell_of_ans hb k3
          replace k4 := cell_of_ans hb k4
          replace m0 := cell_of_ans hb m0
          replace m1 := cell_of_ans hb m1
          replace m2 := cell_of_ans hb m2
          replace m3 := cell_of_ans hb m3
          replace m4 := cell_of_ans hb m4
          replace HL := Lib.hid (HL.out.step hb)
          replace HX := Lib.hid (HX.out.step hb)
          replace HBa := Lib.hid (HBa.out.step hb)
          replace HWs := Lib.hid (HWs.out.step hb)
          replace HLM := Lib.hid (HLM.out.step hb)
          replace HB := Lib.hid (HB.out.trans (hb.mono HB.out.size))
          clear hb
          clear hgg HO hgc1 hgc2
          obtain ⟨gs, hgs⟩ : ∃ gs, gs = mirG r ball := ⟨_, rfl⟩
          rw [← hgs] at HGM HGC HRY HTLW hgl
          simp only [← hgs]
          clear hgs
          obtain ⟨xm, hxm⟩ : ∃ x, x = mirR r := ⟨_, rfl⟩
          have HXM : Hid (xm.rows = r.rows ∧ xm.mid = r.mid ∧ xm.gap = r.gap ∧ xm.reach = r.reach ∧ xm.links.length = r.links.length) := by rw [hxm]; exact ⟨rfl, rfl, rfl, rfl, mirR_len r⟩
          rw [← hxm] at HLM HMC HKM HRM HRY HTLW
          clear hxm hml
          obtain ⟨xq1, xq2, xq3, xq4, xq5⟩ := HXM.out
          have HRM2 := Lib.hid (fun (A4 : Option Addr) (c4 : Nat) (W : World) h1 h2 => (HRM.out A4 c4 W h1 h2).mono (fun e w9 h => h.toQ HXM.out))
          clear HRM
          have HRM := HRM2
          clear HRM2
          rw [xq1, xq2, xq3, xq4] at HKM HRM HRY
          rw [xq5] at HKM HRM HRY HMC
          have HXN := HXM
          clear HXM xq1 xq2 xq3 xq4 xq5
          generalize wr = y1 at *
          have ltk0 := World.block_lt_of_cell? _ _ k0
          dsimp only at ltk0
          have ltm0 := World.block_lt_of_cell? _ _ m0
          dsimp only at ltm0
          go_wp2_with fail
          refine (rack18_c r A c _ HL.out hc hlen).mono ?_
          rintro e y2 ⟨A4, c4, rfl, ⟨hl4, hc4⟩, hb⟩
          replace k0 := cell_of_ans hb k0
          replace k1 := cell_of_ans hb k1
          replace k2 := cell_of_ans hb k2
          replace k3 := cell_of_ans hb k3
          replace k4 := cell_of_ans hb k4
          replace m0 := cell_of_ans hb m0
          replace m1 := cell_of_ans hb m1
          replace m2 := cell_of_ans hb m2
          replace m3 := cell_of_ans hb m3
          replace m4 := cell_of_ans hb m4
          replace HL := Lib.hid (HL.out.step hb)
          replace HX := Lib.hid (HX.out.step hb)
          replace HBa := Lib.hid (HBa.out.step hb)
          replace HWs := Lib.hid (HWs.out.step hb)
          replace HLM := Lib.hid (HLM.out.step hb)
          replace HGM := Lib.hid (HGM.out.step hb)
          replace HB := Lib.hid (HB.out.trans (hb.mono HB.out.size))
          clear hb
          have Hhl4 := Lib.hid hl4
          clear hl4
          go_wp2_with fail
          refine (list_c xA xs cx _ HX.out hxl).mono ?_
          rintro e y3 ⟨B4, d4, rfl, ho4, hb⟩
          obtain ⟨hd4, he4, hi4⟩ := isInts_parts (ownsRow_isInts ho4)
          clear ho4
          replace k0 := cell_of_ans hb k0
          replace k1 := cell_of_ans hb k1
          replace k2 := cell_of_ans hb k2
          replace k3 := cell_of_ans hb k3
          replace k4 := cell_of_ans hb k4
          replace m0 := cell_of_ans hb m0
          replace m1 := cell_of_ans hb m1
          replace m2 := cell_of_ans hb m2
          replace m3 := cell_of_ans hb m3
          replace m4 := cell_of_ans hb m4
          replace HL := Lib.hid (HL.out.step hb)
          replace HX := Lib.hid (HX.out.step hb)
          replace HBa := Lib.hid (HBa.out.step hb)
          replace HWs := Lib.hid (HWs.out.step hb)
          replace HLM := Lib.hid (HLM.out.step hb)
          replace HGM := Lib.hid (HGM.out.step hb)
          replace Hhl4 := Lib.hid (Hhl4.out.step hb)
          replace HB := Lib.hid (HB.out.trans (hb.mono HB.out.size))
          clear hb
          have Hhi4 := Lib.hid hi4
          clear hi4
          go_wp2_with fail
          refine (HKI.out _ _ _ _ _ Hhl4.out hc4 Hhi4.out ⟨hd4, he4⟩).mono ?_
          rintro e y4 ⟨rfl, hb⟩
          replace k0 := cell_of_ans hb k0
          replace k1 := cell_of_ans hb k1
          replace k2 := cell_of_ans hb k2
          replace k3 := cell_of_ans hb k3
          replace k4 := cell_of_ans hb k4
          replace m0 := cell_of_ans hb m0
          replace m1 := cell_of_ans hb m1
          replace m2 := cell_of_ans hb m2
          replace m3 := cell_of_ans hb m3
          replace m4 := cell_of_ans hb m4
          replace HL := Lib.hid (HL.out.step hb)
          replace HX := Lib.hid (HX.out.step hb)
          replace HBa := Lib.hid (HBa.out.step hb)
          replace HWs := Lib.hid (HWs.out.step hb)
          replace HLM := Lib.hid (HLM.out.step hb)
          replace HGM := Lib.hid (HGM.out.step hb)
          replace Hhl4 := Lib.hid (Hhl4.out.step hb)
          replace Hhi4 := Lib.hid (Hhi4.out.step hb)
          replace HB := Lib.hid (HB.out.trans (hb.mono HB.out.size))
          clear hb
          clear Hhl4 Hhi4
          go_upto_region 16 with fail
          clear HKI
          refine wp_region_noPanic ?_
          have hS : (fun W' : World => Below y4.heap.size y4 W') y4.drew := (Below.refl _ _).drew
          refine wp_region_any (by kernel_rfl) (wpAny_of_T (S := fun W' : World => Below y4.heap.size y4 W') (m := 11) _ _ _ _ ?_)
          refine' T_take (i := 0) (v := _) rfl (by kernel_rfl) (by kernel_rfl) (by kernel_rfl) (by kernel_rfl) (fun _ _ _ h => h) (by kernel_rfl) hS ?_ ?_
          rotate_left 1
          · intro Wv hW
            replace k0 := cell_of_ans hW k0
            replace k1 := cell_of_ans hW k1
            replace k2 := cell_of_ans hW k2
            replace k3 := cell_of_ans hW k3
            replace k4 := cell_of_ans hW k4
            replace m0 := cell_of_ans hW m0
            replace m1 := cell_of_ans hW m1
            replace m2 := cell_of_ans hW m2
            replace m3 := cell_of_ans hW m3
            replace m4 := cell_of_ans hW m4
            go_simp
            first | done | with_reducible rfl | omega
          try simp only [Act.put, List.setIfInBounds_toArray, List.set_cons_zero, List.set_cons_succ]
          refine' T_take (i := 2) (v := _) rfl (by kernel_rfl) (by kernel_rfl) (by kernel_rfl) (by kernel_rfl) (fun _ _ _ h => h) (by kernel_rfl) hS ?_ ?_
          rotate_left 1
          · intro Wv hW
            replace k0 := cell_of_ans hW k0
            replace k1 := cell_of_ans hW k1
            replace k2 := cell_of_ans hW k2
            replace k3 := cell_of_ans hW k3
            replace k4 := cell_of_ans hW k4
            replace m0 := cell_of_ans hW m0
            replace m1 := cell_of_ans hW m1
            replace m2 := cell_of_ans hW m2
            replace m3 := cell_of_ans hW m3
            replace m4 := cell_of_ans hW m4
            go_simp
            first | done | with_reducible rfl | omega
          try simp only [Act.put, List.setIfInBounds_toArray, List.set_cons_zero, List.set_cons_succ]
          refine' T_take (i := 3) (v := _) rfl (by kernel_rfl) (by kernel_rfl) (by kernel_rfl) (by kernel_rfl) (fun _ _ _ h => h) (by kernel_rfl) hS ?_ ?_
          rotate_left 1
          · intro Wv hW
            replace k0 := cell_of_ans hW k0
            replace k1 := cell_of_ans hW k1
            replace k2 := cell_of_ans hW k2
            replace k3 := cell_of_ans hW k3
            replace k4 := cell_of_ans hW k4
            replace m0 := cell_of_ans hW m0
            replace m1 := cell_of_ans hW m1
            replace m2 := cell_of_ans hW m2
            replace m3 := cell_of_ans hW m3
            replace m4 := cell_of_ans hW m4
            go_simp
            first | done | with_reducible rfl | omega
          try simp only [Act.put, List.setIfInBounds_toArray, List.set_cons_zero, List.set_cons_succ]
          refine T_ready (rs := [1]) (by kernel_rfl) (by simp) ?_
          refine TReady.cons rfl (fun K hK => ?_) TReady.nil
          try go_simp
          refine (HRM.out _ _ _ (HLM.out.step hS) HMC.out).mono ?_
          rintro e v1 ⟨A5, c5, rfl, ⟨hl5, hc5⟩, hb⟩
          have hS2 : Below y4.heap.size y4 v1 := below_cat hb hS
          have Hhl5 := Lib.hid hl5
          clear hl5
          try go_simp
          refine hK.out _ _ (fun _ => hS2) (fun _ => ?_)
          clear hK K hS hb
          replace hS := hS2
          clear hS2
          try simp only [Act.put, List.setIfInBounds_toArray, List.set_cons_zero, List.set_cons_succ]
          refine T_ready (rs := [4]) (by kernel_rfl) (by simp) ?_
          refine TReady.cons rfl (fun K hK => ?_) TReady.nil
          try go_simp
          refine (HTR.out _ _ _ _ (HX.out.step hS) hcx).mono ?_
          rintro e v2 ⟨T5, e5, rfl, ho5, hb⟩
          have hS2 : Below y4.heap.size y4 v2 := below_cat hb hS
          obtain ⟨hta5, htb5, hti5⟩ := isInts_parts (ownsRow_isInts ho5)
          have Hti5 := Lib.hid hti5
          clear hti5 ho5
          replace Hhl5 := Lib.hid (Hhl5.out.step hb)
          try go_simp
          refine hK.out _ _ (fun _ => hS2) (fun _ => ?_)
          clear hK K hS hb
          replace hS := hS2
          clear hS2
          try simp only [Act.put, List.setIfInBounds_toArray, List.set_cons_zero, List.set_cons_succ]
          refine T_ready (rs := [5]) (by kernel_rfl) (by simp) ?_
          refine TReady.cons rfl (fun K hK => ?_) TReady.nil
          try go_simp
          refine (HKM.out _ _ _ _ _ Hhl5.out hc5 Hti5.out ⟨hta5, htb5⟩).mono ?_
          rintro e v3 ⟨rfl, hb⟩
          have hS2 : Below y4.heap.size y4 v3 := below_cat hb hS
          clear Hhl5 Hti5
          try go_simp
          refine hK.out _ _ (fun _ => hS2) (fun _ => ?_)
          clear hK K hS hb
          replace hS := hS2
          clear hS2
          try simp only [Act.put, List.setIfInBounds_toArray, List.set_cons_zero, List.set_cons_succ]
          refine' T_take (i := 6) (v := _) rfl (by kernel_rfl) (by kernel_rfl) (by kernel_rfl) (by kernel_rfl) (fun _ _ _ h => h) (by kernel_rfl) hS ?_ ?_
          rotate_left 1
          · intro Wv hW
            replace k0 := cell_of_ans hW k0
            replace k1 := cell_of_ans hW k1
            replace k2 := cell_of_ans hW k2
            replace k3 := cell_of_ans hW k3
            replace k4 := cell_of_ans hW k4
            replace m0 := cell_of_ans hW m0
            replace m1 := cell_of_ans hW m1
            replace m2 := cell_of_ans hW m2
            replace m3 := cell_of_ans hW m3
            replace m4 := cell_of_ans hW m4
            go_simp
            first | done | with_reducible rfl | omega
          try simp only [Act.put, List.setIfInBounds_toArray, List.set_cons_zero, List.set_cons_succ]
          refine' T_take (i := 7) (v := _) rfl (by kernel_rfl) (by kernel_rfl) (by kernel_rfl) (by kernel_rfl) (fun _ _ _ h => h) (by kernel_rfl) hS ?_ ?_
          rotate_left 1
          · intro Wv hW
            replace k0 := cell_of_ans hW k0
            replace k1 := cell_of_ans hW k1
            replace k2 := cell_of_ans hW k2
            replace k3 := cell_of_ans hW k3
            replace k4 := cell_of_ans hW k4
            replace m0 := cell_of_ans hW m0
            replace m1 := cell_of_ans hW m1
            replace m2 := cell_of_ans hW m2
            replace m3 := cell_of_ans hW m3
            replace m4 := cell_of_ans hW m4
            go_simp
            first | done | with_reducible rfl | omega
          try simp only [Act.put, List.setIfInBounds_toArray, List.set_cons_zero, List.set_cons_succ]
          refine' T_take (i := 8) (v := _) rfl (by kernel_rfl) (by kernel_rfl) (by kernel_rfl) (by kernel_rfl) (fun _ _ _ h => h) (by kernel_rfl) hS ?_ ?_
          rotate_left 1
          · intro Wv hW
            replace k0 := cell_of_ans hW k0
            replace k1 := cell_of_ans hW k1
            replace k2 := cell_of_ans hW k2
            replace k3 := cell_of_ans hW k3
            replace k4 := cell_of_ans hW k4
            replace m0 := cell_of_ans hW m0
            replace m1 := cell_of_ans hW m1
            replace m2 := cell_of_ans hW m2
            replace m3 := cell_of_ans hW m3
            replace m4 := cell_of_ans hW m4
            go_simp
            first | done | with_reducible rfl | omega
          try simp only [Act.put, List.setIfInBounds_toArray, List.set_cons_zero, List.set_cons_succ]
          refine' T_take (i := 9) (v := _) rfl (by kernel_rfl) (by kernel_rfl) (by kernel_rfl) (by kernel_rfl) (fun _ _ _ h => h) (by kernel_rfl) hS ?_ ?_
          rotate_left 1
          · intro Wv hW
            replace k0 := cell_of_ans hW k0
            replace k1 := cell_of_ans hW k1
            replace k2 := cell_of_ans hW k2
            replace k3 := cell_of_ans hW k3
            replace k4 := cell_of_ans hW k4
            replace m0 := cell_of_ans hW m0
            replace m1 := cell_of_ans hW m1
            replace m2 := cell_of_ans hW m2
            replace m3 := cell_of_ans hW m3
            replace m4 := cell_of_ans hW m4
            go_simp
            first | done | with_reducible rfl | omega
          try simp only [Act.put, List.setIfInBounds_toArray, List.set_cons_zero, List.set_cons_succ]
          refine' T_take (i := 10) (v := _) rfl (by kernel_rfl) (by kernel_rfl) (by kernel_rfl) (by kernel_rfl) (fun _ _ _ h => h) (by kernel_rfl) hS ?_ ?_
          rotate_left 1
          · intro Wv hW
            replace k0 := cell_of_ans hW k0
            replace k1 := cell_of_ans hW k1
            replace k2 := cell_of_ans hW k2
            replace k3 := cell_of_ans hW k3
            replace k4 := cell_of_ans hW k4
            replace m0 := cell_of_ans hW m0
            replace m1 := cell_of_ans hW m1
            replace m2 := cell_of_ans hW m2
            replace m3 := cell_of_ans hW m3
            replace m4 := cell_of_ans hW m4
            go_simp
            first | done | with_reducible rfl | omega
          try simp only [Act.put, List.setIfInBounds_toArray, List.set_cons_zero, List.set_cons_succ]
          refine T_done (by kernel_rfl) ?_ _
          refine NoPanic.normal ?_
          try go_simp
          have hb := hS
          clear hS
          replace k0 := cell_of_ans hb k0
          replace k1 := cell_of_ans hb k1
          replace k2 := cell_of_ans hb k2
          replace k3 := cell_of_ans hb k3
          replace k4 := cell_of_ans hb k4
          replace m0 := cell_of_ans hb m0
          replace m1 := cell_of_ans hb m1
          replace m2 := cell_of_ans hb m2
          replace m3 := cell_of_ans hb m3
          replace m4 := cell_of_ans hb m4
          replace HL := Lib.hid (HL.out.step hb)
          replace HX := Lib.hid (HX.out.step hb)
          replace HBa := Lib.hid (HBa.out.step hb)
          replace HWs := Lib.hid (HWs.out.step hb)
          replace HLM := Lib.hid (HLM.out.step hb)
          replace HGM := Lib.hid (HGM.out.step hb)
          replace HB := Lib.hid (HB.out.trans (hb.mono HB.out.size))
          clear hb
          clear HKM
          have hke : ((kindV r xs : Int) != (kindV r xs : Int)) = false := by simp
          go_upto_region 19 with fail
          clear hke
          cases ery : readyB xm (turnL r xs) gs
          · rw [ery] at HRY
            refine wp_region_noPanic ?_
            have hS : (fun W' : World => Below v3.heap.size v3 W') v3.drew := (Below.refl _ _).drew
            refine wp_region_any (by kernel_rfl) (wpAny_of_T (S := fun W' : World => Below v3.heap.size v3 W') (m := 7) _ _ _ _ ?_)
            refine' T_take (i := 0) (v := _) rfl (by kernel_rfl) (by kernel_rfl) (by kernel_rfl) (by kernel_rfl) (fun _ _ _ h => h) (by kernel_rfl) hS ?_ ?_
            rotate_left 1
            · intro Wv hW
              replace k0 := cell_of_ans hW k0
              replace k1 := cell_of_ans hW k1
              replace k2 := cell_of_ans hW k2
              replace k3 := cell_of_ans hW k3
              replace k4 := cell_of_ans hW k4
              replace m0 := cell_of_ans hW m0
              replace m1 := cell_of_ans hW m1
              replace m2 := cell_of_ans hW m2
              replace m3 := cell_of_ans hW m3
              replace m4 := cell_of_ans hW m4
              go_simp
              first | done | with_reducible rfl | omega
            try simp only [Act.put, List.setIfInBounds_toArray, List.set_cons_zero, List.set_cons_succ]
            refine' T_take (i := 1) (v := _) rfl (by kernel_rfl) (by kernel_rfl) (by kernel_rfl) (by kernel_rfl) (fun _ _ _ h => h) (by kernel_rfl) hS ?_ ?_
            rotate_left 1
            · intro Wv hW
              replace k0 := cell_of_ans hW k0
              replace k1 := cell_of_ans hW k1
              replace k2 := cell_of_ans hW k2
              replace k3 := cell_of_ans hW k3
              replace k4 := cell_of_ans hW k4
              replace m0 := cell_of_ans hW m0
              replace m1 := cell_of_ans hW m1
              replace m2 := cell_of_ans hW m2
              replace m3 := cell_of_ans hW m3
              replace m4 := cell_of_ans hW m4
              go_simp
              first | done | with_reducible rfl | omega
            try simp only [Act.put, List.setIfInBounds_toArray, List.set_cons_zero, List.set_cons_succ]
            refine' T_take (i := 2) (v := _) rfl (by kernel_rfl) (by kernel_rfl) (by kernel_rfl) (by kernel_rfl) (fun _ _ _ h => h) (by kernel_rfl) hS ?_ ?_
            rotate_left 1
            · intro Wv hW
              replace k0 := cell_of_ans hW k0
              replace k1 := cell_of_ans hW k1
              replace k2 := cell_of_ans hW k2
              replace k3 := cell_of_ans hW k3
              replace k4 := cell_of_ans hW k4
              replace m0 := cell_of_ans hW m0
              replace m1 := cell_of_ans hW m1
              replace m2 := cell_of_ans hW m2
              replace m3 := cell_of_ans hW m3
              replace m4 := cell_of_ans hW m4
              go_simp
              first | done | with_reducible rfl | omega
            try simp only [Act.put, List.setIfInBounds_toArray, List.set_cons_zero, List.set_cons_succ]
            refine' T_take (i := 4) (v := _) rfl (by kernel_rfl) (by kernel_rfl) (by kernel_rfl) (by kernel_rfl) (fun _ _ _ h => h) (by kernel_rfl) hS ?_ ?_
            rotate_left 1
            · intro Wv hW
              replace k0 := cell_of_ans hW k0
              replace k1 := cell_of_ans hW k1
              replace k2 := cell_of_ans hW k2
              replace k3 := cell_of_ans hW k3
              replace k4 := cell_of_ans hW k4
              replace m0 := cell_of_ans hW m0
              replace m1 := cell_of_ans hW m1
              replace m2 := cell_of_ans hW m2
              replace m3 := cell_of_ans hW m3
              replace m4 := cell_of_ans hW m4
              go_simp
              first | done | with_reducible rfl | omega
            try simp only [Act.put, List.setIfInBounds_toArray, List.set_cons_zero, List.set_cons_succ]
            refine T_ready (rs := [3]) (by kernel_rfl) (by simp) ?_
            refine TReady.cons rfl (fun K hK => ?_) TReady.nil
            try go_simp
            refine (HTR.out _ _ _ _ (HX.out.step hS) hcx).mono ?_
            rintro e u1 ⟨T6, e6, rfl, ho6, hb⟩
            have hS2 : Below v3.heap.size v3 u1 := below_cat hb hS
            obtain ⟨hta6, htb6, hti6⟩ := isInts_parts (ownsRow_isInts ho6)
            have Hti6 := Lib.hid hti6
            clear hti6 ho6
            try go_simp
            refine hK.out _ _ (fun _ => hS2) (fun _ => ?_)
            clear hK K hS hb
            replace hS := hS2
            clear hS2
            try simp only [Act.put, List.setIfInBounds_toArray, List.set_cons_zero, List.set_cons_succ]
            refine T_ready (rs := [5]) (by kernel_rfl) (by simp) ?_
            refine TReady.cons rfl (fun K hK => ?_) TReady.nil
            try go_simp
            refine (HRY.out _ _ _ _ _ _ _ (HLM.out.step hS) HMC.out Hti6.out ⟨hta6, htb6⟩ (HGM.out.step hS) HGC.out).mono ?_
            rintro e u2 ⟨rfl, hb⟩
            have hS2 : Below v3.heap.size v3 u2 := below_cat hb hS
            clear Hti6
            try go_simp
            refine hK.out _ _ (fun _ => hS2) (fun _ => ?_)
            clear hK K hS hb
            replace hS := hS2
            clear hS2
            try simp only [Act.put, List.setIfInBounds_toArray, List.set_cons_zero, List.set_cons_succ]
            refine' T_take (i := 6) (v := _) rfl (by kernel_rfl) (by kernel_rfl) (by kernel_rfl) (by kernel_rfl) (fun _ _ _ h => h) (by kernel_rfl) hS ?_ ?_
            rotate_left 1
            · intro Wv hW
              replace k0 := cell_of_ans hW k0
              replace k1 := cell_of_ans hW k1
              replace k2 := cell_of_ans hW k2
              replace k3 := cell_of_ans hW k3
              replace k4 := cell_of_ans hW k4
              replace m0 := cell_of_ans hW m0
              replace m1 := cell_of_ans hW m1
              replace m2 := cell_of_ans hW m2
              replace m3 := cell_of_ans hW m3
              replace m4 := cell_of_ans hW m4
              go_simp
              first | done | with_reducible rfl | omega
            try simp only [Act.put, List.setIfInBounds_toArray, List.set_cons_zero, List.set_cons_succ]
            refine T_done (by kernel_rfl) ?_ _
            refine NoPanic.normal ?_
            try go_simp
            have hb := hS
            clear hS
            replace k0 := cell_of_ans hb k0
            replace k1 := cell_of_ans hb k1
            replace k2 := cell_of_ans hb k2
            replace k3 := cell_of_ans hb k3
            replace k4 := cell_of_ans hb k4
            replace m0 := cell_of_ans hb m0
            replace m1 := cell_of_ans hb m1
            replace m2 := cell_of_ans hb m2
            replace m3 := cell_of_ans hb m3
            replace m4 := cell_of_ans hb m4
            replace HL := Lib.hid (HL.out.step hb)
            replace HX := Lib.hid (HX.out.step hb)
            replace HBa := Lib.hid (HBa.out.step hb)
            replace HWs := Lib.hid (HWs.out.step hb)
            replace HLM := Lib.hid (HLM.out.step hb)
            replace HGM := Lib.hid (HGM.out.step hb)
            replace HB := Lib.hid (HB.out.trans (hb.mono HB.out.size))
            clear hb
            clear HRY
            go_wp2_with fail
            refine (awake16_c _).mono ?_
            rintro e u3 ⟨rfl, hb⟩
            replace k0 := cell_of_ans hb k0
            replace k1 := cell_of_ans hb k1
            replace k2 := cell_of_ans hb k2
            replace k3 := cell_of_ans hb k3
            replace k4 := cell_of_ans hb k4
            replace m0 := cell_of_ans hb m0
            replace m1 := cell_of_ans hb m1
            replace m2 := cell_of_ans hb m2
            replace m3 := cell_of_ans hb m3
            replace m4 := cell_of_ans hb m4
            replace HL := Lib.hid (HL.out.step hb)
            replace HX := Lib.hid (HX.out.step hb)
            replace HBa := Lib.hid (HBa.out.step hb)
            replace HWs := Lib.hid (HWs.out.step hb)
            replace HLM := Lib.hid (HLM.out.step hb)
            replace HGM := Lib.hid (HGM.out.step hb)
            replace HB := Lib.hid (HB.out.trans (hb.mono HB.out.size))
            clear hb
            go_wp2_with fail
            go_ret
            exact ⟨rfl, HB.out⟩
          · rw [ery] at HRY
            refine wp_region_noPanic ?_
            have hS : (fun W' : World => Below v3.heap.size v3 W') v3.drew := (Below.refl _ _).drew
            refine wp_region_any (by kernel_rfl) (wpAny_of_T (S := fun W' : World => Below v3.heap.size v3 W') (m := 7) _ _ _ _ ?_)
            refine' T_take (i := 0) (v := _) rfl (by kernel_rfl) (by kernel_rfl) (by kernel_rfl) (by kernel_rfl) (fun _ _ _ h => h) (by kernel_rfl) hS ?_ ?_
            rotate_left 1
            · intro Wv hW
              replace k0 := cell_of_ans hW k0
              replace k1 := cell_of_ans hW k1
              replace k2 := cell_of_ans hW k2
              replace k3 := cell_of_ans hW k3
              replace k4 := cell_of_ans hW k4
              replace m0 := cell_of_ans hW m0
              replace m1 := cell_of_ans hW m1
              replace m2 := cell_of_ans hW m2
              replace m3 := cell_of_ans hW m3
              replace m4 := cell_of_ans hW m4
              go_simp
              first | done | with_reducible rfl | omega
            try simp only [Act.put, List.setIfInBounds_toArray, List.set_cons_zero, List.set_cons_succ]
            refine' T_take (i := 1) (v := _) rfl (by kernel_rfl) (by kernel_rfl) (by kernel_rfl) (by kernel_rfl) (fun _ _ _ h => h) (by kernel_rfl) hS ?_ ?_
            rotate_left 1
            · intro Wv hW
              replace k0 := cell_of_ans hW k0
              replace k1 := cell_of_ans hW k1
              replace k2 := cell_of_ans hW k2
              replace k3 := cell_of_ans hW k3
              replace k4 := cell_of_ans hW k4
              replace m0 := cell_of_ans hW m0
              replace m1 := cell_of_ans hW m1
              replace m2 := cell_of_ans hW m2
              replace m3 := cell_of_ans hW m3
              replace m4 := cell_of_ans hW m4
              go_simp
              first | done | with_reducible rfl | omega
            try simp only [Act.put, List.setIfInBounds_toArray, List.set_cons_zero, List.set_cons_succ]
            refine' T_take (i := 2) (v := _) rfl (by kernel_rfl) (by kernel_rfl) (by kernel_rfl) (by kernel_rfl) (fun _ _ _ h => h) (by kernel_rfl) hS ?_ ?_
            rotate_left 1
            · intro Wv hW
              replace k0 := cell_of_ans hW k0
              replace k1 := cell_of_ans hW k1
              replace k2 := cell_of_ans hW k2
              replace k3 := cell_of_ans hW k3
              replace k4 := cell_of_ans hW k4
              replace m0 := cell_of_ans hW m0
              replace m1 := cell_of_ans hW m1
              replace m2 := cell_of_ans hW m2
              replace m3 := cell_of_ans hW m3
              replace m4 := cell_of_ans hW m4
              go_simp
              first | done | with_reducible rfl | omega
            try simp only [Act.put, List.setIfInBounds_toArray, List.set_cons_zero, List.set_cons_succ]
            refine' T_take (i := 4) (v := _) rfl (by kernel_rfl) (by kernel_rfl) (by kernel_rfl) (by kernel_rfl) (fun _ _ _ h => h) (by kernel_rfl) hS ?_ ?_
            rotate_left 1
            · intro Wv hW
              replace k0 := cell_of_ans hW k0
              replace k1 := cell_of_ans hW k1
              replace k2 := cell_of_ans hW k2
              replace k3 := cell_of_ans hW k3
              replace k4 := cell_of_ans hW k4
              replace m0 := cell_of_ans hW m0
              replace m1 := cell_of_ans hW m1
              replace m2 := cell_of_ans hW m2
              replace m3 := cell_of_ans hW m3
              replace m4 := cell_of_ans hW m4
              go_simp
              first | done | with_reducible rfl | omega
            try simp only [Act.put, List.setIfInBounds_toArray, List.set_cons_zero, List.set_cons_succ]
            refine T_ready (rs := [3]) (by kernel_rfl) (by simp) ?_
            refine TReady.cons rfl (fun K hK => ?_) TReady.nil
            try go_simp
            refine (HTR.out _ _ _ _ (HX.out.step hS) hcx).mono ?_
            rintro e u1 ⟨T6, e6, rfl, ho6, hb⟩
            have hS2 : Below v3.heap.size v3 u1 := below_cat hb hS
            obtain ⟨hta6, htb6, hti6⟩ := isInts_parts (ownsRow_isInts ho6)
            have Hti6 := Lib.hid hti6
            clear hti6 ho6
            try go_simp
            refine hK.out _ _ (fun _ => hS2) (fun _ => ?_)
            clear hK K hS hb
            replace hS := hS2
            clear hS2
            try simp only [Act.put, List.setIfInBounds_toArray, List.set_cons_zero, List.set_cons_succ]
            refine T_ready (rs := [5]) (by kernel_rfl) (by simp) ?_
            refine TReady.cons rfl (fun K hK => ?_) TReady.nil
            try go_simp
            refine (HRY.out _ _ _ _ _ _ _ (HLM.out.step hS) HMC.out Hti6.out ⟨hta6, htb6⟩ (HGM.out.step hS) HGC.out).mono ?_
            rintro e u2 ⟨rfl, hb⟩
            have hS2 : Below v3.heap.size v3 u2 := below_cat hb hS
            clear Hti6
            try go_simp
            refine hK.out _ _ (fun _ => hS2) (fun _ => ?_)
            clear hK K hS hb
            replace hS := hS2
            clear hS2
            try simp only [Act.put, List.setIfInBounds_toArray, List.set_cons_zero, List.set_cons_succ]
            refine' T_take (i := 6) (v := _) rfl (by kernel_rfl) (by kernel_rfl) (by kernel_rfl) (by kernel_rfl) (fun _ _ _ h => h) (by kernel_rfl) hS ?_ ?_
            rotate_left 1
            · intro Wv hW
              replace k0 := cell_of_ans hW k0
              replace k1 := cell_of_ans hW k1
              replace k2 := cell_of_ans hW k2
              replace k3 := cell_of_ans hW k3
              replace k4 := cell_of_ans hW k4
              replace m0 := cell_of_ans hW m0
              replace m1 := cell_of_ans hW m1
              replace m2 := cell_of_ans hW m2
              replace m3 := cell_of_ans hW m3
              replace m4 := cell_of_ans hW m4
              go_simp
              first | done | with_reducible rfl | omega
            try simp only [Act.put, List.setIfInBounds_toArray, List.set_cons_zero, List.set_cons_succ]
            refine T_done (by kernel_rfl) ?_ _
            refine NoPanic.normal ?_
            try go_simp
            have hb := hS
            clear hS
            replace k0 := cell_of_ans hb k0
            replace k1 := cell_of_ans hb k1
            replace k2 := cell_of_ans hb k2
            replace k3 := cell_of_ans hb k3
            replace k4 := cell_of_ans hb k4
            replace m0 := cell_of_ans hb m0
            replace m1 := cell_of_ans hb m1
            replace m2 := cell_of_ans hb m2
            replace m3 := cell_of_ans hb m3
            replace m4 := cell_of_ans hb m4
            replace HL := Lib.hid (HL.out.step hb)
            replace HX := Lib.hid (HX.out.step hb)
            replace HBa := Lib.hid (HBa.out.step hb)
            replace HWs := Lib.hid (HWs.out.step hb)
            replace HLM := Lib.hid (HLM.out.step hb)
            replace HGM := Lib.hid (HGM.out.step hb)
            replace HB := Lib.hid (HB.out.trans (hb.mono HB.out.size))
            clear hb
            clear HRY
            obtain ⟨l1, l2, l3, l4, l5, l6⟩ := HTLW.out ery
            clear HTLW ery
            have HHiM := Lib.hid (fun (A4 xA4 Ab4 yA sA : Option Addr) (c4 cx4 cb4 cy cs : Nat) (W : World) h1 h2 h3 h4 h5 h6 h7 h8 h9 h10 => hit_c xm A4 xA4 Ab4 yA sA c4 cx4 cb4 cy cs (turnL r xs) (mirB r (pickB ball ws)) gs (pickC r.links ws) W h1 h2 h3 h4 h5 h6 h7 h8 h9 h10)
            have HFaM := Lib.hid (fun (A4 xA4 Ab4 : Option Addr) (c4 cx4 cb4 : Nat) (W : World) h1 h2 h3 h4 h5 h6 => falls17_c xm A4 xA4 Ab4 c4 cx4 cb4 (turnL r xs) gs W h1 h2 h3 h4 h5 h6)
            rw [l1] at HHit
            rw [l2, ← l3] at HHiM
            rw [l6, ← l4, ← l5] at HFaM
            obtain ⟨xr1, xr2, xr3, xr4, xr5⟩ := HXN.out
            rw [xr1, xr2, xr3, xr4] at HHiM HFaM
            rw [xr5] at HHiM HFaM
            clear l1 l2 l3 l4 l5 l6 xr1 xr2 xr3 xr4 xr5
            obtain ⟨yb, hyb⟩ : ∃ y, y = pickB ball ws := ⟨_, rfl⟩
            obtain ⟨yc, hyc⟩ : ∃ y, y = pickC r.links ws := ⟨_, rfl⟩
            rw [← hyb, ← hyc] at HHit HHiM HPK
            rw [← hyb] at hyl HPB
            rw [← hyc] at hsl
            clear hyb hyc
            generalize hitL r xs ball yb yc = hl at *
            generalize sureL r xs ball = sl at *
            generalize mayL r xs ball = ml at *
            have HTX := Lib.hid (fun W h1 => HTR.out xA xs cx W h1 hcx)
            generalize turnL r xs = tx at *
            go_wp2_with fail
            refine (HPK.out _ HL.out HBa.out HWs.out).mono ?_
            rintro e u4 ⟨yA, cy, sA, cs, rfl, ⟨hy, hcy⟩, ⟨hs, hcs⟩, hb⟩
            replace k0 := cell_of_ans hb k0
            replace k1 := cell_of_ans hb k1
            replace k2 := cell_of_ans hb k2
            replace k3 := cell_of_ans hb k3
            replace k4 := cell_of_ans hb k4
            replace m0 := cell_of_ans hb m0
            replace m1 := cell_of_ans hb m1
            replace m2 := cell_of_ans hb m2
            replace m3 := cell_of_ans hb m3
            replace m4 := cell_of_ans hb m4
            replace HL := Lib.hid (HL.out.step hb)
            replace HX := Lib.hid (HX.out.step hb)
            replace HBa := Lib.hid (HBa.out.step hb)
            replace HWs := Lib.hid (HWs.out.step hb)
            replace HLM := Lib.hid (HLM.out.step hb)
            replace HGM := Lib.hid (HGM.out.step hb)
            replace HB := Lib.hid (HB.out.trans (hb.mono HB.out.size))
            clear hb
            have Hhy := Lib.hid hy
            clear hy
            have Hhs := Lib.hid hs
            clear hs
            clear HPK
            have HMB : Hid (∀ k, k < yb.length → (mirB r yb).take (k + 1) = (mirB r yb).take k ++ [2 * r.mid - ix yb k]) := fun k hk => by
              rw [List.take_succ_eq_append_getElem (by simpa [mirB] using hk), ← ix_lt (by simpa [mirB] using hk), ix_mirB hk]
            have HMBL : Hid ((mirB r yb).length = yb.length) := by show _ = _; simp [mirB]
            have HMBT : Hid ((mirB r yb).take yb.length = mirB r yb) := by show _ = _; rw [← HMBL.out, List.take_length]
            go_wp2_with fail
            go_loopw [20, 21] (fun o i wr => ∃ k : Nat, k ≤ yb.length ∧ i = .int .i64 k ∧ OwnI u4.heap.size wr o ((mirB r yb).take k) ∧ Below u4.heap.size u4 wr) (fun _ i _ => yb.length - (intOf i).toNat)
            case atStart => exact ⟨0, by omega, rfl, by simp; exact OwnI.nil _ _, Below.refl _ _⟩
            case round =>
              obtain ⟨k, hk, rfl, hO, hb⟩ := hrel
              have HO := Lib.hid hO
              have HBr := Lib.hid hb
              obtain ⟨Ao, co2, rfl⟩ := hO.form
              have hwr : u4.heap.size ≤ wr.heap.size := hb.size
              clear hO
              by_cases h1 : k < yb.length
              · have h1i : (k : Int) < (yb.length : Int) := by omega
                obtain ⟨b, off, rfl, hb0, c1⟩ := (Hhy.out.below hb).at_ h1
                have z1 := cell_of_ans hb k1
                have ltz1 : w.heap.size < u4.heap.size := by have := World.block_lt_of_cell? _ _ k1; exact this
                have hg := HPB.out k h1
                have HT := Lib.hid (HMB.out k h1)
                have hmtl : ((mirB r yb).take k).length ≤ 1000000 := by simp; omega
                generalize (mirB r yb).take k = tk at *
                generalize ix yb k = y at *
                have hw1 : IntKind.i64.wrap (2 * r.mid) = 2 * r.mid := IntWalk.i64_in _ (by omega)
                have hw2 : IntKind.i64.wrap (2 * r.mid - y) = 2 * r.mid - y := IntWalk.i64_in _ (by omega)
                have HOd : Hid (OwnI u4.heap.size wr.drew (.slice Ao tk.length co2) tk) := HO.out.kept (Below.refl _ _).drew
                clear hb hg
                go_upto_region 26 with fail
                refine wp_region_noPanic ?_
                have hS : (fun W' : World => Below u4.heap.size wr W') wr.drew := (Below.refl _ _).drew
                refine wp_region_any (by kernel_rfl) (wpAny_of_T (S := fun W' : World => Below u4.heap.size wr W') (m := 12) _ _ _ _ ?_)
                refine' T_take (i := 0) (v := _) rfl (by kernel_rfl) (by kernel_rfl) (by kernel_rfl) (by kernel_rfl) (fun _ _ _ h => h) (by kernel_rfl) hS ?_ ?_
                rotate_left 1
                · intro Wv hW
                  replace c1 := (hW.cell (p := ⟨b, off + k, none⟩) hb0).trans c1
                  replace z1 := (hW.cell (p := ⟨w.heap.size, 1, none⟩) ltz1).trans z1
                  go_simp
                  first | done | with_reducible rfl | omega
                try simp only [Act.put, List.setIfInBounds_toArray, List.set_cons_zero, List.set_cons_succ]
                refine' T_take (i := 1) (v := _) rfl (by kernel_rfl) (by kernel_rfl) (by kernel_rfl) (by kernel_rfl) (fun _ _ _ h => h) (by kernel_rfl) hS ?_ ?_
                rotate_left 1
                · intro Wv hW
                  replace c1 := (hW.cell (p := ⟨b, off + k, none⟩) hb0).trans c1
                  replace z1 := (hW.cell (p := ⟨w.heap.size, 1, none⟩) ltz1).trans z1
                  go_simp
                  first | done | with_reducible rfl | omega
                try simp only [Act.put, List.setIfInBounds_toArray, List.set_cons_zero, List.set_cons_succ]
                refine' T_take (i := 2) (v := _) rfl (by kernel_rfl) (by kernel_rfl) (by kernel_rfl) (by kernel_rfl) (fun _ _ _ h => h) (by kernel_rfl) hS ?_ ?_
                rotate_left 1
                · intro Wv hW
                  replace c1 := (hW.cell (p := ⟨b, off + k, none⟩) hb0).trans c1
                  replace z1 := (hW.cell (p := ⟨w.heap.size, 1, none⟩) ltz1).trans z1
                  go_simp
                  first | done | with_reducible rfl | omega
                try simp only [Act.put, List.setIfInBounds_toArray, List.set_cons_zero, List.set_cons_succ]
                refine' T_take (i := 3) (v := _) rfl (by kernel_rfl) (by kernel_rfl) (by kernel_rfl) (by kernel_rfl) (fun _ _ _ h => h) (by kernel_rfl) hS ?_ ?_
                rotate_left 1
                · intro Wv hW
                  replace c1 := (hW.cell (p := ⟨b, off + k, none⟩) hb0).trans c1
                  replace z1 := (hW.cell (p := ⟨w.heap.size, 1, none⟩) ltz1).trans z1
                  go_simp
                  first | done | with_reducible rfl | omega
                try simp only [Act.put, List.setIfInBounds_toArray, List.set_cons_zero, List.set_cons_succ]
                refine' T_take (i := 4) (v := _) rfl (by kernel_rfl) (by kernel_rfl) (by kernel_rfl) (by kernel_rfl) (fun _ _ _ h => h) (by kernel_rfl) hS ?_ ?_
                rotate_left 1
                · intro Wv hW
                  replace c1 := (hW.cell (p := ⟨b, off + k, none⟩) hb0).trans c1
                  replace z1 := (hW.cell (p := ⟨w.heap.size, 1, none⟩) ltz1).trans z1
                  go_simp
                  first | done | with_reducible rfl | omega
                try simp only [Act.put, List.setIfInBounds_toArray, List.set_cons_zero, List.set_cons_succ]
                refine' T_take (i := 5) (v := _) rfl (by kernel_rfl) (by kernel_rfl) (by kernel_rfl) (by kernel_rfl) (fun _ _ _ h => h) (by kernel_rfl) hS ?_ ?_
                rotate_left 1
                · intro Wv hW
                  replace c1 := (hW.cell (p := ⟨b, off + k, none⟩) hb0).trans c1
                  replace z1 := (hW.cell (p := ⟨w.heap.size, 1, none⟩) ltz1).trans z1
                  go_simp
                  first | done | with_reducible rfl | omega
                try simp only [Act.put, List.setIfInBounds_toArray, List.set_cons_zero, List.set_cons_succ]
                refine' T_take (i := 6) (v := _) rfl (by kernel_rfl) (by kernel_rfl) (by kernel_rfl) (by kernel_rfl) (fun _ _ _ h => h) (by kernel_rfl) hS ?_ ?_
                rotate_left 1
                · intro Wv hW
                  replace c1 := (hW.cell (p := ⟨b, off + k, none⟩) hb0).trans c1
                  replace z1 := (hW.cell (p := ⟨w.heap.size, 1, none⟩) ltz1).trans z1
                  go_simp
                  first | done | with_reducible rfl | omega
                try simp only [Act.put, List.setIfInBounds_toArray, List.set_cons_zero, List.set_cons_succ]
                refine' T_take (i := 7) (v := _) rfl (by kernel_rfl) (by kernel_rfl) (by kernel_rfl) (by kernel_rfl) (fun _ _ _ h => h) (by kernel_rfl) hS ?_ ?_
                rotate_left 1
                · intro Wv hW
                  replace c1 := (hW.cell (p := ⟨b, off + k, none⟩) hb0).trans c1
                  replace z1 := (hW.cell (p := ⟨w.heap.size, 1, none⟩) ltz1).trans z1
                  go_simp
                  first | done | with_reducible rfl | omega
                try simp only [Act.put, List.setIfInBounds_toArray, List.set_cons_zero, List.set_cons_succ]
                refine' T_take (i := 8) (v := _) rfl (by kernel_rfl) (by kernel_rfl) (by kernel_rfl) (by kernel_rfl) (fun _ _ _ h => h) (by kernel_rfl) hS ?_ ?_
                rotate_left 1
                · intro Wv hW
                  replace c1 := (hW.cell (p := ⟨b, off + k, none⟩) hb0).trans c1
                  replace z1 := (hW.cell (p := ⟨w.heap.size, 1, none⟩) ltz1).trans z1
                  go_simp
                  first | done | with_reducible rfl | omega
                try simp only [Act.put, List.setIfInBounds_toArray, List.set_cons_zero, List.set_cons_succ]
                refine T_ready (rs := [9]) (by kernel_rfl) (by simp) ?_
                refine TReady.cons rfl (fun K hK => ?_) TReady.nil
                try go_simp
                refine hK.out _ _ (fun _ => hS.alloc (Nat.le_trans hwr hS.size) _) (fun hS2 => ?_)
                replace hS := hS2 (by decide)
                clear hS2 hK K
                try simp only [Act.put, List.setIfInBounds_toArray, List.set_cons_zero, List.set_cons_succ]
                refine T_ready (rs := [10]) (by kernel_rfl) (by simp) ?_
                refine TReady.cons rfl (fun K hK => ?_) TReady.nil
                refine step_app_int (.tmp 143) (.tmp 152) rfl rfl u4.heap.size wr.drew _ tk (2 * r.mid - y) rfl rfl HOd hmtl hwr ?_
                intro A9 c9 w9 HO2 HB2
                refine hK.out _ _ (fun _ => below_drew_l HB2.out) (fun hS2 => ?_)
                replace hS := hS2 (by decide)
                clear hK K hS2
                try simp only [Act.put, List.setIfInBounds_toArray, List.set_cons_zero, List.set_cons_succ]
                refine' T_take (i := 11) (v := _) rfl (by kernel_rfl) (by kernel_rfl) (by kernel_rfl) (by kernel_rfl) (fun _ _ _ h => h) (by kernel_rfl) hS ?_ ?_
                rotate_left 1
                · intro Wv hW
                  replace c1 := (hW.cell (p := ⟨b, off + k, none⟩) hb0).trans c1
                  replace z1 := (hW.cell (p := ⟨w.heap.size, 1, none⟩) ltz1).trans z1
                  go_simp
                  first | done | with_reducible rfl | omega
                try simp only [Act.put, List.setIfInBounds_toArray, List.set_cons_zero, List.set_cons_succ]
                refine T_done (by kernel_rfl) ?_ _
                refine NoPanic.normal ?_
                try go_simp
                go_wp2_with fail
                go_roundw
                case rel => exact ⟨k + 1, by omega, by go_num, by rw [HT.out]; exact HO2.out, HBr.out.trans hS⟩
                case measure => simp [intOf]; omega
              · obtain rfl : k = yb.length := by omega
                have h1i : ¬ (yb.length : Int) < (yb.length : Int) := by omega
                have htk := HMBT.out
                rw [htk] at HO
                simp only [htk]
                obtain ⟨hpc1, hpc2, hpp⟩ := isInts_parts HO.out.isInts
                have HPM := Lib.hid hpp
                clear htk HMB HMBL HMBT HPB HBr hpp HO
                replace k0 := cell_of_ans hb k0
                replace k1 := cell_of_ans hb k1
                replace k2 := cell_of_ans hb k2
                replace k3 := cell_of_ans hb k3
                replace k4 := cell_of_ans hb k4
                replace m0 := cell_of_ans hb m0
                replace m1 := cell_of_ans hb m1
                replace m2 := cell_of_ans hb m2
                replace m3 := cell_of_ans hb m3
                replace m4 := cell_of_ans hb m4
                replace HL := Lib.hid (HL.out.step hb)
                replace HX := Lib.hid (HX.out.step hb)
                replace HBa := Lib.hid (HBa.out.step hb)
                replace HWs := Lib.hid (HWs.out.step hb)
                replace HLM := Lib.hid (HLM.out.step hb)
                replace HGM := Lib.hid (HGM.out.step hb)
                replace Hhy := Lib.hid (Hhy.out.step hb)
                replace Hhs := Lib.hid (Hhs.out.step hb)
                replace HB := Lib.hid (HB.out.trans (hb.mono HB.out.size))
                clear hb
                generalize mirB r yb = mb at *
                generalize wr = t0 at *
                go_wp2_with fail
                refine (rack18_c r A c _ HL.out hc hlen).mono ?_
                rintro e t1 ⟨A7, c7, rfl, ⟨hl7, hc7⟩, hb⟩
                replace k0 := cell_of_ans hb k0
                replace k1 := cell_of_ans hb k1
                replace k2 := cell_of_ans hb k2
                replace k3 := cell_of_ans hb k3
                replace k4 := cell_of_ans hb k4
                replace m0 := cell_of_ans hb m0
                replace m1 := cell_of_ans hb m1
                replace m2 := cell_of_ans hb m2
                replace m3 := cell_of_ans hb m3
                replace m4 := cell_of_ans hb m4
                replace HL := Lib.hid (HL.out.step hb)
                replace HX := Lib.hid (HX.out.step hb)
                replace HBa := Lib.hid (HBa.out.step hb)
                replace HWs := Lib.hid (HWs.out.step hb)
                replace HLM := Lib.hid (HLM.out.step hb)
                replace HGM := Lib.hid (HGM.out.step hb)
                replace Hhy := Lib.hid (Hhy.out.step hb)
                replace Hhs := Lib.hid (Hhs.out.step hb)
                replace HPM := Lib.hid (HPM.out.step hb)
                replace HB := Lib.hid (HB.out.trans (hb.mono HB.out.size))
                clear hb
                have Hhl7 := Lib.hid hl7
                clear hl7
                go_wp2_with fail
                refine (list_c xA xs cx _ HX.out hxl).mono ?_
                rintro e t2 ⟨B7, d7, rfl, ho7, hb⟩
                obtain ⟨hd7, he7, hi7⟩ := isInts_parts (ownsRow_isInts ho7)
                clear ho7
                replace k0 := cell_of_ans hb k0
                replace k1 := cell_of_ans hb k1
                replace k2 := cell_of_ans hb k2
                replace k3 := cell_of_ans hb k3
                replace k4 := cell_of_ans hb k4
                replace m0 := cell_of_ans hb m0
                replace m1 := cell_of_ans hb m1
                replace m2 := cell_of_ans hb m2
                replace m3 := cell_of_ans hb m3
                replace m4 := cell_of_ans hb m4
                replace HL := Lib.hid (HL.out.step hb)
                replace HX := Lib.hid (HX.out.step hb)
                replace HBa := Lib.hid (HBa.out.step hb)
                replace HWs := Lib.hid (HWs.out.step hb)
                replace HLM := Lib.hid (HLM.out.step hb)
                replace HGM := Lib.hid (HGM.out.step hb)
                replace Hhy := Lib.hid (Hhy.out.step hb)
                replace Hhs := Lib.hid (Hhs.out.step hb)
                replace HPM := Lib.hid (HPM.out.step hb)
                replace Hhl7 := Lib.hid (Hhl7.out.step hb)
                replace HB := Lib.hid (HB.out.trans (hb.mono HB.out.size))
                clear hb
                have Hhi7 := Lib.hid hi7
                clear hi7
                go_wp2_with fail
                refine (ball20_c Ab cb ball _ HBa.out hcb hbl).mono ?_
                rintro e t3 ⟨G7, g7, rfl, ⟨hg7, hh7, hj7⟩, hb⟩
                replace k0 := cell_of_ans hb k0
                replace k1 := cell_of_ans hb k1
                replace k2 := cell_of_ans hb k2
                replace k3 := cell_of_ans hb k3
                replace k4 := cell_of_ans hb k4
                replace m0 := cell_of_ans hb m0
                replace m1 := cell_of_ans hb m1
                replace m2 := cell_of_ans hb m2
                replace m3 := cell_of_ans hb m3
                replace m4 := cell_of_ans hb m4
                replace HL := Lib.hid (HL.out.step hb)
                replace HX := Lib.hid (HX.out.step hb)
                replace HBa := Lib.hid (HBa.out.step hb)
                replace HWs := Lib.hid (HWs.out.step hb)
                replace HLM := Lib.hid (HLM.out.step hb)
                replace HGM := Lib.hid (HGM.out.step hb)
                replace Hhy := Lib.hid (Hhy.out.step hb)
                replace Hhs := Lib.hid (Hhs.out.step hb)
                replace HPM := Lib.hid (HPM.out.step hb)
                replace Hhl7 := Lib.hid (Hhl7.out.step hb)
                replace Hhi7 := Lib.hid (Hhi7.out.step hb)
                replace HB := Lib.hid (HB.out.trans (hb.mono HB.out.size))
                clear hb
                have Hhg7 := Lib.hid hg7
                clear hg7
                go_wp2_with fail
                refine (HHit.out _ _ _ _ _ _ _ _ _ _ _ Hhl7.out hc7 Hhi7.out ⟨hd7, he7⟩ Hhg7.out ⟨hh7, hj7⟩ Hhy.out hcy Hhs.out hcs).mono ?_
                rintro e t4 ⟨lA, cl, rfl, ho, hb⟩
                replace k0 := cell_of_ans hb k0
                replace k1 := cell_of_ans hb k1
                replace k2 := cell_of_ans hb k2
                replace k3 := cell_of_ans hb k3
                replace k4 := cell_of_ans hb k4
                replace m0 := cell_of_ans hb m0
                replace m1 := cell_of_ans hb m1
                replace m2 := cell_of_ans hb m2
                replace m3 := cell_of_ans hb m3
                replace m4 := cell_of_ans hb m4
                replace HL := Lib.hid (HL.out.step hb)
                replace HX := Lib.hid (HX.out.step hb)
                replace HBa := Lib.hid (HBa.out.step hb)
                replace HWs := Lib.hid (HWs.out.step hb)
                replace HLM := Lib.hid (HLM.out.step hb)
                replace HGM := Lib.hid (HGM.out.step hb)
                replace Hhy := Lib.hid (Hhy.out.step hb)
                replace Hhs := Lib.hid (Hhs.out.step hb)
                replace HPM := Lib.hid (HPM.out.step hb)
                replace Hhl7 := Lib.hid (Hhl7.out.step hb)
                replace Hhi7 := Lib.hid (Hhi7.out.step hb)
                replace Hhg7 := Lib.hid (Hhg7.out.step hb)
                replace HB := Lib.hid (HB.out.trans (hb.mono HB.out.size))
                clear hb
                obtain ⟨hcl1, hcl2, hle⟩ := isInts_parts (ownsRow_isInts ho)
                have Hle := Lib.hid hle
                clear ho hle HHit
                clear Hhl7 Hhi7 Hhg7 Hhy
                go_upto_region 28 with fail
                refine wp_region_noPanic ?_
                have hS : (fun W' : World => Below t4.heap.size t4 W') t4.drew := (Below.refl _ _).drew
                refine wp_region_any (by kernel_rfl) (wpAny_of_T (S := fun W' : World => Below t4.heap.size t4 W') (m := 15) _ _ _ _ ?_)
                refine' T_take (i := 0) (v := _) rfl (by kernel_rfl) (by kernel_rfl) (by kernel_rfl) (by kernel_rfl) (fun _ _ _ h => h) (by kernel_rfl) hS ?_ ?_
                rotate_left 1
                · intro Wv hW
                  replace k0 := cell_of_ans hW k0
                  replace k1 := cell_of_ans hW k1
                  replace k2 := cell_of_ans hW k2
                  replace k3 := cell_of_ans hW k3
                  replace k4 := cell_of_ans hW k4
                  replace m0 := cell_of_ans hW m0
                  replace m1 := cell_of_ans hW m1
                  replace m2 := cell_of_ans hW m2
                  replace m3 := cell_of_ans hW m3
                  replace m4 := cell_of_ans hW m4
                  go_simp
                  first | done | with_reducible rfl | omega
                try simp only [Act.put, List.setIfInBounds_toArray, List.set_cons_zero, List.set_cons_succ]
                refine' T_take (i := 2) (v := _) rfl (by kernel_rfl) (by kernel_rfl) (by kernel_rfl) (by kernel_rfl) (fun _ _ _ h => h) (by kernel_rfl) hS ?_ ?_
                rotate_left 1
                · intro Wv hW
                  replace k0 := cell_of_ans hW k0
                  replace k1 := cell_of_ans hW k1
                  replace k2 := cell_of_ans hW k2
                  replace k3 := cell_of_ans hW k3
                  replace k4 := cell_of_ans hW k4
                  replace m0 := cell_of_ans hW m0
                  replace m1 := cell_of_ans hW m1
                  replace m2 := cell_of_ans hW m2
                  replace m3 := cell_of_ans hW m3
                  replace m4 := cell_of_ans hW m4
                  go_simp
                  first | done | with_reducible rfl | omega
                try simp only [Act.put, List.setIfInBounds_toArray, List.set_cons_zero, List.set_cons_succ]
                refine' T_take (i := 3) (v := _) rfl (by kernel_rfl) (by kernel_rfl) (by kernel_rfl) (by kernel_rfl) (fun _ _ _ h => h) (by kernel_rfl) hS ?_ ?_
                rotate_left 1
                · intro Wv hW
                  replace k0 := cell_of_ans hW k0
                  replace k1 := cell_of_ans hW k1
                  replace k2 := cell_of_ans hW k2
                  replace k3 := cell_of_ans hW k3
                  replace k4 := cell_of_ans hW k4
                  replace m0 := cell_of_ans hW m0
                  replace m1 := cell_of_ans hW m1
                  replace m2 := cell_of_ans hW m2
                  replace m3 := cell_of_ans hW m3
                  replace m4 := cell_of_ans hW m4
                  go_simp
                  first | done | with_reducible rfl | omega
                try simp only [Act.put, List.setIfInBounds_toArray, List.set_cons_zero, List.set_cons_succ]
                refine' T_take (i := 5) (v := _) rfl (by kernel_rfl) (by kernel_rfl) (by kernel_rfl) (by kernel_rfl) (fun _ _ _ h => h) (by kernel_rfl) hS ?_ ?_
                rotate_left 1
                · intro Wv hW
                  replace k0 := cell_of_ans hW k0
                  replace k1 := cell_of_ans hW k1
                  replace k2 := cell_of_ans hW k2
                  replace k3 := cell_of_ans hW k3
                  replace k4 := cell_of_ans hW k4
                  replace m0 := cell_of_ans hW m0
                  replace m1 := cell_of_ans hW m1
                  replace m2 := cell_of_ans hW m2
                  replace m3 := cell_of_ans hW m3
                  replace m4 := cell_of_ans hW m4
                  go_simp
                  first | done | with_reducible rfl | omega
                try simp only [Act.put, List.setIfInBounds_toArray, List.set_cons_zero, List.set_cons_succ]
                refine' T_take (i := 7) (v := _) rfl (by kernel_rfl) (by kernel_rfl) (by kernel_rfl) (by kernel_rfl) (fun _ _ _ h => h) (by kernel_rfl) hS ?_ ?_
                rotate_left 1
                · intro Wv hW
                  replace k0 := cell_of_ans hW k0
                  replace k1 := cell_of_ans hW k1
                  replace k2 := cell_of_ans hW k2
                  replace k3 := cell_of_ans hW k3
                  replace k4 := cell_of_ans hW k4
                  replace m0 := cell_of_ans hW m0
                  replace m1 := cell_of_ans hW m1
                  replace m2 := cell_of_ans hW m2
                  replace m3 := cell_of_ans hW m3
                  replace m4 := cell_of_ans hW m4
                  go_simp
                  first | done | with_reducible rfl | omega
                try simp only [Act.put, List.setIfInBounds_toArray, List.set_cons_zero, List.set_cons_succ]
                refine' T_take (i := 8) (v := _) rfl (by kernel_rfl) (by kernel_rfl) (by kernel_rfl) (by kernel_rfl) (fun _ _ _ h => h) (by kernel_rfl) hS ?_ ?_
                rotate_left 1
                · intro Wv hW
                  replace k0 := cell_of_ans hW k0
                  replace k1 := cell_of_ans hW k1
                  replace k2 := cell_of_ans hW k2
                  replace k3 := cell_of_ans hW k3
                  replace k4 := cell_of_ans hW k4
                  replace m0 := cell_of_ans hW m0
                  replace m1 := cell_of_ans hW m1
                  replace m2 := cell_of_ans hW m2
                  replace m3 := cell_of_ans hW m3
                  replace m4 := cell_of_ans hW m4
                  go_simp
                  first | done | with_reducible rfl | omega
                try simp only [Act.put, List.setIfInBounds_toArray, List.set_cons_zero, List.set_cons_succ]
                refine T_ready (rs := [1]) (by kernel_rfl) (by simp) ?_
                refine TReady.cons rfl (fun K hK => ?_) TReady.nil
                try go_simp
                refine (HRM.out _ _ _ (HLM.out.step hS) HMC.out).mono ?_
                rintro e t5 ⟨A8, c8, rfl, ⟨hl8, hc8⟩, hb⟩
                have hS2 : Below t4.heap.size t4 t5 := below_cat hb hS
                have Hhl8 := Lib.hid hl8
                clear hl8
                try go_simp
                refine hK.out _ _ (fun _ => hS2) (fun _ => ?_)
                clear hK K hS hb
                replace hS := hS2
                clear hS2
                try simp only [Act.put, List.setIfInBounds_toArray, List.set_cons_zero, List.set_cons_succ]
                refine T_ready (rs := [4]) (by kernel_rfl) (by simp) ?_
                refine TReady.cons rfl (fun K hK => ?_) TReady.nil
                try go_simp
                refine (HTX.out _ (HX.out.step hS)).mono ?_
                rintro e t6 ⟨T8, e8, rfl, ho8, hb⟩
                have hS2 : Below t4.heap.size t4 t6 := below_cat hb hS
                obtain ⟨hta8, htb8, hti8⟩ := isInts_parts (ownsRow_isInts ho8)
                have Hti8 := Lib.hid hti8
                clear hti8 ho8
                replace Hhl8 := Lib.hid (Hhl8.out.step hb)
                try go_simp
                refine hK.out _ _ (fun _ => hS2) (fun _ => ?_)
                clear hK K hS hb
                replace hS := hS2
                clear hS2
                try simp only [Act.put, List.setIfInBounds_toArray, List.set_cons_zero, List.set_cons_succ]
                refine T_ready (rs := [6]) (by kernel_rfl) (by simp) ?_
                refine TReady.cons rfl (fun K hK => ?_) TReady.nil
                try go_simp
                refine (ball20_c Gm co gs _ (HGM.out.step hS) HGC.out hgl).mono ?_
                rintro e t7 ⟨G8, g8, rfl, ⟨hg8, hh8⟩, hb⟩
                have hS2 : Below t4.heap.size t4 t7 := below_cat hb hS
                have Hhg8 := Lib.hid hg8
                clear hg8
                replace Hhl8 := Lib.hid (Hhl8.out.step hb)
                replace Hti8 := Lib.hid (Hti8.out.step hb)
                try go_simp
                refine hK.out _ _ (fun _ => hS2) (fun _ => ?_)
                clear hK K hS hb
                replace hS := hS2
                clear hS2
                try simp only [Act.put, List.setIfInBounds_toArray, List.set_cons_zero, List.set_cons_succ]
                refine T_ready (rs := [9]) (by kernel_rfl) (by simp) ?_
                refine TReady.cons rfl (fun K hK => ?_) TReady.nil
                try go_simp
                refine (HHiM.out _ _ _ _ _ _ _ _ _ _ _ Hhl8.out hc8 Hti8.out ⟨hta8, htb8⟩ Hhg8.out hh8 (HPM.out.step hS) ⟨hpc1, hpc2⟩ (Hhs.out.step hS) hcs).mono ?_
                rintro e t8 ⟨mA, cm, rfl, ho, hb⟩
                have hS2 : Below t4.heap.size t4 t8 := below_cat hb hS
                obtain ⟨hcm1, hcm2, hme⟩ := isInts_parts (ownsRow_isInts ho)
                have Hme := Lib.hid hme
                clear ho hme Hhl8 Hti8 Hhg8
                try go_simp
                refine hK.out _ _ (fun _ => hS2) (fun _ => ?_)
                clear hK K hS hb
                replace hS := hS2
                clear hS2
                try simp only [Act.put, List.setIfInBounds_toArray, List.set_cons_zero, List.set_cons_succ]
                refine' T_take (i := 10) (v := _) rfl (by kernel_rfl) (by kernel_rfl) (by kernel_rfl) (by kernel_rfl) (fun _ _ _ h => h) (by kernel_rfl) hS ?_ ?_
                rotate_left 1
                · intro Wv hW
                  replace k0 := cell_of_ans hW k0
                  replace k1 := cell_of_ans hW k1
                  replace k2 := cell_of_ans hW k2
                  replace k3 := cell_of_ans hW k3
                  replace k4 := cell_of_ans hW k4
                  replace m0 := cell_of_ans hW m0
                  replace m1 := cell_of_ans hW m1
                  replace m2 := cell_of_ans hW m2
                  replace m3 := cell_of_ans hW m3
                  replace m4 := cell_of_ans hW m4
                  go_simp
                  first | done | with_reducible rfl | omega
                try simp only [Act.put, List.setIfInBounds_toArray, List.set_cons_zero, List.set_cons_succ]
                refine' T_take (i := 11) (v := _) rfl (by kernel_rfl) (by kernel_rfl) (by kernel_rfl) (by kernel_rfl) (fun _ _ _ h => h) (by kernel_rfl) hS ?_ ?_
                rotate_left 1
                · intro Wv hW
                  replace k0 := cell_of_ans hW k0
                  replace k1 := cell_of_ans hW k1
                  replace k2 := cell_of_ans hW k2
                  replace k3 := cell_of_ans hW k3
                  replace k4 := cell_of_ans hW k4
                  replace m0 := cell_of_ans hW m0
                  replace m1 := cell_of_ans hW m1
                  replace m2 := cell_of_ans hW m2
                  replace m3 := cell_of_ans hW m3
                  replace m4 := cell_of_ans hW m4
                  go_simp
                  first | done | with_reducible rfl | omega
                try simp only [Act.put, List.setIfInBounds_toArray, List.set_cons_zero, List.set_cons_succ]
                refine' T_take (i := 12) (v := _) rfl (by kernel_rfl) (by kernel_rfl) (by kernel_rfl) (by kernel_rfl) (fun _ _ _ h => h) (by kernel_rfl) hS ?_ ?_
                rotate_left 1
                · intro Wv hW
                  replace k0 := cell_of_ans hW k0
                  replace k1 := cell_of_ans hW k1
                  replace k2 := cell_of_ans hW k2
                  replace k3 := cell_of_ans hW k3
                  replace k4 := cell_of_ans hW k4
                  replace m0 := cell_of_ans hW m0
                  replace m1 := cell_of_ans hW m1
                  replace m2 := cell_of_ans hW m2
                  replace m3 := cell_of_ans hW m3
                  replace m4 := cell_of_ans hW m4
                  go_simp
                  first | done | with_reducible rfl | omega
                try simp only [Act.put, List.setIfInBounds_toArray, List.set_cons_zero, List.set_cons_succ]
                refine' T_take (i := 13) (v := _) rfl (by kernel_rfl) (by kernel_rfl) (by kernel_rfl) (by kernel_rfl) (fun _ _ _ h => h) (by kernel_rfl) hS ?_ ?_
                rotate_left 1
                · intro Wv hW
                  replace k0 := cell_of_ans hW k0
                  replace k1 := cell_of_ans hW k1
                  replace k2 := cell_of_ans hW k2
                  replace k3 := cell_of_ans hW k3
                  replace k4 := cell_of_ans hW k4
                  replace m0 := cell_of_ans hW m0
                  replace m1 := cell_of_ans hW m1
                  replace m2 := cell_of_ans hW m2
                  replace m3 := cell_of_ans hW m3
                  replace m4 := cell_of_ans hW m4
                  go_simp
                  first | done | with_reducible rfl | omega
                try simp only [Act.put, List.setIfInBounds_toArray, List.set_cons_zero, List.set_cons_succ]
                refine' T_take (i := 14) (v := _) rfl (by kernel_rfl) (by kernel_rfl) (by kernel_rfl) (by kernel_rfl) (fun _ _ _ h => h) (by kernel_rfl) hS ?_ ?_
                rotate_left 1
                · intro Wv hW
                  replace k0 := cell_of_ans hW k0
                  replace k1 := cell_of_ans hW k1
                  replace k2 := cell_of_ans hW k2
                  replace k3 := cell_of_ans hW k3
                  replace k4 := cell_of_ans hW k4
                  replace m0 := cell_of_ans hW m0
                  replace m1 := cell_of_ans hW m1
                  replace m2 := cell_of_ans hW m2
                  replace m3 := cell_of_ans hW m3
                  replace m4 := cell_of_ans hW m4
                  go_simp
                  first | done | with_reducible rfl | omega
                try simp only [Act.put, List.setIfInBounds_toArray, List.set_cons_zero, List.set_cons_succ]
                refine T_done (by kernel_rfl) ?_ _
                refine NoPanic.normal ?_
                try go_simp
                have hb := hS
                clear hS
                replace k0 := cell_of_ans hb k0
                replace k1 := cell_of_ans hb k1
                replace k2 := cell_of_ans hb k2
                replace k3 := cell_of_ans hb k3
                replace k4 := cell_of_ans hb k4
                replace m0 := cell_of_ans hb m0
                replace m1 := cell_of_ans hb m1
                replace m2 := cell_of_ans hb m2
                replace m3 := cell_of_ans hb m3
                replace m4 := cell_of_ans hb m4
                replace HL := Lib.hid (HL.out.step hb)
                replace HX := Lib.hid (HX.out.step hb)
                replace HBa := Lib.hid (HBa.out.step hb)
                replace HWs := Lib.hid (HWs.out.step hb)
                replace HLM := Lib.hid (HLM.out.step hb)
                replace HGM := Lib.hid (HGM.out.step hb)
                replace Hhs := Lib.hid (Hhs.out.step hb)
                replace HPM := Lib.hid (HPM.out.step hb)
                replace Hle := Lib.hid (Hle.out.step hb)
                replace HB := Lib.hid (HB.out.trans (hb.mono HB.out.size))
                clear hb
                clear Hhs HPM
                clear HHiM
                go_wp2_with fail
                refine (rack18_c r A c _ HL.out hc hlen).mono ?_
                rintro e s1 ⟨A9, c9, rfl, ⟨hl9, hc9⟩, hb⟩
                replace k0 := cell_of_ans hb k0
                replace k1 := cell_of_ans hb k1
                replace k2 := cell_of_ans hb k2
                replace k3 := cell_of_ans hb k3
                replace k4 := cell_of_ans hb k4
                replace m0 := cell_of_ans hb m0
                replace m1 := cell_of_ans hb m1
                replace m2 := cell_of_ans hb m2
                replace m3 := cell_of_ans hb m3
                replace m4 := cell_of_ans hb m4
                replace HL := Lib.hid (HL.out.step hb)
                replace HX := Lib.hid (HX.out.step hb)
                replace HBa := Lib.hid (HBa.out.step hb)
                replace HWs := Lib.hid (HWs.out.step hb)
                replace HLM := Lib.hid (HLM.out.step hb)
                replace HGM := Lib.hid (HGM.out.step hb)
                replace Hle := Lib.hid (Hle.out.step hb)
                replace Hme := Lib.hid (Hme.out.step hb)
                replace HB := Lib.hid (HB.out.trans (hb.mono HB.out.size))
                clear hb
                have Hhl9 := Lib.hid hl9
                clear hl9
                go_wp2_with fail
                refine (list_c xA xs cx _ HX.out hxl).mono ?_
                rintro e s2 ⟨B9, d9, rfl, ho9, hb⟩
                obtain ⟨hd9, he9, hi9⟩ := isInts_parts (ownsRow_isInts ho9)
                clear ho9
                replace k0 := cell_of_ans hb k0
                replace k1 := cell_of_ans hb k1
                replace k2 := cell_of_ans hb k2
                replace k3 := cell_of_ans hb k3
                replace k4 := cell_of_ans hb k4
                replace m0 := cell_of_ans hb m0
                replace m1 := cell_of_ans hb m1
                replace m2 := cell_of_ans hb m2
                replace m3 := cell_of_ans hb m3
                replace m4 := cell_of_ans hb m4
                replace HL := Lib.hid (HL.out.step hb)
                replace HX := Lib.hid (HX.out.step hb)
                replace HBa := Lib.hid (HBa.out.step hb)
                replace HWs := Lib.hid (HWs.out.step hb)
                replace HLM := Lib.hid (HLM.out.step hb)
                replace HGM := Lib.hid (HGM.out.step hb)
                replace Hle := Lib.hid (Hle.out.step hb)
                replace Hme := Lib.hid (Hme.out.step hb)
                replace Hhl9 := Lib.hid (Hhl9.out.step hb)
                replace HB := Lib.hid (HB.out.trans (hb.mono HB.out.size))
                clear hb
                have Hhi9 := Lib.hid hi9
                clear hi9
                go_wp2_with fail
                refine (ball20_c Ab cb ball _ HBa.out hcb hbl).mono ?_
                rintro e s3 ⟨G9, g9, rfl, ⟨hg9, hh9, hj9⟩, hb⟩
                replace k0 := cell_of_ans hb k0
                replace k1 := cell_of_ans hb k1
                replace k2 := cell_of_ans hb k2
                replace k3 := cell_of_ans hb k3
                replace k4 := cell_of_ans hb k4
                replace m0 := cell_of_ans hb m0
                replace m1 := cell_of_ans hb m1
                replace m2 := cell_of_ans hb m2
                replace m3 := cell_of_ans hb m3
                replace m4 := cell_of_ans hb m4
                replace HL := Lib.hid (HL.out.step hb)
                replace HX := Lib.hid (HX.out.step hb)
                replace HBa := Lib.hid (HBa.out.step hb)
                replace HWs := Lib.hid (HWs.out.step hb)
                replace HLM := Lib.hid (HLM.out.step hb)
                replace HGM := Lib.hid (HGM.out.step hb)
                replace Hle := Lib.hid (Hle.out.step hb)
                replace Hme := Lib.hid (Hme.out.step hb)
                replace Hhl9 := Lib.hid (Hhl9.out.step hb)
                replace Hhi9 := Lib.hid (Hhi9.out.step hb)
                replace HB := Lib.hid (HB.out.trans (hb.mono HB.out.size))
                clear hb
                have Hhg9 := Lib.hid hg9
                clear hg9
                go_wp2_with fail
                refine (HFal.out _ _ _ _ _ _ _ Hhl9.out hc9 Hhi9.out ⟨hd9, he9⟩ Hhg9.out ⟨hh9, hj9⟩).mono ?_
                rintro e s4 ⟨fA, fc, gA, gc, rfl, ⟨hsl2, hsl3⟩, ⟨hml2, hml3⟩, hb⟩
                replace k0 := cell_of_ans hb k0
                replace k1 := cell_of_ans hb k1
                replace k2 := cell_of_ans hb k2
                replace k3 := cell_of_ans hb k3
                replace k4 := cell_of_ans hb k4
                replace m0 := cell_of_ans hb m0
                replace m1 := cell_of_ans hb m1
                replace m2 := cell_of_ans hb m2
                replace m3 := cell_of_ans hb m3
                replace m4 := cell_of_ans hb m4
                replace HL := Lib.hid (HL.out.step hb)
                replace HX := Lib.hid (HX.out.step hb)
                replace HBa := Lib.hid (HBa.out.step hb)
                replace HWs := Lib.hid (HWs.out.step hb)
                replace HLM := Lib.hid (HLM.out.step hb)
                replace HGM := Lib.hid (HGM.out.step hb)
                replace Hle := Lib.hid (Hle.out.step hb)
                replace Hme := Lib.hid (Hme.out.step hb)
                replace Hhl9 := Lib.hid (Hhl9.out.step hb)
                replace Hhi9 := Lib.hid (Hhi9.out.step hb)
                replace Hhg9 := Lib.hid (Hhg9.out.step hb)
                replace HB := Lib.hid (HB.out.trans (hb.mono HB.out.size))
                clear hb
                have Hhsl2 := Lib.hid hsl2
                clear hsl2
                have Hhml2 := Lib.hid hml2
                clear hml2
                clear Hhl9 Hhi9 Hhg9
                clear HFal
                go_upto_region 30 with fail
                refine wp_region_noPanic ?_
                have hS : (fun W' : World => Below s4.heap.size s4 W') s4.drew := (Below.refl _ _).drew
                refine wp_region_any (by kernel_rfl) (wpAny_of_T (S := fun W' : World => Below s4.heap.size s4 W') (m := 15) _ _ _ _ ?_)
                refine' T_take (i := 0) (v := _) rfl (by kernel_rfl) (by kernel_rfl) (by kernel_rfl) (by kernel_rfl) (fun _ _ _ h => h) (by kernel_rfl) hS ?_ ?_
                rotate_left 1
                · intro Wv hW
                  replace k0 := cell_of_ans hW k0
                  replace k1 := cell_of_ans hW k1
                  replace k2 := cell_of_ans hW k2
                  replace k3 := cell_of_ans hW k3
                  replace k4 := cell_of_ans hW k4
                  replace m0 := cell_of_ans hW m0
                  replace m1 := cell_of_ans hW m1
                  replace m2 := cell_of_ans hW m2
                  replace m3 := cell_of_ans hW m3
                  replace m4 := cell_of_ans hW m4
                  go_simp
                  first | done | with_reducible rfl | omega
                try simp only [Act.put, List.setIfInBounds_toArray, List.set_cons_zero, List.set_cons_succ]
                refine' T_take (i := 2) (v := _) rfl (by kernel_rfl) (by kernel_rfl) (by kernel_rfl) (by kernel_rfl) (fun _ _ _ h => h) (by kernel_rfl) hS ?_ ?_
                rotate_left 1
                · intro Wv hW
                  replace k0 := cell_of_ans hW k0
                  replace k1 := cell_of_ans hW k1
                  replace k2 := cell_of_ans hW k2
                  replace k3 := cell_of_ans hW k3
                  replace k4 := cell_of_ans hW k4
                  replace m0 := cell_of_ans hW m0
                  replace m1 := cell_of_ans hW m1
                  replace m2 := cell_of_ans hW m2
                  replace m3 := cell_of_ans hW m3
                  replace m4 := cell_of_ans hW m4
                  go_simp
                  first | done | with_reducible rfl | omega
                try simp only [Act.put, List.setIfInBounds_toArray, List.set_cons_zero, List.set_cons_succ]
                refine' T_take (i := 3) (v := _) rfl (by kernel_rfl) (by kernel_rfl) (by kernel_rfl) (by kernel_rfl) (fun _ _ _ h => h) (by kernel_rfl) hS ?_ ?_
                rotate_left 1
                · intro Wv hW
                  replace k0 := cell_of_ans hW k0
                  replace k1 := cell_of_ans hW k1
                  replace k2 := cell_of_ans hW k2
                  replace k3 := cell_of_ans hW k3
                  replace k4 := cell_of_ans hW k4
                  replace m0 := cell_of_ans hW m0
                  replace m1 := cell_of_ans hW m1
                  replace m2 := cell_of_ans hW m2
                  replace m3 := cell_of_ans hW m3
                  replace m4 := cell_of_ans hW m4
                  go_simp
                  first | done | with_reducible rfl | omega
                try simp only [Act.put, List.setIfInBounds_toArray, List.set_cons_zero, List.set_cons_succ]
                refine' T_take (i := 5) (v := _) rfl (by kernel_rfl) (by kernel_rfl) (by kernel_rfl) (by kernel_rfl) (fun _ _ _ h => h) (by kernel_rfl) hS ?_ ?_
                rotate_left 1
                · intro Wv hW
                  replace k0 := cell_of_ans hW k0
                  replace k1 := cell_of_ans hW k1
                  replace k2 := cell_of_ans hW k2
                  replace k3 := cell_of_ans hW k3
                  replace k4 := cell_of_ans hW k4
                  replace m0 := cell_of_ans hW m0
                  replace m1 := cell_of_ans hW m1
                  replace m2 := cell_of_ans hW m2
                  replace m3 := cell_of_ans hW m3
                  replace m4 := cell_of_ans hW m4
                  go_simp
                  first | done | with_reducible rfl | omega
                try simp only [Act.put, List.setIfInBounds_toArray, List.set_cons_zero, List.set_cons_succ]
                refine T_ready (rs := [1]) (by kernel_rfl) (by simp) ?_
                refine TReady.cons rfl (fun K hK => ?_) TReady.nil
                try go_simp
                refine (HRM.out _ _ _ (HLM.out.step hS) HMC.out).mono ?_
                rintro e r1 ⟨A6, c6, rfl, ⟨hl6, hc6⟩, hb⟩
                have hS2 : Below s4.heap.size s4 r1 := below_cat hb hS
                have Hhl6 := Lib.hid hl6
                clear hl6
                try go_simp
                refine hK.out _ _ (fun _ => hS2) (fun _ => ?_)
                clear hK K hS hb
                replace hS := hS2
                clear hS2
                try simp only [Act.put, List.setIfInBounds_toArray, List.set_cons_zero, List.set_cons_succ]
                refine T_ready (rs := [4]) (by kernel_rfl) (by simp) ?_
                refine TReady.cons rfl (fun K hK => ?_) TReady.nil
                try go_simp
                refine (HTX.out _ (HX.out.step hS)).mono ?_
                rintro e r2 ⟨T6, e6, rfl, ho6, hb⟩
                have hS2 : Below s4.heap.size s4 r2 := below_cat hb hS
                obtain ⟨hta6, htb6, hti6⟩ := isInts_parts (ownsRow_isInts ho6)
                have Hti6 := Lib.hid hti6
                clear hti6 ho6
                replace Hhl6 := Lib.hid (Hhl6.out.step hb)
                try go_simp
                refine hK.out _ _ (fun _ => hS2) (fun _ => ?_)
                clear hK K hS hb
                replace hS := hS2
                clear hS2
                try simp only [Act.put, List.setIfInBounds_toArray, List.set_cons_zero, List.set_cons_succ]
                refine T_ready (rs := [6]) (by kernel_rfl) (by simp) ?_
                refine TReady.cons rfl (fun K hK => ?_) TReady.nil
                try go_simp
                refine (ball20_c Gm co gs _ (HGM.out.step hS) HGC.out hgl).mono ?_
                rintro e r3 ⟨G6, g6, rfl, ⟨hg6, hh6⟩, hb⟩
                have hS2 : Below s4.heap.size s4 r3 := below_cat hb hS
                have Hhg6 := Lib.hid hg6
                clear hg6
                replace Hhl6 := Lib.hid (Hhl6.out.step hb)
                replace Hti6 := Lib.hid (Hti6.out.step hb)
                try go_simp
                refine hK.out _ _ (fun _ => hS2) (fun _ => ?_)
                clear hK K hS hb
                replace hS := hS2
                clear hS2
                try simp only [Act.put, List.setIfInBounds_toArray, List.set_cons_zero, List.set_cons_succ]
                refine T_ready (rs := [7]) (by kernel_rfl) (by simp) ?_
                refine TReady.cons rfl (fun K hK => ?_) TReady.nil
                try go_simp
                refine (HFaM.out _ _ _ _ _ _ _ Hhl6.out hc6 Hti6.out ⟨hta6, htb6⟩ Hhg6.out hh6).mono ?_
                rintro e r4 ⟨pA, pc, qA, qc, rfl, ⟨hps, hps2⟩, ⟨hqs, hqs2⟩, hb⟩
                have hS2 : Below s4.heap.size s4 r4 := below_cat hb hS
                have Hps := Lib.hid hps
                have Hqs := Lib.hid hqs
                clear hps hqs Hhl6 Hti6 Hhg6
                try go_simp
                refine hK.out _ _ (fun _ => hS2) (fun _ => ?_)
                clear hK K hS hb
                replace hS := hS2
                clear hS2
                try simp only [Act.put, List.setIfInBounds_toArray, List.set_cons_zero, List.set_cons_succ]
                refine' T_take (i := 8) (v := _) rfl (by kernel_rfl) (by kernel_rfl) (by kernel_rfl) (by kernel_rfl) (fun _ _ _ h => h) (by kernel_rfl) hS ?_ ?_
                rotate_left 1
                · intro Wv hW
                  replace k0 := cell_of_ans hW k0
                  replace k1 := cell_of_ans hW k1
                  replace k2 := cell_of_ans hW k2
                  replace k3 := cell_of_ans hW k3
                  replace k4 := cell_of_ans hW k4
                  replace m0 := cell_of_ans hW m0
                  replace m1 := cell_of_ans hW m1
                  replace m2 := cell_of_ans hW m2
                  replace m3 := cell_of_ans hW m3
                  replace m4 := cell_of_ans hW m4
                  go_simp
                  first | done | with_reducible rfl | omega
                try simp only [Act.put, List.setIfInBounds_toArray, List.set_cons_zero, List.set_cons_succ]
                refine' T_take (i := 9) (v := _) rfl (by kernel_rfl) (by kernel_rfl) (by kernel_rfl) (by kernel_rfl) (fun _ _ _ h => h) (by kernel_rfl) hS ?_ ?_
                rotate_left 1
                · intro Wv hW
                  replace k0 := cell_of_ans hW k0
                  replace k1 := cell_of_ans hW k1
                  replace k2 := cell_of_ans hW k2
                  replace k3 := cell_of_ans hW k3
                  replace k4 := cell_of_ans hW k4
                  replace m0 := cell_of_ans hW m0
                  replace m1 := cell_of_ans hW m1
                  replace m2 := cell_of_ans hW m2
                  replace m3 := cell_of_ans hW m3
                  replace m4 := cell_of_ans hW m4
                  go_simp
                  first | done | with_reducible rfl | omega
                try simp only [Act.put, List.setIfInBounds_toArray, List.set_cons_zero, List.set_cons_succ]
                refine' T_take (i := 10) (v := _) rfl (by kernel_rfl) (by kernel_rfl) (by kernel_rfl) (by kernel_rfl) (fun _ _ _ h => h) (by kernel_rfl) hS ?_ ?_
                rotate_left 1
                · intro Wv hW
                  replace k0 := cell_of_ans hW k0
                  replace k1 := cell_of_ans hW k1
                  replace k2 := cell_of_ans hW k2
                  replace k3 := cell_of_ans hW k3
                  replace k4 := cell_of_ans hW k4
                  replace m0 := cell_of_ans hW m0
                  replace m1 := cell_of_ans hW m1
                  replace m2 := cell_of_ans hW m2
                  replace m3 := cell_of_ans hW m3
                  replace m4 := cell_of_ans hW m4
                  go_simp
                  first | done | with_reducible rfl | omega
                try simp only [Act.put, List.setIfInBounds_toArray, List.set_cons_zero, List.set_cons_succ]
                refine' T_take (i := 11) (v := _) rfl (by kernel_rfl) (by kernel_rfl) (by kernel_rfl) (by kernel_rfl) (fun _ _ _ h => h) (by kernel_rfl) hS ?_ ?_
                rotate_left 1
                · intro Wv hW
                  replace k0 := cell_of_ans hW k0
                  replace k1 := cell_of_ans hW k1
                  replace k2 := cell_of_ans hW k2
                  replace k3 := cell_of_ans hW k3
                  replace k4 := cell_of_ans hW k4
                  replace m0 := cell_of_ans hW m0
                  replace m1 := cell_of_ans hW m1
                  replace m2 := cell_of_ans hW m2
                  replace m3 := cell_of_ans hW m3
                  replace m4 := cell_of_ans hW m4
                  go_simp
                  first | done | with_reducible rfl | omega
                try simp only [Act.put, List.setIfInBounds_toArray, List.set_cons_zero, List.set_cons_succ]
                refine' T_take (i := 12) (v := _) rfl (by kernel_rfl) (by kernel_rfl) (by kernel_rfl) (by kernel_rfl) (fun _ _ _ h => h) (by kernel_rfl) hS ?_ ?_
                rotate_left 1
                · intro Wv hW
                  replace k0 := cell_of_ans hW k0
                  replace k1 := cell_of_ans hW k1
                  replace k2 := cell_of_ans hW k2
                  replace k3 := cell_of_ans hW k3
                  replace k4 := cell_of_ans hW k4
                  replace m0 := cell_of_ans hW m0
                  replace m1 := cell_of_ans hW m1
                  replace m2 := cell_of_ans hW m2
                  replace m3 := cell_of_ans hW m3
                  replace m4 := cell_of_ans hW m4
                  go_simp
                  first | done | with_reducible rfl | omega
                try simp only [Act.put, List.setIfInBounds_toArray, List.set_cons_zero, List.set_cons_succ]
                refine' T_take (i := 13) (v := _) rfl (by kernel_rfl) (by kernel_rfl) (by kernel_rfl) (by kernel_rfl) (fun _ _ _ h => h) (by kernel_rfl) hS ?_ ?_
                rotate_left 1
                · intro Wv hW
                  replace k0 := cell_of_ans hW k0
                  replace k1 := cell_of_ans hW k1
                  replace k2 := cell_of_ans hW k2
                  replace k3 := cell_of_ans hW k3
                  replace k4 := cell_of_ans hW k4
                  replace m0 := cell_of_ans hW m0
                  replace m1 := cell_of_ans hW m1
                  replace m2 := cell_of_ans hW m2
                  replace m3 := cell_of_ans hW m3
                  replace m4 := cell_of_ans hW m4
                  go_simp
                  first | done | with_reducible rfl | omega
                try simp only [Act.put, List.setIfInBounds_toArray, List.set_cons_zero, List.set_cons_succ]
                refine' T_take (i := 14) (v := _) rfl (by kernel_rfl) (by kernel_rfl) (by kernel_rfl) (by kernel_rfl) (fun _ _ _ h => h) (by kernel_rfl) hS ?_ ?_
                rotate_left 1
                · intro Wv hW
                  replace k0 := cell_of_ans hW k0
                  replace k1 := cell_of_ans hW k1
                  replace k2 := cell_of_ans hW k2
                  replace k3 := cell_of_ans hW k3
                  replace k4 := cell_of_ans hW k4
                  replace m0 := cell_of_ans hW m0
                  replace m1 := cell_of_ans hW m1
                  replace m2 := cell_of_ans hW m2
                  replace m3 := cell_of_ans hW m3
                  replace m4 := cell_of_ans hW m4
                  go_simp
                  first | done | with_reducible rfl | omega
                try simp only [Act.put, List.setIfInBounds_toArray, List.set_cons_zero, List.set_cons_succ]
                refine T_done (by kernel_rfl) ?_ _
                refine NoPanic.normal ?_
                try go_simp
                have hb := hS
                clear hS
                replace k0 := cell_of_ans hb k0
                replace k1 := cell_of_ans hb k1
                replace k2 := cell_of_ans hb k2
                replace k3 := cell_of_ans hb k3
                replace k4 := cell_of_ans hb k4
                replace m0 := cell_of_ans hb m0
                replace m1 := cell_of_ans hb m1
                replace m2 := cell_of_ans hb m2
                replace m3 := cell_of_ans hb m3
                replace m4 := cell_of_ans hb m4
                replace HL := Lib.hid (HL.out.step hb)
                replace HX := Lib.hid (HX.out.step hb)
                replace HBa := Lib.hid (HBa.out.step hb)
                replace HWs := Lib.hid (HWs.out.step hb)
                replace HLM := Lib.hid (HLM.out.step hb)
                replace HGM := Lib.hid (HGM.out.step hb)
                replace Hle := Lib.hid (Hle.out.step hb)
                replace Hme := Lib.hid (Hme.out.step hb)
                replace Hhsl2 := Lib.hid (Hhsl2.out.step hb)
                replace Hhml2 := Lib.hid (Hhml2.out.step hb)
                replace HB := Lib.hid (HB.out.trans (hb.mono HB.out.size))
                clear hb
                clear HFaM
                go_wp2_with fail
                refine (HTR.out lA hl cl _ Hle.out ⟨hcl1, hcl2⟩).mono ?_
                rintro e q1 ⟨T1, e1, rfl, ho1, hb⟩
                obtain ⟨hta1, htb1, hti1⟩ := isInts_parts (ownsRow_isInts ho1)
                replace k0 := cell_of_ans hb k0
                replace k1 := cell_of_ans hb k1
                replace k2 := cell_of_ans hb k2
                replace k3 := cell_of_ans hb k3
                replace k4 := cell_of_ans hb k4
                replace m0 := cell_of_ans hb m0
                replace m1 := cell_of_ans hb m1
                replace m2 := cell_of_ans hb m2
                replace m3 := cell_of_ans hb m3
                replace m4 := cell_of_ans hb m4
                replace HL := Lib.hid (HL.out.step hb)
                replace HX := Lib.hid (HX.out.step hb)
                replace HBa := Lib.hid (HBa.out.step hb)
                replace HWs := Lib.hid (HWs.out.step hb)
                replace HLM := Lib.hid (HLM.out.step hb)
                replace HGM := Lib.hid (HGM.out.step hb)
                replace Hle := Lib.hid (Hle.out.step hb)
                replace Hme := Lib.hid (Hme.out.step hb)
                replace Hhsl2 := Lib.hid (Hhsl2.out.step hb)
                replace Hhml2 := Lib.hid (Hhml2.out.step hb)
                replace Hps := Lib.hid (Hps.out.step hb)
                replace Hqs := Lib.hid (Hqs.out.step hb)
                replace HB := Lib.hid (HB.out.trans (hb.mono HB.out.size))
                clear hb
                have Hti1 := Lib.hid hti1
                clear hti1 ho1
                go_wp2_with fail
                refine ((ints_c _ _ (turnL r hl) (turnL r hl) e1 cm _ Hti1.out Hme.out ⟨hta1, htb1⟩ ⟨hcm1, hcm2⟩).mono (fun e w9 h => h.ans)).mono ?_
                rw [show eqB (turnL r hl) (turnL r hl) = true from decide_eq_true rfl]
                rintro e p1 ⟨rfl, hb⟩
                replace k0 := cell_of_ans hb k0
                replace k1 := cell_of_ans hb k1
                replace k2 := cell_of_ans hb k2
                replace k3 := cell_of_ans hb k3
                replace k4 := cell_of_ans hb k4
                replace m0 := cell_of_ans hb m0
                replace m1 := cell_of_ans hb m1
                replace m2 := cell_of_ans hb m2
                replace m3 := cell_of_ans hb m3
                replace m4 := cell_of_ans hb m4
                replace HL := Lib.hid (HL.out.step hb)
                replace HX := Lib.hid (HX.out.step hb)
                replace HBa := Lib.hid (HBa.out.step hb)
                replace HWs := Lib.hid (HWs.out.step hb)
                replace HLM := Lib.hid (HLM.out.step hb)
                replace HGM := Lib.hid (HGM.out.step hb)
                replace Hle := Lib.hid (Hle.out.step hb)
                replace Hme := Lib.hid (Hme.out.step hb)
                replace Hhsl2 := Lib.hid (Hhsl2.out.step hb)
                replace Hhml2 := Lib.hid (Hhml2.out.step hb)
                replace Hps := Lib.hid (Hps.out.step hb)
                replace Hqs := Lib.hid (Hqs.out.step hb)
                replace Hti1 := Lib.hid (Hti1.out.step hb)
                replace HB := Lib.hid (HB.out.trans (hb.mono HB.out.size))
                clear hb
                clear Hti1
                go_wp2_with fail
                refine (HTR.out fA sl fc _ Hhsl2.out hsl3).mono ?_
                rintro e q2 ⟨T2, e2, rfl, ho2, hb⟩
                obtain ⟨hta2, htb2, hti2⟩ := isInts_parts (ownsRow_isInts ho2)
                replace k0 := cell_of_ans hb k0
                replace k1 := cell_of_ans hb k1
                replace k2 := cell_of_ans hb k2
                replace k3 := cell_of_ans hb k3
                replace k4 := cell_of_ans hb k4
                replace m0 := cell_of_ans hb m0
                replace m1 := cell_of_ans hb m1
                replace m2 := cell_of_ans hb m2
                replace m3 := cell_of_ans hb m3
                replace m4 := cell_of_ans hb m4
                replace HL := Lib.hid (HL.out.step hb)
                replace HX := Lib.hid (HX.out.step hb)
                replace HBa := Lib.hid (HBa.out.step hb)
                replace HWs := Lib.hid (HWs.out.step hb)
                replace HLM := Lib.hid (HLM.out.step hb)
                replace HGM := Lib.hid (HGM.out.step hb)
                replace Hle := Lib.hid (Hle.out.step hb)
                replace Hme := Lib.hid (Hme.out.step hb)
                replace Hhsl2 := Lib.hid (Hhsl2.out.step hb)
                replace Hhml2 := Lib.hid (Hhml2.out.step hb)
                replace Hps := Lib.hid (Hps.out.step hb)
                replace Hqs := Lib.hid (Hqs.out.step hb)
                replace HB := Lib.hid (HB.out.trans (hb.mono HB.out.size))
                clear hb
                have Hti2 := Lib.hid hti2
                clear hti2 ho2
                go_wp2_with fail
                refine ((ints_c _ _ (turnL r sl) (turnL r sl) e2 pc _ Hti2.out Hps.out ⟨hta2, htb2⟩ hps2).mono (fun e w9 h => h.ans)).mono ?_
                rw [show eqB (turnL r sl) (turnL r sl) = true from decide_eq_true rfl]
                rintro e p2 ⟨rfl, hb⟩
                replace k0 := cell_of_ans hb k0
                replace k1 := cell_of_ans hb k1
                replace k2 := cell_of_ans hb k2
                replace k3 := cell_of_ans hb k3
                replace k4 := cell_of_ans hb k4
                replace m0 := cell_of_ans hb m0
                replace m1 := cell_of_ans hb m1
                replace m2 := cell_of_ans hb m2
                replace m3 := cell_of_ans hb m3
                replace m4 := cell_of_ans hb m4
                replace HL := Lib.hid (HL.out.step hb)
                replace HX := Lib.hid (HX.out.step hb)
                replace HBa := Lib.hid (HBa.out.step hb)
                replace HWs := Lib.hid (HWs.out.step hb)
                replace HLM := Lib.hid (HLM.out.step hb)
                replace HGM := Lib.hid (HGM.out.step hb)
                replace Hle := Lib.hid (Hle.out.step hb)
                replace Hme := Lib.hid (Hme.out.step hb)
                replace Hhsl2 := Lib.hid (Hhsl2.out.step hb)
                replace Hhml2 := Lib.hid (Hhml2.out.step hb)
                replace Hps := Lib.hid (Hps.out.step hb)
                replace Hqs := Lib.hid (Hqs.out.step hb)
                replace Hti2 := Lib.hid (Hti2.out.step hb)
                replace HB := Lib.hid (HB.out.trans (hb.mono HB.out.size))
                clear hb
                clear Hti2
                go_wp2_with fail
                refine (HTR.out gA ml gc _ Hhml2.out hml3).mono ?_
                rintro e q3 ⟨T3, e3, rfl, ho3, hb⟩
                obtain ⟨hta3, htb3, hti3⟩ := isInts_parts (ownsRow_isInts ho3)
                replace k0 := cell_of_ans hb k0
                replace k1 := cell_of_ans hb k1
                replace k2 := cell_of_ans hb k2
                replace k3 := cell_of_ans hb k3
                replace k4 := cell_of_ans hb k4
                replace m0 := cell_of_ans hb m0
                replace m1 := cell_of_ans hb m1
                replace m2 := cell_of_ans hb m2
                replace m3 := cell_of_ans hb m3
                replace m4 := cell_of_ans hb m4
                replace HL := Lib.hid (HL.out.step hb)
                replace HX := Lib.hid (HX.out.step hb)
                replace HBa := Lib.hid (HBa.out.step hb)
                replace HWs := Lib.hid (HWs.out.step hb)
                replace HLM := Lib.hid (HLM.out.step hb)
                replace HGM := Lib.hid (HGM.out.step hb)
                replace Hle := Lib.hid (Hle.out.step hb)
                replace Hme := Lib.hid (Hme.out.step hb)
                replace Hhsl2 := Lib.hid (Hhsl2.out.step hb)
                replace Hhml2 := Lib.hid (Hhml2.out.step hb)
                replace Hps := Lib.hid (Hps.out.step hb)
                replace Hqs := Lib.hid (Hqs.out.step hb)
                replace HB := Lib.hid (HB.out.trans (hb.mono HB.out.size))
                clear hb
                have Hti3 := Lib.hid hti3
                clear hti3 ho3
                go_wp2_with fail
                refine ((ints_c _ _ (turnL r ml) (turnL r ml) e3 qc _ Hti3.out Hqs.out ⟨hta3, htb3⟩ hqs2).mono (fun e w9 h => h.ans)).mono ?_
                rw [show eqB (turnL r ml) (turnL r ml) = true from decide_eq_true rfl]
                rintro e p3 ⟨rfl, hb⟩
                replace k0 := cell_of_ans hb k0
                replace k1 := cell_of_ans hb k1
                replace k2 := cell_of_ans hb k2
                replace k3 := cell_of_ans hb k3
                replace k4 := cell_of_ans hb k4
                replace m0 := cell_of_ans hb m0
                replace m1 := cell_of_ans hb m1
                replace m2 := cell_of_ans hb m2
                replace m3 := cell_of_ans hb m3
                replace m4 := cell_of_ans hb m4
                replace HL := Lib.hid (HL.out.step hb)
                replace HX := Lib.hid (HX.out.step hb)
                replace HBa := Lib.hid (HBa.out.step hb)
                replace HWs := Lib.hid (HWs.out.step hb)
                replace HLM := Lib.hid (HLM.out.step hb)
                replace HGM := Lib.hid (HGM.out.step hb)
                replace Hle := Lib.hid (Hle.out.step hb)
                replace Hme := Lib.hid (Hme.out.step hb)
                replace Hhsl2 := Lib.hid (Hhsl2.out.step hb)
                replace Hhml2 := Lib.hid (Hhml2.out.step hb)
                replace Hps := Lib.hid (Hps.out.step hb)
                replace Hqs := Lib.hid (Hqs.out.step hb)
                replace Hti3 := Lib.hid (Hti3.out.step hb)
                replace HB := Lib.hid (HB.out.trans (hb.mono HB.out.size))
                clear hb
                clear Hti3
                go_wp2_with fail
                refine (awake16_c _).mono ?_
                rintro e z9 ⟨rfl, hb⟩
                replace k0 := cell_of_ans hb k0
                replace k1 := cell_of_ans hb k1
                replace k2 := cell_of_ans hb k2
                replace k3 := cell_of_ans hb k3
                replace k4 := cell_of_ans hb k4
                replace m0 := cell_of_ans hb m0
                replace m1 := cell_of_ans hb m1
                replace m2 := cell_of_ans hb m2
                replace m3 := cell_of_ans hb m3
                replace m4 := cell_of_ans hb m4
                replace HL := Lib.hid (HL.out.step hb)
                replace HX := Lib.hid (HX.out.step hb)
                replace HBa := Lib.hid (HBa.out.step hb)
                replace HWs := Lib.hid (HWs.out.step hb)
                replace HLM := Lib.hid (HLM.out.step hb)
                replace HGM := Lib.hid (HGM.out.step hb)
                replace Hle := Lib.hid (Hle.out.step hb)
                replace Hme := Lib.hid (Hme.out.step hb)
                replace Hhsl2 := Lib.hid (Hhsl2.out.step hb)
                replace Hhml2 := Lib.hid (Hhml2.out.step hb)
                replace Hps := Lib.hid (Hps.out.step hb)
                replace Hqs := Lib.hid (Hqs.out.step hb)
                replace HB := Lib.hid (HB.out.trans (hb.mono HB.out.size))
                clear hb
                go_wp2_with fail
                go_ret
                exact ⟨rfl, HB.out⟩
end Go.Proofs.Ytpekajnjjhibjaa
