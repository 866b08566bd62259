/-
  The two regions of Falls that stand in a round of a loop over a function, and draw their order.
-/
import Derived.Test.YtpekajnjjhibjaaLeavesM
import Derived.Test.YtpekajnjjhibjaaJn
import Derived.Test.YtpekajnjjhibjaaRt
import Derived.Deep.RegionHeld3
import Derived.Deep.DeepCutAuto
namespace Go.Proofs.Ytpekajnjjhibjaa
open Go.RowKit
set_option linter.unusedSimpArgs false
set_option linter.unusedVariables false

attribute [local go_sem] Oper.semAt_some
/-- The region number n of a piece of code. -/
def regionAt (n : Nat) : Code → Option Code
  | .region id ops d => if id = n then some (.region id ops d) else none
  | .seq a b => (regionAt n a).or (regionAt n b)
  | .cond _ a b => (regionAt n a).or (regionAt n b)
  | .block _ a => regionAt n a
  | .loop a => regionAt n a
  | .scope a => regionAt n a
  | .rangeFunc _ _ a b => (regionAt n a).or (regionAt n b)
  | _ => none
def bodyOf (f : Func) : Code := match f.body with
  | some c => c
  | none => .skip
theorem PcAt.far {W : World} {q q' u i : Nat} (h : PcAt W q u) (hne : q ≠ q') (v : Value) : PcAt (W.setCell ⟨q', i, none⟩ v) q u := (Below.heap_setCell W _ v q hne).trans h
theorem and_nat (a b : Nat) (ha : a < 2 ^ 10) (hb : b < 2 ^ 10) : bits .and .u16 (a : Int) (b : Int) = ((a &&& b : Nat) : Int) := by
  exact u16_and_nat a b (by omega) (by omega)
theorem or_nat (a b : Nat) (ha : a < 2 ^ 10) (hb : b < 2 ^ 10) : bits .or .u16 (a : Int) (b : Int) = ((a ||| b : Nat) : Int) := by
  exact u16_or_nat a b (by omega) (by omega)
set_option maxRecDepth 100000 in
set_option maxHeartbeats 8000000 in
theorem falls_reg11 {l0 m : Nat} {cd : Code} {u0 u1 u2 u3 u4 u5 u6 u7 u8 u10 u12 u13 u16 u17 u18 u19 u20 u21 u22 u23 u24 u25 u26 u27 u28 u29 u30 u31 u32 u33 u34 u35 u36 u37 u38 u39 u40 u41 u42 u43 u44 u45 u46 u47 u48 u49 u50 u51 u52 u53 u54 u55 u56 u57 u58 u59 : Value} {ds : List Deferred} {Q : Exit → Act → World → Prop} {wz : World} {hq bb : Nat} {r : Rk} {A : Option Addr} {c pins x v : Nat} (hcd : regionAt 11 (bodyOf Try.f17) = some cd) (hout : ¬ LetsOut Q) (hQ : ∀ (ch : List PanicEntry) (a a' : Act) (w : World), Q (.panic ch) a w → Q (.panic ch) a' w)
    (hr : Ok r) (hp : pins < 2 ^ 10) (hx : x < 2 ^ 10) (hv : v < 2 ^ 10) (hH : At6 wz hq (.int .i64 r.rows) (.int .i64 r.mid) (.int .i64 r.gap) (.int .i64 r.reach) (.slice A r.links.length c) (.int .u16 (pins : Int))) (hV : PcAt wz (bb) v) (hl : Lks wz.heap.size wz A r.links) (hc : r.links.length ≤ c ∧ c ≤ 9223372036854775807)
    (h : ∀ W : World, (∃ Wm, Below wz.heap.size wz Wm ∧ W = Wm.setCell ⟨bb, 0, none⟩ (.int .u16 ((v &&& fallS r.links (surely r.links) pins x : Nat) : Int))) → Q .normal { tmps := #[u0, u1, u2, u3, u4, u5, u6, u7, u8, .pointer (some ⟨hq, 0, none⟩), u10, .pointer (some ⟨hq + 1, 0, none⟩), u12, u13, .pointer (some ⟨bb, 0, none⟩), .int .u16 (x : Int), u16, u17, u18, u19, u20, u21, u22, u23, u24, u25, u26, u27, u28, u29, u30, u31, u32, u33, u34, u35, u36, u37, u38, u39, .int .u16 (v : Int), .agg #[.int .i64 r.rows, .int .i64 r.mid, .int .i64 r.gap, .int .i64 r.reach, .slice A r.links.length c, .int .u16 (pins : Int)], .int .u16 (x : Int), .agg #[.func (.func 56) #[] #[]], .int .u16 (fallS r.links (surely r.links) pins x : Int), .int .u16 ((v &&& fallS r.links (surely r.links) pins x : Nat) : Int), u46, u47, u48, u49, u50, u51, u52, u53, u54, u55, u56, u57, u58, u59], defers := ds } W) :
    cd.wpIn (Fence.wide.inRound l0) m Try.prog Q { tmps := #[u0, u1, u2, u3, u4, u5, u6, u7, u8, .pointer (some ⟨hq, 0, none⟩), u10, .pointer (some ⟨hq + 1, 0, none⟩), u12, u13, .pointer (some ⟨bb, 0, none⟩), .int .u16 (x : Int), u16, u17, u18, u19, u20, u21, u22, u23, u24, u25, u26, u27, u28, u29, u30, u31, u32, u33, u34, u35, u36, u37, u38, u39, u40, u41, u42, u43, u44, u45, u46, u47, u48, u49, u50, u51, u52, u53, u54, u55, u56, u57, u58, u59], defers := ds } wz := by
  dsimp only at h
  simp only [bodyOf, Try.f17, regionAt, Option.or, Nat.reduceEqDiff, if_true, if_false, Option.some.injEq, reduceIte] at hcd
  subst hcd
  have HH := Lib.hid h
  clear h
  have HA6 := Lib.hid hH
  have HV := Lib.hid hV
  have HL := Lib.hid hl
  clear hH hV hl
  have HFL : Hid (fallS r.links (surely r.links) pins x < 2 ^ 10) := fallS_lt hx hp
  have HBT : Hid (bits .and .u16 (v : Int) (fallS r.links (surely r.links) pins x : Int) = ((v &&& fallS r.links (surely r.links) pins x : Nat) : Int)) := and_nat _ _ hv HFL.out
  refine round_T (fun W => Below wz.heap.size wz W) 6 (by kernel_rfl) (by kernel_rfl) hout (Below.refl _ _).drew (fun hS => ?_)
  refine' T_take (i := 0) (v := _) rfl (by kernel_rfl) (by kernel_rfl) (by kernel_rfl) (by kernel_rfl) (fun _ _ _ h => hQ _ _ _ _ h) (by rfl) hS ?_ ?_
  rotate_left 1
  · intro Wv hW
    obtain ⟨⟨q0, q1, q2, q3, q4, q5⟩, -⟩ := (HA6.out.step hW).cells
    obtain ⟨p0, -⟩ := (HV.out.step hW).cell
    go_simp
    first | done | with_reducible rfl
  try simp only [Act.put, List.setIfInBounds_toArray, List.set_cons_zero, List.set_cons_succ]
  refine' T_take (i := 1) (v := _) rfl (by kernel_rfl) (by kernel_rfl) (by kernel_rfl) (by kernel_rfl) (fun _ _ _ h => hQ _ _ _ _ h) (by rfl) hS ?_ ?_
  rotate_left 1
  · intro Wv hW
    obtain ⟨⟨q0, q1, q2, q3, q4, q5⟩, -⟩ := (HA6.out.step hW).cells
    obtain ⟨p0, -⟩ := (HV.out.step hW).cell
    go_simp
    first | done | with_reducible rfl
  try simp only [Act.put, List.setIfInBounds_toArray, List.set_cons_zero, List.set_cons_succ]
  refine' T_take (i := 2) (v := _) rfl (by kernel_rfl) (by kernel_rfl) (by kernel_rfl) (by kernel_rfl) (fun _ _ _ h => hQ _ _ _ _ h) (by rfl) hS ?_ ?_
  rotate_left 1
  · intro Wv hW
    obtain ⟨⟨q0, q1, q2, q3, q4, q5⟩, -⟩ := (HA6.out.step hW).cells
    obtain ⟨p0, -⟩ := (HV.out.step hW).cell
    go_simp
    first | done | with_reducible rfl
  try simp only [Act.put, List.setIfInBounds_toArray, List.set_cons_zero, List.set_cons_succ]
  refine' T_take (i := 3) (v := _) rfl (by kernel_rfl) (by kernel_rfl) (by kernel_rfl) (by kernel_rfl) (fun _ _ _ h => hQ _ _ _ _ h) (by rfl) hS ?_ ?_
  rotate_left 1
  · intro Wv hW
    obtain ⟨⟨q0, q1, q2, q3, q4, q5⟩, -⟩ := (HA6.out.step hW).cells
    obtain ⟨p0, -⟩ := (HV.out.step hW).cell
    go_simp
    first | done | with_reducible rfl
  try simp only [Act.put, List.setIfInBounds_toArray, List.set_cons_zero, List.set_cons_succ]
  refine T_ready (rs := [4]) (by kernel_rfl) (by simp) ?_
  refine TReady.cons rfl (fun K hK => ?_) TReady.nil
  try go_simp
  refine (falls_c r A c pins x 56 0 (surely r.links) _ hr hp hx (HL.out.step hS) hc enters56 (fun i hi W => surely_c _ _ _ W)).mono ?_
  rintro e w4 ⟨rfl, hb⟩
  try go_simp
  have hS2 : Below wz.heap.size wz w4 := hS.trans (hb.mono hS.size)
  refine hK.out _ _ (fun _ => hS2) (fun _ => ?_)
  clear hK K hS hb
  replace hS := hS2
  clear hS2
  try simp only [Act.put, List.setIfInBounds_toArray, List.set_cons_zero, List.set_cons_succ]
  refine' T_take (i := 5) (v := _) rfl (by kernel_rfl) (by kernel_rfl) (by kernel_rfl) (by kernel_rfl) (fun _ _ _ h => hQ _ _ _ _ h) (by rfl) hS ?_ ?_
  rotate_left 1
  · intro Wv hW
    have e1 := HBT.out
    go_simp
    first | done | with_reducible rfl
  try simp only [Act.put, List.setIfInBounds_toArray, List.set_cons_zero, List.set_cons_succ]
  refine T_ready (rs := [6]) (by kernel_rfl) (by simp) ?_
  refine TReady.cons rfl (fun K hK => ?_) TReady.nil
  obtain ⟨p0, p1⟩ := (HV.out.step hS).cell
  try go_simp
  refine hK.out _ _ (fun h => absurd h (by decide)) (fun _ => ?_)
  try simp only [Act.put, List.setIfInBounds_toArray, List.set_cons_zero, List.set_cons_succ]
  refine T_done (by kernel_rfl) ?_ _
  have e1 := HBT.out
  first | exact HH.out _ ⟨_, hS, rfl⟩ | (rw [e1]; exact HH.out _ ⟨_, hS, rfl⟩)

set_option maxRecDepth 100000 in
set_option maxHeartbeats 8000000 in
theorem falls_reg12 {l0 m : Nat} {cd : Code} {u0 u1 u2 u3 u4 u5 u6 u7 u8 u10 u12 u13 u16 u17 u18 u19 u20 u21 u22 u23 u24 u25 u26 u27 u28 u29 u30 u31 u32 u33 u34 u35 u36 u37 u38 u39 u40 u41 u42 u43 u44 u45 u46 u47 u48 u49 u50 u51 u52 u53 u54 u55 u56 u57 u58 u59 : Value} {ds : List Deferred} {Q : Exit → Act → World → Prop} {wz : World} {hq bb : Nat} {r : Rk} {A : Option Addr} {c pins x v : Nat} (hcd : regionAt 12 (bodyOf Try.f17) = some cd) (hout : ¬ LetsOut Q) (hQ : ∀ (ch : List PanicEntry) (a a' : Act) (w : World), Q (.panic ch) a w → Q (.panic ch) a' w)
    (hr : Ok r) (hp : pins < 2 ^ 10) (hx : x < 2 ^ 10) (hv : v < 2 ^ 10) (hH : At6 wz hq (.int .i64 r.rows) (.int .i64 r.mid) (.int .i64 r.gap) (.int .i64 r.reach) (.slice A r.links.length c) (.int .u16 (pins : Int))) (hV : PcAt wz (hq + 1) v) (hl : Lks wz.heap.size wz A r.links) (hc : r.links.length ≤ c ∧ c ≤ 9223372036854775807)
    (h : ∀ W : World, (∃ Wm, Below wz.heap.size wz Wm ∧ W = Wm.setCell ⟨hq + 1, 0, none⟩ (.int .u16 ((v ||| fallS r.links (fun _ => true) pins x : Nat) : Int))) → Q .normal { tmps := #[u0, u1, u2, u3, u4, u5, u6, u7, u8, .pointer (some ⟨hq, 0, none⟩), u10, .pointer (some ⟨hq + 1, 0, none⟩), u12, u13, .pointer (some ⟨bb, 0, none⟩), .int .u16 (x : Int), u16, u17, u18, u19, u20, u21, u22, u23, u24, u25, u26, u27, u28, u29, u30, u31, u32, u33, u34, u35, u36, u37, u38, u39, u40, u41, u42, u43, u44, u45, .int .u16 (v : Int), .agg #[.int .i64 r.rows, .int .i64 r.mid, .int .i64 r.gap, .int .i64 r.reach, .slice A r.links.length c, .int .u16 (pins : Int)], .int .u16 (x : Int), .agg #[.func (.func 57) #[] #[]], .int .u16 (fallS r.links (fun _ => true) pins x : Int), .int .u16 ((v ||| fallS r.links (fun _ => true) pins x : Nat) : Int), u52, u53, u54, u55, u56, u57, u58, u59], defers := ds } W) :
    cd.wpIn (Fence.wide.inRound l0) m Try.prog Q { tmps := #[u0, u1, u2, u3, u4, u5, u6, u7, u8, .pointer (some ⟨hq, 0, none⟩), u10, .pointer (some ⟨hq + 1, 0, none⟩), u12, u13, .pointer (some ⟨bb, 0, none⟩), .int .u16 (x : Int), u16, u17, u18, u19, u20, u21, u22, u23, u24, u25, u26, u27, u28, u29, u30, u31, u32, u33, u34, u35, u36, u37, u38, u39, u40, u41, u42, u43, u44, u45, u46, u47, u48, u49, u50, u51, u52, u53, u54, u55, u56, u57, u58, u59], defers := ds } wz := by
  dsimp only at h
  simp only [bodyOf, Try.f17, regionAt, Option.or, Nat.reduceEqDiff, if_true, if_false, Option.some.injEq, reduceIte] at hcd
  subst hcd
  have HH := Lib.hid h
  clear h
  have HA6 := Lib.hid hH
  have HV := Lib.hid hV
  have HL := Lib.hid hl
  clear hH hV hl
  have HFL : Hid (fallS r.links (fun _ => true) pins x < 2 ^ 10) := fallS_lt hx hp
  have HBT : Hid (bits .or .u16 (v : Int) (fallS r.links (fun _ => true) pins x : Int) = ((v ||| fallS r.links (fun _ => true) pins x : Nat) : Int)) := or_nat _ _ hv HFL.out
  refine round_T (fun W => Below wz.heap.size wz W) 6 (by kernel_rfl) (by kernel_rfl) hout (Below.refl _ _).drew (fun hS => ?_)
  refine' T_take (i := 0) (v := _) rfl (by kernel_rfl) (by kernel_rfl) (by kernel_rfl) (by kernel_rfl) (fun _ _ _ h => hQ _ _ _ _ h) (by rfl) hS ?_ ?_
  rotate_left 1
  · intro Wv hW
    obtain ⟨⟨q0, q1, q2, q3, q4, q5⟩, -⟩ := (HA6.out.step hW).cells
    obtain ⟨p0, -⟩ := (HV.out.step hW).cell
    go_simp
    first | done | with_reducible rfl
  try simp only [Act.put, List.setIfInBounds_toArray, List.set_cons_zero, List.set_cons_succ]
  refine' T_take (i := 1) (v := _) rfl (by kernel_rfl) (by kernel_rfl) (by kernel_rfl) (by kernel_rfl) (fun _ _ _ h => hQ _ _ _ _ h) (by rfl) hS ?_ ?_
  rotate_left 1
  · intro Wv hW
    obtain ⟨⟨q0, q1, q2, q3, q4, q5⟩, -⟩ := (HA6.out.step hW).cells
    obtain ⟨p0, -⟩ := (HV.out.step hW).cell
    go_simp
    first | done | with_reducible rfl
  try simp only [Act.put, List.setIfInBounds_toArray, List.set_cons_zero, List.set_cons_succ]
  refine' T_take (i := 2) (v := _) rfl (by kernel_rfl) (by kernel_rfl) (by kernel_rfl) (by kernel_rfl) (fun _ _ _ h => hQ _ _ _ _ h) (by rfl) hS ?_ ?_
  rotate_left 1
  · intro Wv hW
    obtain ⟨⟨q0, q1, q2, q3, q4, q5⟩, -⟩ := (HA6.out.step hW).cells
    obtain ⟨p0, -⟩ := (HV.out.step hW).cell
    go_simp
    first | done | with_reducible rfl
  try simp only [Act.put, List.setIfInBounds_toArray, List.set_cons_zero, List.set_cons_succ]
  refine' T_take (i := 3) (v := _) rfl (by kernel_rfl) (by kernel_rfl) (by kernel_rfl) (by kernel_rfl) (fun _ _ _ h => hQ _ _ _ _ h) (by rfl) hS ?_ ?_
  rotate_left 1
  · intro Wv hW
    obtain ⟨⟨q0, q1, q2, q3, q4, q5⟩, -⟩ := (HA6.out.step hW).cells
    obtain ⟨p0, -⟩ := (HV.out.step hW).cell
    go_simp
    first | done | with_reducible rfl
  try simp only [Act.put, List.setIfInBounds_toArray, List.set_cons_zero, List.set_cons_succ]
  refine T_ready (rs := [4]) (by kernel_rfl) (by simp) ?_
  refine TReady.cons rfl (fun K hK => ?_) TReady.nil
  try go_simp
  refine (falls_c r A c pins x 57 0 (fun _ => true) _ hr hp hx (HL.out.step hS) hc enters57 (fun i hi W => maybe_c _ _ _ W)).mono ?_
  rintro e w4 ⟨rfl, hb⟩
  try go_simp
  have hS2 : Below wz.heap.size wz w4 := hS.trans (hb.mono hS.size)
  refine hK.out _ _ (fun _ => hS2) (fun _ => ?_)
  clear hK K hS hb
  replace hS := hS2
  clear hS2
  try simp only [Act.put, List.setIfInBounds_toArray, List.set_cons_zero, List.set_cons_succ]
  refine' T_take (i := 5) (v := _) rfl (by kernel_rfl) (by kernel_rfl) (by kernel_rfl) (by kernel_rfl) (fun _ _ _ h => hQ _ _ _ _ h) (by rfl) hS ?_ ?_
  rotate_left 1
  · intro Wv hW
    have e1 := HBT.out
    go_simp
    first | done | with_reducible rfl
  try simp only [Act.put, List.setIfInBounds_toArray, List.set_cons_zero, List.set_cons_succ]
  refine T_ready (rs := [6]) (by kernel_rfl) (by simp) ?_
  refine TReady.cons rfl (fun K hK => ?_) TReady.nil
  obtain ⟨p0, p1⟩ := (HV.out.step hS).cell
  try go_simp
  refine hK.out _ _ (fun h => absurd h (by decide)) (fun _ => ?_)
  try simp only [Act.put, List.setIfInBounds_toArray, List.set_cons_zero, List.set_cons_succ]
  refine T_done (by kernel_rfl) ?_ _
  have e1 := HBT.out
  first | exact HH.out _ ⟨_, hS, rfl⟩ | (rw [e1]; exact HH.out _ ⟨_, hS, rfl⟩)
end Go.Proofs.Ytpekajnjjhibjaa
