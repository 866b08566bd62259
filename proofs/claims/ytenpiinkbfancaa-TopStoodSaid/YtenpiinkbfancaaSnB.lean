/-
  seen: games that words are told of; ranges; proofs of games (carried over from the proofs of the chapter 03).
-/
import Derived.Test.YtenpiinkbfancaaSnA
import Derived.Deep.RegionHeld3
import Derived.Deep.DeepCutAuto
import Derived.Maps.OwnSet
import Derived.DeepKeys4
import Derived.StillTailTactics
namespace Go.Proofs.Ytenpiinkbfancaa.Sn
open Go.RowKit
set_option linter.unusedSimpArgs false
set_option linter.unusedVariables false

section
open Go.RowKit
attribute [local go_sem] Oper.semAt_some
/-- The least and the greatest of some numbers, 0 of none. -/
def loS : List Int → Int
  | [] => 0
  | x :: xs => xs.foldl min x
def hiS : List Int → Int
  | [] => 0
  | x :: xs => xs.foldl max x
theorem loS_snoc (xs : List Int) (n : Int) : loS (xs ++ [n]) = if xs.length = 0 then n else min (loS xs) n := by
  cases xs with
  | nil => rfl
  | cons x xs => simp [loS, List.foldl_append]
theorem hiS_snoc (xs : List Int) (n : Int) : hiS (xs ++ [n]) = if xs.length = 0 then n else max (hiS xs) n := by
  cases xs with
  | nil => rfl
  | cons x xs => simp [hiS, List.foldl_append]
def fsts (g : List (Nat × Nat)) : List Int := g.map fun p => (p.1 : Int)
def snds (g : List (Nat × Nat)) : List Int := g.map fun p => (p.2 : Int)
theorem fsts_snoc (g : List (Nat × Nat)) (x : Nat × Nat) : fsts (g ++ [x]) = fsts g ++ [(x.1 : Int)] := by simp [fsts]
theorem snds_snoc (g : List (Nat × Nat)) (x : Nat × Nat) : snds (g ++ [x]) = snds g ++ [(x.2 : Int)] := by simp [snds]
theorem fsts_len (g : List (Nat × Nat)) : (fsts g).length = g.length := by simp [fsts]
theorem snds_len (g : List (Nat × Nat)) : (snds g).length = g.length := by simp [snds]
/-- Block g holds two ranges; block g holds one number. -/
def Rg (w : World) (g : Nat) (a b c d : Int) : Prop := w.heap[g]? = some (.cells #[.int .i64 a, .int .i64 b, .int .i64 c, .int .i64 d] 135 (0, 0))
def On (w : World) (g : Nat) (n : Int) : Prop := w.heap[g]? = some (.cells #[.int .i64 n] 3 (0, 0))
section
variable {w w' : World} {g : Nat} {a b c d n : Int}
theorem Rg.lt (h : Rg w g a b c d) : g < w.heap.size := (Array.getElem?_eq_some_iff.1 h).1
theorem Rg.cells (h : Rg w g a b c d) : w.cell? ⟨g, 0, none⟩ = some (.int .i64 a) ∧ w.cell? ⟨g, 1, none⟩ = some (.int .i64 b) ∧ w.cell? ⟨g, 2, none⟩ = some (.int .i64 c) ∧ w.cell? ⟨g, 3, none⟩ = some (.int .i64 d) ∧ ∀ o, w.frozen? ⟨g, o, none⟩ = false := by
  unfold Rg at h
  simp [World.cell?, World.frozen?, h]
theorem Rg.below (h : Rg w g a b c d) (hb : Below w.heap.size w w') : Rg w' g a b c d := (hb.block g h.lt).trans h
theorem Rg.alloc (h : Rg w g a b c d) (ob : Obj) : Rg (w.alloc ob) g a b c d := h.below ((Below.refl _ _).alloc (Nat.le_refl _) _)
theorem Rg.set0 (h : Rg w g a b c d) (x y : Int) : Rg ((w.setCell ⟨g, 0, none⟩ (.int .i64 x)).setCell ⟨g, 1, none⟩ (.int .i64 y)) g x y c d := by
  unfold Rg at h ⊢
  simp [World.setCell, Array.getElem?_modify, h]
theorem Rg.set2 (h : Rg w g a b c d) (x y : Int) : Rg ((w.setCell ⟨g, 2, none⟩ (.int .i64 x)).setCell ⟨g, 3, none⟩ (.int .i64 y)) g a b x y := by
  unfold Rg at h ⊢
  simp [World.setCell, Array.getElem?_modify, h]
theorem Rg.far (h : Rg w g a b c d) {ad : Addr} (hp : g ≠ ad.block) (u : Value) : Rg (w.setCell ad u) g a b c d := (Below.heap_setCell w ad u g hp).trans h
theorem On.lt (h : On w g n) : g < w.heap.size := (Array.getElem?_eq_some_iff.1 h).1
theorem On.cell (h : On w g n) : w.cell? ⟨g, 0, none⟩ = some (.int .i64 n) ∧ w.frozen? ⟨g, 0, none⟩ = false := by
  unfold On at h
  simp [World.cell?, World.frozen?, h]
theorem On.below (h : On w g n) (hb : Below w.heap.size w w') : On w' g n := (hb.block g h.lt).trans h
theorem On.alloc (h : On w g n) (ob : Obj) : On (w.alloc ob) g n := h.below ((Below.refl _ _).alloc (Nat.le_refl _) _)
theorem On.set (h : On w g n) (x : Int) : On (w.setCell ⟨g, 0, none⟩ (.int .i64 x)) g x := by
  unfold On at h ⊢
  simp [World.setCell, Array.getElem?_modify, h]
theorem On.far (h : On w g n) {ad : Addr} (hp : g ≠ ad.block) (u : Value) : On (w.setCell ad u) g n := (Below.heap_setCell w ad u g hp).trans h
end
/-- All blocks below n₀ lie on, but for g and g'. -/
def Kp2 (n₀ g g' : Nat) (W W' : World) : Prop := W.heap.size ≤ W'.heap.size ∧ W'.os = W.os ∧ W'.tape = W.tape ∧ W'.output = W.output ∧ ∀ k, k < n₀ → k ≠ g → k ≠ g' → W'.heap[k]? = W.heap[k]?
theorem Kp2.refl (n₀ g g' : Nat) (W : World) : Kp2 n₀ g g' W W := ⟨Nat.le_refl _, rfl, rfl, rfl, fun _ _ _ _ => rfl⟩
theorem Kp2.trans {n₀ g g' : Nat} {A B C : World} (h : Kp2 n₀ g g' A B) (k : Kp2 n₀ g g' B C) : Kp2 n₀ g g' A C :=
  ⟨Nat.le_trans h.1 k.1, k.2.1.trans h.2.1, k.2.2.1.trans h.2.2.1, k.2.2.2.1.trans h.2.2.2.1, fun i hi h1 h2 => (k.2.2.2.2 i hi h1 h2).trans (h.2.2.2.2 i hi h1 h2)⟩
theorem Kp2.of_below {n₀ g g' : Nat} {A B : World} (h : Below A.heap.size A B) (hn : n₀ ≤ A.heap.size) : Kp2 n₀ g g' A B := ⟨h.size, h.os, h.tape, h.output, fun k hk _ _ => h.block k (by omega)⟩
theorem Kp2.of_set {n₀ g g' : Nat} {A : World} {ad : Addr} (h : ad.block = g ∨ ad.block = g') (u : Value) : Kp2 n₀ g g' A (A.setCell ad u) :=
  ⟨by simp, rfl, rfl, rfl, fun k _ h1 h2 => Below.heap_setCell A ad u k (by rcases h with h | h <;> omega)⟩
theorem Kp2.below {n₀ g g' B : Nat} {A C : World} (h : Kp2 n₀ g g' A C) (hB : B ≤ n₀) (hg : B ≤ g) (hg' : B ≤ g') : Below B A C := ⟨h.2.1, h.2.2.1, h.2.2.2.1, h.1, fun k hk => h.2.2.2.2 k (by omega) (by omega) (by omega)⟩
theorem Kp2.cell {n₀ g g' : Nat} {A C : World} (h : Kp2 n₀ g g' A C) {p : Addr} {v : Value} (hc : A.cell? p = some v) (hp : p.block < n₀) (hg : p.block ≠ g) (hg' : p.block ≠ g') : C.cell? p = some v := by
  have e := h.2.2.2.2 p.block hp hg hg'
  unfold World.cell? at hc ⊢
  rw [e]
  exact hc
theorem GSt.kept2 {B n₀ g g' : Nat} {W W' : World} {q p : Nat} {fr frn : Int} {o : Nat → Bool} {A : Option Addr} {c : Nat} {ws : List Wd} (h : GSt B W q p fr frn o A c ws) (k : Kp2 n₀ g g' W W') (hB : B ≤ n₀) (hg : B ≤ g) (hg' : B ≤ g') (hq : q + 2 < n₀) (hqg : g < q) (hqg' : g' < q) (hp : p < B) : GSt B W' q p fr frn o A c ws :=
  ⟨k.cell h.x (by dsimp only; omega) (by dsimp only; omega) (by dsimp only; omega), k.cell h.f (by dsimp only; omega) (by dsimp only; omega) (by dsimp only; omega), fun j hj => k.cell (h.o j hj) (by dsimp only; omega) (by dsimp only; omega) (by dsimp only; omega), k.cell h.n (by dsimp only; omega) (by dsimp only; omega) (by dsimp only; omega), k.cell h.l (by dsimp only; omega) (by dsimp only; omega) (by dsimp only; omega), h.w.below (k.below hB hg hg')⟩
theorem Kp2.less {n₀ n₁ g g' : Nat} {A C : World} (h : Kp2 n₁ g g' A C) (hn : n₀ ≤ n₁) : Kp2 n₀ g g' A C := ⟨h.1, h.2.1, h.2.2.1, h.2.2.2.1, fun k hk => h.2.2.2.2 k (by omega)⟩
theorem set_same {w : World} {g i : Nat} {cs : Array Value} {t : TypeId} {z : Nat × Nat} {v : Value} (h : w.heap[g]? = some (.cells cs t z)) (hv : cs[i]? = some v) : w.setCell ⟨g, i, none⟩ v = w := by
  have e : w.heap.modify g (fun
      | .cells c elem frozen => .cells (if (⟨g, i, none⟩ : Addr).spot.isSome then c else c.setIfInBounds i v) elem frozen
      | o => o) = w.heap := by
    refine Array.ext (by simp) fun k h1 h2 => ?_
    rw [Array.getElem_modify]
    split
    · rename_i hk
      subst hk
      rw [Array.getElem?_eq_getElem h2] at h
      injection h with h
      rw [h]
      have e2 : cs.setIfInBounds i v = cs := by
        obtain ⟨hi, hv⟩ := Array.getElem?_eq_some_iff.1 hv
        refine Array.ext (by simp) fun k h1 h2 => ?_
        rw [Array.getElem_setIfInBounds h2]
        split
        · rename_i hk
          subst hk
          exact hv.symm
        · rfl
      simp [e2]
    · rfl
  exact congrArg (fun h => ({ w with heap := h } : World)) e
theorem Rg.same {w : World} {g : Nat} {a b c d : Int} (h : Rg w g a b c d) : w.setCell ⟨g, 0, none⟩ (.int .i64 a) = w ∧ w.setCell ⟨g, 1, none⟩ (.int .i64 b) = w ∧ w.setCell ⟨g, 2, none⟩ (.int .i64 c) = w ∧ w.setCell ⟨g, 3, none⟩ (.int .i64 d) = w :=
  ⟨set_same h rfl, set_same h rfl, set_same h rfl, set_same h rfl⟩
theorem On.same {w : World} {g : Nat} {a : Int} (h : On w g a) : w.setCell ⟨g, 0, none⟩ (.int .i64 a) = w := set_same h rfl
theorem Rg.put {w : World} {g D : Nat} {a b c d : Int} (h : Rg w g a b c d) (hne : g ≠ D) (ob : Obj) : Rg (w.putObj D ob) g a b c d := (World.putObj_heap_other hne).trans h
theorem On.put {w : World} {g D : Nat} {a : Int} (h : On w g a) (hne : g ≠ D) (ob : Obj) : On (w.putObj D ob) g a := (World.putObj_heap_other hne).trans h
/-- The region number n of a piece of code. -/
def regionAt (n : Nat) : Code → Option Code
  | .region id ops d => if id = n then some (.region id ops d) else none
  | .seq a b => (regionAt n a).or (regionAt n b)
  | .cond _ a b => (regionAt n a).or (regionAt n b)
  | .block _ a => regionAt n a
  | .loop a => regionAt n a
  | .scope a => regionAt n a
  | .rangeFunc _ _ a b => (regionAt n a).or (regionAt n b)
  | _ => none
def bodyOf (f : Func) : Code := match f.body with
  | some c => c
  | none => .skip
set_option maxRecDepth 100000 in
set_option maxHeartbeats 8000000 in
theorem reg9_0 {l0 m : Nat} {c : Code} {u0 u1 u2 u3 u4 u5 u7 u8 u10 u12 u13 u14 u15 u16 u17 u18 u19 u20 u21 u22 u23 u24 u25 u26 u27 u28 u29 u30 u31 u32 u33 u34 u35 u36 u37 u38 u39 u40 u41 u42 u43 u44 u45 u46 u47 u48 u49 u50 u51 u52 u53 u54 : Value} {ds : List Deferred} {Q : Exit → Act → World → Prop} {wz : World} {g1 : Nat} {x0 x1 x2 x3 n : Int} (hc : regionAt 9 (bodyOf Try.f45) = some c) (hout : ¬ LetsOut Q) (hQ : ∀ (ch : List PanicEntry) (a a' : Act) (w : World), Q (.panic ch) a w → Q (.panic ch) a' w) (hR : Rg wz g1 x0 x1 x2 x3)
    (h : ∀ (s39 s46 : Value) (W : World), Rg W g1 (min x0 n) (max x1 n) x2 x3 → Kp2 wz.heap.size g1 g1 wz W → Q .normal { tmps := #[u0, u1, u2, u3, u4, u5, .pointer (some ⟨g1, 0, none⟩), u7, u8, .int .i64 0, u10, .int .i64 n, u12, u13, u14, u15, u16, u17, u18, u19, u20, u21, u22, u23, u24, u25, u26, u27, u28, u29, u30, u31, u32, .int .i64 0, .int .i64 0, .pointer (some ⟨g1, 0, none⟩), .pointer (some ⟨g1, 0, none⟩), .int .i64 x0, .int .i64 n, s39, .int .i64 (min x0 n), .int .i64 0, .pointer (some ⟨g1, 0, none⟩), .pointer (some ⟨g1, 1, none⟩), .int .i64 x1, .int .i64 n, s46, .int .i64 (max x1 n), .agg #[.int .i64 (min x0 n), .int .i64 (max x1 n)], .pointer (some ⟨g1, 0, none⟩), u50, u51, u52, u53, u54], defers := ds } W) :
    c.wpIn (Fence.wide.inRound l0) m Try.prog Q { tmps := #[u0, u1, u2, u3, u4, u5, .pointer (some ⟨g1, 0, none⟩), u7, u8, .int .i64 0, u10, .int .i64 n, u12, u13, u14, u15, u16, u17, u18, u19, u20, u21, u22, u23, u24, u25, u26, u27, u28, u29, u30, u31, u32, u33, u34, u35, u36, u37, u38, u39, u40, u41, u42, u43, u44, u45, u46, u47, u48, u49, u50, u51, u52, u53, u54], defers := ds } wz := by
  dsimp only at h
  simp only [bodyOf, Try.f45, regionAt, Option.or, Nat.reduceEqDiff, if_true, if_false, Option.some.injEq, reduceIte] at hc
  subst hc
  have HH := Lib.hid h
  clear h
  refine round_T (fun W => Rg W g1 x0 x1 x2 x3 ∧ Below wz.heap.size wz W) 17 (by kernel_rfl) (by kernel_rfl) hout ⟨hR, (Below.refl _ _).drew⟩ (fun hS => ?_)
  refine' T_take (i := 0) (v := _) rfl (by kernel_rfl) (by kernel_rfl) (by kernel_rfl) (by kernel_rfl) (fun _ _ _ h => hQ _ _ _ _ h) (by rfl) hS ?_ ?_
  rotate_left 1
  · intro Wv hW
    obtain ⟨q0, q1, q2, q3, -⟩ := hW.1.cells
    go_simp
    first | done | with_reducible rfl
  try simp only [Act.put, List.setIfInBounds_toArray, List.set_cons_zero, List.set_cons_succ]
  refine' T_take (i := 1) (v := _) rfl (by kernel_rfl) (by kernel_rfl) (by kernel_rfl) (by kernel_rfl) (fun _ _ _ h => hQ _ _ _ _ h) (by rfl) hS ?_ ?_
  rotate_left 1
  · intro Wv hW
    obtain ⟨q0, q1, q2, q3, -⟩ := hW.1.cells
    go_simp
    first | done | with_reducible rfl
  try simp only [Act.put, List.setIfInBounds_toArray, List.set_cons_zero, List.set_cons_succ]
  refine' T_take (i := 2) (v := _) rfl (by kernel_rfl) (by kernel_rfl) (by kernel_rfl) (by kernel_rfl) (fun _ _ _ h => hQ _ _ _ _ h) (by rfl) hS ?_ ?_
  rotate_left 1
  · intro Wv hW
    obtain ⟨q0, q1, q2, q3, -⟩ := hW.1.cells
    go_simp
    first | done | with_reducible rfl
  try simp only [Act.put, List.setIfInBounds_toArray, List.set_cons_zero, List.set_cons_succ]
  refine' T_take (i := 3) (v := _) rfl (by kernel_rfl) (by kernel_rfl) (by kernel_rfl) (by kernel_rfl) (fun _ _ _ h => hQ _ _ _ _ h) (by rfl) hS ?_ ?_
  rotate_left 1
  · intro Wv hW
    obtain ⟨q0, q1, q2, q3, -⟩ := hW.1.cells
    go_simp
    first | done | with_reducible rfl
  try simp only [Act.put, List.setIfInBounds_toArray, List.set_cons_zero, List.set_cons_succ]
  refine' T_take (i := 4) (v := _) rfl (by kernel_rfl) (by kernel_rfl) (by kernel_rfl) (by kernel_rfl) (fun _ _ _ h => hQ _ _ _ _ h) (by rfl) hS ?_ ?_
  rotate_left 1
  · intro Wv hW
    obtain ⟨q0, q1, q2, q3, -⟩ := hW.1.cells
    go_simp
    first | done | with_reducible rfl
  try simp only [Act.put, List.setIfInBounds_toArray, List.set_cons_zero, List.set_cons_succ]
  refine' T_take (i := 5) (v := _) rfl (by kernel_rfl) (by kernel_rfl) (by kernel_rfl) (by kernel_rfl) (fun _ _ _ h => hQ _ _ _ _ h) (by rfl) hS ?_ ?_
  rotate_left 1
  · intro Wv hW
    obtain ⟨q0, q1, q2, q3, -⟩ := hW.1.cells
    go_simp
    first | done | with_reducible rfl
  try simp only [Act.put, List.setIfInBounds_toArray, List.set_cons_zero, List.set_cons_succ]
  refine' T_take (i := 8) (v := _) rfl (by kernel_rfl) (by kernel_rfl) (by kernel_rfl) (by kernel_rfl) (fun _ _ _ h => hQ _ _ _ _ h) (by rfl) hS ?_ ?_
  rotate_left 1
  · intro Wv hW
    obtain ⟨q0, q1, q2, q3, -⟩ := hW.1.cells
    go_simp
    first | done | with_reducible rfl
  try simp only [Act.put, List.setIfInBounds_toArray, List.set_cons_zero, List.set_cons_succ]
  refine' T_take (i := 9) (v := _) rfl (by kernel_rfl) (by kernel_rfl) (by kernel_rfl) (by kernel_rfl) (fun _ _ _ h => hQ _ _ _ _ h) (by rfl) hS ?_ ?_
  rotate_left 1
  · intro Wv hW
    obtain ⟨q0, q1, q2, q3, -⟩ := hW.1.cells
    go_simp
    first | done | with_reducible rfl
  try simp only [Act.put, List.setIfInBounds_toArray, List.set_cons_zero, List.set_cons_succ]
  refine' T_take (i := 10) (v := _) rfl (by kernel_rfl) (by kernel_rfl) (by kernel_rfl) (by kernel_rfl) (fun _ _ _ h => hQ _ _ _ _ h) (by rfl) hS ?_ ?_
  rotate_left 1
  · intro Wv hW
    obtain ⟨q0, q1, q2, q3, -⟩ := hW.1.cells
    go_simp
    first | done | with_reducible rfl
  try simp only [Act.put, List.setIfInBounds_toArray, List.set_cons_zero, List.set_cons_succ]
  refine' T_take (i := 11) (v := _) rfl (by kernel_rfl) (by kernel_rfl) (by kernel_rfl) (by kernel_rfl) (fun _ _ _ h => hQ _ _ _ _ h) (by rfl) hS ?_ ?_
  rotate_left 1
  · intro Wv hW
    obtain ⟨q0, q1, q2, q3, -⟩ := hW.1.cells
    go_simp
    first | done | with_reducible rfl
  try simp only [Act.put, List.setIfInBounds_toArray, List.set_cons_zero, List.set_cons_succ]
  refine' T_take (i := 12) (v := _) rfl (by kernel_rfl) (by kernel_rfl) (by kernel_rfl) (by kernel_rfl) (fun _ _ _ h => hQ _ _ _ _ h) (by rfl) hS ?_ ?_
  rotate_left 1
  · intro Wv hW
    obtain ⟨q0, q1, q2, q3, -⟩ := hW.1.cells
    go_simp
    first | done | with_reducible rfl
  try simp only [Act.put, List.setIfInBounds_toArray, List.set_cons_zero, List.set_cons_succ]
  refine T_ready (rs := [6, 13]) (by kernel_rfl) (by simp) ?_
  refine TReady.cons rfl (fun K hK => ?k1_6) (TReady.cons rfl (fun K hK => ?k1_13) (TReady.nil))
  case k1_6 =>
    try go_simp
    refine hK.out _ _ (fun _ => ⟨hS.1.alloc _, hS.2.alloc hS.2.size _⟩) (fun hS2 => ?_)
    replace hS := hS2 (by decide)
    clear hS2
    clear hK K
    try simp only [Act.put, List.setIfInBounds_toArray, List.set_cons_zero, List.set_cons_succ]
    refine T_ready (rs := [7, 13]) (by kernel_rfl) (by simp) ?_
    refine TReady.cons rfl (fun K hK => ?k2_7) (TReady.cons rfl (fun K hK => ?k2_13) (TReady.nil))
    case k2_7 =>
      try go_simp
      refine (least_c _ x0 n _ (by go_simp) (by go_simp)).mono ?_
      rintro e w4 ⟨rfl, rfl⟩
      try go_simp
      refine hK.out _ _ (fun _ => hS) (fun _ => ?_)
      clear hK K
      try simp only [Act.put, List.setIfInBounds_toArray, List.set_cons_zero, List.set_cons_succ]
      refine T_ready (rs := [13]) (by kernel_rfl) (by simp) ?_
      refine TReady.cons rfl (fun K hK => ?k3_13) (TReady.nil)
      case k3_13 =>
        try go_simp
        refine hK.out _ _ (fun _ => ⟨hS.1.alloc _, hS.2.alloc hS.2.size _⟩) (fun hS2 => ?_)
        replace hS := hS2 (by decide)
        clear hS2
        clear hK K
        try simp only [Act.put, List.setIfInBounds_toArray, List.set_cons_zero, List.set_cons_succ]
        refine T_ready (rs := [14]) (by kernel_rfl) (by simp) ?_
        refine TReady.cons rfl (fun K hK => ?k4_14) (TReady.nil)
        case k4_14 =>
          try go_simp
          refine (greatest_c _ x1 n _ (by go_simp) (by go_simp)).mono ?_
          rintro e w4 ⟨rfl, rfl⟩
          try go_simp
          refine hK.out _ _ (fun _ => hS) (fun _ => ?_)
          clear hK K
          try simp only [Act.put, List.setIfInBounds_toArray, List.set_cons_zero, List.set_cons_succ]
          refine' T_take (i := 15) (v := _) rfl (by kernel_rfl) (by kernel_rfl) (by kernel_rfl) (by kernel_rfl) (fun _ _ _ h => hQ _ _ _ _ h) (by rfl) hS ?_ ?_
          rotate_left 1
          · intro Wv hW
            obtain ⟨q0, q1, q2, q3, -⟩ := hW.1.cells
            go_simp
            first | done | with_reducible rfl
          try simp only [Act.put, List.setIfInBounds_toArray, List.set_cons_zero, List.set_cons_succ]
          refine' T_take (i := 16) (v := _) rfl (by kernel_rfl) (by kernel_rfl) (by kernel_rfl) (by kernel_rfl) (fun _ _ _ h => hQ _ _ _ _ h) (by rfl) hS ?_ ?_
          rotate_left 1
          · intro Wv hW
            obtain ⟨q0, q1, q2, q3, -⟩ := hW.1.cells
            go_simp
            first | done | with_reducible rfl
          try simp only [Act.put, List.setIfInBounds_toArray, List.set_cons_zero, List.set_cons_succ]
          refine T_ready (rs := [17]) (by kernel_rfl) (by simp) ?_
          refine TReady.cons rfl (fun K hK => ?k5_17) (TReady.nil)
          case k5_17 =>
            obtain ⟨q0, q1, q2, q3, q4⟩ := hR.cells
            have q5 := q4 0
            have q6 := q4 1
            have q7 := hR.lt
            have q8 : g1 < wz.heap.size + 1 := by omega
            go_simp
            refine hK.out _ _ (fun h => absurd h (by decide)) (fun _ => ?_)
            clear hK K
            try simp only [Act.put, List.setIfInBounds_toArray, List.set_cons_zero, List.set_cons_succ]
            refine T_done (by kernel_rfl) ?_ _
            have w1 : Rg ((wz.setCell ⟨g1, 0, none⟩ (.int .i64 (min x0 n))).setCell ⟨g1, 1, none⟩ (.int .i64 (max x1 n))) g1 (min x0 n) (max x1 n) x2 x3 := hR.set0 _ _
            have w2 : Kp2 wz.heap.size g1 g1 wz ((wz.setCell ⟨g1, 0, none⟩ (.int .i64 (min x0 n))).setCell ⟨g1, 1, none⟩ (.int .i64 (max x1 n))) := Kp2.trans (Kp2.of_set (n₀ := wz.heap.size) (g := g1) (g' := g1) (A := wz) (ad := ⟨g1, 0, none⟩) (.inl rfl) (.int .i64 (min x0 n))) (Kp2.of_set (n₀ := wz.heap.size) (g := g1) (g' := g1) (A := wz.setCell ⟨g1, 0, none⟩ (.int .i64 (min x0 n))) (ad := ⟨g1, 1, none⟩) (.inl rfl) (.int .i64 (max x1 n)))
            clear q0 q1 q2 q3 q4 q5 q6 hS
            refine HH.out _ _ _ ?_ ?_
            · exact (w1.alloc _).alloc _
            · exact w2.trans (Kp2.of_below ((((Below.refl _ _).alloc (Nat.le_refl _) _).alloc (by simp) _).drew) (by simp))
    case k2_13 =>
      try go_simp
      refine hK.out _ _ (fun _ => ⟨hS.1.alloc _, hS.2.alloc hS.2.size _⟩) (fun hS2 => ?_)
      replace hS := hS2 (by decide)
      clear hS2
      clear hK K
      try simp only [Act.put, List.setIfInBounds_toArray, List.set_cons_zero, List.set_cons_succ]
      refine T_ready (rs := [7]) (by kernel_rfl) (by simp) ?_
      refine TReady.cons rfl (fun K hK => ?k6_7) (TReady.nil)
      case k6_7 =>
        try go_simp
        refine (least_c _ x0 n _ (by go_simp) (by go_simp)).mono ?_
        rintro e w4 ⟨rfl, rfl⟩
        try go_simp
        refine hK.out _ _ (fun _ => hS) (fun _ => ?_)
        clear hK K
        try simp only [Act.put, List.setIfInBounds_toArray, List.set_cons_zero, List.set_cons_succ]
        refine T_ready (rs := [14]) (by kernel_rfl) (by simp) ?_
        refine TReady.cons rfl (fun K hK => ?k7_14) (TReady.nil)
        case k7_14 =>
          try go_simp
          refine (greatest_c _ x1 n _ (by go_simp) (by go_simp)).mono ?_
          rintro e w4 ⟨rfl, rfl⟩
          try go_simp
          refine hK.out _ _ (fun _ => hS) (fun _ => ?_)
          clear hK K
          try simp only [Act.put, List.setIfInBounds_toArray, List.set_cons_zero, List.set_cons_succ]
          refine' T_take (i := 15) (v := _) rfl (by kernel_rfl) (by kernel_rfl) (by kernel_rfl) (by kernel_rfl) (fun _ _ _ h => hQ _ _ _ _ h) (by rfl) hS ?_ ?_
          rotate_left 1
          · intro Wv hW
            obtain ⟨q0, q1, q2, q3, -⟩ := hW.1.cells
            go_simp
            first | done | with_reducible rfl
          try simp only [Act.put, List.setIfInBounds_toArray, List.set_cons_zero, List.set_cons_succ]
          refine' T_take (i := 16) (v := _) rfl (by kernel_rfl) (by kernel_rfl) (by kernel_rfl) (by kernel_rfl) (fun _ _ _ h => hQ _ _ _ _ h) (by rfl) hS ?_ ?_
          rotate_left 1
          · intro Wv hW
            obtain ⟨q0, q1, q2, q3, -⟩ := hW.1.cells
            go_simp
            first | done | with_reducible rfl
          try simp only [Act.put, List.setIfInBounds_toArray, List.set_cons_zero, List.set_cons_succ]
          refine T_ready (rs := [17]) (by kernel_rfl) (by simp) ?_
          refine TReady.cons rfl (fun K hK => ?k8_17) (TReady.nil)
          case k8_17 =>
            obtain ⟨q0, q1, q2, q3, q4⟩ := hR.cells
            have q5 := q4 0
            have q6 := q4 1
            have q7 := hR.lt
            have q8 : g1 < wz.heap.size + 1 := by omega
            go_simp
            refine hK.out _ _ (fun h => absurd h (by decide)) (fun _ => ?_)
            clear hK K
            try simp only [Act.put, List.setIfInBounds_toArray, List.set_cons_zero, List.set_cons_succ]
            refine T_done (by kernel_rfl) ?_ _
            have w1 : Rg ((wz.setCell ⟨g1, 0, none⟩ (.int .i64 (min x0 n))).setCell ⟨g1, 1, none⟩ (.int .i64 (max x1 n))) g1 (min x0 n) (max x1 n) x2 x3 := hR.set0 _ _
            have w2 : Kp2 wz.heap.size g1 g1 wz ((wz.setCell ⟨g1, 0, none⟩ (.int .i64 (min x0 n))).setCell ⟨g1, 1, none⟩ (.int .i64 (max x1 n))) := Kp2.trans (Kp2.of_set (n₀ := wz.heap.size) (g := g1) (g' := g1) (A := wz) (ad := ⟨g1, 0, none⟩) (.inl rfl) (.int .i64 (min x0 n))) (Kp2.of_set (n₀ := wz.heap.size) (g := g1) (g' := g1) (A := wz.setCell ⟨g1, 0, none⟩ (.int .i64 (min x0 n))) (ad := ⟨g1, 1, none⟩) (.inl rfl) (.int .i64 (max x1 n)))
            clear q0 q1 q2 q3 q4 q5 q6 hS
            refine HH.out _ _ _ ?_ ?_
            · exact (w1.alloc _).alloc _
            · exact w2.trans (Kp2.of_below ((((Below.refl _ _).alloc (Nat.le_refl _) _).alloc (by simp) _).drew) (by simp))
  case k1_13 =>
    try go_simp
    refine hK.out _ _ (fun _ => ⟨hS.1.alloc _, hS.2.alloc hS.2.size _⟩) (fun hS2 => ?_)
    replace hS := hS2 (by decide)
    clear hS2
    clear hK K
    try simp only [Act.put, List.setIfInBounds_toArray, List.set_cons_zero, List.set_cons_succ]
    refine T_ready (rs := [6]) (by kernel_rfl) (by simp) ?_
    refine TReady.cons rfl (fun K hK => ?k9_6) (TReady.nil)
    case k9_6 =>
      try go_simp
      refine hK.out _ _ (fun _ => ⟨hS.1.alloc _, hS.2.alloc hS.2.size _⟩) (fun hS2 => ?_)
      replace hS := hS2 (by decide)
      clear hS2
      clear hK K
      try simp only [Act.put, List.setIfInBounds_toArray, List.set_cons_zero, List.set_cons_succ]
      refine T_ready (rs := [7]) (by kernel_rfl) (by simp) ?_
      refine TReady.cons rfl (fun K hK => ?k10_7) (TReady.nil)
      case k10_7 =>
        try go_simp
        refine (least_c _ x0 n _ (by go_simp) (by go_simp)).mono ?_
        rintro e w4 ⟨rfl, rfl⟩
        try go_simp
        refine hK.out _ _ (fun _ => hS) (fun _ => ?_)
        clear hK K
        try simp only [Act.put, List.setIfInBounds_toArray, List.set_cons_zero, List.set_cons_succ]
        refine T_ready (rs := [14]) (by kernel_rfl) (by simp) ?_
        refine TReady.cons rfl (fun K hK => ?k11_14) (TReady.nil)
        case k11_14 =>
          try go_simp
          refine (greatest_c _ x1 n _ (by go_simp) (by go_simp)).mono ?_
          rintro e w4 ⟨rfl, rfl⟩
          try go_simp
          refine hK.out _ _ (fun _ => hS) (fun _ => ?_)
          clear hK K
          try simp only [Act.put, List.setIfInBounds_toArray, List.set_cons_zero, List.set_cons_succ]
          refine' T_take (i := 15) (v := _) rfl (by kernel_rfl) (by kernel_rfl) (by kernel_rfl) (by kernel_rfl) (fun _ _ _ h => hQ _ _ _ _ h) (by rfl) hS ?_ ?_
          rotate_left 1
          · intro Wv hW
            obtain ⟨q0, q1, q2, q3, -⟩ := hW.1.cells
            go_simp
            first | done | with_reducible rfl
          try simp only [Act.put, List.setIfInBounds_toArray, List.set_cons_zero, List.set_cons_succ]
          refine' T_take (i := 16) (v := _) rfl (by kernel_rfl) (by kernel_rfl) (by kernel_rfl) (by kernel_rfl) (fun _ _ _ h => hQ _ _ _ _ h) (by rfl) hS ?_ ?_
          rotate_left 1
          · intro Wv hW
            obtain ⟨q0, q1, q2, q3, -⟩ := hW.1.cells
            go_simp
            first | done | with_reducible rfl
          try simp only [Act.put, List.setIfInBounds_toArray, List.set_cons_zero, List.set_cons_succ]
          refine T_ready (rs := [17]) (by kernel_rfl) (by simp) ?_
          refine TReady.cons rfl (fun K hK => ?k12_17) (TReady.nil)
          case k12_17 =>
            obtain ⟨q0, q1, q2, q3, q4⟩ := hR.cells
            have q5 := q4 0
            have q6 := q4 1
            have q7 := hR.lt
            have q8 : g1 < wz.heap.size + 1 := by omega
            go_simp
            refine hK.out _ _ (fun h => absurd h (by decide)) (fun _ => ?_)
            clear hK K
            try simp only [Act.put, List.setIfInBounds_toArray, List.set_cons_zero, List.set_cons_succ]
            refine T_done (by kernel_rfl) ?_ _
            have w1 : Rg ((wz.setCell ⟨g1, 0, none⟩ (.int .i64 (min x0 n))).setCell ⟨g1, 1, none⟩ (.int .i64 (max x1 n))) g1 (min x0 n) (max x1 n) x2 x3 := hR.set0 _ _
            have w2 : Kp2 wz.heap.size g1 g1 wz ((wz.setCell ⟨g1, 0, none⟩ (.int .i64 (min x0 n))).setCell ⟨g1, 1, none⟩ (.int .i64 (max x1 n))) := Kp2.trans (Kp2.of_set (n₀ := wz.heap.size) (g := g1) (g' := g1) (A := wz) (ad := ⟨g1, 0, none⟩) (.inl rfl) (.int .i64 (min x0 n))) (Kp2.of_set (n₀ := wz.heap.size) (g := g1) (g' := g1) (A := wz.setCell ⟨g1, 0, none⟩ (.int .i64 (min x0 n))) (ad := ⟨g1, 1, none⟩) (.inl rfl) (.int .i64 (max x1 n)))
            clear q0 q1 q2 q3 q4 q5 q6 hS
            refine HH.out _ _ _ ?_ ?_
            · exact (w1.alloc _).alloc _
            · exact w2.trans (Kp2.of_below ((((Below.refl _ _).alloc (Nat.le_refl _) _).alloc (by simp) _).drew) (by simp))
set_option maxRecDepth 100000 in
set_option maxHeartbeats 8000000 in
theorem reg9_1 {l0 m : Nat} {c : Code} {u0 u1 u2 u3 u4 u5 u7 u8 u10 u12 u13 u14 u15 u16 u17 u18 u19 u20 u21 u22 u23 u24 u25 u26 u27 u28 u29 u30 u31 u32 u33 u34 u35 u36 u37 u38 u39 u40 u41 u42 u43 u44 u45 u46 u47 u48 u49 u50 u51 u52 u53 u54 : Value} {ds : List Deferred} {Q : Exit → Act → World → Prop} {wz : World} {g1 : Nat} {x0 x1 x2 x3 n : Int} (hc : regionAt 9 (bodyOf Try.f45) = some c) (hout : ¬ LetsOut Q) (hQ : ∀ (ch : List PanicEntry) (a a' : Act) (w : World), Q (.panic ch) a w → Q (.panic ch) a' w) (hR : Rg wz g1 x0 x1 x2 x3)
    (h : ∀ (s39 s46 : Value) (W : World), Rg W g1 x0 x1 (min x2 n) (max x3 n) → Kp2 wz.heap.size g1 g1 wz W → Q .normal { tmps := #[u0, u1, u2, u3, u4, u5, .pointer (some ⟨g1, 0, none⟩), u7, u8, .int .i64 1, u10, .int .i64 n, u12, u13, u14, u15, u16, u17, u18, u19, u20, u21, u22, u23, u24, u25, u26, u27, u28, u29, u30, u31, u32, .int .i64 1, .int .i64 1, .pointer (some ⟨g1, 2, none⟩), .pointer (some ⟨g1, 2, none⟩), .int .i64 x2, .int .i64 n, s39, .int .i64 (min x2 n), .int .i64 1, .pointer (some ⟨g1, 2, none⟩), .pointer (some ⟨g1, 3, none⟩), .int .i64 x3, .int .i64 n, s46, .int .i64 (max x3 n), .agg #[.int .i64 (min x2 n), .int .i64 (max x3 n)], .pointer (some ⟨g1, 2, none⟩), u50, u51, u52, u53, u54], defers := ds } W) :
    c.wpIn (Fence.wide.inRound l0) m Try.prog Q { tmps := #[u0, u1, u2, u3, u4, u5, .pointer (some ⟨g1, 0, none⟩), u7, u8, .int .i64 1, u10, .int .i64 n, u12, u13, u14, u15, u16, u17, u18, u19, u20, u21, u22, u23, u24, u25, u26, u27, u28, u29, u30, u31, u32, u33, u34, u35, u36, u37, u38, u39, u40, u41, u42, u43, u44, u45, u46, u47, u48, u49, u50, u51, u52, u53, u54], defers := ds } wz := by
  dsimp only at h
  simp only [bodyOf, Try.f45, regionAt, Option.or, Nat.reduceEqDiff, if_true, if_false, Option.some.injEq, reduceIte] at hc
  subst hc
  have HH := Lib.hid h
  clear h
  refine round_T (fun W => Rg W g1 x0 x1 x2 x3 ∧ Below wz.heap.size wz W) 17 (by kernel_rfl) (by kernel_rfl) hout ⟨hR, (Below.refl _ _).drew⟩ (fun hS => ?_)
  refine' T_take (i := 0) (v := _) rfl (by kernel_rfl) (by kernel_rfl) (by kernel_rfl) (by kernel_rfl) (fun _ _ _ h => hQ _ _ _ _ h) (by rfl) hS ?_ ?_
  rotate_left 1
  · intro Wv hW
    obtain ⟨q0, q1, q2, q3, -⟩ := hW.1.cells
    go_simp
    first | done | with_reducible rfl
  try simp only [Act.put, List.setIfInBounds_toArray, List.set_cons_zero, List.set_cons_succ]
  refine' T_take (i := 1) (v := _) rfl (by kernel_rfl) (by kernel_rfl) (by kernel_rfl) (by kernel_rfl) (fun _ _ _ h => hQ _ _ _ _ h) (by rfl) hS ?_ ?_
  rotate_left 1
  · intro Wv hW
    obtain ⟨q0, q1, q2, q3, -⟩ := hW.1.cells
    go_simp
    first | done | with_reducible rfl
  try simp only [Act.put, List.setIfInBounds_toArray, List.set_cons_zero, List.set_cons_succ]
  refine' T_take (i := 2) (v := _) rfl (by kernel_rfl) (by kernel_rfl) (by kernel_rfl) (by kernel_rfl) (fun _ _ _ h => hQ _ _ _ _ h) (by rfl) hS ?_ ?_
  rotate_left 1
  · intro Wv hW
    obtain ⟨q0, q1, q2, q3, -⟩ := hW.1.cells
    go_simp
    first | done | with_reducible rfl
  try simp only [Act.put, List.setIfInBounds_toArray, List.set_cons_zero, List.set_cons_succ]
  refine' T_take (i := 3) (v := _) rfl (by kernel_rfl) (by kernel_rfl) (by kernel_rfl) (by kernel_rfl) (fun _ _ _ h => hQ _ _ _ _ h) (by rfl) hS ?_ ?_
  rotate_left 1
  · intro Wv hW
    obtain ⟨q0, q1, q2, q3, -⟩ := hW.1.cells
    go_simp
    first | done | with_reducible rfl
  try simp only [Act.put, List.setIfInBounds_toArray, List.set_cons_zero, List.set_cons_succ]
  refine' T_take (i := 4) (v := _) rfl (by kernel_rfl) (by kernel_rfl) (by kernel_rfl) (by kernel_rfl) (fun _ _ _ h => hQ _ _ _ _ h) (by rfl) hS ?_ ?_
  rotate_left 1
  · intro Wv hW
    obtain ⟨q0, q1, q2, q3, -⟩ := hW.1.cells
    go_simp
    first | done | with_reducible rfl
  try simp only [Act.put, List.setIfInBounds_toArray, List.set_cons_zero, List.set_cons_succ]
  refine' T_take (i := 5) (v := _) rfl (by kernel_rfl) (by kernel_rfl) (by kernel_rfl) (by kernel_rfl) (fun _ _ _ h => hQ _ _ _ _ h) (by rfl) hS ?_ ?_
  rotate_left 1
  · intro Wv hW
    obtain ⟨q0, q1, q2, q3, -⟩ := hW.1.cells
    go_simp
    first | done | with_reducible rfl
  try simp only [Act.put, List.setIfInBounds_toArray, List.set_cons_zero, List.set_cons_succ]
  refine' T_take (i := 8) (v := _) rfl (by kernel_rfl) (by kernel_rfl) (by kernel_rfl) (by kernel_rfl) (fun _ _ _ h => hQ _ _ _ _ h) (by rfl) hS ?_ ?_
  rotate_left 1
  · intro Wv hW
    obtain ⟨q0, q1, q2, q3, -⟩ := hW.1.cells
    go_simp
    first | done | with_reducible rfl
  try simp only [Act.put, List.setIfInBounds_toArray, List.set_cons_zero, List.set_cons_succ]
  refine' T_take (i := 9) (v := _) rfl (by kernel_rfl) (by kernel_rfl) (by kernel_rfl) (by kernel_rfl) (fun _ _ _ h => hQ _ _ _ _ h) (by rfl) hS ?_ ?_
  rotate_left 1
  · intro Wv hW
    obtain ⟨q0, q1, q2, q3, -⟩ := hW.1.cells
    go_simp
    first | done | with_reducible rfl
  try simp only [Act.put, List.setIfInBounds_toArray, List.set_cons_zero, List.set_cons_succ]
  refine' T_take (i := 10) (v := _) rfl (by kernel_rfl) (by kernel_rfl) (by kernel_rfl) (by kernel_rfl) (fun _ _ _ h => hQ _ _ _ _ h) (by rfl) hS ?_ ?_
  rotate_left 1
  · intro Wv hW
    obtain ⟨q0, q1, q2, q3, -⟩ := hW.1.cells
    go_simp
    first | done | with_reducible rfl
  try simp only [Act.put, List.setIfInBounds_toArray, List.set_cons_zero, List.set_cons_succ]
  refine' T_take (i := 11) (v := _) rfl (by kernel_rfl) (by kernel_rfl) (by kernel_rfl) (by kernel_rfl) (fun _ _ _ h => hQ _ _ _ _ h) (by rfl) hS ?_ ?_
  rotate_left 1
  · intro Wv hW
    obtain ⟨q0, q1, q2, q3, -⟩ := hW.1.cells
    go_simp
    first | done | with_reducible rfl
  try simp only [Act.put, List.setIfInBounds_toArray, List.set_cons_zero, List.set_cons_succ]
  refine' T_take (i := 12) (v := _) rfl (by kernel_rfl) (by kernel_rfl) (by kernel_rfl) (by kernel_rfl) (fun _ _ _ h => hQ _ _ _ _ h) (by rfl) hS ?_ ?_
  rotate_left 1
  · intro Wv hW
    obtain ⟨q0, q1, q2, q3, -⟩ := hW.1.cells
    go_simp
    first | done | with_reducible rfl
  try simp only [Act.put, List.setIfInBounds_toArray, List.set_cons_zero, List.set_cons_succ]
  refine T_ready (rs := [6, 13]) (by kernel_rfl) (by simp) ?_
  refine TReady.cons rfl (fun K hK => ?k1_6) (TReady.cons rfl (fun K hK => ?k1_13) (TReady.nil))
  case k1_6 =>
    try go_simp
    refine hK.out _ _ (fun _ => ⟨hS.1.alloc _, hS.2.alloc hS.2.size _⟩) (fun hS2 => ?_)
    replace hS := hS2 (by decide)
    clear hS2
    clear hK K
    try simp only [Act.put, List.setIfInBounds_toArray, List.set_cons_zero, List.set_cons_succ]
    refine T_ready (rs := [7, 13]) (by kernel_rfl) (by simp) ?_
    refine TReady.cons rfl (fun K hK => ?k2_7) (TReady.cons rfl (fun K hK => ?k2_13) (TReady.nil))
    case k2_7 =>
      try go_simp
      refine (least_c _ x2 n _ (by go_simp) (by go_simp)).mono ?_
      rintro e w4 ⟨rfl, rfl⟩
      try go_simp
      refine hK.out _ _ (fun _ => hS) (fun _ => ?_)
      clear hK K
      try simp only [Act.put, List.setIfInBounds_toArray, List.set_cons_zero, List.set_cons_succ]
      refine T_ready (rs := [13]) (by kernel_rfl) (by simp) ?_
      refine TReady.cons rfl (fun K hK => ?k3_13) (TReady.nil)
      case k3_13 =>
        try go_simp
        refine hK.out _ _ (fun _ => ⟨hS.1.alloc _, hS.2.alloc hS.2.size _⟩) (fun hS2 => ?_)
        replace hS := hS2 (by decide)
        clear hS2
        clear hK K
        try simp only [Act.put, List.setIfInBounds_toArray, List.set_cons_zero, List.set_cons_succ]
        refine T_ready (rs := [14]) (by kernel_rfl) (by simp) ?_
        refine TReady.cons rfl (fun K hK => ?k4_14) (TReady.nil)
        case k4_14 =>
          try go_simp
          refine (greatest_c _ x3 n _ (by go_simp) (by go_simp)).mono ?_
          rintro e w4 ⟨rfl, rfl⟩
          try go_simp
          refine hK.out _ _ (fun _ => hS) (fun _ => ?_)
          clear hK K
          try simp only [Act.put, List.setIfInBounds_toArray, List.set_cons_zero, List.set_cons_succ]
          refine' T_take (i := 15) (v := _) rfl (by kernel_rfl) (by kernel_rfl) (by kernel_rfl) (by kernel_rfl) (fun _ _ _ h => hQ _ _ _ _ h) (by rfl) hS ?_ ?_
          rotate_left 1
          · intro Wv hW
            obtain ⟨q0, q1, q2, q3, -⟩ := hW.1.cells
            go_simp
            first | done | with_reducible rfl
          try simp only [Act.put, List.setIfInBounds_toArray, List.set_cons_zero, List.set_cons_succ]
          refine' T_take (i := 16) (v := _) rfl (by kernel_rfl) (by kernel_rfl) (by kernel_rfl) (by kernel_rfl) (fun _ _ _ h => hQ _ _ _ _ h) (by rfl) hS ?_ ?_
          rotate_left 1
          · intro Wv hW
            obtain ⟨q0, q1, q2, q3, -⟩ := hW.1.cells
            go_simp
            first | done | with_reducible rfl
          try simp only [Act.put, List.setIfInBounds_toArray, List.set_cons_zero, List.set_cons_succ]
          refine T_ready (rs := [17]) (by kernel_rfl) (by simp) ?_
          refine TReady.cons rfl (fun K hK => ?k5_17) (TReady.nil)
          case k5_17 =>
            obtain ⟨q0, q1, q2, q3, q4⟩ := hR.cells
            have q5 := q4 2
            have q6 := q4 3
            have q7 := hR.lt
            have q8 : g1 < wz.heap.size + 1 := by omega
            go_simp
            refine hK.out _ _ (fun h => absurd h (by decide)) (fun _ => ?_)
            clear hK K
            try simp only [Act.put, List.setIfInBounds_toArray, List.set_cons_zero, List.set_cons_succ]
            refine T_done (by kernel_rfl) ?_ _
            have w1 : Rg ((wz.setCell ⟨g1, 2, none⟩ (.int .i64 (min x2 n))).setCell ⟨g1, 3, none⟩ (.int .i64 (max x3 n))) g1 x0 x1 (min x2 n) (max x3 n) := hR.set2 _ _
            have w2 : Kp2 wz.heap.size g1 g1 wz ((wz.setCell ⟨g1, 2, none⟩ (.int .i64 (min x2 n))).setCell ⟨g1, 3, none⟩ (.int .i64 (max x3 n))) := Kp2.trans (Kp2.of_set (n₀ := wz.heap.size) (g := g1) (g' := g1) (A := wz) (ad := ⟨g1, 2, none⟩) (.inl rfl) (.int .i64 (min x2 n))) (Kp2.of_set (n₀ := wz.heap.size) (g := g1) (g' := g1) (A := wz.setCell ⟨g1, 2, none⟩ (.int .i64 (min x2 n))) (ad := ⟨g1, 3, none⟩) (.inl rfl) (.int .i64 (max x3 n)))
            clear q0 q1 q2 q3 q4 q5 q6 hS
            refine HH.out _ _ _ ?_ ?_
            · exact (w1.alloc _).alloc _
            · exact w2.trans (Kp2.of_below ((((Below.refl _ _).alloc (Nat.le_refl _) _).alloc (by simp) _).drew) (by simp))
    case k2_13 =>
      try go_simp
      refine hK.out _ _ (fun _ => ⟨hS.1.alloc _, hS.2.alloc hS.2.size _⟩) (fun hS2 => ?_)
      replace hS := hS2 (by decide)
      clear hS2
      clear hK K
      try simp only [Act.put, List.setIfInBounds_toArray, List.set_cons_zero, List.set_cons_succ]
      refine T_ready (rs := [7]) (by kernel_rfl) (by simp) ?_
      refine TReady.cons rfl (fun K hK => ?k6_7) (TReady.nil)
      case k6_7 =>
        try go_simp
        refine (least_c _ x2 n _ (by go_simp) (by go_simp)).mono ?_
        rintro e w4 ⟨rfl, rfl⟩
        try go_simp
        refine hK.out _ _ (fun _ => hS) (fun _ => ?_)
        clear hK K
        try simp only [Act.put, List.setIfInBounds_toArray, List.set_cons_zero, List.set_cons_succ]
        refine T_ready (rs := [14]) (by kernel_rfl) (by simp) ?_
        refine TReady.cons rfl (fun K hK => ?k7_14) (TReady.nil)
        case k7_14 =>
          try go_simp
          refine (greatest_c _ x3 n _ (by go_simp) (by go_simp)).mono ?_
          rintro e w4 ⟨rfl, rfl⟩
          try go_simp
          refine hK.out _ _ (fun _ => hS) (fun _ => ?_)
          clear hK K
          try simp only [Act.put, List.setIfInBounds_toArray, List.set_cons_zero, List.set_cons_succ]
          refine' T_take (i := 15) (v := _) rfl (by kernel_rfl) (by kernel_rfl) (by kernel_rfl) (by kernel_rfl) (fun _ _ _ h => hQ _ _ _ _ h) (by rfl) hS ?_ ?_
          rotate_left 1
          · intro Wv hW
            obtain ⟨q0, q1, q2, q3, -⟩ := hW.1.cells
            go_simp
            first | done | with_reducible rfl
          try simp only [Act.put, List.setIfInBounds_toArray, List.set_cons_zero, List.set_cons_succ]
          refine' T_take (i := 16) (v := _) rfl (by kernel_rfl) (by kernel_rfl) (by kernel_rfl) (by kernel_rfl) (fun _ _ _ h => hQ _ _ _ _ h) (by rfl) hS ?_ ?_
          rotate_left 1
          · intro Wv hW
            obtain ⟨q0, q1, q2, q3, -⟩ := hW.1.cells
            go_simp
            first | done | with_reducible rfl
          try simp only [Act.put, List.setIfInBounds_toArray, List.set_cons_zero, List.set_cons_succ]
          refine T_ready (rs := [17]) (by kernel_rfl) (by simp) ?_
          refine TReady.cons rfl (fun K hK => ?k8_17) (TReady.nil)
          case k8_17 =>
            obtain ⟨q0, q1, q2, q3, q4⟩ := hR.cells
            have q5 := q4 2
            have q6 := q4 3
            have q7 := hR.lt
            have q8 : g1 < wz.heap.size + 1 := by omega
            go_simp
            refine hK.out _ _ (fun h => absurd h (by decide)) (fun _ => ?_)
            clear hK K
            try simp only [Act.put, List.setIfInBounds_toArray, List.set_cons_zero, List.set_cons_succ]
            refine T_done (by kernel_rfl) ?_ _
            have w1 : Rg ((wz.setCell ⟨g1, 2, none⟩ (.int .i64 (min x2 n))).setCell ⟨g1, 3, none⟩ (.int .i64 (max x3 n))) g1 x0 x1 (min x2 n) (max x3 n) := hR.set2 _ _
            have w2 : Kp2 wz.heap.size g1 g1 wz ((wz.setCell ⟨g1, 2, none⟩ (.int .i64 (min x2 n))).setCell ⟨g1, 3, none⟩ (.int .i64 (max x3 n))) := Kp2.trans (Kp2.of_set (n₀ := wz.heap.size) (g := g1) (g' := g1) (A := wz) (ad := ⟨g1, 2, none⟩) (.inl rfl) (.int .i64 (min x2 n))) (Kp2.of_set (n₀ := wz.heap.size) (g := g1) (g' := g1) (A := wz.setCell ⟨g1, 2, none⟩ (.int .i64 (min x2 n))) (ad := ⟨g1, 3, none⟩) (.inl rfl) (.int .i64 (max x3 n)))
            clear q0 q1 q2 q3 q4 q5 q6 hS
            refine HH.out _ _ _ ?_ ?_
            · exact (w1.alloc _).alloc _
            · exact w2.trans (Kp2.of_below ((((Below.refl _ _).alloc (Nat.le_refl _) _).alloc (by simp) _).drew) (by simp))
  case k1_13 =>
    try go_simp
    refine hK.out _ _ (fun _ => ⟨hS.1.alloc _, hS.2.alloc hS.2.size _⟩) (fun hS2 => ?_)
    replace hS := hS2 (by decide)
    clear hS2
    clear hK K
    try simp only [Act.put, List.setIfInBounds_toArray, List.set_cons_zero, List.set_cons_succ]
    refine T_ready (rs := [6]) (by kernel_rfl) (by simp) ?_
    refine TReady.cons rfl (fun K hK => ?k9_6) (TReady.nil)
    case k9_6 =>
      try go_simp
      refine hK.out _ _ (fun _ => ⟨hS.1.alloc _, hS.2.alloc hS.2.size _⟩) (fun hS2 => ?_)
      replace hS := hS2 (by decide)
      clear hS2
      clear hK K
      try simp only [Act.put, List.setIfInBounds_toArray, List.set_cons_zero, List.set_cons_succ]
      refine T_ready (rs := [7]) (by kernel_rfl) (by simp) ?_
      refine TReady.cons rfl (fun K hK => ?k10_7) (TReady.nil)
      case k10_7 =>
        try go_simp
        refine (least_c _ x2 n _ (by go_simp) (by go_simp)).mono ?_
        rintro e w4 ⟨rfl, rfl⟩
        try go_simp
        refine hK.out _ _ (fun _ => hS) (fun _ => ?_)
        clear hK K
        try simp only [Act.put, List.setIfInBounds_toArray, List.set_cons_zero, List.set_cons_succ]
        refine T_ready (rs := [14]) (by kernel_rfl) (by simp) ?_
        refine TReady.cons rfl (fun K hK => ?k11_14) (TReady.nil)
        case k11_14 =>
          try go_simp
          refine (greatest_c _ x3 n _ (by go_simp) (by go_simp)).mono ?_
          rintro e w4 ⟨rfl, rfl⟩
          try go_simp
          refine hK.out _ _ (fun _ => hS) (fun _ => ?_)
          clear hK K
          try simp only [Act.put, List.setIfInBounds_toArray, List.set_cons_zero, List.set_cons_succ]
          refine' T_take (i := 15) (v := _) rfl (by kernel_rfl) (by kernel_rfl) (by kernel_rfl) (by kernel_rfl) (fun _ _ _ h => hQ _ _ _ _ h) (by rfl) hS ?_ ?_
          rotate_left 1
          · intro Wv hW
            obtain ⟨q0, q1, q2, q3, -⟩ := hW.1.cells
            go_simp
            first | done | with_reducible rfl
          try simp only [Act.put, List.setIfInBounds_toArray, List.set_cons_zero, List.set_cons_succ]
          refine' T_take (i := 16) (v := _) rfl (by kernel_rfl) (by kernel_rfl) (by kernel_rfl) (by kernel_rfl) (fun _ _ _ h => hQ _ _ _ _ h) (by rfl) hS ?_ ?_
          rotate_left 1
          · intro Wv hW
            obtain ⟨q0, q1, q2, q3, -⟩ := hW.1.cells
            go_simp
            first | done | with_reducible rfl
          try simp only [Act.put, List.setIfInBounds_toArray, List.set_cons_zero, List.set_cons_succ]
          refine T_ready (rs := [17]) (by kernel_rfl) (by simp) ?_
          refine TReady.cons rfl (fun K hK => ?k12_17) (TReady.nil)
          case k12_17 =>
            obtain ⟨q0, q1, q2, q3, q4⟩ := hR.cells
            have q5 := q4 2
            have q6 := q4 3
            have q7 := hR.lt
            have q8 : g1 < wz.heap.size + 1 := by omega
            go_simp
            refine hK.out _ _ (fun h => absurd h (by decide)) (fun _ => ?_)
            clear hK K
            try simp only [Act.put, List.setIfInBounds_toArray, List.set_cons_zero, List.set_cons_succ]
            refine T_done (by kernel_rfl) ?_ _
            have w1 : Rg ((wz.setCell ⟨g1, 2, none⟩ (.int .i64 (min x2 n))).setCell ⟨g1, 3, none⟩ (.int .i64 (max x3 n))) g1 x0 x1 (min x2 n) (max x3 n) := hR.set2 _ _
            have w2 : Kp2 wz.heap.size g1 g1 wz ((wz.setCell ⟨g1, 2, none⟩ (.int .i64 (min x2 n))).setCell ⟨g1, 3, none⟩ (.int .i64 (max x3 n))) := Kp2.trans (Kp2.of_set (n₀ := wz.heap.size) (g := g1) (g' := g1) (A := wz) (ad := ⟨g1, 2, none⟩) (.inl rfl) (.int .i64 (min x2 n))) (Kp2.of_set (n₀ := wz.heap.size) (g := g1) (g' := g1) (A := wz.setCell ⟨g1, 2, none⟩ (.int .i64 (min x2 n))) (ad := ⟨g1, 3, none⟩) (.inl rfl) (.int .i64 (max x3 n)))
            clear q0 q1 q2 q3 q4 q5 q6 hS
            refine HH.out _ _ _ ?_ ?_
            · exact (w1.alloc _).alloc _
            · exact w2.trans (Kp2.of_below ((((Below.refl _ _).alloc (Nat.le_refl _) _).alloc (by simp) _).drew) (by simp))
end

section
open Go.RowKit
attribute [local go_sem] Oper.semAt_some
set_option maxRecDepth 100000 in
set_option maxHeartbeats 8000000 in
theorem frame_c {B : Nat} (p c : Nat) (fr frn : Int) (o : Nat → Bool) (A : Option Addr) (ws : List Wd) (w : World) (hB : B ≤ w.heap.size) (hpB : p < B) (hn : w.cell? ⟨p, 0, none⟩ = some (.int .i64 frn)) (hl : w.cell? ⟨p, 1, none⟩ = some (.slice A ws.length c)) (hw : Wds B w A ws)
    (hl9 : ws.length ≤ 1000000) (hok : ∀ k, k < ws.length → wordB frn (wx ws k) = true) :
    Calls Try.prog 45 #[.pointer (some ⟨p, 0, none⟩), .int .i64 fr, .agg #[.bool (o 0), .bool (o 1), .bool (o 2), .bool (o 3)]] w
      (Ans w (.tuple #[.agg #[.int .i64 (loS (fsts (gamesL ws fr o))), .int .i64 (hiS (fsts (gamesL ws fr o))), .int .i64 (loS (snds (gamesL ws fr o))), .int .i64 (hiS (snds (gamesL ws fr o)))], .int .i64 ((gamesL ws fr o).length : Int)])) := by
  have HN := Lib.hid hn
  have HL := Lib.hid hl
  have HW := Lib.hid hw
  have HOK := Lib.hid hok
  clear hn hl hw hok
  refine calls_marks Try.func45 rfl ?_
  simp only [Try.ntmps45, List.size_toArray, List.length_cons, List.length_nil, Nat.reduceAdd, Nat.reduceSub, Array.replicate_succ, Array.replicate_zero, List.push_toArray, List.append_toArray, List.nil_append, List.cons_append]
  go_wp2_with (go_at_call 68; refine (games_c _ _ o _).mono ?_; rintro e w2 ⟨rfl, rfl⟩)
  have hb1 : Below w.heap.size w ((((((w.alloc (.cells #[.bool (o 0), .bool (o 1), .bool (o 2), .bool (o 3)] 129)).alloc (.cells #[.int .i64 0, .int .i64 0, .int .i64 0, .int .i64 0] 135)).alloc (.cells #[.int .i64 0] 3)).alloc (.cells #[.pointer (some ⟨p, 0, none⟩)] 127)).alloc (.cells #[.int .i64 fr] 3)).alloc (.cells #[.bool (o 0), .bool (o 1), .bool (o 2), .bool (o 3)] 129)) := (((((((Below.refl _ _).alloc (Nat.le_refl _) _).alloc (by simp) _).alloc (by simp; omega) _).alloc (by simp; omega) _).alloc (by simp; omega) _).alloc (by simp; omega) _)
  have hsz : ((((((w.alloc (.cells #[.bool (o 0), .bool (o 1), .bool (o 2), .bool (o 3)] 129)).alloc (.cells #[.int .i64 0, .int .i64 0, .int .i64 0, .int .i64 0] 135)).alloc (.cells #[.int .i64 0] 3)).alloc (.cells #[.pointer (some ⟨p, 0, none⟩)] 127)).alloc (.cells #[.int .i64 fr] 3)).alloc (.cells #[.bool (o 0), .bool (o 1), .bool (o 2), .bool (o 3)] 129)).heap.size = w.heap.size + 6 := by simp
  have hR0 : Rg ((((((w.alloc (.cells #[.bool (o 0), .bool (o 1), .bool (o 2), .bool (o 3)] 129)).alloc (.cells #[.int .i64 0, .int .i64 0, .int .i64 0, .int .i64 0] 135)).alloc (.cells #[.int .i64 0] 3)).alloc (.cells #[.pointer (some ⟨p, 0, none⟩)] 127)).alloc (.cells #[.int .i64 fr] 3)).alloc (.cells #[.bool (o 0), .bool (o 1), .bool (o 2), .bool (o 3)] 129)) (w.heap.size + 1) 0 0 0 0 := by
    have := World.alloc_heap_new (w.alloc (.cells #[.bool (o 0), .bool (o 1), .bool (o 2), .bool (o 3)] 129)) (.cells #[.int .i64 0, .int .i64 0, .int .i64 0, .int .i64 0] 135)
    rw [World.size_alloc] at this
    exact ((((show Rg _ _ 0 0 0 0 from this).alloc _).alloc _).alloc _).alloc _
  have hO0 : On ((((((w.alloc (.cells #[.bool (o 0), .bool (o 1), .bool (o 2), .bool (o 3)] 129)).alloc (.cells #[.int .i64 0, .int .i64 0, .int .i64 0, .int .i64 0] 135)).alloc (.cells #[.int .i64 0] 3)).alloc (.cells #[.pointer (some ⟨p, 0, none⟩)] 127)).alloc (.cells #[.int .i64 fr] 3)).alloc (.cells #[.bool (o 0), .bool (o 1), .bool (o 2), .bool (o 3)] 129)) (w.heap.size + 1 + 1) 0 := by
    have := World.alloc_heap_new ((w.alloc (.cells #[.bool (o 0), .bool (o 1), .bool (o 2), .bool (o 3)] 129)).alloc (.cells #[.int .i64 0, .int .i64 0, .int .i64 0, .int .i64 0] 135)) (.cells #[.int .i64 0] 3)
    rw [World.size_alloc, World.size_alloc] at this
    exact (((show On _ _ 0 from this).alloc _).alloc _).alloc _
  have hq0 : ((((((w.alloc (.cells #[.bool (o 0), .bool (o 1), .bool (o 2), .bool (o 3)] 129)).alloc (.cells #[.int .i64 0, .int .i64 0, .int .i64 0, .int .i64 0] 135)).alloc (.cells #[.int .i64 0] 3)).alloc (.cells #[.pointer (some ⟨p, 0, none⟩)] 127)).alloc (.cells #[.int .i64 fr] 3)).alloc (.cells #[.bool (o 0), .bool (o 1), .bool (o 2), .bool (o 3)] 129)).cell? ⟨w.heap.size + 1 + 1 + 1, 0, none⟩ = some (.pointer (some ⟨p, 0, none⟩)) := by go_simp
  have hq1 : ((((((w.alloc (.cells #[.bool (o 0), .bool (o 1), .bool (o 2), .bool (o 3)] 129)).alloc (.cells #[.int .i64 0, .int .i64 0, .int .i64 0, .int .i64 0] 135)).alloc (.cells #[.int .i64 0] 3)).alloc (.cells #[.pointer (some ⟨p, 0, none⟩)] 127)).alloc (.cells #[.int .i64 fr] 3)).alloc (.cells #[.bool (o 0), .bool (o 1), .bool (o 2), .bool (o 3)] 129)).cell? ⟨w.heap.size + 1 + 1 + 1 + 1, 0, none⟩ = some (.int .i64 fr) := by go_simp
  have hq2 : ∀ j, j < 4 → ((((((w.alloc (.cells #[.bool (o 0), .bool (o 1), .bool (o 2), .bool (o 3)] 129)).alloc (.cells #[.int .i64 0, .int .i64 0, .int .i64 0, .int .i64 0] 135)).alloc (.cells #[.int .i64 0] 3)).alloc (.cells #[.pointer (some ⟨p, 0, none⟩)] 127)).alloc (.cells #[.int .i64 fr] 3)).alloc (.cells #[.bool (o 0), .bool (o 1), .bool (o 2), .bool (o 3)] 129)).cell? ⟨w.heap.size + 1 + 1 + 1 + 2, j, none⟩ = some (.bool (o j)) := by
    intro j hj
    rcases (by omega : j = 0 ∨ j = 1 ∨ j = 2 ∨ j = 3) with rfl | rfl | rfl | rfl <;> go_simp
  have hS0 : GSt B ((((((w.alloc (.cells #[.bool (o 0), .bool (o 1), .bool (o 2), .bool (o 3)] 129)).alloc (.cells #[.int .i64 0, .int .i64 0, .int .i64 0, .int .i64 0] 135)).alloc (.cells #[.int .i64 0] 3)).alloc (.cells #[.pointer (some ⟨p, 0, none⟩)] 127)).alloc (.cells #[.int .i64 fr] 3)).alloc (.cells #[.bool (o 0), .bool (o 1), .bool (o 2), .bool (o 3)] 129)) (w.heap.size + 1 + 1 + 1) p fr frn o A c ws := ⟨hq0, hq1, hq2, cell_of_ans hb1 HN.out, cell_of_ans hb1 HL.out, HW.out.below (hb1.mono hB)⟩
  clear hq0 hq1 hq2
  generalize ((((((w.alloc (.cells #[.bool (o 0), .bool (o 1), .bool (o 2), .bool (o 3)] 129)).alloc (.cells #[.int .i64 0, .int .i64 0, .int .i64 0, .int .i64 0] 135)).alloc (.cells #[.int .i64 0] 3)).alloc (.cells #[.pointer (some ⟨p, 0, none⟩)] 127)).alloc (.cells #[.int .i64 fr] 3)).alloc (.cells #[.bool (o 0), .bool (o 1), .bool (o 2), .bool (o 3)] 129)) = W1 at hb1 hsz hR0 hO0 hS0 ⊢
  obtain ⟨g1, hg1⟩ : ∃ g1, g1 = w.heap.size + 1 := ⟨_, rfl⟩
  obtain ⟨g2, hg2⟩ : ∃ g2, g2 = w.heap.size + 1 + 1 := ⟨_, rfl⟩
  obtain ⟨q, hq⟩ : ∃ q, q = w.heap.size + 1 + 1 + 1 := ⟨_, rfl⟩
  rw [← hg1] at hR0
  rw [← hg2] at hO0
  rw [← hq] at hS0
  rw [← hq, ← hg2, ← hg1]
  have l0 : w.heap.size < g1 := by omega
  have l1 : g1 < g2 := by omega
  have l2 : g2 < q := by omega
  have l3 : q + 2 < W1.heap.size := by omega
  clear hg1 hg2 hq hsz
  refine wpIn_wide.1 (wpIn_rangeFunc_ownH (F := Fence.wide) (n := 5) (α := Nat × Nat) rfl (by omega) (gf := 124) (lb := #[.pointer (some ⟨q, 0, none⟩), .pointer (some ⟨q + 1, 0, none⟩), .pointer (some ⟨q + 2, 0, none⟩)]) rfl trivial (enters_of Try.func124 (by kernel_rfl) rfl)
    (games_stops 4 q p c fr frn o A ws W1.heap.size (Nat.le_trans hB (by omega)) hl9 HOK.out (Kp2 W1.heap.size g1 g2) (fun h k => h.trans k) (fun _ _ hn hb => Kp2.of_below hb hn) (fun _ _ h => h.1)
      (fun W W' hk hs => hs.kept2 hk (by omega) (by omega) (by omega) (by omega) (by omega) (by omega) hpB) W1 (Nat.le_refl _) hS0)
    (fun h k => h.trans k) ?keepPut (Below.refl _ _) (fun _ => rfl)
    (fun pre W => Rg W g1 (loS (fsts pre)) (hiS (fsts pre)) (loS (snds pre)) (hiS (snds pre)) ∧ On W g2 (pre.length : Int) ∧ Kp2 W1.heap.size g1 g2 W1 W)
    (fun _ _ _ => False) ?ownI (fun _ _ _ _ _ hs _ _ => hs) ⟨hR0, hO0, Kp2.refl _ _ _ _⟩
    (fun x a' W => ∃ bb, W1.heap.size ≤ bb ∧ W.heap[bb]? = some (.cells #[.int .i64 (x.1 : Int), .int .i64 (x.2 : Int)] 175 (0, 0)) ∧ a' = { tmps := #[.pointer (some ⟨p, 0, none⟩), .int .i64 fr, .agg #[.bool (o 0), .bool (o 1), .bool (o 2), .bool (o 3)], undef, undef, .pointer (some ⟨w.heap.size, 0, none⟩), .pointer (some ⟨g1, 0, none⟩), .pointer (some ⟨g2, 0, none⟩), .pointer (some ⟨bb, 0, none⟩), undef, undef, undef, .pointer (some ⟨p, 0, none⟩), .int .i64 fr, .agg #[.bool (o 0), .bool (o 1), .bool (o 2), .bool (o 3)], .func (.func 124) #[] #[.pointer (some ⟨q, 0, none⟩), .pointer (some ⟨q + 1, 0, none⟩), .pointer (some ⟨q + 2, 0, none⟩)], .agg #[.int .i64 (x.1 : Int), .int .i64 (x.2 : Int)], undef, undef, undef, undef, undef, undef, undef, undef, undef, undef, undef, undef, undef, undef, undef, undef, undef, undef, undef, undef, undef, undef, undef, undef, undef, undef, undef, undef, undef, undef, undef, undef, undef, undef, undef, undef, undef, undef], defers := [] })
    ?ownA ?assign ?body ?done ?stop)
  case keepPut =>
    intro W l x y hl hx _ _
    exact ⟨by simp, rfl, rfl, rfl, fun k hk _ _ => World.putObj_heap_other (by omega)⟩
  case ownI =>
    rintro pre W W' row ⟨hRr, hOo, hKp⟩ hg' hrow
    have hz := hKp.1
    refine ⟨(hg'.block g1 (by omega) (fun e => ?_)).trans hRr, (hg'.block g2 (by omega) (fun e => ?_)).trans hOo, hKp.trans ⟨hg'.size, hg'.os, hg'.tape, hg'.output, fun k hk _ _ => hg'.block k (by omega) (fun e => ?_)⟩⟩
    all_goals
      have := (hrow _ e.symm).1
      omega
  case ownA =>
    rintro x a' _ W W' row ⟨bb, hbb, hc, rfl⟩ hg' hrow
    refine ⟨bb, hbb, (hg'.block bb (Array.getElem?_eq_some_iff.1 hc).1 (fun e => ?_)).trans hc, rfl⟩
    obtain ⟨_, ob, ho, hno⟩ := hrow _ e.symm
    rw [hc] at ho
    cases ho
    cases hno
  case assign =>
    rintro l pre x W K ⟨hRr, hOo, hKp⟩ hK
    have hz := hKp.1
    simp only [gEnc]
    gi_wp2
    have hbW : Below W.heap.size W (W.alloc (.cells #[.int .i64 (x.1 : Int), .int .i64 (x.2 : Int)] 175)) := (Below.refl _ _).alloc (Nat.le_refl _) _
    refine hK _ _ ((KeepsOthers.alloc _ _).from _) (Kp2.of_below hbW hz) ⟨hRr.below hbW, hOo.below hbW, hKp.trans (Kp2.of_below hbW hz)⟩ ⟨W.heap.size, hz, World.alloc_heap_new _ _, rfl⟩
  case done =>
    rintro D ys W hD rfl ⟨hRr, hOo, hKp⟩ hK
    have hz := hKp.1
    have hKp' : Kp2 W1.heap.size g1 g2 W1 (W.putObj D (.deferred none)) := hKp.trans ⟨by simp, rfl, rfl, rfl, fun k hk _ _ => World.putObj_heap_other (by omega)⟩
    obtain ⟨r0, r1, r2, r3, r4⟩ := hRr.cells
    obtain ⟨n0, n1⟩ := hOo.cell
    have hgg : g1 ≠ g2 := by omega
    have hgg' : g2 ≠ g1 := by omega
    have f1 := r4 0
    have f2 := r4 1
    have f3 := r4 2
    have f4 := r4 3
    generalize loS (fsts (gamesL ws fr o)) = a1 at *
    generalize hiS (fsts (gamesL ws fr o)) = a2 at *
    generalize loS (snds (gamesL ws fr o)) = a3 at *
    generalize hiS (snds (gamesL ws fr o)) = a4 at *
    generalize ((gamesL ws fr o).length : Int) = a5 at *
    obtain ⟨v1, v2, v3, v4⟩ := hRr.same
    have v5 := hOo.same
    have HR := Lib.hid hRr
    have HO := Lib.hid hOo
    have HKD := Lib.hid hK
    have HKp := Lib.hid hKp
    clear r4 hK hKp' hKp hRr hOo
    go_wp2_with fail
    go_region_held3 (fun w' => w'.cell? ⟨g1, 0, none⟩ = some (.int .i64 a1) ∧ w'.cell? ⟨g1, 1, none⟩ = some (.int .i64 a2) ∧ w'.cell? ⟨g1, 2, none⟩ = some (.int .i64 a3) ∧ w'.cell? ⟨g1, 3, none⟩ = some (.int .i64 a4) ∧ w'.cell? ⟨g2, 0, none⟩ = some (.int .i64 a5)) (go_keep) (first | fail)
    all_goals
      go_wp2_with fail
      refine ⟨by simp, .inl ⟨_, _, rfl, run_takeDeferred (w := W.drew) HKD.out, ?_⟩⟩
      obtain ⟨x0, x1, x2, x3, -⟩ := (Rg.put (w := W.drew) HR.out (show g1 ≠ D by omega) (.deferred none)).cells
      obtain ⟨x4, -⟩ := (On.put (w := W.drew) HO.out (show g2 ≠ D by omega) (.deferred none)).cell
      refine ⟨.tuple #[.agg #[.int .i64 a1, .int .i64 a2, .int .i64 a3, .int .i64 a4], .int .i64 a5], by simp [results, Try.results45, go_sem, x0, x1, x2, x3, x4], rfl, ?_⟩
      have hk := HKp.out
      exact hb1.trans ⟨hk.2.1, hk.2.2.1, hk.2.2.2.1, by simpa using hk.1, fun k hk' => (World.putObj_heap_other (by omega)).trans (hk.2.2.2.2 k (by omega) (by omega) (by omega))⟩
  case body =>
    rintro l pre x a' W hl ⟨r, hr⟩ ⟨hRr, hOo, hKp⟩ ⟨bb, hbb, hcell, rfl⟩ hlt
    obtain ⟨xf, xs⟩ := x
    dsimp only at hcell ⊢
    have hz := hKp.1
    have hbw : bb < W.heap.size := (Array.getElem?_eq_some_iff.1 hcell).1
    have e82 := enters82
    have e83 := enters83
    unfold Enters at e82 e83
    have i0 := index_pl0
    have i1 := index_pl1
    have hA1 : Hid (loS (fsts (pre ++ [(xf, xs)])) = if pre.length = 0 then (xf : Int) else min (loS (fsts pre)) (xf : Int)) := by show _ = _; rw [fsts_snoc, loS_snoc, fsts_len]
    have hA2 : Hid (hiS (fsts (pre ++ [(xf, xs)])) = if pre.length = 0 then (xf : Int) else max (hiS (fsts pre)) (xf : Int)) := by show _ = _; rw [fsts_snoc, hiS_snoc, fsts_len]
    have hA3 : Hid (loS (snds (pre ++ [(xf, xs)])) = if pre.length = 0 then (xs : Int) else min (loS (snds pre)) (xs : Int)) := by show _ = _; rw [snds_snoc, loS_snoc, snds_len]
    have hA4 : Hid (hiS (snds (pre ++ [(xf, xs)])) = if pre.length = 0 then (xs : Int) else max (hiS (snds pre)) (xs : Int)) := by show _ = _; rw [snds_snoc, hiS_snoc, snds_len]
    obtain ⟨b1, hbq1⟩ : ∃ b, loS (fsts (pre ++ [(xf, xs)])) = b := ⟨_, rfl⟩
    rw [hbq1] at hA1
    have HQ1 := Lib.hid hbq1
    clear hbq1
    generalize loS (fsts pre) = a1 at *
    obtain ⟨b2, hbq2⟩ : ∃ b, hiS (fsts (pre ++ [(xf, xs)])) = b := ⟨_, rfl⟩
    rw [hbq2] at hA2
    have HQ2 := Lib.hid hbq2
    clear hbq2
    generalize hiS (fsts pre) = a2 at *
    obtain ⟨b3, hbq3⟩ : ∃ b, loS (snds (pre ++ [(xf, xs)])) = b := ⟨_, rfl⟩
    rw [hbq3] at hA3
    have HQ3 := Lib.hid hbq3
    clear hbq3
    generalize loS (snds pre) = a3 at *
    obtain ⟨b4, hbq4⟩ : ∃ b, hiS (snds (pre ++ [(xf, xs)])) = b := ⟨_, rfl⟩
    rw [hbq4] at hA4
    have HQ4 := Lib.hid hbq4
    clear hbq4
    generalize hiS (snds pre) = a4 at *
    have hln : Hid ((pre ++ [(xf, xs)]).length = pre.length + 1) := by show _ = _; simp
    obtain ⟨n1, hN⟩ : ∃ n, (pre ++ [(xf, xs)]).length = n := ⟨_, rfl⟩
    rw [hN] at hln
    have HNQ := Lib.hid hN
    clear hN
    have hn1 : Hid ((n1 : Int) = (pre.length : Int) + 1) := by show _ = _; rw [hln.out]; rfl
    generalize pre.length = n0 at *
    have HR := Lib.hid hRr
    have HO := Lib.hid hOo
    have HKp := Lib.hid hKp
    have HC := Lib.hid hcell
    clear hRr hOo hKp hcell
    gi_wp2_with (refine ⟨trivial, ?_⟩; gi_at_call 98; refine (CallsIn.inRound l (callsIn_wide.2 (places_c _))).mono ?_; rintro e w1 ⟨rfl, hb⟩; have HB := Lib.hid hb; clear hb)
    gi_loopw [18] (fun i wr => ((i = .int .i64 0 ∧ Rg wr g1 a1 a2 a3 a4) ∨ (i = .int .i64 1 ∧ Rg wr g1 b1 b2 a3 a4) ∨ (i = .int .i64 2 ∧ Rg wr g1 b1 b2 b3 b4)) ∧ On wr g2 (n0 : Int) ∧ Kp2 W.heap.size g1 g2 W wr) (fun i _ => 2 - (intOf i).toNat)
    case atStart => exact ⟨.inl ⟨rfl, HR.out.below HB.out⟩, HO.out.below HB.out, Kp2.of_below HB.out (Nat.le_refl _)⟩
    case round =>
      obtain ⟨hcase, hOr, hKr⟩ := hrel
      rename World => wr
      have hzr := hKr.1
      have hgg : g1 ≠ g2 := by omega
      have hgg2 : g2 ≠ g1 := by omega
      have c0 : wr.cell? ⟨bb, 0, none⟩ = some (.int .i64 (xf : Int)) := hKr.cell (by simp [World.cell?, HC.out]) hbw (by dsimp only; omega) (by dsimp only; omega)
      have c1 : wr.cell? ⟨bb, 1, none⟩ = some (.int .i64 (xs : Int)) := hKr.cell (by simp [World.cell?, HC.out]) hbw (by dsimp only; omega) (by dsimp only; omega)
      have hbr : bb < wr.heap.size := by omega
      have hg1r : g1 < wr.heap.size := by omega
      have hg2r : g2 < wr.heap.size := by omega
      obtain ⟨n2, n3⟩ := hOr.cell
      have HOr := Lib.hid hOr
      have HKr := Lib.hid hKr
      clear hOr hKr
      rcases hcase with ⟨rfl, hRr⟩ | ⟨rfl, hRr⟩ | ⟨rfl, hRr⟩
      · obtain ⟨r0, r1, r2, r3, r4⟩ := hRr.cells
        have f0 := r4 0
        have f1 := r4 1
        have f2 := r4 2
        have f3 := r4 3
        have HRr := Lib.hid hRr
        clear hRr r4
        have hb2 : Below wr.heap.size wr (wr.alloc (.cells #[.func (.func 144) #[] #[]] 227)) := (Below.refl _ _).alloc (Nat.le_refl _) _
        have HB2 := Lib.hid hb2
        have hCO := Lib.hid (one_c (xf : Int) (xs : Int) (wr.alloc (.cells #[.func (.func 144) #[] #[]] 227)))
        clear hb2
        by_cases hn0 : n0 = 0
        · have t0 : ((n0 : Int) == 0) = true := by simp [hn0]
          have HN0 := Lib.hid hn0
          clear hn0
          gi_wp2_with (refine ⟨trivial, ?_⟩; gi_at_call 144; refine (CallsIn.inRound l (callsIn_wide.2 hCO.out)).mono ?_; rintro e w3 ⟨rfl, hb⟩; have HR3 := Lib.hid ((HRr.out.alloc _).below hb); have HO3 := Lib.hid ((HOr.out.alloc _).below hb); clear r0 r1 r2 r3 f0 f1 f2 f3 n2 n3; obtain ⟨r0, r1, r2, r3, r4⟩ := HR3.out.cells; have f0 := r4 0; have f1 := r4 1; have f2 := r4 2; have f3 := r4 3; obtain ⟨n2, n3⟩ := HO3.out.cell; have HB3 := Lib.hid hb; clear hb r4)
          have HK3 : Hid (Kp2 W.heap.size g1 g2 W w3) := HKr.out.trans ((Kp2.of_below HB2.out hzr).trans (Kp2.of_below HB3.out (Nat.le_trans hzr HB2.out.size)))
          have HRz := Lib.hid (HR3.out.set0 (xf : Int) (xf : Int))
          have HOz := Lib.hid ((HO3.out.far (ad := ⟨g1, 0, none⟩) hgg2 (.int .i64 (xf : Int))).far (ad := ⟨g1, 1, none⟩) hgg2 (.int .i64 (xf : Int)))
          have HKz := Lib.hid (HK3.out.trans ((Kp2.of_set (n₀ := W.heap.size) (g := g1) (g' := g2) (A := w3) (ad := ⟨g1, 0, none⟩) (.inl rfl) (.int .i64 (xf : Int))).trans (Kp2.of_set (ad := ⟨g1, 1, none⟩) (.inl rfl) (.int .i64 (xf : Int)))))
          generalize (w3.setCell ⟨g1, 0, none⟩ (.int .i64 (xf : Int))).setCell ⟨g1, 1, none⟩ (.int .i64 (xf : Int)) = wz at HRz HOz HKz ⊢
          clear r0 r1 r2 r3 f0 f1 f2 f3 n2 n3 HR3 HO3 HK3 HB3
          refine reg9_0 (by kernel_rfl) (by rintro ⟨_, _, h⟩; exact h) (fun _ _ _ _ h => h) HRz.out (fun s39 s46 W5 hg5 hk5 => ?_)
          have HG5 := Lib.hid hg5
          have HK5 := Lib.hid hk5
          clear hg5 hk5
          gi_wp2
          go_roundw
          case rel =>
            have hk2 : Kp2 W.heap.size g1 g2 W W5 := HKz.out.trans ⟨HK5.out.1, HK5.out.2.1, HK5.out.2.2.1, HK5.out.2.2.2.1, fun j hj h1 _ => HK5.out.2.2.2.2 j (Nat.lt_of_lt_of_le hj HKz.out.1) h1 h1⟩
            refine ⟨.inr (.inl ⟨by go_num, ?_⟩), (HK5.out.2.2.2.2 g2 HOz.out.lt hgg2 hgg2).trans HOz.out, hk2⟩
            have hg := HG5.out
            rw [hA1.out, hA2.out, if_pos HN0.out, if_pos HN0.out]
            simpa using hg
          case measure => simp [intOf]
        · have t0 : ((n0 : Int) == 0) = false := by simp; omega
          have HN0 := Lib.hid hn0
          clear hn0
          gi_wp2_with (refine ⟨trivial, ?_⟩; gi_at_call 144; refine (CallsIn.inRound l (callsIn_wide.2 hCO.out)).mono ?_; rintro e w3 ⟨rfl, hb⟩; have HR3 := Lib.hid ((HRr.out.alloc _).below hb); have HO3 := Lib.hid ((HOr.out.alloc _).below hb); clear r0 r1 r2 r3 f0 f1 f2 f3 n2 n3; obtain ⟨r0, r1, r2, r3, r4⟩ := HR3.out.cells; have f0 := r4 0; have f1 := r4 1; have f2 := r4 2; have f3 := r4 3; obtain ⟨n2, n3⟩ := HO3.out.cell; have HB3 := Lib.hid hb; clear hb r4)
          have HK3 : Hid (Kp2 W.heap.size g1 g2 W w3) := HKr.out.trans ((Kp2.of_below HB2.out hzr).trans (Kp2.of_below HB3.out (Nat.le_trans hzr HB2.out.size)))
          have HRz := HR3
          have HOz := HO3
          have HKz := HK3
          obtain ⟨wz, hwz⟩ : ∃ wz, wz = w3 := ⟨_, rfl⟩
          rw [← hwz] at HRz HOz HKz ⊢
          clear hwz
          clear r0 r1 r2 r3 f0 f1 f2 f3 n2 n3 HR3 HO3 HK3 HB3
          refine reg9_0 (by kernel_rfl) (by rintro ⟨_, _, h⟩; exact h) (fun _ _ _ _ h => h) HRz.out (fun s39 s46 W5 hg5 hk5 => ?_)
          have HG5 := Lib.hid hg5
          have HK5 := Lib.hid hk5
          clear hg5 hk5
          gi_wp2
          go_roundw
          case rel =>
            have hk2 : Kp2 W.heap.size g1 g2 W W5 := HKz.out.trans ⟨HK5.out.1, HK5.out.2.1, HK5.out.2.2.1, HK5.out.2.2.2.1, fun j hj h1 _ => HK5.out.2.2.2.2 j (Nat.lt_of_lt_of_le hj HKz.out.1) h1 h1⟩
            refine ⟨.inr (.inl ⟨by go_num, ?_⟩), (HK5.out.2.2.2.2 g2 HOz.out.lt hgg2 hgg2).trans HOz.out, hk2⟩
            have hg := HG5.out
            rw [hA1.out, hA2.out, if_neg HN0.out, if_neg HN0.out]
            exact hg
          case measure => simp [intOf]
      · obtain ⟨r0, r1, r2, r3, r4⟩ := hRr.cells
        have f0 := r4 0
        have f1 := r4 1
        have f2 := r4 2
        have f3 := r4 3
        have HRr := Lib.hid hRr
        clear hRr r4
        have hb2 : Below wr.heap.size wr (wr.alloc (.cells #[.func (.func 145) #[] #[]] 227)) := (Below.refl _ _).alloc (Nat.le_refl _) _
        have HB2 := Lib.hid hb2
        have hCO := Lib.hid (two_c (xf : Int) (xs : Int) (wr.alloc (.cells #[.func (.func 145) #[] #[]] 227)))
        clear hb2
        by_cases hn0 : n0 = 0
        · have t0 : ((n0 : Int) == 0) = true := by simp [hn0]
          have HN0 := Lib.hid hn0
          clear hn0
          gi_wp2_with (refine ⟨trivial, ?_⟩; gi_at_call 145; refine (CallsIn.inRound l (callsIn_wide.2 hCO.out)).mono ?_; rintro e w3 ⟨rfl, hb⟩; have HR3 := Lib.hid ((HRr.out.alloc _).below hb); have HO3 := Lib.hid ((HOr.out.alloc _).below hb); clear r0 r1 r2 r3 f0 f1 f2 f3 n2 n3; obtain ⟨r0, r1, r2, r3, r4⟩ := HR3.out.cells; have f0 := r4 0; have f1 := r4 1; have f2 := r4 2; have f3 := r4 3; obtain ⟨n2, n3⟩ := HO3.out.cell; have HB3 := Lib.hid hb; clear hb r4)
          have HK3 : Hid (Kp2 W.heap.size g1 g2 W w3) := HKr.out.trans ((Kp2.of_below HB2.out hzr).trans (Kp2.of_below HB3.out (Nat.le_trans hzr HB2.out.size)))
          have HRz := Lib.hid (HR3.out.set2 (xs : Int) (xs : Int))
          have HOz := Lib.hid ((HO3.out.far (ad := ⟨g1, 2, none⟩) hgg2 (.int .i64 (xs : Int))).far (ad := ⟨g1, 3, none⟩) hgg2 (.int .i64 (xs : Int)))
          have HKz := Lib.hid (HK3.out.trans ((Kp2.of_set (n₀ := W.heap.size) (g := g1) (g' := g2) (A := w3) (ad := ⟨g1, 2, none⟩) (.inl rfl) (.int .i64 (xs : Int))).trans (Kp2.of_set (ad := ⟨g1, 3, none⟩) (.inl rfl) (.int .i64 (xs : Int)))))
          generalize (w3.setCell ⟨g1, 2, none⟩ (.int .i64 (xs : Int))).setCell ⟨g1, 3, none⟩ (.int .i64 (xs : Int)) = wz at HRz HOz HKz ⊢
          clear r0 r1 r2 r3 f0 f1 f2 f3 n2 n3 HR3 HO3 HK3 HB3
          refine reg9_1 (by kernel_rfl) (by rintro ⟨_, _, h⟩; exact h) (fun _ _ _ _ h => h) HRz.out (fun s39 s46 W5 hg5 hk5 => ?_)
          have HG5 := Lib.hid hg5
          have HK5 := Lib.hid hk5
          clear hg5 hk5
          gi_wp2
          go_roundw
          case rel =>
            have hk2 : Kp2 W.heap.size g1 g2 W W5 := HKz.out.trans ⟨HK5.out.1, HK5.out.2.1, HK5.out.2.2.1, HK5.out.2.2.2.1, fun j hj h1 _ => HK5.out.2.2.2.2 j (Nat.lt_of_lt_of_le hj HKz.out.1) h1 h1⟩
            refine ⟨.inr (.inr ⟨by go_num, ?_⟩), (HK5.out.2.2.2.2 g2 HOz.out.lt hgg2 hgg2).trans HOz.out, hk2⟩
            have hg := HG5.out
            rw [hA3.out, hA4.out, if_pos HN0.out, if_pos HN0.out]
            simpa using hg
          case measure => simp [intOf]
        · have t0 : ((n0 : Int) == 0) = false := by simp; omega
          have HN0 := Lib.hid hn0
          clear hn0
          gi_wp2_with (refine ⟨trivial, ?_⟩; gi_at_call 145; refine (CallsIn.inRound l (callsIn_wide.2 hCO.out)).mono ?_; rintro e w3 ⟨rfl, hb⟩; have HR3 := Lib.hid ((HRr.out.alloc _).below hb); have HO3 := Lib.hid ((HOr.out.alloc _).below hb); clear r0 r1 r2 r3 f0 f1 f2 f3 n2 n3; obtain ⟨r0, r1, r2, r3, r4⟩ := HR3.out.cells; have f0 := r4 0; have f1 := r4 1; have f2 := r4 2; have f3 := r4 3; obtain ⟨n2, n3⟩ := HO3.out.cell; have HB3 := Lib.hid hb; clear hb r4)
          have HK3 : Hid (Kp2 W.heap.size g1 g2 W w3) := HKr.out.trans ((Kp2.of_below HB2.out hzr).trans (Kp2.of_below HB3.out (Nat.le_trans hzr HB2.out.size)))
          have HRz := HR3
          have HOz := HO3
          have HKz := HK3
          obtain ⟨wz, hwz⟩ : ∃ wz, wz = w3 := ⟨_, rfl⟩
          rw [← hwz] at HRz HOz HKz ⊢
          clear hwz
          clear r0 r1 r2 r3 f0 f1 f2 f3 n2 n3 HR3 HO3 HK3 HB3
          refine reg9_1 (by kernel_rfl) (by rintro ⟨_, _, h⟩; exact h) (fun _ _ _ _ h => h) HRz.out (fun s39 s46 W5 hg5 hk5 => ?_)
          have HG5 := Lib.hid hg5
          have HK5 := Lib.hid hk5
          clear hg5 hk5
          gi_wp2
          go_roundw
          case rel =>
            have hk2 : Kp2 W.heap.size g1 g2 W W5 := HKz.out.trans ⟨HK5.out.1, HK5.out.2.1, HK5.out.2.2.1, HK5.out.2.2.2.1, fun j hj h1 _ => HK5.out.2.2.2.2 j (Nat.lt_of_lt_of_le hj HKz.out.1) h1 h1⟩
            refine ⟨.inr (.inr ⟨by go_num, ?_⟩), (HK5.out.2.2.2.2 g2 HOz.out.lt hgg2 hgg2).trans HOz.out, hk2⟩
            have hg := HG5.out
            rw [hA3.out, hA4.out, if_neg HN0.out, if_neg HN0.out]
            exact hg
          case measure => simp [intOf]
      · have HRr := Lib.hid hRr
        clear hRr
        gi_wp2
        have hk := HKr.out.trans (Kp2.of_set (n₀ := W.heap.size) (g := g1) (g' := g2) (A := wr) (ad := ⟨g2, 0, none⟩) (.inr rfl) (.int .i64 ((n0 : Int) + 1)))
        refine ⟨⟨hk.1, fun k ob hk1 hko _ => (hk.2.2.2.2 k (Array.getElem?_eq_some_iff.1 hko).1 (by omega) (by omega)).trans hko⟩, hk.less hz, by rw [HQ1.out, HQ2.out, HQ3.out, HQ4.out]; exact HRr.out.far hgg _, ?_, HKp.out.trans (hk.less hz)⟩
        rw [HNQ.out, hn1.out]
        exact HOr.out.set _
  case stop => exact fun _ _ _ _ _ _ h _ => h.elim
end

section
open Go.RowKit
theorem Try.laidOut : laidOutB Try.prog = true := by kernel_rfl
theorem some_law : Maps.Keyed Try.prog 129 := Maps.Keyed.of_law (deep_law_laid Try.laidOut (m := 3) (by decide) (of_decide_eq_true (by kernel_rfl)) (by kernel_rfl) (by kernel_rfl))
theorem some_key (a b c d : Bool) : ∃ kl, keyOf Try.prog 129 (.agg #[.bool a, .bool b, .bool c, .bool d]) = some kl := by
  have h : ∀ v, (keyOf Try.prog 129 v).isSome = true → ∃ kl, keyOf Try.prog 129 v = some kl := fun v hv => Option.isSome_iff_exists.1 hv
  cases a <;> cases b <;> cases c <;> cases d <;> exact h _ (by kernel_rfl)
theorem under97 : Try.prog.underlying 132 = some (.map 129 4) := by kernel_rfl
theorem under4 : Try.prog.underlying 4 = some .bool := by kernel_rfl
theorem zero4 (w : World) : (zeroValue 4).run Try.prog w = .ok (.bool false) w := by kernel_rfl
theorem plainElem_bool_inv {v : Value} {z : DataW Unit × List MemPlace} (h : plainElem Try.prog 4 v = some z) : ∃ x, v = .bool x ∧ z = (.lit (.bool x), []) := by
  unfold plainElem at h
  rw [under4] at h
  cases v <;> simp at h
  exact ⟨_, rfl, h.symm⟩
/-- Block b is a map of at most n entries; each tells the truth. -/
def Known (w : World) (b n : Nat) (ex : (Nat → Bool) → Bool) : Prop :=
  ∃ D : DataW Unit, w.ownsMap Try.prog 129 (plainElem Try.prog 4) b n D ∧ ∀ (o : Nat → Bool) (kl : Lit), keyOf Try.prog 129 (.agg #[.bool (o 0), .bool (o 1), .bool (o 2), .bool (o 3)]) = some kl → Maps.has D kl = true → D.atKey kl (.lit (.bool false)) = .lit (.bool (ex o))
theorem Known.made (w : World) (ex : (Nat → Bool) → Bool) : Known (w.alloc (.map #[] 0)) w.heap.size 0 ex :=
  ⟨.map [], World.ownsMap_made _ _ _ _, fun o kl _ h => by cases h⟩
theorem Known.kept {w w' : World} {b n : Nat} {ex : (Nat → Bool) → Bool} {row : Option Nat} (h : Known w b n ex) (hg : w.grownBy w' row) (hne : some b ≠ row) : Known w' b n ex := by
  obtain ⟨D, h1, h2⟩ := h
  exact ⟨D, h1.kept hg hne, h2⟩
theorem Known.lt {w : World} {b n : Nat} {ex : (Nat → Bool) → Bool} (h : Known w b n ex) : b < w.heap.size := by
  obtain ⟨D, h1, _⟩ := h
  exact h1.lt
theorem Known.step {w w' : World} {b n : Nat} {ex : (Nat → Bool) → Bool} (h : Known w b n ex) (hb : Below w.heap.size w w') : Known w' b n ex := h.kept (only_below hb none) (by simp)
theorem Known.more {w : World} {b n n' : Nat} {ex : (Nat → Bool) → Bool} (h : Known w b n ex) (hn : n ≤ n') : Known w b n' ex := by
  obtain ⟨D, h1, h2⟩ := h
  exact ⟨D, h1.mono hn, h2⟩
/-- A look-up: nothing is there, or the truth. -/
theorem Known.look {w : World} {b n : Nat} {ex : (Nat → Bool) → Bool} (h : Known w b n ex) (o : Nat → Bool) :
    (∀ k, (Instr.lookup 132 (.map (some b)) (.agg #[.bool (o 0), .bool (o 1), .bool (o 2), .bool (o 3)]) true).run Try.prog (w.drewN k) = .ok (.tuple #[.bool (ex o), .bool true]) (w.drewN k)) ∨
    (∀ k, (Instr.lookup 132 (.map (some b)) (.agg #[.bool (o 0), .bool (o 1), .bool (o 2), .bool (o 3)]) true).run Try.prog (w.drewN k) = .ok (.tuple #[.bool false, .bool false]) (w.drewN k)) := by
  obtain ⟨D, h1, h2⟩ := h
  obtain ⟨kl, hk⟩ := some_key (o 0) (o 1) (o 2) (o 3)
  have run : ∀ k, ∃ v ps, (Instr.lookup 132 (.map (some b)) (.agg #[.bool (o 0), .bool (o 1), .bool (o 2), .bool (o 3)]) true).run Try.prog (w.drewN k) = .ok (.tuple #[v, .bool (Maps.has D kl)]) (w.drewN k) ∧ plainElem Try.prog 4 v = some (D.atKey kl (.lit (.bool false)), ps) := fun k =>
    World.ownsMap.look_ok (w := w.drewN k) (by exact h1) some_law under97 (zero4 _) (plainElem_bool under4 false) hk
  cases hh : Maps.has D kl
  · refine .inr fun k => ?_
    obtain ⟨v, ps, hr, hv⟩ := run k
    obtain ⟨x, rfl, hx⟩ := plainElem_bool_inv hv
    rw [Maps.atKey_of_not_has hh] at hx
    simp only [Prod.mk.injEq, DataW.lit.injEq, Lit.bool.injEq] at hx
    rw [hr, hh, ← hx.1]
  · refine .inl fun k => ?_
    obtain ⟨v, ps, hr, hv⟩ := run k
    obtain ⟨x, rfl, hx⟩ := plainElem_bool_inv hv
    rw [h2 o kl hk hh] at hx
    simp only [Prod.mk.injEq, DataW.lit.injEq, Lit.bool.injEq] at hx
    rw [hr, hh, ← hx.1]
/-- A store of the truth, at the operation. -/
theorem wpList_known (w : World) {ops : Array Oper} {rest : List Oper} {op : Oper} {a : Act} {Q : Exit → Act → World → Prop}
    (hg : op.guard = none) (m x v : Operand) (hop : op.op = Op.mapUpdate 132 m x v) (b n : Nat) (ex : (Nat → Bool) → Bool) (o : Nat → Bool)
    (hm : a.eval m = .map (some b)) (h : Known w b n ex) (hn : n ≤ 1000000) (hx : a.eval x = .agg #[.bool (o 0), .bool (o 1), .bool (o 2), .bool (o 3)]) (hv : a.eval v = .bool (ex o))
    (hex : ∀ o', (o' 0 = o 0 ∧ o' 1 = o 1 ∧ o' 2 = o 2 ∧ o' 3 = o 3) → ex o' = ex o)
    (hK : ∀ w', Known w' b (n + 1) ex → w.grownBy w' (some b) → wpList Try.prog ops Q rest (a.put op.dst undef) w') :
    wpList Try.prog ops Q (op :: rest) a w := by
  obtain ⟨D, h1, h2⟩ := h
  obtain ⟨kl, hk⟩ := some_key (o 0) (o 1) (o 2) (o 3)
  have K := some_law
  refine wpList_mapUpdate_own w hg m x v 132 hop 129 4 some_law under97 (plainElem Try.prog 4) b n D hm h1 (by unfold maxLen; omega) _ _ kl hx hv hk (.lit (.bool (ex o))) [] (plainElem_bool under4 _) fun w' hw hgr => hK w' ⟨_, hw, fun o' kl' hk' hh => ?_⟩ hgr
  by_cases e : kl' = kl
  · subst e
    have hv := K.inj hk' hk
    simp only [Value.agg.injEq, Array.mk.injEq, List.cons.injEq, Value.bool.injEq, and_true] at hv
    rw [Maps.atKey_put_same h1.isMap (K.key hk), hex o' hv]
  · rw [Maps.has_put_other e] at hh
    rw [Maps.atKey_put_other e]
    exact h2 o' kl' hk' hh
end

section
open Go.RowKit
theorem still_tail {id : Nat} {P : Program} {Q : Exit → Act → World → Prop} {a : Act} {w : World} {l : List Oper} (n : Nat) (hm : P.follows .mixedOrders = true) (hB : Region.lexTailB .any l.toArray n = true)
    (h : wpStill P l.toArray w.drew (fun a' => wpList P l.toArray Q (l.drop n) a' w.drew) (l.take n) a) : (Code.region id l.toArray true).wp P Q a w := wp_region_still_tail n hm hB h
noncomputable def explB (frn : Int) (ws : List Wd) (o : Nat → Bool) : Bool := allB frn.toNat fun f => decide (0 < (gamesL ws (f : Int) o).length)
theorem gamesL_congr {frn : Int} {ws : List Wd} (hok : ∀ k, k < ws.length → wordB frn (wx ws k) = true) {o o' : Nat → Bool} (h : o' 0 = o 0 ∧ o' 1 = o 1 ∧ o' 2 = o 2 ∧ o' 3 = o 3) (f : Int) : gamesL ws f o' = gamesL ws f o := by
  have e : okB ws f o' = okB ws f o := by
    funext p
    unfold okB
    have : ∀ k, k < ws.length → okW f o' (wx ws k) p.1 p.2 = okW f o (wx ws k) p.1 p.2 := fun k hk => by
      have hw := hok k hk
      simp only [wordB, Bool.and_eq_true, inB_eq, decide_eq_true_eq] at hw
      obtain ⟨-, -, ⟨t0, t3⟩, -⟩ := hw
      unfold okW
      have : o' (wx ws k).te.toNat = o (wx ws k).te.toNat := by
        obtain ⟨h0, h1, h2, h3⟩ := h
        rcases (by omega : (wx ws k).te.toNat = 0 ∨ (wx ws k).te.toNat = 1 ∨ (wx ws k).te.toNat = 2 ∨ (wx ws k).te.toNat = 3) with e | e | e | e <;> rw [e] <;> assumption
      rw [this]
    cases hb : allB ws.length fun k => okW f o (wx ws k) p.1 p.2
    · refine Bool.eq_false_iff.2 fun h2 => ?_
      rw [allB_iff] at h2
      have : allB ws.length (fun k => okW f o (wx ws k) p.1 p.2) = true := allB_iff.2 fun k hk => by have h3 : okW f o' (wx ws k) p.1 p.2 = true := h2 k hk; rwa [this k hk] at h3
      rw [this] at hb
      cases hb
    · rw [allB_iff] at hb ⊢
      exact fun k hk => by have h3 : okW f o (wx ws k) p.1 p.2 = true := hb k hk; rwa [← this k hk] at h3
  unfold gamesL gamesTo
  rw [e]
theorem explB_congr {frn : Int} {ws : List Wd} (hok : ∀ k, k < ws.length → wordB frn (wx ws k) = true) {o o' : Nat → Bool} (h : o' 0 = o 0 ∧ o' 1 = o 1 ∧ o' 2 = o 2 ∧ o' 3 = o 3) : explB frn ws o' = explB frn ws o := by
  unfold explB
  congr 1
  funext f
  rw [gamesL_congr hok h]
theorem allB_succ (n : Nat) (p : Nat → Bool) : allB (n + 1) p = (allB n p && p n) := by simp [allB, List.range_succ, Bool.and_comm]
/-- A watch (block p): its lane, and its map (block b). -/
structure Wat (B : Nat) (w : World) (p b n : Nat) (frn : Int) (A : Option Addr) (c : Nat) (ws : List Wd) : Prop where
  cn : w.cell? ⟨p, 0, none⟩ = some (.int .i64 frn)
  cl : w.cell? ⟨p, 1, none⟩ = some (.slice A ws.length c)
  cm : w.cell? ⟨p, 2, none⟩ = some (.map (some b))
  wd : Wds B w A ws
  kn : Known w b n (explB frn ws)
theorem Wat.pb {B : Nat} {w : World} {p b n : Nat} {frn : Int} {A : Option Addr} {c : Nat} {ws : List Wd} (h : Wat B w p b n frn A c ws) : p ≠ b := fun e => by
  obtain ⟨D, ⟨es, cl, h1, _⟩, _⟩ := h.kn
  have := h.cn
  rw [e] at this
  simp [World.cell?, h1] at this
theorem Wat.step {B : Nat} {w w' : World} {p b n : Nat} {frn : Int} {A : Option Addr} {c : Nat} {ws : List Wd} (h : Wat B w p b n frn A c ws) (hb : Below w.heap.size w w') (hB : B ≤ w.heap.size) : Wat B w' p b n frn A c ws :=
  ⟨cell_of_ans hb h.cn, cell_of_ans hb h.cl, cell_of_ans hb h.cm, h.wd.below (hb.mono hB), h.kn.step hb⟩
theorem cell_grown {w w' : World} {b : Nat} (hg : w.grownBy w' (some b)) {p : Addr} {v : Value} (h : w.cell? p = some v) (hne : p.block ≠ b) : w'.cell? p = some v := by
  have e := hg.block p.block (World.block_lt_of_cell? w p h) (fun e => by injection e with e; exact hne e)
  unfold World.cell? at h ⊢
  rw [e]
  exact h
theorem Wds.grown {B b : Nat} {w w' : World} {A : Option Addr} {ws : List Wd} (h : Wds B w A ws) (hg : w.grownBy w' (some b)) (hb : B ≤ b) : Wds B w' A ws := fun hp => by
  obtain ⟨b', off, hA, hlt, hc⟩ := h hp
  refine ⟨b', off, hA, hlt, fun k hk => ?_⟩
  obtain ⟨h1, h2, h3, h4, h5⟩ := hc k hk
  exact ⟨cell_grown hg h1 (by dsimp only; omega), cell_grown hg h2 (by dsimp only; omega), cell_grown hg h3 (by dsimp only; omega), cell_grown hg h4 (by dsimp only; omega), cell_grown hg h5 (by dsimp only; omega)⟩
def ExPost (w : World) (B p b n : Nat) (frn : Int) (A : Option Addr) (c : Nat) (ws : List Wd) (r : Bool) (e : Ending) (w' : World) : Prop :=
  e = .returned (.bool r) ∧ Wat B w' p b (n + 1) frn A c ws ∧ w.grownBy w' (some b)
set_option maxRecDepth 100000 in
set_option maxHeartbeats 8000000 in
theorem explain_c {B : Nat} (p b n c m : Nat) (o : Nat → Bool) (A : Option Addr) (ws : List Wd) (w : World) (hB : B ≤ w.heap.size) (hp : p < w.heap.size) (hb : B ≤ b) (hW : Wat B w p b n (m : Int) A c ws)
    (hl9 : ws.length ≤ 1000000) (hok : ∀ k, k < ws.length → wordB (m : Int) (wx ws k) = true) (hm : m ≤ 5) (hn : n ≤ 1000000) :
    Calls Try.prog 97 #[.pointer (some ⟨p, 0, none⟩), .agg #[.bool (o 0), .bool (o 1), .bool (o 2), .bool (o 3)]] w (ExPost w B p b n (m : Int) A c ws (explB (m : Int) ws o)) := by
  have hb0 : Below w.heap.size w (w.alloc (.cells #[.bool (o 0), .bool (o 1), .bool (o 2), .bool (o 3)] 129)) := (Below.refl _ _).alloc (Nat.le_refl _) _
  have z0 : (w.alloc (.cells #[.bool (o 0), .bool (o 1), .bool (o 2), .bool (o 3)] 129)).cell? ⟨w.heap.size, 0, none⟩ = some (.bool (o 0)) := by simp
  have z1 : (w.alloc (.cells #[.bool (o 0), .bool (o 1), .bool (o 2), .bool (o 3)] 129)).cell? ⟨w.heap.size, 1, none⟩ = some (.bool (o 1)) := by simp
  have z2 : (w.alloc (.cells #[.bool (o 0), .bool (o 1), .bool (o 2), .bool (o 3)] 129)).cell? ⟨w.heap.size, 2, none⟩ = some (.bool (o 2)) := by simp
  have z3 : (w.alloc (.cells #[.bool (o 0), .bool (o 1), .bool (o 2), .bool (o 3)] 129)).cell? ⟨w.heap.size, 3, none⟩ = some (.bool (o 3)) := by simp
  have hW0 := hW.step hb0 hB
  have HPB := Lib.hid hW.pb
  have HB0 := Lib.hid hb0
  have HOK := Lib.hid hok
  have hbl := hW.kn.lt
  clear hb0 hok hW
  go_enter Try.func97, Try.ntmps97
  go_upto_region 1 with fail
  generalize w.alloc (.cells #[.bool (o 0), .bool (o 1), .bool (o 2), .bool (o 3)] 129) = W0 at z0 z1 z2 z3 hW0 HB0 ⊢
  have k2 := hW0.cm
  rcases hW0.kn.look o with hlook | hlook
  · have HW0 := Lib.hid hW0
    clear hW0
    have hl0 : (Instr.lookup 132 (.map (some b)) (.agg #[.bool (o 0), .bool (o 1), .bool (o 2), .bool (o 3)]) true).run Try.prog W0.drew = .ok (.tuple #[.bool (explB (m : Int) ws o), .bool true]) W0.drew := hlook 1
    clear hlook
    go_region_held3 (fun w' => w'.cell? ⟨p, 2, none⟩ = some (.map (some b)) ∧ w'.cell? ⟨w.heap.size, 0, none⟩ = some (.bool (o 0)) ∧ w'.cell? ⟨w.heap.size, 1, none⟩ = some (.bool (o 1)) ∧ w'.cell? ⟨w.heap.size, 2, none⟩ = some (.bool (o 2)) ∧ w'.cell? ⟨w.heap.size, 3, none⟩ = some (.bool (o 3))) (go_keep) (first | fail)
    go_wp2_with fail
    go_ret
    have hd : Below W0.heap.size W0 W0.drew := (Below.refl _ _).drew
    have hs := HB0.out.size
    refine ⟨rfl, ?_, only_below (HB0.out.trans (hd.mono hs)) _⟩
    have h1 := HW0.out.step hd (Nat.le_trans hB hs)
    exact ⟨h1.cn, h1.cl, h1.cm, h1.wd, h1.kn.more (Nat.le_succ _)⟩
  · have k0 := hW0.cn
    have HW0 := Lib.hid hW0
    clear hW0
    have hl0 : (Instr.lookup 132 (.map (some b)) (.agg #[.bool (o 0), .bool (o 1), .bool (o 2), .bool (o 3)]) true).run Try.prog W0.drew = .ok (.tuple #[.bool false, .bool false]) W0.drew := hlook 1
    clear hlook
    go_region_held3 (fun w' => w'.cell? ⟨p, 2, none⟩ = some (.map (some b)) ∧ w'.cell? ⟨w.heap.size, 0, none⟩ = some (.bool (o 0)) ∧ w'.cell? ⟨w.heap.size, 1, none⟩ = some (.bool (o 1)) ∧ w'.cell? ⟨w.heap.size, 2, none⟩ = some (.bool (o 2)) ∧ w'.cell? ⟨w.heap.size, 3, none⟩ = some (.bool (o 3))) (go_keep) (first | fail)
    go_wp2_with fail
    have k3 := HW0.out.cl
    clear k2
    go_loopw [26, 5] (fun i v wr => ∃ k : Nat, k ≤ m ∧ i = .int .i64 k ∧ v = .bool (allB k fun f => decide (0 < (gamesL ws (f : Int) o).length)) ∧ Below W0.heap.size W0 wr) (fun i _ _ => m - (intOf i).toNat)
    case atStart => exact ⟨0, by omega, rfl, rfl, (Below.refl _ _).drew⟩
    case round =>
      obtain ⟨k, hk, rfl, rfl, hbr⟩ := hrel
      have hz0 := HB0.out.size
      have hzr := hbr.size
      have y0 := cell_of_ans hbr z0
      have y1 := cell_of_ans hbr z1
      have y2 := cell_of_ans hbr z2
      have y3 := cell_of_ans hbr z3
      have HWr := Lib.hid (HW0.out.step hbr (Nat.le_trans hB hz0))
      have HBr := Lib.hid hbr
      clear hbr
      by_cases h1 : k < m
      · have hki : (k : Int) < (m : Int) := by omega
        have HF := Lib.hid (frame_c (B := wr.heap.size) p c (k : Int) (m : Int) o A ws wr (Nat.le_refl _) (by omega) HWr.out.cn HWr.out.cl (HWr.out.wd.more (by omega)) hl9 HOK.out)
        have HS := Lib.hid (allB_succ k fun f => decide (0 < (gamesL ws (f : Int) o).length))
        generalize loS (fsts (gamesL ws (k : Int) o)) = a1 at HF
        generalize hiS (fsts (gamesL ws (k : Int) o)) = a2 at HF
        generalize loS (snds (gamesL ws (k : Int) o)) = a3 at HF
        generalize hiS (snds (gamesL ws (k : Int) o)) = a4 at HF
        generalize hN : (gamesL ws (k : Int) o).length = gl at HF
        have HN := Lib.hid hN
        clear hN
        cases hs : allB k fun f => decide (0 < (gamesL ws (f : Int) o).length)
        · have HV := Lib.hid hs
          clear hs
          go_wp2_with fail
          refine HF.out.mono ?_
          rintro e w3 ⟨rfl, hb3⟩
          have HB3 := Lib.hid hb3
          clear hb3
          go_wp2_with fail
          go_roundw
          case rel => exact ⟨k + 1, by omega, by go_num, by rw [HS.out, HV.out]; rfl, (HBr.out.trans (HB3.out.mono HBr.out.size)).alloc (by have := HB3.out.size; omega) _⟩
          case measure => simp [intOf]; omega
        · have HV := Lib.hid hs
          clear hs
          go_wp2_with fail
          refine HF.out.mono ?_
          rintro e w3 ⟨rfl, hb3⟩
          have HB3 := Lib.hid hb3
          clear hb3
          go_wp2_with fail
          go_roundw
          case rel => exact ⟨k + 1, by omega, by go_num, by rw [HS.out, HV.out, HN.out]; simp, (HBr.out.trans (HB3.out.mono HBr.out.size)).alloc (by have := HB3.out.size; omega) _⟩
          case measure => simp [intOf]; omega
      · obtain rfl : k = m := by omega
        have HE : Hid (explB (k : Int) ws o = allB k fun f => decide (0 < (gamesL ws (f : Int) o).length)) := by show _ = _; simp [explB]
        generalize (allB k fun f => decide (0 < (gamesL ws (f : Int) o).length)) = v at HE ⊢
        have k2 := HWr.out.cm
        have HK := Lib.hid HWr.out.kn
        go_wp2_with fail
        refine still_tail 6 (by kernel_rfl) (by kernel_rfl) ?_
        simp only [List.take_succ_cons, List.take_zero, List.drop_succ_cons, List.drop_zero]
        repeat still_step
        refine wpStill_nil ?_
        refine wpList_known wr.drew rfl _ _ _ rfl b n (explB (k : Int) ws) o rfl (HK.out.step (Below.refl _ _).drew) hn rfl (by rw [HE.out]; rfl) (fun o' h => explB_congr HOK.out h) ?_
        intro w4 hk4 hg4
        have HK4 := Lib.hid hk4
        have HG4 := Lib.hid hg4
        clear hk4 hg4
        go_wp2_with fail
        go_ret
        have hne := HPB.out
        have hg : wr.grownBy w4 (some b) := (only_below (Below.refl wr.heap.size wr).drew (some b)).trans HG4.out
        have hk := HWr.out
        have hbb : Below w.heap.size w wr := HB0.out.trans (HBr.out.mono hz0)
        refine ⟨ret_bool HE.out.symm, ⟨cell_grown hg hk.cn hne, cell_grown hg hk.cl hne, cell_grown hg hk.cm hne, hk.wd.grown hg hb, HK4.out⟩, ?_⟩
        exact ⟨hg.os.trans hbb.os, hg.tape.trans hbb.tape, hg.output.trans hbb.output, Nat.le_trans hbb.size hg.size, fun j hj hne => (hg.block j (by omega) hne).trans (hbb.block j hj)⟩
end

end Go.Proofs.Ytenpiinkbfancaa.Sn
