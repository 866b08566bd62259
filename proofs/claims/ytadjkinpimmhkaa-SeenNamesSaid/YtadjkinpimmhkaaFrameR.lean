/-
  The least and the greatest number so far: the region of frame that keeps them.
-/
import Derived.Test.YtadjkinpimmhkaaGames
import Derived.Test.YtadjkinpimmhkaaRt
import Derived.Deep.RegionHeld3
import Derived.Deep.DeepCutAuto
namespace Go.Proofs.Ytadjkinpimmhkaa
open Go.RowKit
set_option linter.unusedSimpArgs false
set_option linter.unusedVariables false

attribute [local go_sem] Oper.semAt_some

/-- The least and the greatest of some numbers, 0 of none. -/
def loS : List Int → Int
  | [] => 0
  | x :: xs => xs.foldl min x
def hiS : List Int → Int
  | [] => 0
  | x :: xs => xs.foldl max x
theorem loS_snoc (xs : List Int) (n : Int) : loS (xs ++ [n]) = if xs.length = 0 then n else min (loS xs) n := by
  cases xs with
  | nil => rfl
  | cons x xs => simp [loS, List.foldl_append]
theorem hiS_snoc (xs : List Int) (n : Int) : hiS (xs ++ [n]) = if xs.length = 0 then n else max (hiS xs) n := by
  cases xs with
  | nil => rfl
  | cons x xs => simp [hiS, List.foldl_append]
def fsts (g : List (Nat × Nat)) : List Int := g.map fun p => (p.1 : Int)
def snds (g : List (Nat × Nat)) : List Int := g.map fun p => (p.2 : Int)
theorem fsts_snoc (g : List (Nat × Nat)) (x : Nat × Nat) : fsts (g ++ [x]) = fsts g ++ [(x.1 : Int)] := by simp [fsts]
theorem snds_snoc (g : List (Nat × Nat)) (x : Nat × Nat) : snds (g ++ [x]) = snds g ++ [(x.2 : Int)] := by simp [snds]
theorem fsts_len (g : List (Nat × Nat)) : (fsts g).length = g.length := by simp [fsts]
theorem snds_len (g : List (Nat × Nat)) : (snds g).length = g.length := by simp [snds]

/-- Block g holds two ranges; block g holds one number. -/
def Rg (w : World) (g : Nat) (a b c d : Int) : Prop := w.heap[g]? = some (.cells #[.int .i64 a, .int .i64 b, .int .i64 c, .int .i64 d] 100 (0, 0))
def On (w : World) (g : Nat) (n : Int) : Prop := w.heap[g]? = some (.cells #[.int .i64 n] 3 (0, 0))
section
variable {w w' : World} {g : Nat} {a b c d n : Int}
theorem Rg.lt (h : Rg w g a b c d) : g < w.heap.size := (Array.getElem?_eq_some_iff.1 h).1
theorem Rg.cells (h : Rg w g a b c d) : w.cell? ⟨g, 0, none⟩ = some (.int .i64 a) ∧ w.cell? ⟨g, 1, none⟩ = some (.int .i64 b) ∧ w.cell? ⟨g, 2, none⟩ = some (.int .i64 c) ∧ w.cell? ⟨g, 3, none⟩ = some (.int .i64 d) ∧ ∀ o, w.frozen? ⟨g, o, none⟩ = false := by
  unfold Rg at h
  simp [World.cell?, World.frozen?, h]
theorem Rg.below (h : Rg w g a b c d) (hb : Below w.heap.size w w') : Rg w' g a b c d := (hb.block g h.lt).trans h
theorem Rg.alloc (h : Rg w g a b c d) (ob : Obj) : Rg (w.alloc ob) g a b c d := h.below ((Below.refl _ _).alloc (Nat.le_refl _) _)
theorem Rg.set0 (h : Rg w g a b c d) (x y : Int) : Rg ((w.setCell ⟨g, 0, none⟩ (.int .i64 x)).setCell ⟨g, 1, none⟩ (.int .i64 y)) g x y c d := by
  unfold Rg at h ⊢
  simp [World.setCell, Array.getElem?_modify, h]
theorem Rg.set2 (h : Rg w g a b c d) (x y : Int) : Rg ((w.setCell ⟨g, 2, none⟩ (.int .i64 x)).setCell ⟨g, 3, none⟩ (.int .i64 y)) g a b x y := by
  unfold Rg at h ⊢
  simp [World.setCell, Array.getElem?_modify, h]
theorem Rg.far (h : Rg w g a b c d) {ad : Addr} (hp : g ≠ ad.block) (u : Value) : Rg (w.setCell ad u) g a b c d := (Below.heap_setCell w ad u g hp).trans h
theorem On.lt (h : On w g n) : g < w.heap.size := (Array.getElem?_eq_some_iff.1 h).1
theorem On.cell (h : On w g n) : w.cell? ⟨g, 0, none⟩ = some (.int .i64 n) ∧ w.frozen? ⟨g, 0, none⟩ = false := by
  unfold On at h
  simp [World.cell?, World.frozen?, h]
theorem On.below (h : On w g n) (hb : Below w.heap.size w w') : On w' g n := (hb.block g h.lt).trans h
theorem On.alloc (h : On w g n) (ob : Obj) : On (w.alloc ob) g n := h.below ((Below.refl _ _).alloc (Nat.le_refl _) _)
theorem On.set (h : On w g n) (x : Int) : On (w.setCell ⟨g, 0, none⟩ (.int .i64 x)) g x := by
  unfold On at h ⊢
  simp [World.setCell, Array.getElem?_modify, h]
theorem On.far (h : On w g n) {ad : Addr} (hp : g ≠ ad.block) (u : Value) : On (w.setCell ad u) g n := (Below.heap_setCell w ad u g hp).trans h
end

/-- All blocks below n₀ lie on, but for g and g'. -/
def Kp2 (n₀ g g' : Nat) (W W' : World) : Prop := W.heap.size ≤ W'.heap.size ∧ W'.os = W.os ∧ W'.tape = W.tape ∧ W'.output = W.output ∧ ∀ k, k < n₀ → k ≠ g → k ≠ g' → W'.heap[k]? = W.heap[k]?
theorem Kp2.refl (n₀ g g' : Nat) (W : World) : Kp2 n₀ g g' W W := ⟨Nat.le_refl _, rfl, rfl, rfl, fun _ _ _ _ => rfl⟩
theorem Kp2.trans {n₀ g g' : Nat} {A B C : World} (h : Kp2 n₀ g g' A B) (k : Kp2 n₀ g g' B C) : Kp2 n₀ g g' A C :=
  ⟨Nat.le_trans h.1 k.1, k.2.1.trans h.2.1, k.2.2.1.trans h.2.2.1, k.2.2.2.1.trans h.2.2.2.1, fun i hi h1 h2 => (k.2.2.2.2 i hi h1 h2).trans (h.2.2.2.2 i hi h1 h2)⟩
theorem Kp2.of_below {n₀ g g' : Nat} {A B : World} (h : Below A.heap.size A B) (hn : n₀ ≤ A.heap.size) : Kp2 n₀ g g' A B := ⟨h.size, h.os, h.tape, h.output, fun k hk _ _ => h.block k (by omega)⟩
theorem Kp2.of_set {n₀ g g' : Nat} {A : World} {ad : Addr} (h : ad.block = g ∨ ad.block = g') (u : Value) : Kp2 n₀ g g' A (A.setCell ad u) :=
  ⟨by simp, rfl, rfl, rfl, fun k _ h1 h2 => Below.heap_setCell A ad u k (by rcases h with h | h <;> omega)⟩
theorem Kp2.below {n₀ g g' B : Nat} {A C : World} (h : Kp2 n₀ g g' A C) (hB : B ≤ n₀) (hg : B ≤ g) (hg' : B ≤ g') : Below B A C := ⟨h.2.1, h.2.2.1, h.2.2.2.1, h.1, fun k hk => h.2.2.2.2 k (by omega) (by omega) (by omega)⟩
theorem Kp2.cell {n₀ g g' : Nat} {A C : World} (h : Kp2 n₀ g g' A C) {p : Addr} {v : Value} (hc : A.cell? p = some v) (hp : p.block < n₀) (hg : p.block ≠ g) (hg' : p.block ≠ g') : C.cell? p = some v := by
  have e := h.2.2.2.2 p.block hp hg hg'
  unfold World.cell? at hc ⊢
  rw [e]
  exact hc
theorem GSt.kept2 {B n₀ g g' : Nat} {W W' : World} {q p : Nat} {fr frn : Int} {o : Nat → Bool} {A : Option Addr} {c : Nat} {ws : List Wd} (h : GSt B W q p fr frn o A c ws) (k : Kp2 n₀ g g' W W') (hB : B ≤ n₀) (hg : B ≤ g) (hg' : B ≤ g') (hq : q + 2 < n₀) (hqg : g < q) (hqg' : g' < q) (hp : p < B) : GSt B W' q p fr frn o A c ws :=
  ⟨k.cell h.x (by dsimp only; omega) (by dsimp only; omega) (by dsimp only; omega), k.cell h.f (by dsimp only; omega) (by dsimp only; omega) (by dsimp only; omega), fun j hj => k.cell (h.o j hj) (by dsimp only; omega) (by dsimp only; omega) (by dsimp only; omega), k.cell h.n (by dsimp only; omega) (by dsimp only; omega) (by dsimp only; omega), k.cell h.l (by dsimp only; omega) (by dsimp only; omega) (by dsimp only; omega), h.w.below (k.below hB hg hg')⟩

theorem Kp2.less {n₀ n₁ g g' : Nat} {A C : World} (h : Kp2 n₁ g g' A C) (hn : n₀ ≤ n₁) : Kp2 n₀ g g' A C := ⟨h.1, h.2.1, h.2.2.1, h.2.2.2.1, fun k hk => h.2.2.2.2 k (by omega)⟩
theorem set_same {w : World} {g i : Nat} {cs : Array Value} {t : TypeId} {z : Nat × Nat} {v : Value} (h : w.heap[g]? = some (.cells cs t z)) (hv : cs[i]? = some v) : w.setCell ⟨g, i, none⟩ v = w := by
  have e : w.heap.modify g (fun
      | .cells c elem frozen => .cells (if (⟨g, i, none⟩ : Addr).spot.isSome then c else c.setIfInBounds i v) elem frozen
      | o => o) = w.heap := by
    refine Array.ext (by simp) fun k h1 h2 => ?_
    rw [Array.getElem_modify]
    split
    · rename_i hk
      subst hk
      rw [Array.getElem?_eq_getElem h2] at h
      injection h with h
      rw [h]
      have e2 : cs.setIfInBounds i v = cs := by
        obtain ⟨hi, hv⟩ := Array.getElem?_eq_some_iff.1 hv
        refine Array.ext (by simp) fun k h1 h2 => ?_
        rw [Array.getElem_setIfInBounds h2]
        split
        · rename_i hk
          subst hk
          exact hv.symm
        · rfl
      simp [e2]
    · rfl
  exact congrArg (fun h => ({ w with heap := h } : World)) e
theorem Rg.same {w : World} {g : Nat} {a b c d : Int} (h : Rg w g a b c d) : w.setCell ⟨g, 0, none⟩ (.int .i64 a) = w ∧ w.setCell ⟨g, 1, none⟩ (.int .i64 b) = w ∧ w.setCell ⟨g, 2, none⟩ (.int .i64 c) = w ∧ w.setCell ⟨g, 3, none⟩ (.int .i64 d) = w :=
  ⟨set_same h rfl, set_same h rfl, set_same h rfl, set_same h rfl⟩
theorem On.same {w : World} {g : Nat} {a : Int} (h : On w g a) : w.setCell ⟨g, 0, none⟩ (.int .i64 a) = w := set_same h rfl
theorem Rg.put {w : World} {g D : Nat} {a b c d : Int} (h : Rg w g a b c d) (hne : g ≠ D) (ob : Obj) : Rg (w.putObj D ob) g a b c d := (World.putObj_heap_other hne).trans h
theorem On.put {w : World} {g D : Nat} {a : Int} (h : On w g a) (hne : g ≠ D) (ob : Obj) : On (w.putObj D ob) g a := (World.putObj_heap_other hne).trans h
theorem rg_cells {W : World} {g : Nat} {a b c d : Int} (h : Rg W g a b c d) (ob : Obj) (ho : W.heap[g]? = some ob) : ob.isCells = true := by
  unfold Rg at h
  rw [h] at ho
  cases ho
  rfl
theorem on_cells {W : World} {g : Nat} {a : Int} (h : On W g a) (ob : Obj) (ho : W.heap[g]? = some ob) : ob.isCells = true := by
  unfold On at h
  rw [h] at ho
  cases ho
  rfl

/-- The region number n of a piece of code. -/
def regionAt (n : Nat) : Code → Option Code
  | .region id ops d => if id = n then some (.region id ops d) else none
  | .seq a b => (regionAt n a).or (regionAt n b)
  | .cond _ a b => (regionAt n a).or (regionAt n b)
  | .block _ a => regionAt n a
  | .loop a => regionAt n a
  | .scope a => regionAt n a
  | .rangeFunc _ _ a b => (regionAt n a).or (regionAt n b)
  | _ => none
def bodyOf (f : Func) : Code := match f.body with
  | some c => c
  | none => .skip

set_option maxRecDepth 100000 in
set_option maxHeartbeats 8000000 in
theorem reg9_0 {l0 m : Nat} {c : Code} {u0 u1 u2 u3 u4 u5 u7 u8 u10 u12 u13 u14 u15 u16 u17 u18 u19 u20 u21 u22 u23 u24 u25 u26 u27 u28 u29 u30 u31 u32 u33 u34 u35 u36 u37 u38 u39 u40 u41 u42 u43 u44 u45 u46 u47 u48 u49 u50 u51 u52 u53 u54 : Value} {ds : List Deferred} {Q : Exit → Act → World → Prop} {wz : World} {g1 : Nat} {x0 x1 x2 x3 n : Int} (hc : regionAt 9 (bodyOf Try.f59) = some c) (hout : ¬ LetsOut Q) (hQ : ∀ (ch : List PanicEntry) (a a' : Act) (w : World), Q (.panic ch) a w → Q (.panic ch) a' w) (hR : Rg wz g1 x0 x1 x2 x3)
    (h : ∀ (s39 s46 : Value) (W : World), Rg W g1 (min x0 n) (max x1 n) x2 x3 → Kp2 wz.heap.size g1 g1 wz W → Q .normal { tmps := #[u0, u1, u2, u3, u4, u5, .pointer (some ⟨g1, 0, none⟩), u7, u8, .int .i64 0, u10, .int .i64 n, u12, u13, u14, u15, u16, u17, u18, u19, u20, u21, u22, u23, u24, u25, u26, u27, u28, u29, u30, u31, u32, .int .i64 0, .int .i64 0, .pointer (some ⟨g1, 0, none⟩), .pointer (some ⟨g1, 0, none⟩), .int .i64 x0, .int .i64 n, s39, .int .i64 (min x0 n), .int .i64 0, .pointer (some ⟨g1, 0, none⟩), .pointer (some ⟨g1, 1, none⟩), .int .i64 x1, .int .i64 n, s46, .int .i64 (max x1 n), .agg #[.int .i64 (min x0 n), .int .i64 (max x1 n)], .pointer (some ⟨g1, 0, none⟩), u50, u51, u52, u53, u54], defers := ds } W) :
    c.wpIn (Fence.wide.inRound l0) m Try.prog Q { tmps := #[u0, u1, u2, u3, u4, u5, .pointer (some ⟨g1, 0, none⟩), u7, u8, .int .i64 0, u10, .int .i64 n, u12, u13, u14, u15, u16, u17, u18, u19, u20, u21, u22, u23, u24, u25, u26, u27, u28, u29, u30, u31, u32, u33, u34, u35, u36, u37, u38, u39, u40, u41, u42, u43, u44, u45, u46, u47, u48, u49, u50, u51, u52, u53, u54], defers := ds } wz := by
  dsimp only at h
  simp only [bodyOf, Try.f59, regionAt, Option.or, Nat.reduceEqDiff, if_true, if_false, Option.some.injEq, reduceIte] at hc
  subst hc
  have HH := Lib.hid h
  clear h
  refine round_T (fun W => Rg W g1 x0 x1 x2 x3 ∧ Below wz.heap.size wz W) 17 (by kernel_rfl) (by kernel_rfl) hout ⟨hR, (Below.refl _ _).drew⟩ (fun hS => ?_)
  refine' T_take (i := 0) (v := _) rfl (by kernel_rfl) (by kernel_rfl) (by kernel_rfl) (by kernel_rfl) (fun _ _ _ h => hQ _ _ _ _ h) (by rfl) hS ?_ ?_
  rotate_left 1
  · intro Wv hW
    obtain ⟨q0, q1, q2, q3, -⟩ := hW.1.cells
    go_simp
    first | done | with_reducible rfl
  try simp only [Act.put, List.setIfInBounds_toArray, List.set_cons_zero, List.set_cons_succ]
  refine' T_take (i := 1) (v := _) rfl (by kernel_rfl) (by kernel_rfl) (by kernel_rfl) (by kernel_rfl) (fun _ _ _ h => hQ _ _ _ _ h) (by rfl) hS ?_ ?_
  rotate_left 1
  · intro Wv hW
    obtain ⟨q0, q1, q2, q3, -⟩ := hW.1.cells
    go_simp
    first | done | with_reducible rfl
  try simp only [Act.put, List.setIfInBounds_toArray, List.set_cons_zero, List.set_cons_succ]
  refine' T_take (i := 2) (v := _) rfl (by kernel_rfl) (by kernel_rfl) (by kernel_rfl) (by kernel_rfl) (fun _ _ _ h => hQ _ _ _ _ h) (by rfl) hS ?_ ?_
  rotate_left 1
  · intro Wv hW
    obtain ⟨q0, q1, q2, q3, -⟩ := hW.1.cells
    go_simp
    first | done | with_reducible rfl
  try simp only [Act.put, List.setIfInBounds_toArray, List.set_cons_zero, List.set_cons_succ]
  refine' T_take (i := 3) (v := _) rfl (by kernel_rfl) (by kernel_rfl) (by kernel_rfl) (by kernel_rfl) (fun _ _ _ h => hQ _ _ _ _ h) (by rfl) hS ?_ ?_
  rotate_left 1
  · intro Wv hW
    obtain ⟨q0, q1, q2, q3, -⟩ := hW.1.cells
    go_simp
    first | done | with_reducible rfl
  try simp only [Act.put, List.setIfInBounds_toArray, List.set_cons_zero, List.set_cons_succ]
  refine' T_take (i := 4) (v := _) rfl (by kernel_rfl) (by kernel_rfl) (by kernel_rfl) (by kernel_rfl) (fun _ _ _ h => hQ _ _ _ _ h) (by rfl) hS ?_ ?_
  rotate_left 1
  · intro Wv hW
    obtain ⟨q0, q1, q2, q3, -⟩ := hW.1.cells
    go_simp
    first | done | with_reducible rfl
  try simp only [Act.put, List.setIfInBounds_toArray, List.set_cons_zero, List.set_cons_succ]
  refine' T_take (i := 5) (v := _) rfl (by kernel_rfl) (by kernel_rfl) (by kernel_rfl) (by kernel_rfl) (fun _ _ _ h => hQ _ _ _ _ h) (by rfl) hS ?_ ?_
  rotate_left 1
  · intro Wv hW
    obtain ⟨q0, q1, q2, q3, -⟩ := hW.1.cells
    go_simp
    first | done | with_reducible rfl
  try simp only [Act.put, List.setIfInBounds_toArray, List.set_cons_zero, List.set_cons_succ]
  refine' T_take (i := 8) (v := _) rfl (by kernel_rfl) (by kernel_rfl) (by kernel_rfl) (by kernel_rfl) (fun _ _ _ h => hQ _ _ _ _ h) (by rfl) hS ?_ ?_
  rotate_left 1
  · intro Wv hW
    obtain ⟨q0, q1, q2, q3, -⟩ := hW.1.cells
    go_simp
    first | done | with_reducible rfl
  try simp only [Act.put, List.setIfInBounds_toArray, List.set_cons_zero, List.set_cons_succ]
  refine' T_take (i := 9) (v := _) rfl (by kernel_rfl) (by kernel_rfl) (by kernel_rfl) (by kernel_rfl) (fun _ _ _ h => hQ _ _ _ _ h) (by rfl) hS ?_ ?_
  rotate_left 1
  · intro Wv hW
    obtain ⟨q0, q1, q2, q3, -⟩ := hW.1.cells
    go_simp
    first | done | with_reducible rfl
  try simp only [Act.put, List.setIfInBounds_toArray, List.set_cons_zero, List.set_cons_succ]
  refine' T_take (i := 10) (v := _) rfl (by kernel_rfl) (by kernel_rfl) (by kernel_rfl) (by kernel_rfl) (fun _ _ _ h => hQ _ _ _ _ h) (by rfl) hS ?_ ?_
  rotate_left 1
  · intro Wv hW
    obtain ⟨q0, q1, q2, q3, -⟩ := hW.1.cells
    go_simp
    first | done | with_reducible rfl
  try simp only [Act.put, List.setIfInBounds_toArray, List.set_cons_zero, List.set_cons_succ]
  refine' T_take (i := 11) (v := _) rfl (by kernel_rfl) (by kernel_rfl) (by kernel_rfl) (by kernel_rfl) (fun _ _ _ h => hQ _ _ _ _ h) (by rfl) hS ?_ ?_
  rotate_left 1
  · intro Wv hW
    obtain ⟨q0, q1, q2, q3, -⟩ := hW.1.cells
    go_simp
    first | done | with_reducible rfl
  try simp only [Act.put, List.setIfInBounds_toArray, List.set_cons_zero, List.set_cons_succ]
  refine' T_take (i := 12) (v := _) rfl (by kernel_rfl) (by kernel_rfl) (by kernel_rfl) (by kernel_rfl) (fun _ _ _ h => hQ _ _ _ _ h) (by rfl) hS ?_ ?_
  rotate_left 1
  · intro Wv hW
    obtain ⟨q0, q1, q2, q3, -⟩ := hW.1.cells
    go_simp
    first | done | with_reducible rfl
  try simp only [Act.put, List.setIfInBounds_toArray, List.set_cons_zero, List.set_cons_succ]
  refine T_ready (rs := [6, 13]) (by kernel_rfl) (by simp) ?_
  refine TReady.cons rfl (fun K hK => ?k1_6) (TReady.cons rfl (fun K hK => ?k1_13) (TReady.nil))
  case k1_6 =>
    try go_simp
    refine hK.out _ _ (fun _ => ⟨hS.1.alloc _, hS.2.alloc hS.2.size _⟩) (fun hS2 => ?_)
    replace hS := hS2 (by decide)
    clear hS2
    clear hK K
    try simp only [Act.put, List.setIfInBounds_toArray, List.set_cons_zero, List.set_cons_succ]
    refine T_ready (rs := [7, 13]) (by kernel_rfl) (by simp) ?_
    refine TReady.cons rfl (fun K hK => ?k2_7) (TReady.cons rfl (fun K hK => ?k2_13) (TReady.nil))
    case k2_7 =>
      try go_simp
      refine (least_c _ x0 n _ (by go_simp) (by go_simp)).mono ?_
      rintro e w4 ⟨rfl, rfl⟩
      try go_simp
      refine hK.out _ _ (fun _ => hS) (fun _ => ?_)
      clear hK K
      try simp only [Act.put, List.setIfInBounds_toArray, List.set_cons_zero, List.set_cons_succ]
      refine T_ready (rs := [13]) (by kernel_rfl) (by simp) ?_
      refine TReady.cons rfl (fun K hK => ?k3_13) (TReady.nil)
      case k3_13 =>
        try go_simp
        refine hK.out _ _ (fun _ => ⟨hS.1.alloc _, hS.2.alloc hS.2.size _⟩) (fun hS2 => ?_)
        replace hS := hS2 (by decide)
        clear hS2
        clear hK K
        try simp only [Act.put, List.setIfInBounds_toArray, List.set_cons_zero, List.set_cons_succ]
        refine T_ready (rs := [14]) (by kernel_rfl) (by simp) ?_
        refine TReady.cons rfl (fun K hK => ?k4_14) (TReady.nil)
        case k4_14 =>
          try go_simp
          refine (greatest_c _ x1 n _ (by go_simp) (by go_simp)).mono ?_
          rintro e w4 ⟨rfl, rfl⟩
          try go_simp
          refine hK.out _ _ (fun _ => hS) (fun _ => ?_)
          clear hK K
          try simp only [Act.put, List.setIfInBounds_toArray, List.set_cons_zero, List.set_cons_succ]
          refine' T_take (i := 15) (v := _) rfl (by kernel_rfl) (by kernel_rfl) (by kernel_rfl) (by kernel_rfl) (fun _ _ _ h => hQ _ _ _ _ h) (by rfl) hS ?_ ?_
          rotate_left 1
          · intro Wv hW
            obtain ⟨q0, q1, q2, q3, -⟩ := hW.1.cells
            go_simp
            first | done | with_reducible rfl
          try simp only [Act.put, List.setIfInBounds_toArray, List.set_cons_zero, List.set_cons_succ]
          refine' T_take (i := 16) (v := _) rfl (by kernel_rfl) (by kernel_rfl) (by kernel_rfl) (by kernel_rfl) (fun _ _ _ h => hQ _ _ _ _ h) (by rfl) hS ?_ ?_
          rotate_left 1
          · intro Wv hW
            obtain ⟨q0, q1, q2, q3, -⟩ := hW.1.cells
            go_simp
            first | done | with_reducible rfl
          try simp only [Act.put, List.setIfInBounds_toArray, List.set_cons_zero, List.set_cons_succ]
          refine T_ready (rs := [17]) (by kernel_rfl) (by simp) ?_
          refine TReady.cons rfl (fun K hK => ?k5_17) (TReady.nil)
          case k5_17 =>
            obtain ⟨q0, q1, q2, q3, q4⟩ := hR.cells
            have q5 := q4 0
            have q6 := q4 1
            have q7 := hR.lt
            have q8 : g1 < wz.heap.size + 1 := by omega
            go_simp
            refine hK.out _ _ (fun h => absurd h (by decide)) (fun _ => ?_)
            clear hK K
            try simp only [Act.put, List.setIfInBounds_toArray, List.set_cons_zero, List.set_cons_succ]
            refine T_done (by kernel_rfl) ?_ _
            have w1 : Rg ((wz.setCell ⟨g1, 0, none⟩ (.int .i64 (min x0 n))).setCell ⟨g1, 1, none⟩ (.int .i64 (max x1 n))) g1 (min x0 n) (max x1 n) x2 x3 := hR.set0 _ _
            have w2 : Kp2 wz.heap.size g1 g1 wz ((wz.setCell ⟨g1, 0, none⟩ (.int .i64 (min x0 n))).setCell ⟨g1, 1, none⟩ (.int .i64 (max x1 n))) := Kp2.trans (Kp2.of_set (n₀ := wz.heap.size) (g := g1) (g' := g1) (A := wz) (ad := ⟨g1, 0, none⟩) (.inl rfl) (.int .i64 (min x0 n))) (Kp2.of_set (n₀ := wz.heap.size) (g := g1) (g' := g1) (A := wz.setCell ⟨g1, 0, none⟩ (.int .i64 (min x0 n))) (ad := ⟨g1, 1, none⟩) (.inl rfl) (.int .i64 (max x1 n)))
            clear q0 q1 q2 q3 q4 q5 q6 hS
            refine HH.out _ _ _ ?_ ?_
            · exact (w1.alloc _).alloc _
            · exact w2.trans (Kp2.of_below ((((Below.refl _ _).alloc (Nat.le_refl _) _).alloc (by simp) _).drew) (by simp))
    case k2_13 =>
      try go_simp
      refine hK.out _ _ (fun _ => ⟨hS.1.alloc _, hS.2.alloc hS.2.size _⟩) (fun hS2 => ?_)
      replace hS := hS2 (by decide)
      clear hS2
      clear hK K
      try simp only [Act.put, List.setIfInBounds_toArray, List.set_cons_zero, List.set_cons_succ]
      refine T_ready (rs := [7]) (by kernel_rfl) (by simp) ?_
      refine TReady.cons rfl (fun K hK => ?k6_7) (TReady.nil)
      case k6_7 =>
        try go_simp
        refine (least_c _ x0 n _ (by go_simp) (by go_simp)).mono ?_
        rintro e w4 ⟨rfl, rfl⟩
        try go_simp
        refine hK.out _ _ (fun _ => hS) (fun _ => ?_)
        clear hK K
        try simp only [Act.put, List.setIfInBounds_toArray, List.set_cons_zero, List.set_cons_succ]
        refine T_ready (rs := [14]) (by kernel_rfl) (by simp) ?_
        refine TReady.cons rfl (fun K hK => ?k7_14) (TReady.nil)
        case k7_14 =>
          try go_simp
          refine (greatest_c _ x1 n _ (by go_simp) (by go_simp)).mono ?_
          rintro e w4 ⟨rfl, rfl⟩
          try go_simp
          refine hK.out _ _ (fun _ => hS) (fun _ => ?_)
          clear hK K
          try simp only [Act.put, List.setIfInBounds_toArray, List.set_cons_zero, List.set_cons_succ]
          refine' T_take (i := 15) (v := _) rfl (by kernel_rfl) (by kernel_rfl) (by kernel_rfl) (by kernel_rfl) (fun _ _ _ h => hQ _ _ _ _ h) (by rfl) hS ?_ ?_
          rotate_left 1
          · intro Wv hW
            obtain ⟨q0, q1, q2, q3, -⟩ := hW.1.cells
            go_simp
            first | done | with_reducible rfl
          try simp only [Act.put, List.setIfInBounds_toArray, List.set_cons_zero, List.set_cons_succ]
          refine' T_take (i := 16) (v := _) rfl (by kernel_rfl) (by kernel_rfl) (by kernel_rfl) (by kernel_rfl) (fun _ _ _ h => hQ _ _ _ _ h) (by rfl) hS ?_ ?_
          rotate_left 1
          · intro Wv hW
            obtain ⟨q0, q1, q2, q3, -⟩ := hW.1.cells
            go_simp
            first | done | with_reducible rfl
          try simp only [Act.put, List.setIfInBounds_toArray, List.set_cons_zero, List.set_cons_succ]
          refine T_ready (rs := [17]) (by kernel_rfl) (by simp) ?_
          refine TReady.cons rfl (fun K hK => ?k8_17) (TReady.nil)
          case k8_17 =>
            obtain ⟨q0, q1, q2, q3, q4⟩ := hR.cells
            have q5 := q4 0
            have q6 := q4 1
            have q7 := hR.lt
            have q8 : g1 < wz.heap.size + 1 := by omega
            go_simp
            refine hK.out _ _ (fun h => absurd h (by decide)) (fun _ => ?_)
            clear hK K
            try simp only [Act.put, List.setIfInBounds_toArray, List.set_cons_zero, List.set_cons_succ]
            refine T_done (by kernel_rfl) ?_ _
            have w1 : Rg ((wz.setCell ⟨g1, 0, none⟩ (.int .i64 (min x0 n))).setCell ⟨g1, 1, none⟩ (.int .i64 (max x1 n))) g1 (min x0 n) (max x1 n) x2 x3 := hR.set0 _ _
            have w2 : Kp2 wz.heap.size g1 g1 wz ((wz.setCell ⟨g1, 0, none⟩ (.int .i64 (min x0 n))).setCell ⟨g1, 1, none⟩ (.int .i64 (max x1 n))) := Kp2.trans (Kp2.of_set (n₀ := wz.heap.size) (g := g1) (g' := g1) (A := wz) (ad := ⟨g1, 0, none⟩) (.inl rfl) (.int .i64 (min x0 n))) (Kp2.of_set (n₀ := wz.heap.size) (g := g1) (g' := g1) (A := wz.setCell ⟨g1, 0, none⟩ (.int .i64 (min x0 n))) (ad := ⟨g1, 1, none⟩) (.inl rfl) (.int .i64 (max x1 n)))
            clear q0 q1 q2 q3 q4 q5 q6 hS
            refine HH.out _ _ _ ?_ ?_
            · exact (w1.alloc _).alloc _
            · exact w2.trans (Kp2.of_below ((((Below.refl _ _).alloc (Nat.le_refl _) _).alloc (by simp) _).drew) (by simp))
  case k1_13 =>
    try go_simp
    refine hK.out _ _ (fun _ => ⟨hS.1.alloc _, hS.2.alloc hS.2.size _⟩) (fun hS2 => ?_)
    replace hS := hS2 (by decide)
    clear hS2
    clear hK K
    try simp only [Act.put, List.setIfInBounds_toArray, List.set_cons_zero, List.set_cons_succ]
    refine T_ready (rs := [6]) (by kernel_rfl) (by simp) ?_
    refine TReady.cons rfl (fun K hK => ?k9_6) (TReady.nil)
    case k9_6 =>
      try go_simp
      refine hK.out _ _ (fun _ => ⟨hS.1.alloc _, hS.2.alloc hS.2.size _⟩) (fun hS2 => ?_)
      replace hS := hS2 (by decide)
      clear hS2
      clear hK K
      try simp only [Act.put, List.setIfInBounds_toArray, List.set_cons_zero, List.set_cons_succ]
      refine T_ready (rs := [7]) (by kernel_rfl) (by simp) ?_
      refine TReady.cons rfl (fun K hK => ?k10_7) (TReady.nil)
      case k10_7 =>
        try go_simp
        refine (least_c _ x0 n _ (by go_simp) (by go_simp)).mono ?_
        rintro e w4 ⟨rfl, rfl⟩
        try go_simp
        refine hK.out _ _ (fun _ => hS) (fun _ => ?_)
        clear hK K
        try simp only [Act.put, List.setIfInBounds_toArray, List.set_cons_zero, List.set_cons_succ]
        refine T_ready (rs := [14]) (by kernel_rfl) (by simp) ?_
        refine TReady.cons rfl (fun K hK => ?k11_14) (TReady.nil)
        case k11_14 =>
          try go_simp
          refine (greatest_c _ x1 n _ (by go_simp) (by go_simp)).mono ?_
          rintro e w4 ⟨rfl, rfl⟩
          try go_simp
          refine hK.out _ _ (fun _ => hS) (fun _ => ?_)
          clear hK K
          try simp only [Act.put, List.setIfInBounds_toArray, List.set_cons_zero, List.set_cons_succ]
          refine' T_take (i := 15) (v := _) rfl (by kernel_rfl) (by kernel_rfl) (by kernel_rfl) (by kernel_rfl) (fun _ _ _ h => hQ _ _ _ _ h) (by rfl) hS ?_ ?_
          rotate_left 1
          · intro Wv hW
            obtain ⟨q0, q1, q2, q3, -⟩ := hW.1.cells
            go_simp
            first | done | with_reducible rfl
          try simp only [Act.put, List.setIfInBounds_toArray, List.set_cons_zero, List.set_cons_succ]
          refine' T_take (i := 16) (v := _) rfl (by kernel_rfl) (by kernel_rfl) (by kernel_rfl) (by kernel_rfl) (fun _ _ _ h => hQ _ _ _ _ h) (by rfl) hS ?_ ?_
          rotate_left 1
          · intro Wv hW
            obtain ⟨q0, q1, q2, q3, -⟩ := hW.1.cells
            go_simp
            first | done | with_reducible rfl
          try simp only [Act.put, List.setIfInBounds_toArray, List.set_cons_zero, List.set_cons_succ]
          refine T_ready (rs := [17]) (by kernel_rfl) (by simp) ?_
          refine TReady.cons rfl (fun K hK => ?k12_17) (TReady.nil)
          case k12_17 =>
            obtain ⟨q0, q1, q2, q3, q4⟩ := hR.cells
            have q5 := q4 0
            have q6 := q4 1
            have q7 := hR.lt
            have q8 : g1 < wz.heap.size + 1 := by omega
            go_simp
            refine hK.out _ _ (fun h => absurd h (by decide)) (fun _ => ?_)
            clear hK K
            try simp only [Act.put, List.setIfInBounds_toArray, List.set_cons_zero, List.set_cons_succ]
            refine T_done (by kernel_rfl) ?_ _
            have w1 : Rg ((wz.setCell ⟨g1, 0, none⟩ (.int .i64 (min x0 n))).setCell ⟨g1, 1, none⟩ (.int .i64 (max x1 n))) g1 (min x0 n) (max x1 n) x2 x3 := hR.set0 _ _
            have w2 : Kp2 wz.heap.size g1 g1 wz ((wz.setCell ⟨g1, 0, none⟩ (.int .i64 (min x0 n))).setCell ⟨g1, 1, none⟩ (.int .i64 (max x1 n))) := Kp2.trans (Kp2.of_set (n₀ := wz.heap.size) (g := g1) (g' := g1) (A := wz) (ad := ⟨g1, 0, none⟩) (.inl rfl) (.int .i64 (min x0 n))) (Kp2.of_set (n₀ := wz.heap.size) (g := g1) (g' := g1) (A := wz.setCell ⟨g1, 0, none⟩ (.int .i64 (min x0 n))) (ad := ⟨g1, 1, none⟩) (.inl rfl) (.int .i64 (max x1 n)))
            clear q0 q1 q2 q3 q4 q5 q6 hS
            refine HH.out _ _ _ ?_ ?_
            · exact (w1.alloc _).alloc _
            · exact w2.trans (Kp2.of_below ((((Below.refl _ _).alloc (Nat.le_refl _) _).alloc (by simp) _).drew) (by simp))

set_option maxRecDepth 100000 in
set_option maxHeartbeats 8000000 in
theorem reg9_1 {l0 m : Nat} {c : Code} {u0 u1 u2 u3 u4 u5 u7 u8 u10 u12 u13 u14 u15 u16 u17 u18 u19 u20 u21 u22 u23 u24 u25 u26 u27 u28 u29 u30 u31 u32 u33 u34 u35 u36 u37 u38 u39 u40 u41 u42 u43 u44 u45 u46 u47 u48 u49 u50 u51 u52 u53 u54 : Value} {ds : List Deferred} {Q : Exit → Act → World → Prop} {wz : World} {g1 : Nat} {x0 x1 x2 x3 n : Int} (hc : regionAt 9 (bodyOf Try.f59) = some c) (hout : ¬ LetsOut Q) (hQ : ∀ (ch : List PanicEntry) (a a' : Act) (w : World), Q (.panic ch) a w → Q (.panic ch) a' w) (hR : Rg wz g1 x0 x1 x2 x3)
    (h : ∀ (s39 s46 : Value) (W : World), Rg W g1 x0 x1 (min x2 n) (max x3 n) → Kp2 wz.heap.size g1 g1 wz W → Q .normal { tmps := #[u0, u1, u2, u3, u4, u5, .pointer (some ⟨g1, 0, none⟩), u7, u8, .int .i64 1, u10, .int .i64 n, u12, u13, u14, u15, u16, u17, u18, u19, u20, u21, u22, u23, u24, u25, u26, u27, u28, u29, u30, u31, u32, .int .i64 1, .int .i64 1, .pointer (some ⟨g1, 2, none⟩), .pointer (some ⟨g1, 2, none⟩), .int .i64 x2, .int .i64 n, s39, .int .i64 (min x2 n), .int .i64 1, .pointer (some ⟨g1, 2, none⟩), .pointer (some ⟨g1, 3, none⟩), .int .i64 x3, .int .i64 n, s46, .int .i64 (max x3 n), .agg #[.int .i64 (min x2 n), .int .i64 (max x3 n)], .pointer (some ⟨g1, 2, none⟩), u50, u51, u52, u53, u54], defers := ds } W) :
    c.wpIn (Fence.wide.inRound l0) m Try.prog Q { tmps := #[u0, u1, u2, u3, u4, u5, .pointer (some ⟨g1, 0, none⟩), u7, u8, .int .i64 1, u10, .int .i64 n, u12, u13, u14, u15, u16, u17, u18, u19, u20, u21, u22, u23, u24, u25, u26, u27, u28, u29, u30, u31, u32, u33, u34, u35, u36, u37, u38, u39, u40, u41, u42, u43, u44, u45, u46, u47, u48, u49, u50, u51, u52, u53, u54], defers := ds } wz := by
  dsimp only at h
  simp only [bodyOf, Try.f59, regionAt, Option.or, Nat.reduceEqDiff, if_true, if_false, Option.some.injEq, reduceIte] at hc
  subst hc
  have HH := Lib.hid h
  clear h
  refine round_T (fun W => Rg W g1 x0 x1 x2 x3 ∧ Below wz.heap.size wz W) 17 (by kernel_rfl) (by kernel_rfl) hout ⟨hR, (Below.refl _ _).drew⟩ (fun hS => ?_)
  refine' T_take (i := 0) (v := _) rfl (by kernel_rfl) (by kernel_rfl) (by kernel_rfl) (by kernel_rfl) (fun _ _ _ h => hQ _ _ _ _ h) (by rfl) hS ?_ ?_
  rotate_left 1
  · intro Wv hW
    obtain ⟨q0, q1, q2, q3, -⟩ := hW.1.cells
    go_simp
    first | done | with_reducible rfl
  try simp only [Act.put, List.setIfInBounds_toArray, List.set_cons_zero, List.set_cons_succ]
  refine' T_take (i := 1) (v := _) rfl (by kernel_rfl) (by kernel_rfl) (by kernel_rfl) (by kernel_rfl) (fun _ _ _ h => hQ _ _ _ _ h) (by rfl) hS ?_ ?_
  rotate_left 1
  · intro Wv hW
    obtain ⟨q0, q1, q2, q3, -⟩ := hW.1.cells
    go_simp
    first | done | with_reducible rfl
  try simp only [Act.put, List.setIfInBounds_toArray, List.set_cons_zero, List.set_cons_succ]
  refine' T_take (i := 2) (v := _) rfl (by kernel_rfl) (by kernel_rfl) (by kernel_rfl) (by kernel_rfl) (fun _ _ _ h => hQ _ _ _ _ h) (by rfl) hS ?_ ?_
  rotate_left 1
  · intro Wv hW
    obtain ⟨q0, q1, q2, q3, -⟩ := hW.1.cells
    go_simp
    first | done | with_reducible rfl
  try simp only [Act.put, List.setIfInBounds_toArray, List.set_cons_zero, List.set_cons_succ]
  refine' T_take (i := 3) (v := _) rfl (by kernel_rfl) (by kernel_rfl) (by kernel_rfl) (by kernel_rfl) (fun _ _ _ h => hQ _ _ _ _ h) (by rfl) hS ?_ ?_
  rotate_left 1
  · intro Wv hW
    obtain ⟨q0, q1, q2, q3, -⟩ := hW.1.cells
    go_simp
    first | done | with_reducible rfl
  try simp only [Act.put, List.setIfInBounds_toArray, List.set_cons_zero, List.set_cons_succ]
  refine' T_take (i := 4) (v := _) rfl (by kernel_rfl) (by kernel_rfl) (by kernel_rfl) (by kernel_rfl) (fun _ _ _ h => hQ _ _ _ _ h) (by rfl) hS ?_ ?_
  rotate_left 1
  · intro Wv hW
    obtain ⟨q0, q1, q2, q3, -⟩ := hW.1.cells
    go_simp
    first | done | with_reducible rfl
  try simp only [Act.put, List.setIfInBounds_toArray, List.set_cons_zero, List.set_cons_succ]
  refine' T_take (i := 5) (v := _) rfl (by kernel_rfl) (by kernel_rfl) (by kernel_rfl) (by kernel_rfl) (fun _ _ _ h => hQ _ _ _ _ h) (by rfl) hS ?_ ?_
  rotate_left 1
  · intro Wv hW
    obtain ⟨q0, q1, q2, q3, -⟩ := hW.1.cells
    go_simp
    first | done | with_reducible rfl
  try simp only [Act.put, List.setIfInBounds_toArray, List.set_cons_zero, List.set_cons_succ]
  refine' T_take (i := 8) (v := _) rfl (by kernel_rfl) (by kernel_rfl) (by kernel_rfl) (by kernel_rfl) (fun _ _ _ h => hQ _ _ _ _ h) (by rfl) hS ?_ ?_
  rotate_left 1
  · intro Wv hW
    obtain ⟨q0, q1, q2, q3, -⟩ := hW.1.cells
    go_simp
    first | done | with_reducible rfl
  try simp only [Act.put, List.setIfInBounds_toArray, List.set_cons_zero, List.set_cons_succ]
  refine' T_take (i := 9) (v := _) rfl (by kernel_rfl) (by kernel_rfl) (by kernel_rfl) (by kernel_rfl) (fun _ _ _ h => hQ _ _ _ _ h) (by rfl) hS ?_ ?_
  rotate_left 1
  · intro Wv hW
    obtain ⟨q0, q1, q2, q3, -⟩ := hW.1.cells
    go_simp
    first | done | with_reducible rfl
  try simp only [Act.put, List.setIfInBounds_toArray, List.set_cons_zero, List.set_cons_succ]
  refine' T_take (i := 10) (v := _) rfl (by kernel_rfl) (by kernel_rfl) (by kernel_rfl) (by kernel_rfl) (fun _ _ _ h => hQ _ _ _ _ h) (by rfl) hS ?_ ?_
  rotate_left 1
  · intro Wv hW
    obtain ⟨q0, q1, q2, q3, -⟩ := hW.1.cells
    go_simp
    first | done | with_reducible rfl
  try simp only [Act.put, List.setIfInBounds_toArray, List.set_cons_zero, List.set_cons_succ]
  refine' T_take (i := 11) (v := _) rfl (by kernel_rfl) (by kernel_rfl) (by kernel_rfl) (by kernel_rfl) (fun _ _ _ h => hQ _ _ _ _ h) (by rfl) hS ?_ ?_
  rotate_left 1
  · intro Wv hW
    obtain ⟨q0, q1, q2, q3, -⟩ := hW.1.cells
    go_simp
    first | done | with_reducible rfl
  try simp only [Act.put, List.setIfInBounds_toArray, List.set_cons_zero, List.set_cons_succ]
  refine' T_take (i := 12) (v := _) rfl (by kernel_rfl) (by kernel_rfl) (by kernel_rfl) (by kernel_rfl) (fun _ _ _ h => hQ _ _ _ _ h) (by rfl) hS ?_ ?_
  rotate_left 1
  · intro Wv hW
    obtain ⟨q0, q1, q2, q3, -⟩ := hW.1.cells
    go_simp
    first | done | with_reducible rfl
  try simp only [Act.put, List.setIfInBounds_toArray, List.set_cons_zero, List.set_cons_succ]
  refine T_ready (rs := [6, 13]) (by kernel_rfl) (by simp) ?_
  refine TReady.cons rfl (fun K hK => ?k1_6) (TReady.cons rfl (fun K hK => ?k1_13) (TReady.nil))
  case k1_6 =>
    try go_simp
    refine hK.out _ _ (fun _ => ⟨hS.1.alloc _, hS.2.alloc hS.2.size _⟩) (fun hS2 => ?_)
    replace hS := hS2 (by decide)
    clear hS2
    clear hK K
    try simp only [Act.put, List.setIfInBounds_toArray, List.set_cons_zero, List.set_cons_succ]
    refine T_ready (rs := [7, 13]) (by kernel_rfl) (by simp) ?_
    refine TReady.cons rfl (fun K hK => ?k2_7) (TReady.cons rfl (fun K hK => ?k2_13) (TReady.nil))
    case k2_7 =>
      try go_simp
      refine (least_c _ x2 n _ (by go_simp) (by go_simp)).mono ?_
      rintro e w4 ⟨rfl, rfl⟩
      try go_simp
      refine hK.out _ _ (fun _ => hS) (fun _ => ?_)
      clear hK K
      try simp only [Act.put, List.setIfInBounds_toArray, List.set_cons_zero, List.set_cons_succ]
      refine T_ready (rs := [13]) (by kernel_rfl) (by simp) ?_
      refine TReady.cons rfl (fun K hK => ?k3_13) (TReady.nil)
      case k3_13 =>
        try go_simp
        refine hK.out _ _ (fun _ => ⟨hS.1.alloc _, hS.2.alloc hS.2.size _⟩) (fun hS2 => ?_)
        replace hS := hS2 (by decide)
        clear hS2
        clear hK K
        try simp only [Act.put, List.setIfInBounds_toArray, List.set_cons_zero, List.set_cons_succ]
        refine T_ready (rs := [14]) (by kernel_rfl) (by simp) ?_
        refine TReady.cons rfl (fun K hK => ?k4_14) (TReady.nil)
        case k4_14 =>
          try go_simp
          refine (greatest_c _ x3 n _ (by go_simp) (by go_simp)).mono ?_
          rintro e w4 ⟨rfl, rfl⟩
          try go_simp
          refine hK.out _ _ (fun _ => hS) (fun _ => ?_)
          clear hK K
          try simp only [Act.put, List.setIfInBounds_toArray, List.set_cons_zero, List.set_cons_succ]
          refine' T_take (i := 15) (v := _) rfl (by kernel_rfl) (by kernel_rfl) (by kernel_rfl) (by kernel_rfl) (fun _ _ _ h => hQ _ _ _ _ h) (by rfl) hS ?_ ?_
          rotate_left 1
          · intro Wv hW
            obtain ⟨q0, q1, q2, q3, -⟩ := hW.1.cells
            go_simp
            first | done | with_reducible rfl
          try simp only [Act.put, List.setIfInBounds_toArray, List.set_cons_zero, List.set_cons_succ]
          refine' T_take (i := 16) (v := _) rfl (by kernel_rfl) (by kernel_rfl) (by kernel_rfl) (by kernel_rfl) (fun _ _ _ h => hQ _ _ _ _ h) (by rfl) hS ?_ ?_
          rotate_left 1
          · intro Wv hW
            obtain ⟨q0, q1, q2, q3, -⟩ := hW.1.cells
            go_simp
            first | done | with_reducible rfl
          try simp only [Act.put, List.setIfInBounds_toArray, List.set_cons_zero, List.set_cons_succ]
          refine T_ready (rs := [17]) (by kernel_rfl) (by simp) ?_
          refine TReady.cons rfl (fun K hK => ?k5_17) (TReady.nil)
          case k5_17 =>
            obtain ⟨q0, q1, q2, q3, q4⟩ := hR.cells
            have q5 := q4 2
            have q6 := q4 3
            have q7 := hR.lt
            have q8 : g1 < wz.heap.size + 1 := by omega
            go_simp
            refine hK.out _ _ (fun h => absurd h (by decide)) (fun _ => ?_)
            clear hK K
            try simp only [Act.put, List.setIfInBounds_toArray, List.set_cons_zero, List.set_cons_succ]
            refine T_done (by kernel_rfl) ?_ _
            have w1 : Rg ((wz.setCell ⟨g1, 2, none⟩ (.int .i64 (min x2 n))).setCell ⟨g1, 3, none⟩ (.int .i64 (max x3 n))) g1 x0 x1 (min x2 n) (max x3 n) := hR.set2 _ _
            have w2 : Kp2 wz.heap.size g1 g1 wz ((wz.setCell ⟨g1, 2, none⟩ (.int .i64 (min x2 n))).setCell ⟨g1, 3, none⟩ (.int .i64 (max x3 n))) := Kp2.trans (Kp2.of_set (n₀ := wz.heap.size) (g := g1) (g' := g1) (A := wz) (ad := ⟨g1, 2, none⟩) (.inl rfl) (.int .i64 (min x2 n))) (Kp2.of_set (n₀ := wz.heap.size) (g := g1) (g' := g1) (A := wz.setCell ⟨g1, 2, none⟩ (.int .i64 (min x2 n))) (ad := ⟨g1, 3, none⟩) (.inl rfl) (.int .i64 (max x3 n)))
            clear q0 q1 q2 q3 q4 q5 q6 hS
            refine HH.out _ _ _ ?_ ?_
            · exact (w1.alloc _).alloc _
            · exact w2.trans (Kp2.of_below ((((Below.refl _ _).alloc (Nat.le_refl _) _).alloc (by simp) _).drew) (by simp))
    case k2_13 =>
      try go_simp
      refine hK.out _ _ (fun _ => ⟨hS.1.alloc _, hS.2.alloc hS.2.size _⟩) (fun hS2 => ?_)
      replace hS := hS2 (by decide)
      clear hS2
      clear hK K
      try simp only [Act.put, List.setIfInBounds_toArray, List.set_cons_zero, List.set_cons_succ]
      refine T_ready (rs := [7]) (by kernel_rfl) (by simp) ?_
      refine TReady.cons rfl (fun K hK => ?k6_7) (TReady.nil)
      case k6_7 =>
        try go_simp
        refine (least_c _ x2 n _ (by go_simp) (by go_simp)).mono ?_
        rintro e w4 ⟨rfl, rfl⟩
        try go_simp
        refine hK.out _ _ (fun _ => hS) (fun _ => ?_)
        clear hK K
        try simp only [Act.put, List.setIfInBounds_toArray, List.set_cons_zero, List.set_cons_succ]
        refine T_ready (rs := [14]) (by kernel_rfl) (by simp) ?_
        refine TReady.cons rfl (fun K hK => ?k7_14) (TReady.nil)
        case k7_14 =>
          try go_simp
          refine (greatest_c _ x3 n _ (by go_simp) (by go_simp)).mono ?_
          rintro e w4 ⟨rfl, rfl⟩
          try go_simp
          refine hK.out _ _ (fun _ => hS) (fun _ => ?_)
          clear hK K
          try simp only [Act.put, List.setIfInBounds_toArray, List.set_cons_zero, List.set_cons_succ]
          refine' T_take (i := 15) (v := _) rfl (by kernel_rfl) (by kernel_rfl) (by kernel_rfl) (by kernel_rfl) (fun _ _ _ h => hQ _ _ _ _ h) (by rfl) hS ?_ ?_
          rotate_left 1
          · intro Wv hW
            obtain ⟨q0, q1, q2, q3, -⟩ := hW.1.cells
            go_simp
            first | done | with_reducible rfl
          try simp only [Act.put, List.setIfInBounds_toArray, List.set_cons_zero, List.set_cons_succ]
          refine' T_take (i := 16) (v := _) rfl (by kernel_rfl) (by kernel_rfl) (by kernel_rfl) (by kernel_rfl) (fun _ _ _ h => hQ _ _ _ _ h) (by rfl) hS ?_ ?_
          rotate_left 1
          · intro Wv hW
            obtain ⟨q0, q1, q2, q3, -⟩ := hW.1.cells
            go_simp
            first | done | with_reducible rfl
          try simp only [Act.put, List.setIfInBounds_toArray, List.set_cons_zero, List.set_cons_succ]
          refine T_ready (rs := [17]) (by kernel_rfl) (by simp) ?_
          refine TReady.cons rfl (fun K hK => ?k8_17) (TReady.nil)
          case k8_17 =>
            obtain ⟨q0, q1, q2, q3, q4⟩ := hR.cells
            have q5 := q4 2
            have q6 := q4 3
            have q7 := hR.lt
            have q8 : g1 < wz.heap.size + 1 := by omega
            go_simp
            refine hK.out _ _ (fun h => absurd h (by decide)) (fun _ => ?_)
            clear hK K
            try simp only [Act.put, List.setIfInBounds_toArray, List.set_cons_zero, List.set_cons_succ]
            refine T_done (by kernel_rfl) ?_ _
            have w1 : Rg ((wz.setCell ⟨g1, 2, none⟩ (.int .i64 (min x2 n))).setCell ⟨g1, 3, none⟩ (.int .i64 (max x3 n))) g1 x0 x1 (min x2 n) (max x3 n) := hR.set2 _ _
            have w2 : Kp2 wz.heap.size g1 g1 wz ((wz.setCell ⟨g1, 2, none⟩ (.int .i64 (min x2 n))).setCell ⟨g1, 3, none⟩ (.int .i64 (max x3 n))) := Kp2.trans (Kp2.of_set (n₀ := wz.heap.size) (g := g1) (g' := g1) (A := wz) (ad := ⟨g1, 2, none⟩) (.inl rfl) (.int .i64 (min x2 n))) (Kp2.of_set (n₀ := wz.heap.size) (g := g1) (g' := g1) (A := wz.setCell ⟨g1, 2, none⟩ (.int .i64 (min x2 n))) (ad := ⟨g1, 3, none⟩) (.inl rfl) (.int .i64 (max x3 n)))
            clear q0 q1 q2 q3 q4 q5 q6 hS
            refine HH.out _ _ _ ?_ ?_
            · exact (w1.alloc _).alloc _
            · exact w2.trans (Kp2.of_below ((((Below.refl _ _).alloc (Nat.le_refl _) _).alloc (by simp) _).drew) (by simp))
  case k1_13 =>
    try go_simp
    refine hK.out _ _ (fun _ => ⟨hS.1.alloc _, hS.2.alloc hS.2.size _⟩) (fun hS2 => ?_)
    replace hS := hS2 (by decide)
    clear hS2
    clear hK K
    try simp only [Act.put, List.setIfInBounds_toArray, List.set_cons_zero, List.set_cons_succ]
    refine T_ready (rs := [6]) (by kernel_rfl) (by simp) ?_
    refine TReady.cons rfl (fun K hK => ?k9_6) (TReady.nil)
    case k9_6 =>
      try go_simp
      refine hK.out _ _ (fun _ => ⟨hS.1.alloc _, hS.2.alloc hS.2.size _⟩) (fun hS2 => ?_)
      replace hS := hS2 (by decide)
      clear hS2
      clear hK K
      try simp only [Act.put, List.setIfInBounds_toArray, List.set_cons_zero, List.set_cons_succ]
      refine T_ready (rs := [7]) (by kernel_rfl) (by simp) ?_
      refine TReady.cons rfl (fun K hK => ?k10_7) (TReady.nil)
      case k10_7 =>
        try go_simp
        refine (least_c _ x2 n _ (by go_simp) (by go_simp)).mono ?_
        rintro e w4 ⟨rfl, rfl⟩
        try go_simp
        refine hK.out _ _ (fun _ => hS) (fun _ => ?_)
        clear hK K
        try simp only [Act.put, List.setIfInBounds_toArray, List.set_cons_zero, List.set_cons_succ]
        refine T_ready (rs := [14]) (by kernel_rfl) (by simp) ?_
        refine TReady.cons rfl (fun K hK => ?k11_14) (TReady.nil)
        case k11_14 =>
          try go_simp
          refine (greatest_c _ x3 n _ (by go_simp) (by go_simp)).mono ?_
          rintro e w4 ⟨rfl, rfl⟩
          try go_simp
          refine hK.out _ _ (fun _ => hS) (fun _ => ?_)
          clear hK K
          try simp only [Act.put, List.setIfInBounds_toArray, List.set_cons_zero, List.set_cons_succ]
          refine' T_take (i := 15) (v := _) rfl (by kernel_rfl) (by kernel_rfl) (by kernel_rfl) (by kernel_rfl) (fun _ _ _ h => hQ _ _ _ _ h) (by rfl) hS ?_ ?_
          rotate_left 1
          · intro Wv hW
            obtain ⟨q0, q1, q2, q3, -⟩ := hW.1.cells
            go_simp
            first | done | with_reducible rfl
          try simp only [Act.put, List.setIfInBounds_toArray, List.set_cons_zero, List.set_cons_succ]
          refine' T_take (i := 16) (v := _) rfl (by kernel_rfl) (by kernel_rfl) (by kernel_rfl) (by kernel_rfl) (fun _ _ _ h => hQ _ _ _ _ h) (by rfl) hS ?_ ?_
          rotate_left 1
          · intro Wv hW
            obtain ⟨q0, q1, q2, q3, -⟩ := hW.1.cells
            go_simp
            first | done | with_reducible rfl
          try simp only [Act.put, List.setIfInBounds_toArray, List.set_cons_zero, List.set_cons_succ]
          refine T_ready (rs := [17]) (by kernel_rfl) (by simp) ?_
          refine TReady.cons rfl (fun K hK => ?k12_17) (TReady.nil)
          case k12_17 =>
            obtain ⟨q0, q1, q2, q3, q4⟩ := hR.cells
            have q5 := q4 2
            have q6 := q4 3
            have q7 := hR.lt
            have q8 : g1 < wz.heap.size + 1 := by omega
            go_simp
            refine hK.out _ _ (fun h => absurd h (by decide)) (fun _ => ?_)
            clear hK K
            try simp only [Act.put, List.setIfInBounds_toArray, List.set_cons_zero, List.set_cons_succ]
            refine T_done (by kernel_rfl) ?_ _
            have w1 : Rg ((wz.setCell ⟨g1, 2, none⟩ (.int .i64 (min x2 n))).setCell ⟨g1, 3, none⟩ (.int .i64 (max x3 n))) g1 x0 x1 (min x2 n) (max x3 n) := hR.set2 _ _
            have w2 : Kp2 wz.heap.size g1 g1 wz ((wz.setCell ⟨g1, 2, none⟩ (.int .i64 (min x2 n))).setCell ⟨g1, 3, none⟩ (.int .i64 (max x3 n))) := Kp2.trans (Kp2.of_set (n₀ := wz.heap.size) (g := g1) (g' := g1) (A := wz) (ad := ⟨g1, 2, none⟩) (.inl rfl) (.int .i64 (min x2 n))) (Kp2.of_set (n₀ := wz.heap.size) (g := g1) (g' := g1) (A := wz.setCell ⟨g1, 2, none⟩ (.int .i64 (min x2 n))) (ad := ⟨g1, 3, none⟩) (.inl rfl) (.int .i64 (max x3 n)))
            clear q0 q1 q2 q3 q4 q5 q6 hS
            refine HH.out _ _ _ ?_ ?_
            · exact (w1.alloc _).alloc _
            · exact w2.trans (Kp2.of_below ((((Below.refl _ _).alloc (Nat.le_refl _) _).alloc (by simp) _).drew) (by simp))

end Go.Proofs.Ytadjkinpimmhkaa
