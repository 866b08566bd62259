/-
  The ranges of all places, and of the count: the program's answer.
-/
import Derived.Test.YtadjkinpimmhkaaMany
namespace Go.Proofs.Ytadjkinpimmhkaa
open Go.RowKit
set_option linter.unusedSimpArgs false
set_option linter.unusedVariables false

/-- Block g holds one range. -/
def P2 (w : World) (g : Nat) (a b : Int) : Prop := w.heap[g]? = some (.cells #[.int .i64 a, .int .i64 b] 41 (0, 0))
section
variable {w w' : World} {g : Nat} {a b : Int}
theorem P2.lt (h : P2 w g a b) : g < w.heap.size := (Array.getElem?_eq_some_iff.1 h).1
theorem P2.cells (h : P2 w g a b) : w.cell? ⟨g, 0, none⟩ = some (.int .i64 a) ∧ w.cell? ⟨g, 1, none⟩ = some (.int .i64 b) ∧ ∀ o, w.frozen? ⟨g, o, none⟩ = false := by
  unfold P2 at h
  simp [World.cell?, World.frozen?, h]
theorem P2.below (h : P2 w g a b) (hb : Below w.heap.size w w') : P2 w' g a b := (hb.block g h.lt).trans h
theorem P2.set (h : P2 w g a b) (x y : Int) : P2 ((w.setCell ⟨g, 0, none⟩ (.int .i64 x)).setCell ⟨g, 1, none⟩ (.int .i64 y)) g x y := by
  unfold P2 at h ⊢
  simp [World.setCell, Array.getElem?_modify, h]
theorem P2.same (h : P2 w g a b) : w.setCell ⟨g, 0, none⟩ (.int .i64 a) = w ∧ w.setCell ⟨g, 1, none⟩ (.int .i64 b) = w := ⟨set_same h rfl, set_same h rfl⟩
theorem P2.far (h : P2 w g a b) {ad : Addr} (hp : g ≠ ad.block) (u : Value) : P2 (w.setCell ad u) g a b := (Below.heap_setCell w ad u g hp).trans h
end

/-- A list of ranges. -/
def px (rs : List (Int × Int)) (k : Nat) : Int × Int := rs.getD k (0, 0)
def Rgs (B : Nat) (w : World) (A : Option Addr) (rs : List (Int × Int)) : Prop :=
  0 < rs.length → ∃ b off, A = some ⟨b, off, none⟩ ∧ b < B ∧ ∀ k, k < rs.length → w.cell? ⟨b, off + k * 2, none⟩ = some (.int .i64 (px rs k).1) ∧ w.cell? ⟨b, off + k * 2 + 1, none⟩ = some (.int .i64 (px rs k).2)
theorem Rgs.step {w w' : World} {A : Option Addr} {rs : List (Int × Int)} (h : Rgs w.heap.size w A rs) (hb : Below w.heap.size w w') : Rgs w'.heap.size w' A rs := fun hp => by
  obtain ⟨b, off, hA, hlt, hc⟩ := h hp
  have := hb.size
  exact ⟨b, off, hA, by omega, fun k hk => ⟨(hb.cell (p := ⟨b, off + k * 2, none⟩) hlt).trans (hc k hk).1, (hb.cell (p := ⟨b, off + k * 2 + 1, none⟩) hlt).trans (hc k hk).2⟩⟩
def flatR (rs : List (Int × Int)) : List Value := rs.flatMap fun p => [.int .i64 p.1, .int .i64 p.2]
theorem flatR_len (rs : List (Int × Int)) : (flatR rs).length = rs.length * 2 := by
  induction rs with
  | nil => rfl
  | cons x xs ih => simp only [flatR, List.flatMap_cons, List.length_append, List.length_cons, List.length_nil] at *; omega
theorem flatR_at : ∀ (rs : List (Int × Int)) (k : Nat), k < rs.length → (flatR rs)[k * 2]? = some (.int .i64 (px rs k).1) ∧ (flatR rs)[k * 2 + 1]? = some (.int .i64 (px rs k).2)
  | x :: xs, 0, _ => by simp [flatR, px]
  | x :: xs, k + 1, h => by
    have := flatR_at xs k (by simpa using h)
    simp only [flatR, List.flatMap_cons, px, List.getD_cons_succ] at *
    rw [show (k + 1) * 2 = k * 2 + 2 by omega]
    simpa using this
theorem flatR_append (rs ss : List (Int × Int)) : flatR (rs ++ ss) = flatR rs ++ flatR ss := by simp [flatR]
def OwnR (base : Nat) (w : World) (u : Value) (rs : List (Int × Int)) : Prop := w.ownsRow base 41 2 u rs.length (flatR rs)
theorem OwnR.form {base : Nat} {w : World} {u : Value} {rs : List (Int × Int)} (h : OwnR base w u rs) : ∃ A c, u = .slice A rs.length c := ownsRow_form h
theorem OwnR.rgs {base : Nat} {w : World} {A : Option Addr} {n c : Nat} {rs : List (Int × Int)} (h : OwnR base w (.slice A n c) rs) : rs.length ≤ c ∧ c ≤ 9223372036854775807 ∧ Rgs w.heap.size w A rs := by
  rcases h.2 with ⟨e, h0⟩ | ⟨g, cap, cur, e, hb, hg, hn, hm, hs, ht⟩
  · injection e with e1 e2 e3
    subst e1 e3
    exact ⟨by omega, by omega, fun hp => by omega⟩
  · injection e with e1 e2 e3
    subst e1 e3
    refine ⟨hn, by unfold maxLen at hm; omega, fun hp => ⟨g, 0, rfl, (Array.getElem?_eq_some_iff.1 hg).1, fun k hk => ?_⟩⟩
    obtain ⟨a1, a2⟩ := flatR_at rs k hk
    have b1 := h.cells (g := g) rfl _ _ a1
    have b2 := h.cells (g := g) rfl _ _ a2
    rw [add_eq] at b1 b2
    exact ⟨b1, by rw [Nat.add_assoc]; exact b2⟩
theorem infoRg : (Try.prog.info? 41).map (fun i => (i.zero, i.size, i.bytes)) = some (some (.agg #[.int .i64 0, .int .i64 0]), 2, 16) := by kernel_rfl
theorem one_flat (rs : List (Int × Int)) : ∀ v ∈ flatR rs, v.oneCell' = true := by
  intro v hv
  simp only [flatR, List.mem_flatMap] at hv
  obtain ⟨p, _, hv⟩ := hv
  simp at hv
  rcases hv with rfl | rfl <;> rfl

theorem lo_bd {xs : List Int} (h : ∀ x ∈ xs, 0 ≤ x ∧ x ≤ 10) : 0 ≤ loS xs ∧ loS xs ≤ 10 := by
  have key : ∀ (xs : List Int) (a : Int), (∀ x ∈ xs, 0 ≤ x ∧ x ≤ 10) → 0 ≤ a ∧ a ≤ 10 → 0 ≤ xs.foldl min a ∧ xs.foldl min a ≤ 10 := by
    intro xs
    induction xs with
    | nil => exact fun a _ h => h
    | cons x xs ih => exact fun a hx ha => ih _ (fun y hy => hx y (List.mem_cons_of_mem _ hy)) (by have := hx x (List.mem_cons_self ..); omega)
  cases xs with
  | nil => simp [loS]
  | cons x xs => exact key xs x (fun y hy => h y (List.mem_cons_of_mem _ hy)) (h x (List.mem_cons_self ..))
theorem hi_bd {xs : List Int} (h : ∀ x ∈ xs, 0 ≤ x ∧ x ≤ 10) : 0 ≤ hiS xs ∧ hiS xs ≤ 10 := by
  have key : ∀ (xs : List Int) (a : Int), (∀ x ∈ xs, 0 ≤ x ∧ x ≤ 10) → 0 ≤ a ∧ a ≤ 10 → 0 ≤ xs.foldl max a ∧ xs.foldl max a ≤ 10 := by
    intro xs
    induction xs with
    | nil => exact fun a _ h => h
    | cons x xs ih => exact fun a hx ha => ih _ (fun y hy => hx y (List.mem_cons_of_mem _ hy)) (by have := hx x (List.mem_cons_self ..); omega)
  cases xs with
  | nil => simp [hiS]
  | cons x xs => exact key xs x (fun y hy => h y (List.mem_cons_of_mem _ hy)) (h x (List.mem_cons_self ..))
theorem snds_bd (ws : List Wd) (f : Int) (o : Nat → Bool) : ∀ x ∈ snds (gamesL ws f o), 0 ≤ x ∧ x ≤ 10 := by
  intro x hx
  simp only [snds, List.mem_map] at hx
  obtain ⟨p, hp, rfl⟩ := hx
  have := gamesL_bd hp
  omega

noncomputable def rangesL (ws : List Wd) (o : Nat → Bool) : Nat → List (Int × Int)
  | 0 => []
  | k + 1 => rangesL ws o k ++ [(loS (fsts (gamesL ws (k : Int) o)), hiS (fsts (gamesL ws (k : Int) o))), (loS (snds (gamesL ws (k : Int) o)), hiS (snds (gamesL ws (k : Int) o)))]
noncomputable def cntLo (ws : List Wd) (o : Nat → Bool) : Nat → Int
  | 0 => 0
  | k + 1 => cntLo ws o k + 10 - hiS (snds (gamesL ws (k : Int) o))
noncomputable def cntHi (ws : List Wd) (o : Nat → Bool) : Nat → Int
  | 0 => 0
  | k + 1 => cntHi ws o k + 10 - loS (snds (gamesL ws (k : Int) o))
theorem rangesL_len (ws : List Wd) (o : Nat → Bool) : ∀ k, (rangesL ws o k).length = 2 * k
  | 0 => rfl
  | k + 1 => by rw [rangesL, List.length_append, rangesL_len ws o k]; simp; omega
theorem cnt_bd (ws : List Wd) (o : Nat → Bool) : ∀ k : Nat, (0 ≤ cntLo ws o k ∧ cntLo ws o k ≤ 10 * (k : Int)) ∧ (0 ≤ cntHi ws o k ∧ cntHi ws o k ≤ 10 * (k : Int))
  | 0 => by simp [cntLo, cntHi]
  | k + 1 => by
    have h := cnt_bd ws o k
    have h1 := lo_bd (snds_bd ws (k : Int) o)
    have h2 := hi_bd (snds_bd ws (k : Int) o)
    simp only [cntLo, cntHi]
    omega

theorem sets2 (w : World) (g : Nat) (a b : Value) : w.grownBy ((w.setCell ⟨g, 0, none⟩ a).setCell ⟨g, 1, none⟩ b) (some g) := only_setCell (only_setCell (World.grownBy.refl w (some g)) (.inl rfl) _) (.inl rfl) _
def RgPost (w : World) (rs : List (Int × Int)) (lo hi : Int) (e : Ending) (w' : World) : Prop :=
  ∃ A c, e = .returned (.tuple #[.slice A rs.length c, .agg #[.int .i64 lo, .int .i64 hi], .int .i64 0]) ∧ (rs.length ≤ c ∧ c ≤ 9223372036854775807) ∧ Rgs w'.heap.size w' A rs ∧ Below w.heap.size w w'

set_option maxRecDepth 100000 in
set_option maxHeartbeats 4000000 in
theorem ranges_bad (A At : Option Addr) (ws : List Wd) (ts : List Int) (c ct : Nat) (frn : Int) (w : World) (hw : Wds w.heap.size w A ws) (ht : Ints w.heap.size w At ts) (hc : ws.length ≤ c ∧ c ≤ 9223372036854775807) (hct : ts.length ≤ ct ∧ ct ≤ 9223372036854775807) (h : exErr frn ws ts ≠ 0) : Calls Try.prog 26 #[.agg #[.int .i64 frn, .slice A ws.length c], .slice At ts.length ct] w (Ans w (.tuple #[.slice none 0 0, .agg #[.int .i64 0, .int .i64 0], .int .i64 (exErr frn ws ts)])) := by
  have hb0 : Below w.heap.size w ((w.alloc (.cells #[.int .i64 frn, .slice A ws.length c] 32)).alloc (.cells #[.int .i64 0, .int .i64 0] 41)) := ((Below.refl _ _).alloc (Nat.le_refl _) _).alloc (by simp) _
  have k0 : ((w.alloc (.cells #[.int .i64 frn, .slice A ws.length c] 32)).alloc (.cells #[.int .i64 0, .int .i64 0] 41)).cell? ⟨w.heap.size, 0, none⟩ = some (.int .i64 frn) := by go_simp
  have k1 : ((w.alloc (.cells #[.int .i64 frn, .slice A ws.length c] 32)).alloc (.cells #[.int .i64 0, .int .i64 0] 41)).cell? ⟨w.heap.size, 1, none⟩ = some (.slice A ws.length c) := by go_simp
  have hP : P2 ((w.alloc (.cells #[.int .i64 frn, .slice A ws.length c] 32)).alloc (.cells #[.int .i64 0, .int .i64 0] 41)) (w.heap.size + 1) 0 0 := by
    have := World.alloc_heap_new (w.alloc (.cells #[.int .i64 frn, .slice A ws.length c] 32)) (.cells #[.int .i64 0, .int .i64 0] 41)
    rwa [World.size_alloc] at this
  have HP := Lib.hid hP
  have HC := Lib.hid (explained_bad A At ws ts c ct frn _ (hw.step hb0) (ht.step hb0) hc hct h)
  have hne : (exErr frn ws ts != 0) = true := by simp [h]
  have HB0 := Lib.hid hb0
  generalize exErr frn ws ts = er at HC hne ⊢
  clear h hb0 hP
  go_enter Try.func26, Try.ntmps26
  go_wp2_with fail
  generalize ((w.alloc (.cells #[.int .i64 frn, .slice A ws.length c] 32)).alloc (.cells #[.int .i64 0, .int .i64 0] 41)) = W0 at k0 k1 HC HB0 HP ⊢
  refine HC.out.mono ?_
  rintro e w1 ⟨P, a1, a2, a3, a4, rfl, hb1⟩
  have HB1 := Lib.hid ((HB0.out.trans (hb1.mono HB0.out.size)).alloc (Nat.le_trans HB0.out.size hb1.size) (.cells #[.bool a1, .bool a2, .bool a3, .bool a4] 92))
  have HP1 := Lib.hid ((HP.out.below hb1).below (w' := w1.alloc (.cells #[.bool a1, .bool a2, .bool a3, .bool a4] 92)) ((Below.refl _ _).alloc (Nat.le_refl _) _))
  have HP2 := Lib.hid (HP.out.below hb1)
  have hpl := (HP.out.below hb1).lt
  clear hb1
  obtain ⟨c0, c1, c2⟩ := HP2.out.cells
  have f0 := c2 0
  have f1 := c2 1
  obtain ⟨v1, v2⟩ := HP2.out.same
  clear c2
  go_wp2_with fail
  obtain ⟨e0, e1, -⟩ := HP1.out.cells
  exact bodyPost_ret (v := .tuple #[.slice none 0 0, .agg #[.int .i64 0, .int .i64 0], .int .i64 er]) (by simp [results, Try.results26, go_sem, e0, e1]) rfl ⟨rfl, HB1.out⟩
set_option maxRecDepth 100000 in
set_option maxHeartbeats 8000000 in
theorem ranges_ok (A At : Option Addr) (ws : List Wd) (ts : List Int) (c ct : Nat) (frn : Int) (w : World) (hw : Wds w.heap.size w A ws) (ht : Ints w.heap.size w At ts) (hc : ws.length ≤ c ∧ c ≤ 9223372036854775807) (hct : ts.length ≤ ct ∧ ct ≤ 9223372036854775807) (h : exErr frn ws ts = 0) : Calls Try.prog 26 #[.agg #[.int .i64 frn, .slice A ws.length c], .slice At ts.length ct] w (RgPost w (rangesL ws (offT ts) frn.toNat) (cntLo ws (offT ts) frn.toNat) (cntHi ws (offT ts) frn.toNat)) := by
  have hb0 : Below w.heap.size w ((w.alloc (.cells #[.int .i64 frn, .slice A ws.length c] 32)).alloc (.cells #[.int .i64 0, .int .i64 0] 41)) := ((Below.refl _ _).alloc (Nat.le_refl _) _).alloc (by simp) _
  have k0 : ((w.alloc (.cells #[.int .i64 frn, .slice A ws.length c] 32)).alloc (.cells #[.int .i64 0, .int .i64 0] 41)).cell? ⟨w.heap.size, 0, none⟩ = some (.int .i64 frn) := by go_simp
  have k1 : ((w.alloc (.cells #[.int .i64 frn, .slice A ws.length c] 32)).alloc (.cells #[.int .i64 0, .int .i64 0] 41)).cell? ⟨w.heap.size, 1, none⟩ = some (.slice A ws.length c) := by go_simp
  have hP : P2 ((w.alloc (.cells #[.int .i64 frn, .slice A ws.length c] 32)).alloc (.cells #[.int .i64 0, .int .i64 0] 41)) (w.heap.size + 1) 0 0 := by
    have := World.alloc_heap_new (w.alloc (.cells #[.int .i64 frn, .slice A ws.length c] 32)) (.cells #[.int .i64 0, .int .i64 0] 41)
    rwa [World.size_alloc] at this
  have HP := Lib.hid hP
  have HC := Lib.hid (explained_ok A At ws ts c ct frn _ (hw.step hb0) (ht.step hb0) hc hct h)
  have HB0 := Lib.hid hb0
  obtain ⟨hl, -⟩ := askOk (exOk h).1
  obtain ⟨h30, hf1, hf5, hok⟩ := laneOk hl
  have HOK := Lib.hid hok
  have HWD := Lib.hid hw
  obtain ⟨m, rfl⟩ : ∃ m : Nat, frn = (m : Int) := ⟨frn.toNat, by omega⟩
  have hm5 : m ≤ 5 := by omega
  rw [Int.toNat_natCast]
  clear h hl hok hb0 hP
  generalize offT ts = o at HC ⊢
  go_enter Try.func26, Try.ntmps26
  go_wp2_with fail
  generalize ((w.alloc (.cells #[.int .i64 (m : Int), .slice A ws.length c] 32)).alloc (.cells #[.int .i64 0, .int .i64 0] 41)) = W0 at k0 k1 HC HB0 HP ⊢
  refine HC.out.mono ?_
  rintro e w1 ⟨p, b, rfl, hp1, hp2, hb1, hWat, hbw⟩
  have hb2 : Below w1.heap.size w1 (w1.alloc (.cells #[.bool (o 0), .bool (o 1), .bool (o 2), .bool (o 3)] 92)) := (Below.refl _ _).alloc (Nat.le_refl _) _
  have HO : Hid (B4 (w1.alloc (.cells #[.bool (o 0), .bool (o 1), .bool (o 2), .bool (o 3)] 92)) w1.heap.size o) := B4.new w1 _ _ _ _ _ ⟨rfl, rfl, rfl, rfl⟩
  have HWA := Lib.hid (hWat.step hb2 hbw.size)
  have HP1 := Lib.hid ((HP.out.below hbw).below hb2)
  have HB2 : Hid (Below w.heap.size w (w1.alloc (.cells #[.bool (o 0), .bool (o 1), .bool (o 2), .bool (o 3)] 92))) := (HB0.out.trans (hbw.mono HB0.out.size)).alloc (Nat.le_trans HB0.out.size hbw.size) _
  have k2 := HWA.out.cn
  have hpl := HP.out.lt
  have hs0 := HB0.out.size
  have hs1 := hbw.size
  clear hWat hbw hb2
  go_wp2_with fail
  generalize hw2 : w1.alloc (.cells #[.bool (o 0), .bool (o 1), .bool (o 2), .bool (o 3)] 92) = w2 at HO HWA HP1 HB2 k2 ⊢
  have hp3 : p < w2.heap.size := World.block_lt_of_cell? w2 _ k2
  obtain ⟨g8, hg8⟩ : ∃ g, g = w1.heap.size := ⟨_, rfl⟩
  rw [← hg8] at HO ⊢
  have hg8' : w.heap.size + 1 < g8 := by omega
  have hs2 : W0.heap.size ≤ w2.heap.size := by have := HO.out.lt; omega
  clear hw2 hg8
  obtain ⟨i0, hi, hz0, hz1, hz2⟩ := info_parts infoRg
  have hpp : w.heap.size + 1 < p := by omega
  have hbp : w.heap.size + 1 < b := by omega
  go_loopw [28, 4] (fun i v wr => ∃ k : Nat, k ≤ m ∧ i = .int .i64 k ∧ OwnR w2.heap.size wr v (rangesL ws o k) ∧ P2 wr (w.heap.size + 1) (cntLo ws o k) (cntHi ws o k) ∧ w2.grownBy wr (some (w.heap.size + 1))) (fun i _ _ => m - (intOf i).toNat)
  case atStart => exact ⟨0, by omega, rfl, World.ownsRow_nil _ _ _ _, HP1.out, World.grownBy.refl _ _⟩
  case round =>
    obtain ⟨k, hk, rfl, hO, hPk, hgr⟩ := hrel
    have HOR := Lib.hid hO
    have HPk := Lib.hid hPk
    have HGr := Lib.hid hgr
    have hzr := hgr.size
    have hB4 : B4 wr g8 o := (hgr.block g8 HO.out.lt (fun e => by injection e with e; omega)).trans HO.out
    have hW2 : Wat w.heap.size w2 p b 1 (m : Int) A c ws := ⟨HWA.out.cn, HWA.out.cl, HWA.out.cm, HWD.out.below HB2.out, HWA.out.kn⟩
    have hWr := hW2.grown hgr (by omega) (by omega) (by omega)
    have hcb := cnt_bd ws o k
    have hrl : (rangesL ws o k).length ≤ 10 := by rw [rangesL_len]; omega
    have hgl := HPk.out.lt
    have HCN : Hid (cntLo ws o (k + 1) = cntLo ws o k + 10 - hiS (snds (gamesL ws (k : Int) o)) ∧ cntHi ws o (k + 1) = cntHi ws o k + 10 - loS (snds (gamesL ws (k : Int) o))) := ⟨rfl, rfl⟩
    have HRN : Hid (rangesL ws o (k + 1) = rangesL ws o k ++ [(loS (fsts (gamesL ws (k : Int) o)), hiS (fsts (gamesL ws (k : Int) o))), (loS (snds (gamesL ws (k : Int) o)), hiS (snds (gamesL ws (k : Int) o)))]) := rfl
    clear hO hPk hgr hW2
    by_cases h1 : k < m
    · obtain ⟨d0, d1, d2, d3, -⟩ := hB4.cells
      have hki : (k : Int) < (m : Int) := by omega
      have HF := Lib.hid (frame_c (B := wr.heap.size) p c (k : Int) (m : Int) o A ws wr (Nat.le_refl _) (by omega) hWr.cn hWr.cl (hWr.wd.more (by omega)) (by omega) HOK.out)
      have hb2 := lo_bd (snds_bd ws (k : Int) o)
      have hb3 := hi_bd (snds_bd ws (k : Int) o)
      clear hB4 hWr
      generalize loS (fsts (gamesL ws (k : Int) o)) = a1 at *
      generalize hiS (fsts (gamesL ws (k : Int) o)) = a2 at *
      generalize loS (snds (gamesL ws (k : Int) o)) = a3 at *
      generalize hiS (snds (gamesL ws (k : Int) o)) = a4 at *
      generalize ((gamesL ws (k : Int) o).length : Int) = a5 at *
      generalize rangesL ws o k = rs at *
      generalize cntLo ws o k = cl at *
      generalize cntHi ws o k = ch at *
      obtain ⟨Av, cv, rfl⟩ := OwnR.form HOR.out
      go_wp2_with fail
      refine HF.out.mono ?_
      rintro e w3 ⟨rfl, hb4⟩
      have hb5 : Below wr.heap.size wr (w3.alloc (.cells #[.int .i64 a1, .int .i64 a2, .int .i64 a3, .int .i64 a4] 100)) := hb4.alloc hb4.size _
      have hO4 : Hid ((w3.alloc (.cells #[.int .i64 a1, .int .i64 a2, .int .i64 a3, .int .i64 a4] 100)).ownsRow w2.heap.size 41 2 (.slice Av rs.length cv) rs.length (flatR rs)) := World.ownsRow.kept HOR.out (only_below hb5 none) (by cases (Value.slice Av rs.length cv).ownBlock <;> simp)
      have hSrc : Hid (Src (w3.alloc (.cells #[.int .i64 a1, .int .i64 a2, .int .i64 a3, .int .i64 a4] 100)) 2 (some ⟨w3.heap.size, 0, none⟩) 2 (flatR [(a1, a2), (a3, a4)])) := by
        refine ⟨rfl, (fun h => by cases h), fun ad hA j x hx => ?_⟩
        injection hA with hA
        subst hA
        rw [add_eq]
        have hj : j < 4 := (List.getElem?_eq_some_iff.1 hx).1
        rcases (by omega : j = 0 ∨ j = 1 ∨ j = 2 ∨ j = 3) with rfl | rfl | rfl | rfl
        all_goals
          simp [flatR] at hx
          subst hx
          simp
      have HB5 := Lib.hid hb5
      have hz5 := hb5.size
      have hz4 := hb4.size
      have HT : Hid ((w3.alloc (.cells #[.int .i64 a1, .int .i64 a2, .int .i64 a3, .int .i64 a4] 100)).heap[w3.heap.size]? = some (.cells #[.int .i64 a1, .int .i64 a2, .int .i64 a3, .int .i64 a4] 100 (0, 0))) := World.alloc_heap_new _ _
      have hz6 : w3.heap.size < (w3.alloc (.cells #[.int .i64 a1, .int .i64 a2, .int .i64 a3, .int .i64 a4] 100)).heap.size := by simp
      clear hb4 hb5 HF
      go_upto_region 8 with fail
      generalize w3.alloc (.cells #[.int .i64 a1, .int .i64 a2, .int .i64 a3, .int .i64 a4] 100) = w4 at hO4 hSrc HB5 HT hz6 hz5 ⊢
      have hobk : ∀ j, (Value.slice Av rs.length cv).ownBlock = some j → w2.heap.size ≤ j ∧ j < wr.heap.size := HOR.out.lt
      have HOBK := Lib.hid hobk
      clear hobk
      go_wp2_with (at_builtin; refine wpList_append_src rfl (.tmp 38) (.tmp 39) 39 rfl w2.heap.size 41 i0 (.agg #[.int .i64 0, .int .i64 0]) 2 16 Try.underlying39 hi hz0 hz1 hz2 rfl (by decide) (.slice Av rs.length cv) rs.length (flatR rs) rfl hO4.out (some ⟨w3.heap.size, 0, none⟩) 2 2 (flatR [(a1, a2), (a3, a4)]) rfl hSrc.out (one_flat _) (by unfold maxLen; omega) (by omega) (by omega) ?_; intro u w5 hown5 hgr5 hob5; obtain ⟨Au, cu, rfl⟩ := ownsRow_form hown5; have HO5 := Lib.hid hown5; have HG5 := Lib.hid hgr5; have HT5 : Hid (w5.heap[w3.heap.size]? = some (.cells #[.int .i64 a1, .int .i64 a2, .int .i64 a3, .int .i64 a4] 100 (0, 0))) := (hgr5.block _ hz6 (fun e => by have := (HOBK.out _ e.symm).2; omega)).trans HT.out; have HP5 : Hid (P2 w5 (w.heap.size + 1) cl ch) := (hgr5.block _ (by omega) (fun e => by have := (HOBK.out _ e.symm).1; omega)).trans (HPk.out.below HB5.out); obtain ⟨c0, c1, c2⟩ := HP5.out.cells; have f0 := c2 0; have f1 := c2 1; have t2 : w5.cell? ⟨w3.heap.size, 2, none⟩ = some (.int .i64 a3) := (by have := HT5.out; simp [World.cell?, this]); have t3 : w5.cell? ⟨w3.heap.size, 3, none⟩ = some (.int .i64 a4) := (by have := HT5.out; simp [World.cell?, this]); clear hown5 hgr5 hob5 c2)
      go_roundw
      case rel =>
        have hbw5 : Below w2.heap.size wr w5 := (HB5.out.mono hzr).grown HG5.out (by omega) (fun j e => (HOBK.out j e).1)
        have hg5 : w2.grownBy w5 (some (w.heap.size + 1)) := ⟨hbw5.os.trans HGr.out.os, hbw5.tape.trans HGr.out.tape, hbw5.output.trans HGr.out.output, Nat.le_trans HGr.out.size hbw5.size, fun j hj hne => (hbw5.block j hj).trans (HGr.out.block j hj hne)⟩
        have hso := sets2 w5 (w.heap.size + 1) (.int .i64 (cl + 10 - a4)) (.int .i64 (ch + 10 - a3))
        have ho : OwnR w2.heap.size w5 (.slice Au (rs.length + 2) cu) (rs ++ [(a1, a2), (a3, a4)]) := by
          unfold OwnR
          rw [flatR_append, List.length_append]
          exact HO5.out
        refine ⟨k + 1, by omega, by go_num, ?_, ?_, ⟨hso.os.trans hg5.os, hso.tape.trans hg5.tape, hso.output.trans hg5.output, Nat.le_trans hg5.size hso.size, fun j hj hne => (hso.block j (Nat.lt_of_lt_of_le hj hg5.size) hne).trans (hg5.block j hj hne)⟩⟩
        · rw [HRN.out]
          exact World.ownsRow.kept ho hso (.inr fun e => by have := (World.ownsRow.lt ho _ e).1; omega)
        · rw [HCN.out.1, HCN.out.2]
          exact HP5.out.set _ _
      case measure => simp [intOf]; omega
    · obtain rfl : k = m := by omega
      obtain ⟨c0, c1, c2⟩ := HPk.out.cells
      have f0 := c2 0
      have f1 := c2 1
      obtain ⟨v1, v2⟩ := HPk.out.same
      obtain ⟨Av, cv, rfl⟩ := OwnR.form HOR.out
      have HGr' : Hid (Below w.heap.size w wr) := HB2.out.grown HGr.out HB2.out.size (fun j e => by injection e with e; subst e; omega)
      clear c2 hWr hB4
      generalize rangesL ws o k = rs at *
      generalize cntLo ws o k = cl at *
      generalize cntHi ws o k = ch at *
      go_wp2_with fail
      go_region_held3 (fun w' => w'.cell? ⟨w.heap.size + 1, 0, none⟩ = some (.int .i64 cl) ∧ w'.cell? ⟨w.heap.size + 1, 1, none⟩ = some (.int .i64 ch)) (go_keep) (first | fail)
      go_wp2_with fail
      obtain ⟨r1, r2, r3⟩ := HOR.out.rgs
      exact bodyPost_ret (v := .tuple #[.slice Av rs.length cv, .agg #[.int .i64 cl, .int .i64 ch], .int .i64 0]) (by simp [results, Try.results26, go_sem, c0, c1]) rfl ⟨Av, cv, rfl, ⟨r1, r2⟩, r3.step (below_drew_r _), HGr'.out.drew⟩
end Go.Proofs.Ytadjkinpimmhkaa
