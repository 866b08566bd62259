/-
  OilNames: the walk.
-/
import Derived.Test.YtgnonfomlgkpcaaNamesM
import Derived.Test.YtgnonfomlgkpcaaPlayable
namespace Go.Proofs.Ytgnonfomlgkpcaa
open Go.RowKit
set_option linter.unusedSimpArgs false
set_option linter.unusedVariables false

theorem merge2 (F : Value → Value → World → Prop) (G : Value → Value → World → Prop) {T : Prop} (h1 : (∀ a b W, F a b W → G a b W) → T) (h2 : ∀ a b W, F a b W → G a b W) : T := h1 h2
theorem merge3 (F : Value → Value → Value → World → Prop) (G : Value → Value → Value → World → Prop) {T : Prop} (h1 : (∀ a b c W, F a b c W → G a b c W) → T) (h2 : ∀ a b c W, F a b c W → G a b c W) : T := h1 h2
/-- The lane of the chapter. -/
def IsLaid (W : World) (v : Value) : Prop := ∃ A c, v = .agg #[.slice A 3 c, .int .i64 2, .int .i64 5, .int .i64 50] ∧ (3 ≤ c ∧ c ≤ 9223372036854775807) ∧ Grd W.heap.size W A laidX
theorem IsLaid.step {W W' : World} {v : Value} (h : IsLaid W v) (hb : Below W.heap.size W W') : IsLaid W' v := by
  obtain ⟨A, c, h1, h2, h3⟩ := h
  exact ⟨A, c, h1, h2, h3.step hb⟩
theorem laid3_c (w : World) : Calls Try.prog 51 #[] w (fun e w' => ∃ v, e = .returned v ∧ IsLaid w' v ∧ Below w.heap.size w w') :=
  (laid_c w).mono fun e w' ⟨A, c, h1, h2, h3, h4⟩ => ⟨_, h1, ⟨A, c, rfl, h2, h3⟩, h4⟩
def IsRolled (W : World) (v : Value) : Prop := ∃ A c, v = .slice A 2 c ∧ (2 ≤ c ∧ c ≤ 9223372036854775807) ∧ Grd W.heap.size W A rolledX
theorem IsRolled.step {W W' : World} {v : Value} (h : IsRolled W v) (hb : Below W.heap.size W W') : IsRolled W' v := by
  obtain ⟨A, c, h1, h2, h3⟩ := h
  exact ⟨A, c, h1, h2, h3.step hb⟩
theorem rolled2_c (w : World) : Calls Try.prog 52 #[] w (fun e w' => ∃ v, e = .returned v ∧ IsRolled w' v ∧ Below w.heap.size w w') :=
  (rolled_c w).mono fun e w' ⟨v, h1, ⟨A, c, h2, h3, h4, h5⟩, h6⟩ => ⟨_, h1, ⟨A, c, h2, ⟨h3, h4⟩, h5⟩, h6⟩
theorem ints_lit3 (W : World) (a b c : Int) : Ints (W.alloc (.cells #[.int .i64 a, .int .i64 b, .int .i64 c] 3)).heap.size (W.alloc (.cells #[.int .i64 a, .int .i64 b, .int .i64 c] 3)) (some ⟨W.heap.size, 0, none⟩) [a, b, c] := by
  have h : IsInts (W.alloc (.cells #[.int .i64 a, .int .i64 b, .int .i64 c] 3)).heap.size (W.alloc (.cells #[.int .i64 a, .int .i64 b, .int .i64 c] 3)) (.slice (some ⟨W.heap.size, 0, none⟩) 3 3) [a, b, c] := ints3 (by go_simp) (by go_simp) (by go_simp)
  exact (isInts_parts h).2.2
theorem play_names_c (v vb : Value) (A' An : Option Addr) (nd : List Int) (r : Bool) (w : World) (hl : IsLaid w v) (hb : IsRolled w vb) (hx : Ints w.heap.size w A' [0, 0, 0]) (hn : Ints w.heap.size w An nd) (h3 : nd.length = 3) (hln : lineB laidX [0, 0, 0] nd = true) (hr : enB [0, 0, 0] nd (endO 50 3 rolledX 2 5 (oilOf laidX) 2) = r) :
    Calls Try.prog 34 #[v, vb, .agg #[.slice A' 3 3, .slice An 3 3]] w (Ans w (.tuple #[.bool r, .int .i64 0])) := by
  obtain ⟨A, c, rfl, hc, hg⟩ := hl
  obtain ⟨Ab, cb, rfl, hcb, hgb⟩ := hb
  have h := playable_ok A Ab A' An laidX rolledX [0, 0, 0] nd c cb 3 3 2 5 50 w hg hgb hx hn hc hcb ⟨by decide, by omega⟩ ⟨by omega, by omega⟩ aw_balls hln
  rw [h3] at h
  rw [← hr]
  exact h
/-- x, and a number of it. -/
def IsXs (W : World) (v : Value) (n : Nat) : Prop := ∃ A, v = .slice A n n ∧ Lns W.heap.size W A (List.replicate n nmX)
theorem IsXs.step {W W' : World} {v : Value} {n : Nat} (h : IsXs W v n) (hb : Below W.heap.size W W') : IsXs W' v n := by
  obtain ⟨A, h1, h2⟩ := h
  exact ⟨A, h1, h2.step hb⟩

theorem lns_rep (W : World) (n : Nat) (b : Nat) (A' An : Option Addr) (hb : b < W.heap.size) (hc : ∀ k, k < n → W.cell? ⟨b, k * 2, none⟩ = some (.slice A' 3 3) ∧ W.cell? ⟨b, k * 2 + 1, none⟩ = some (.slice An 3 3)) (hx : Ints W.heap.size W A' [0, 0, 0]) (hn : Ints W.heap.size W An [25, 0, 0]) : Lns W.heap.size W (some ⟨b, 0, none⟩) (List.replicate n nmX) := fun _ => by
  refine ⟨b, 0, rfl, hb, fun k hk => ?_⟩
  have hk2 : k < n := by simpa using hk
  obtain ⟨a1, a2⟩ := hc k hk2
  have e : lx (List.replicate n nmX) k = nmX := by
    unfold lx
    rw [List.getD_eq_getElem?_getD, List.getElem?_replicate, if_pos hk2]
    rfl
  rw [e, Nat.zero_add]
  exact ⟨_, _, a1, a2, ⟨A', 3, rfl, by decide, by decide, hx⟩, ⟨An, 3, rfl, by decide, by decide, hn⟩⟩
/-- x in n places, just laid. -/
def xsCells (A' An : Option Addr) : Nat → List Value
  | 0 => []
  | n + 1 => [.slice A' 3 3, .slice An 3 3] ++ xsCells A' An n
theorem isXs_new (W : World) (A' An : Option Addr) (n : Nat) (hn4 : n ≤ 4) (hx : Ints W.heap.size W A' [0, 0, 0]) (hn : Ints W.heap.size W An [25, 0, 0]) : IsXs (W.alloc (.cells (xsCells A' An n).toArray 60)) (.slice (some ⟨W.heap.size, 0, none⟩) n n) n := by
  have hb : Below W.heap.size W (W.alloc (.cells (xsCells A' An n).toArray 60)) := (Below.refl _ _).alloc (Nat.le_refl _) _
  refine ⟨_, rfl, lns_rep _ n W.heap.size A' An (by simp) (fun k hk => ?_) (hx.step hb) (hn.step hb)⟩
  rcases (by omega : n = 0 ∨ n = 1 ∨ n = 2 ∨ n = 3 ∨ n = 4) with rfl | rfl | rfl | rfl | rfl <;> rcases (by omega : k = 0 ∨ k = 1 ∨ k = 2 ∨ k = 3) with rfl | rfl | rfl | rfl <;> first | omega | (simp only [xsCells, List.cons_append, List.nil_append]; exact ⟨by go_simp, by go_simp⟩)
theorem plan_names_c (v vx : Value) (n : Nat) (q : List Int) (w : World) (hl : IsLaid w v) (hx : IsXs w vx n) (hn : n ≤ 4) (hb : blockErr laidX 2 5 50 (List.replicate n nmX) = 0) (hp : planB laidX 2 5 50 (List.replicate n nmX) = some q) :
    Calls Try.prog 46 #[v, vx] w (PlanS w q (.int .i64 0)) := by
  obtain ⟨A, c, rfl, hc, hg⟩ := hl
  obtain ⟨A', rfl, hx⟩ := hx
  have h := plan_some A A' laidX (List.replicate n nmX) c n 2 5 50 w hg hx hc (by rw [List.length_replicate]; omega) hb hp
  rw [List.length_replicate] at h
  exact h
theorem prove_names_c (v vx : Value) (n : Nat) (Ap : Option Addr) (y : Int) (r : Bool) (w : World) (hl : IsLaid w v) (hx : IsXs w vx n) (hn : n ≤ 4) (hp : Ints w.heap.size w Ap [y]) (hr : provePlan laidX 2 5 50 (List.replicate n nmX) [y] = r) :
    Calls Try.prog 41 #[v, vx, .slice Ap 1 1] w (Ans w (.bool r)) := by
  obtain ⟨A, c, rfl, hc, hg⟩ := hl
  obtain ⟨A', rfl, hx⟩ := hx
  have h := provePlan_c A A' Ap laidX (List.replicate n nmX) [y] c n 1 2 5 50 w hg hx hp hc (by rw [List.length_replicate]; omega) ⟨by simp, by omega⟩ (by simp)
  rw [List.length_replicate, hr] at h
  exact h

def IsOne (W : World) (v : Value) (y : Int) : Prop := ∃ A, v = .slice A 1 1 ∧ Ints W.heap.size W A [y]
theorem IsOne.step {W W' : World} {v : Value} {y : Int} (h : IsOne W v y) (hb : Below W.heap.size W W') : IsOne W' v y := by
  obtain ⟨A, h1, h2⟩ := h
  exact ⟨A, h1, h2.step hb⟩
theorem isOne_new (W : World) (y : Int) : IsOne (W.alloc (.cells #[.int .i64 y] 3)) (.slice (some ⟨W.heap.size, 0, none⟩) 1 1) y := by
  refine ⟨_, rfl, fun _ => ⟨W.heap.size, 0, rfl, by simp, fun k hk => ?_⟩⟩
  obtain rfl : k = 0 := by simp at hk; omega
  simp [ix]
theorem names_ints_c (A A' : Option Addr) (y : Int) (c : Nat) (w : World) (hx : Ints w.heap.size w A [y]) (hy : Ints w.heap.size w A' [y]) (hc : [y].length ≤ c ∧ c ≤ 9223372036854775807) :
    Calls Try.prog 30 #[.slice A 1 c, .slice A' 1 1] w (Ans w (.bool true)) := by
  have h := intsA_c A A' [y] [y] c 1 w hx hy hc ⟨by simp, by omega⟩
  rwa [show eqB [y] [y] = true from by simp [eqB]] at h
theorem IsXs.of {W : World} {v : Value} {n : Nat} (h : IsXs W v n) : IsXs W v n := h

def IsRow (W : World) (v : Value) (xs : List Int) : Prop := ∃ A, v = .slice A xs.length xs.length ∧ Ints W.heap.size W A xs
theorem IsRow.step {W W' : World} {v : Value} {xs : List Int} (h : IsRow W v xs) (hb : Below W.heap.size W W') : IsRow W' v xs := by
  obtain ⟨A, h1, h2⟩ := h
  exact ⟨A, h1, h2.step hb⟩
def IsRows (W : World) (v : Value) (xss : List (List Int)) : Prop := ∃ A, v = .slice A xss.length xss.length ∧ Grd W.heap.size W A xss
theorem IsRows.step {W W' : World} {v : Value} {xss : List (List Int)} (h : IsRows W v xss) (hb : Below W.heap.size W W') : IsRows W' v xss := by
  obtain ⟨A, h1, h2⟩ := h
  exact ⟨A, h1, h2.step hb⟩
theorem isRow_new (W : World) (a b c : Int) : IsRow (W.alloc (.cells #[.int .i64 a, .int .i64 b, .int .i64 c] 3)) (.slice (some ⟨W.heap.size, 0, none⟩) 3 3) [a, b, c] := ⟨_, rfl, ints_lit3 W a b c⟩
theorem isRows_new (W : World) (u : Value) (xs : List Int) (h : IsRow W u xs) (hx : xs.length ≤ 100) : IsRows (W.alloc (.cells #[u] 45)) (.slice (some ⟨W.heap.size, 0, none⟩) 1 1) [xs] := by
  have hb : Below W.heap.size W (W.alloc (.cells #[u] 45)) := (Below.refl _ _).alloc (Nat.le_refl _) _
  obtain ⟨A, rfl, hi⟩ := h.step hb
  refine ⟨_, rfl, fun _ => ⟨W.heap.size, 0, rfl, by simp, fun k hk => ?_⟩⟩
  obtain rfl : k = 0 := by simp at hk; omega
  exact ⟨.slice A xs.length xs.length, by simp, ⟨A, xs.length, rfl, Nat.le_refl _, by omega, hi⟩⟩
theorem ints_two (W : World) (a b : Int) : Ints (W.alloc (.cells #[.int .i64 a, .int .i64 b] 3)).heap.size (W.alloc (.cells #[.int .i64 a, .int .i64 b] 3)) (some ⟨W.heap.size, 0, none⟩) [a, b] := fun _ => ⟨W.heap.size, 0, rfl, by simp, fun k hk => by
  rcases (by simp at hk; omega : k = 0 ∨ k = 1) with rfl | rfl <;> simp [ix]⟩
theorem lns_one (W : World) (q : Nat) (hq : W.heap.size = q) (A' : Option Addr) (hx : Ints W.heap.size W A' [0, 0, 0]) : Lns ((W.alloc (.cells #[.int .i64 31, .int .i64 0, .int .i64 0] 3)).alloc (.cells #[.slice A' 3 3, .slice (some ⟨q, 0, none⟩) 3 3] 60)).heap.size ((W.alloc (.cells #[.int .i64 31, .int .i64 0, .int .i64 0] 3)).alloc (.cells #[.slice A' 3 3, .slice (some ⟨q, 0, none⟩) 3 3] 60)) (some ⟨q + 1, 0, none⟩) [([0, 0, 0], [31, 0, 0])] := fun _ => by
  subst hq
  have hb : Below W.heap.size W ((W.alloc (.cells #[.int .i64 31, .int .i64 0, .int .i64 0] 3)).alloc (.cells #[.slice A' 3 3, .slice (some ⟨W.heap.size, 0, none⟩) 3 3] 60)) := ((Below.refl _ _).alloc (Nat.le_refl _) _).alloc (by simp) _
  refine ⟨_, 0, rfl, by simp, fun k hk => ?_⟩
  obtain rfl : k = 0 := by simp at hk; omega
  exact ⟨.slice A' 3 3, .slice (some ⟨W.heap.size, 0, none⟩) 3 3, by go_simp, by go_simp, ⟨A', 3, rfl, by decide, by decide, hx.step hb⟩, ⟨_, 3, rfl, by decide, by decide, (ints_lit3 W 31 0 0).step ((Below.refl _ _).alloc (Nat.le_refl _) _)⟩⟩
theorem isNils_new (W : World) (n : Nat) (hn : n ≤ 1000) : IsRows (W.alloc (.cells (Array.replicate n (.slice none 0 0)) 45)) (.slice (some ⟨W.heap.size, 0, none⟩) n n) (List.replicate n []) := by
  have hz : (List.replicate n ([] : List Int)).length = n := List.length_replicate
  refine ⟨some ⟨W.heap.size, 0, none⟩, by rw [hz], fun _ => ⟨W.heap.size, 0, rfl, by simp, fun k hk => ?_⟩⟩
  rw [hz] at hk
  have h := World.alloc_heap_new W (.cells (Array.replicate n (.slice none 0 0)) 45)
  have e : rx (List.replicate n ([] : List Int)) k = [] := by
    unfold rx
    rw [List.getD_eq_getElem?_getD, List.getElem?_replicate, if_pos hk]
    rfl
  rw [e]
  refine ⟨.slice none 0 0, ?_, none, 0, rfl, Nat.le_refl _, by omega, fun hp => by simp at hp⟩
  have e2 : (Array.replicate n (Value.slice none 0 0))[k]? = some (.slice none 0 0) := by rw [Array.getElem?_replicate, if_pos hk]
  rw [Nat.zero_add]
  simp only [World.cell?, h]
  exact e2
theorem playn_c (v vb vw : Value) (wss : List (List Int)) (w : World) (hl : IsLaid w v) (hb : IsRolled w vb) (hw : IsRows w vw wss) (hn : wss.length ≤ 100) (he : playErr laidX 2 5 50 rolledX wss = 2) : Calls Try.prog 20 #[v, vb, vw] w (Ans w (.tuple #[.slice none 0 0, .int .i64 2])) := by
  obtain ⟨A, c, rfl, hc, hg⟩ := hl
  obtain ⟨Ab, cb, rfl, hcb, hgb⟩ := hb
  obtain ⟨Aw, rfl, hgw⟩ := hw
  have h := play_bad_c A Ab Aw laidX rolledX wss c cb wss.length 2 5 50 w hg hgb hgw hc hcb ⟨Nat.le_refl _, by omega⟩ (by rw [he]; decide)
  rw [he] at h
  exact h
theorem playbad_c (v vb : Value) (A' An : Option Addr) (nd : List Int) (bss : List (List Int)) (e : Int) (w : World) (hl : IsLaid w v) (hb : IsRows w vb bss) (hx : Ints w.heap.size w A' [0, 0, 0]) (hn : Ints w.heap.size w An nd) (h3 : nd.length = 3) (hbn : bss.length ≤ 100) (he : ballsErr laidX 2 5 50 bss = e) (he0 : e ≠ 0) :
    Calls Try.prog 34 #[v, vb, .agg #[.slice A' 3 3, .slice An 3 3]] w (Ans w (.tuple #[.bool false, .int .i64 e])) := by
  obtain ⟨A, c, rfl, hc, hg⟩ := hl
  obtain ⟨Ab, rfl, hgb⟩ := hb
  have h := playable_bad1 A Ab A' An laidX bss [0, 0, 0] nd c bss.length 3 3 2 5 50 w hg hgb hx hn hc ⟨Nat.le_refl _, by omega⟩ (by rw [he]; exact he0)
  rw [h3, he] at h
  exact h
theorem lastsbad_c (v : Value) (A' An : Option Addr) (nd : List Int) (n : Nat) (w : World) (hl : IsLaid w v) (hx : Ints w.heap.size w A' [0, 0, 0]) (hn : Ints w.heap.size w An nd) (h3 : nd.length = n) (hn9 : n ≤ 100) (he : lastsErr laidX 2 5 50 [0, 0, 0] nd = 2) :
    Calls Try.prog 36 #[v, .agg #[.slice A' 3 3, .slice An n n]] w (Ans w (.tuple #[.int .i64 0, .int .i64 2])) := by
  obtain ⟨A, c, rfl, hc, hg⟩ := hl
  subst h3
  refine (lasts_c A A' An laidX [0, 0, 0] nd c 3 nd.length 2 5 50 w (Nat.le_refl _) hg hx hn hc ⟨by simp, by omega⟩ ⟨Nat.le_refl _, by omega⟩).mono ?_
  rw [he]
  rintro e w' (⟨_, h1, h2⟩ | ⟨h1, _⟩)
  · exact ⟨h1, h2⟩
  · cases h1
theorem lasts0_c (v : Value) (A' An : Option Addr) (w : World) (hl : IsLaid w v) (hx : Ints w.heap.size w A' [0, 0, 0]) (hn : Ints w.heap.size w An [31, 0, 0]) :
    Calls Try.prog 36 #[v, .agg #[.slice A' 3 3, .slice An 3 3]] w (Ans w (.tuple #[.int .i64 0, .int .i64 0])) := by
  obtain ⟨A, c, rfl, hc, hg⟩ := hl
  refine (lasts_c A A' An laidX [0, 0, 0] [31, 0, 0] c 3 3 2 5 50 w (Nat.le_refl _) hg hx hn hc ⟨by simp, by omega⟩ ⟨by simp, by omega⟩).mono ?_
  rw [nm_g1, nm_g2]
  rintro e w' (⟨h1, _⟩ | ⟨_, h1, h2⟩)
  · exact absurd rfl h1
  · exact ⟨h1, h2⟩
theorem plan0_c (v : Value) (g : Nat) (An : Option Addr) (w : World) (hl : IsLaid w v) (hx : Lns w.heap.size w (some ⟨g, 0, none⟩) [([0, 0, 0], [31, 0, 0])]) :
    Calls Try.prog 46 #[v, .slice (some ⟨g, 0, none⟩) 1 1] w (Ans w (.tuple #[.slice none 0 0, .int .i64 9])) := by
  obtain ⟨A, c, rfl, hc, hg⟩ := hl
  exact plan_none_c A _ laidX [([0, 0, 0], [31, 0, 0])] c 1 2 5 50 w hg hx hc ⟨by simp, by omega⟩ nm_e6 nm_e7

def Fz (W : World) (g : Nat) : Prop := g < W.heap.size ∧ ∀ o, W.frozen? ⟨g, o, none⟩ = false
theorem Fz.step {W W' : World} {g : Nat} (h : Fz W g) (hb : Below W.heap.size W W') : Fz W' g := ⟨Nat.lt_of_lt_of_le h.1 hb.size, fun o => by
  have := h.2 o
  simp only [World.frozen?] at this ⊢
  rw [hb.block g h.1]
  exact this⟩
def LaidF (w : World) (e : Ending) (w' : World) : Prop := ∃ g a b c : Nat, e = .returned (.agg #[.slice (some ⟨g, 0, none⟩) 3 3, .int .i64 2, .int .i64 5, .int .i64 50]) ∧ (a ≠ g ∧ b ≠ g ∧ c ≠ g) ∧ w.heap.size ≤ g ∧ (w'.cell? ⟨g, 0, none⟩ = some (.slice (some ⟨a, 0, none⟩) 3 3) ∧ w'.cell? ⟨g, 1, none⟩ = some (.slice (some ⟨b, 0, none⟩) 3 3) ∧ w'.cell? ⟨g, 2, none⟩ = some (.slice (some ⟨c, 0, none⟩) 3 3)) ∧
  (Ints w'.heap.size w' (some ⟨a, 0, none⟩) [30, 20, 10] ∧ Ints w'.heap.size w' (some ⟨b, 0, none⟩) [10, 20, 30] ∧ Ints w'.heap.size w' (some ⟨c, 0, none⟩) [5, 5, 5]) ∧ Fz w' g ∧ Below w.heap.size w w'
set_option maxHeartbeats 2000000 in
theorem laidF_c (w : World) : Calls Try.prog 51 #[] w (LaidF w) := by
  go_enter Try.func51, Try.ntmps51
  go_wp2_with fail
  refine bodyPost_ret (v := .agg #[.slice (some ⟨w.heap.size + 4, 0, none⟩) 3 3, .int .i64 2, .int .i64 5, .int .i64 50]) (by simp [results, Try.results51, go_sem]) rfl ⟨w.heap.size + 4, w.heap.size + 1, w.heap.size + 2, w.heap.size + 3, rfl, ⟨by omega, by omega, by omega⟩, by omega, ⟨by go_simp, by go_simp, by go_simp⟩, ⟨(isInts_parts (ints3 (by go_simp) (by go_simp) (by go_simp))).2.2, (isInts_parts (ints3 (by go_simp) (by go_simp) (by go_simp))).2.2, (isInts_parts (ints3 (by go_simp) (by go_simp) (by go_simp))).2.2⟩, ⟨by simp, fun o => ?_⟩, ?_⟩
  · go_simp
    first | done | simp [World.frozen?] | (simp only [World.frozen?]; rw [Array.getElem?_eq_none (by omega)])
  · repeat (first | exact Below.refl _ _ | refine Below.setCell ?_ (by dsimp only; omega) _ | refine Below.alloc ?_ (by first | exact Nat.le_refl _ | (simp only [World.size_alloc]; omega)) _)
theorem checkN_c (A : Option Addr) (xss : List (List Int)) (n c : Nat) (lo hi e : Int) (w : World) (hn : xss.length = n) (hr : Grd w.heap.size w A xss) (hc : n ≤ c ∧ c ≤ 9223372036854775807) (he : laneErr xss lo hi 50 = e) :
    Calls Try.prog 18 #[.agg #[.slice A n c, .int .i64 lo, .int .i64 hi, .int .i64 50]] w (Ans w (.int .i64 e)) := by
  subst hn
  rw [← he]
  exact checkLane_c A xss c lo hi 50 w (Nat.le_refl _) hr hc
theorem Ints.far {w : World} {b : Nat} {xs : List Int} (h : Ints w.heap.size w (some ⟨b, 0, none⟩) xs) {p : Addr} (hp : p.block ≠ b) (v : Value) : Ints (w.setCell p v).heap.size (w.setCell p v) (some ⟨b, 0, none⟩) xs := fun h0 => by
  obtain ⟨b', o', e, hb, hc⟩ := h h0
  injection e with e
  injection e with e1 e2 _
  subst e1 e2
  exact ⟨b, 0, rfl, by simpa using hb, fun k hk => cell_set_keep (hc k hk) hp⟩
theorem isInts_of {w : World} {A : Option Addr} {xs : List Int} (n c : Nat) (hn : xs.length = n) (hc : n ≤ c ∧ c ≤ 9223372036854775807) (h : Ints w.heap.size w A xs) : IsInts w.heap.size w (.slice A n c) xs := by
  subst hn
  exact ⟨A, c, rfl, hc.1, hc.2, h⟩
theorem Ints.pre {w : World} {A : Option Addr} {a b c : Int} (h : Ints w.heap.size w A [a, b, c]) : Ints w.heap.size w A [a, b] := fun _ => by
  obtain ⟨b', o', e, hb, hc⟩ := h (by simp)
  refine ⟨b', o', e, hb, fun k hk => ?_⟩
  rw [hc k (by simp at hk ⊢; omega)]
  rcases (by simp at hk; omega : k = 0 ∨ k = 1) with rfl | rfl <;> simp [ix]

set_option maxRecDepth 100000 in
set_option maxHeartbeats 32000000 in
theorem oilNames_c (w : World) : Calls Try.prog 14 #[] w (Ans w (.bool true)) := by
  have HB : Hid (Below w.heap.size w w) := Below.refl _ _
  go_enter Try.func14, Try.ntmps14
  go_upto_region 2 with fail
  have hb : Below w.heap.size w (w.alloc (.cells #[.int .i64 0, .int .i64 0, .int .i64 0] 3)) := (Below.refl _ _).alloc (Nat.le_refl _) _
  have HX := Lib.hid (ints_lit3 w 0 0 0)
  replace HB := Lib.hid (HB.out.trans (hb.mono HB.out.size))
  clear hb
  generalize (w.alloc (.cells #[.int .i64 0, .int .i64 0, .int .i64 0] 3)) = W1 at *
  skip
  go_wp2_with fail
  refine (laid3_c _).mono ?_
  rintro e waa ⟨vl, rfl, hl, hb⟩
  replace HX := Lib.hid (HX.out.step hb)
  replace HB := Lib.hid (HB.out.trans (hb.mono HB.out.size))
  clear hb
  have Hhl := Lib.hid hl
  clear hl
  go_wp2_with fail
  refine (rolled2_c _).mono ?_
  rintro e wab ⟨vr, rfl, hr, hb⟩
  replace HX := Lib.hid (HX.out.step hb)
  replace Hhl := Lib.hid (Hhl.out.step hb)
  replace HB := Lib.hid (HB.out.trans (hb.mono HB.out.size))
  clear hb
  have Hhr := Lib.hid hr
  clear hr
  obtain ⟨Al, cl, hvl, _⟩ := Hhl.out
  obtain ⟨Ar, cr, hvr, _⟩ := Hhr.out
  subst hvl hvr
  go_wp2_with fail
  have hb : Below wab.heap.size wab (wab.alloc (.cells #[.int .i64 20, .int .i64 6, .int .i64 5] 3)) := (Below.refl _ _).alloc (Nat.le_refl _) _
  have HN := Lib.hid (ints_lit3 wab 20 6 5)
  replace HX := Lib.hid (HX.out.step hb)
  replace Hhl := Lib.hid (Hhl.out.step hb)
  replace Hhr := Lib.hid (Hhr.out.step hb)
  replace HB := Lib.hid (HB.out.trans (hb.mono HB.out.size))
  clear hb
  generalize (wab.alloc (.cells #[.int .i64 20, .int .i64 6, .int .i64 5] 3)) = wac at *
  refine (play_names_c _ _ _ _ [20, 6, 5] _ _ Hhl.out Hhr.out HX.out HN.out rfl nm_l1 nm_p1).mono ?_
  rintro e wad ⟨rfl, hb⟩
  replace HX := Lib.hid (HX.out.step hb)
  replace Hhl := Lib.hid (Hhl.out.step hb)
  replace Hhr := Lib.hid (Hhr.out.step hb)
  replace HN := Lib.hid (HN.out.step hb)
  replace HB := Lib.hid (HB.out.trans (hb.mono HB.out.size))
  clear hb
  clear Hhl Hhr HN
  go_wp2_with fail
  refine (laid3_c _).mono ?_
  rintro e wba ⟨vl, rfl, hl, hb⟩
  replace HX := Lib.hid (HX.out.step hb)
  replace HB := Lib.hid (HB.out.trans (hb.mono HB.out.size))
  clear hb
  have Hhl := Lib.hid hl
  clear hl
  go_wp2_with fail
  refine (rolled2_c _).mono ?_
  rintro e wbb ⟨vr, rfl, hr, hb⟩
  replace HX := Lib.hid (HX.out.step hb)
  replace Hhl := Lib.hid (Hhl.out.step hb)
  replace HB := Lib.hid (HB.out.trans (hb.mono HB.out.size))
  clear hb
  have Hhr := Lib.hid hr
  clear hr
  obtain ⟨Al, cl, hvl, _⟩ := Hhl.out
  obtain ⟨Ar, cr, hvr, _⟩ := Hhr.out
  subst hvl hvr
  go_wp2_with fail
  have hb : Below wbb.heap.size wbb (wbb.alloc (.cells #[.int .i64 21, .int .i64 6, .int .i64 5] 3)) := (Below.refl _ _).alloc (Nat.le_refl _) _
  have HN := Lib.hid (ints_lit3 wbb 21 6 5)
  replace HX := Lib.hid (HX.out.step hb)
  replace Hhl := Lib.hid (Hhl.out.step hb)
  replace Hhr := Lib.hid (Hhr.out.step hb)
  replace HB := Lib.hid (HB.out.trans (hb.mono HB.out.size))
  clear hb
  generalize (wbb.alloc (.cells #[.int .i64 21, .int .i64 6, .int .i64 5] 3)) = wbc at *
  refine (play_names_c _ _ _ _ [21, 6, 5] _ _ Hhl.out Hhr.out HX.out HN.out rfl nm_l2 nm_p2).mono ?_
  rintro e wbd ⟨rfl, hb⟩
  replace HX := Lib.hid (HX.out.step hb)
  replace Hhl := Lib.hid (Hhl.out.step hb)
  replace Hhr := Lib.hid (Hhr.out.step hb)
  replace HN := Lib.hid (HN.out.step hb)
  replace HB := Lib.hid (HB.out.trans (hb.mono HB.out.size))
  clear hb
  clear Hhl Hhr HN
  go_upto_region 5 with fail
  have hb : Below wbd.heap.size wbd ((wbd.alloc (.cells #[.int .i64 25, .int .i64 0, .int .i64 0] 3)).alloc (.cells #[.slice (some ⟨w.heap.size, 0, none⟩) 3 3, .slice (some ⟨wbd.heap.size, 0, none⟩) 3 3] 60)) := ((Below.refl _ _).alloc (Nat.le_refl _) _).alloc (by simp) _
  have HN : Hid (Ints ((wbd.alloc (.cells #[.int .i64 25, .int .i64 0, .int .i64 0] 3)).alloc (.cells #[.slice (some ⟨w.heap.size, 0, none⟩) 3 3, .slice (some ⟨wbd.heap.size, 0, none⟩) 3 3] 60)).heap.size ((wbd.alloc (.cells #[.int .i64 25, .int .i64 0, .int .i64 0] 3)).alloc (.cells #[.slice (some ⟨w.heap.size, 0, none⟩) 3 3, .slice (some ⟨wbd.heap.size, 0, none⟩) 3 3] 60)) (some ⟨wbd.heap.size, 0, none⟩) [25, 0, 0]) := (ints_lit3 wbd 25 0 0).step ((Below.refl _ _).alloc (Nat.le_refl _) _)
  have k0 : ((wbd.alloc (.cells #[.int .i64 25, .int .i64 0, .int .i64 0] 3)).alloc (.cells #[.slice (some ⟨w.heap.size, 0, none⟩) 3 3, .slice (some ⟨wbd.heap.size, 0, none⟩) 3 3] 60)).cell? ⟨wbd.heap.size + 1, 0, none⟩ = some (.slice (some ⟨w.heap.size, 0, none⟩) 3 3) := by go_simp
  have k1 : ((wbd.alloc (.cells #[.int .i64 25, .int .i64 0, .int .i64 0] 3)).alloc (.cells #[.slice (some ⟨w.heap.size, 0, none⟩) 3 3, .slice (some ⟨wbd.heap.size, 0, none⟩) 3 3] 60)).cell? ⟨wbd.heap.size + 1, 1, none⟩ = some (.slice (some ⟨wbd.heap.size, 0, none⟩) 3 3) := by go_simp
  replace HX := Lib.hid (HX.out.step hb)
  replace HB := Lib.hid (HB.out.trans (hb.mono HB.out.size))
  clear hb
  generalize ((wbd.alloc (.cells #[.int .i64 25, .int .i64 0, .int .i64 0] 3)).alloc (.cells #[.slice (some ⟨w.heap.size, 0, none⟩) 3 3, .slice (some ⟨wbd.heap.size, 0, none⟩) 3 3] 60)) = W5 at *
  generalize wbd.heap.size = bn at *
  go_wp2_with fail
  refine wp_region_noPanic ?_
  have hS : (fun w' : World => w'.cell? ⟨bn + 1, 0, none⟩ = some (.slice (some ⟨w.heap.size, 0, none⟩) 3 3) ∧ w'.cell? ⟨bn + 1, 1, none⟩ = some (.slice (some ⟨bn, 0, none⟩) 3 3)) W5.drew := ⟨k0, k1⟩
  refine wp_region_any (by kernel_rfl) (wpAny_of_T (S := fun w' : World => w'.cell? ⟨bn + 1, 0, none⟩ = some (.slice (some ⟨w.heap.size, 0, none⟩) 3 3) ∧ w'.cell? ⟨bn + 1, 1, none⟩ = some (.slice (some ⟨bn, 0, none⟩) 3 3)) (m := 11) _ _ _ _ ?_)
  have hd : Below W5.heap.size W5 W5.drew := (Below.refl _ _).drew
  replace HX := Lib.hid (HX.out.step hd)
  replace HN := Lib.hid (HN.out.step hd)
  replace HB := Lib.hid (HB.out.trans (hd.mono HB.out.size))
  clear hd k0 k1
  refine' T_take (i := 1) (v := _) rfl (by kernel_rfl) (by kernel_rfl) (by kernel_rfl) (by kernel_rfl) (fun _ _ _ h => h) (by kernel_rfl) hS ?_ ?_
  rotate_left 1
  · intro Wv hW
    obtain ⟨s0, s1⟩ := hW
    go_simp
    first | done | with_reducible rfl
  try simp only [Act.put, List.setIfInBounds_toArray, List.set_cons_zero, List.set_cons_succ]
  refine' T_take (i := 2) (v := _) rfl (by kernel_rfl) (by kernel_rfl) (by kernel_rfl) (by kernel_rfl) (fun _ _ _ h => h) (by kernel_rfl) hS ?_ ?_
  rotate_left 1
  · intro Wv hW
    obtain ⟨s0, s1⟩ := hW
    go_simp
    first | done | with_reducible rfl
  try simp only [Act.put, List.setIfInBounds_toArray, List.set_cons_zero, List.set_cons_succ]
  refine' T_take (i := 3) (v := _) rfl (by kernel_rfl) (by kernel_rfl) (by kernel_rfl) (by kernel_rfl) (fun _ _ _ h => h) (by kernel_rfl) hS ?_ ?_
  rotate_left 1
  · intro Wv hW
    obtain ⟨s0, s1⟩ := hW
    go_simp
    first | done | with_reducible rfl
  try simp only [Act.put, List.setIfInBounds_toArray, List.set_cons_zero, List.set_cons_succ]
  refine' merge2 (fun u0 u4 W => IsLaid W u0 ∧ IsXs W u4 3 ∧ Below w.heap.size w W ∧ Ints W.heap.size W (some ⟨w.heap.size, 0, none⟩) [0, 0, 0] ∧ Ints W.heap.size W (some ⟨bn, 0, none⟩) [25, 0, 0] ∧ (fun w' : World => w'.cell? ⟨bn + 1, 0, none⟩ = some (.slice (some ⟨w.heap.size, 0, none⟩) 3 3) ∧ w'.cell? ⟨bn + 1, 1, none⟩ = some (.slice (some ⟨bn, 0, none⟩) 3 3)) W) _ (fun key => ?_) ?_
  rotate_left 1
  · refine T_ready (rs := [0, 4]) (by kernel_rfl) (by simp) ?_
    refine TReady.cons rfl (fun K hK => ?_) (TReady.cons rfl (fun K hK => ?_) TReady.nil)
    · try go_simp
      refine (laid3_c _).mono ?_
      rintro e wq1_w5 ⟨u0, rfl, hu0, hb⟩
      replace HX := Lib.hid (HX.out.step hb)
      replace HN := Lib.hid (HN.out.step hb)
      replace HB := Lib.hid (HB.out.trans (hb.mono HB.out.size))
      have hS2 : (fun w' : World => w'.cell? ⟨bn + 1, 0, none⟩ = some (.slice (some ⟨w.heap.size, 0, none⟩) 3 3) ∧ w'.cell? ⟨bn + 1, 1, none⟩ = some (.slice (some ⟨bn, 0, none⟩) 3 3)) wq1_w5 := ⟨cell_of_ans hb hS.1, cell_of_ans hb hS.2⟩
      clear hb
      try go_simp
      refine hK.out _ _ (fun _ => hS2) (fun hS => ?_)
      replace hS := hS (by decide)
      clear hK K hS2
      try simp only [Act.put, List.setIfInBounds_toArray, List.set_cons_zero, List.set_cons_succ]
      have HU0 := Lib.hid hu0
      clear hu0
      refine T_ready (rs := [4]) (by kernel_rfl) (by simp) ?_
      refine TReady.cons rfl (fun K hK => ?_) TReady.nil
      · have HU4 : Hid (IsXs (wq1_w5.alloc (.cells #[.slice (some ⟨w.heap.size, 0, none⟩) 3 3, .slice (some ⟨bn, 0, none⟩) 3 3, .slice (some ⟨w.heap.size, 0, none⟩) 3 3, .slice (some ⟨bn, 0, none⟩) 3 3, .slice (some ⟨w.heap.size, 0, none⟩) 3 3, .slice (some ⟨bn, 0, none⟩) 3 3] 60)) (.slice (some ⟨wq1_w5.heap.size, 0, none⟩) 3 3) 3) := isXs_new wq1_w5 _ _ 3 (by omega) HX.out HN.out
        try go_simp
        have hb : Below wq1_w5.heap.size wq1_w5 (wq1_w5.alloc (.cells #[.slice (some ⟨w.heap.size, 0, none⟩) 3 3, .slice (some ⟨bn, 0, none⟩) 3 3, .slice (some ⟨w.heap.size, 0, none⟩) 3 3, .slice (some ⟨bn, 0, none⟩) 3 3, .slice (some ⟨w.heap.size, 0, none⟩) 3 3, .slice (some ⟨bn, 0, none⟩) 3 3] 60)) := (Below.refl wq1_w5.heap.size wq1_w5).alloc (Nat.le_refl _) _
        replace HX := Lib.hid (HX.out.step hb)
        replace HN := Lib.hid (HN.out.step hb)
        replace HU0 := Lib.hid (HU0.out.step hb)
        replace HB := Lib.hid (HB.out.trans (hb.mono HB.out.size))
        have hS2 : (fun w' : World => w'.cell? ⟨bn + 1, 0, none⟩ = some (.slice (some ⟨w.heap.size, 0, none⟩) 3 3) ∧ w'.cell? ⟨bn + 1, 1, none⟩ = some (.slice (some ⟨bn, 0, none⟩) 3 3)) (wq1_w5.alloc (.cells #[.slice (some ⟨w.heap.size, 0, none⟩) 3 3, .slice (some ⟨bn, 0, none⟩) 3 3, .slice (some ⟨w.heap.size, 0, none⟩) 3 3, .slice (some ⟨bn, 0, none⟩) 3 3, .slice (some ⟨w.heap.size, 0, none⟩) 3 3, .slice (some ⟨bn, 0, none⟩) 3 3] 60)) := ⟨cell_of_ans hb hS.1, cell_of_ans hb hS.2⟩
        clear hb
        refine hK.out _ _ (fun _ => hS2) (fun hS => ?_)
        replace hS := hS (by decide)
        clear hK K hS2
        try simp only [Act.put, List.setIfInBounds_toArray, List.set_cons_zero, List.set_cons_succ]
        generalize (wq1_w5.alloc (.cells #[.slice (some ⟨w.heap.size, 0, none⟩) 3 3, .slice (some ⟨bn, 0, none⟩) 3 3, .slice (some ⟨w.heap.size, 0, none⟩) 3 3, .slice (some ⟨bn, 0, none⟩) 3 3, .slice (some ⟨w.heap.size, 0, none⟩) 3 3, .slice (some ⟨bn, 0, none⟩) 3 3] 60)) = wq2_w5 at *
        generalize (Value.slice (some ⟨wq1_w5.heap.size, 0, none⟩) 3 3) = u4 at *
        exact key u0 u4 wq2_w5 ⟨HU0.out, HU4.out, HB.out, HX.out, HN.out, hS⟩
    · have HU4 : Hid (IsXs (W5.alloc (.cells #[.slice (some ⟨w.heap.size, 0, none⟩) 3 3, .slice (some ⟨bn, 0, none⟩) 3 3, .slice (some ⟨w.heap.size, 0, none⟩) 3 3, .slice (some ⟨bn, 0, none⟩) 3 3, .slice (some ⟨w.heap.size, 0, none⟩) 3 3, .slice (some ⟨bn, 0, none⟩) 3 3] 60)).drew (.slice (some ⟨W5.heap.size, 0, none⟩) 3 3) 3) := isXs_new W5.drew _ _ 3 (by omega) HX.out HN.out
      try go_simp
      have hb : Below W5.drew.heap.size W5.drew (W5.alloc (.cells #[.slice (some ⟨w.heap.size, 0, none⟩) 3 3, .slice (some ⟨bn, 0, none⟩) 3 3, .slice (some ⟨w.heap.size, 0, none⟩) 3 3, .slice (some ⟨bn, 0, none⟩) 3 3, .slice (some ⟨w.heap.size, 0, none⟩) 3 3, .slice (some ⟨bn, 0, none⟩) 3 3] 60)).drew := (Below.refl W5.drew.heap.size W5.drew).alloc (Nat.le_refl _) _
      replace HX := Lib.hid (HX.out.step hb)
      replace HN := Lib.hid (HN.out.step hb)
      replace HB := Lib.hid (HB.out.trans (hb.mono HB.out.size))
      have hS2 : (fun w' : World => w'.cell? ⟨bn + 1, 0, none⟩ = some (.slice (some ⟨w.heap.size, 0, none⟩) 3 3) ∧ w'.cell? ⟨bn + 1, 1, none⟩ = some (.slice (some ⟨bn, 0, none⟩) 3 3)) (W5.alloc (.cells #[.slice (some ⟨w.heap.size, 0, none⟩) 3 3, .slice (some ⟨bn, 0, none⟩) 3 3, .slice (some ⟨w.heap.size, 0, none⟩) 3 3, .slice (some ⟨bn, 0, none⟩) 3 3, .slice (some ⟨w.heap.size, 0, none⟩) 3 3, .slice (some ⟨bn, 0, none⟩) 3 3] 60)).drew := ⟨cell_of_ans hb hS.1, cell_of_ans hb hS.2⟩
      clear hb
      refine hK.out _ _ (fun _ => hS2) (fun hS => ?_)
      replace hS := hS (by decide)
      clear hK K hS2
      try simp only [Act.put, List.setIfInBounds_toArray, List.set_cons_zero, List.set_cons_succ]
      generalize (W5.alloc (.cells #[.slice (some ⟨w.heap.size, 0, none⟩) 3 3, .slice (some ⟨bn, 0, none⟩) 3 3, .slice (some ⟨w.heap.size, 0, none⟩) 3 3, .slice (some ⟨bn, 0, none⟩) 3 3, .slice (some ⟨w.heap.size, 0, none⟩) 3 3, .slice (some ⟨bn, 0, none⟩) 3 3] 60)).drew = wq3_w5 at *
      generalize (Value.slice (some ⟨W5.heap.size, 0, none⟩) 3 3) = u4 at *
      refine T_ready (rs := [0]) (by kernel_rfl) (by simp) ?_
      refine TReady.cons rfl (fun K hK => ?_) TReady.nil
      · try go_simp
        refine (laid3_c _).mono ?_
        rintro e wq4_w5 ⟨u0, rfl, hu0, hb⟩
        replace HX := Lib.hid (HX.out.step hb)
        replace HN := Lib.hid (HN.out.step hb)
        replace HU4 := Lib.hid (HU4.out.step hb)
        replace HB := Lib.hid (HB.out.trans (hb.mono HB.out.size))
        have hS2 : (fun w' : World => w'.cell? ⟨bn + 1, 0, none⟩ = some (.slice (some ⟨w.heap.size, 0, none⟩) 3 3) ∧ w'.cell? ⟨bn + 1, 1, none⟩ = some (.slice (some ⟨bn, 0, none⟩) 3 3)) wq4_w5 := ⟨cell_of_ans hb hS.1, cell_of_ans hb hS.2⟩
        clear hb
        try go_simp
        refine hK.out _ _ (fun _ => hS2) (fun hS => ?_)
        replace hS := hS (by decide)
        clear hK K hS2
        try simp only [Act.put, List.setIfInBounds_toArray, List.set_cons_zero, List.set_cons_succ]
        have HU0 := Lib.hid hu0
        clear hu0
        exact key u0 u4 wq4_w5 ⟨HU0.out, HU4.out, HB.out, HX.out, HN.out, hS⟩
  clear HB HX HN  hS
  intro u0 u4 wq21_w5 ⟨hu0, hu4, hB, hX, hN, hS⟩
  have HB := Lib.hid hB
  have HX := Lib.hid hX
  have HN := Lib.hid hN
  have HU0 := Lib.hid hu0
  have HU4 := Lib.hid hu4
  clear hB hX hN hu0 hu4
  refine T_ready (rs := [5]) (by kernel_rfl) (by simp) ?_
  refine TReady.cons rfl (fun K hK => ?_) TReady.nil
  try go_simp
  refine (plan_names_c _ _ 3 [1] _ HU0.out HU4.out (by omega) nm_b3 nm_q3).mono ?_
  rintro e wq22_w5 ⟨A1, c1, rfl, hc1, p1, hb⟩
  replace HX := Lib.hid (HX.out.step hb)
  replace HN := Lib.hid (HN.out.step hb)
  replace HU0 := Lib.hid (HU0.out.step hb)
  replace HU4 := Lib.hid (HU4.out.step hb)
  replace HB := Lib.hid (HB.out.trans (hb.mono HB.out.size))
  have hS2 : (fun w' : World => w'.cell? ⟨bn + 1, 0, none⟩ = some (.slice (some ⟨w.heap.size, 0, none⟩) 3 3) ∧ w'.cell? ⟨bn + 1, 1, none⟩ = some (.slice (some ⟨bn, 0, none⟩) 3 3)) wq22_w5 := ⟨cell_of_ans hb hS.1, cell_of_ans hb hS.2⟩
  clear hb
  have Hp1 := Lib.hid p1
  clear p1
  try go_simp
  refine hK.out _ _ (fun _ => hS2) (fun hS => ?_)
  replace hS := hS (by decide)
  clear hK K hS2
  try simp only [Act.put, List.setIfInBounds_toArray, List.set_cons_zero, List.set_cons_succ]
  clear HU0 HU4
  refine' T_take (i := 6) (v := _) rfl (by kernel_rfl) (by kernel_rfl) (by kernel_rfl) (by kernel_rfl) (fun _ _ _ h => h) (by kernel_rfl) hS ?_ ?_
  rotate_left 1
  · intro Wv hW
    obtain ⟨s0, s1⟩ := hW
    go_simp
    first | done | with_reducible rfl
  try simp only [Act.put, List.setIfInBounds_toArray, List.set_cons_zero, List.set_cons_succ]
  refine' T_take (i := 7) (v := _) rfl (by kernel_rfl) (by kernel_rfl) (by kernel_rfl) (by kernel_rfl) (fun _ _ _ h => h) (by kernel_rfl) hS ?_ ?_
  rotate_left 1
  · intro Wv hW
    obtain ⟨s0, s1⟩ := hW
    go_simp
    first | done | with_reducible rfl
  try simp only [Act.put, List.setIfInBounds_toArray, List.set_cons_zero, List.set_cons_succ]
  refine' T_take (i := 8) (v := _) rfl (by kernel_rfl) (by kernel_rfl) (by kernel_rfl) (by kernel_rfl) (fun _ _ _ h => h) (by kernel_rfl) hS ?_ ?_
  rotate_left 1
  · intro Wv hW
    obtain ⟨s0, s1⟩ := hW
    go_simp
    first | done | with_reducible rfl
  try simp only [Act.put, List.setIfInBounds_toArray, List.set_cons_zero, List.set_cons_succ]
  refine' T_take (i := 9) (v := _) rfl (by kernel_rfl) (by kernel_rfl) (by kernel_rfl) (by kernel_rfl) (fun _ _ _ h => h) (by kernel_rfl) hS ?_ ?_
  rotate_left 1
  · intro Wv hW
    obtain ⟨s0, s1⟩ := hW
    go_simp
    first | done | with_reducible rfl
  try simp only [Act.put, List.setIfInBounds_toArray, List.set_cons_zero, List.set_cons_succ]
  refine' T_take (i := 10) (v := _) rfl (by kernel_rfl) (by kernel_rfl) (by kernel_rfl) (by kernel_rfl) (fun _ _ _ h => h) (by kernel_rfl) hS ?_ ?_
  rotate_left 1
  · intro Wv hW
    obtain ⟨s0, s1⟩ := hW
    go_simp
    first | done | with_reducible rfl
  try simp only [Act.put, List.setIfInBounds_toArray, List.set_cons_zero, List.set_cons_succ]
  refine T_done (by kernel_rfl) ?_ _
  refine NoPanic.normal ?_
  obtain ⟨k0, k1⟩ := hS
  go_wp2_with fail
  refine wp_region_noPanic ?_
  have hS : (fun w' : World => w'.cell? ⟨bn + 1, 0, none⟩ = some (.slice (some ⟨w.heap.size, 0, none⟩) 3 3) ∧ w'.cell? ⟨bn + 1, 1, none⟩ = some (.slice (some ⟨bn, 0, none⟩) 3 3)) wq22_w5.drew := ⟨k0, k1⟩
  refine wp_region_any (by kernel_rfl) (wpAny_of_T (S := fun w' : World => w'.cell? ⟨bn + 1, 0, none⟩ = some (.slice (some ⟨w.heap.size, 0, none⟩) 3 3) ∧ w'.cell? ⟨bn + 1, 1, none⟩ = some (.slice (some ⟨bn, 0, none⟩) 3 3)) (m := 12) _ _ _ _ ?_)
  have hd : Below wq22_w5.heap.size wq22_w5 wq22_w5.drew := (Below.refl _ _).drew
  replace HX := Lib.hid (HX.out.step hd)
  replace HN := Lib.hid (HN.out.step hd)
  replace Hp1 := Lib.hid (Hp1.out.step hd)
  replace HB := Lib.hid (HB.out.trans (hd.mono HB.out.size))
  clear hd k0 k1
  refine' T_take (i := 1) (v := _) rfl (by kernel_rfl) (by kernel_rfl) (by kernel_rfl) (by kernel_rfl) (fun _ _ _ h => h) (by kernel_rfl) hS ?_ ?_
  rotate_left 1
  · intro Wv hW
    obtain ⟨s0, s1⟩ := hW
    go_simp
    first | done | with_reducible rfl
  try simp only [Act.put, List.setIfInBounds_toArray, List.set_cons_zero, List.set_cons_succ]
  refine' T_take (i := 2) (v := _) rfl (by kernel_rfl) (by kernel_rfl) (by kernel_rfl) (by kernel_rfl) (fun _ _ _ h => h) (by kernel_rfl) hS ?_ ?_
  rotate_left 1
  · intro Wv hW
    obtain ⟨s0, s1⟩ := hW
    go_simp
    first | done | with_reducible rfl
  try simp only [Act.put, List.setIfInBounds_toArray, List.set_cons_zero, List.set_cons_succ]
  refine' T_take (i := 3) (v := _) rfl (by kernel_rfl) (by kernel_rfl) (by kernel_rfl) (by kernel_rfl) (fun _ _ _ h => h) (by kernel_rfl) hS ?_ ?_
  rotate_left 1
  · intro Wv hW
    obtain ⟨s0, s1⟩ := hW
    go_simp
    first | done | with_reducible rfl
  try simp only [Act.put, List.setIfInBounds_toArray, List.set_cons_zero, List.set_cons_succ]
  refine' T_take (i := 4) (v := _) rfl (by kernel_rfl) (by kernel_rfl) (by kernel_rfl) (by kernel_rfl) (fun _ _ _ h => h) (by kernel_rfl) hS ?_ ?_
  rotate_left 1
  · intro Wv hW
    obtain ⟨s0, s1⟩ := hW
    go_simp
    first | done | with_reducible rfl
  try simp only [Act.put, List.setIfInBounds_toArray, List.set_cons_zero, List.set_cons_succ]
  refine' merge2 (fun u0 u5 W => IsLaid W u0 ∧ IsXs W u5 4 ∧ Below w.heap.size w W ∧ Ints W.heap.size W (some ⟨w.heap.size, 0, none⟩) [0, 0, 0] ∧ Ints W.heap.size W (some ⟨bn, 0, none⟩) [25, 0, 0] ∧ (Ints W.heap.size W A1 [1]) ∧ (fun w' : World => w'.cell? ⟨bn + 1, 0, none⟩ = some (.slice (some ⟨w.heap.size, 0, none⟩) 3 3) ∧ w'.cell? ⟨bn + 1, 1, none⟩ = some (.slice (some ⟨bn, 0, none⟩) 3 3)) W) _ (fun key => ?_) ?_
  rotate_left 1
  · refine T_ready (rs := [0, 5]) (by kernel_rfl) (by simp) ?_
    refine TReady.cons rfl (fun K hK => ?_) (TReady.cons rfl (fun K hK => ?_) TReady.nil)
    · try go_simp
      refine (laid3_c _).mono ?_
      rintro e wq1_wq22_w5 ⟨u0, rfl, hu0, hb⟩
      replace HX := Lib.hid (HX.out.step hb)
      replace HN := Lib.hid (HN.out.step hb)
      replace Hp1 := Lib.hid (Hp1.out.step hb)
      replace HB := Lib.hid (HB.out.trans (hb.mono HB.out.size))
      have hS2 : (fun w' : World => w'.cell? ⟨bn + 1, 0, none⟩ = some (.slice (some ⟨w.heap.size, 0, none⟩) 3 3) ∧ w'.cell? ⟨bn + 1, 1, none⟩ = some (.slice (some ⟨bn, 0, none⟩) 3 3)) wq1_wq22_w5 := ⟨cell_of_ans hb hS.1, cell_of_ans hb hS.2⟩
      clear hb
      try go_simp
      refine hK.out _ _ (fun _ => hS2) (fun hS => ?_)
      replace hS := hS (by decide)
      clear hK K hS2
      try simp only [Act.put, List.setIfInBounds_toArray, List.set_cons_zero, List.set_cons_succ]
      have HU0 := Lib.hid hu0
      clear hu0
      refine T_ready (rs := [5]) (by kernel_rfl) (by simp) ?_
      refine TReady.cons rfl (fun K hK => ?_) TReady.nil
      · have HU5 : Hid (IsXs (wq1_wq22_w5.alloc (.cells #[.slice (some ⟨w.heap.size, 0, none⟩) 3 3, .slice (some ⟨bn, 0, none⟩) 3 3, .slice (some ⟨w.heap.size, 0, none⟩) 3 3, .slice (some ⟨bn, 0, none⟩) 3 3, .slice (some ⟨w.heap.size, 0, none⟩) 3 3, .slice (some ⟨bn, 0, none⟩) 3 3, .slice (some ⟨w.heap.size, 0, none⟩) 3 3, .slice (some ⟨bn, 0, none⟩) 3 3] 60)) (.slice (some ⟨wq1_wq22_w5.heap.size, 0, none⟩) 4 4) 4) := isXs_new wq1_wq22_w5 _ _ 4 (by omega) HX.out HN.out
        try go_simp
        have hb : Below wq1_wq22_w5.heap.size wq1_wq22_w5 (wq1_wq22_w5.alloc (.cells #[.slice (some ⟨w.heap.size, 0, none⟩) 3 3, .slice (some ⟨bn, 0, none⟩) 3 3, .slice (some ⟨w.heap.size, 0, none⟩) 3 3, .slice (some ⟨bn, 0, none⟩) 3 3, .slice (some ⟨w.heap.size, 0, none⟩) 3 3, .slice (some ⟨bn, 0, none⟩) 3 3, .slice (some ⟨w.heap.size, 0, none⟩) 3 3, .slice (some ⟨bn, 0, none⟩) 3 3] 60)) := (Below.refl wq1_wq22_w5.heap.size wq1_wq22_w5).alloc (Nat.le_refl _) _
        replace HX := Lib.hid (HX.out.step hb)
        replace HN := Lib.hid (HN.out.step hb)
        replace Hp1 := Lib.hid (Hp1.out.step hb)
        replace HU0 := Lib.hid (HU0.out.step hb)
        replace HB := Lib.hid (HB.out.trans (hb.mono HB.out.size))
        have hS2 : (fun w' : World => w'.cell? ⟨bn + 1, 0, none⟩ = some (.slice (some ⟨w.heap.size, 0, none⟩) 3 3) ∧ w'.cell? ⟨bn + 1, 1, none⟩ = some (.slice (some ⟨bn, 0, none⟩) 3 3)) (wq1_wq22_w5.alloc (.cells #[.slice (some ⟨w.heap.size, 0, none⟩) 3 3, .slice (some ⟨bn, 0, none⟩) 3 3, .slice (some ⟨w.heap.size, 0, none⟩) 3 3, .slice (some ⟨bn, 0, none⟩) 3 3, .slice (some ⟨w.heap.size, 0, none⟩) 3 3, .slice (some ⟨bn, 0, none⟩) 3 3, .slice (some ⟨w.heap.size, 0, none⟩) 3 3, .slice (some ⟨bn, 0, none⟩) 3 3] 60)) := ⟨cell_of_ans hb hS.1, cell_of_ans hb hS.2⟩
        clear hb
        refine hK.out _ _ (fun _ => hS2) (fun hS => ?_)
        replace hS := hS (by decide)
        clear hK K hS2
        try simp only [Act.put, List.setIfInBounds_toArray, List.set_cons_zero, List.set_cons_succ]
        generalize (wq1_wq22_w5.alloc (.cells #[.slice (some ⟨w.heap.size, 0, none⟩) 3 3, .slice (some ⟨bn, 0, none⟩) 3 3, .slice (some ⟨w.heap.size, 0, none⟩) 3 3, .slice (some ⟨bn, 0, none⟩) 3 3, .slice (some ⟨w.heap.size, 0, none⟩) 3 3, .slice (some ⟨bn, 0, none⟩) 3 3, .slice (some ⟨w.heap.size, 0, none⟩) 3 3, .slice (some ⟨bn, 0, none⟩) 3 3] 60)) = wq2_wq22_w5 at *
        generalize (Value.slice (some ⟨wq1_wq22_w5.heap.size, 0, none⟩) 4 4) = u5 at *
        exact key u0 u5 wq2_wq22_w5 ⟨HU0.out, HU5.out, HB.out, HX.out, HN.out, Hp1.out, hS⟩
    · have HU5 : Hid (IsXs (wq22_w5.alloc (.cells #[.slice (some ⟨w.heap.size, 0, none⟩) 3 3, .slice (some ⟨bn, 0, none⟩) 3 3, .slice (some ⟨w.heap.size, 0, none⟩) 3 3, .slice (some ⟨bn, 0, none⟩) 3 3, .slice (some ⟨w.heap.size, 0, none⟩) 3 3, .slice (some ⟨bn, 0, none⟩) 3 3, .slice (some ⟨w.heap.size, 0, none⟩) 3 3, .slice (some ⟨bn, 0, none⟩) 3 3] 60)).drew (.slice (some ⟨wq22_w5.heap.size, 0, none⟩) 4 4) 4) := isXs_new wq22_w5.drew _ _ 4 (by omega) HX.out HN.out
      try go_simp
      have hb : Below wq22_w5.drew.heap.size wq22_w5.drew (wq22_w5.alloc (.cells #[.slice (some ⟨w.heap.size, 0, none⟩) 3 3, .slice (some ⟨bn, 0, none⟩) 3 3, .slice (some ⟨w.heap.size, 0, none⟩) 3 3, .slice (some ⟨bn, 0, none⟩) 3 3, .slice (some ⟨w.heap.size, 0, none⟩) 3 3, .slice (some ⟨bn, 0, none⟩) 3 3, .slice (some ⟨w.heap.size, 0, none⟩) 3 3, .slice (some ⟨bn, 0, none⟩) 3 3] 60)).drew := (Below.refl wq22_w5.drew.heap.size wq22_w5.drew).alloc (Nat.le_refl _) _
      replace HX := Lib.hid (HX.out.step hb)
      replace HN := Lib.hid (HN.out.step hb)
      replace Hp1 := Lib.hid (Hp1.out.step hb)
      replace HB := Lib.hid (HB.out.trans (hb.mono HB.out.size))
      have hS2 : (fun w' : World => w'.cell? ⟨bn + 1, 0, none⟩ = some (.slice (some ⟨w.heap.size, 0, none⟩) 3 3) ∧ w'.cell? ⟨bn + 1, 1, none⟩ = some (.slice (some ⟨bn, 0, none⟩) 3 3)) (wq22_w5.alloc (.cells #[.slice (some ⟨w.heap.size, 0, none⟩) 3 3, .slice (some ⟨bn, 0, none⟩) 3 3, .slice (some ⟨w.heap.size, 0, none⟩) 3 3, .slice (some ⟨bn, 0, none⟩) 3 3, .slice (some ⟨w.heap.size, 0, none⟩) 3 3, .slice (some ⟨bn, 0, none⟩) 3 3, .slice (some ⟨w.heap.size, 0, none⟩) 3 3, .slice (some ⟨bn, 0, none⟩) 3 3] 60)).drew := ⟨cell_of_ans hb hS.1, cell_of_ans hb hS.2⟩
      clear hb
      refine hK.out _ _ (fun _ => hS2) (fun hS => ?_)
      replace hS := hS (by decide)
      clear hK K hS2
      try simp only [Act.put, List.setIfInBounds_toArray, List.set_cons_zero, List.set_cons_succ]
      generalize (wq22_w5.alloc (.cells #[.slice (some ⟨w.heap.size, 0, none⟩) 3 3, .slice (some ⟨bn, 0, none⟩) 3 3, .slice (some ⟨w.heap.size, 0, none⟩) 3 3, .slice (some ⟨bn, 0, none⟩) 3 3, .slice (some ⟨w.heap.size, 0, none⟩) 3 3, .slice (some ⟨bn, 0, none⟩) 3 3, .slice (some ⟨w.heap.size, 0, none⟩) 3 3, .slice (some ⟨bn, 0, none⟩) 3 3] 60)).drew = wq3_wq22_w5 at *
      generalize (Value.slice (some ⟨wq22_w5.heap.size, 0, none⟩) 4 4) = u5 at *
      refine T_ready (rs := [0]) (by kernel_rfl) (by simp) ?_
      refine TReady.cons rfl (fun K hK => ?_) TReady.nil
      · try go_simp
        refine (laid3_c _).mono ?_
        rintro e wq4_wq22_w5 ⟨u0, rfl, hu0, hb⟩
        replace HX := Lib.hid (HX.out.step hb)
        replace HN := Lib.hid (HN.out.step hb)
        replace Hp1 := Lib.hid (Hp1.out.step hb)
        replace HU5 := Lib.hid (HU5.out.step hb)
        replace HB := Lib.hid (HB.out.trans (hb.mono HB.out.size))
        have hS2 : (fun w' : World => w'.cell? ⟨bn + 1, 0, none⟩ = some (.slice (some ⟨w.heap.size, 0, none⟩) 3 3) ∧ w'.cell? ⟨bn + 1, 1, none⟩ = some (.slice (some ⟨bn, 0, none⟩) 3 3)) wq4_wq22_w5 := ⟨cell_of_ans hb hS.1, cell_of_ans hb hS.2⟩
        clear hb
        try go_simp
        refine hK.out _ _ (fun _ => hS2) (fun hS => ?_)
        replace hS := hS (by decide)
        clear hK K hS2
        try simp only [Act.put, List.setIfInBounds_toArray, List.set_cons_zero, List.set_cons_succ]
        have HU0 := Lib.hid hu0
        clear hu0
        exact key u0 u5 wq4_wq22_w5 ⟨HU0.out, HU5.out, HB.out, HX.out, HN.out, Hp1.out, hS⟩
  clear HB HX HN Hp1 hS
  intro u0 u5 wq21_wq22_w5 ⟨hu0, hu5, hB, hX, hN, hHp1, hS⟩
  have HB := Lib.hid hB
  have HX := Lib.hid hX
  have HN := Lib.hid hN
  have Hp1 := Lib.hid hHp1
  have HU0 := Lib.hid hu0
  have HU5 := Lib.hid hu5
  clear hB hX hN hHp1 hu0 hu5
  refine T_ready (rs := [6]) (by kernel_rfl) (by simp) ?_
  refine TReady.cons rfl (fun K hK => ?_) TReady.nil
  try go_simp
  refine (plan_names_c _ _ 4 [2] _ HU0.out HU5.out (by omega) nm_b4 nm_q4).mono ?_
  rintro e wq22_wq22_w5 ⟨A2, c2, rfl, hc2, p2, hb⟩
  replace HX := Lib.hid (HX.out.step hb)
  replace HN := Lib.hid (HN.out.step hb)
  replace Hp1 := Lib.hid (Hp1.out.step hb)
  replace HU0 := Lib.hid (HU0.out.step hb)
  replace HU5 := Lib.hid (HU5.out.step hb)
  replace HB := Lib.hid (HB.out.trans (hb.mono HB.out.size))
  have hS2 : (fun w' : World => w'.cell? ⟨bn + 1, 0, none⟩ = some (.slice (some ⟨w.heap.size, 0, none⟩) 3 3) ∧ w'.cell? ⟨bn + 1, 1, none⟩ = some (.slice (some ⟨bn, 0, none⟩) 3 3)) wq22_wq22_w5 := ⟨cell_of_ans hb hS.1, cell_of_ans hb hS.2⟩
  clear hb
  have Hp2 := Lib.hid p2
  clear p2
  try go_simp
  refine hK.out _ _ (fun _ => hS2) (fun hS => ?_)
  replace hS := hS (by decide)
  clear hK K hS2
  try simp only [Act.put, List.setIfInBounds_toArray, List.set_cons_zero, List.set_cons_succ]
  clear HU0 HU5
  refine' T_take (i := 7) (v := _) rfl (by kernel_rfl) (by kernel_rfl) (by kernel_rfl) (by kernel_rfl) (fun _ _ _ h => h) (by kernel_rfl) hS ?_ ?_
  rotate_left 1
  · intro Wv hW
    obtain ⟨s0, s1⟩ := hW
    go_simp
    first | done | with_reducible rfl
  try simp only [Act.put, List.setIfInBounds_toArray, List.set_cons_zero, List.set_cons_succ]
  refine' T_take (i := 8) (v := _) rfl (by kernel_rfl) (by kernel_rfl) (by kernel_rfl) (by kernel_rfl) (fun _ _ _ h => h) (by kernel_rfl) hS ?_ ?_
  rotate_left 1
  · intro Wv hW
    obtain ⟨s0, s1⟩ := hW
    go_simp
    first | done | with_reducible rfl
  try simp only [Act.put, List.setIfInBounds_toArray, List.set_cons_zero, List.set_cons_succ]
  refine' T_take (i := 9) (v := _) rfl (by kernel_rfl) (by kernel_rfl) (by kernel_rfl) (by kernel_rfl) (fun _ _ _ h => h) (by kernel_rfl) hS ?_ ?_
  rotate_left 1
  · intro Wv hW
    obtain ⟨s0, s1⟩ := hW
    go_simp
    first | done | with_reducible rfl
  try simp only [Act.put, List.setIfInBounds_toArray, List.set_cons_zero, List.set_cons_succ]
  refine' T_take (i := 10) (v := _) rfl (by kernel_rfl) (by kernel_rfl) (by kernel_rfl) (by kernel_rfl) (fun _ _ _ h => h) (by kernel_rfl) hS ?_ ?_
  rotate_left 1
  · intro Wv hW
    obtain ⟨s0, s1⟩ := hW
    go_simp
    first | done | with_reducible rfl
  try simp only [Act.put, List.setIfInBounds_toArray, List.set_cons_zero, List.set_cons_succ]
  refine' T_take (i := 11) (v := _) rfl (by kernel_rfl) (by kernel_rfl) (by kernel_rfl) (by kernel_rfl) (fun _ _ _ h => h) (by kernel_rfl) hS ?_ ?_
  rotate_left 1
  · intro Wv hW
    obtain ⟨s0, s1⟩ := hW
    go_simp
    first | done | with_reducible rfl
  try simp only [Act.put, List.setIfInBounds_toArray, List.set_cons_zero, List.set_cons_succ]
  refine T_done (by kernel_rfl) ?_ _
  refine NoPanic.normal ?_
  obtain ⟨k0, k1⟩ := hS
  go_wp2_with fail
  refine wp_region_noPanic ?_
  have hS : (fun w' : World => w'.cell? ⟨bn + 1, 0, none⟩ = some (.slice (some ⟨w.heap.size, 0, none⟩) 3 3) ∧ w'.cell? ⟨bn + 1, 1, none⟩ = some (.slice (some ⟨bn, 0, none⟩) 3 3)) wq22_wq22_w5.drew := ⟨k0, k1⟩
  refine wp_region_any (by kernel_rfl) (wpAny_of_T (S := fun w' : World => w'.cell? ⟨bn + 1, 0, none⟩ = some (.slice (some ⟨w.heap.size, 0, none⟩) 3 3) ∧ w'.cell? ⟨bn + 1, 1, none⟩ = some (.slice (some ⟨bn, 0, none⟩) 3 3)) (m := 61) _ _ _ _ ?_)
  have hd : Below wq22_wq22_w5.heap.size wq22_wq22_w5 wq22_wq22_w5.drew := (Below.refl _ _).drew
  replace HX := Lib.hid (HX.out.step hd)
  replace HN := Lib.hid (HN.out.step hd)
  replace Hp1 := Lib.hid (Hp1.out.step hd)
  replace Hp2 := Lib.hid (Hp2.out.step hd)
  replace HB := Lib.hid (HB.out.trans (hd.mono HB.out.size))
  clear hd k0 k1
  refine' T_take (i := 0) (v := _) rfl (by kernel_rfl) (by kernel_rfl) (by kernel_rfl) (by kernel_rfl) (fun _ _ _ h => h) (by kernel_rfl) hS ?_ ?_
  rotate_left 1
  · intro Wv hW
    obtain ⟨s0, s1⟩ := hW
    go_simp
    first | done | with_reducible rfl
  try simp only [Act.put, List.setIfInBounds_toArray, List.set_cons_zero, List.set_cons_succ]
  refine' T_take (i := 1) (v := _) rfl (by kernel_rfl) (by kernel_rfl) (by kernel_rfl) (by kernel_rfl) (fun _ _ _ h => h) (by kernel_rfl) hS ?_ ?_
  rotate_left 1
  · intro Wv hW
    obtain ⟨s0, s1⟩ := hW
    go_simp
    first | done | with_reducible rfl
  try simp only [Act.put, List.setIfInBounds_toArray, List.set_cons_zero, List.set_cons_succ]
  refine' T_take (i := 2) (v := _) rfl (by kernel_rfl) (by kernel_rfl) (by kernel_rfl) (by kernel_rfl) (fun _ _ _ h => h) (by kernel_rfl) hS ?_ ?_
  rotate_left 1
  · intro Wv hW
    obtain ⟨s0, s1⟩ := hW
    go_simp
    first | done | with_reducible rfl
  try simp only [Act.put, List.setIfInBounds_toArray, List.set_cons_zero, List.set_cons_succ]
  refine' T_take (i := 3) (v := _) rfl (by kernel_rfl) (by kernel_rfl) (by kernel_rfl) (by kernel_rfl) (fun _ _ _ h => h) (by kernel_rfl) hS ?_ ?_
  rotate_left 1
  · intro Wv hW
    obtain ⟨s0, s1⟩ := hW
    go_simp
    first | done | with_reducible rfl
  try simp only [Act.put, List.setIfInBounds_toArray, List.set_cons_zero, List.set_cons_succ]
  refine' T_take (i := 4) (v := _) rfl (by kernel_rfl) (by kernel_rfl) (by kernel_rfl) (by kernel_rfl) (fun _ _ _ h => h) (by kernel_rfl) hS ?_ ?_
  rotate_left 1
  · intro Wv hW
    obtain ⟨s0, s1⟩ := hW
    go_simp
    first | done | with_reducible rfl
  try simp only [Act.put, List.setIfInBounds_toArray, List.set_cons_zero, List.set_cons_succ]
  refine' T_take (i := 5) (v := _) rfl (by kernel_rfl) (by kernel_rfl) (by kernel_rfl) (by kernel_rfl) (fun _ _ _ h => h) (by kernel_rfl) hS ?_ ?_
  rotate_left 1
  · intro Wv hW
    obtain ⟨s0, s1⟩ := hW
    go_simp
    first | done | with_reducible rfl
  try simp only [Act.put, List.setIfInBounds_toArray, List.set_cons_zero, List.set_cons_succ]
  refine' T_take (i := 6) (v := _) rfl (by kernel_rfl) (by kernel_rfl) (by kernel_rfl) (by kernel_rfl) (fun _ _ _ h => h) (by kernel_rfl) hS ?_ ?_
  rotate_left 1
  · intro Wv hW
    obtain ⟨s0, s1⟩ := hW
    go_simp
    first | done | with_reducible rfl
  try simp only [Act.put, List.setIfInBounds_toArray, List.set_cons_zero, List.set_cons_succ]
  refine' T_take (i := 7) (v := _) rfl (by kernel_rfl) (by kernel_rfl) (by kernel_rfl) (by kernel_rfl) (fun _ _ _ h => h) (by kernel_rfl) hS ?_ ?_
  rotate_left 1
  · intro Wv hW
    obtain ⟨s0, s1⟩ := hW
    go_simp
    first | done | with_reducible rfl
  try simp only [Act.put, List.setIfInBounds_toArray, List.set_cons_zero, List.set_cons_succ]
  refine' T_take (i := 8) (v := _) rfl (by kernel_rfl) (by kernel_rfl) (by kernel_rfl) (by kernel_rfl) (fun _ _ _ h => h) (by kernel_rfl) hS ?_ ?_
  rotate_left 1
  · intro Wv hW
    obtain ⟨s0, s1⟩ := hW
    go_simp
    first | done | with_reducible rfl
  try simp only [Act.put, List.setIfInBounds_toArray, List.set_cons_zero, List.set_cons_succ]
  refine' T_take (i := 9) (v := _) rfl (by kernel_rfl) (by kernel_rfl) (by kernel_rfl) (by kernel_rfl) (fun _ _ _ h => h) (by kernel_rfl) hS ?_ ?_
  rotate_left 1
  · intro Wv hW
    obtain ⟨s0, s1⟩ := hW
    go_simp
    first | done | with_reducible rfl
  try simp only [Act.put, List.setIfInBounds_toArray, List.set_cons_zero, List.set_cons_succ]
  refine' T_take (i := 10) (v := _) rfl (by kernel_rfl) (by kernel_rfl) (by kernel_rfl) (by kernel_rfl) (fun _ _ _ h => h) (by kernel_rfl) hS ?_ ?_
  rotate_left 1
  · intro Wv hW
    obtain ⟨s0, s1⟩ := hW
    go_simp
    first | done | with_reducible rfl
  try simp only [Act.put, List.setIfInBounds_toArray, List.set_cons_zero, List.set_cons_succ]
  refine' T_take (i := 11) (v := _) rfl (by kernel_rfl) (by kernel_rfl) (by kernel_rfl) (by kernel_rfl) (fun _ _ _ h => h) (by kernel_rfl) hS ?_ ?_
  rotate_left 1
  · intro Wv hW
    obtain ⟨s0, s1⟩ := hW
    go_simp
    first | done | with_reducible rfl
  try simp only [Act.put, List.setIfInBounds_toArray, List.set_cons_zero, List.set_cons_succ]
  refine' T_take (i := 12) (v := _) rfl (by kernel_rfl) (by kernel_rfl) (by kernel_rfl) (by kernel_rfl) (fun _ _ _ h => h) (by kernel_rfl) hS ?_ ?_
  rotate_left 1
  · intro Wv hW
    obtain ⟨s0, s1⟩ := hW
    go_simp
    first | done | with_reducible rfl
  try simp only [Act.put, List.setIfInBounds_toArray, List.set_cons_zero, List.set_cons_succ]
  refine' T_take (i := 13) (v := _) rfl (by kernel_rfl) (by kernel_rfl) (by kernel_rfl) (by kernel_rfl) (fun _ _ _ h => h) (by kernel_rfl) hS ?_ ?_
  rotate_left 1
  · intro Wv hW
    obtain ⟨s0, s1⟩ := hW
    go_simp
    first | done | with_reducible rfl
  try simp only [Act.put, List.setIfInBounds_toArray, List.set_cons_zero, List.set_cons_succ]
  refine' T_take (i := 14) (v := _) rfl (by kernel_rfl) (by kernel_rfl) (by kernel_rfl) (by kernel_rfl) (fun _ _ _ h => h) (by kernel_rfl) hS ?_ ?_
  rotate_left 1
  · intro Wv hW
    obtain ⟨s0, s1⟩ := hW
    go_simp
    first | done | with_reducible rfl
  try simp only [Act.put, List.setIfInBounds_toArray, List.set_cons_zero, List.set_cons_succ]
  refine' T_take (i := 15) (v := _) rfl (by kernel_rfl) (by kernel_rfl) (by kernel_rfl) (by kernel_rfl) (fun _ _ _ h => h) (by kernel_rfl) hS ?_ ?_
  rotate_left 1
  · intro Wv hW
    obtain ⟨s0, s1⟩ := hW
    go_simp
    first | done | with_reducible rfl
  try simp only [Act.put, List.setIfInBounds_toArray, List.set_cons_zero, List.set_cons_succ]
  refine' T_take (i := 16) (v := _) rfl (by kernel_rfl) (by kernel_rfl) (by kernel_rfl) (by kernel_rfl) (fun _ _ _ h => h) (by kernel_rfl) hS ?_ ?_
  rotate_left 1
  · intro Wv hW
    obtain ⟨s0, s1⟩ := hW
    go_simp
    first | done | with_reducible rfl
  try simp only [Act.put, List.setIfInBounds_toArray, List.set_cons_zero, List.set_cons_succ]
  refine' T_take (i := 17) (v := _) rfl (by kernel_rfl) (by kernel_rfl) (by kernel_rfl) (by kernel_rfl) (fun _ _ _ h => h) (by kernel_rfl) hS ?_ ?_
  rotate_left 1
  · intro Wv hW
    obtain ⟨s0, s1⟩ := hW
    go_simp
    first | done | with_reducible rfl
  try simp only [Act.put, List.setIfInBounds_toArray, List.set_cons_zero, List.set_cons_succ]
  refine' T_take (i := 18) (v := _) rfl (by kernel_rfl) (by kernel_rfl) (by kernel_rfl) (by kernel_rfl) (fun _ _ _ h => h) (by kernel_rfl) hS ?_ ?_
  rotate_left 1
  · intro Wv hW
    obtain ⟨s0, s1⟩ := hW
    go_simp
    first | done | with_reducible rfl
  try simp only [Act.put, List.setIfInBounds_toArray, List.set_cons_zero, List.set_cons_succ]
  refine T_ready (rs := [19]) (by kernel_rfl) (by simp) ?_
  refine TReady.cons rfl (fun K hK => ?_) TReady.nil
  have HU19 : Hid (IsOne (wq22_wq22_w5.alloc (.cells #[.int .i64 1] 3)).drew (.slice (some ⟨wq22_wq22_w5.heap.size, 0, none⟩) 1 1) 1) := isOne_new wq22_wq22_w5.drew 1
  try go_simp
  have hb : Below wq22_wq22_w5.drew.heap.size wq22_wq22_w5.drew (wq22_wq22_w5.alloc (.cells #[.int .i64 1] 3)).drew := (Below.refl wq22_wq22_w5.drew.heap.size wq22_wq22_w5.drew).alloc (Nat.le_refl _) _
  replace HX := Lib.hid (HX.out.step hb)
  replace HN := Lib.hid (HN.out.step hb)
  replace Hp1 := Lib.hid (Hp1.out.step hb)
  replace Hp2 := Lib.hid (Hp2.out.step hb)
  replace HB := Lib.hid (HB.out.trans (hb.mono HB.out.size))
  have hS2 : (fun w' : World => w'.cell? ⟨bn + 1, 0, none⟩ = some (.slice (some ⟨w.heap.size, 0, none⟩) 3 3) ∧ w'.cell? ⟨bn + 1, 1, none⟩ = some (.slice (some ⟨bn, 0, none⟩) 3 3)) (wq22_wq22_w5.alloc (.cells #[.int .i64 1] 3)).drew := ⟨cell_of_ans hb hS.1, cell_of_ans hb hS.2⟩
  clear hb
  refine hK.out _ _ (fun _ => hS2) (fun hS => ?_)
  replace hS := hS (by decide)
  clear hK K hS2
  try simp only [Act.put, List.setIfInBounds_toArray, List.set_cons_zero, List.set_cons_succ]
  generalize (wq22_wq22_w5.alloc (.cells #[.int .i64 1] 3)).drew = wq1_wq22_wq22_w5 at *
  generalize (Value.slice (some ⟨wq22_wq22_w5.heap.size, 0, none⟩) 1 1) = u19 at *
  obtain ⟨a19, ha19, hi19⟩ := HU19.out
  subst ha19
  refine T_ready (rs := [20]) (by kernel_rfl) (by simp) ?_
  refine TReady.cons rfl (fun K hK => ?_) TReady.nil
  try go_simp
  refine (names_ints_c A1 a19 1 c1 _ Hp1.out hi19 hc1).mono ?_
  rintro e wq2_wq22_wq22_w5 ⟨rfl, hb⟩
  replace HX := Lib.hid (HX.out.step hb)
  replace HN := Lib.hid (HN.out.step hb)
  replace Hp1 := Lib.hid (Hp1.out.step hb)
  replace Hp2 := Lib.hid (Hp2.out.step hb)
  replace HU19 := Lib.hid (HU19.out.step hb)
  replace HB := Lib.hid (HB.out.trans (hb.mono HB.out.size))
  have hS2 : (fun w' : World => w'.cell? ⟨bn + 1, 0, none⟩ = some (.slice (some ⟨w.heap.size, 0, none⟩) 3 3) ∧ w'.cell? ⟨bn + 1, 1, none⟩ = some (.slice (some ⟨bn, 0, none⟩) 3 3)) wq2_wq22_wq22_w5 := ⟨cell_of_ans hb hS.1, cell_of_ans hb hS.2⟩
  clear hb
  try go_simp
  refine hK.out _ _ (fun _ => hS2) (fun hS => ?_)
  replace hS := hS (by decide)
  clear hK K hS2
  try simp only [Act.put, List.setIfInBounds_toArray, List.set_cons_zero, List.set_cons_succ]
  clear HU19 Hp1
  clear hi19 hc1
  refine' T_take (i := 21) (v := _) rfl (by kernel_rfl) (by kernel_rfl) (by kernel_rfl) (by kernel_rfl) (fun _ _ _ h => h) (by kernel_rfl) hS ?_ ?_
  rotate_left 1
  · intro Wv hW
    obtain ⟨s0, s1⟩ := hW
    go_simp
    first | done | with_reducible rfl
  try simp only [Act.put, List.setIfInBounds_toArray, List.set_cons_zero, List.set_cons_succ]
  refine' T_take (i := 22) (v := _) rfl (by kernel_rfl) (by kernel_rfl) (by kernel_rfl) (by kernel_rfl) (fun _ _ _ h => h) (by kernel_rfl) hS ?_ ?_
  rotate_left 1
  · intro Wv hW
    obtain ⟨s0, s1⟩ := hW
    go_simp
    first | done | with_reducible rfl
  try simp only [Act.put, List.setIfInBounds_toArray, List.set_cons_zero, List.set_cons_succ]
  refine' T_take (i := 23) (v := _) rfl (by kernel_rfl) (by kernel_rfl) (by kernel_rfl) (by kernel_rfl) (fun _ _ _ h => h) (by kernel_rfl) hS ?_ ?_
  rotate_left 1
  · intro Wv hW
    obtain ⟨s0, s1⟩ := hW
    go_simp
    first | done | with_reducible rfl
  try simp only [Act.put, List.setIfInBounds_toArray, List.set_cons_zero, List.set_cons_succ]
  refine' T_take (i := 24) (v := _) rfl (by kernel_rfl) (by kernel_rfl) (by kernel_rfl) (by kernel_rfl) (fun _ _ _ h => h) (by kernel_rfl) hS ?_ ?_
  rotate_left 1
  · intro Wv hW
    obtain ⟨s0, s1⟩ := hW
    go_simp
    first | done | with_reducible rfl
  try simp only [Act.put, List.setIfInBounds_toArray, List.set_cons_zero, List.set_cons_succ]
  refine' T_take (i := 25) (v := _) rfl (by kernel_rfl) (by kernel_rfl) (by kernel_rfl) (by kernel_rfl) (fun _ _ _ h => h) (by kernel_rfl) hS ?_ ?_
  rotate_left 1
  · intro Wv hW
    obtain ⟨s0, s1⟩ := hW
    go_simp
    first | done | with_reducible rfl
  try simp only [Act.put, List.setIfInBounds_toArray, List.set_cons_zero, List.set_cons_succ]
  refine' T_take (i := 26) (v := _) rfl (by kernel_rfl) (by kernel_rfl) (by kernel_rfl) (by kernel_rfl) (fun _ _ _ h => h) (by kernel_rfl) hS ?_ ?_
  rotate_left 1
  · intro Wv hW
    obtain ⟨s0, s1⟩ := hW
    go_simp
    first | done | with_reducible rfl
  try simp only [Act.put, List.setIfInBounds_toArray, List.set_cons_zero, List.set_cons_succ]
  refine' T_take (i := 27) (v := _) rfl (by kernel_rfl) (by kernel_rfl) (by kernel_rfl) (by kernel_rfl) (fun _ _ _ h => h) (by kernel_rfl) hS ?_ ?_
  rotate_left 1
  · intro Wv hW
    obtain ⟨s0, s1⟩ := hW
    go_simp
    first | done | with_reducible rfl
  try simp only [Act.put, List.setIfInBounds_toArray, List.set_cons_zero, List.set_cons_succ]
  refine' T_take (i := 28) (v := _) rfl (by kernel_rfl) (by kernel_rfl) (by kernel_rfl) (by kernel_rfl) (fun _ _ _ h => h) (by kernel_rfl) hS ?_ ?_
  rotate_left 1
  · intro Wv hW
    obtain ⟨s0, s1⟩ := hW
    go_simp
    first | done | with_reducible rfl
  try simp only [Act.put, List.setIfInBounds_toArray, List.set_cons_zero, List.set_cons_succ]
  refine T_ready (rs := [29]) (by kernel_rfl) (by simp) ?_
  refine TReady.cons rfl (fun K hK => ?_) TReady.nil
  have HU29 : Hid (IsOne (wq2_wq22_wq22_w5.alloc (.cells #[.int .i64 2] 3)) (.slice (some ⟨wq2_wq22_wq22_w5.heap.size, 0, none⟩) 1 1) 2) := isOne_new wq2_wq22_wq22_w5 2
  try go_simp
  have hb : Below wq2_wq22_wq22_w5.heap.size wq2_wq22_wq22_w5 (wq2_wq22_wq22_w5.alloc (.cells #[.int .i64 2] 3)) := (Below.refl wq2_wq22_wq22_w5.heap.size wq2_wq22_wq22_w5).alloc (Nat.le_refl _) _
  replace HX := Lib.hid (HX.out.step hb)
  replace HN := Lib.hid (HN.out.step hb)
  replace Hp2 := Lib.hid (Hp2.out.step hb)
  replace HB := Lib.hid (HB.out.trans (hb.mono HB.out.size))
  have hS2 : (fun w' : World => w'.cell? ⟨bn + 1, 0, none⟩ = some (.slice (some ⟨w.heap.size, 0, none⟩) 3 3) ∧ w'.cell? ⟨bn + 1, 1, none⟩ = some (.slice (some ⟨bn, 0, none⟩) 3 3)) (wq2_wq22_wq22_w5.alloc (.cells #[.int .i64 2] 3)) := ⟨cell_of_ans hb hS.1, cell_of_ans hb hS.2⟩
  clear hb
  refine hK.out _ _ (fun _ => hS2) (fun hS => ?_)
  replace hS := hS (by decide)
  clear hK K hS2
  try simp only [Act.put, List.setIfInBounds_toArray, List.set_cons_zero, List.set_cons_succ]
  generalize (wq2_wq22_wq22_w5.alloc (.cells #[.int .i64 2] 3)) = wq3_wq22_wq22_w5 at *
  generalize (Value.slice (some ⟨wq2_wq22_wq22_w5.heap.size, 0, none⟩) 1 1) = u29 at *
  obtain ⟨a29, ha29, hi29⟩ := HU29.out
  subst ha29
  refine T_ready (rs := [30]) (by kernel_rfl) (by simp) ?_
  refine TReady.cons rfl (fun K hK => ?_) TReady.nil
  try go_simp
  refine (names_ints_c A2 a29 2 c2 _ Hp2.out hi29 hc2).mono ?_
  rintro e wq4_wq22_wq22_w5 ⟨rfl, hb⟩
  replace HX := Lib.hid (HX.out.step hb)
  replace HN := Lib.hid (HN.out.step hb)
  replace Hp2 := Lib.hid (Hp2.out.step hb)
  replace HU29 := Lib.hid (HU29.out.step hb)
  replace HB := Lib.hid (HB.out.trans (hb.mono HB.out.size))
  have hS2 : (fun w' : World => w'.cell? ⟨bn + 1, 0, none⟩ = some (.slice (some ⟨w.heap.size, 0, none⟩) 3 3) ∧ w'.cell? ⟨bn + 1, 1, none⟩ = some (.slice (some ⟨bn, 0, none⟩) 3 3)) wq4_wq22_wq22_w5 := ⟨cell_of_ans hb hS.1, cell_of_ans hb hS.2⟩
  clear hb
  try go_simp
  refine hK.out _ _ (fun _ => hS2) (fun hS => ?_)
  replace hS := hS (by decide)
  clear hK K hS2
  try simp only [Act.put, List.setIfInBounds_toArray, List.set_cons_zero, List.set_cons_succ]
  clear HU29 Hp2
  clear hi29 hc2
  refine' T_take (i := 31) (v := _) rfl (by kernel_rfl) (by kernel_rfl) (by kernel_rfl) (by kernel_rfl) (fun _ _ _ h => h) (by kernel_rfl) hS ?_ ?_
  rotate_left 1
  · intro Wv hW
    obtain ⟨s0, s1⟩ := hW
    go_simp
    first | done | with_reducible rfl
  try simp only [Act.put, List.setIfInBounds_toArray, List.set_cons_zero, List.set_cons_succ]
  refine' T_take (i := 32) (v := _) rfl (by kernel_rfl) (by kernel_rfl) (by kernel_rfl) (by kernel_rfl) (fun _ _ _ h => h) (by kernel_rfl) hS ?_ ?_
  rotate_left 1
  · intro Wv hW
    obtain ⟨s0, s1⟩ := hW
    go_simp
    first | done | with_reducible rfl
  try simp only [Act.put, List.setIfInBounds_toArray, List.set_cons_zero, List.set_cons_succ]
  refine' T_take (i := 33) (v := _) rfl (by kernel_rfl) (by kernel_rfl) (by kernel_rfl) (by kernel_rfl) (fun _ _ _ h => h) (by kernel_rfl) hS ?_ ?_
  rotate_left 1
  · intro Wv hW
    obtain ⟨s0, s1⟩ := hW
    go_simp
    first | done | with_reducible rfl
  try simp only [Act.put, List.setIfInBounds_toArray, List.set_cons_zero, List.set_cons_succ]
  refine' T_take (i := 35) (v := _) rfl (by kernel_rfl) (by kernel_rfl) (by kernel_rfl) (by kernel_rfl) (fun _ _ _ h => h) (by kernel_rfl) hS ?_ ?_
  rotate_left 1
  · intro Wv hW
    obtain ⟨s0, s1⟩ := hW
    go_simp
    first | done | with_reducible rfl
  try simp only [Act.put, List.setIfInBounds_toArray, List.set_cons_zero, List.set_cons_succ]
  refine' T_take (i := 36) (v := _) rfl (by kernel_rfl) (by kernel_rfl) (by kernel_rfl) (by kernel_rfl) (fun _ _ _ h => h) (by kernel_rfl) hS ?_ ?_
  rotate_left 1
  · intro Wv hW
    obtain ⟨s0, s1⟩ := hW
    go_simp
    first | done | with_reducible rfl
  try simp only [Act.put, List.setIfInBounds_toArray, List.set_cons_zero, List.set_cons_succ]
  refine' T_take (i := 37) (v := _) rfl (by kernel_rfl) (by kernel_rfl) (by kernel_rfl) (by kernel_rfl) (fun _ _ _ h => h) (by kernel_rfl) hS ?_ ?_
  rotate_left 1
  · intro Wv hW
    obtain ⟨s0, s1⟩ := hW
    go_simp
    first | done | with_reducible rfl
  try simp only [Act.put, List.setIfInBounds_toArray, List.set_cons_zero, List.set_cons_succ]
  refine' merge3 (fun u34 u38 u39 W => IsLaid W u34 ∧ IsXs W u38 3 ∧ IsOne W u39 2 ∧ Below w.heap.size w W ∧ Ints W.heap.size W (some ⟨w.heap.size, 0, none⟩) [0, 0, 0] ∧ Ints W.heap.size W (some ⟨bn, 0, none⟩) [25, 0, 0] ∧ (fun w' : World => w'.cell? ⟨bn + 1, 0, none⟩ = some (.slice (some ⟨w.heap.size, 0, none⟩) 3 3) ∧ w'.cell? ⟨bn + 1, 1, none⟩ = some (.slice (some ⟨bn, 0, none⟩) 3 3)) W) _ (fun key => ?_) ?_
  rotate_left 1
  · refine T_ready (rs := [34, 38, 39]) (by kernel_rfl) (by simp) ?_
    refine TReady.cons rfl (fun K hK => ?_) (TReady.cons rfl (fun K hK => ?_) (TReady.cons rfl (fun K hK => ?_) TReady.nil))
    · try go_simp
      refine (laid3_c _).mono ?_
      rintro e wq5_wq22_wq22_w5 ⟨u34, rfl, hu34, hb⟩
      replace HX := Lib.hid (HX.out.step hb)
      replace HN := Lib.hid (HN.out.step hb)
      replace HB := Lib.hid (HB.out.trans (hb.mono HB.out.size))
      have hS2 : (fun w' : World => w'.cell? ⟨bn + 1, 0, none⟩ = some (.slice (some ⟨w.heap.size, 0, none⟩) 3 3) ∧ w'.cell? ⟨bn + 1, 1, none⟩ = some (.slice (some ⟨bn, 0, none⟩) 3 3)) wq5_wq22_wq22_w5 := ⟨cell_of_ans hb hS.1, cell_of_ans hb hS.2⟩
      clear hb
      try go_simp
      refine hK.out _ _ (fun _ => hS2) (fun hS => ?_)
      replace hS := hS (by decide)
      clear hK K hS2
      try simp only [Act.put, List.setIfInBounds_toArray, List.set_cons_zero, List.set_cons_succ]
      have HU34 := Lib.hid hu34
      clear hu34
      refine T_ready (rs := [38, 39]) (by kernel_rfl) (by simp) ?_
      refine TReady.cons rfl (fun K hK => ?_) (TReady.cons rfl (fun K hK => ?_) TReady.nil)
      · have HU38 : Hid (IsXs (wq5_wq22_wq22_w5.alloc (.cells #[.slice (some ⟨w.heap.size, 0, none⟩) 3 3, .slice (some ⟨bn, 0, none⟩) 3 3, .slice (some ⟨w.heap.size, 0, none⟩) 3 3, .slice (some ⟨bn, 0, none⟩) 3 3, .slice (some ⟨w.heap.size, 0, none⟩) 3 3, .slice (some ⟨bn, 0, none⟩) 3 3] 60)) (.slice (some ⟨wq5_wq22_wq22_w5.heap.size, 0, none⟩) 3 3) 3) := isXs_new wq5_wq22_wq22_w5 _ _ 3 (by omega) HX.out HN.out
        try go_simp
        have hb : Below wq5_wq22_wq22_w5.heap.size wq5_wq22_wq22_w5 (wq5_wq22_wq22_w5.alloc (.cells #[.slice (some ⟨w.heap.size, 0, none⟩) 3 3, .slice (some ⟨bn, 0, none⟩) 3 3, .slice (some ⟨w.heap.size, 0, none⟩) 3 3, .slice (some ⟨bn, 0, none⟩) 3 3, .slice (some ⟨w.heap.size, 0, none⟩) 3 3, .slice (some ⟨bn, 0, none⟩) 3 3] 60)) := (Below.refl wq5_wq22_wq22_w5.heap.size wq5_wq22_wq22_w5).alloc (Nat.le_refl _) _
        replace HX := Lib.hid (HX.out.step hb)
        replace HN := Lib.hid (HN.out.step hb)
        replace HU34 := Lib.hid (HU34.out.step hb)
        replace HB := Lib.hid (HB.out.trans (hb.mono HB.out.size))
        have hS2 : (fun w' : World => w'.cell? ⟨bn + 1, 0, none⟩ = some (.slice (some ⟨w.heap.size, 0, none⟩) 3 3) ∧ w'.cell? ⟨bn + 1, 1, none⟩ = some (.slice (some ⟨bn, 0, none⟩) 3 3)) (wq5_wq22_wq22_w5.alloc (.cells #[.slice (some ⟨w.heap.size, 0, none⟩) 3 3, .slice (some ⟨bn, 0, none⟩) 3 3, .slice (some ⟨w.heap.size, 0, none⟩) 3 3, .slice (some ⟨bn, 0, none⟩) 3 3, .slice (some ⟨w.heap.size, 0, none⟩) 3 3, .slice (some ⟨bn, 0, none⟩) 3 3] 60)) := ⟨cell_of_ans hb hS.1, cell_of_ans hb hS.2⟩
        clear hb
        refine hK.out _ _ (fun _ => hS2) (fun hS => ?_)
        replace hS := hS (by decide)
        clear hK K hS2
        try simp only [Act.put, List.setIfInBounds_toArray, List.set_cons_zero, List.set_cons_succ]
        generalize (wq5_wq22_wq22_w5.alloc (.cells #[.slice (some ⟨w.heap.size, 0, none⟩) 3 3, .slice (some ⟨bn, 0, none⟩) 3 3, .slice (some ⟨w.heap.size, 0, none⟩) 3 3, .slice (some ⟨bn, 0, none⟩) 3 3, .slice (some ⟨w.heap.size, 0, none⟩) 3 3, .slice (some ⟨bn, 0, none⟩) 3 3] 60)) = wq6_wq22_wq22_w5 at *
        generalize (Value.slice (some ⟨wq5_wq22_wq22_w5.heap.size, 0, none⟩) 3 3) = u38 at *
        refine T_ready (rs := [39]) (by kernel_rfl) (by simp) ?_
        refine TReady.cons rfl (fun K hK => ?_) TReady.nil
        · have HU39 : Hid (IsOne (wq6_wq22_wq22_w5.alloc (.cells #[.int .i64 2] 3)) (.slice (some ⟨wq6_wq22_wq22_w5.heap.size, 0, none⟩) 1 1) 2) := isOne_new wq6_wq22_wq22_w5 2
          try go_simp
          have hb : Below wq6_wq22_wq22_w5.heap.size wq6_wq22_wq22_w5 (wq6_wq22_wq22_w5.alloc (.cells #[.int .i64 2] 3)) := (Below.refl wq6_wq22_wq22_w5.heap.size wq6_wq22_wq22_w5).alloc (Nat.le_refl _) _
          replace HX := Lib.hid (HX.out.step hb)
          replace HN := Lib.hid (HN.out.step hb)
          replace HU34 := Lib.hid (HU34.out.step hb)
          replace HU38 := Lib.hid (HU38.out.step hb)
          replace HB := Lib.hid (HB.out.trans (hb.mono HB.out.size))
          have hS2 : (fun w' : World => w'.cell? ⟨bn + 1, 0, none⟩ = some (.slice (some ⟨w.heap.size, 0, none⟩) 3 3) ∧ w'.cell? ⟨bn + 1, 1, none⟩ = some (.slice (some ⟨bn, 0, none⟩) 3 3)) (wq6_wq22_wq22_w5.alloc (.cells #[.int .i64 2] 3)) := ⟨cell_of_ans hb hS.1, cell_of_ans hb hS.2⟩
          clear hb
          refine hK.out _ _ (fun _ => hS2) (fun hS => ?_)
          replace hS := hS (by decide)
          clear hK K hS2
          try simp only [Act.put, List.setIfInBounds_toArray, List.set_cons_zero, List.set_cons_succ]
          generalize (wq6_wq22_wq22_w5.alloc (.cells #[.int .i64 2] 3)) = wq7_wq22_wq22_w5 at *
          generalize (Value.slice (some ⟨wq6_wq22_wq22_w5.heap.size, 0, none⟩) 1 1) = u39 at *
          exact key u34 u38 u39 wq7_wq22_wq22_w5 ⟨HU34.out, HU38.out, HU39.out, HB.out, HX.out, HN.out, hS⟩
      · have HU39 : Hid (IsOne (wq5_wq22_wq22_w5.alloc (.cells #[.int .i64 2] 3)) (.slice (some ⟨wq5_wq22_wq22_w5.heap.size, 0, none⟩) 1 1) 2) := isOne_new wq5_wq22_wq22_w5 2
        try go_simp
        have hb : Below wq5_wq22_wq22_w5.heap.size wq5_wq22_wq22_w5 (wq5_wq22_wq22_w5.alloc (.cells #[.int .i64 2] 3)) := (Below.refl wq5_wq22_wq22_w5.heap.size wq5_wq22_wq22_w5).alloc (Nat.le_refl _) _
        replace HX := Lib.hid (HX.out.step hb)
        replace HN := Lib.hid (HN.out.step hb)
        replace HU34 := Lib.hid (HU34.out.step hb)
        replace HB := Lib.hid (HB.out.trans (hb.mono HB.out.size))
        have hS2 : (fun w' : World => w'.cell? ⟨bn + 1, 0, none⟩ = some (.slice (some ⟨w.heap.size, 0, none⟩) 3 3) ∧ w'.cell? ⟨bn + 1, 1, none⟩ = some (.slice (some ⟨bn, 0, none⟩) 3 3)) (wq5_wq22_wq22_w5.alloc (.cells #[.int .i64 2] 3)) := ⟨cell_of_ans hb hS.1, cell_of_ans hb hS.2⟩
        clear hb
        refine hK.out _ _ (fun _ => hS2) (fun hS => ?_)
        replace hS := hS (by decide)
        clear hK K hS2
        try simp only [Act.put, List.setIfInBounds_toArray, List.set_cons_zero, List.set_cons_succ]
        generalize (wq5_wq22_wq22_w5.alloc (.cells #[.int .i64 2] 3)) = wq8_wq22_wq22_w5 at *
        generalize (Value.slice (some ⟨wq5_wq22_wq22_w5.heap.size, 0, none⟩) 1 1) = u39 at *
        refine T_ready (rs := [38]) (by kernel_rfl) (by simp) ?_
        refine TReady.cons rfl (fun K hK => ?_) TReady.nil
        · have HU38 : Hid (IsXs (wq8_wq22_wq22_w5.alloc (.cells #[.slice (some ⟨w.heap.size, 0, none⟩) 3 3, .slice (some ⟨bn, 0, none⟩) 3 3, .slice (some ⟨w.heap.size, 0, none⟩) 3 3, .slice (some ⟨bn, 0, none⟩) 3 3, .slice (some ⟨w.heap.size, 0, none⟩) 3 3, .slice (some ⟨bn, 0, none⟩) 3 3] 60)) (.slice (some ⟨wq8_wq22_wq22_w5.heap.size, 0, none⟩) 3 3) 3) := isXs_new wq8_wq22_wq22_w5 _ _ 3 (by omega) HX.out HN.out
          try go_simp
          have hb : Below wq8_wq22_wq22_w5.heap.size wq8_wq22_wq22_w5 (wq8_wq22_wq22_w5.alloc (.cells #[.slice (some ⟨w.heap.size, 0, none⟩) 3 3, .slice (some ⟨bn, 0, none⟩) 3 3, .slice (some ⟨w.heap.size, 0, none⟩) 3 3, .slice (some ⟨bn, 0, none⟩) 3 3, .slice (some ⟨w.heap.size, 0, none⟩) 3 3, .slice (some ⟨bn, 0, none⟩) 3 3] 60)) := (Below.refl wq8_wq22_wq22_w5.heap.size wq8_wq22_wq22_w5).alloc (Nat.le_refl _) _
          replace HX := Lib.hid (HX.out.step hb)
          replace HN := Lib.hid (HN.out.step hb)
          replace HU34 := Lib.hid (HU34.out.step hb)
          replace HU39 := Lib.hid (HU39.out.step hb)
          replace HB := Lib.hid (HB.out.trans (hb.mono HB.out.size))
          have hS2 : (fun w' : World => w'.cell? ⟨bn + 1, 0, none⟩ = some (.slice (some ⟨w.heap.size, 0, none⟩) 3 3) ∧ w'.cell? ⟨bn + 1, 1, none⟩ = some (.slice (some ⟨bn, 0, none⟩) 3 3)) (wq8_wq22_wq22_w5.alloc (.cells #[.slice (some ⟨w.heap.size, 0, none⟩) 3 3, .slice (some ⟨bn, 0, none⟩) 3 3, .slice (some ⟨w.heap.size, 0, none⟩) 3 3, .slice (some ⟨bn, 0, none⟩) 3 3, .slice (some ⟨w.heap.size, 0, none⟩) 3 3, .slice (some ⟨bn, 0, none⟩) 3 3] 60)) := ⟨cell_of_ans hb hS.1, cell_of_ans hb hS.2⟩
          clear hb
          refine hK.out _ _ (fun _ => hS2) (fun hS => ?_)
          replace hS := hS (by decide)
          clear hK K hS2
          try simp only [Act.put, List.setIfInBounds_toArray, List.set_cons_zero, List.set_cons_succ]
          generalize (wq8_wq22_wq22_w5.alloc (.cells #[.slice (some ⟨w.heap.size, 0, none⟩) 3 3, .slice (some ⟨bn, 0, none⟩) 3 3, .slice (some ⟨w.heap.size, 0, none⟩) 3 3, .slice (some ⟨bn, 0, none⟩) 3 3, .slice (some ⟨w.heap.size, 0, none⟩) 3 3, .slice (some ⟨bn, 0, none⟩) 3 3] 60)) = wq9_wq22_wq22_w5 at *
          generalize (Value.slice (some ⟨wq8_wq22_wq22_w5.heap.size, 0, none⟩) 3 3) = u38 at *
          exact key u34 u38 u39 wq9_wq22_wq22_w5 ⟨HU34.out, HU38.out, HU39.out, HB.out, HX.out, HN.out, hS⟩
    · have HU38 : Hid (IsXs (wq4_wq22_wq22_w5.alloc (.cells #[.slice (some ⟨w.heap.size, 0, none⟩) 3 3, .slice (some ⟨bn, 0, none⟩) 3 3, .slice (some ⟨w.heap.size, 0, none⟩) 3 3, .slice (some ⟨bn, 0, none⟩) 3 3, .slice (some ⟨w.heap.size, 0, none⟩) 3 3, .slice (some ⟨bn, 0, none⟩) 3 3] 60)) (.slice (some ⟨wq4_wq22_wq22_w5.heap.size, 0, none⟩) 3 3) 3) := isXs_new wq4_wq22_wq22_w5 _ _ 3 (by omega) HX.out HN.out
      try go_simp
      have hb : Below wq4_wq22_wq22_w5.heap.size wq4_wq22_wq22_w5 (wq4_wq22_wq22_w5.alloc (.cells #[.slice (some ⟨w.heap.size, 0, none⟩) 3 3, .slice (some ⟨bn, 0, none⟩) 3 3, .slice (some ⟨w.heap.size, 0, none⟩) 3 3, .slice (some ⟨bn, 0, none⟩) 3 3, .slice (some ⟨w.heap.size, 0, none⟩) 3 3, .slice (some ⟨bn, 0, none⟩) 3 3] 60)) := (Below.refl wq4_wq22_wq22_w5.heap.size wq4_wq22_wq22_w5).alloc (Nat.le_refl _) _
      replace HX := Lib.hid (HX.out.step hb)
      replace HN := Lib.hid (HN.out.step hb)
      replace HB := Lib.hid (HB.out.trans (hb.mono HB.out.size))
      have hS2 : (fun w' : World => w'.cell? ⟨bn + 1, 0, none⟩ = some (.slice (some ⟨w.heap.size, 0, none⟩) 3 3) ∧ w'.cell? ⟨bn + 1, 1, none⟩ = some (.slice (some ⟨bn, 0, none⟩) 3 3)) (wq4_wq22_wq22_w5.alloc (.cells #[.slice (some ⟨w.heap.size, 0, none⟩) 3 3, .slice (some ⟨bn, 0, none⟩) 3 3, .slice (some ⟨w.heap.size, 0, none⟩) 3 3, .slice (some ⟨bn, 0, none⟩) 3 3, .slice (some ⟨w.heap.size, 0, none⟩) 3 3, .slice (some ⟨bn, 0, none⟩) 3 3] 60)) := ⟨cell_of_ans hb hS.1, cell_of_ans hb hS.2⟩
      clear hb
      refine hK.out _ _ (fun _ => hS2) (fun hS => ?_)
      replace hS := hS (by decide)
      clear hK K hS2
      try simp only [Act.put, List.setIfInBounds_toArray, List.set_cons_zero, List.set_cons_succ]
      generalize (wq4_wq22_wq22_w5.alloc (.cells #[.slice (some ⟨w.heap.size, 0, none⟩) 3 3, .slice (some ⟨bn, 0, none⟩) 3 3, .slice (some ⟨w.heap.size, 0, none⟩) 3 3, .slice (some ⟨bn, 0, none⟩) 3 3, .slice (some ⟨w.heap.size, 0, none⟩) 3 3, .slice (some ⟨bn, 0, none⟩) 3 3] 60)) = wq10_wq22_wq22_w5 at *
      generalize (Value.slice (some ⟨wq4_wq22_wq22_w5.heap.size, 0, none⟩) 3 3) = u38 at *
      refine T_ready (rs := [34, 39]) (by kernel_rfl) (by simp) ?_
      refine TReady.cons rfl (fun K hK => ?_) (TReady.cons rfl (fun K hK => ?_) TReady.nil)
      · try go_simp
        refine (laid3_c _).mono ?_
        rintro e wq11_wq22_wq22_w5 ⟨u34, rfl, hu34, hb⟩
        replace HX := Lib.hid (HX.out.step hb)
        replace HN := Lib.hid (HN.out.step hb)
        replace HU38 := Lib.hid (HU38.out.step hb)
        replace HB := Lib.hid (HB.out.trans (hb.mono HB.out.size))
        have hS2 : (fun w' : World => w'.cell? ⟨bn + 1, 0, none⟩ = some (.slice (some ⟨w.heap.size, 0, none⟩) 3 3) ∧ w'.cell? ⟨bn + 1, 1, none⟩ = some (.slice (some ⟨bn, 0, none⟩) 3 3)) wq11_wq22_wq22_w5 := ⟨cell_of_ans hb hS.1, cell_of_ans hb hS.2⟩
        clear hb
        try go_simp
        refine hK.out _ _ (fun _ => hS2) (fun hS => ?_)
        replace hS := hS (by decide)
        clear hK K hS2
        try simp only [Act.put, List.setIfInBounds_toArray, List.set_cons_zero, List.set_cons_succ]
        have HU34 := Lib.hid hu34
        clear hu34
        refine T_ready (rs := [39]) (by kernel_rfl) (by simp) ?_
        refine TReady.cons rfl (fun K hK => ?_) TReady.nil
        · have HU39 : Hid (IsOne (wq11_wq22_wq22_w5.alloc (.cells #[.int .i64 2] 3)) (.slice (some ⟨wq11_wq22_wq22_w5.heap.size, 0, none⟩) 1 1) 2) := isOne_new wq11_wq22_wq22_w5 2
          try go_simp
          have hb : Below wq11_wq22_wq22_w5.heap.size wq11_wq22_wq22_w5 (wq11_wq22_wq22_w5.alloc (.cells #[.int .i64 2] 3)) := (Below.refl wq11_wq22_wq22_w5.heap.size wq11_wq22_wq22_w5).alloc (Nat.le_refl _) _
          replace HX := Lib.hid (HX.out.step hb)
          replace HN := Lib.hid (HN.out.step hb)
          replace HU38 := Lib.hid (HU38.out.step hb)
          replace HU34 := Lib.hid (HU34.out.step hb)
          replace HB := Lib.hid (HB.out.trans (hb.mono HB.out.size))
          have hS2 : (fun w' : World => w'.cell? ⟨bn + 1, 0, none⟩ = some (.slice (some ⟨w.heap.size, 0, none⟩) 3 3) ∧ w'.cell? ⟨bn + 1, 1, none⟩ = some (.slice (some ⟨bn, 0, none⟩) 3 3)) (wq11_wq22_wq22_w5.alloc (.cells #[.int .i64 2] 3)) := ⟨cell_of_ans hb hS.1, cell_of_ans hb hS.2⟩
          clear hb
          refine hK.out _ _ (fun _ => hS2) (fun hS => ?_)
          replace hS := hS (by decide)
          clear hK K hS2
          try simp only [Act.put, List.setIfInBounds_toArray, List.set_cons_zero, List.set_cons_succ]
          generalize (wq11_wq22_wq22_w5.alloc (.cells #[.int .i64 2] 3)) = wq12_wq22_wq22_w5 at *
          generalize (Value.slice (some ⟨wq11_wq22_wq22_w5.heap.size, 0, none⟩) 1 1) = u39 at *
          exact key u34 u38 u39 wq12_wq22_wq22_w5 ⟨HU34.out, HU38.out, HU39.out, HB.out, HX.out, HN.out, hS⟩
      · have HU39 : Hid (IsOne (wq10_wq22_wq22_w5.alloc (.cells #[.int .i64 2] 3)) (.slice (some ⟨wq10_wq22_wq22_w5.heap.size, 0, none⟩) 1 1) 2) := isOne_new wq10_wq22_wq22_w5 2
        try go_simp
        have hb : Below wq10_wq22_wq22_w5.heap.size wq10_wq22_wq22_w5 (wq10_wq22_wq22_w5.alloc (.cells #[.int .i64 2] 3)) := (Below.refl wq10_wq22_wq22_w5.heap.size wq10_wq22_wq22_w5).alloc (Nat.le_refl _) _
        replace HX := Lib.hid (HX.out.step hb)
        replace HN := Lib.hid (HN.out.step hb)
        replace HU38 := Lib.hid (HU38.out.step hb)
        replace HB := Lib.hid (HB.out.trans (hb.mono HB.out.size))
        have hS2 : (fun w' : World => w'.cell? ⟨bn + 1, 0, none⟩ = some (.slice (some ⟨w.heap.size, 0, none⟩) 3 3) ∧ w'.cell? ⟨bn + 1, 1, none⟩ = some (.slice (some ⟨bn, 0, none⟩) 3 3)) (wq10_wq22_wq22_w5.alloc (.cells #[.int .i64 2] 3)) := ⟨cell_of_ans hb hS.1, cell_of_ans hb hS.2⟩
        clear hb
        refine hK.out _ _ (fun _ => hS2) (fun hS => ?_)
        replace hS := hS (by decide)
        clear hK K hS2
        try simp only [Act.put, List.setIfInBounds_toArray, List.set_cons_zero, List.set_cons_succ]
        generalize (wq10_wq22_wq22_w5.alloc (.cells #[.int .i64 2] 3)) = wq13_wq22_wq22_w5 at *
        generalize (Value.slice (some ⟨wq10_wq22_wq22_w5.heap.size, 0, none⟩) 1 1) = u39 at *
        refine T_ready (rs := [34]) (by kernel_rfl) (by simp) ?_
        refine TReady.cons rfl (fun K hK => ?_) TReady.nil
        · try go_simp
          refine (laid3_c _).mono ?_
          rintro e wq14_wq22_wq22_w5 ⟨u34, rfl, hu34, hb⟩
          replace HX := Lib.hid (HX.out.step hb)
          replace HN := Lib.hid (HN.out.step hb)
          replace HU38 := Lib.hid (HU38.out.step hb)
          replace HU39 := Lib.hid (HU39.out.step hb)
          replace HB := Lib.hid (HB.out.trans (hb.mono HB.out.size))
          have hS2 : (fun w' : World => w'.cell? ⟨bn + 1, 0, none⟩ = some (.slice (some ⟨w.heap.size, 0, none⟩) 3 3) ∧ w'.cell? ⟨bn + 1, 1, none⟩ = some (.slice (some ⟨bn, 0, none⟩) 3 3)) wq14_wq22_wq22_w5 := ⟨cell_of_ans hb hS.1, cell_of_ans hb hS.2⟩
          clear hb
          try go_simp
          refine hK.out _ _ (fun _ => hS2) (fun hS => ?_)
          replace hS := hS (by decide)
          clear hK K hS2
          try simp only [Act.put, List.setIfInBounds_toArray, List.set_cons_zero, List.set_cons_succ]
          have HU34 := Lib.hid hu34
          clear hu34
          exact key u34 u38 u39 wq14_wq22_wq22_w5 ⟨HU34.out, HU38.out, HU39.out, HB.out, HX.out, HN.out, hS⟩
    · have HU39 : Hid (IsOne (wq4_wq22_wq22_w5.alloc (.cells #[.int .i64 2] 3)) (.slice (some ⟨wq4_wq22_wq22_w5.heap.size, 0, none⟩) 1 1) 2) := isOne_new wq4_wq22_wq22_w5 2
      try go_simp
      have hb : Below wq4_wq22_wq22_w5.heap.size wq4_wq22_wq22_w5 (wq4_wq22_wq22_w5.alloc (.cells #[.int .i64 2] 3)) := (Below.refl wq4_wq22_wq22_w5.heap.size wq4_wq22_wq22_w5).alloc (Nat.le_refl _) _
      replace HX := Lib.hid (HX.out.step hb)
      replace HN := Lib.hid (HN.out.step hb)
      replace HB := Lib.hid (HB.out.trans (hb.mono HB.out.size))
      have hS2 : (fun w' : World => w'.cell? ⟨bn + 1, 0, none⟩ = some (.slice (some ⟨w.heap.size, 0, none⟩) 3 3) ∧ w'.cell? ⟨bn + 1, 1, none⟩ = some (.slice (some ⟨bn, 0, none⟩) 3 3)) (wq4_wq22_wq22_w5.alloc (.cells #[.int .i64 2] 3)) := ⟨cell_of_ans hb hS.1, cell_of_ans hb hS.2⟩
      clear hb
      refine hK.out _ _ (fun _ => hS2) (fun hS => ?_)
      replace hS := hS (by decide)
      clear hK K hS2
      try simp only [Act.put, List.setIfInBounds_toArray, List.set_cons_zero, List.set_cons_succ]
      generalize (wq4_wq22_wq22_w5.alloc (.cells #[.int .i64 2] 3)) = wq15_wq22_wq22_w5 at *
      generalize (Value.slice (some ⟨wq4_wq22_wq22_w5.heap.size, 0, none⟩) 1 1) = u39 at *
      refine T_ready (rs := [34, 38]) (by kernel_rfl) (by simp) ?_
      refine TReady.cons rfl (fun K hK => ?_) (TReady.cons rfl (fun K hK => ?_) TReady.nil)
      · try go_simp
        refine (laid3_c _).mono ?_
        rintro e wq16_wq22_wq22_w5 ⟨u34, rfl, hu34, hb⟩
        replace HX := Lib.hid (HX.out.step hb)
        replace HN := Lib.hid (HN.out.step hb)
        replace HU39 := Lib.hid (HU39.out.step hb)
        replace HB := Lib.hid (HB.out.trans (hb.mono HB.out.size))
        have hS2 : (fun w' : World => w'.cell? ⟨bn + 1, 0, none⟩ = some (.slice (some ⟨w.heap.size, 0, none⟩) 3 3) ∧ w'.cell? ⟨bn + 1, 1, none⟩ = some (.slice (some ⟨bn, 0, none⟩) 3 3)) wq16_wq22_wq22_w5 := ⟨cell_of_ans hb hS.1, cell_of_ans hb hS.2⟩
        clear hb
        try go_simp
        refine hK.out _ _ (fun _ => hS2) (fun hS => ?_)
        replace hS := hS (by decide)
        clear hK K hS2
        try simp only [Act.put, List.setIfInBounds_toArray, List.set_cons_zero, List.set_cons_succ]
        have HU34 := Lib.hid hu34
        clear hu34
        refine T_ready (rs := [38]) (by kernel_rfl) (by simp) ?_
        refine TReady.cons rfl (fun K hK => ?_) TReady.nil
        · have HU38 : Hid (IsXs (wq16_wq22_wq22_w5.alloc (.cells #[.slice (some ⟨w.heap.size, 0, none⟩) 3 3, .slice (some ⟨bn, 0, none⟩) 3 3, .slice (some ⟨w.heap.size, 0, none⟩) 3 3, .slice (some ⟨bn, 0, none⟩) 3 3, .slice (some ⟨w.heap.size, 0, none⟩) 3 3, .slice (some ⟨bn, 0, none⟩) 3 3] 60)) (.slice (some ⟨wq16_wq22_wq22_w5.heap.size, 0, none⟩) 3 3) 3) := isXs_new wq16_wq22_wq22_w5 _ _ 3 (by omega) HX.out HN.out
          try go_simp
          have hb : Below wq16_wq22_wq22_w5.heap.size wq16_wq22_wq22_w5 (wq16_wq22_wq22_w5.alloc (.cells #[.slice (some ⟨w.heap.size, 0, none⟩) 3 3, .slice (some ⟨bn, 0, none⟩) 3 3, .slice (some ⟨w.heap.size, 0, none⟩) 3 3, .slice (some ⟨bn, 0, none⟩) 3 3, .slice (some ⟨w.heap.size, 0, none⟩) 3 3, .slice (some ⟨bn, 0, none⟩) 3 3] 60)) := (Below.refl wq16_wq22_wq22_w5.heap.size wq16_wq22_wq22_w5).alloc (Nat.le_refl _) _
          replace HX := Lib.hid (HX.out.step hb)
          replace HN := Lib.hid (HN.out.step hb)
          replace HU39 := Lib.hid (HU39.out.step hb)
          replace HU34 := Lib.hid (HU34.out.step hb)
          replace HB := Lib.hid (HB.out.trans (hb.mono HB.out.size))
          have hS2 : (fun w' : World => w'.cell? ⟨bn + 1, 0, none⟩ = some (.slice (some ⟨w.heap.size, 0, none⟩) 3 3) ∧ w'.cell? ⟨bn + 1, 1, none⟩ = some (.slice (some ⟨bn, 0, none⟩) 3 3)) (wq16_wq22_wq22_w5.alloc (.cells #[.slice (some ⟨w.heap.size, 0, none⟩) 3 3, .slice (some ⟨bn, 0, none⟩) 3 3, .slice (some ⟨w.heap.size, 0, none⟩) 3 3, .slice (some ⟨bn, 0, none⟩) 3 3, .slice (some ⟨w.heap.size, 0, none⟩) 3 3, .slice (some ⟨bn, 0, none⟩) 3 3] 60)) := ⟨cell_of_ans hb hS.1, cell_of_ans hb hS.2⟩
          clear hb
          refine hK.out _ _ (fun _ => hS2) (fun hS => ?_)
          replace hS := hS (by decide)
          clear hK K hS2
          try simp only [Act.put, List.setIfInBounds_toArray, List.set_cons_zero, List.set_cons_succ]
          generalize (wq16_wq22_wq22_w5.alloc (.cells #[.slice (some ⟨w.heap.size, 0, none⟩) 3 3, .slice (some ⟨bn, 0, none⟩) 3 3, .slice (some ⟨w.heap.size, 0, none⟩) 3 3, .slice (some ⟨bn, 0, none⟩) 3 3, .slice (some ⟨w.heap.size, 0, none⟩) 3 3, .slice (some ⟨bn, 0, none⟩) 3 3] 60)) = wq17_wq22_wq22_w5 at *
          generalize (Value.slice (some ⟨wq16_wq22_wq22_w5.heap.size, 0, none⟩) 3 3) = u38 at *
          exact key u34 u38 u39 wq17_wq22_wq22_w5 ⟨HU34.out, HU38.out, HU39.out, HB.out, HX.out, HN.out, hS⟩
      · have HU38 : Hid (IsXs (wq15_wq22_wq22_w5.alloc (.cells #[.slice (some ⟨w.heap.size, 0, none⟩) 3 3, .slice (some ⟨bn, 0, none⟩) 3 3, .slice (some ⟨w.heap.size, 0, none⟩) 3 3, .slice (some ⟨bn, 0, none⟩) 3 3, .slice (some ⟨w.heap.size, 0, none⟩) 3 3, .slice (some ⟨bn, 0, none⟩) 3 3] 60)) (.slice (some ⟨wq15_wq22_wq22_w5.heap.size, 0, none⟩) 3 3) 3) := isXs_new wq15_wq22_wq22_w5 _ _ 3 (by omega) HX.out HN.out
        try go_simp
        have hb : Below wq15_wq22_wq22_w5.heap.size wq15_wq22_wq22_w5 (wq15_wq22_wq22_w5.alloc (.cells #[.slice (some ⟨w.heap.size, 0, none⟩) 3 3, .slice (some ⟨bn, 0, none⟩) 3 3, .slice (some ⟨w.heap.size, 0, none⟩) 3 3, .slice (some ⟨bn, 0, none⟩) 3 3, .slice (some ⟨w.heap.size, 0, none⟩) 3 3, .slice (some ⟨bn, 0, none⟩) 3 3] 60)) := (Below.refl wq15_wq22_wq22_w5.heap.size wq15_wq22_wq22_w5).alloc (Nat.le_refl _) _
        replace HX := Lib.hid (HX.out.step hb)
        replace HN := Lib.hid (HN.out.step hb)
        replace HU39 := Lib.hid (HU39.out.step hb)
        replace HB := Lib.hid (HB.out.trans (hb.mono HB.out.size))
        have hS2 : (fun w' : World => w'.cell? ⟨bn + 1, 0, none⟩ = some (.slice (some ⟨w.heap.size, 0, none⟩) 3 3) ∧ w'.cell? ⟨bn + 1, 1, none⟩ = some (.slice (some ⟨bn, 0, none⟩) 3 3)) (wq15_wq22_wq22_w5.alloc (.cells #[.slice (some ⟨w.heap.size, 0, none⟩) 3 3, .slice (some ⟨bn, 0, none⟩) 3 3, .slice (some ⟨w.heap.size, 0, none⟩) 3 3, .slice (some ⟨bn, 0, none⟩) 3 3, .slice (some ⟨w.heap.size, 0, none⟩) 3 3, .slice (some ⟨bn, 0, none⟩) 3 3] 60)) := ⟨cell_of_ans hb hS.1, cell_of_ans hb hS.2⟩
        clear hb
        refine hK.out _ _ (fun _ => hS2) (fun hS => ?_)
        replace hS := hS (by decide)
        clear hK K hS2
        try simp only [Act.put, List.setIfInBounds_toArray, List.set_cons_zero, List.set_cons_succ]
        generalize (wq15_wq22_wq22_w5.alloc (.cells #[.slice (some ⟨w.heap.size, 0, none⟩) 3 3, .slice (some ⟨bn, 0, none⟩) 3 3, .slice (some ⟨w.heap.size, 0, none⟩) 3 3, .slice (some ⟨bn, 0, none⟩) 3 3, .slice (some ⟨w.heap.size, 0, none⟩) 3 3, .slice (some ⟨bn, 0, none⟩) 3 3] 60)) = wq18_wq22_wq22_w5 at *
        generalize (Value.slice (some ⟨wq15_wq22_wq22_w5.heap.size, 0, none⟩) 3 3) = u38 at *
        refine T_ready (rs := [34]) (by kernel_rfl) (by simp) ?_
        refine TReady.cons rfl (fun K hK => ?_) TReady.nil
        · try go_simp
          refine (laid3_c _).mono ?_
          rintro e wq19_wq22_wq22_w5 ⟨u34, rfl, hu34, hb⟩
          replace HX := Lib.hid (HX.out.step hb)
          replace HN := Lib.hid (HN.out.step hb)
          replace HU39 := Lib.hid (HU39.out.step hb)
          replace HU38 := Lib.hid (HU38.out.step hb)
          replace HB := Lib.hid (HB.out.trans (hb.mono HB.out.size))
          have hS2 : (fun w' : World => w'.cell? ⟨bn + 1, 0, none⟩ = some (.slice (some ⟨w.heap.size, 0, none⟩) 3 3) ∧ w'.cell? ⟨bn + 1, 1, none⟩ = some (.slice (some ⟨bn, 0, none⟩) 3 3)) wq19_wq22_wq22_w5 := ⟨cell_of_ans hb hS.1, cell_of_ans hb hS.2⟩
          clear hb
          try go_simp
          refine hK.out _ _ (fun _ => hS2) (fun hS => ?_)
          replace hS := hS (by decide)
          clear hK K hS2
          try simp only [Act.put, List.setIfInBounds_toArray, List.set_cons_zero, List.set_cons_succ]
          have HU34 := Lib.hid hu34
          clear hu34
          exact key u34 u38 u39 wq19_wq22_wq22_w5 ⟨HU34.out, HU38.out, HU39.out, HB.out, HX.out, HN.out, hS⟩
  clear HB HX HN  hS
  intro u34 u38 u39 wq25_wq22_wq22_w5 ⟨hu34, hu38, hu39, hB, hX, hN, hS⟩
  have HB := Lib.hid hB
  have HX := Lib.hid hX
  have HN := Lib.hid hN
  have HU34 := Lib.hid hu34
  have HU38 := Lib.hid hu38
  have HU39 := Lib.hid hu39
  clear hB hX hN hu34 hu38 hu39
  obtain ⟨a39, ha39, hi39⟩ := HU39.out
  subst ha39
  refine T_ready (rs := [40]) (by kernel_rfl) (by simp) ?_
  refine TReady.cons rfl (fun K hK => ?_) TReady.nil
  try go_simp
  refine (prove_names_c _ _ 3 _ 2 true _ HU34.out HU38.out (by omega) hi39 nm_r3).mono ?_
  rintro e wq26_wq22_wq22_w5 ⟨rfl, hb⟩
  replace HX := Lib.hid (HX.out.step hb)
  replace HN := Lib.hid (HN.out.step hb)
  replace HU34 := Lib.hid (HU34.out.step hb)
  replace HU38 := Lib.hid (HU38.out.step hb)
  replace HU39 := Lib.hid (HU39.out.step hb)
  replace HB := Lib.hid (HB.out.trans (hb.mono HB.out.size))
  have hS2 : (fun w' : World => w'.cell? ⟨bn + 1, 0, none⟩ = some (.slice (some ⟨w.heap.size, 0, none⟩) 3 3) ∧ w'.cell? ⟨bn + 1, 1, none⟩ = some (.slice (some ⟨bn, 0, none⟩) 3 3)) wq26_wq22_wq22_w5 := ⟨cell_of_ans hb hS.1, cell_of_ans hb hS.2⟩
  clear hb
  try go_simp
  refine hK.out _ _ (fun _ => hS2) (fun hS => ?_)
  replace hS := hS (by decide)
  clear hK K hS2
  try simp only [Act.put, List.setIfInBounds_toArray, List.set_cons_zero, List.set_cons_succ]
  clear HU34 HU38 HU39
  clear hi39
  refine' T_take (i := 41) (v := _) rfl (by kernel_rfl) (by kernel_rfl) (by kernel_rfl) (by kernel_rfl) (fun _ _ _ h => h) (by kernel_rfl) hS ?_ ?_
  rotate_left 1
  · intro Wv hW
    obtain ⟨s0, s1⟩ := hW
    go_simp
    first | done | with_reducible rfl
  try simp only [Act.put, List.setIfInBounds_toArray, List.set_cons_zero, List.set_cons_succ]
  refine' T_take (i := 42) (v := _) rfl (by kernel_rfl) (by kernel_rfl) (by kernel_rfl) (by kernel_rfl) (fun _ _ _ h => h) (by kernel_rfl) hS ?_ ?_
  rotate_left 1
  · intro Wv hW
    obtain ⟨s0, s1⟩ := hW
    go_simp
    first | done | with_reducible rfl
  try simp only [Act.put, List.setIfInBounds_toArray, List.set_cons_zero, List.set_cons_succ]
  refine' T_take (i := 43) (v := _) rfl (by kernel_rfl) (by kernel_rfl) (by kernel_rfl) (by kernel_rfl) (fun _ _ _ h => h) (by kernel_rfl) hS ?_ ?_
  rotate_left 1
  · intro Wv hW
    obtain ⟨s0, s1⟩ := hW
    go_simp
    first | done | with_reducible rfl
  try simp only [Act.put, List.setIfInBounds_toArray, List.set_cons_zero, List.set_cons_succ]
  refine' T_take (i := 45) (v := _) rfl (by kernel_rfl) (by kernel_rfl) (by kernel_rfl) (by kernel_rfl) (fun _ _ _ h => h) (by kernel_rfl) hS ?_ ?_
  rotate_left 1
  · intro Wv hW
    obtain ⟨s0, s1⟩ := hW
    go_simp
    first | done | with_reducible rfl
  try simp only [Act.put, List.setIfInBounds_toArray, List.set_cons_zero, List.set_cons_succ]
  refine' T_take (i := 46) (v := _) rfl (by kernel_rfl) (by kernel_rfl) (by kernel_rfl) (by kernel_rfl) (fun _ _ _ h => h) (by kernel_rfl) hS ?_ ?_
  rotate_left 1
  · intro Wv hW
    obtain ⟨s0, s1⟩ := hW
    go_simp
    first | done | with_reducible rfl
  try simp only [Act.put, List.setIfInBounds_toArray, List.set_cons_zero, List.set_cons_succ]
  refine' T_take (i := 47) (v := _) rfl (by kernel_rfl) (by kernel_rfl) (by kernel_rfl) (by kernel_rfl) (fun _ _ _ h => h) (by kernel_rfl) hS ?_ ?_
  rotate_left 1
  · intro Wv hW
    obtain ⟨s0, s1⟩ := hW
    go_simp
    first | done | with_reducible rfl
  try simp only [Act.put, List.setIfInBounds_toArray, List.set_cons_zero, List.set_cons_succ]
  refine' T_take (i := 48) (v := _) rfl (by kernel_rfl) (by kernel_rfl) (by kernel_rfl) (by kernel_rfl) (fun _ _ _ h => h) (by kernel_rfl) hS ?_ ?_
  rotate_left 1
  · intro Wv hW
    obtain ⟨s0, s1⟩ := hW
    go_simp
    first | done | with_reducible rfl
  try simp only [Act.put, List.setIfInBounds_toArray, List.set_cons_zero, List.set_cons_succ]
  refine' merge3 (fun u44 u49 u50 W => IsLaid W u44 ∧ IsXs W u49 4 ∧ IsOne W u50 1 ∧ Below w.heap.size w W ∧ Ints W.heap.size W (some ⟨w.heap.size, 0, none⟩) [0, 0, 0] ∧ Ints W.heap.size W (some ⟨bn, 0, none⟩) [25, 0, 0] ∧ (fun w' : World => w'.cell? ⟨bn + 1, 0, none⟩ = some (.slice (some ⟨w.heap.size, 0, none⟩) 3 3) ∧ w'.cell? ⟨bn + 1, 1, none⟩ = some (.slice (some ⟨bn, 0, none⟩) 3 3)) W) _ (fun key => ?_) ?_
  rotate_left 1
  · refine T_ready (rs := [44, 49, 50]) (by kernel_rfl) (by simp) ?_
    refine TReady.cons rfl (fun K hK => ?_) (TReady.cons rfl (fun K hK => ?_) (TReady.cons rfl (fun K hK => ?_) TReady.nil))
    · try go_simp
      refine (laid3_c _).mono ?_
      rintro e wq27_wq22_wq22_w5 ⟨u44, rfl, hu44, hb⟩
      replace HX := Lib.hid (HX.out.step hb)
      replace HN := Lib.hid (HN.out.step hb)
      replace HB := Lib.hid (HB.out.trans (hb.mono HB.out.size))
      have hS2 : (fun w' : World => w'.cell? ⟨bn + 1, 0, none⟩ = some (.slice (some ⟨w.heap.size, 0, none⟩) 3 3) ∧ w'.cell? ⟨bn + 1, 1, none⟩ = some (.slice (some ⟨bn, 0, none⟩) 3 3)) wq27_wq22_wq22_w5 := ⟨cell_of_ans hb hS.1, cell_of_ans hb hS.2⟩
      clear hb
      try go_simp
      refine hK.out _ _ (fun _ => hS2) (fun hS => ?_)
      replace hS := hS (by decide)
      clear hK K hS2
      try simp only [Act.put, List.setIfInBounds_toArray, List.set_cons_zero, List.set_cons_succ]
      have HU44 := Lib.hid hu44
      clear hu44
      refine T_ready (rs := [49, 50]) (by kernel_rfl) (by simp) ?_
      refine TReady.cons rfl (fun K hK => ?_) (TReady.cons rfl (fun K hK => ?_) TReady.nil)
      · have HU49 : Hid (IsXs (wq27_wq22_wq22_w5.alloc (.cells #[.slice (some ⟨w.heap.size, 0, none⟩) 3 3, .slice (some ⟨bn, 0, none⟩) 3 3, .slice (some ⟨w.heap.size, 0, none⟩) 3 3, .slice (some ⟨bn, 0, none⟩) 3 3, .slice (some ⟨w.heap.size, 0, none⟩) 3 3, .slice (some ⟨bn, 0, none⟩) 3 3, .slice (some ⟨w.heap.size, 0, none⟩) 3 3, .slice (some ⟨bn, 0, none⟩) 3 3] 60)) (.slice (some ⟨wq27_wq22_wq22_w5.heap.size, 0, none⟩) 4 4) 4) := isXs_new wq27_wq22_wq22_w5 _ _ 4 (by omega) HX.out HN.out
        try go_simp
        have hb : Below wq27_wq22_wq22_w5.heap.size wq27_wq22_wq22_w5 (wq27_wq22_wq22_w5.alloc (.cells #[.slice (some ⟨w.heap.size, 0, none⟩) 3 3, .slice (some ⟨bn, 0, none⟩) 3 3, .slice (some ⟨w.heap.size, 0, none⟩) 3 3, .slice (some ⟨bn, 0, none⟩) 3 3, .slice (some ⟨w.heap.size, 0, none⟩) 3 3, .slice (some ⟨bn, 0, none⟩) 3 3, .slice (some ⟨w.heap.size, 0, none⟩) 3 3, .slice (some ⟨bn, 0, none⟩) 3 3] 60)) := (Below.refl wq27_wq22_wq22_w5.heap.size wq27_wq22_wq22_w5).alloc (Nat.le_refl _) _
        replace HX := Lib.hid (HX.out.step hb)
        replace HN := Lib.hid (HN.out.step hb)
        replace HU44 := Lib.hid (HU44.out.step hb)
        replace HB := Lib.hid (HB.out.trans (hb.mono HB.out.size))
        have hS2 : (fun w' : World => w'.cell? ⟨bn + 1, 0, none⟩ = some (.slice (some ⟨w.heap.size, 0, none⟩) 3 3) ∧ w'.cell? ⟨bn + 1, 1, none⟩ = some (.slice (some ⟨bn, 0, none⟩) 3 3)) (wq27_wq22_wq22_w5.alloc (.cells #[.slice (some ⟨w.heap.size, 0, none⟩) 3 3, .slice (some ⟨bn, 0, none⟩) 3 3, .slice (some ⟨w.heap.size, 0, none⟩) 3 3, .slice (some ⟨bn, 0, none⟩) 3 3, .slice (some ⟨w.heap.size, 0, none⟩) 3 3, .slice (some ⟨bn, 0, none⟩) 3 3, .slice (some ⟨w.heap.size, 0, none⟩) 3 3, .slice (some ⟨bn, 0, none⟩) 3 3] 60)) := ⟨cell_of_ans hb hS.1, cell_of_ans hb hS.2⟩
        clear hb
        refine hK.out _ _ (fun _ => hS2) (fun hS => ?_)
        replace hS := hS (by decide)
        clear hK K hS2
        try simp only [Act.put, List.setIfInBounds_toArray, List.set_cons_zero, List.set_cons_succ]
        generalize (wq27_wq22_wq22_w5.alloc (.cells #[.slice (some ⟨w.heap.size, 0, none⟩) 3 3, .slice (some ⟨bn, 0, none⟩) 3 3, .slice (some ⟨w.heap.size, 0, none⟩) 3 3, .slice (some ⟨bn, 0, none⟩) 3 3, .slice (some ⟨w.heap.size, 0, none⟩) 3 3, .slice (some ⟨bn, 0, none⟩) 3 3, .slice (some ⟨w.heap.size, 0, none⟩) 3 3, .slice (some ⟨bn, 0, none⟩) 3 3] 60)) = wq28_wq22_wq22_w5 at *
        generalize (Value.slice (some ⟨wq27_wq22_wq22_w5.heap.size, 0, none⟩) 4 4) = u49 at *
        refine T_ready (rs := [50]) (by kernel_rfl) (by simp) ?_
        refine TReady.cons rfl (fun K hK => ?_) TReady.nil
        · have HU50 : Hid (IsOne (wq28_wq22_wq22_w5.alloc (.cells #[.int .i64 1] 3)) (.slice (some ⟨wq28_wq22_wq22_w5.heap.size, 0, none⟩) 1 1) 1) := isOne_new wq28_wq22_wq22_w5 1
          try go_simp
          have hb : Below wq28_wq22_wq22_w5.heap.size wq28_wq22_wq22_w5 (wq28_wq22_wq22_w5.alloc (.cells #[.int .i64 1] 3)) := (Below.refl wq28_wq22_wq22_w5.heap.size wq28_wq22_wq22_w5).alloc (Nat.le_refl _) _
          replace HX := Lib.hid (HX.out.step hb)
          replace HN := Lib.hid (HN.out.step hb)
          replace HU44 := Lib.hid (HU44.out.step hb)
          replace HU49 := Lib.hid (HU49.out.step hb)
          replace HB := Lib.hid (HB.out.trans (hb.mono HB.out.size))
          have hS2 : (fun w' : World => w'.cell? ⟨bn + 1, 0, none⟩ = some (.slice (some ⟨w.heap.size, 0, none⟩) 3 3) ∧ w'.cell? ⟨bn + 1, 1, none⟩ = some (.slice (some ⟨bn, 0, none⟩) 3 3)) (wq28_wq22_wq22_w5.alloc (.cells #[.int .i64 1] 3)) := ⟨cell_of_ans hb hS.1, cell_of_ans hb hS.2⟩
          clear hb
          refine hK.out _ _ (fun _ => hS2) (fun hS => ?_)
          replace hS := hS (by decide)
          clear hK K hS2
          try simp only [Act.put, List.setIfInBounds_toArray, List.set_cons_zero, List.set_cons_succ]
          generalize (wq28_wq22_wq22_w5.alloc (.cells #[.int .i64 1] 3)) = wq29_wq22_wq22_w5 at *
          generalize (Value.slice (some ⟨wq28_wq22_wq22_w5.heap.size, 0, none⟩) 1 1) = u50 at *
          exact key u44 u49 u50 wq29_wq22_wq22_w5 ⟨HU44.out, HU49.out, HU50.out, HB.out, HX.out, HN.out, hS⟩
      · have HU50 : Hid (IsOne (wq27_wq22_wq22_w5.alloc (.cells #[.int .i64 1] 3)) (.slice (some ⟨wq27_wq22_wq22_w5.heap.size, 0, none⟩) 1 1) 1) := isOne_new wq27_wq22_wq22_w5 1
        try go_simp
        have hb : Below wq27_wq22_wq22_w5.heap.size wq27_wq22_wq22_w5 (wq27_wq22_wq22_w5.alloc (.cells #[.int .i64 1] 3)) := (Below.refl wq27_wq22_wq22_w5.heap.size wq27_wq22_wq22_w5).alloc (Nat.le_refl _) _
        replace HX := Lib.hid (HX.out.step hb)
        replace HN := Lib.hid (HN.out.step hb)
        replace HU44 := Lib.hid (HU44.out.step hb)
        replace HB := Lib.hid (HB.out.trans (hb.mono HB.out.size))
        have hS2 : (fun w' : World => w'.cell? ⟨bn + 1, 0, none⟩ = some (.slice (some ⟨w.heap.size, 0, none⟩) 3 3) ∧ w'.cell? ⟨bn + 1, 1, none⟩ = some (.slice (some ⟨bn, 0, none⟩) 3 3)) (wq27_wq22_wq22_w5.alloc (.cells #[.int .i64 1] 3)) := ⟨cell_of_ans hb hS.1, cell_of_ans hb hS.2⟩
        clear hb
        refine hK.out _ _ (fun _ => hS2) (fun hS => ?_)
        replace hS := hS (by decide)
        clear hK K hS2
        try simp only [Act.put, List.setIfInBounds_toArray, List.set_cons_zero, List.set_cons_succ]
        generalize (wq27_wq22_wq22_w5.alloc (.cells #[.int .i64 1] 3)) = wq30_wq22_wq22_w5 at *
        generalize (Value.slice (some ⟨wq27_wq22_wq22_w5.heap.size, 0, none⟩) 1 1) = u50 at *
        refine T_ready (rs := [49]) (by kernel_rfl) (by simp) ?_
        refine TReady.cons rfl (fun K hK => ?_) TReady.nil
        · have HU49 : Hid (IsXs (wq30_wq22_wq22_w5.alloc (.cells #[.slice (some ⟨w.heap.size, 0, none⟩) 3 3, .slice (some ⟨bn, 0, none⟩) 3 3, .slice (some ⟨w.heap.size, 0, none⟩) 3 3, .slice (some ⟨bn, 0, none⟩) 3 3, .slice (some ⟨w.heap.size, 0, none⟩) 3 3, .slice (some ⟨bn, 0, none⟩) 3 3, .slice (some ⟨w.heap.size, 0, none⟩) 3 3, .slice (some ⟨bn, 0, none⟩) 3 3] 60)) (.slice (some ⟨wq30_wq22_wq22_w5.heap.size, 0, none⟩) 4 4) 4) := isXs_new wq30_wq22_wq22_w5 _ _ 4 (by omega) HX.out HN.out
          try go_simp
          have hb : Below wq30_wq22_wq22_w5.heap.size wq30_wq22_wq22_w5 (wq30_wq22_wq22_w5.alloc (.cells #[.slice (some ⟨w.heap.size, 0, none⟩) 3 3, .slice (some ⟨bn, 0, none⟩) 3 3, .slice (some ⟨w.heap.size, 0, none⟩) 3 3, .slice (some ⟨bn, 0, none⟩) 3 3, .slice (some ⟨w.heap.size, 0, none⟩) 3 3, .slice (some ⟨bn, 0, none⟩) 3 3, .slice (some ⟨w.heap.size, 0, none⟩) 3 3, .slice (some ⟨bn, 0, none⟩) 3 3] 60)) := (Below.refl wq30_wq22_wq22_w5.heap.size wq30_wq22_wq22_w5).alloc (Nat.le_refl _) _
          replace HX := Lib.hid (HX.out.step hb)
          replace HN := Lib.hid (HN.out.step hb)
          replace HU44 := Lib.hid (HU44.out.step hb)
          replace HU50 := Lib.hid (HU50.out.step hb)
          replace HB := Lib.hid (HB.out.trans (hb.mono HB.out.size))
          have hS2 : (fun w' : World => w'.cell? ⟨bn + 1, 0, none⟩ = some (.slice (some ⟨w.heap.size, 0, none⟩) 3 3) ∧ w'.cell? ⟨bn + 1, 1, none⟩ = some (.slice (some ⟨bn, 0, none⟩) 3 3)) (wq30_wq22_wq22_w5.alloc (.cells #[.slice (some ⟨w.heap.size, 0, none⟩) 3 3, .slice (some ⟨bn, 0, none⟩) 3 3, .slice (some ⟨w.heap.size, 0, none⟩) 3 3, .slice (some ⟨bn, 0, none⟩) 3 3, .slice (some ⟨w.heap.size, 0, none⟩) 3 3, .slice (some ⟨bn, 0, none⟩) 3 3, .slice (some ⟨w.heap.size, 0, none⟩) 3 3, .slice (some ⟨bn, 0, none⟩) 3 3] 60)) := ⟨cell_of_ans hb hS.1, cell_of_ans hb hS.2⟩
          clear hb
          refine hK.out _ _ (fun _ => hS2) (fun hS => ?_)
          replace hS := hS (by decide)
          clear hK K hS2
          try simp only [Act.put, List.setIfInBounds_toArray, List.set_cons_zero, List.set_cons_succ]
          generalize (wq30_wq22_wq22_w5.alloc (.cells #[.slice (some ⟨w.heap.size, 0, none⟩) 3 3, .slice (some ⟨bn, 0, none⟩) 3 3, .slice (some ⟨w.heap.size, 0, none⟩) 3 3, .slice (some ⟨bn, 0, none⟩) 3 3, .slice (some ⟨w.heap.size, 0, none⟩) 3 3, .slice (some ⟨bn, 0, none⟩) 3 3, .slice (some ⟨w.heap.size, 0, none⟩) 3 3, .slice (some ⟨bn, 0, none⟩) 3 3] 60)) = wq31_wq22_wq22_w5 at *
          generalize (Value.slice (some ⟨wq30_wq22_wq22_w5.heap.size, 0, none⟩) 4 4) = u49 at *
          exact key u44 u49 u50 wq31_wq22_wq22_w5 ⟨HU44.out, HU49.out, HU50.out, HB.out, HX.out, HN.out, hS⟩
    · have HU49 : Hid (IsXs (wq26_wq22_wq22_w5.alloc (.cells #[.slice (some ⟨w.heap.size, 0, none⟩) 3 3, .slice (some ⟨bn, 0, none⟩) 3 3, .slice (some ⟨w.heap.size, 0, none⟩) 3 3, .slice (some ⟨bn, 0, none⟩) 3 3, .slice (some ⟨w.heap.size, 0, none⟩) 3 3, .slice (some ⟨bn, 0, none⟩) 3 3, .slice (some ⟨w.heap.size, 0, none⟩) 3 3, .slice (some ⟨bn, 0, none⟩) 3 3] 60)) (.slice (some ⟨wq26_wq22_wq22_w5.heap.size, 0, none⟩) 4 4) 4) := isXs_new wq26_wq22_wq22_w5 _ _ 4 (by omega) HX.out HN.out
      try go_simp
      have hb : Below wq26_wq22_wq22_w5.heap.size wq26_wq22_wq22_w5 (wq26_wq22_wq22_w5.alloc (.cells #[.slice (some ⟨w.heap.size, 0, none⟩) 3 3, .slice (some ⟨bn, 0, none⟩) 3 3, .slice (some ⟨w.heap.size, 0, none⟩) 3 3, .slice (some ⟨bn, 0, none⟩) 3 3, .slice (some ⟨w.heap.size, 0, none⟩) 3 3, .slice (some ⟨bn, 0, none⟩) 3 3, .slice (some ⟨w.heap.size, 0, none⟩) 3 3, .slice (some ⟨bn, 0, none⟩) 3 3] 60)) := (Below.refl wq26_wq22_wq22_w5.heap.size wq26_wq22_wq22_w5).alloc (Nat.le_refl _) _
      replace HX := Lib.hid (HX.out.step hb)
      replace HN := Lib.hid (HN.out.step hb)
      replace HB := Lib.hid (HB.out.trans (hb.mono HB.out.size))
      have hS2 : (fun w' : World => w'.cell? ⟨bn + 1, 0, none⟩ = some (.slice (some ⟨w.heap.size, 0, none⟩) 3 3) ∧ w'.cell? ⟨bn + 1, 1, none⟩ = some (.slice (some ⟨bn, 0, none⟩) 3 3)) (wq26_wq22_wq22_w5.alloc (.cells #[.slice (some ⟨w.heap.size, 0, none⟩) 3 3, .slice (some ⟨bn, 0, none⟩) 3 3, .slice (some ⟨w.heap.size, 0, none⟩) 3 3, .slice (some ⟨bn, 0, none⟩) 3 3, .slice (some ⟨w.heap.size, 0, none⟩) 3 3, .slice (some ⟨bn, 0, none⟩) 3 3, .slice (some ⟨w.heap.size, 0, none⟩) 3 3, .slice (some ⟨bn, 0, none⟩) 3 3] 60)) := ⟨cell_of_ans hb hS.1, cell_of_ans hb hS.2⟩
      clear hb
      refine hK.out _ _ (fun _ => hS2) (fun hS => ?_)
      replace hS := hS (by decide)
      clear hK K hS2
      try simp only [Act.put, List.setIfInBounds_toArray, List.set_cons_zero, List.set_cons_succ]
      generalize (wq26_wq22_wq22_w5.alloc (.cells #[.slice (some ⟨w.heap.size, 0, none⟩) 3 3, .slice (some ⟨bn, 0, none⟩) 3 3, .slice (some ⟨w.heap.size, 0, none⟩) 3 3, .slice (some ⟨bn, 0, none⟩) 3 3, .slice (some ⟨w.heap.size, 0, none⟩) 3 3, .slice (some ⟨bn, 0, none⟩) 3 3, .slice (some ⟨w.heap.size, 0, none⟩) 3 3, .slice (some ⟨bn, 0, none⟩) 3 3] 60)) = wq32_wq22_wq22_w5 at *
      generalize (Value.slice (some ⟨wq26_wq22_wq22_w5.heap.size, 0, none⟩) 4 4) = u49 at *
      refine T_ready (rs := [44, 50]) (by kernel_rfl) (by simp) ?_
      refine TReady.cons rfl (fun K hK => ?_) (TReady.cons rfl (fun K hK => ?_) TReady.nil)
      · try go_simp
        refine (laid3_c _).mono ?_
        rintro e wq33_wq22_wq22_w5 ⟨u44, rfl, hu44, hb⟩
        replace HX := Lib.hid (HX.out.step hb)
        replace HN := Lib.hid (HN.out.step hb)
        replace HU49 := Lib.hid (HU49.out.step hb)
        replace HB := Lib.hid (HB.out.trans (hb.mono HB.out.size))
        have hS2 : (fun w' : World => w'.cell? ⟨bn + 1, 0, none⟩ = some (.slice (some ⟨w.heap.size, 0, none⟩) 3 3) ∧ w'.cell? ⟨bn + 1, 1, none⟩ = some (.slice (some ⟨bn, 0, none⟩) 3 3)) wq33_wq22_wq22_w5 := ⟨cell_of_ans hb hS.1, cell_of_ans hb hS.2⟩
        clear hb
        try go_simp
        refine hK.out _ _ (fun _ => hS2) (fun hS => ?_)
        replace hS := hS (by decide)
        clear hK K hS2
        try simp only [Act.put, List.setIfInBounds_toArray, List.set_cons_zero, List.set_cons_succ]
        have HU44 := Lib.hid hu44
        clear hu44
        refine T_ready (rs := [50]) (by kernel_rfl) (by simp) ?_
        refine TReady.cons rfl (fun K hK => ?_) TReady.nil
        · have HU50 : Hid (IsOne (wq33_wq22_wq22_w5.alloc (.cells #[.int .i64 1] 3)) (.slice (some ⟨wq33_wq22_wq22_w5.heap.size, 0, none⟩) 1 1) 1) := isOne_new wq33_wq22_wq22_w5 1
          try go_simp
          have hb : Below wq33_wq22_wq22_w5.heap.size wq33_wq22_wq22_w5 (wq33_wq22_wq22_w5.alloc (.cells #[.int .i64 1] 3)) := (Below.refl wq33_wq22_wq22_w5.heap.size wq33_wq22_wq22_w5).alloc (Nat.le_refl _) _
          replace HX := Lib.hid (HX.out.step hb)
          replace HN := Lib.hid (HN.out.step hb)
          replace HU49 := Lib.hid (HU49.out.step hb)
          replace HU44 := Lib.hid (HU44.out.step hb)
          replace HB := Lib.hid (HB.out.trans (hb.mono HB.out.size))
          have hS2 : (fun w' : World => w'.cell? ⟨bn + 1, 0, none⟩ = some (.slice (some ⟨w.heap.size, 0, none⟩) 3 3) ∧ w'.cell? ⟨bn + 1, 1, none⟩ = some (.slice (some ⟨bn, 0, none⟩) 3 3)) (wq33_wq22_wq22_w5.alloc (.cells #[.int .i64 1] 3)) := ⟨cell_of_ans hb hS.1, cell_of_ans hb hS.2⟩
          clear hb
          refine hK.out _ _ (fun _ => hS2) (fun hS => ?_)
          replace hS := hS (by decide)
          clear hK K hS2
          try simp only [Act.put, List.setIfInBounds_toArray, List.set_cons_zero, List.set_cons_succ]
          generalize (wq33_wq22_wq22_w5.alloc (.cells #[.int .i64 1] 3)) = wq34_wq22_wq22_w5 at *
          generalize (Value.slice (some ⟨wq33_wq22_wq22_w5.heap.size, 0, none⟩) 1 1) = u50 at *
          exact key u44 u49 u50 wq34_wq22_wq22_w5 ⟨HU44.out, HU49.out, HU50.out, HB.out, HX.out, HN.out, hS⟩
      · have HU50 : Hid (IsOne (wq32_wq22_wq22_w5.alloc (.cells #[.int .i64 1] 3)) (.slice (some ⟨wq32_wq22_wq22_w5.heap.size, 0, none⟩) 1 1) 1) := isOne_new wq32_wq22_wq22_w5 1
        try go_simp
        have hb : Below wq32_wq22_wq22_w5.heap.size wq32_wq22_wq22_w5 (wq32_wq22_wq22_w5.alloc (.cells #[.int .i64 1] 3)) := (Below.refl wq32_wq22_wq22_w5.heap.size wq32_wq22_wq22_w5).alloc (Nat.le_refl _) _
        replace HX := Lib.hid (HX.out.step hb)
        replace HN := Lib.hid (HN.out.step hb)
        replace HU49 := Lib.hid (HU49.out.step hb)
        replace HB := Lib.hid (HB.out.trans (hb.mono HB.out.size))
        have hS2 : (fun w' : World => w'.cell? ⟨bn + 1, 0, none⟩ = some (.slice (some ⟨w.heap.size, 0, none⟩) 3 3) ∧ w'.cell? ⟨bn + 1, 1, none⟩ = some (.slice (some ⟨bn, 0, none⟩) 3 3)) (wq32_wq22_wq22_w5.alloc (.cells #[.int .i64 1] 3)) := ⟨cell_of_ans hb hS.1, cell_of_ans hb hS.2⟩
        clear hb
        refine hK.out _ _ (fun _ => hS2) (fun hS => ?_)
        replace hS := hS (by decide)
        clear hK K hS2
        try simp only [Act.put, List.setIfInBounds_toArray, List.set_cons_zero, List.set_cons_succ]
        generalize (wq32_wq22_wq22_w5.alloc (.cells #[.int .i64 1] 3)) = wq35_wq22_wq22_w5 at *
        generalize (Value.slice (some ⟨wq32_wq22_wq22_w5.heap.size, 0, none⟩) 1 1) = u50 at *
        refine T_ready (rs := [44]) (by kernel_rfl) (by simp) ?_
        refine TReady.cons rfl (fun K hK => ?_) TReady.nil
        · try go_simp
          refine (laid3_c _).mono ?_
          rintro e wq36_wq22_wq22_w5 ⟨u44, rfl, hu44, hb⟩
          replace HX := Lib.hid (HX.out.step hb)
          replace HN := Lib.hid (HN.out.step hb)
          replace HU49 := Lib.hid (HU49.out.step hb)
          replace HU50 := Lib.hid (HU50.out.step hb)
          replace HB := Lib.hid (HB.out.trans (hb.mono HB.out.size))
          have hS2 : (fun w' : World => w'.cell? ⟨bn + 1, 0, none⟩ = some (.slice (some ⟨w.heap.size, 0, none⟩) 3 3) ∧ w'.cell? ⟨bn + 1, 1, none⟩ = some (.slice (some ⟨bn, 0, none⟩) 3 3)) wq36_wq22_wq22_w5 := ⟨cell_of_ans hb hS.1, cell_of_ans hb hS.2⟩
          clear hb
          try go_simp
          refine hK.out _ _ (fun _ => hS2) (fun hS => ?_)
          replace hS := hS (by decide)
          clear hK K hS2
          try simp only [Act.put, List.setIfInBounds_toArray, List.set_cons_zero, List.set_cons_succ]
          have HU44 := Lib.hid hu44
          clear hu44
          exact key u44 u49 u50 wq36_wq22_wq22_w5 ⟨HU44.out, HU49.out, HU50.out, HB.out, HX.out, HN.out, hS⟩
    · have HU50 : Hid (IsOne (wq26_wq22_wq22_w5.alloc (.cells #[.int .i64 1] 3)) (.slice (some ⟨wq26_wq22_wq22_w5.heap.size, 0, none⟩) 1 1) 1) := isOne_new wq26_wq22_wq22_w5 1
      try go_simp
      have hb : Below wq26_wq22_wq22_w5.heap.size wq26_wq22_wq22_w5 (wq26_wq22_wq22_w5.alloc (.cells #[.int .i64 1] 3)) := (Below.refl wq26_wq22_wq22_w5.heap.size wq26_wq22_wq22_w5).alloc (Nat.le_refl _) _
      replace HX := Lib.hid (HX.out.step hb)
      replace HN := Lib.hid (HN.out.step hb)
      replace HB := Lib.hid (HB.out.trans (hb.mono HB.out.size))
      have hS2 : (fun w' : World => w'.cell? ⟨bn + 1, 0, none⟩ = some (.slice (some ⟨w.heap.size, 0, none⟩) 3 3) ∧ w'.cell? ⟨bn + 1, 1, none⟩ = some (.slice (some ⟨bn, 0, none⟩) 3 3)) (wq26_wq22_wq22_w5.alloc (.cells #[.int .i64 1] 3)) := ⟨cell_of_ans hb hS.1, cell_of_ans hb hS.2⟩
      clear hb
      refine hK.out _ _ (fun _ => hS2) (fun hS => ?_)
      replace hS := hS (by decide)
      clear hK K hS2
      try simp only [Act.put, List.setIfInBounds_toArray, List.set_cons_zero, List.set_cons_succ]
      generalize (wq26_wq22_wq22_w5.alloc (.cells #[.int .i64 1] 3)) = wq37_wq22_wq22_w5 at *
      generalize (Value.slice (some ⟨wq26_wq22_wq22_w5.heap.size, 0, none⟩) 1 1) = u50 at *
      refine T_ready (rs := [44, 49]) (by kernel_rfl) (by simp) ?_
      refine TReady.cons rfl (fun K hK => ?_) (TReady.cons rfl (fun K hK => ?_) TReady.nil)
      · try go_simp
        refine (laid3_c _).mono ?_
        rintro e wq38_wq22_wq22_w5 ⟨u44, rfl, hu44, hb⟩
        replace HX := Lib.hid (HX.out.step hb)
        replace HN := Lib.hid (HN.out.step hb)
        replace HU50 := Lib.hid (HU50.out.step hb)
        replace HB := Lib.hid (HB.out.trans (hb.mono HB.out.size))
        have hS2 : (fun w' : World => w'.cell? ⟨bn + 1, 0, none⟩ = some (.slice (some ⟨w.heap.size, 0, none⟩) 3 3) ∧ w'.cell? ⟨bn + 1, 1, none⟩ = some (.slice (some ⟨bn, 0, none⟩) 3 3)) wq38_wq22_wq22_w5 := ⟨cell_of_ans hb hS.1, cell_of_ans hb hS.2⟩
        clear hb
        try go_simp
        refine hK.out _ _ (fun _ => hS2) (fun hS => ?_)
        replace hS := hS (by decide)
        clear hK K hS2
        try simp only [Act.put, List.setIfInBounds_toArray, List.set_cons_zero, List.set_cons_succ]
        have HU44 := Lib.hid hu44
        clear hu44
        refine T_ready (rs := [49]) (by kernel_rfl) (by simp) ?_
        refine TReady.cons rfl (fun K hK => ?_) TReady.nil
        · have HU49 : Hid (IsXs (wq38_wq22_wq22_w5.alloc (.cells #[.slice (some ⟨w.heap.size, 0, none⟩) 3 3, .slice (some ⟨bn, 0, none⟩) 3 3, .slice (some ⟨w.heap.size, 0, none⟩) 3 3, .slice (some ⟨bn, 0, none⟩) 3 3, .slice (some ⟨w.heap.size, 0, none⟩) 3 3, .slice (some ⟨bn, 0, none⟩) 3 3, .slice (some ⟨w.heap.size, 0, none⟩) 3 3, .slice (some ⟨bn, 0, none⟩) 3 3] 60)) (.slice (some ⟨wq38_wq22_wq22_w5.heap.size, 0, none⟩) 4 4) 4) := isXs_new wq38_wq22_wq22_w5 _ _ 4 (by omega) HX.out HN.out
          try go_simp
          have hb : Below wq38_wq22_wq22_w5.heap.size wq38_wq22_wq22_w5 (wq38_wq22_wq22_w5.alloc (.cells #[.slice (some ⟨w.heap.size, 0, none⟩) 3 3, .slice (some ⟨bn, 0, none⟩) 3 3, .slice (some ⟨w.heap.size, 0, none⟩) 3 3, .slice (some ⟨bn, 0, none⟩) 3 3, .slice (some ⟨w.heap.size, 0, none⟩) 3 3, .slice (some ⟨bn, 0, none⟩) 3 3, .slice (some ⟨w.heap.size, 0, none⟩) 3 3, .slice (some ⟨bn, 0, none⟩) 3 3] 60)) := (Below.refl wq38_wq22_wq22_w5.heap.size wq38_wq22_wq22_w5).alloc (Nat.le_refl _) _
          replace HX := Lib.hid (HX.out.step hb)
          replace HN := Lib.hid (HN.out.step hb)
          replace HU50 := Lib.hid (HU50.out.step hb)
          replace HU44 := Lib.hid (HU44.out.step hb)
          replace HB := Lib.hid (HB.out.trans (hb.mono HB.out.size))
          have hS2 : (fun w' : World => w'.cell? ⟨bn + 1, 0, none⟩ = some (.slice (some ⟨w.heap.size, 0, none⟩) 3 3) ∧ w'.cell? ⟨bn + 1, 1, none⟩ = some (.slice (some ⟨bn, 0, none⟩) 3 3)) (wq38_wq22_wq22_w5.alloc (.cells #[.slice (some ⟨w.heap.size, 0, none⟩) 3 3, .slice (some ⟨bn, 0, none⟩) 3 3, .slice (some ⟨w.heap.size, 0, none⟩) 3 3, .slice (some ⟨bn, 0, none⟩) 3 3, .slice (some ⟨w.heap.size, 0, none⟩) 3 3, .slice (some ⟨bn, 0, none⟩) 3 3, .slice (some ⟨w.heap.size, 0, none⟩) 3 3, .slice (some ⟨bn, 0, none⟩) 3 3] 60)) := ⟨cell_of_ans hb hS.1, cell_of_ans hb hS.2⟩
          clear hb
          refine hK.out _ _ (fun _ => hS2) (fun hS => ?_)
          replace hS := hS (by decide)
          clear hK K hS2
          try simp only [Act.put, List.setIfInBounds_toArray, List.set_cons_zero, List.set_cons_succ]
          generalize (wq38_wq22_wq22_w5.alloc (.cells #[.slice (some ⟨w.heap.size, 0, none⟩) 3 3, .slice (some ⟨bn, 0, none⟩) 3 3, .slice (some ⟨w.heap.size, 0, none⟩) 3 3, .slice (some ⟨bn, 0, none⟩) 3 3, .slice (some ⟨w.heap.size, 0, none⟩) 3 3, .slice (some ⟨bn, 0, none⟩) 3 3, .slice (some ⟨w.heap.size, 0, none⟩) 3 3, .slice (some ⟨bn, 0, none⟩) 3 3] 60)) = wq39_wq22_wq22_w5 at *
          generalize (Value.slice (some ⟨wq38_wq22_wq22_w5.heap.size, 0, none⟩) 4 4) = u49 at *
          exact key u44 u49 u50 wq39_wq22_wq22_w5 ⟨HU44.out, HU49.out, HU50.out, HB.out, HX.out, HN.out, hS⟩
      · have HU49 : Hid (IsXs (wq37_wq22_wq22_w5.alloc (.cells #[.slice (some ⟨w.heap.size, 0, none⟩) 3 3, .slice (some ⟨bn, 0, none⟩) 3 3, .slice (some ⟨w.heap.size, 0, none⟩) 3 3, .slice (some ⟨bn, 0, none⟩) 3 3, .slice (some ⟨w.heap.size, 0, none⟩) 3 3, .slice (some ⟨bn, 0, none⟩) 3 3, .slice (some ⟨w.heap.size, 0, none⟩) 3 3, .slice (some ⟨bn, 0, none⟩) 3 3] 60)) (.slice (some ⟨wq37_wq22_wq22_w5.heap.size, 0, none⟩) 4 4) 4) := isXs_new wq37_wq22_wq22_w5 _ _ 4 (by omega) HX.out HN.out
        try go_simp
        have hb : Below wq37_wq22_wq22_w5.heap.size wq37_wq22_wq22_w5 (wq37_wq22_wq22_w5.alloc (.cells #[.slice (some ⟨w.heap.size, 0, none⟩) 3 3, .slice (some ⟨bn, 0, none⟩) 3 3, .slice (some ⟨w.heap.size, 0, none⟩) 3 3, .slice (some ⟨bn, 0, none⟩) 3 3, .slice (some ⟨w.heap.size, 0, none⟩) 3 3, .slice (some ⟨bn, 0, none⟩) 3 3, .slice (some ⟨w.heap.size, 0, none⟩) 3 3, .slice (some ⟨bn, 0, none⟩) 3 3] 60)) := (Below.refl wq37_wq22_wq22_w5.heap.size wq37_wq22_wq22_w5).alloc (Nat.le_refl _) _
        replace HX := Lib.hid (HX.out.step hb)
        replace HN := Lib.hid (HN.out.step hb)
        replace HU50 := Lib.hid (HU50.out.step hb)
        replace HB := Lib.hid (HB.out.trans (hb.mono HB.out.size))
        have hS2 : (fun w' : World => w'.cell? ⟨bn + 1, 0, none⟩ = some (.slice (some ⟨w.heap.size, 0, none⟩) 3 3) ∧ w'.cell? ⟨bn + 1, 1, none⟩ = some (.slice (some ⟨bn, 0, none⟩) 3 3)) (wq37_wq22_wq22_w5.alloc (.cells #[.slice (some ⟨w.heap.size, 0, none⟩) 3 3, .slice (some ⟨bn, 0, none⟩) 3 3, .slice (some ⟨w.heap.size, 0, none⟩) 3 3, .slice (some ⟨bn, 0, none⟩) 3 3, .slice (some ⟨w.heap.size, 0, none⟩) 3 3, .slice (some ⟨bn, 0, none⟩) 3 3, .slice (some ⟨w.heap.size, 0, none⟩) 3 3, .slice (some ⟨bn, 0, none⟩) 3 3] 60)) := ⟨cell_of_ans hb hS.1, cell_of_ans hb hS.2⟩
        clear hb
        refine hK.out _ _ (fun _ => hS2) (fun hS => ?_)
        replace hS := hS (by decide)
        clear hK K hS2
        try simp only [Act.put, List.setIfInBounds_toArray, List.set_cons_zero, List.set_cons_succ]
        generalize (wq37_wq22_wq22_w5.alloc (.cells #[.slice (some ⟨w.heap.size, 0, none⟩) 3 3, .slice (some ⟨bn, 0, none⟩) 3 3, .slice (some ⟨w.heap.size, 0, none⟩) 3 3, .slice (some ⟨bn, 0, none⟩) 3 3, .slice (some ⟨w.heap.size, 0, none⟩) 3 3, .slice (some ⟨bn, 0, none⟩) 3 3, .slice (some ⟨w.heap.size, 0, none⟩) 3 3, .slice (some ⟨bn, 0, none⟩) 3 3] 60)) = wq40_wq22_wq22_w5 at *
        generalize (Value.slice (some ⟨wq37_wq22_wq22_w5.heap.size, 0, none⟩) 4 4) = u49 at *
        refine T_ready (rs := [44]) (by kernel_rfl) (by simp) ?_
        refine TReady.cons rfl (fun K hK => ?_) TReady.nil
        · try go_simp
          refine (laid3_c _).mono ?_
          rintro e wq41_wq22_wq22_w5 ⟨u44, rfl, hu44, hb⟩
          replace HX := Lib.hid (HX.out.step hb)
          replace HN := Lib.hid (HN.out.step hb)
          replace HU50 := Lib.hid (HU50.out.step hb)
          replace HU49 := Lib.hid (HU49.out.step hb)
          replace HB := Lib.hid (HB.out.trans (hb.mono HB.out.size))
          have hS2 : (fun w' : World => w'.cell? ⟨bn + 1, 0, none⟩ = some (.slice (some ⟨w.heap.size, 0, none⟩) 3 3) ∧ w'.cell? ⟨bn + 1, 1, none⟩ = some (.slice (some ⟨bn, 0, none⟩) 3 3)) wq41_wq22_wq22_w5 := ⟨cell_of_ans hb hS.1, cell_of_ans hb hS.2⟩
          clear hb
          try go_simp
          refine hK.out _ _ (fun _ => hS2) (fun hS => ?_)
          replace hS := hS (by decide)
          clear hK K hS2
          try simp only [Act.put, List.setIfInBounds_toArray, List.set_cons_zero, List.set_cons_succ]
          have HU44 := Lib.hid hu44
          clear hu44
          exact key u44 u49 u50 wq41_wq22_wq22_w5 ⟨HU44.out, HU49.out, HU50.out, HB.out, HX.out, HN.out, hS⟩
  clear HB HX HN  hS
  intro u44 u49 u50 wq47_wq22_wq22_w5 ⟨hu44, hu49, hu50, hB, hX, hN, hS⟩
  have HB := Lib.hid hB
  have HX := Lib.hid hX
  have HN := Lib.hid hN
  have HU44 := Lib.hid hu44
  have HU49 := Lib.hid hu49
  have HU50 := Lib.hid hu50
  clear hB hX hN hu44 hu49 hu50
  obtain ⟨a50, ha50, hi50⟩ := HU50.out
  subst ha50
  refine T_ready (rs := [51]) (by kernel_rfl) (by simp) ?_
  refine TReady.cons rfl (fun K hK => ?_) TReady.nil
  try go_simp
  refine (prove_names_c _ _ 4 _ 1 false _ HU44.out HU49.out (by omega) hi50 nm_r4).mono ?_
  rintro e wq48_wq22_wq22_w5 ⟨rfl, hb⟩
  replace HX := Lib.hid (HX.out.step hb)
  replace HN := Lib.hid (HN.out.step hb)
  replace HU44 := Lib.hid (HU44.out.step hb)
  replace HU49 := Lib.hid (HU49.out.step hb)
  replace HU50 := Lib.hid (HU50.out.step hb)
  replace HB := Lib.hid (HB.out.trans (hb.mono HB.out.size))
  have hS2 : (fun w' : World => w'.cell? ⟨bn + 1, 0, none⟩ = some (.slice (some ⟨w.heap.size, 0, none⟩) 3 3) ∧ w'.cell? ⟨bn + 1, 1, none⟩ = some (.slice (some ⟨bn, 0, none⟩) 3 3)) wq48_wq22_wq22_w5 := ⟨cell_of_ans hb hS.1, cell_of_ans hb hS.2⟩
  clear hb
  try go_simp
  refine hK.out _ _ (fun _ => hS2) (fun hS => ?_)
  replace hS := hS (by decide)
  clear hK K hS2
  try simp only [Act.put, List.setIfInBounds_toArray, List.set_cons_zero, List.set_cons_succ]
  clear HU44 HU49 HU50
  clear hi50
  refine' T_take (i := 52) (v := _) rfl (by kernel_rfl) (by kernel_rfl) (by kernel_rfl) (by kernel_rfl) (fun _ _ _ h => h) (by kernel_rfl) hS ?_ ?_
  rotate_left 1
  · intro Wv hW
    obtain ⟨s0, s1⟩ := hW
    go_simp
    first | done | with_reducible rfl
  try simp only [Act.put, List.setIfInBounds_toArray, List.set_cons_zero, List.set_cons_succ]
  refine' T_take (i := 53) (v := _) rfl (by kernel_rfl) (by kernel_rfl) (by kernel_rfl) (by kernel_rfl) (fun _ _ _ h => h) (by kernel_rfl) hS ?_ ?_
  rotate_left 1
  · intro Wv hW
    obtain ⟨s0, s1⟩ := hW
    go_simp
    first | done | with_reducible rfl
  try simp only [Act.put, List.setIfInBounds_toArray, List.set_cons_zero, List.set_cons_succ]
  refine' T_take (i := 55) (v := _) rfl (by kernel_rfl) (by kernel_rfl) (by kernel_rfl) (by kernel_rfl) (fun _ _ _ h => h) (by kernel_rfl) hS ?_ ?_
  rotate_left 1
  · intro Wv hW
    obtain ⟨s0, s1⟩ := hW
    go_simp
    first | done | with_reducible rfl
  try simp only [Act.put, List.setIfInBounds_toArray, List.set_cons_zero, List.set_cons_succ]
  refine' T_take (i := 56) (v := _) rfl (by kernel_rfl) (by kernel_rfl) (by kernel_rfl) (by kernel_rfl) (fun _ _ _ h => h) (by kernel_rfl) hS ?_ ?_
  rotate_left 1
  · intro Wv hW
    obtain ⟨s0, s1⟩ := hW
    go_simp
    first | done | with_reducible rfl
  try simp only [Act.put, List.setIfInBounds_toArray, List.set_cons_zero, List.set_cons_succ]
  refine' merge3 (fun u54 u57 u58 W => IsLaid W u54 ∧ IsXs W u57 2 ∧ IsOne W u58 0 ∧ Below w.heap.size w W ∧ Ints W.heap.size W (some ⟨w.heap.size, 0, none⟩) [0, 0, 0] ∧ Ints W.heap.size W (some ⟨bn, 0, none⟩) [25, 0, 0] ∧ (fun w' : World => w'.cell? ⟨bn + 1, 0, none⟩ = some (.slice (some ⟨w.heap.size, 0, none⟩) 3 3) ∧ w'.cell? ⟨bn + 1, 1, none⟩ = some (.slice (some ⟨bn, 0, none⟩) 3 3)) W) _ (fun key => ?_) ?_
  rotate_left 1
  · refine T_ready (rs := [54, 57, 58]) (by kernel_rfl) (by simp) ?_
    refine TReady.cons rfl (fun K hK => ?_) (TReady.cons rfl (fun K hK => ?_) (TReady.cons rfl (fun K hK => ?_) TReady.nil))
    · try go_simp
      refine (laid3_c _).mono ?_
      rintro e wq49_wq22_wq22_w5 ⟨u54, rfl, hu54, hb⟩
      replace HX := Lib.hid (HX.out.step hb)
      replace HN := Lib.hid (HN.out.step hb)
      replace HB := Lib.hid (HB.out.trans (hb.mono HB.out.size))
      have hS2 : (fun w' : World => w'.cell? ⟨bn + 1, 0, none⟩ = some (.slice (some ⟨w.heap.size, 0, none⟩) 3 3) ∧ w'.cell? ⟨bn + 1, 1, none⟩ = some (.slice (some ⟨bn, 0, none⟩) 3 3)) wq49_wq22_wq22_w5 := ⟨cell_of_ans hb hS.1, cell_of_ans hb hS.2⟩
      clear hb
      try go_simp
      refine hK.out _ _ (fun _ => hS2) (fun hS => ?_)
      replace hS := hS (by decide)
      clear hK K hS2
      try simp only [Act.put, List.setIfInBounds_toArray, List.set_cons_zero, List.set_cons_succ]
      have HU54 := Lib.hid hu54
      clear hu54
      refine T_ready (rs := [57, 58]) (by kernel_rfl) (by simp) ?_
      refine TReady.cons rfl (fun K hK => ?_) (TReady.cons rfl (fun K hK => ?_) TReady.nil)
      · have HU57 : Hid (IsXs (wq49_wq22_wq22_w5.alloc (.cells #[.slice (some ⟨w.heap.size, 0, none⟩) 3 3, .slice (some ⟨bn, 0, none⟩) 3 3, .slice (some ⟨w.heap.size, 0, none⟩) 3 3, .slice (some ⟨bn, 0, none⟩) 3 3] 60)) (.slice (some ⟨wq49_wq22_wq22_w5.heap.size, 0, none⟩) 2 2) 2) := isXs_new wq49_wq22_wq22_w5 _ _ 2 (by omega) HX.out HN.out
        try go_simp
        have hb : Below wq49_wq22_wq22_w5.heap.size wq49_wq22_wq22_w5 (wq49_wq22_wq22_w5.alloc (.cells #[.slice (some ⟨w.heap.size, 0, none⟩) 3 3, .slice (some ⟨bn, 0, none⟩) 3 3, .slice (some ⟨w.heap.size, 0, none⟩) 3 3, .slice (some ⟨bn, 0, none⟩) 3 3] 60)) := (Below.refl wq49_wq22_wq22_w5.heap.size wq49_wq22_wq22_w5).alloc (Nat.le_refl _) _
        replace HX := Lib.hid (HX.out.step hb)
        replace HN := Lib.hid (HN.out.step hb)
        replace HU54 := Lib.hid (HU54.out.step hb)
        replace HB := Lib.hid (HB.out.trans (hb.mono HB.out.size))
        have hS2 : (fun w' : World => w'.cell? ⟨bn + 1, 0, none⟩ = some (.slice (some ⟨w.heap.size, 0, none⟩) 3 3) ∧ w'.cell? ⟨bn + 1, 1, none⟩ = some (.slice (some ⟨bn, 0, none⟩) 3 3)) (wq49_wq22_wq22_w5.alloc (.cells #[.slice (some ⟨w.heap.size, 0, none⟩) 3 3, .slice (some ⟨bn, 0, none⟩) 3 3, .slice (some ⟨w.heap.size, 0, none⟩) 3 3, .slice (some ⟨bn, 0, none⟩) 3 3] 60)) := ⟨cell_of_ans hb hS.1, cell_of_ans hb hS.2⟩
        clear hb
        refine hK.out _ _ (fun _ => hS2) (fun hS => ?_)
        replace hS := hS (by decide)
        clear hK K hS2
        try simp only [Act.put, List.setIfInBounds_toArray, List.set_cons_zero, List.set_cons_succ]
        generalize (wq49_wq22_wq22_w5.alloc (.cells #[.slice (some ⟨w.heap.size, 0, none⟩) 3 3, .slice (some ⟨bn, 0, none⟩) 3 3, .slice (some ⟨w.heap.size, 0, none⟩) 3 3, .slice (some ⟨bn, 0, none⟩) 3 3] 60)) = wq50_wq22_wq22_w5 at *
        generalize (Value.slice (some ⟨wq49_wq22_wq22_w5.heap.size, 0, none⟩) 2 2) = u57 at *
        refine T_ready (rs := [58]) (by kernel_rfl) (by simp) ?_
        refine TReady.cons rfl (fun K hK => ?_) TReady.nil
        · have HU58 : Hid (IsOne (wq50_wq22_wq22_w5.alloc (.cells #[.int .i64 0] 3)) (.slice (some ⟨wq50_wq22_wq22_w5.heap.size, 0, none⟩) 1 1) 0) := isOne_new wq50_wq22_wq22_w5 0
          try go_simp
          have hb : Below wq50_wq22_wq22_w5.heap.size wq50_wq22_wq22_w5 (wq50_wq22_wq22_w5.alloc (.cells #[.int .i64 0] 3)) := (Below.refl wq50_wq22_wq22_w5.heap.size wq50_wq22_wq22_w5).alloc (Nat.le_refl _) _
          replace HX := Lib.hid (HX.out.step hb)
          replace HN := Lib.hid (HN.out.step hb)
          replace HU54 := Lib.hid (HU54.out.step hb)
          replace HU57 := Lib.hid (HU57.out.step hb)
          replace HB := Lib.hid (HB.out.trans (hb.mono HB.out.size))
          have hS2 : (fun w' : World => w'.cell? ⟨bn + 1, 0, none⟩ = some (.slice (some ⟨w.heap.size, 0, none⟩) 3 3) ∧ w'.cell? ⟨bn + 1, 1, none⟩ = some (.slice (some ⟨bn, 0, none⟩) 3 3)) (wq50_wq22_wq22_w5.alloc (.cells #[.int .i64 0] 3)) := ⟨cell_of_ans hb hS.1, cell_of_ans hb hS.2⟩
          clear hb
          refine hK.out _ _ (fun _ => hS2) (fun hS => ?_)
          replace hS := hS (by decide)
          clear hK K hS2
          try simp only [Act.put, List.setIfInBounds_toArray, List.set_cons_zero, List.set_cons_succ]
          generalize (wq50_wq22_wq22_w5.alloc (.cells #[.int .i64 0] 3)) = wq51_wq22_wq22_w5 at *
          generalize (Value.slice (some ⟨wq50_wq22_wq22_w5.heap.size, 0, none⟩) 1 1) = u58 at *
          exact key u54 u57 u58 wq51_wq22_wq22_w5 ⟨HU54.out, HU57.out, HU58.out, HB.out, HX.out, HN.out, hS⟩
      · have HU58 : Hid (IsOne (wq49_wq22_wq22_w5.alloc (.cells #[.int .i64 0] 3)) (.slice (some ⟨wq49_wq22_wq22_w5.heap.size, 0, none⟩) 1 1) 0) := isOne_new wq49_wq22_wq22_w5 0
        try go_simp
        have hb : Below wq49_wq22_wq22_w5.heap.size wq49_wq22_wq22_w5 (wq49_wq22_wq22_w5.alloc (.cells #[.int .i64 0] 3)) := (Below.refl wq49_wq22_wq22_w5.heap.size wq49_wq22_wq22_w5).alloc (Nat.le_refl _) _
        replace HX := Lib.hid (HX.out.step hb)
        replace HN := Lib.hid (HN.out.step hb)
        replace HU54 := Lib.hid (HU54.out.step hb)
        replace HB := Lib.hid (HB.out.trans (hb.mono HB.out.size))
        have hS2 : (fun w' : World => w'.cell? ⟨bn + 1, 0, none⟩ = some (.slice (some ⟨w.heap.size, 0, none⟩) 3 3) ∧ w'.cell? ⟨bn + 1, 1, none⟩ = some (.slice (some ⟨bn, 0, none⟩) 3 3)) (wq49_wq22_wq22_w5.alloc (.cells #[.int .i64 0] 3)) := ⟨cell_of_ans hb hS.1, cell_of_ans hb hS.2⟩
        clear hb
        refine hK.out _ _ (fun _ => hS2) (fun hS => ?_)
        replace hS := hS (by decide)
        clear hK K hS2
        try simp only [Act.put, List.setIfInBounds_toArray, List.set_cons_zero, List.set_cons_succ]
        generalize (wq49_wq22_wq22_w5.alloc (.cells #[.int .i64 0] 3)) = wq52_wq22_wq22_w5 at *
        generalize (Value.slice (some ⟨wq49_wq22_wq22_w5.heap.size, 0, none⟩) 1 1) = u58 at *
        refine T_ready (rs := [57]) (by kernel_rfl) (by simp) ?_
        refine TReady.cons rfl (fun K hK => ?_) TReady.nil
        · have HU57 : Hid (IsXs (wq52_wq22_wq22_w5.alloc (.cells #[.slice (some ⟨w.heap.size, 0, none⟩) 3 3, .slice (some ⟨bn, 0, none⟩) 3 3, .slice (some ⟨w.heap.size, 0, none⟩) 3 3, .slice (some ⟨bn, 0, none⟩) 3 3] 60)) (.slice (some ⟨wq52_wq22_wq22_w5.heap.size, 0, none⟩) 2 2) 2) := isXs_new wq52_wq22_wq22_w5 _ _ 2 (by omega) HX.out HN.out
          try go_simp
          have hb : Below wq52_wq22_wq22_w5.heap.size wq52_wq22_wq22_w5 (wq52_wq22_wq22_w5.alloc (.cells #[.slice (some ⟨w.heap.size, 0, none⟩) 3 3, .slice (some ⟨bn, 0, none⟩) 3 3, .slice (some ⟨w.heap.size, 0, none⟩) 3 3, .slice (some ⟨bn, 0, none⟩) 3 3] 60)) := (Below.refl wq52_wq22_wq22_w5.heap.size wq52_wq22_wq22_w5).alloc (Nat.le_refl _) _
          replace HX := Lib.hid (HX.out.step hb)
          replace HN := Lib.hid (HN.out.step hb)
          replace HU54 := Lib.hid (HU54.out.step hb)
          replace HU58 := Lib.hid (HU58.out.step hb)
          replace HB := Lib.hid (HB.out.trans (hb.mono HB.out.size))
          have hS2 : (fun w' : World => w'.cell? ⟨bn + 1, 0, none⟩ = some (.slice (some ⟨w.heap.size, 0, none⟩) 3 3) ∧ w'.cell? ⟨bn + 1, 1, none⟩ = some (.slice (some ⟨bn, 0, none⟩) 3 3)) (wq52_wq22_wq22_w5.alloc (.cells #[.slice (some ⟨w.heap.size, 0, none⟩) 3 3, .slice (some ⟨bn, 0, none⟩) 3 3, .slice (some ⟨w.heap.size, 0, none⟩) 3 3, .slice (some ⟨bn, 0, none⟩) 3 3] 60)) := ⟨cell_of_ans hb hS.1, cell_of_ans hb hS.2⟩
          clear hb
          refine hK.out _ _ (fun _ => hS2) (fun hS => ?_)
          replace hS := hS (by decide)
          clear hK K hS2
          try simp only [Act.put, List.setIfInBounds_toArray, List.set_cons_zero, List.set_cons_succ]
          generalize (wq52_wq22_wq22_w5.alloc (.cells #[.slice (some ⟨w.heap.size, 0, none⟩) 3 3, .slice (some ⟨bn, 0, none⟩) 3 3, .slice (some ⟨w.heap.size, 0, none⟩) 3 3, .slice (some ⟨bn, 0, none⟩) 3 3] 60)) = wq53_wq22_wq22_w5 at *
          generalize (Value.slice (some ⟨wq52_wq22_wq22_w5.heap.size, 0, none⟩) 2 2) = u57 at *
          exact key u54 u57 u58 wq53_wq22_wq22_w5 ⟨HU54.out, HU57.out, HU58.out, HB.out, HX.out, HN.out, hS⟩
    · have HU57 : Hid (IsXs (wq48_wq22_wq22_w5.alloc (.cells #[.slice (some ⟨w.heap.size, 0, none⟩) 3 3, .slice (some ⟨bn, 0, none⟩) 3 3, .slice (some ⟨w.heap.size, 0, none⟩) 3 3, .slice (some ⟨bn, 0, none⟩) 3 3] 60)) (.slice (some ⟨wq48_wq22_wq22_w5.heap.size, 0, none⟩) 2 2) 2) := isXs_new wq48_wq22_wq22_w5 _ _ 2 (by omega) HX.out HN.out
      try go_simp
      have hb : Below wq48_wq22_wq22_w5.heap.size wq48_wq22_wq22_w5 (wq48_wq22_wq22_w5.alloc (.cells #[.slice (some ⟨w.heap.size, 0, none⟩) 3 3, .slice (some ⟨bn, 0, none⟩) 3 3, .slice (some ⟨w.heap.size, 0, none⟩) 3 3, .slice (some ⟨bn, 0, none⟩) 3 3] 60)) := (Below.refl wq48_wq22_wq22_w5.heap.size wq48_wq22_wq22_w5).alloc (Nat.le_refl _) _
      replace HX := Lib.hid (HX.out.step hb)
      replace HN := Lib.hid (HN.out.step hb)
      replace HB := Lib.hid (HB.out.trans (hb.mono HB.out.size))
      have hS2 : (fun w' : World => w'.cell? ⟨bn + 1, 0, none⟩ = some (.slice (some ⟨w.heap.size, 0, none⟩) 3 3) ∧ w'.cell? ⟨bn + 1, 1, none⟩ = some (.slice (some ⟨bn, 0, none⟩) 3 3)) (wq48_wq22_wq22_w5.alloc (.cells #[.slice (some ⟨w.heap.size, 0, none⟩) 3 3, .slice (some ⟨bn, 0, none⟩) 3 3, .slice (some ⟨w.heap.size, 0, none⟩) 3 3, .slice (some ⟨bn, 0, none⟩) 3 3] 60)) := ⟨cell_of_ans hb hS.1, cell_of_ans hb hS.2⟩
      clear hb
      refine hK.out _ _ (fun _ => hS2) (fun hS => ?_)
      replace hS := hS (by decide)
      clear hK K hS2
      try simp only [Act.put, List.setIfInBounds_toArray, List.set_cons_zero, List.set_cons_succ]
      generalize (wq48_wq22_wq22_w5.alloc (.cells #[.slice (some ⟨w.heap.size, 0, none⟩) 3 3, .slice (some ⟨bn, 0, none⟩) 3 3, .slice (some ⟨w.heap.size, 0, none⟩) 3 3, .slice (some ⟨bn, 0, none⟩) 3 3] 60)) = wq54_wq22_wq22_w5 at *
      generalize (Value.slice (some ⟨wq48_wq22_wq22_w5.heap.size, 0, none⟩) 2 2) = u57 at *
      refine T_ready (rs := [54, 58]) (by kernel_rfl) (by simp) ?_
      refine TReady.cons rfl (fun K hK => ?_) (TReady.cons rfl (fun K hK => ?_) TReady.nil)
      · try go_simp
        refine (laid3_c _).mono ?_
        rintro e wq55_wq22_wq22_w5 ⟨u54, rfl, hu54, hb⟩
        replace HX := Lib.hid (HX.out.step hb)
        replace HN := Lib.hid (HN.out.step hb)
        replace HU57 := Lib.hid (HU57.out.step hb)
        replace HB := Lib.hid (HB.out.trans (hb.mono HB.out.size))
        have hS2 : (fun w' : World => w'.cell? ⟨bn + 1, 0, none⟩ = some (.slice (some ⟨w.heap.size, 0, none⟩) 3 3) ∧ w'.cell? ⟨bn + 1, 1, none⟩ = some (.slice (some ⟨bn, 0, none⟩) 3 3)) wq55_wq22_wq22_w5 := ⟨cell_of_ans hb hS.1, cell_of_ans hb hS.2⟩
        clear hb
        try go_simp
        refine hK.out _ _ (fun _ => hS2) (fun hS => ?_)
        replace hS := hS (by decide)
        clear hK K hS2
        try simp only [Act.put, List.setIfInBounds_toArray, List.set_cons_zero, List.set_cons_succ]
        have HU54 := Lib.hid hu54
        clear hu54
        refine T_ready (rs := [58]) (by kernel_rfl) (by simp) ?_
        refine TReady.cons rfl (fun K hK => ?_) TReady.nil
        · have HU58 : Hid (IsOne (wq55_wq22_wq22_w5.alloc (.cells #[.int .i64 0] 3)) (.slice (some ⟨wq55_wq22_wq22_w5.heap.size, 0, none⟩) 1 1) 0) := isOne_new wq55_wq22_wq22_w5 0
          try go_simp
          have hb : Below wq55_wq22_wq22_w5.heap.size wq55_wq22_wq22_w5 (wq55_wq22_wq22_w5.alloc (.cells #[.int .i64 0] 3)) := (Below.refl wq55_wq22_wq22_w5.heap.size wq55_wq22_wq22_w5).alloc (Nat.le_refl _) _
          replace HX := Lib.hid (HX.out.step hb)
          replace HN := Lib.hid (HN.out.step hb)
          replace HU57 := Lib.hid (HU57.out.step hb)
          replace HU54 := Lib.hid (HU54.out.step hb)
          replace HB := Lib.hid (HB.out.trans (hb.mono HB.out.size))
          have hS2 : (fun w' : World => w'.cell? ⟨bn + 1, 0, none⟩ = some (.slice (some ⟨w.heap.size, 0, none⟩) 3 3) ∧ w'.cell? ⟨bn + 1, 1, none⟩ = some (.slice (some ⟨bn, 0, none⟩) 3 3)) (wq55_wq22_wq22_w5.alloc (.cells #[.int .i64 0] 3)) := ⟨cell_of_ans hb hS.1, cell_of_ans hb hS.2⟩
          clear hb
          refine hK.out _ _ (fun _ => hS2) (fun hS => ?_)
          replace hS := hS (by decide)
          clear hK K hS2
          try simp only [Act.put, List.setIfInBounds_toArray, List.set_cons_zero, List.set_cons_succ]
          generalize (wq55_wq22_wq22_w5.alloc (.cells #[.int .i64 0] 3)) = wq56_wq22_wq22_w5 at *
          generalize (Value.slice (some ⟨wq55_wq22_wq22_w5.heap.size, 0, none⟩) 1 1) = u58 at *
          exact key u54 u57 u58 wq56_wq22_wq22_w5 ⟨HU54.out, HU57.out, HU58.out, HB.out, HX.out, HN.out, hS⟩
      · have HU58 : Hid (IsOne (wq54_wq22_wq22_w5.alloc (.cells #[.int .i64 0] 3)) (.slice (some ⟨wq54_wq22_wq22_w5.heap.size, 0, none⟩) 1 1) 0) := isOne_new wq54_wq22_wq22_w5 0
        try go_simp
        have hb : Below wq54_wq22_wq22_w5.heap.size wq54_wq22_wq22_w5 (wq54_wq22_wq22_w5.alloc (.cells #[.int .i64 0] 3)) := (Below.refl wq54_wq22_wq22_w5.heap.size wq54_wq22_wq22_w5).alloc (Nat.le_refl _) _
        replace HX := Lib.hid (HX.out.step hb)
        replace HN := Lib.hid (HN.out.step hb)
        replace HU57 := Lib.hid (HU57.out.step hb)
        replace HB := Lib.hid (HB.out.trans (hb.mono HB.out.size))
        have hS2 : (fun w' : World => w'.cell? ⟨bn + 1, 0, none⟩ = some (.slice (some ⟨w.heap.size, 0, none⟩) 3 3) ∧ w'.cell? ⟨bn + 1, 1, none⟩ = some (.slice (some ⟨bn, 0, none⟩) 3 3)) (wq54_wq22_wq22_w5.alloc (.cells #[.int .i64 0] 3)) := ⟨cell_of_ans hb hS.1, cell_of_ans hb hS.2⟩
        clear hb
        refine hK.out _ _ (fun _ => hS2) (fun hS => ?_)
        replace hS := hS (by decide)
        clear hK K hS2
        try simp only [Act.put, List.setIfInBounds_toArray, List.set_cons_zero, List.set_cons_succ]
        generalize (wq54_wq22_wq22_w5.alloc (.cells #[.int .i64 0] 3)) = wq57_wq22_wq22_w5 at *
        generalize (Value.slice (some ⟨wq54_wq22_wq22_w5.heap.size, 0, none⟩) 1 1) = u58 at *
        refine T_ready (rs := [54]) (by kernel_rfl) (by simp) ?_
        refine TReady.cons rfl (fun K hK => ?_) TReady.nil
        · try go_simp
          refine (laid3_c _).mono ?_
          rintro e wq58_wq22_wq22_w5 ⟨u54, rfl, hu54, hb⟩
          replace HX := Lib.hid (HX.out.step hb)
          replace HN := Lib.hid (HN.out.step hb)
          replace HU57 := Lib.hid (HU57.out.step hb)
          replace HU58 := Lib.hid (HU58.out.step hb)
          replace HB := Lib.hid (HB.out.trans (hb.mono HB.out.size))
          have hS2 : (fun w' : World => w'.cell? ⟨bn + 1, 0, none⟩ = some (.slice (some ⟨w.heap.size, 0, none⟩) 3 3) ∧ w'.cell? ⟨bn + 1, 1, none⟩ = some (.slice (some ⟨bn, 0, none⟩) 3 3)) wq58_wq22_wq22_w5 := ⟨cell_of_ans hb hS.1, cell_of_ans hb hS.2⟩
          clear hb
          try go_simp
          refine hK.out _ _ (fun _ => hS2) (fun hS => ?_)
          replace hS := hS (by decide)
          clear hK K hS2
          try simp only [Act.put, List.setIfInBounds_toArray, List.set_cons_zero, List.set_cons_succ]
          have HU54 := Lib.hid hu54
          clear hu54
          exact key u54 u57 u58 wq58_wq22_wq22_w5 ⟨HU54.out, HU57.out, HU58.out, HB.out, HX.out, HN.out, hS⟩
    · have HU58 : Hid (IsOne (wq48_wq22_wq22_w5.alloc (.cells #[.int .i64 0] 3)) (.slice (some ⟨wq48_wq22_wq22_w5.heap.size, 0, none⟩) 1 1) 0) := isOne_new wq48_wq22_wq22_w5 0
      try go_simp
      have hb : Below wq48_wq22_wq22_w5.heap.size wq48_wq22_wq22_w5 (wq48_wq22_wq22_w5.alloc (.cells #[.int .i64 0] 3)) := (Below.refl wq48_wq22_wq22_w5.heap.size wq48_wq22_wq22_w5).alloc (Nat.le_refl _) _
      replace HX := Lib.hid (HX.out.step hb)
      replace HN := Lib.hid (HN.out.step hb)
      replace HB := Lib.hid (HB.out.trans (hb.mono HB.out.size))
      have hS2 : (fun w' : World => w'.cell? ⟨bn + 1, 0, none⟩ = some (.slice (some ⟨w.heap.size, 0, none⟩) 3 3) ∧ w'.cell? ⟨bn + 1, 1, none⟩ = some (.slice (some ⟨bn, 0, none⟩) 3 3)) (wq48_wq22_wq22_w5.alloc (.cells #[.int .i64 0] 3)) := ⟨cell_of_ans hb hS.1, cell_of_ans hb hS.2⟩
      clear hb
      refine hK.out _ _ (fun _ => hS2) (fun hS => ?_)
      replace hS := hS (by decide)
      clear hK K hS2
      try simp only [Act.put, List.setIfInBounds_toArray, List.set_cons_zero, List.set_cons_succ]
      generalize (wq48_wq22_wq22_w5.alloc (.cells #[.int .i64 0] 3)) = wq59_wq22_wq22_w5 at *
      generalize (Value.slice (some ⟨wq48_wq22_wq22_w5.heap.size, 0, none⟩) 1 1) = u58 at *
      refine T_ready (rs := [54, 57]) (by kernel_rfl) (by simp) ?_
      refine TReady.cons rfl (fun K hK => ?_) (TReady.cons rfl (fun K hK => ?_) TReady.nil)
      · try go_simp
        refine (laid3_c _).mono ?_
        rintro e wq60_wq22_wq22_w5 ⟨u54, rfl, hu54, hb⟩
        replace HX := Lib.hid (HX.out.step hb)
        replace HN := Lib.hid (HN.out.step hb)
        replace HU58 := Lib.hid (HU58.out.step hb)
        replace HB := Lib.hid (HB.out.trans (hb.mono HB.out.size))
        have hS2 : (fun w' : World => w'.cell? ⟨bn + 1, 0, none⟩ = some (.slice (some ⟨w.heap.size, 0, none⟩) 3 3) ∧ w'.cell? ⟨bn + 1, 1, none⟩ = some (.slice (some ⟨bn, 0, none⟩) 3 3)) wq60_wq22_wq22_w5 := ⟨cell_of_ans hb hS.1, cell_of_ans hb hS.2⟩
        clear hb
        try go_simp
        refine hK.out _ _ (fun _ => hS2) (fun hS => ?_)
        replace hS := hS (by decide)
        clear hK K hS2
        try simp only [Act.put, List.setIfInBounds_toArray, List.set_cons_zero, List.set_cons_succ]
        have HU54 := Lib.hid hu54
        clear hu54
        refine T_ready (rs := [57]) (by kernel_rfl) (by simp) ?_
        refine TReady.cons rfl (fun K hK => ?_) TReady.nil
        · have HU57 : Hid (IsXs (wq60_wq22_wq22_w5.alloc (.cells #[.slice (some ⟨w.heap.size, 0, none⟩) 3 3, .slice (some ⟨bn, 0, none⟩) 3 3, .slice (some ⟨w.heap.size, 0, none⟩) 3 3, .slice (some ⟨bn, 0, none⟩) 3 3] 60)) (.slice (some ⟨wq60_wq22_wq22_w5.heap.size, 0, none⟩) 2 2) 2) := isXs_new wq60_wq22_wq22_w5 _ _ 2 (by omega) HX.out HN.out
          try go_simp
          have hb : Below wq60_wq22_wq22_w5.heap.size wq60_wq22_wq22_w5 (wq60_wq22_wq22_w5.alloc (.cells #[.slice (some ⟨w.heap.size, 0, none⟩) 3 3, .slice (some ⟨bn, 0, none⟩) 3 3, .slice (some ⟨w.heap.size, 0, none⟩) 3 3, .slice (some ⟨bn, 0, none⟩) 3 3] 60)) := (Below.refl wq60_wq22_wq22_w5.heap.size wq60_wq22_wq22_w5).alloc (Nat.le_refl _) _
          replace HX := Lib.hid (HX.out.step hb)
          replace HN := Lib.hid (HN.out.step hb)
          replace HU58 := Lib.hid (HU58.out.step hb)
          replace HU54 := Lib.hid (HU54.out.step hb)
          replace HB := Lib.hid (HB.out.trans (hb.mono HB.out.size))
          have hS2 : (fun w' : World => w'.cell? ⟨bn + 1, 0, none⟩ = some (.slice (some ⟨w.heap.size, 0, none⟩) 3 3) ∧ w'.cell? ⟨bn + 1, 1, none⟩ = some (.slice (some ⟨bn, 0, none⟩) 3 3)) (wq60_wq22_wq22_w5.alloc (.cells #[.slice (some ⟨w.heap.size, 0, none⟩) 3 3, .slice (some ⟨bn, 0, none⟩) 3 3, .slice (some ⟨w.heap.size, 0, none⟩) 3 3, .slice (some ⟨bn, 0, none⟩) 3 3] 60)) := ⟨cell_of_ans hb hS.1, cell_of_ans hb hS.2⟩
          clear hb
          refine hK.out _ _ (fun _ => hS2) (fun hS => ?_)
          replace hS := hS (by decide)
          clear hK K hS2
          try simp only [Act.put, List.setIfInBounds_toArray, List.set_cons_zero, List.set_cons_succ]
          generalize (wq60_wq22_wq22_w5.alloc (.cells #[.slice (some ⟨w.heap.size, 0, none⟩) 3 3, .slice (some ⟨bn, 0, none⟩) 3 3, .slice (some ⟨w.heap.size, 0, none⟩) 3 3, .slice (some ⟨bn, 0, none⟩) 3 3] 60)) = wq61_wq22_wq22_w5 at *
          generalize (Value.slice (some ⟨wq60_wq22_wq22_w5.heap.size, 0, none⟩) 2 2) = u57 at *
          exact key u54 u57 u58 wq61_wq22_wq22_w5 ⟨HU54.out, HU57.out, HU58.out, HB.out, HX.out, HN.out, hS⟩
      · have HU57 : Hid (IsXs (wq59_wq22_wq22_w5.alloc (.cells #[.slice (some ⟨w.heap.size, 0, none⟩) 3 3, .slice (some ⟨bn, 0, none⟩) 3 3, .slice (some ⟨w.heap.size, 0, none⟩) 3 3, .slice (some ⟨bn, 0, none⟩) 3 3] 60)) (.slice (some ⟨wq59_wq22_wq22_w5.heap.size, 0, none⟩) 2 2) 2) := isXs_new wq59_wq22_wq22_w5 _ _ 2 (by omega) HX.out HN.out
        try go_simp
        have hb : Below wq59_wq22_wq22_w5.heap.size wq59_wq22_wq22_w5 (wq59_wq22_wq22_w5.alloc (.cells #[.slice (some ⟨w.heap.size, 0, none⟩) 3 3, .slice (some ⟨bn, 0, none⟩) 3 3, .slice (some ⟨w.heap.size, 0, none⟩) 3 3, .slice (some ⟨bn, 0, none⟩) 3 3] 60)) := (Below.refl wq59_wq22_wq22_w5.heap.size wq59_wq22_wq22_w5).alloc (Nat.le_refl _) _
        replace HX := Lib.hid (HX.out.step hb)
        replace HN := Lib.hid (HN.out.step hb)
        replace HU58 := Lib.hid (HU58.out.step hb)
        replace HB := Lib.hid (HB.out.trans (hb.mono HB.out.size))
        have hS2 : (fun w' : World => w'.cell? ⟨bn + 1, 0, none⟩ = some (.slice (some ⟨w.heap.size, 0, none⟩) 3 3) ∧ w'.cell? ⟨bn + 1, 1, none⟩ = some (.slice (some ⟨bn, 0, none⟩) 3 3)) (wq59_wq22_wq22_w5.alloc (.cells #[.slice (some ⟨w.heap.size, 0, none⟩) 3 3, .slice (some ⟨bn, 0, none⟩) 3 3, .slice (some ⟨w.heap.size, 0, none⟩) 3 3, .slice (some ⟨bn, 0, none⟩) 3 3] 60)) := ⟨cell_of_ans hb hS.1, cell_of_ans hb hS.2⟩
        clear hb
        refine hK.out _ _ (fun _ => hS2) (fun hS => ?_)
        replace hS := hS (by decide)
        clear hK K hS2
        try simp only [Act.put, List.setIfInBounds_toArray, List.set_cons_zero, List.set_cons_succ]
        generalize (wq59_wq22_wq22_w5.alloc (.cells #[.slice (some ⟨w.heap.size, 0, none⟩) 3 3, .slice (some ⟨bn, 0, none⟩) 3 3, .slice (some ⟨w.heap.size, 0, none⟩) 3 3, .slice (some ⟨bn, 0, none⟩) 3 3] 60)) = wq62_wq22_wq22_w5 at *
        generalize (Value.slice (some ⟨wq59_wq22_wq22_w5.heap.size, 0, none⟩) 2 2) = u57 at *
        refine T_ready (rs := [54]) (by kernel_rfl) (by simp) ?_
        refine TReady.cons rfl (fun K hK => ?_) TReady.nil
        · try go_simp
          refine (laid3_c _).mono ?_
          rintro e wq63_wq22_wq22_w5 ⟨u54, rfl, hu54, hb⟩
          replace HX := Lib.hid (HX.out.step hb)
          replace HN := Lib.hid (HN.out.step hb)
          replace HU58 := Lib.hid (HU58.out.step hb)
          replace HU57 := Lib.hid (HU57.out.step hb)
          replace HB := Lib.hid (HB.out.trans (hb.mono HB.out.size))
          have hS2 : (fun w' : World => w'.cell? ⟨bn + 1, 0, none⟩ = some (.slice (some ⟨w.heap.size, 0, none⟩) 3 3) ∧ w'.cell? ⟨bn + 1, 1, none⟩ = some (.slice (some ⟨bn, 0, none⟩) 3 3)) wq63_wq22_wq22_w5 := ⟨cell_of_ans hb hS.1, cell_of_ans hb hS.2⟩
          clear hb
          try go_simp
          refine hK.out _ _ (fun _ => hS2) (fun hS => ?_)
          replace hS := hS (by decide)
          clear hK K hS2
          try simp only [Act.put, List.setIfInBounds_toArray, List.set_cons_zero, List.set_cons_succ]
          have HU54 := Lib.hid hu54
          clear hu54
          exact key u54 u57 u58 wq63_wq22_wq22_w5 ⟨HU54.out, HU57.out, HU58.out, HB.out, HX.out, HN.out, hS⟩
  clear HB HX HN  hS
  intro u54 u57 u58 wq69_wq22_wq22_w5 ⟨hu54, hu57, hu58, hB, hX, hN, hS⟩
  have HB := Lib.hid hB
  have HX := Lib.hid hX
  have HN := Lib.hid hN
  have HU54 := Lib.hid hu54
  have HU57 := Lib.hid hu57
  have HU58 := Lib.hid hu58
  clear hB hX hN hu54 hu57 hu58
  obtain ⟨a58, ha58, hi58⟩ := HU58.out
  subst ha58
  refine T_ready (rs := [59]) (by kernel_rfl) (by simp) ?_
  refine TReady.cons rfl (fun K hK => ?_) TReady.nil
  try go_simp
  refine (prove_names_c _ _ 2 _ 0 false _ HU54.out HU57.out (by omega) hi58 nm_r2).mono ?_
  rintro e wq70_wq22_wq22_w5 ⟨rfl, hb⟩
  replace HX := Lib.hid (HX.out.step hb)
  replace HN := Lib.hid (HN.out.step hb)
  replace HU54 := Lib.hid (HU54.out.step hb)
  replace HU57 := Lib.hid (HU57.out.step hb)
  replace HU58 := Lib.hid (HU58.out.step hb)
  replace HB := Lib.hid (HB.out.trans (hb.mono HB.out.size))
  have hS2 : (fun w' : World => w'.cell? ⟨bn + 1, 0, none⟩ = some (.slice (some ⟨w.heap.size, 0, none⟩) 3 3) ∧ w'.cell? ⟨bn + 1, 1, none⟩ = some (.slice (some ⟨bn, 0, none⟩) 3 3)) wq70_wq22_wq22_w5 := ⟨cell_of_ans hb hS.1, cell_of_ans hb hS.2⟩
  clear hb
  try go_simp
  refine hK.out _ _ (fun _ => hS2) (fun hS => ?_)
  replace hS := hS (by decide)
  clear hK K hS2
  try simp only [Act.put, List.setIfInBounds_toArray, List.set_cons_zero, List.set_cons_succ]
  clear HU54 HU57 HU58
  clear hi58
  refine' T_take (i := 60) (v := _) rfl (by kernel_rfl) (by kernel_rfl) (by kernel_rfl) (by kernel_rfl) (fun _ _ _ h => h) (by kernel_rfl) hS ?_ ?_
  rotate_left 1
  · intro Wv hW
    obtain ⟨s0, s1⟩ := hW
    go_simp
    first | done | with_reducible rfl
  try simp only [Act.put, List.setIfInBounds_toArray, List.set_cons_zero, List.set_cons_succ]
  refine T_done (by kernel_rfl) ?_ _
  refine NoPanic.normal ?_
  obtain ⟨k0, k1⟩ := hS
  go_wp2_with fail
  go_wp2_with fail
  refine (laid3_c _).mono ?_
  rintro e wz1 ⟨vl, rfl, hl, hb⟩
  replace HX := Lib.hid (HX.out.step hb)
  replace HN := Lib.hid (HN.out.step hb)
  replace k0 := cell_of_ans hb k0
  replace k1 := cell_of_ans hb k1
  replace HB := Lib.hid (HB.out.trans (hb.mono HB.out.size))
  clear hb
  have Hhl := Lib.hid hl
  clear hl
  go_wp2_with fail
  refine (rolled2_c _).mono ?_
  rintro e wz2 ⟨vr, rfl, hr, hb⟩
  replace HX := Lib.hid (HX.out.step hb)
  replace HN := Lib.hid (HN.out.step hb)
  replace k0 := cell_of_ans hb k0
  replace k1 := cell_of_ans hb k1
  replace Hhl := Lib.hid (Hhl.out.step hb)
  replace HB := Lib.hid (HB.out.trans (hb.mono HB.out.size))
  clear hb
  have Hhr := Lib.hid hr
  clear hr
  go_wp2_with fail
  have hb : Below wz2.heap.size wz2 ((wz2.alloc (.cells #[.int .i64 2, .int .i64 3, .int .i64 4] 3)).alloc (.cells #[.slice (some ⟨wz2.heap.size, 0, none⟩) 3 3] 45)) := ((Below.refl _ _).alloc (Nat.le_refl _) _).alloc (by simp) _
  have HRW : Hid (IsRows ((wz2.alloc (.cells #[.int .i64 2, .int .i64 3, .int .i64 4] 3)).alloc (.cells #[.slice (some ⟨wz2.heap.size, 0, none⟩) 3 3] 45)) (.slice (some ⟨wz2.heap.size + 1, 0, none⟩) 1 1) [[2, 3, 4]]) := by
    have h := isRows_new (wz2.alloc (.cells #[.int .i64 2, .int .i64 3, .int .i64 4] 3)) _ [2, 3, 4] (isRow_new wz2 2 3 4) (by simp)
    rw [World.size_alloc] at h
    exact h
  replace HX := Lib.hid (HX.out.step hb)
  replace HN := Lib.hid (HN.out.step hb)
  replace k0 := cell_of_ans hb k0
  replace k1 := cell_of_ans hb k1
  replace Hhl := Lib.hid (Hhl.out.step hb)
  replace Hhr := Lib.hid (Hhr.out.step hb)
  replace HB := Lib.hid (HB.out.trans (hb.mono HB.out.size))
  clear hb
  generalize ((wz2.alloc (.cells #[.int .i64 2, .int .i64 3, .int .i64 4] 3)).alloc (.cells #[.slice (some ⟨wz2.heap.size, 0, none⟩) 3 3] 45)) = wz3 at *
  refine (playn_c _ _ _ _ _ Hhl.out Hhr.out HRW.out (by simp) nm_e1).mono ?_
  rintro e wz4 ⟨rfl, hb⟩
  replace HX := Lib.hid (HX.out.step hb)
  replace HN := Lib.hid (HN.out.step hb)
  replace k0 := cell_of_ans hb k0
  replace k1 := cell_of_ans hb k1
  replace Hhl := Lib.hid (Hhl.out.step hb)
  replace Hhr := Lib.hid (Hhr.out.step hb)
  replace HRW := Lib.hid (HRW.out.step hb)
  replace HB := Lib.hid (HB.out.trans (hb.mono HB.out.size))
  clear hb
  clear Hhl Hhr HRW
  go_wp2_with fail
  refine (laid3_c _).mono ?_
  rintro e wz5 ⟨vl, rfl, hl, hb⟩
  replace HX := Lib.hid (HX.out.step hb)
  replace HN := Lib.hid (HN.out.step hb)
  replace k0 := cell_of_ans hb k0
  replace k1 := cell_of_ans hb k1
  replace HB := Lib.hid (HB.out.trans (hb.mono HB.out.size))
  clear hb
  have Hhl := Lib.hid hl
  clear hl
  go_wp2_with fail
  refine (rolled2_c _).mono ?_
  rintro e wz6 ⟨vr, rfl, hr, hb⟩
  replace HX := Lib.hid (HX.out.step hb)
  replace HN := Lib.hid (HN.out.step hb)
  replace k0 := cell_of_ans hb k0
  replace k1 := cell_of_ans hb k1
  replace Hhl := Lib.hid (Hhl.out.step hb)
  replace HB := Lib.hid (HB.out.trans (hb.mono HB.out.size))
  clear hb
  have Hhr := Lib.hid hr
  clear hr
  go_wp2_with fail
  have hb := lit2_below wz6 2 3 4 5 5 6
  have HRW : Hid (IsRows (lit2 wz6 2 3 4 5 5 6) (.slice (some ⟨wz6.heap.size + 1 + 1, 0, none⟩) 2 2) [[2, 3, 4], [5, 5, 6]]) := ⟨_, rfl, lit2_grd wz6 2 3 4 5 5 6⟩
  replace HX := Lib.hid (HX.out.step hb)
  replace HN := Lib.hid (HN.out.step hb)
  replace k0 := cell_of_ans hb k0
  replace k1 := cell_of_ans hb k1
  replace Hhl := Lib.hid (Hhl.out.step hb)
  replace Hhr := Lib.hid (Hhr.out.step hb)
  replace HB := Lib.hid (HB.out.trans (hb.mono HB.out.size))
  clear hb
  unfold lit2 at HRW HB HX HN k0 k1 Hhl Hhr
  generalize ((wz6.alloc (.cells #[.int .i64 2, .int .i64 3, .int .i64 4] 3)).alloc (.cells #[.int .i64 5, .int .i64 5, .int .i64 6] 3)).alloc (.cells #[.slice (some ⟨wz6.heap.size, 0, none⟩) 3 3, .slice (some ⟨wz6.heap.size + 1, 0, none⟩) 3 3] 45) = wz7 at *
  refine (playn_c _ _ _ _ _ Hhl.out Hhr.out HRW.out (by simp) nm_e2).mono ?_
  rintro e wz8 ⟨rfl, hb⟩
  replace HX := Lib.hid (HX.out.step hb)
  replace HN := Lib.hid (HN.out.step hb)
  replace k0 := cell_of_ans hb k0
  replace k1 := cell_of_ans hb k1
  replace Hhl := Lib.hid (Hhl.out.step hb)
  replace Hhr := Lib.hid (Hhr.out.step hb)
  replace HRW := Lib.hid (HRW.out.step hb)
  replace HB := Lib.hid (HB.out.trans (hb.mono HB.out.size))
  clear hb
  clear Hhl Hhr HRW
  go_wp2_with fail
  refine wp_region_noPanic ?_
  have hS : (fun w' : World => w'.cell? ⟨bn + 1, 0, none⟩ = some (.slice (some ⟨w.heap.size, 0, none⟩) 3 3) ∧ w'.cell? ⟨bn + 1, 1, none⟩ = some (.slice (some ⟨bn, 0, none⟩) 3 3)) wz8.drew := ⟨k0, k1⟩
  refine wp_region_any (by kernel_rfl) (wpAny_of_T (S := fun w' : World => w'.cell? ⟨bn + 1, 0, none⟩ = some (.slice (some ⟨w.heap.size, 0, none⟩) 3 3) ∧ w'.cell? ⟨bn + 1, 1, none⟩ = some (.slice (some ⟨bn, 0, none⟩) 3 3)) (m := 9) _ _ _ _ ?_)
  have hd : Below wz8.heap.size wz8 wz8.drew := (Below.refl _ _).drew
  replace HX := Lib.hid (HX.out.step hd)
  replace HN := Lib.hid (HN.out.step hd)
  replace HB := Lib.hid (HB.out.trans (hd.mono HB.out.size))
  clear hd k0 k1
  refine' T_take (i := 3) (v := _) rfl (by kernel_rfl) (by kernel_rfl) (by kernel_rfl) (by kernel_rfl) (fun _ _ _ h => h) (by kernel_rfl) hS ?_ ?_
  rotate_left 1
  · intro Wv hW
    obtain ⟨s0, s1⟩ := hW
    go_simp
    first | done | with_reducible rfl
  try simp only [Act.put, List.setIfInBounds_toArray, List.set_cons_zero, List.set_cons_succ]
  refine' merge3 (fun u0 u1 u2 W => IsLaid W u0 ∧ IsRow W u1 [0, 0, 3] ∧ IsRows W u2 [[0, 0, 3]] ∧ Below w.heap.size w W ∧ Ints W.heap.size W (some ⟨w.heap.size, 0, none⟩) [0, 0, 0] ∧ Ints W.heap.size W (some ⟨bn, 0, none⟩) [25, 0, 0] ∧ (fun w' : World => w'.cell? ⟨bn + 1, 0, none⟩ = some (.slice (some ⟨w.heap.size, 0, none⟩) 3 3) ∧ w'.cell? ⟨bn + 1, 1, none⟩ = some (.slice (some ⟨bn, 0, none⟩) 3 3)) W) _ (fun key => ?_) ?_
  rotate_left 1
  · refine T_ready (rs := [0, 1]) (by kernel_rfl) (by simp) ?_
    refine TReady.cons rfl (fun K hK => ?_) (TReady.cons rfl (fun K hK => ?_) TReady.nil)
    · try go_simp
      refine (laid3_c _).mono ?_
      rintro e wq1_wz8 ⟨u0, rfl, hu0, hb⟩
      replace HX := Lib.hid (HX.out.step hb)
      replace HN := Lib.hid (HN.out.step hb)
      replace HB := Lib.hid (HB.out.trans (hb.mono HB.out.size))
      have hS2 : (fun w' : World => w'.cell? ⟨bn + 1, 0, none⟩ = some (.slice (some ⟨w.heap.size, 0, none⟩) 3 3) ∧ w'.cell? ⟨bn + 1, 1, none⟩ = some (.slice (some ⟨bn, 0, none⟩) 3 3)) wq1_wz8 := ⟨cell_of_ans hb hS.1, cell_of_ans hb hS.2⟩
      clear hb
      try go_simp
      refine hK.out _ _ (fun _ => hS2) (fun hS => ?_)
      replace hS := hS (by decide)
      clear hK K hS2
      try simp only [Act.put, List.setIfInBounds_toArray, List.set_cons_zero, List.set_cons_succ]
      have HU0 := Lib.hid hu0
      clear hu0
      refine T_ready (rs := [1]) (by kernel_rfl) (by simp) ?_
      refine TReady.cons rfl (fun K hK => ?_) TReady.nil
      · have HU1 : Hid (IsRow (wq1_wz8.alloc (.cells #[.int .i64 0, .int .i64 0, .int .i64 3] 3)) (.slice (some ⟨wq1_wz8.heap.size, 0, none⟩) 3 3) [0, 0, 3]) := isRow_new wq1_wz8 0 0 3
        try go_simp
        have hb : Below wq1_wz8.heap.size wq1_wz8 (wq1_wz8.alloc (.cells #[.int .i64 0, .int .i64 0, .int .i64 3] 3)) := (Below.refl wq1_wz8.heap.size wq1_wz8).alloc (Nat.le_refl _) _
        replace HX := Lib.hid (HX.out.step hb)
        replace HN := Lib.hid (HN.out.step hb)
        replace HU0 := Lib.hid (HU0.out.step hb)
        replace HB := Lib.hid (HB.out.trans (hb.mono HB.out.size))
        have hS2 : (fun w' : World => w'.cell? ⟨bn + 1, 0, none⟩ = some (.slice (some ⟨w.heap.size, 0, none⟩) 3 3) ∧ w'.cell? ⟨bn + 1, 1, none⟩ = some (.slice (some ⟨bn, 0, none⟩) 3 3)) (wq1_wz8.alloc (.cells #[.int .i64 0, .int .i64 0, .int .i64 3] 3)) := ⟨cell_of_ans hb hS.1, cell_of_ans hb hS.2⟩
        clear hb
        refine hK.out _ _ (fun _ => hS2) (fun hS => ?_)
        replace hS := hS (by decide)
        clear hK K hS2
        try simp only [Act.put, List.setIfInBounds_toArray, List.set_cons_zero, List.set_cons_succ]
        generalize (wq1_wz8.alloc (.cells #[.int .i64 0, .int .i64 0, .int .i64 3] 3)) = wq2_wz8 at *
        generalize (Value.slice (some ⟨wq1_wz8.heap.size, 0, none⟩) 3 3) = u1 at *
        refine T_ready (rs := [2]) (by kernel_rfl) (by simp) ?_
        refine TReady.cons rfl (fun K hK => ?_) TReady.nil
        · obtain ⟨a1, ha1, hi1⟩ := HU1.out
          have ha1' : u1 = .slice a1 3 3 := ha1
          clear ha1 hi1
          subst ha1'
          have HU2 : Hid (IsRows (wq2_wz8.alloc (.cells #[.slice a1 3 3] 45)) (.slice (some ⟨wq2_wz8.heap.size, 0, none⟩) 1 1) [[0, 0, 3]]) := isRows_new wq2_wz8 (.slice a1 3 3) [0, 0, 3] HU1.out (by simp)
          try go_simp
          have hb : Below wq2_wz8.heap.size wq2_wz8 (wq2_wz8.alloc (.cells #[.slice a1 3 3] 45)) := (Below.refl wq2_wz8.heap.size wq2_wz8).alloc (Nat.le_refl _) _
          replace HX := Lib.hid (HX.out.step hb)
          replace HN := Lib.hid (HN.out.step hb)
          replace HU0 := Lib.hid (HU0.out.step hb)
          replace HU1 := Lib.hid (HU1.out.step hb)
          replace HB := Lib.hid (HB.out.trans (hb.mono HB.out.size))
          have hS2 : (fun w' : World => w'.cell? ⟨bn + 1, 0, none⟩ = some (.slice (some ⟨w.heap.size, 0, none⟩) 3 3) ∧ w'.cell? ⟨bn + 1, 1, none⟩ = some (.slice (some ⟨bn, 0, none⟩) 3 3)) (wq2_wz8.alloc (.cells #[.slice a1 3 3] 45)) := ⟨cell_of_ans hb hS.1, cell_of_ans hb hS.2⟩
          clear hb
          refine hK.out _ _ (fun _ => hS2) (fun hS => ?_)
          replace hS := hS (by decide)
          clear hK K hS2
          try simp only [Act.put, List.setIfInBounds_toArray, List.set_cons_zero, List.set_cons_succ]
          generalize (wq2_wz8.alloc (.cells #[.slice a1 3 3] 45)) = wq3_wz8 at *
          generalize (Value.slice (some ⟨wq2_wz8.heap.size, 0, none⟩) 1 1) = u2 at *
          generalize (Value.slice a1 3 3) = u1 at *
          exact key u0 u1 u2 wq3_wz8 ⟨HU0.out, HU1.out, HU2.out, HB.out, HX.out, HN.out, hS⟩
    · have HU1 : Hid (IsRow (wz8.alloc (.cells #[.int .i64 0, .int .i64 0, .int .i64 3] 3)).drew (.slice (some ⟨wz8.heap.size, 0, none⟩) 3 3) [0, 0, 3]) := isRow_new wz8 0 0 3
      try go_simp
      have hb : Below wz8.drew.heap.size wz8.drew (wz8.alloc (.cells #[.int .i64 0, .int .i64 0, .int .i64 3] 3)).drew := (Below.refl wz8.drew.heap.size wz8.drew).alloc (Nat.le_refl _) _
      replace HX := Lib.hid (HX.out.step hb)
      replace HN := Lib.hid (HN.out.step hb)
      replace HB := Lib.hid (HB.out.trans (hb.mono HB.out.size))
      have hS2 : (fun w' : World => w'.cell? ⟨bn + 1, 0, none⟩ = some (.slice (some ⟨w.heap.size, 0, none⟩) 3 3) ∧ w'.cell? ⟨bn + 1, 1, none⟩ = some (.slice (some ⟨bn, 0, none⟩) 3 3)) (wz8.alloc (.cells #[.int .i64 0, .int .i64 0, .int .i64 3] 3)).drew := ⟨cell_of_ans hb hS.1, cell_of_ans hb hS.2⟩
      clear hb
      refine hK.out _ _ (fun _ => hS2) (fun hS => ?_)
      replace hS := hS (by decide)
      clear hK K hS2
      try simp only [Act.put, List.setIfInBounds_toArray, List.set_cons_zero, List.set_cons_succ]
      generalize (wz8.alloc (.cells #[.int .i64 0, .int .i64 0, .int .i64 3] 3)).drew = wq4_wz8 at *
      generalize (Value.slice (some ⟨wz8.heap.size, 0, none⟩) 3 3) = u1 at *
      refine T_ready (rs := [0, 2]) (by kernel_rfl) (by simp) ?_
      refine TReady.cons rfl (fun K hK => ?_) (TReady.cons rfl (fun K hK => ?_) TReady.nil)
      · try go_simp
        refine (laid3_c _).mono ?_
        rintro e wq5_wz8 ⟨u0, rfl, hu0, hb⟩
        replace HX := Lib.hid (HX.out.step hb)
        replace HN := Lib.hid (HN.out.step hb)
        replace HU1 := Lib.hid (HU1.out.step hb)
        replace HB := Lib.hid (HB.out.trans (hb.mono HB.out.size))
        have hS2 : (fun w' : World => w'.cell? ⟨bn + 1, 0, none⟩ = some (.slice (some ⟨w.heap.size, 0, none⟩) 3 3) ∧ w'.cell? ⟨bn + 1, 1, none⟩ = some (.slice (some ⟨bn, 0, none⟩) 3 3)) wq5_wz8 := ⟨cell_of_ans hb hS.1, cell_of_ans hb hS.2⟩
        clear hb
        try go_simp
        refine hK.out _ _ (fun _ => hS2) (fun hS => ?_)
        replace hS := hS (by decide)
        clear hK K hS2
        try simp only [Act.put, List.setIfInBounds_toArray, List.set_cons_zero, List.set_cons_succ]
        have HU0 := Lib.hid hu0
        clear hu0
        refine T_ready (rs := [2]) (by kernel_rfl) (by simp) ?_
        refine TReady.cons rfl (fun K hK => ?_) TReady.nil
        · obtain ⟨a1, ha1, hi1⟩ := HU1.out
          have ha1' : u1 = .slice a1 3 3 := ha1
          clear ha1 hi1
          subst ha1'
          have HU2 : Hid (IsRows (wq5_wz8.alloc (.cells #[.slice a1 3 3] 45)) (.slice (some ⟨wq5_wz8.heap.size, 0, none⟩) 1 1) [[0, 0, 3]]) := isRows_new wq5_wz8 (.slice a1 3 3) [0, 0, 3] HU1.out (by simp)
          try go_simp
          have hb : Below wq5_wz8.heap.size wq5_wz8 (wq5_wz8.alloc (.cells #[.slice a1 3 3] 45)) := (Below.refl wq5_wz8.heap.size wq5_wz8).alloc (Nat.le_refl _) _
          replace HX := Lib.hid (HX.out.step hb)
          replace HN := Lib.hid (HN.out.step hb)
          replace HU1 := Lib.hid (HU1.out.step hb)
          replace HU0 := Lib.hid (HU0.out.step hb)
          replace HB := Lib.hid (HB.out.trans (hb.mono HB.out.size))
          have hS2 : (fun w' : World => w'.cell? ⟨bn + 1, 0, none⟩ = some (.slice (some ⟨w.heap.size, 0, none⟩) 3 3) ∧ w'.cell? ⟨bn + 1, 1, none⟩ = some (.slice (some ⟨bn, 0, none⟩) 3 3)) (wq5_wz8.alloc (.cells #[.slice a1 3 3] 45)) := ⟨cell_of_ans hb hS.1, cell_of_ans hb hS.2⟩
          clear hb
          refine hK.out _ _ (fun _ => hS2) (fun hS => ?_)
          replace hS := hS (by decide)
          clear hK K hS2
          try simp only [Act.put, List.setIfInBounds_toArray, List.set_cons_zero, List.set_cons_succ]
          generalize (wq5_wz8.alloc (.cells #[.slice a1 3 3] 45)) = wq6_wz8 at *
          generalize (Value.slice (some ⟨wq5_wz8.heap.size, 0, none⟩) 1 1) = u2 at *
          generalize (Value.slice a1 3 3) = u1 at *
          exact key u0 u1 u2 wq6_wz8 ⟨HU0.out, HU1.out, HU2.out, HB.out, HX.out, HN.out, hS⟩
      · obtain ⟨a1, ha1, hi1⟩ := HU1.out
        have ha1' : u1 = .slice a1 3 3 := ha1
        clear ha1 hi1
        subst ha1'
        have HU2 : Hid (IsRows (wq4_wz8.alloc (.cells #[.slice a1 3 3] 45)) (.slice (some ⟨wq4_wz8.heap.size, 0, none⟩) 1 1) [[0, 0, 3]]) := isRows_new wq4_wz8 (.slice a1 3 3) [0, 0, 3] HU1.out (by simp)
        try go_simp
        have hb : Below wq4_wz8.heap.size wq4_wz8 (wq4_wz8.alloc (.cells #[.slice a1 3 3] 45)) := (Below.refl wq4_wz8.heap.size wq4_wz8).alloc (Nat.le_refl _) _
        replace HX := Lib.hid (HX.out.step hb)
        replace HN := Lib.hid (HN.out.step hb)
        replace HU1 := Lib.hid (HU1.out.step hb)
        replace HB := Lib.hid (HB.out.trans (hb.mono HB.out.size))
        have hS2 : (fun w' : World => w'.cell? ⟨bn + 1, 0, none⟩ = some (.slice (some ⟨w.heap.size, 0, none⟩) 3 3) ∧ w'.cell? ⟨bn + 1, 1, none⟩ = some (.slice (some ⟨bn, 0, none⟩) 3 3)) (wq4_wz8.alloc (.cells #[.slice a1 3 3] 45)) := ⟨cell_of_ans hb hS.1, cell_of_ans hb hS.2⟩
        clear hb
        refine hK.out _ _ (fun _ => hS2) (fun hS => ?_)
        replace hS := hS (by decide)
        clear hK K hS2
        try simp only [Act.put, List.setIfInBounds_toArray, List.set_cons_zero, List.set_cons_succ]
        generalize (wq4_wz8.alloc (.cells #[.slice a1 3 3] 45)) = wq7_wz8 at *
        generalize (Value.slice (some ⟨wq4_wz8.heap.size, 0, none⟩) 1 1) = u2 at *
        generalize (Value.slice a1 3 3) = u1 at *
        refine T_ready (rs := [0]) (by kernel_rfl) (by simp) ?_
        refine TReady.cons rfl (fun K hK => ?_) TReady.nil
        · try go_simp
          refine (laid3_c _).mono ?_
          rintro e wq8_wz8 ⟨u0, rfl, hu0, hb⟩
          replace HX := Lib.hid (HX.out.step hb)
          replace HN := Lib.hid (HN.out.step hb)
          replace HU1 := Lib.hid (HU1.out.step hb)
          replace HU2 := Lib.hid (HU2.out.step hb)
          replace HB := Lib.hid (HB.out.trans (hb.mono HB.out.size))
          have hS2 : (fun w' : World => w'.cell? ⟨bn + 1, 0, none⟩ = some (.slice (some ⟨w.heap.size, 0, none⟩) 3 3) ∧ w'.cell? ⟨bn + 1, 1, none⟩ = some (.slice (some ⟨bn, 0, none⟩) 3 3)) wq8_wz8 := ⟨cell_of_ans hb hS.1, cell_of_ans hb hS.2⟩
          clear hb
          try go_simp
          refine hK.out _ _ (fun _ => hS2) (fun hS => ?_)
          replace hS := hS (by decide)
          clear hK K hS2
          try simp only [Act.put, List.setIfInBounds_toArray, List.set_cons_zero, List.set_cons_succ]
          have HU0 := Lib.hid hu0
          clear hu0
          exact key u0 u1 u2 wq8_wz8 ⟨HU0.out, HU1.out, HU2.out, HB.out, HX.out, HN.out, hS⟩
  clear HB HX HN  hS
  intro u0 u1 u2 wq21_wz8 ⟨hu0, hu1, hu2, hB, hX, hN, hS⟩
  have HB := Lib.hid hB
  have HX := Lib.hid hX
  have HN := Lib.hid hN
  have HU0 := Lib.hid hu0
  have HU1 := Lib.hid hu1
  have HU2 := Lib.hid hu2
  clear hB hX hN hu0 hu1 hu2
  refine T_ready (rs := [4]) (by kernel_rfl) (by simp) ?_
  refine TReady.cons rfl (fun K hK => ?_) TReady.nil
  try go_simp
  refine (playbad_c _ _ _ _ [25, 0, 0] _ 2 _ HU0.out HU2.out HX.out HN.out rfl (by simp) nm_e3 (by decide)).mono ?_
  rintro e wq22_wz8 ⟨rfl, hb⟩
  replace HX := Lib.hid (HX.out.step hb)
  replace HN := Lib.hid (HN.out.step hb)
  replace HU0 := Lib.hid (HU0.out.step hb)
  replace HU1 := Lib.hid (HU1.out.step hb)
  replace HU2 := Lib.hid (HU2.out.step hb)
  replace HB := Lib.hid (HB.out.trans (hb.mono HB.out.size))
  have hS2 : (fun w' : World => w'.cell? ⟨bn + 1, 0, none⟩ = some (.slice (some ⟨w.heap.size, 0, none⟩) 3 3) ∧ w'.cell? ⟨bn + 1, 1, none⟩ = some (.slice (some ⟨bn, 0, none⟩) 3 3)) wq22_wz8 := ⟨cell_of_ans hb hS.1, cell_of_ans hb hS.2⟩
  clear hb
  try go_simp
  refine hK.out _ _ (fun _ => hS2) (fun hS => ?_)
  replace hS := hS (by decide)
  clear hK K hS2
  try simp only [Act.put, List.setIfInBounds_toArray, List.set_cons_zero, List.set_cons_succ]
  clear HU0 HU1 HU2
  refine' T_take (i := 5) (v := _) rfl (by kernel_rfl) (by kernel_rfl) (by kernel_rfl) (by kernel_rfl) (fun _ _ _ h => h) (by kernel_rfl) hS ?_ ?_
  rotate_left 1
  · intro Wv hW
    obtain ⟨s0, s1⟩ := hW
    go_simp
    first | done | with_reducible rfl
  try simp only [Act.put, List.setIfInBounds_toArray, List.set_cons_zero, List.set_cons_succ]
  refine' T_take (i := 6) (v := _) rfl (by kernel_rfl) (by kernel_rfl) (by kernel_rfl) (by kernel_rfl) (fun _ _ _ h => h) (by kernel_rfl) hS ?_ ?_
  rotate_left 1
  · intro Wv hW
    obtain ⟨s0, s1⟩ := hW
    go_simp
    first | done | with_reducible rfl
  try simp only [Act.put, List.setIfInBounds_toArray, List.set_cons_zero, List.set_cons_succ]
  refine' T_take (i := 7) (v := _) rfl (by kernel_rfl) (by kernel_rfl) (by kernel_rfl) (by kernel_rfl) (fun _ _ _ h => h) (by kernel_rfl) hS ?_ ?_
  rotate_left 1
  · intro Wv hW
    obtain ⟨s0, s1⟩ := hW
    go_simp
    first | done | with_reducible rfl
  try simp only [Act.put, List.setIfInBounds_toArray, List.set_cons_zero, List.set_cons_succ]
  refine' T_take (i := 8) (v := _) rfl (by kernel_rfl) (by kernel_rfl) (by kernel_rfl) (by kernel_rfl) (fun _ _ _ h => h) (by kernel_rfl) hS ?_ ?_
  rotate_left 1
  · intro Wv hW
    obtain ⟨s0, s1⟩ := hW
    go_simp
    first | done | with_reducible rfl
  try simp only [Act.put, List.setIfInBounds_toArray, List.set_cons_zero, List.set_cons_succ]
  refine T_done (by kernel_rfl) ?_ _
  refine NoPanic.normal ?_
  obtain ⟨k0, k1⟩ := hS
  go_wp2_with fail
  have hmk : ∀ w, (Instr.makeSlice 22 (.int .i64 21) (.int .i64 21)).run Try.prog w = .ok (.slice (some ⟨w.heap.size, 0, none⟩) 21 21) (w.alloc (.cells (Array.replicate 21 (.slice none 0 0)) 45)) := fun _ => by kernel_rfl
  refine wp_region_noPanic ?_
  have hS : (fun w' : World => w'.cell? ⟨bn + 1, 0, none⟩ = some (.slice (some ⟨w.heap.size, 0, none⟩) 3 3) ∧ w'.cell? ⟨bn + 1, 1, none⟩ = some (.slice (some ⟨bn, 0, none⟩) 3 3)) wq22_wz8.drew := ⟨k0, k1⟩
  refine wp_region_any (by kernel_rfl) (wpAny_of_T (S := fun w' : World => w'.cell? ⟨bn + 1, 0, none⟩ = some (.slice (some ⟨w.heap.size, 0, none⟩) 3 3) ∧ w'.cell? ⟨bn + 1, 1, none⟩ = some (.slice (some ⟨bn, 0, none⟩) 3 3)) (m := 8) _ _ _ _ ?_)
  have hd : Below wq22_wz8.heap.size wq22_wz8 wq22_wz8.drew := (Below.refl _ _).drew
  replace HX := Lib.hid (HX.out.step hd)
  replace HN := Lib.hid (HN.out.step hd)
  replace HB := Lib.hid (HB.out.trans (hd.mono HB.out.size))
  clear hd k0 k1
  refine' T_take (i := 2) (v := _) rfl (by kernel_rfl) (by kernel_rfl) (by kernel_rfl) (by kernel_rfl) (fun _ _ _ h => h) (by kernel_rfl) hS ?_ ?_
  rotate_left 1
  · intro Wv hW
    obtain ⟨s0, s1⟩ := hW
    go_simp
    first | done | with_reducible rfl
  try simp only [Act.put, List.setIfInBounds_toArray, List.set_cons_zero, List.set_cons_succ]
  refine' merge2 (fun u0 u1 W => IsLaid W u0 ∧ IsRows W u1 (List.replicate 21 []) ∧ Below w.heap.size w W ∧ Ints W.heap.size W (some ⟨w.heap.size, 0, none⟩) [0, 0, 0] ∧ Ints W.heap.size W (some ⟨bn, 0, none⟩) [25, 0, 0] ∧ (fun w' : World => w'.cell? ⟨bn + 1, 0, none⟩ = some (.slice (some ⟨w.heap.size, 0, none⟩) 3 3) ∧ w'.cell? ⟨bn + 1, 1, none⟩ = some (.slice (some ⟨bn, 0, none⟩) 3 3)) W) _ (fun key => ?_) ?_
  rotate_left 1
  · refine T_ready (rs := [0, 1]) (by kernel_rfl) (by simp) ?_
    refine TReady.cons rfl (fun K hK => ?_) (TReady.cons rfl (fun K hK => ?_) TReady.nil)
    · try go_simp
      refine (laid3_c _).mono ?_
      rintro e wq1_wq22_wz8 ⟨u0, rfl, hu0, hb⟩
      replace HX := Lib.hid (HX.out.step hb)
      replace HN := Lib.hid (HN.out.step hb)
      replace HB := Lib.hid (HB.out.trans (hb.mono HB.out.size))
      have hS2 : (fun w' : World => w'.cell? ⟨bn + 1, 0, none⟩ = some (.slice (some ⟨w.heap.size, 0, none⟩) 3 3) ∧ w'.cell? ⟨bn + 1, 1, none⟩ = some (.slice (some ⟨bn, 0, none⟩) 3 3)) wq1_wq22_wz8 := ⟨cell_of_ans hb hS.1, cell_of_ans hb hS.2⟩
      clear hb
      try go_simp
      refine hK.out _ _ (fun _ => hS2) (fun hS => ?_)
      replace hS := hS (by decide)
      clear hK K hS2
      try simp only [Act.put, List.setIfInBounds_toArray, List.set_cons_zero, List.set_cons_succ]
      have HU0 := Lib.hid hu0
      clear hu0
      refine T_ready (rs := [1]) (by kernel_rfl) (by simp) ?_
      refine TReady.cons rfl (fun K hK => ?_) TReady.nil
      · have HU1 : Hid (IsRows (wq1_wq22_wz8.alloc (.cells (Array.replicate 21 (.slice none 0 0)) 45)) (.slice (some ⟨wq1_wq22_wz8.heap.size, 0, none⟩) 21 21) (List.replicate 21 [])) := isNils_new wq1_wq22_wz8 21 (by omega)
        try go_simp
        have hb : Below wq1_wq22_wz8.heap.size wq1_wq22_wz8 (wq1_wq22_wz8.alloc (.cells (Array.replicate 21 (.slice none 0 0)) 45)) := (Below.refl wq1_wq22_wz8.heap.size wq1_wq22_wz8).alloc (Nat.le_refl _) _
        replace HX := Lib.hid (HX.out.step hb)
        replace HN := Lib.hid (HN.out.step hb)
        replace HU0 := Lib.hid (HU0.out.step hb)
        replace HB := Lib.hid (HB.out.trans (hb.mono HB.out.size))
        have hS2 : (fun w' : World => w'.cell? ⟨bn + 1, 0, none⟩ = some (.slice (some ⟨w.heap.size, 0, none⟩) 3 3) ∧ w'.cell? ⟨bn + 1, 1, none⟩ = some (.slice (some ⟨bn, 0, none⟩) 3 3)) (wq1_wq22_wz8.alloc (.cells (Array.replicate 21 (.slice none 0 0)) 45)) := ⟨cell_of_ans hb hS.1, cell_of_ans hb hS.2⟩
        clear hb
        refine hK.out _ _ (fun _ => hS2) (fun hS => ?_)
        replace hS := hS (by decide)
        clear hK K hS2
        try simp only [Act.put, List.setIfInBounds_toArray, List.set_cons_zero, List.set_cons_succ]
        generalize (wq1_wq22_wz8.alloc (.cells (Array.replicate 21 (.slice none 0 0)) 45)) = wq2_wq22_wz8 at *
        generalize (Value.slice (some ⟨wq1_wq22_wz8.heap.size, 0, none⟩) 21 21) = u1 at *
        exact key u0 u1 wq2_wq22_wz8 ⟨HU0.out, HU1.out, HB.out, HX.out, HN.out, hS⟩
    · have HU1 : Hid (IsRows (wq22_wz8.alloc (.cells (Array.replicate 21 (.slice none 0 0)) 45)).drew (.slice (some ⟨wq22_wz8.heap.size, 0, none⟩) 21 21) (List.replicate 21 [])) := isNils_new wq22_wz8 21 (by omega)
      try go_simp
      have hb : Below wq22_wz8.drew.heap.size wq22_wz8.drew (wq22_wz8.alloc (.cells (Array.replicate 21 (.slice none 0 0)) 45)).drew := (Below.refl wq22_wz8.drew.heap.size wq22_wz8.drew).alloc (Nat.le_refl _) _
      replace HX := Lib.hid (HX.out.step hb)
      replace HN := Lib.hid (HN.out.step hb)
      replace HB := Lib.hid (HB.out.trans (hb.mono HB.out.size))
      have hS2 : (fun w' : World => w'.cell? ⟨bn + 1, 0, none⟩ = some (.slice (some ⟨w.heap.size, 0, none⟩) 3 3) ∧ w'.cell? ⟨bn + 1, 1, none⟩ = some (.slice (some ⟨bn, 0, none⟩) 3 3)) (wq22_wz8.alloc (.cells (Array.replicate 21 (.slice none 0 0)) 45)).drew := ⟨cell_of_ans hb hS.1, cell_of_ans hb hS.2⟩
      clear hb
      refine hK.out _ _ (fun _ => hS2) (fun hS => ?_)
      replace hS := hS (by decide)
      clear hK K hS2
      try simp only [Act.put, List.setIfInBounds_toArray, List.set_cons_zero, List.set_cons_succ]
      generalize (wq22_wz8.alloc (.cells (Array.replicate 21 (.slice none 0 0)) 45)).drew = wq3_wq22_wz8 at *
      generalize (Value.slice (some ⟨wq22_wz8.heap.size, 0, none⟩) 21 21) = u1 at *
      refine T_ready (rs := [0]) (by kernel_rfl) (by simp) ?_
      refine TReady.cons rfl (fun K hK => ?_) TReady.nil
      · try go_simp
        refine (laid3_c _).mono ?_
        rintro e wq4_wq22_wz8 ⟨u0, rfl, hu0, hb⟩
        replace HX := Lib.hid (HX.out.step hb)
        replace HN := Lib.hid (HN.out.step hb)
        replace HU1 := Lib.hid (HU1.out.step hb)
        replace HB := Lib.hid (HB.out.trans (hb.mono HB.out.size))
        have hS2 : (fun w' : World => w'.cell? ⟨bn + 1, 0, none⟩ = some (.slice (some ⟨w.heap.size, 0, none⟩) 3 3) ∧ w'.cell? ⟨bn + 1, 1, none⟩ = some (.slice (some ⟨bn, 0, none⟩) 3 3)) wq4_wq22_wz8 := ⟨cell_of_ans hb hS.1, cell_of_ans hb hS.2⟩
        clear hb
        try go_simp
        refine hK.out _ _ (fun _ => hS2) (fun hS => ?_)
        replace hS := hS (by decide)
        clear hK K hS2
        try simp only [Act.put, List.setIfInBounds_toArray, List.set_cons_zero, List.set_cons_succ]
        have HU0 := Lib.hid hu0
        clear hu0
        exact key u0 u1 wq4_wq22_wz8 ⟨HU0.out, HU1.out, HB.out, HX.out, HN.out, hS⟩
  clear HB HX HN  hS
  intro u0 u1 wq21_wq22_wz8 ⟨hu0, hu1, hB, hX, hN, hS⟩
  have HB := Lib.hid hB
  have HX := Lib.hid hX
  have HN := Lib.hid hN
  have HU0 := Lib.hid hu0
  have HU1 := Lib.hid hu1
  clear hB hX hN hu0 hu1
  clear hmk
  refine T_ready (rs := [3]) (by kernel_rfl) (by simp) ?_
  refine TReady.cons rfl (fun K hK => ?_) TReady.nil
  try go_simp
  refine (playbad_c _ _ _ _ [25, 0, 0] _ 3 _ HU0.out HU1.out HX.out HN.out rfl (by simp) nm_e4 (by decide)).mono ?_
  rintro e wq22_wq22_wz8 ⟨rfl, hb⟩
  replace HX := Lib.hid (HX.out.step hb)
  replace HN := Lib.hid (HN.out.step hb)
  replace HU0 := Lib.hid (HU0.out.step hb)
  replace HU1 := Lib.hid (HU1.out.step hb)
  replace HB := Lib.hid (HB.out.trans (hb.mono HB.out.size))
  have hS2 : (fun w' : World => w'.cell? ⟨bn + 1, 0, none⟩ = some (.slice (some ⟨w.heap.size, 0, none⟩) 3 3) ∧ w'.cell? ⟨bn + 1, 1, none⟩ = some (.slice (some ⟨bn, 0, none⟩) 3 3)) wq22_wq22_wz8 := ⟨cell_of_ans hb hS.1, cell_of_ans hb hS.2⟩
  clear hb
  try go_simp
  refine hK.out _ _ (fun _ => hS2) (fun hS => ?_)
  replace hS := hS (by decide)
  clear hK K hS2
  try simp only [Act.put, List.setIfInBounds_toArray, List.set_cons_zero, List.set_cons_succ]
  clear HU0 HU1
  refine' T_take (i := 4) (v := _) rfl (by kernel_rfl) (by kernel_rfl) (by kernel_rfl) (by kernel_rfl) (fun _ _ _ h => h) (by kernel_rfl) hS ?_ ?_
  rotate_left 1
  · intro Wv hW
    obtain ⟨s0, s1⟩ := hW
    go_simp
    first | done | with_reducible rfl
  try simp only [Act.put, List.setIfInBounds_toArray, List.set_cons_zero, List.set_cons_succ]
  refine' T_take (i := 5) (v := _) rfl (by kernel_rfl) (by kernel_rfl) (by kernel_rfl) (by kernel_rfl) (fun _ _ _ h => h) (by kernel_rfl) hS ?_ ?_
  rotate_left 1
  · intro Wv hW
    obtain ⟨s0, s1⟩ := hW
    go_simp
    first | done | with_reducible rfl
  try simp only [Act.put, List.setIfInBounds_toArray, List.set_cons_zero, List.set_cons_succ]
  refine' T_take (i := 6) (v := _) rfl (by kernel_rfl) (by kernel_rfl) (by kernel_rfl) (by kernel_rfl) (fun _ _ _ h => h) (by kernel_rfl) hS ?_ ?_
  rotate_left 1
  · intro Wv hW
    obtain ⟨s0, s1⟩ := hW
    go_simp
    first | done | with_reducible rfl
  try simp only [Act.put, List.setIfInBounds_toArray, List.set_cons_zero, List.set_cons_succ]
  refine' T_take (i := 7) (v := _) rfl (by kernel_rfl) (by kernel_rfl) (by kernel_rfl) (by kernel_rfl) (fun _ _ _ h => h) (by kernel_rfl) hS ?_ ?_
  rotate_left 1
  · intro Wv hW
    obtain ⟨s0, s1⟩ := hW
    go_simp
    first | done | with_reducible rfl
  try simp only [Act.put, List.setIfInBounds_toArray, List.set_cons_zero, List.set_cons_succ]
  refine T_done (by kernel_rfl) ?_ _
  refine NoPanic.normal ?_
  obtain ⟨k0, k1⟩ := hS
  go_wp2_with fail
  refine (laid3_c _).mono ?_
  rintro e wz10 ⟨vl, rfl, hl, hb⟩
  replace HX := Lib.hid (HX.out.step hb)
  replace HN := Lib.hid (HN.out.step hb)
  replace k0 := cell_of_ans hb k0
  replace k1 := cell_of_ans hb k1
  replace HB := Lib.hid (HB.out.trans (hb.mono HB.out.size))
  clear hb
  have Hhl := Lib.hid hl
  clear hl
  obtain ⟨Al, cl, hvl, _⟩ := Hhl.out
  subst hvl
  go_wp2_with fail
  have hb : Below wz10.heap.size wz10 (wz10.alloc (.cells #[.int .i64 1, .int .i64 1] 3)) := (Below.refl _ _).alloc (Nat.le_refl _) _
  have HN2 := Lib.hid (ints_two wz10 1 1)
  replace HX := Lib.hid (HX.out.step hb)
  replace HN := Lib.hid (HN.out.step hb)
  replace k0 := cell_of_ans hb k0
  replace k1 := cell_of_ans hb k1
  replace Hhl := Lib.hid (Hhl.out.step hb)
  replace HB := Lib.hid (HB.out.trans (hb.mono HB.out.size))
  clear hb
  generalize (wz10.alloc (.cells #[.int .i64 1, .int .i64 1] 3)) = wz11 at *
  refine (lastsbad_c _ _ _ [1, 1] 2 _ Hhl.out HX.out HN2.out rfl (by omega) nm_e5).mono ?_
  rintro e wz12 ⟨rfl, hb⟩
  replace HX := Lib.hid (HX.out.step hb)
  replace HN := Lib.hid (HN.out.step hb)
  replace k0 := cell_of_ans hb k0
  replace k1 := cell_of_ans hb k1
  replace Hhl := Lib.hid (Hhl.out.step hb)
  replace HN2 := Lib.hid (HN2.out.step hb)
  replace HB := Lib.hid (HB.out.trans (hb.mono HB.out.size))
  clear hb
  clear Hhl HN2
  go_wp2_with fail
  refine (laid3_c _).mono ?_
  rintro e wz13 ⟨vl, rfl, hl, hb⟩
  replace HX := Lib.hid (HX.out.step hb)
  replace HN := Lib.hid (HN.out.step hb)
  replace k0 := cell_of_ans hb k0
  replace k1 := cell_of_ans hb k1
  replace HB := Lib.hid (HB.out.trans (hb.mono HB.out.size))
  clear hb
  have Hhl := Lib.hid hl
  clear hl
  obtain ⟨Al, cl, hvl, _⟩ := Hhl.out
  subst hvl
  go_wp2_with fail
  have hb : Below wz13.heap.size wz13 ((wz13.alloc (.cells #[.int .i64 31, .int .i64 0, .int .i64 0] 3)).alloc (.cells #[.slice (some ⟨w.heap.size, 0, none⟩) 3 3, .slice (some ⟨wz13.heap.size, 0, none⟩) 3 3] 60)) := ((Below.refl _ _).alloc (Nat.le_refl _) _).alloc (by simp) _
  have HL1 := Lib.hid (lns_one wz13 _ rfl _ HX.out)
  replace HX := Lib.hid (HX.out.step hb)
  replace HN := Lib.hid (HN.out.step hb)
  replace k0 := cell_of_ans hb k0
  replace k1 := cell_of_ans hb k1
  replace Hhl := Lib.hid (Hhl.out.step hb)
  replace HB := Lib.hid (HB.out.trans (hb.mono HB.out.size))
  clear hb
  generalize ((wz13.alloc (.cells #[.int .i64 31, .int .i64 0, .int .i64 0] 3)).alloc (.cells #[.slice (some ⟨w.heap.size, 0, none⟩) 3 3, .slice (some ⟨wz13.heap.size, 0, none⟩) 3 3] 60)) = wz14 at *
  refine (plan0_c _ _ none _ Hhl.out HL1.out).mono ?_
  rintro e wz15 ⟨rfl, hb⟩
  replace HX := Lib.hid (HX.out.step hb)
  replace HN := Lib.hid (HN.out.step hb)
  replace k0 := cell_of_ans hb k0
  replace k1 := cell_of_ans hb k1
  replace Hhl := Lib.hid (Hhl.out.step hb)
  replace HL1 := Lib.hid (HL1.out.step hb)
  replace HB := Lib.hid (HB.out.trans (hb.mono HB.out.size))
  clear hb
  clear Hhl HL1 HN k0 k1
  go_wp2_with fail
  refine (laid3_c _).mono ?_
  rintro e wz16 ⟨vl, rfl, hl1, hb⟩
  replace HX := Lib.hid (HX.out.step hb)
  replace HB := Lib.hid (HB.out.trans (hb.mono HB.out.size))
  clear hb
  have Hhl1 := Lib.hid hl1
  clear hl1
  obtain ⟨Aa, ca, hvl, _⟩ := Hhl1.out
  subst hvl
  go_wp2_with fail
  refine (laid3_c _).mono ?_
  rintro e wz17 ⟨vl, rfl, hl2, hb⟩
  replace HX := Lib.hid (HX.out.step hb)
  replace Hhl1 := Lib.hid (Hhl1.out.step hb)
  replace HB := Lib.hid (HB.out.trans (hb.mono HB.out.size))
  clear hb
  have Hhl2 := Lib.hid hl2
  clear hl2
  obtain ⟨Ab, cb, hvl, _⟩ := Hhl2.out
  subst hvl
  go_wp2_with fail
  refine (laidF_c _).mono ?_
  rintro e W3 ⟨gg, ra, rb, rc, rfl, ⟨ne1, ne2, ne3⟩, hge, ⟨r0, r1, r2⟩, ⟨i0, i1, i2⟩, fz, hb3⟩
  have hgl := fz.1
  go_upto_region 18 with fail
  have hbX : Below W3.heap.size W3 (((W3.alloc (.cells #[.slice none 0 0, .int .i64 2, .int .i64 5, .int .i64 50] 34)).alloc (.cells #[.slice Ab 3 cb, .int .i64 2, .int .i64 10, .int .i64 50] 34)).alloc (.cells #[.slice (some ⟨gg, 0, none⟩) 3 3, .int .i64 2, .int .i64 5, .int .i64 50] 34)) := (((Below.refl _ _).alloc (Nat.le_refl _) _).alloc (by simp) _).alloc (by simp; omega) _
  have x00 : (((W3.alloc (.cells #[.slice none 0 0, .int .i64 2, .int .i64 5, .int .i64 50] 34)).alloc (.cells #[.slice Ab 3 cb, .int .i64 2, .int .i64 10, .int .i64 50] 34)).alloc (.cells #[.slice (some ⟨gg, 0, none⟩) 3 3, .int .i64 2, .int .i64 5, .int .i64 50] 34)).cell? ⟨W3.heap.size, 0, none⟩ = some (.slice none 0 0) := by go_simp
  have x01 : (((W3.alloc (.cells #[.slice none 0 0, .int .i64 2, .int .i64 5, .int .i64 50] 34)).alloc (.cells #[.slice Ab 3 cb, .int .i64 2, .int .i64 10, .int .i64 50] 34)).alloc (.cells #[.slice (some ⟨gg, 0, none⟩) 3 3, .int .i64 2, .int .i64 5, .int .i64 50] 34)).cell? ⟨W3.heap.size, 1, none⟩ = some (.int .i64 2) := by go_simp
  have x02 : (((W3.alloc (.cells #[.slice none 0 0, .int .i64 2, .int .i64 5, .int .i64 50] 34)).alloc (.cells #[.slice Ab 3 cb, .int .i64 2, .int .i64 10, .int .i64 50] 34)).alloc (.cells #[.slice (some ⟨gg, 0, none⟩) 3 3, .int .i64 2, .int .i64 5, .int .i64 50] 34)).cell? ⟨W3.heap.size, 2, none⟩ = some (.int .i64 5) := by go_simp
  have x03 : (((W3.alloc (.cells #[.slice none 0 0, .int .i64 2, .int .i64 5, .int .i64 50] 34)).alloc (.cells #[.slice Ab 3 cb, .int .i64 2, .int .i64 10, .int .i64 50] 34)).alloc (.cells #[.slice (some ⟨gg, 0, none⟩) 3 3, .int .i64 2, .int .i64 5, .int .i64 50] 34)).cell? ⟨W3.heap.size, 3, none⟩ = some (.int .i64 50) := by go_simp
  have x10 : (((W3.alloc (.cells #[.slice none 0 0, .int .i64 2, .int .i64 5, .int .i64 50] 34)).alloc (.cells #[.slice Ab 3 cb, .int .i64 2, .int .i64 10, .int .i64 50] 34)).alloc (.cells #[.slice (some ⟨gg, 0, none⟩) 3 3, .int .i64 2, .int .i64 5, .int .i64 50] 34)).cell? ⟨W3.heap.size + 1, 0, none⟩ = some (.slice Ab 3 cb) := by go_simp
  have x11 : (((W3.alloc (.cells #[.slice none 0 0, .int .i64 2, .int .i64 5, .int .i64 50] 34)).alloc (.cells #[.slice Ab 3 cb, .int .i64 2, .int .i64 10, .int .i64 50] 34)).alloc (.cells #[.slice (some ⟨gg, 0, none⟩) 3 3, .int .i64 2, .int .i64 5, .int .i64 50] 34)).cell? ⟨W3.heap.size + 1, 1, none⟩ = some (.int .i64 2) := by go_simp
  have x12 : (((W3.alloc (.cells #[.slice none 0 0, .int .i64 2, .int .i64 5, .int .i64 50] 34)).alloc (.cells #[.slice Ab 3 cb, .int .i64 2, .int .i64 10, .int .i64 50] 34)).alloc (.cells #[.slice (some ⟨gg, 0, none⟩) 3 3, .int .i64 2, .int .i64 5, .int .i64 50] 34)).cell? ⟨W3.heap.size + 1, 2, none⟩ = some (.int .i64 10) := by go_simp
  have x13 : (((W3.alloc (.cells #[.slice none 0 0, .int .i64 2, .int .i64 5, .int .i64 50] 34)).alloc (.cells #[.slice Ab 3 cb, .int .i64 2, .int .i64 10, .int .i64 50] 34)).alloc (.cells #[.slice (some ⟨gg, 0, none⟩) 3 3, .int .i64 2, .int .i64 5, .int .i64 50] 34)).cell? ⟨W3.heap.size + 1, 3, none⟩ = some (.int .i64 50) := by go_simp
  have x20 : (((W3.alloc (.cells #[.slice none 0 0, .int .i64 2, .int .i64 5, .int .i64 50] 34)).alloc (.cells #[.slice Ab 3 cb, .int .i64 2, .int .i64 10, .int .i64 50] 34)).alloc (.cells #[.slice (some ⟨gg, 0, none⟩) 3 3, .int .i64 2, .int .i64 5, .int .i64 50] 34)).cell? ⟨W3.heap.size + 1 + 1, 0, none⟩ = some (.slice (some ⟨gg, 0, none⟩) 3 3) := by go_simp
  have x21 : (((W3.alloc (.cells #[.slice none 0 0, .int .i64 2, .int .i64 5, .int .i64 50] 34)).alloc (.cells #[.slice Ab 3 cb, .int .i64 2, .int .i64 10, .int .i64 50] 34)).alloc (.cells #[.slice (some ⟨gg, 0, none⟩) 3 3, .int .i64 2, .int .i64 5, .int .i64 50] 34)).cell? ⟨W3.heap.size + 1 + 1, 1, none⟩ = some (.int .i64 2) := by go_simp
  have x22 : (((W3.alloc (.cells #[.slice none 0 0, .int .i64 2, .int .i64 5, .int .i64 50] 34)).alloc (.cells #[.slice Ab 3 cb, .int .i64 2, .int .i64 10, .int .i64 50] 34)).alloc (.cells #[.slice (some ⟨gg, 0, none⟩) 3 3, .int .i64 2, .int .i64 5, .int .i64 50] 34)).cell? ⟨W3.heap.size + 1 + 1, 2, none⟩ = some (.int .i64 5) := by go_simp
  have x23 : (((W3.alloc (.cells #[.slice none 0 0, .int .i64 2, .int .i64 5, .int .i64 50] 34)).alloc (.cells #[.slice Ab 3 cb, .int .i64 2, .int .i64 10, .int .i64 50] 34)).alloc (.cells #[.slice (some ⟨gg, 0, none⟩) 3 3, .int .i64 2, .int .i64 5, .int .i64 50] 34)).cell? ⟨W3.heap.size + 1 + 1, 3, none⟩ = some (.int .i64 50) := by go_simp
  replace r0 := cell_of_ans hbX r0
  replace r1 := cell_of_ans hbX r1
  replace r2 := cell_of_ans hbX r2
  replace i0 := i0.step hbX
  replace i1 := i1.step hbX
  replace i2 := i2.step hbX
  replace fz := fz.step hbX
  have hbp := hb3.trans (hbX.mono hb3.size)
  generalize (((W3.alloc (.cells #[.slice none 0 0, .int .i64 2, .int .i64 5, .int .i64 50] 34)).alloc (.cells #[.slice Ab 3 cb, .int .i64 2, .int .i64 10, .int .i64 50] 34)).alloc (.cells #[.slice (some ⟨gg, 0, none⟩) 3 3, .int .i64 2, .int .i64 5, .int .i64 50] 34)) = W15 at *
  have I0 := Lib.hid i0
  have I1 := Lib.hid i1
  have I2 := Lib.hid i2
  have HBP := Lib.hid hbp
  have fzf := fz.2
  clear i0 i1 i2 hbp hbX hb3 fz
  go_wp2_with fail
  refine wp_region_noPanic ?_
  have hS : (fun w' : World => w'.cell? ⟨W3.heap.size + 1 + 1, 0, none⟩ = some (.slice (some ⟨gg, 0, none⟩) 3 3) ∧ w'.cell? ⟨gg, 1, none⟩ = some (.slice (some ⟨rb, 0, none⟩) 3 3)) W15.drew := ⟨x20, r1⟩
  refine wp_region_any (by kernel_rfl) (wpAny_of_T (S := fun w' : World => w'.cell? ⟨W3.heap.size + 1 + 1, 0, none⟩ = some (.slice (some ⟨gg, 0, none⟩) 3 3) ∧ w'.cell? ⟨gg, 1, none⟩ = some (.slice (some ⟨rb, 0, none⟩) 3 3)) (m := 8) _ _ _ _ ?_)
  refine' T_take (i := 0) (v := _) rfl (by kernel_rfl) (by kernel_rfl) (by kernel_rfl) (by kernel_rfl) (fun _ _ _ h => h) (by kernel_rfl) hS ?_ ?_
  rotate_left 1
  · intro Wv hW
    obtain ⟨s0, s1⟩ := hW
    go_simp
    first | done | with_reducible rfl
  try simp only [Act.put, List.setIfInBounds_toArray, List.set_cons_zero, List.set_cons_succ]
  refine' T_take (i := 1) (v := _) rfl (by kernel_rfl) (by kernel_rfl) (by kernel_rfl) (by kernel_rfl) (fun _ _ _ h => h) (by kernel_rfl) hS ?_ ?_
  rotate_left 1
  · intro Wv hW
    obtain ⟨s0, s1⟩ := hW
    go_simp
    first | done | with_reducible rfl
  try simp only [Act.put, List.setIfInBounds_toArray, List.set_cons_zero, List.set_cons_succ]
  refine' T_take (i := 2) (v := _) rfl (by kernel_rfl) (by kernel_rfl) (by kernel_rfl) (by kernel_rfl) (fun _ _ _ h => h) (by kernel_rfl) hS ?_ ?_
  rotate_left 1
  · intro Wv hW
    obtain ⟨s0, s1⟩ := hW
    go_simp
    first | done | with_reducible rfl
  try simp only [Act.put, List.setIfInBounds_toArray, List.set_cons_zero, List.set_cons_succ]
  refine' T_take (i := 3) (v := _) rfl (by kernel_rfl) (by kernel_rfl) (by kernel_rfl) (by kernel_rfl) (fun _ _ _ h => h) (by kernel_rfl) hS ?_ ?_
  rotate_left 1
  · intro Wv hW
    obtain ⟨s0, s1⟩ := hW
    go_simp
    first | done | with_reducible rfl
  try simp only [Act.put, List.setIfInBounds_toArray, List.set_cons_zero, List.set_cons_succ]
  refine' T_take (i := 4) (v := _) rfl (by kernel_rfl) (by kernel_rfl) (by kernel_rfl) (by kernel_rfl) (fun _ _ _ h => h) (by kernel_rfl) hS ?_ ?_
  rotate_left 1
  · intro Wv hW
    obtain ⟨s0, s1⟩ := hW
    go_simp
    first | done | with_reducible rfl
  try simp only [Act.put, List.setIfInBounds_toArray, List.set_cons_zero, List.set_cons_succ]
  refine' T_take (i := 5) (v := _) rfl (by kernel_rfl) (by kernel_rfl) (by kernel_rfl) (by kernel_rfl) (fun _ _ _ h => h) (by kernel_rfl) hS ?_ ?_
  rotate_left 1
  · intro Wv hW
    obtain ⟨s0, s1⟩ := hW
    go_simp
    first | done | with_reducible rfl
  try simp only [Act.put, List.setIfInBounds_toArray, List.set_cons_zero, List.set_cons_succ]
  refine' T_take (i := 6) (v := _) rfl (by kernel_rfl) (by kernel_rfl) (by kernel_rfl) (by kernel_rfl) (fun _ _ _ h => h) (by kernel_rfl) hS ?_ ?_
  rotate_left 1
  · intro Wv hW
    obtain ⟨s0, s1⟩ := hW
    go_simp
    first | done | with_reducible rfl
  try simp only [Act.put, List.setIfInBounds_toArray, List.set_cons_zero, List.set_cons_succ]
  refine' T_take (i := 7) (v := _) rfl (by kernel_rfl) (by kernel_rfl) (by kernel_rfl) (by kernel_rfl) (fun _ _ _ h => h) (by kernel_rfl) hS ?_ ?_
  rotate_left 1
  · intro Wv hW
    obtain ⟨s0, s1⟩ := hW
    go_simp
    first | done | with_reducible rfl
  try simp only [Act.put, List.setIfInBounds_toArray, List.set_cons_zero, List.set_cons_succ]
  refine T_ready (rs := [8]) (by kernel_rfl) (by simp) ?_
  refine TReady.cons rfl (fun K hK => ?_) TReady.nil
  have fzd : ∀ o, W15.drew.frozen? ⟨gg, o, none⟩ = false := fzf
  have r1d : W15.drew.cell? ⟨gg, 1, none⟩ = some (.slice (some ⟨rb, 0, none⟩) 3 3) := r1
  go_simp
  refine hK.out _ _ (fun h => absurd h (by decide)) (fun _ => ?_)
  clear hK K
  try simp only [Act.put, List.setIfInBounds_toArray, List.set_cons_zero, List.set_cons_succ]
  refine T_done (by kernel_rfl) ?_ _
  refine NoPanic.normal ?_
  clear hS fzd r1d
  replace x00 : (W15.setCell ⟨gg, 1, none⟩ (.slice (some ⟨rb, 0, none⟩) 2 3)).drew.cell? ⟨W3.heap.size, 0, none⟩ = _ := cell_set_keep (u := .slice (some ⟨rb, 0, none⟩) 2 3) (p := ⟨gg, 1, none⟩) x00 (by dsimp only; omega)
  replace x01 : (W15.setCell ⟨gg, 1, none⟩ (.slice (some ⟨rb, 0, none⟩) 2 3)).drew.cell? ⟨W3.heap.size, 1, none⟩ = _ := cell_set_keep (u := .slice (some ⟨rb, 0, none⟩) 2 3) (p := ⟨gg, 1, none⟩) x01 (by dsimp only; omega)
  replace x02 : (W15.setCell ⟨gg, 1, none⟩ (.slice (some ⟨rb, 0, none⟩) 2 3)).drew.cell? ⟨W3.heap.size, 2, none⟩ = _ := cell_set_keep (u := .slice (some ⟨rb, 0, none⟩) 2 3) (p := ⟨gg, 1, none⟩) x02 (by dsimp only; omega)
  replace x03 : (W15.setCell ⟨gg, 1, none⟩ (.slice (some ⟨rb, 0, none⟩) 2 3)).drew.cell? ⟨W3.heap.size, 3, none⟩ = _ := cell_set_keep (u := .slice (some ⟨rb, 0, none⟩) 2 3) (p := ⟨gg, 1, none⟩) x03 (by dsimp only; omega)
  replace x10 : (W15.setCell ⟨gg, 1, none⟩ (.slice (some ⟨rb, 0, none⟩) 2 3)).drew.cell? ⟨W3.heap.size + 1, 0, none⟩ = _ := cell_set_keep (u := .slice (some ⟨rb, 0, none⟩) 2 3) (p := ⟨gg, 1, none⟩) x10 (by dsimp only; omega)
  replace x11 : (W15.setCell ⟨gg, 1, none⟩ (.slice (some ⟨rb, 0, none⟩) 2 3)).drew.cell? ⟨W3.heap.size + 1, 1, none⟩ = _ := cell_set_keep (u := .slice (some ⟨rb, 0, none⟩) 2 3) (p := ⟨gg, 1, none⟩) x11 (by dsimp only; omega)
  replace x12 : (W15.setCell ⟨gg, 1, none⟩ (.slice (some ⟨rb, 0, none⟩) 2 3)).drew.cell? ⟨W3.heap.size + 1, 2, none⟩ = _ := cell_set_keep (u := .slice (some ⟨rb, 0, none⟩) 2 3) (p := ⟨gg, 1, none⟩) x12 (by dsimp only; omega)
  replace x13 : (W15.setCell ⟨gg, 1, none⟩ (.slice (some ⟨rb, 0, none⟩) 2 3)).drew.cell? ⟨W3.heap.size + 1, 3, none⟩ = _ := cell_set_keep (u := .slice (some ⟨rb, 0, none⟩) 2 3) (p := ⟨gg, 1, none⟩) x13 (by dsimp only; omega)
  replace x20 : (W15.setCell ⟨gg, 1, none⟩ (.slice (some ⟨rb, 0, none⟩) 2 3)).drew.cell? ⟨W3.heap.size + 1 + 1, 0, none⟩ = _ := cell_set_keep (u := .slice (some ⟨rb, 0, none⟩) 2 3) (p := ⟨gg, 1, none⟩) x20 (by dsimp only; omega)
  replace x21 : (W15.setCell ⟨gg, 1, none⟩ (.slice (some ⟨rb, 0, none⟩) 2 3)).drew.cell? ⟨W3.heap.size + 1 + 1, 1, none⟩ = _ := cell_set_keep (u := .slice (some ⟨rb, 0, none⟩) 2 3) (p := ⟨gg, 1, none⟩) x21 (by dsimp only; omega)
  replace x22 : (W15.setCell ⟨gg, 1, none⟩ (.slice (some ⟨rb, 0, none⟩) 2 3)).drew.cell? ⟨W3.heap.size + 1 + 1, 2, none⟩ = _ := cell_set_keep (u := .slice (some ⟨rb, 0, none⟩) 2 3) (p := ⟨gg, 1, none⟩) x22 (by dsimp only; omega)
  replace x23 : (W15.setCell ⟨gg, 1, none⟩ (.slice (some ⟨rb, 0, none⟩) 2 3)).drew.cell? ⟨W3.heap.size + 1 + 1, 3, none⟩ = _ := cell_set_keep (u := .slice (some ⟨rb, 0, none⟩) 2 3) (p := ⟨gg, 1, none⟩) x23 (by dsimp only; omega)
  have s0 : (W15.setCell ⟨gg, 1, none⟩ (.slice (some ⟨rb, 0, none⟩) 2 3)).drew.cell? ⟨gg, 0, none⟩ = some (.slice (some ⟨ra, 0, none⟩) 3 3) := (World.cell?_setCell_other W15 _ _ _ (by intro e; injection e with _ e; omega)).trans r0
  have s1 : (W15.setCell ⟨gg, 1, none⟩ (.slice (some ⟨rb, 0, none⟩) 2 3)).drew.cell? ⟨gg, 1, none⟩ = some (.slice (some ⟨rb, 0, none⟩) 2 3) := World.cell?_setCell_same W15 _ _ r1
  have s2 : (W15.setCell ⟨gg, 1, none⟩ (.slice (some ⟨rb, 0, none⟩) 2 3)).drew.cell? ⟨gg, 2, none⟩ = some (.slice (some ⟨rc, 0, none⟩) 3 3) := (World.cell?_setCell_other W15 _ _ _ (by intro e; injection e with _ e; omega)).trans r2
  have HUN : Hid (Grd (W15.setCell ⟨gg, 1, none⟩ (.slice (some ⟨rb, 0, none⟩) 2 3)).drew.heap.size (W15.setCell ⟨gg, 1, none⟩ (.slice (some ⟨rb, 0, none⟩) 2 3)).drew (some ⟨gg, 0, none⟩) unevenX) := grd3 s0 s1 s2 (isInts_of 3 3 rfl ⟨by omega, by omega⟩ (I0.out.far (p := ⟨gg, 1, none⟩) (by dsimp only; omega) _)) (isInts_of 2 3 rfl ⟨by omega, by omega⟩ ((I1.out.pre).far (p := ⟨gg, 1, none⟩) (by dsimp only; omega) _)) (isInts_of 3 3 rfl ⟨by omega, by omega⟩ (I2.out.far (p := ⟨gg, 1, none⟩) (by dsimp only; omega) _))
  have hb : Below wz17.heap.size wz17 (W15.setCell ⟨gg, 1, none⟩ (.slice (some ⟨rb, 0, none⟩) 2 3)).drew := (HBP.out.setCell (by dsimp only; omega) _).drew
  clear s0 s1 s2 r0 r1 r2 I0 I1 I2 HBP fzf
  replace HX := Lib.hid (HX.out.step hb)
  replace Hhl1 := Lib.hid (Hhl1.out.step hb)
  replace Hhl2 := Lib.hid (Hhl2.out.step hb)
  replace HB := Lib.hid (HB.out.trans (hb.mono HB.out.size))
  clear hb
  generalize (W15.setCell ⟨gg, 1, none⟩ (.slice (some ⟨rb, 0, none⟩) 2 3)).drew = wz18 at *
  generalize W3.heap.size = q3 at *
  go_wp2_with fail
  refine (laid3_c _).mono ?_
  rintro e wz19 ⟨vl, rfl, hl4, hb⟩
  replace HX := Lib.hid (HX.out.step hb)
  replace Hhl1 := Lib.hid (Hhl1.out.step hb)
  replace Hhl2 := Lib.hid (Hhl2.out.step hb)
  replace HUN := Lib.hid (HUN.out.step hb)
  replace x00 := cell_of_ans hb x00
  replace x01 := cell_of_ans hb x01
  replace x02 := cell_of_ans hb x02
  replace x03 := cell_of_ans hb x03
  replace x10 := cell_of_ans hb x10
  replace x11 := cell_of_ans hb x11
  replace x12 := cell_of_ans hb x12
  replace x13 := cell_of_ans hb x13
  replace x20 := cell_of_ans hb x20
  replace x21 := cell_of_ans hb x21
  replace x22 := cell_of_ans hb x22
  replace x23 := cell_of_ans hb x23
  replace HB := Lib.hid (HB.out.trans (hb.mono HB.out.size))
  clear hb
  have Hhl4 := Lib.hid hl4
  clear hl4
  obtain ⟨Ad, cd, hvl, _⟩ := Hhl4.out
  subst hvl
  have hmk : ∀ w, (Instr.makeSlice 22 (.int .i64 9) (.int .i64 9)).run Try.prog w = .ok (.slice (some ⟨w.heap.size, 0, none⟩) 9 9) (w.alloc (.cells (Array.replicate 9 (.slice none 0 0)) 45)) := fun _ => by kernel_rfl
  go_upto_region 21 with fail
  clear hmk
  have hb : Below wz19.heap.size wz19 ((wz19.alloc (.cells #[.slice (some ⟨wz19.heap.size + 1, 0, none⟩) 9 9, .int .i64 2, .int .i64 5, .int .i64 50] 34)).alloc (.cells (Array.replicate 9 (.slice none 0 0)) 45)) := ((Below.refl _ _).alloc (Nat.le_refl _) _).alloc (by simp) _
  have x30 : ((wz19.alloc (.cells #[.slice (some ⟨wz19.heap.size + 1, 0, none⟩) 9 9, .int .i64 2, .int .i64 5, .int .i64 50] 34)).alloc (.cells (Array.replicate 9 (.slice none 0 0)) 45)).cell? ⟨wz19.heap.size, 0, none⟩ = some (.slice (some ⟨wz19.heap.size + 1, 0, none⟩) 9 9) := by go_simp
  have x31 : ((wz19.alloc (.cells #[.slice (some ⟨wz19.heap.size + 1, 0, none⟩) 9 9, .int .i64 2, .int .i64 5, .int .i64 50] 34)).alloc (.cells (Array.replicate 9 (.slice none 0 0)) 45)).cell? ⟨wz19.heap.size, 1, none⟩ = some (.int .i64 2) := by go_simp
  have x32 : ((wz19.alloc (.cells #[.slice (some ⟨wz19.heap.size + 1, 0, none⟩) 9 9, .int .i64 2, .int .i64 5, .int .i64 50] 34)).alloc (.cells (Array.replicate 9 (.slice none 0 0)) 45)).cell? ⟨wz19.heap.size, 2, none⟩ = some (.int .i64 5) := by go_simp
  have x33 : ((wz19.alloc (.cells #[.slice (some ⟨wz19.heap.size + 1, 0, none⟩) 9 9, .int .i64 2, .int .i64 5, .int .i64 50] 34)).alloc (.cells (Array.replicate 9 (.slice none 0 0)) 45)).cell? ⟨wz19.heap.size, 3, none⟩ = some (.int .i64 50) := by go_simp
  have HNI : Hid (IsRows ((wz19.alloc (.cells #[.slice (some ⟨wz19.heap.size + 1, 0, none⟩) 9 9, .int .i64 2, .int .i64 5, .int .i64 50] 34)).alloc (.cells (Array.replicate 9 (.slice none 0 0)) 45)) (.slice (some ⟨wz19.heap.size + 1, 0, none⟩) 9 9) (List.replicate 9 [])) := by
    have h := isNils_new (wz19.alloc (.cells #[.slice (some ⟨wz19.heap.size + 1, 0, none⟩) 9 9, .int .i64 2, .int .i64 5, .int .i64 50] 34)) 9 (by omega)
    rw [World.size_alloc] at h
    exact h
  replace HX := Lib.hid (HX.out.step hb)
  replace Hhl1 := Lib.hid (Hhl1.out.step hb)
  replace Hhl2 := Lib.hid (Hhl2.out.step hb)
  replace HUN := Lib.hid (HUN.out.step hb)
  replace x00 := cell_of_ans hb x00
  replace x01 := cell_of_ans hb x01
  replace x02 := cell_of_ans hb x02
  replace x03 := cell_of_ans hb x03
  replace x10 := cell_of_ans hb x10
  replace x11 := cell_of_ans hb x11
  replace x12 := cell_of_ans hb x12
  replace x13 := cell_of_ans hb x13
  replace x20 := cell_of_ans hb x20
  replace x21 := cell_of_ans hb x21
  replace x22 := cell_of_ans hb x22
  replace x23 := cell_of_ans hb x23
  replace Hhl4 := Lib.hid (Hhl4.out.step hb)
  replace HB := Lib.hid (HB.out.trans (hb.mono HB.out.size))
  clear hb
  clear Hhl4
  generalize ((wz19.alloc (.cells #[.slice (some ⟨wz19.heap.size + 1, 0, none⟩) 9 9, .int .i64 2, .int .i64 5, .int .i64 50] 34)).alloc (.cells (Array.replicate 9 (.slice none 0 0)) 45)) = wz20 at *
  generalize wz19.heap.size = q4 at *
  go_wp2_with fail
  refine (laid3_c _).mono ?_
  rintro e wz21 ⟨vl, rfl, hl5, hb⟩
  replace HX := Lib.hid (HX.out.step hb)
  replace Hhl1 := Lib.hid (Hhl1.out.step hb)
  replace Hhl2 := Lib.hid (Hhl2.out.step hb)
  replace HUN := Lib.hid (HUN.out.step hb)
  replace x00 := cell_of_ans hb x00
  replace x01 := cell_of_ans hb x01
  replace x02 := cell_of_ans hb x02
  replace x03 := cell_of_ans hb x03
  replace x10 := cell_of_ans hb x10
  replace x11 := cell_of_ans hb x11
  replace x12 := cell_of_ans hb x12
  replace x13 := cell_of_ans hb x13
  replace x20 := cell_of_ans hb x20
  replace x21 := cell_of_ans hb x21
  replace x22 := cell_of_ans hb x22
  replace x23 := cell_of_ans hb x23
  replace HNI := Lib.hid (HNI.out.step hb)
  replace x30 := cell_of_ans hb x30
  replace x31 := cell_of_ans hb x31
  replace x32 := cell_of_ans hb x32
  replace x33 := cell_of_ans hb x33
  replace HB := Lib.hid (HB.out.trans (hb.mono HB.out.size))
  clear hb
  have Hhl5 := Lib.hid hl5
  clear hl5
  obtain ⟨Ae, ce, hvl, _⟩ := Hhl5.out
  subst hvl
  go_wp2_with fail
  have hb : Below wz21.heap.size wz21 (wz21.alloc (.cells #[.int .i64 31, .int .i64 0, .int .i64 0] 3)) := (Below.refl _ _).alloc (Nat.le_refl _) _
  have HN3 := Lib.hid (ints_lit3 wz21 31 0 0)
  replace HX := Lib.hid (HX.out.step hb)
  replace Hhl1 := Lib.hid (Hhl1.out.step hb)
  replace Hhl2 := Lib.hid (Hhl2.out.step hb)
  replace HUN := Lib.hid (HUN.out.step hb)
  replace x00 := cell_of_ans hb x00
  replace x01 := cell_of_ans hb x01
  replace x02 := cell_of_ans hb x02
  replace x03 := cell_of_ans hb x03
  replace x10 := cell_of_ans hb x10
  replace x11 := cell_of_ans hb x11
  replace x12 := cell_of_ans hb x12
  replace x13 := cell_of_ans hb x13
  replace x20 := cell_of_ans hb x20
  replace x21 := cell_of_ans hb x21
  replace x22 := cell_of_ans hb x22
  replace x23 := cell_of_ans hb x23
  replace HNI := Lib.hid (HNI.out.step hb)
  replace x30 := cell_of_ans hb x30
  replace x31 := cell_of_ans hb x31
  replace x32 := cell_of_ans hb x32
  replace x33 := cell_of_ans hb x33
  replace Hhl5 := Lib.hid (Hhl5.out.step hb)
  replace HB := Lib.hid (HB.out.trans (hb.mono HB.out.size))
  clear hb
  generalize (wz21.alloc (.cells #[.int .i64 31, .int .i64 0, .int .i64 0] 3)) = wz22 at *
  refine (lasts0_c _ _ _ _ Hhl5.out HX.out HN3.out).mono ?_
  rintro e wz23 ⟨rfl, hb⟩
  replace HX := Lib.hid (HX.out.step hb)
  replace Hhl1 := Lib.hid (Hhl1.out.step hb)
  replace Hhl2 := Lib.hid (Hhl2.out.step hb)
  replace HUN := Lib.hid (HUN.out.step hb)
  replace x00 := cell_of_ans hb x00
  replace x01 := cell_of_ans hb x01
  replace x02 := cell_of_ans hb x02
  replace x03 := cell_of_ans hb x03
  replace x10 := cell_of_ans hb x10
  replace x11 := cell_of_ans hb x11
  replace x12 := cell_of_ans hb x12
  replace x13 := cell_of_ans hb x13
  replace x20 := cell_of_ans hb x20
  replace x21 := cell_of_ans hb x21
  replace x22 := cell_of_ans hb x22
  replace x23 := cell_of_ans hb x23
  replace HNI := Lib.hid (HNI.out.step hb)
  replace x30 := cell_of_ans hb x30
  replace x31 := cell_of_ans hb x31
  replace x32 := cell_of_ans hb x32
  replace x33 := cell_of_ans hb x33
  replace Hhl5 := Lib.hid (Hhl5.out.step hb)
  replace HN3 := Lib.hid (HN3.out.step hb)
  replace HB := Lib.hid (HB.out.trans (hb.mono HB.out.size))
  clear hb
  clear Hhl5 HN3 Hhl1
  go_wp2_with fail
  refine (checkN_c none [] 0 0 2 5 1 _ rfl (grd_nil _ _) ⟨by omega, by omega⟩ nm_f1).mono ?_
  rintro e wz24 ⟨rfl, hb⟩
  replace HX := Lib.hid (HX.out.step hb)
  replace Hhl2 := Lib.hid (Hhl2.out.step hb)
  replace HUN := Lib.hid (HUN.out.step hb)
  replace x00 := cell_of_ans hb x00
  replace x01 := cell_of_ans hb x01
  replace x02 := cell_of_ans hb x02
  replace x03 := cell_of_ans hb x03
  replace x10 := cell_of_ans hb x10
  replace x11 := cell_of_ans hb x11
  replace x12 := cell_of_ans hb x12
  replace x13 := cell_of_ans hb x13
  replace x20 := cell_of_ans hb x20
  replace x21 := cell_of_ans hb x21
  replace x22 := cell_of_ans hb x22
  replace x23 := cell_of_ans hb x23
  replace HNI := Lib.hid (HNI.out.step hb)
  replace x30 := cell_of_ans hb x30
  replace x31 := cell_of_ans hb x31
  replace x32 := cell_of_ans hb x32
  replace x33 := cell_of_ans hb x33
  replace HB := Lib.hid (HB.out.trans (hb.mono HB.out.size))
  clear hb
  obtain ⟨Ag, cg, hag, hcg, hgg⟩ := Hhl2.out
  have hag2 : (Value.slice Ab 3 cb) = .slice Ag 3 cg := by injection hag with hag; injection hag with hag; injection hag
  injection hag2 with hag3 _ hag4
  subst hag3 hag4
  go_wp2_with fail
  refine (checkN_c _ laidX 3 _ 2 10 1 _ rfl hgg hcg nm_f2).mono ?_
  rintro e wz25 ⟨rfl, hb⟩
  replace HX := Lib.hid (HX.out.step hb)
  replace Hhl2 := Lib.hid (Hhl2.out.step hb)
  replace HUN := Lib.hid (HUN.out.step hb)
  replace x00 := cell_of_ans hb x00
  replace x01 := cell_of_ans hb x01
  replace x02 := cell_of_ans hb x02
  replace x03 := cell_of_ans hb x03
  replace x10 := cell_of_ans hb x10
  replace x11 := cell_of_ans hb x11
  replace x12 := cell_of_ans hb x12
  replace x13 := cell_of_ans hb x13
  replace x20 := cell_of_ans hb x20
  replace x21 := cell_of_ans hb x21
  replace x22 := cell_of_ans hb x22
  replace x23 := cell_of_ans hb x23
  replace HNI := Lib.hid (HNI.out.step hb)
  replace x30 := cell_of_ans hb x30
  replace x31 := cell_of_ans hb x31
  replace x32 := cell_of_ans hb x32
  replace x33 := cell_of_ans hb x33
  replace HB := Lib.hid (HB.out.trans (hb.mono HB.out.size))
  clear hb
  go_wp2_with fail
  refine (checkN_c _ unevenX 3 3 2 5 1 _ rfl HUN.out ⟨by omega, by omega⟩ nm_f3).mono ?_
  rintro e wz26 ⟨rfl, hb⟩
  replace HX := Lib.hid (HX.out.step hb)
  replace Hhl2 := Lib.hid (Hhl2.out.step hb)
  replace HUN := Lib.hid (HUN.out.step hb)
  replace x00 := cell_of_ans hb x00
  replace x01 := cell_of_ans hb x01
  replace x02 := cell_of_ans hb x02
  replace x03 := cell_of_ans hb x03
  replace x10 := cell_of_ans hb x10
  replace x11 := cell_of_ans hb x11
  replace x12 := cell_of_ans hb x12
  replace x13 := cell_of_ans hb x13
  replace x20 := cell_of_ans hb x20
  replace x21 := cell_of_ans hb x21
  replace x22 := cell_of_ans hb x22
  replace x23 := cell_of_ans hb x23
  replace HNI := Lib.hid (HNI.out.step hb)
  replace x30 := cell_of_ans hb x30
  replace x31 := cell_of_ans hb x31
  replace x32 := cell_of_ans hb x32
  replace x33 := cell_of_ans hb x33
  replace HB := Lib.hid (HB.out.trans (hb.mono HB.out.size))
  clear hb
  obtain ⟨Ah, hah, hgh⟩ := HNI.out
  have hah1 : some (⟨q4 + 1, 0, none⟩ : Addr) = Ah := by injection hah
  clear hah
  subst hah1
  go_wp2_with fail
  refine (checkN_c _ (List.replicate 9 []) 9 9 2 5 3 _ (by simp) hgh ⟨by omega, by omega⟩ nm_f4).mono ?_
  rintro e wz27 ⟨rfl, hb⟩
  replace HX := Lib.hid (HX.out.step hb)
  replace Hhl2 := Lib.hid (Hhl2.out.step hb)
  replace HUN := Lib.hid (HUN.out.step hb)
  replace x00 := cell_of_ans hb x00
  replace x01 := cell_of_ans hb x01
  replace x02 := cell_of_ans hb x02
  replace x03 := cell_of_ans hb x03
  replace x10 := cell_of_ans hb x10
  replace x11 := cell_of_ans hb x11
  replace x12 := cell_of_ans hb x12
  replace x13 := cell_of_ans hb x13
  replace x20 := cell_of_ans hb x20
  replace x21 := cell_of_ans hb x21
  replace x22 := cell_of_ans hb x22
  replace x23 := cell_of_ans hb x23
  replace HNI := Lib.hid (HNI.out.step hb)
  replace x30 := cell_of_ans hb x30
  replace x31 := cell_of_ans hb x31
  replace x32 := cell_of_ans hb x32
  replace x33 := cell_of_ans hb x33
  replace HB := Lib.hid (HB.out.trans (hb.mono HB.out.size))
  clear hb
  go_wp2_with fail
  refine (awake_c _).mono ?_
  rintro e wend ⟨rfl, hb⟩
  replace HX := Lib.hid (HX.out.step hb)
  replace Hhl2 := Lib.hid (Hhl2.out.step hb)
  replace HUN := Lib.hid (HUN.out.step hb)
  replace x00 := cell_of_ans hb x00
  replace x01 := cell_of_ans hb x01
  replace x02 := cell_of_ans hb x02
  replace x03 := cell_of_ans hb x03
  replace x10 := cell_of_ans hb x10
  replace x11 := cell_of_ans hb x11
  replace x12 := cell_of_ans hb x12
  replace x13 := cell_of_ans hb x13
  replace x20 := cell_of_ans hb x20
  replace x21 := cell_of_ans hb x21
  replace x22 := cell_of_ans hb x22
  replace x23 := cell_of_ans hb x23
  replace HNI := Lib.hid (HNI.out.step hb)
  replace x30 := cell_of_ans hb x30
  replace x31 := cell_of_ans hb x31
  replace x32 := cell_of_ans hb x32
  replace x33 := cell_of_ans hb x33
  replace HB := Lib.hid (HB.out.trans (hb.mono HB.out.size))
  clear hb
  go_wp2_with fail
  go_ret
  exact ⟨rfl, HB.out⟩
end Go.Proofs.Ytgnonfomlgkpcaa
