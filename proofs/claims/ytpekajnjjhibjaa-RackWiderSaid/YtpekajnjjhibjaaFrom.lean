/-
  The recursive closure of leaves: what it adds to the states that are seen, and to the leaves.
-/
import Derived.Test.YtpekajnjjhibjaaLv
namespace Go.Proofs.Ytpekajnjjhibjaa
open Go.RowKit
set_option linter.unusedSimpArgs false
set_option linter.unusedVariables false

attribute [local go_sem] Oper.semAt_some
def SFr (n : Nat) : Nat → Prop := fun j => j = n + 4 ∨ j = n + 2
/-- What the closure sees: the rack that is hit (n), the ball (n + 1), the leaves (n + 2, by n + 3), the states (n + 4, by n + 5), itself (n + 6). -/
structure LCtx (W : World) (n : Nat) (r : Rk) (A : Option Addr) (c pins : Nat) (Ab : Option Addr) (cb : Nat) (ball : List Rg) : Prop where
  hh : At6 W n (.int .i64 r.rows) (.int .i64 r.mid) (.int .i64 r.gap) (.int .i64 r.reach) (.slice A r.links.length c) (.int .u16 (pins : Int))
  h1 : W.cell? ⟨n + 1, 0, none⟩ = some (.slice Ab ball.length cb)
  h3 : W.cell? ⟨n + 3, 0, none⟩ = some (.map (some (n + 2)))
  h5 : W.cell? ⟨n + 5, 0, none⟩ = some (.map (some (n + 4)))
  h6 : W.cell? ⟨n + 6, 0, none⟩ = some (.func (.func 86) #[] #[.pointer (some ⟨n + 5, 0, none⟩), .pointer (some ⟨n + 1, 0, none⟩), .pointer (some ⟨n, 0, none⟩), .pointer (some ⟨n + 3, 0, none⟩), .pointer (some ⟨n + 6, 0, none⟩)])
  lk : Lks n W A r.links
  rg : Rgs n W Ab ball
section
variable {W W' : World} {n : Nat} {r : Rk} {A : Option Addr} {c pins : Nat} {Ab : Option Addr} {cb : Nat} {ball : List Rg}
theorem LCtx.lt (h : LCtx W n r A c pins Ab cb ball) : n + 6 < W.heap.size := World.block_lt_of_cell? _ _ h.h6
theorem LCtx.step (h : LCtx W n r A c pins Ab cb ball) (hb : Below W.heap.size W W') : LCtx W' n r A c pins Ab cb ball := by
  have hn := h.lt
  exact ⟨h.hh.step hb, cell_of_ans hb h.h1, cell_of_ans hb h.h3, cell_of_ans hb h.h5, cell_of_ans hb h.h6, h.lk.below (hb.mono (by omega)), h.rg.below (hb.mono (by omega))⟩
theorem LCtx.kept {n₀ : Nat} (h : LCtx W n r A c pins Ab cb ball) (hk : KpS n₀ (SFr n) W W') (hn : n ≤ n₀) : LCtx W' n r A c pins Ab cb ball := by
  have hn2 := h.lt
  have hb : Below n W W' := hk.below hn (by omega) (fun k hk hs => by rcases hs with e | e <;> omega)
  have hS : ∀ j, j = n ∨ j = n + 1 ∨ j = n + 3 ∨ j = n + 5 ∨ j = n + 6 → ¬ SFr n j := fun j hj hs => by unfold SFr at hs; omega
  exact ⟨hk.block h.hh rfl (hS _ (by omega)), hk.cell h.h1 (hS _ (by dsimp only; omega)), hk.cell h.h3 (hS _ (by dsimp only; omega)), hk.cell h.h5 (hS _ (by dsimp only; omega)), hk.cell h.h6 (hS _ (by dsimp only; omega)), h.lk.below hb, h.rg.below hb⟩
end
/-- The state, boxed. -/
def StAt (W : World) (q row t : Nat) : Prop := W.heap[q]? = some (.cells #[.int .i64 (row : Int), .int .u16 (t : Int)] 142)
theorem StAt.cells {W : World} {q row t : Nat} (h : StAt W q row t) : W.cell? ⟨q, 0, none⟩ = some (.int .i64 (row : Int)) ∧ W.cell? ⟨q, 1, none⟩ = some (.int .u16 (t : Int)) := by
  unfold StAt at h
  simp [World.cell?, h]
theorem StAt.step {W W' : World} {q row t : Nat} (h : StAt W q row t) (hb : Below W.heap.size W W') : StAt W' q row t := (hb.block q (Array.getElem?_eq_some_iff.1 h).1).trans h
theorem StAt.kept {W W' : World} {q row t n₀ : Nat} {S : Nat → Prop} (h : StAt W q row t) (hk : KpS n₀ S W W') (hS : ¬ S q) : StAt W' q row t := hk.block h rfl hS
def costO : Nat → Nat
  | 0 => 4096
  | m + 1 => 100 * costO m
theorem kp_grown {A B : World} {b : Nat} (h : KpS A.heap.size (fun j => j = b) A B) : A.grownBy B (some b) := ⟨h.2.1, h.2.2.1, h.2.2.2.1, h.1, fun k hk hne => by
  obtain ⟨o, ho⟩ : ∃ o, A.heap[k]? = some o := ⟨_, Array.getElem?_eq_getElem hk⟩
  rw [h.2.2.2.2 k o ho (.inl hk) (fun e => hne (by rw [e])), ho]⟩
def FrP (W : World) (n : Nat) (r : Rk) (pins : Nat) (ball : List Rg) (m t : Nat) (S : Nat → Nat → Bool) (O : Nat → Bool) (nS nO : Nat) (e : Ending) (w' : World) : Prop :=
  (∃ v, e = .returned v) ∧ ∃ S' O' nS' nO', HSt w' (n + 4) nS' S' ∧ HSet w' (n + 2) nO' O' ∧ nS' ≤ nS + costN m ∧ nO' ≤ nO + costO m ∧ FPost r pins ball m t S O S' O' ∧ KpS W.heap.size (SFr n) W w'
def CallsFr (W : World) (n : Nat) (r : Rk) (pins : Nat) (ball : List Rg) (row m t : Nat) (S : Nat → Nat → Bool) (O : Nat → Bool) (nS nO : Nat) : Prop :=
  Calls Try.prog 86 #[.agg #[.int .i64 (row : Int), .int .u16 (t : Int)], .pointer (some ⟨n + 5, 0, none⟩), .pointer (some ⟨n + 1, 0, none⟩), .pointer (some ⟨n, 0, none⟩), .pointer (some ⟨n + 3, 0, none⟩), .pointer (some ⟨n + 6, 0, none⟩)] W (FrP W n r pins ball m t S O nS nO)
def FromC (n : Nat) (r : Rk) (A : Option Addr) (c pins : Nat) (Ab : Option Addr) (cb : Nat) (ball : List Rg) (m : Nat) : Prop :=
  ∀ (W : World) (row t : Nat) (S : Nat → Nat → Bool) (O : Nat → Bool) (nS nO : Nat), LCtx W n r A c pins Ab cb ball → HSt W (n + 4) nS S → HSet W (n + 2) nO O → FInv r pins ball m S O → t < 2 ^ 10 → row + m = ball.length → nS + costN m ≤ 1000000000000000 → nO + costO m ≤ 1000000000000000 → CallsFr W n r pins ball row m t S O nS nO
theorem box_ctx {W : World} {n row t nS nO : Nat} {r : Rk} {A : Option Addr} {c pins : Nat} {Ab : Option Addr} {cb : Nat} {ball : List Rg} {S : Nat → Nat → Bool} {O : Nat → Bool} (hC : LCtx W n r A c pins Ab cb ball) (hS : HSt W (n + 4) nS S) (hO : HSet W (n + 2) nO O) :
    ∃ W0, W0 = W.alloc (.cells #[.int .i64 (row : Int), .int .u16 (t : Int)] 142) ∧ Below W.heap.size W W0 ∧ LCtx W0 n r A c pins Ab cb ball ∧ HSt W0 (n + 4) nS S ∧ HSet W0 (n + 2) nO O ∧ StAt W0 W.heap.size row t := by
  have hb : Below W.heap.size W (W.alloc (.cells #[.int .i64 (row : Int), .int .u16 (t : Int)] 142)) := (Below.refl _ _).alloc (Nat.le_refl _) _
  exact ⟨_, rfl, hb, hC.step hb, hS.step hb, hO.step hb, World.alloc_heap_new _ _⟩

set_option maxRecDepth 100000 in
set_option maxHeartbeats 4000000 in
theorem from_seen {W : World} {n row t nS nO : Nat} {r : Rk} {A : Option Addr} {c pins : Nat} {Ab : Option Addr} {cb : Nat} {ball : List Rg} {S : Nat → Nat → Bool} {O : Nat → Bool} {m : Nat} (hr : Ok r) (hp : pins < 2 ^ 10) (hbl : (ball.length : Int) = r.rows) (hc : r.links.length ≤ c ∧ c ≤ 9223372036854775807) (hcb : ball.length ≤ cb ∧ cb ≤ 9223372036854775807) (hC : LCtx W n r A c pins Ab cb ball) (hS : HSt W (n + 4) nS S) (hO : HSet W (n + 2) nO O) (hI : FInv r pins ball m S O) (ht : t < 2 ^ 10) (hrow : row + m = ball.length) (hs : S row t = true) : CallsFr W n r pins ball row m t S O nS nO := by
  obtain ⟨W0, hW0, hb0, hC0, hS0, hO0, hq0⟩ := box_ctx (row := row) (t := t) hC hS hO
  have h4 := hr.rows4
  have hl := hS0.look (k := row) (t := t) (by omega) ht
  rw [hs] at hl
  have HP : Hid (FPost r pins ball m t S O S O) := FPost.seen (by omega) hI (by rw [show ball.length - m = row by omega]; exact hs)
  obtain ⟨q0, q1⟩ := hq0.cells
  have c5 := hC0.h5
  have HS := Lib.hid hS0
  have HO := Lib.hid hO0
  have HB := Lib.hid hb0
  clear hb0 hC0 hS0 hO0 hq0 hC hS hO hI hs
  unfold CallsFr
  go_enter Try.func86, Try.ntmps86
  go_upto_region 1 with fail
  rw [← hW0]
  clear hW0
  go_wp2_with fail
  refine bodyPost_ret (results_none rfl _ _ _) rfl ?_
  exact ⟨⟨_, rfl⟩, S, O, nS, nO, HS.out, HO.out, by omega, by omega, HP.out, KpS.of_below HB.out⟩

set_option maxRecDepth 100000 in
set_option maxHeartbeats 8000000 in
theorem from_zero {W : World} {n row t nS nO : Nat} {r : Rk} {A : Option Addr} {c pins : Nat} {Ab : Option Addr} {cb : Nat} {ball : List Rg} {S : Nat → Nat → Bool} {O : Nat → Bool} (hr : Ok r) (hp : pins < 2 ^ 10) (hbl : (ball.length : Int) = r.rows) (hc : r.links.length ≤ c ∧ c ≤ 9223372036854775807) (hcb : ball.length ≤ cb ∧ cb ≤ 9223372036854775807) (hC : LCtx W n r A c pins Ab cb ball) (hS : HSt W (n + 4) nS S) (hO : HSet W (n + 2) nO O) (hI : FInv r pins ball 0 S O) (ht : t < 2 ^ 10) (hs : S ball.length t = false) (hnS : nS + costN 0 ≤ 1000000000000000) (hnO : nO + costO 0 ≤ 1000000000000000) : CallsFr W n r pins ball ball.length 0 t S O nS nO := by
  obtain ⟨W0, hW0, hb0, hC0, hS0, hO0, hq0⟩ := box_ctx (row := ball.length) (t := t) hC hS hO
  have h4 : ball.length ≤ 4 := by have := hr.rows4; omega
  have HBL := Lib.hid hbl
  clear hbl
  have hl := hS0.look (k := ball.length) (t := t) (by omega) ht
  rw [hs] at hl
  obtain ⟨W1, hr1, hS1, hg1⟩ := hS0.put (by omega) (k := ball.length) (t := t) (by omega) ht
  have hlt0 := hC0.lt
  have hC1 : LCtx W1 n r A c pins Ab cb ball := hC0.kept (n₀ := W0.heap.size) (KpS.of_grown hg1 (fun q e => by injection e with e; exact .inl e.symm)) (by omega)
  have hq1 : StAt W1 W.heap.size ball.length t := (hg1.block _ (Array.getElem?_eq_some_iff.1 hq0).1 (fun e => by injection e with e; have := hC.lt; omega)).trans hq0
  have hO1 : HSet W1 (n + 2) nO O := hO0.kept hg1 (fun e => by injection e with e; omega)
  obtain ⟨q0, q1⟩ := hq0.cells
  obtain ⟨p0, p1⟩ := hq1.cells
  have c5 := hC0.h5
  have d1 := hC1.h1
  obtain ⟨⟨e0, e1, e2, e3, e4, e5⟩, -⟩ := hC1.hh.cells
  have HKw : Hid (KpS W.heap.size (SFr n) W W1) := (KpS.of_below hb0).trans ((KpS.of_grown (n₀ := W.heap.size) hg1 (fun q e => by injection e with e; exact .inl e.symm)))
  have HC1 := Lib.hid hC1
  have HQ1 := Lib.hid hq1
  have HS1 := Lib.hid hS1
  have HO1 := Lib.hid hO1
  have hnq : n + 6 < W.heap.size := hC.lt
  have hlL := hr.len
  have HI := Lib.hid hI
  have hpw : IntKind.i64.wrap ((2 : Int) ^ r.links.length) = ((2 ^ r.links.length : Nat) : Int) := by
    have h12 : (2 : Nat) ^ r.links.length ≤ 2 ^ 12 := Nat.pow_le_pow_right (by decide) hlL
    rw [show ((2 : Int) ^ r.links.length) = ((2 ^ r.links.length : Nat) : Int) by simp]
    generalize (2 : Nat) ^ r.links.length = z at *
    exact IntWalk.i64_in _ (by omega)
  have hlL' : (r.links.length : Int) ≤ 12 := by omega
  have hlL64 : r.links.length < 64 := by omega
  have HP12 : Hid (2 ^ r.links.length ≤ 4096) := (Nat.pow_le_pow_right (by decide) hlL : 2 ^ r.links.length ≤ 2 ^ 12)
  clear hb0 hC0 hS0 hO0 hq0 hC hS hO hI hs hg1 hq1 hO1 hS1 hC1
  unfold CallsFr
  go_enter Try.func86, Try.ntmps86
  go_upto_region 1 with fail
  rw [← hW0]
  clear hW0
  go_wp2_with fail
  go_loopw [24] (fun i wr => ∃ (k : Nat) (O' : Nat → Bool) (nO' : Nat), k ≤ 2 ^ r.links.length ∧ i = .int .i64 k ∧ FEnd r pins t O k O' ∧ HSet wr (n + 2) nO' O' ∧ nO' ≤ nO + k ∧ KpS W1.heap.size (fun j => j = n + 2) W1 wr) (fun i _ => 2 ^ r.links.length - (intOf i).toNat)
  case atStart => exact ⟨0, O, nO, Nat.zero_le _, rfl, FEnd.start, HO1.out, by omega, KpS.refl _ _ _⟩
  case round =>
    obtain ⟨k, O', nO', hk, rfl, hE, hOr, hn', hK⟩ := hrel
    have hP := HP12.out
    have hKs : KpS W1.heap.size (SFr n) W1 wr := hK.more (fun _ h => .inr h)
    have hCr := HC1.out.kept hKs (by have := HC1.out.lt; omega)
    have hQr := HQ1.out.kept hK (by omega)
    have HE := Lib.hid hE
    have HOr := Lib.hid hOr
    have HK := Lib.hid hK
    clear hE hOr hK d1 e0 e1 e2 e3 e4 e5 p0 p1
    by_cases h1 : k < 2 ^ r.links.length
    · have h1i : (k : Int) < (2 : Int) ^ r.links.length := by
        have e : ((2 : Int) ^ r.links.length) = ((2 ^ r.links.length : Nat) : Int) := by simp
        rw [e]; exact Int.ofNat_lt.2 h1
      have hk12 : k < 4096 := by omega
      have hkw : IntKind.i64.wrap ((k : Int) + 1) = (k : Int) + 1 := IntWalk.i64_in _ (by omega)
      have hz : n < wr.heap.size := by have := hCr.lt; omega
      have HCr := Lib.hid hCr
      have HQr := Lib.hid hQr
      obtain ⟨⟨e0, e1, e2, e3, e4, e5⟩, -⟩ := hCr.hh.cells
      clear hCr hQr
      cases hid : idleB r.links k
      · have HID := Lib.hid (idle_c r A c pins k wr hr (HCr.out.lk.more (by omega)) hc)
        rw [hid] at HID
        have HE2 := Lib.hid (HE.out.skip hid)
        clear hid
        go_wp2_with fail
        refine HID.out.mono ?_
        rintro e w7 ⟨rfl, hb⟩
        have HB7 := Lib.hid hb
        clear hb
        go_wp2_with fail
        go_roundw
        case rel => exact ⟨k + 1, O', nO', by omega, by go_num, HE2.out, HOr.out.step HB7.out, by omega, HK.out.trans (KpS.of_below HB7.out)⟩
        case measure => simp [intOf]; omega
      · have HID := Lib.hid (idle_c r A c pins k wr hr (HCr.out.lk.more (by omega)) hc)
        rw [hid] at HID
        have HE2 := Lib.hid (HE.out.take hid)
        clear hid
        go_wp2_with fail
        refine HID.out.mono ?_
        rintro e w7 ⟨rfl, hb⟩
        have hC7 := HCr.out.step hb
        have hQ7 := HQr.out.step hb
        have hO7 := HOr.out.step hb
        have hK7 := HK.out.trans (KpS.of_below (n₀ := W1.heap.size) (S := fun j => j = n + 2) hb)
        have HC7 := Lib.hid hC7
        have HQ7 := Lib.hid hQ7
        have HO7 := Lib.hid hO7
        have HK7 := Lib.hid hK7
        have hz7 : n < w7.heap.size := by have := hC7.lt; omega
        clear hb hC7 hQ7 hO7 hK7 HID e0 e1 e2 e3 e4 e5
        have HAN : Hid (bits .andNot .u16 (pins : Int) (fallS r.links (someC r.links k) pins t : Int) = ((restS r pins (someC r.links k) t : Nat) : Int)) := by
          have hf : fallS r.links (someC r.links k) pins t < 2 ^ 10 := fallS_lt ht hp
          show _ = _
          rw [u16_andNot_nat _ _ (by omega) (by omega), rest_is hp ht]
        have HRL : Hid (restS r pins (someC r.links k) t < 65536) := by
          have := restS_lt (r := r) (pins := pins) (c := someC r.links k) (t := t)
          show _ < _
          omega
        generalize restS r pins (someC r.links k) t = RS at *
        go_wp2_with fail
        refine wp_region_noPanic ?_
        have hS : (fun W' : World => Below w7.heap.size w7 W') w7.drew := (Below.refl _ _).drew
        refine wp_region_any (by kernel_rfl) (wpAny_of_T (S := fun W' : World => Below w7.heap.size w7 W') (m := 10) _ _ _ _ ?_)
        refine' T_take (i := 0) (v := _) rfl (by kernel_rfl) (by kernel_rfl) (by kernel_rfl) (by kernel_rfl) (fun _ _ _ h => h) (by rfl) hS ?_ ?_
        rotate_left 1
        · intro Wv hW
          obtain ⟨⟨f0, f1, f2, f3, f4, f5⟩, -⟩ := (HC7.out.step hW).hh.cells
          obtain ⟨g0, g1⟩ := (HQ7.out.step hW).cells
          have g3 := (HC7.out.step hW).h3
          go_simp
          first | done | with_reducible rfl
        try simp only [Act.put, List.setIfInBounds_toArray, List.set_cons_zero, List.set_cons_succ]
        refine' T_take (i := 1) (v := _) rfl (by kernel_rfl) (by kernel_rfl) (by kernel_rfl) (by kernel_rfl) (fun _ _ _ h => h) (by rfl) hS ?_ ?_
        rotate_left 1
        · intro Wv hW
          obtain ⟨⟨f0, f1, f2, f3, f4, f5⟩, -⟩ := (HC7.out.step hW).hh.cells
          obtain ⟨g0, g1⟩ := (HQ7.out.step hW).cells
          have g3 := (HC7.out.step hW).h3
          go_simp
          first | done | with_reducible rfl
        try simp only [Act.put, List.setIfInBounds_toArray, List.set_cons_zero, List.set_cons_succ]
        refine' T_take (i := 2) (v := _) rfl (by kernel_rfl) (by kernel_rfl) (by kernel_rfl) (by kernel_rfl) (fun _ _ _ h => h) (by rfl) hS ?_ ?_
        rotate_left 1
        · intro Wv hW
          obtain ⟨⟨f0, f1, f2, f3, f4, f5⟩, -⟩ := (HC7.out.step hW).hh.cells
          obtain ⟨g0, g1⟩ := (HQ7.out.step hW).cells
          have g3 := (HC7.out.step hW).h3
          go_simp
          first | done | with_reducible rfl
        try simp only [Act.put, List.setIfInBounds_toArray, List.set_cons_zero, List.set_cons_succ]
        refine' T_take (i := 3) (v := _) rfl (by kernel_rfl) (by kernel_rfl) (by kernel_rfl) (by kernel_rfl) (fun _ _ _ h => h) (by rfl) hS ?_ ?_
        rotate_left 1
        · intro Wv hW
          obtain ⟨⟨f0, f1, f2, f3, f4, f5⟩, -⟩ := (HC7.out.step hW).hh.cells
          obtain ⟨g0, g1⟩ := (HQ7.out.step hW).cells
          have g3 := (HC7.out.step hW).h3
          go_simp
          first | done | with_reducible rfl
        try simp only [Act.put, List.setIfInBounds_toArray, List.set_cons_zero, List.set_cons_succ]
        refine' T_take (i := 4) (v := _) rfl (by kernel_rfl) (by kernel_rfl) (by kernel_rfl) (by kernel_rfl) (fun _ _ _ h => h) (by rfl) hS ?_ ?_
        rotate_left 1
        · intro Wv hW
          obtain ⟨⟨f0, f1, f2, f3, f4, f5⟩, -⟩ := (HC7.out.step hW).hh.cells
          obtain ⟨g0, g1⟩ := (HQ7.out.step hW).cells
          have g3 := (HC7.out.step hW).h3
          go_simp
          first | done | with_reducible rfl
        try simp only [Act.put, List.setIfInBounds_toArray, List.set_cons_zero, List.set_cons_succ]
        refine' T_take (i := 5) (v := _) rfl (by kernel_rfl) (by kernel_rfl) (by kernel_rfl) (by kernel_rfl) (fun _ _ _ h => h) (by rfl) hS ?_ ?_
        rotate_left 1
        · intro Wv hW
          obtain ⟨⟨f0, f1, f2, f3, f4, f5⟩, -⟩ := (HC7.out.step hW).hh.cells
          obtain ⟨g0, g1⟩ := (HQ7.out.step hW).cells
          have g3 := (HC7.out.step hW).h3
          go_simp
          first | done | with_reducible rfl
        try simp only [Act.put, List.setIfInBounds_toArray, List.set_cons_zero, List.set_cons_succ]
        refine' T_take (i := 6) (v := _) rfl (by kernel_rfl) (by kernel_rfl) (by kernel_rfl) (by kernel_rfl) (fun _ _ _ h => h) (by rfl) hS ?_ ?_
        rotate_left 1
        · intro Wv hW
          obtain ⟨⟨f0, f1, f2, f3, f4, f5⟩, -⟩ := (HC7.out.step hW).hh.cells
          obtain ⟨g0, g1⟩ := (HQ7.out.step hW).cells
          have g3 := (HC7.out.step hW).h3
          go_simp
          first | done | with_reducible rfl
        try simp only [Act.put, List.setIfInBounds_toArray, List.set_cons_zero, List.set_cons_succ]
        refine' T_take (i := 7) (v := _) rfl (by kernel_rfl) (by kernel_rfl) (by kernel_rfl) (by kernel_rfl) (fun _ _ _ h => h) (by rfl) hS ?_ ?_
        rotate_left 1
        · intro Wv hW
          obtain ⟨⟨f0, f1, f2, f3, f4, f5⟩, -⟩ := (HC7.out.step hW).hh.cells
          obtain ⟨g0, g1⟩ := (HQ7.out.step hW).cells
          have g3 := (HC7.out.step hW).h3
          go_simp
          first | done | with_reducible rfl
        try simp only [Act.put, List.setIfInBounds_toArray, List.set_cons_zero, List.set_cons_succ]
        refine T_ready (rs := [8]) (by kernel_rfl) (by simp) ?_
        refine TReady.cons rfl (fun K hK => ?_) TReady.nil
        try go_simp
        refine (falls_c r A c pins t 78 (k : Int) (someC r.links k) _ hr hp ht ((HC7.out.lk.more (by omega)).step (Below.refl _ _).drew) hc enters78 (fun i hi W => some_c _ _ _ W (by omega))).mono ?_
        rintro e w8 ⟨rfl, hb⟩
        try go_simp
        have hS2 : Below w7.heap.size w7 w8 := below_drew_l hb
        refine hK.out _ _ (fun _ => hS2) (fun _ => ?_)
        clear hK K hS hb
        replace hS := hS2
        clear hS2
        try simp only [Act.put, List.setIfInBounds_toArray, List.set_cons_zero, List.set_cons_succ]
        refine' T_take (i := 9) (v := _) rfl (by kernel_rfl) (by kernel_rfl) (by kernel_rfl) (by kernel_rfl) (fun _ _ _ h => h) (by rfl) hS ?_ ?_
        rotate_left 1
        · intro Wv hW
          have e1 := HAN.out
          go_simp
          first | done | with_reducible rfl
        try simp only [Act.put, List.setIfInBounds_toArray, List.set_cons_zero, List.set_cons_succ]
        refine T_ready (rs := [10]) (by kernel_rfl) (by simp) ?_
        refine TReady.cons rfl (fun K hK => ?_) TReady.nil
        refine step_hset (.tmp 30) (.tmp 39) (.const (.bool true)) rfl rfl w8 (n + 2) nO' O' RS rfl rfl rfl (HO7.out.step hS) (by have := hn'; simp only [costO] at hnO; omega) HRL.out ?_
        intro w9 HO9 HG9
        refine hK.out _ _ (fun h => absurd h (by decide)) (fun _ => ?_)
        have HK9 : Hid (KpS W1.heap.size (fun j => j = n + 2) W1 w9) := (HK7.out.trans (KpS.of_below hS)).trans (KpS.of_grown HG9.out (fun q e => by injection e with e; exact e.symm))
        clear hK K hS
        try simp only [Act.put, List.setIfInBounds_toArray, List.set_cons_zero, List.set_cons_succ]
        refine T_done (by kernel_rfl) ?_ _
        refine NoPanic.normal ?_
        go_wp2_with fail
        go_roundw
        case rel => exact ⟨k + 1, _, nO' + 1, by omega, by go_num, HE2.out, HO9.out, by omega, HK9.out⟩
        case measure => simp [intOf]; omega
    · have hkk : k = 2 ^ r.links.length := by omega
      have h1i : ¬ (k : Int) < (2 : Int) ^ r.links.length := by
        have e : ((2 : Int) ^ r.links.length) = ((2 ^ r.links.length : Nat) : Int) := by simp
        rw [e, hkk]; exact Int.lt_irrefl _
      rw [hkk] at HE
      clear hCr hQr
      have HF := Lib.hid (HE.out.done HI.out)
      clear hkk
      go_wp2_with fail
      refine bodyPost_ret (results_none rfl _ _ _) rfl ?_
      refine ⟨⟨_, rfl⟩, _, O', nS + 1, nO', HS1.out.kept (row := some (n + 2)) (kp_grown HK.out) (by simp), HOr.out, by simp [costN], by simp only [costO]; omega, HF.out, HKw.out.trans ((HK.out.less (by have := HC1.out.lt; exact HKw.out.1)).more (fun _ h => .inr h))⟩

set_option maxRecDepth 100000 in
set_option maxHeartbeats 8000000 in
theorem from_succ {W : World} {n row t nS nO : Nat} {r : Rk} {A : Option Addr} {c pins : Nat} {Ab : Option Addr} {cb : Nat} {ball : List Rg} {S : Nat → Nat → Bool} {O : Nat → Bool} {m : Nat} (hr : Ok r) (hp : pins < 2 ^ 10) (hbl : (ball.length : Int) = r.rows) (hc : r.links.length ≤ c ∧ c ≤ 9223372036854775807) (hcb : ball.length ≤ cb ∧ cb ≤ 9223372036854775807) (hb3 : ∀ k, k < ball.length → 0 ≤ (gx ball k).lo ∧ (gx ball k).lo ≤ (gx ball k).hi ∧ (gx ball k).hi ≤ 60 ∧ (gx ball k).hi - (gx ball k).lo ≤ 8) (ih : FromC n r A c pins Ab cb ball m) (hC : LCtx W n r A c pins Ab cb ball) (hS : HSt W (n + 4) nS S) (hO : HSet W (n + 2) nO O) (hI : FInv r pins ball (m + 1) S O) (ht : t < 2 ^ 10) (hrow : row + (m + 1) = ball.length) (hs : S row t = false) (hnS : nS + costN (m + 1) ≤ 1000000000000000) (hnO : nO + costO (m + 1) ≤ 1000000000000000) : CallsFr W n r pins ball row (m + 1) t S O nS nO := by
  obtain ⟨W0, hW0, hb0, hC0, hS0, hO0, hq0⟩ := box_ctx (row := row) (t := t) hC hS hO
  have h4 : ball.length ≤ 4 := by have := hr.rows4; omega
  have HBL := Lib.hid hbl
  clear hbl
  have hl := hS0.look (k := row) (t := t) (by omega) ht
  rw [hs] at hl
  obtain ⟨W1, hr1, hS1, hg1⟩ := hS0.put (by simp only [costN] at hnS; omega) (k := row) (t := t) (by omega) ht
  have hlt0 := hC0.lt
  have hC1 : LCtx W1 n r A c pins Ab cb ball := hC0.kept (n₀ := W0.heap.size) (KpS.of_grown hg1 (fun q e => by injection e with e; exact .inl e.symm)) (by omega)
  have hq1 : StAt W1 W.heap.size row t := (hg1.block _ (Array.getElem?_eq_some_iff.1 hq0).1 (fun e => by injection e with e; have := hC.lt; omega)).trans hq0
  have hO1 : HSet W1 (n + 2) nO O := hO0.kept hg1 (fun e => by injection e with e; omega)
  have hrk : row < ball.length := by omega
  have hrl : ball.length - (m + 1) = row := by omega
  obtain ⟨lo0, lh0, hi0, w80⟩ := hb3 row hrk
  obtain ⟨b2, o2, hA2, hlt2, r1, r2⟩ := hC1.rg.at_ hrk
  have HFS : Hid (FMid r pins ball m t S O [] (updS S row t) O) := by have := FMid.start (t := t) (by omega) hI; rwa [hrl] at this
  have HSTEP : Hid (∀ (pre : List Nat) (S' : Nat → Nat → Bool) (O' : Nat → Bool) (nn : Int), FMid r pins ball m t S O pre S' O' → (gx ball row).lo ≤ nn → nn ≤ (gx ball row).hi → ∀ (S'' : Nat → Nat → Bool) (O'' : Nat → Bool), FPost r pins ball m (t ||| touchS r pins row nn) S' O' S'' O'' → FMid r pins ball m t S O (pre ++ [touchS r pins row nn]) S'' O'') := by
    intro pre S' O' nn h h1 h2 S'' O'' hp'
    have := FMid.step (n := nn) (by omega) h (by rw [hrl]; exact h1) (by rw [hrl]; exact h2) (by rw [hrl]; exact hp')
    rwa [hrl] at this
  have HDONE : Hid (∀ (S' : Nat → Nat → Bool) (O' : Nat → Bool), FMid r pins ball m t S O ((eachL r pins row (gx ball row).lo (gx ball row).hi ((gx ball row).hi - (gx ball row).lo + 1).toNat).map Subtype.val) S' O' → FPost r pins ball (m + 1) t S O S' O') := by
    intro S' O' h
    refine FMid.done (by omega) hI ?_
    rw [hrl]
    exact h
  have HLEN : Hid ((eachL r pins row (gx ball row).lo (gx ball row).hi ((gx ball row).hi - (gx ball row).lo + 1).toNat).length ≤ 9) := by
    have := eachL_len r pins row (gx ball row).lo (gx ball row).hi ((gx ball row).hi - (gx ball row).lo + 1).toNat
    show _ ≤ _
    omega
  obtain ⟨q0, q1⟩ := hq0.cells
  obtain ⟨p0, p1⟩ := hq1.cells
  have c5 := hC0.h5
  have d1 := hC1.h1
  obtain ⟨⟨e0, e1, e2, e3, e4, e5⟩, -⟩ := hC1.hh.cells
  have HKw : Hid (KpS W.heap.size (SFr n) W W1) := (KpS.of_below hb0).trans ((KpS.of_grown (n₀ := W.heap.size) hg1 (fun q e => by injection e with e; exact .inl e.symm)))
  have HC1 := Lib.hid hC1
  have HQ1 := Lib.hid hq1
  have HS1 := Lib.hid hS1
  have HO1 := Lib.hid hO1
  have HIH := Lib.hid ih
  have hnq : n + 6 < W.heap.size := hC.lt
  have hz1 : W.heap.size ≤ W1.heap.size := HKw.out.1
  have hne : ((row : Int) == (ball.length : Int)) = false := by simp; omega
  have hri : (row : Int) < (ball.length : Int) := by omega
  have HROW := Lib.hid hrow
  clear hb0 hC0 hS0 hO0 hq0 hC hS hO hI hs hg1 hq1 hO1 hS1 hC1 ih hrl hrow hb3
  generalize gx ball row = xg at *
  obtain ⟨lo, hi⟩ := xg
  dsimp only at r1 r2 lo0 lh0 hi0 w80 HSTEP HDONE HLEN
  subst hA2
  have HB7 : Hid (Below W1.heap.size W1 W1.drew) := (Below.refl _ _).drew
  unfold CallsFr
  refine calls_marks Try.func86 rfl ?_
  simp only [Try.ntmps86, List.size_toArray, List.length_cons, List.length_nil, Nat.reduceAdd, Nat.reduceSub, Array.replicate_succ, Array.replicate_zero, List.push_toArray, List.append_toArray, List.nil_append, List.cons_append]
  go_upto_region 1 with fail
  rw [← hW0]
  clear hW0
  go_upto_region 10 with fail
  go_region_held3 (fun w' => w'.cell? ⟨n, 0, none⟩ = some (.int .i64 r.rows) ∧ w'.cell? ⟨n, 1, none⟩ = some (.int .i64 r.mid) ∧ w'.cell? ⟨n, 2, none⟩ = some (.int .i64 r.gap) ∧ w'.cell? ⟨n, 3, none⟩ = some (.int .i64 r.reach) ∧ w'.cell? ⟨n, 4, none⟩ = some (.slice A r.links.length c) ∧ w'.cell? ⟨n, 5, none⟩ = some (.int .u16 (pins : Int)) ∧ w'.cell? ⟨W.heap.size, 0, none⟩ = some (.int .i64 (row : Int)) ∧ w'.cell? ⟨n + 1, 0, none⟩ = some (.slice (some ⟨b2, o2, none⟩) ball.length cb) ∧ w'.cell? ⟨b2, o2 + row * 2, none⟩ = some (.int .i64 lo) ∧ w'.cell? ⟨b2, o2 + row * 2 + 1, none⟩ = some (.int .i64 hi)) (go_keep) (first | (go_at_call 54; refine (each_c r A c pins row lo hi _).mono ?_; rintro e W7 ⟨rfl, hb7, hz7, hS7⟩; replace e0 := cell_of_ans (below_drew_l hb7) e0; replace e1 := cell_of_ans (below_drew_l hb7) e1; replace e2 := cell_of_ans (below_drew_l hb7) e2; replace e3 := cell_of_ans (below_drew_l hb7) e3; replace e4 := cell_of_ans (below_drew_l hb7) e4; replace e5 := cell_of_ans (below_drew_l hb7) e5; replace p0 := cell_of_ans (below_drew_l hb7) p0; replace p1 := cell_of_ans (below_drew_l hb7) p1; replace d1 := cell_of_ans (below_drew_l hb7) d1; replace r1 := cell_of_ans (below_drew_l hb7) r1; replace r2 := cell_of_ans (below_drew_l hb7) r2; replace HB7 := Lib.hid (HB7.out.trans (hb7.mono HB7.out.size)); clear hb7))
  go_wp2_with fail
  change _ = W1.heap.size + 3 at hz7
  change EaSt W7 W1.heap.size r A c pins row lo hi at hS7
  obtain ⟨q, hq⟩ : ∃ q, q = W1.heap.size := ⟨_, rfl⟩
  rw [← hq] at hz7 hS7 hz1
  rw [← hq]
  have hzn : n + 6 < q := by omega
  have hz8 : q + 3 ≤ W7.heap.size := by omega
  have HC7 := Lib.hid (HC1.out.step HB7.out)
  have HQ7 := Lib.hid (HQ1.out.step HB7.out)
  have HS7 := Lib.hid (HS1.out.step HB7.out)
  have HO7 := Lib.hid (HO1.out.step HB7.out)
  clear hq hz7 e0 e1 e2 e3 e4 e5 p0 p1 d1 r1 r2
  refine wpIn_wide.1 (wpIn_rangeFunc_ownH (F := Fence.wide) (n := 5) (α := EaX r pins row lo hi) rfl (by omega) (gf := 83) (lb := #[.pointer (some ⟨q + 2, 0, none⟩), .pointer (some ⟨q, 0, none⟩), .pointer (some ⟨q + 1, 0, none⟩)]) rfl trivial (enters_of Try.func83 (by kernel_rfl) rfl)
    (each_stops 4 q r A c pins row lo hi W7.heap.size hr hp (by omega) (by omega) (by omega) (KpS W7.heap.size (SFr n)) (fun h k => h.trans k) (fun _ _ _ hb => KpS.of_below hb) (fun _ _ h => h.1)
      (fun W W' hk hs => hs.kept hk (by unfold SFr; omega)) W7 (Nat.le_refl _) hS7)
    (fun h k => h.trans k) ?keepPut (Below.refl _ _) (fun _ => rfl)
    (fun pre Wr => ∃ S' O' nS' nO', FMid r pins ball m t S O (pre.map Subtype.val) S' O' ∧ HSt Wr (n + 4) nS' S' ∧ HSet Wr (n + 2) nO' O' ∧ nS' ≤ nS + 1 + pre.length * costN m ∧ nO' ≤ nO + pre.length * costO m ∧ KpS W7.heap.size (SFr n) W7 Wr)
    (fun _ _ _ => False) ?ownI (fun _ _ _ _ _ hs _ _ => hs) ⟨updS S row t, O, nS + 1, nO, HFS.out, HS7.out, HO7.out, by simp, by simp, KpS.refl _ _ _⟩
    (fun x a' W' => a' = { tmps := #[.agg #[.int .i64 (row : Int), .int .u16 (t : Int)], .pointer (some ⟨n + 5, 0, none⟩), .pointer (some ⟨n + 1, 0, none⟩), .pointer (some ⟨n, 0, none⟩), .pointer (some ⟨n + 3, 0, none⟩), .pointer (some ⟨n + 6, 0, none⟩), .pointer (some ⟨W.heap.size, 0, none⟩), undef, .int .u16 (x.1 : Int), .map (some (n + 4)), .agg #[.int .i64 (row : Int), .int .u16 (t : Int)], .bool false, .map (some (n + 4)), .agg #[.int .i64 (row : Int), .int .u16 (t : Int)], .pointer (some ⟨W.heap.size, 0, none⟩), .int .i64 (row : Int), .slice (some ⟨b2, o2, none⟩) ball.length cb, .int .i64 (ball.length : Int), .bool false, undef, undef, undef, undef, undef, undef, undef, undef, undef, undef, undef, undef, undef, undef, undef, undef, undef, undef, undef, undef, undef, undef, .agg #[.int .i64 r.rows, .int .i64 r.mid, .int .i64 r.gap, .int .i64 r.reach, .slice A r.links.length c, .int .u16 (pins : Int)], .pointer (some ⟨W.heap.size, 0, none⟩), .int .i64 (row : Int), .slice (some ⟨b2, o2, none⟩) ball.length cb, .pointer (some ⟨W.heap.size, 0, none⟩), .int .i64 (row : Int), .pointer (some ⟨b2, o2 + row * 2, none⟩), .agg #[.int .i64 lo, .int .i64 hi], .func (.func 83) #[] #[.pointer (some ⟨q + 2, 0, none⟩), .pointer (some ⟨q, 0, none⟩), .pointer (some ⟨q + 1, 0, none⟩)], .int .u16 (x.1 : Int), undef, undef, undef, undef, undef, undef, undef, undef, undef, undef], defers := [] })
    (fun _ _ _ _ _ _ h _ _ => h) ?assign ?body ?done ?stop)
  case keepPut =>
    intro W l x y hl hx hc _
    exact KpS.of_put hl hx hc _
  case ownI =>
    rintro pre Wr Wr' rw_ ⟨S', O', nS', nO', hF, hSt, hSe, h1, h2, hk⟩ hg' hrow'
    have hne4 : some (n + 4) ≠ rw_ := fun e => by have := (hrow' _ e.symm).1; omega
    have hne2 : some (n + 2) ≠ rw_ := fun e => by have := (hrow' _ e.symm).1; omega
    exact ⟨S', O', nS', nO', hF, hSt.kept hg' hne4, hSe.kept hg' hne2, h1, h2, hk.trans (KpS.of_own hg' hrow')⟩
  case assign =>
    rintro l pre x Wr K hI hK
    simp only [sEnc]
    gi_wp2
    exact hK _ _ (KeepsFrom.refl _ _) (KpS.refl _ _ _) hI rfl
  case body =>
    rintro l pre x a' Wr hl ⟨rr, hr'⟩ ⟨S', O', nS', nO', hF, hSt, hSe, h1, h2, hk⟩ rfl hlt
    have hx10 : x.1 < 2 ^ 10 := by obtain ⟨nn, _, _, h⟩ := x.2; rw [h]; exact touchS_lt ..
    have hCr := HC7.out.kept hk (by omega)
    have hQr := HQ7.out.kept hk (by unfold SFr; omega)
    have hto : t ||| x.1 < 2 ^ 10 := Nat.or_lt_two_pow ht hx10
    have HOR : Hid (bits .or .u16 (t : Int) (x.1 : Int) = ((t ||| x.1 : Nat) : Int)) := or_nat _ _ ht hx10
    have hc100 : pre.length * costN m ≤ 100 * costN m := Nat.mul_le_mul_right _ (by omega)
    have hd100 : pre.length * costO m ≤ 100 * costO m := Nat.mul_le_mul_right _ (by omega)
    have hc1 : pre.length * costN m + costN m ≤ 100 * costN m := by rw [← Nat.succ_mul]; exact Nat.mul_le_mul_right _ (by omega)
    have hd1 : pre.length * costO m + costO m ≤ 100 * costO m := by rw [← Nat.succ_mul]; exact Nat.mul_le_mul_right _ (by omega)
    simp only [costN] at hnS
    simp only [costO] at hnO
    have hR := HROW.out
    have HCALL := Lib.hid (HIH.out Wr (row + 1) (t ||| x.1) S' O' nS' nO' hCr hSt hSe hF.inv hto (by omega) (by omega) (by omega))
    have HX2 : Hid (∃ nn, lo ≤ nn ∧ nn ≤ hi ∧ x.1 = touchS r pins row nn) := x.2
    have HF := Lib.hid hF
    have HK := Lib.hid hk
    have HN1 : Hid ((pre ++ [x]).length * costN m = pre.length * costN m + costN m) := by show _ = _; rw [List.length_append]; simp [Nat.succ_mul]
    have HN2 : Hid ((pre ++ [x]).length * costO m = pre.length * costO m + costO m) := by show _ = _; rw [List.length_append]; simp [Nat.succ_mul]
    have HM1 : Hid ((pre ++ [x]).map Subtype.val = pre.map Subtype.val ++ [x.1]) := by
      show List.map (α := EaX r pins row lo hi) (fun z => z.1) (pre ++ [x]) = _
      rw [List.map_append, List.map_singleton]
      rfl
    obtain ⟨g0, g1⟩ := hQr.cells
    have g6 := hCr.h6
    have e1 := HOR.out
    have hrw : IntKind.i64.wrap ((row : Int) + 1) = (((row + 1 : Nat) : Int)) := by rw [show ((row + 1 : Nat) : Int) = (row : Int) + 1 by omega]; exact IntWalk.i64_in _ (by omega)
    unfold CallsFr at HCALL
    clear hk hF hCr hQr hSt hSe hR hc100 hd100 hc1 hd1
    generalize x.1 = y at *
    gi_wp2
    have hcall := HCALL.out
    rw [show ((row + 1 : Nat) : Int) = (row : Int) + 1 by omega] at hcall
    refine ⟨trivial, (CallsIn.inRound l (callsIn_wide.2 hcall)).mono ?_⟩
    rintro e w3 ⟨⟨v, rfl⟩, S2, O2, nS2, nO2, hS2, hO2, h3, h5, hP2, hk2⟩
    have HS2 := Lib.hid hS2
    have HO2 := Lib.hid hO2
    have HP2 := Lib.hid hP2
    have HK2 := Lib.hid hk2
    have H3 := Lib.hid h3
    have H5 := Lib.hid h5
    clear hS2 hO2 hP2 hk2 h3 h5 hcall
    gi_wp2
    obtain ⟨nn, hn1, hn2, hy⟩ := HX2.out
    have hk2 := HK2.out
    have hkw := HK.out
    have hk3 : KpS W7.heap.size (SFr n) Wr w3 := hk2.less hkw.1
    have hc1 := HN1.out
    have hd1 := HN2.out
    have h3 := H3.out
    have h5 := H5.out
    refine ⟨⟨hk2.1, fun k o hB hko ho => hk2.2.2.2.2 k o hko (.inl (Array.getElem?_eq_some_iff.1 hko).1) (by unfold SFr; omega)⟩, hk3, S2, O2, nS2, nO2, ?_, HS2.out, HO2.out, ?_, ?_, hkw.trans hk3⟩
    · rw [HM1.out, hy]
      exact HSTEP.out _ _ _ nn HF.out hn1 hn2 _ _ (hy ▸ HP2.out)
    · rw [hc1]; omega
    · rw [hd1]; omega
  case done =>
    rintro D ys Wr hD rfl ⟨S', O', nS', nO', hF, hSt, hSe, h1, h2, hk⟩ hK
    have HF := Lib.hid (HDONE.out _ _ hF)
    have HST := Lib.hid hSt
    have HSE := Lib.hid hSe
    have HK := Lib.hid hk
    have HKD := Lib.hid hK
    have hc100 : (eachL r pins row lo hi (hi - lo + 1).toNat).length * costN m ≤ 100 * costN m := Nat.mul_le_mul_right _ (by have := HLEN.out; omega)
    have hd100 : (eachL r pins row lo hi (hi - lo + 1).toNat).length * costO m ≤ 100 * costO m := Nat.mul_le_mul_right _ (by have := HLEN.out; omega)
    have H1 := Lib.hid h1
    have H2 := Lib.hid h2
    have HC100 := Lib.hid hc100
    have HD100 := Lib.hid hd100
    clear hF hSt hSe hk hK hc100 hd100 h1 h2
    go_wp2_with fail
    refine ⟨by simp, .inl ⟨_, _, rfl, run_takeDeferred (w := Wr) HKD.out, ?_⟩⟩
    have hg : Wr.grownBy (Wr.putObj D (.deferred none)) (some D) := ⟨rfl, rfl, rfl, by simp, fun i hi hne => World.putObj_heap_other (fun e => hne (by rw [e]))⟩
    have h1 := H1.out
    have h2 := H2.out
    have h3 := HC100.out
    have h5 := HD100.out
    refine ⟨.tuple #[], by simp [results, Try.results86, go_sem], ⟨_, rfl⟩, S', O', nS', nO', HST.out.kept hg (fun e => by injection e with e; omega), HSE.out.kept hg (fun e => by injection e with e; omega), by simp only [costN]; omega, by simp only [costO]; omega, HF.out, ?_⟩
    exact (HKw.out.trans (KpS.of_below HB7.out)).trans ((HK.out.less (by omega)).trans (KpS.of_put (by omega) HKD.out rfl _))
  case stop => exact fun _ _ _ _ _ _ h _ => h.elim

theorem from_c {n : Nat} {r : Rk} {A : Option Addr} {c pins : Nat} {Ab : Option Addr} {cb : Nat} {ball : List Rg} (hr : Ok r) (hp : pins < 2 ^ 10) (hbl : (ball.length : Int) = r.rows) (hc : r.links.length ≤ c ∧ c ≤ 9223372036854775807) (hcb : ball.length ≤ cb ∧ cb ≤ 9223372036854775807) (hb3 : ∀ k, k < ball.length → 0 ≤ (gx ball k).lo ∧ (gx ball k).lo ≤ (gx ball k).hi ∧ (gx ball k).hi ≤ 60 ∧ (gx ball k).hi - (gx ball k).lo ≤ 8) : ∀ m, FromC n r A c pins Ab cb ball m := by
  intro m
  induction m with
  | zero =>
    intro W row t S O nS nO hC hS hO hI ht hrow h1 h2
    obtain rfl : row = ball.length := by omega
    cases hs : S ball.length t
    · exact from_zero (row := 0) hr hp hbl hc hcb hC hS hO hI ht hs h1 h2
    · exact from_seen hr hp hbl hc hcb hC hS hO hI ht hrow hs
  | succ m ih =>
    intro W row t S O nS nO hC hS hO hI ht hrow h1 h2
    cases hs : S row t
    · exact from_succ hr hp hbl hc hcb hb3 ih hC hS hO hI ht hrow hs h1 h2
    · exact from_seen hr hp hbl hc hcb hC hS hO hI ht hrow hs
end Go.Proofs.Ytpekajnjjhibjaa
