/-
  A truth of a ball, by words: word, Picked.
-/
import Derived.Test.YtpekajnjjhibjaaE6
namespace Go.Proofs.Ytpekajnjjhibjaa
open Go.RowKit
set_option linter.unusedSimpArgs false
set_option linter.unusedVariables false

attribute [local go_sem] Oper.semAt_some
def Wds (B : Nat) (w : World) (A : Option Addr) (ws : List Int) : Prop :=
  0 < ws.length → ∃ b off, A = some ⟨b, off, none⟩ ∧ b < B ∧ ∀ k, k < ws.length → w.cell? ⟨b, off + k, none⟩ = some (.int .u16 (ix ws k)) ∧ 0 ≤ ix ws k ∧ ix ws k ≤ 65535
theorem Wds.step {w w' : World} {A : Option Addr} {xs : List Int} (h : Wds w.heap.size w A xs) (hb : Below w.heap.size w w') : Wds w'.heap.size w' A xs := fun hp => by
  obtain ⟨b, off, hA, hlt, hc⟩ := h hp
  exact ⟨b, off, hA, Nat.lt_of_lt_of_le hlt hb.size, fun k hk => ⟨(hb.cell (p := ⟨b, off + k, none⟩) hlt).trans (hc k hk).1, (hc k hk).2⟩⟩

/-- One of some words. -/
def wordF (ws : List Int) (k : Nat) : Int := if ws.length = 0 then 0 else ix ws (k % ws.length)
theorem wordF_bd {B : Nat} {w : World} {A : Option Addr} {ws : List Int} (h : Wds B w A ws) (k : Nat) : 0 ≤ wordF ws k ∧ wordF ws k ≤ 65535 := by
  unfold wordF
  split
  · omega
  · obtain ⟨b, off, _, _, hc⟩ := h (by omega)
    exact (hc _ (Nat.mod_lt _ (by omega))).2

set_option maxHeartbeats 400000 in
theorem word81_c {B : Nat} (A : Option Addr) (ws : List Int) (c k : Nat) (w : World) (h : Wds B w A ws) (hk : k ≤ 1000000) (_hc : ws.length ≤ c ∧ c ≤ 9223372036854775807) :
    Calls Try.prog 81 #[.slice A ws.length c, .int .i64 (k : Int)] w (Same w (.int .i64 (wordF ws k))) := by
  by_cases h0 : ws.length = 0
  · have h0' : ((ws.length : Int) == 0) = true := by simp [h0]
    have HR : Hid (wordF ws k = 0) := by show _ = _; simp [wordF, h0]
    clear h0
    go_enter Try.func81, Try.ntmps81
    go_wp2_with fail
    go_ret
    exact ⟨ret_int HR.out.symm, rfl⟩
  · have h0' : ((ws.length : Int) == 0) = false := by rw [beq_eq_false_iff_ne]; omega
    obtain ⟨b, off, rfl, _, hcl⟩ := h (by omega)
    have hlt := Nat.mod_lt k (show 0 < ws.length by omega)
    obtain ⟨h1, h2, h3⟩ := hcl _ hlt
    have HR : Hid (wordF ws k = ix ws (k % ws.length)) := by show _ = _; simp [wordF, h0]
    clear hcl
    have e : ((k : Int) % (ws.length : Int)) = ((k % ws.length : Nat) : Int) := by simp
    have hp : 0 < ws.length := by omega
    clear h0
    generalize hj : k % ws.length = j at *
    have HJ := Lib.hid hj
    clear hj
    go_enter Try.func81, Try.ntmps81
    go_wp2_with fail
    go_ret
    exact ⟨ret_int HR.out.symm, rfl⟩

/-- The boards, and what carries, by words. -/
def pickB (ball : List Rg) (ws : List Int) : List Int := (List.range ball.length).map fun k => (gx ball k).lo + wordF ws k % ((gx ball k).hi - (gx ball k).lo + 1)
def pickC (ls : List Lk) (ws : List Int) : List Bool := (List.range ls.length).map fun k => (lx ls k).s || (wordF ws (k + 3) % 2 == 1)
theorem pickB_len (ball : List Rg) (ws : List Int) : (pickB ball ws).length = ball.length := by simp [pickB]
theorem pickC_len (ls : List Lk) (ws : List Int) : (pickC ls ws).length = ls.length := by simp [pickC]
theorem take_map_range {α : Type} (n k : Nat) (f : Nat → α) (h : k < n) : ((List.range n).map f).take (k + 1) = ((List.range n).map f).take k ++ [f k] := by
  rw [List.take_succ_eq_append_getElem (by simpa using h)]
  simp
theorem len_take_map_range {α : Type} (n k : Nat) (f : Nat → α) (h : k ≤ n) : (((List.range n).map f).take k).length = k := by simp; omega
/-- What Picked answers. -/
def PickP (w : World) (xs : List Int) (bs : List Bool) (e : Ending) (w' : World) : Prop := ∃ A c B d, e = .returned (.tuple #[.slice A xs.length c, .slice B bs.length d]) ∧ (Ints w'.heap.size w' A xs ∧ xs.length ≤ c ∧ c ≤ 9223372036854775807) ∧ (Bls w'.heap.size w' B bs ∧ bs.length ≤ d ∧ d ≤ 9223372036854775807) ∧ Below w.heap.size w w'

set_option maxRecDepth 100000 in
set_option maxHeartbeats 8000000 in
theorem picked49_c (r : Rk) (A Ab Aw : Option Addr) (c cb cw : Nat) (ball : List Rg) (ws : List Int) (w : World) (hl : Lks w.heap.size w A r.links) (hc : r.links.length ≤ c ∧ c ≤ 9223372036854775807) (hball : Rgs w.heap.size w Ab ball) (hcb : ball.length ≤ cb ∧ cb ≤ 9223372036854775807) (hws : Wds w.heap.size w Aw ws) (hcw : ws.length ≤ cw ∧ cw ≤ 9223372036854775807)
    (hbl : ∀ k, k < ball.length → 0 ≤ (gx ball k).lo ∧ (gx ball k).lo ≤ (gx ball k).hi ∧ (gx ball k).hi ≤ 60) (hl16 : r.links.length ≤ 16) (hb8 : ball.length ≤ 8) :
    Calls Try.prog 49 #[.agg #[.int .i64 r.rows, .int .i64 r.mid, .int .i64 r.gap, .int .i64 r.reach, .slice A r.links.length c], .slice Ab ball.length cb, .slice Aw ws.length cw] w (PickP w (pickB ball ws) (pickC r.links ws)) := by
  have HB := Lib.hid (Below.refl w.heap.size w)
  have HL := Lib.hid hl
  have HBa := Lib.hid hball
  have HWs := Lib.hid hws
  clear hl hball hws
  have hb : Below w.heap.size w (w.alloc (.cells #[.int .i64 r.rows, .int .i64 r.mid, .int .i64 r.gap, .int .i64 r.reach, .slice A r.links.length c] 24)) := (Below.refl _ _).alloc (Nat.le_refl _) _
  replace HL := Lib.hid (HL.out.step hb)
  replace HBa := Lib.hid (HBa.out.step hb)
  replace HWs := Lib.hid (HWs.out.step hb)
  replace HB := Lib.hid (HB.out.trans (hb.mono HB.out.size))
  clear hb
  have k4 : (w.alloc (.cells #[.int .i64 r.rows, .int .i64 r.mid, .int .i64 r.gap, .int .i64 r.reach, .slice A r.links.length c] 24)).cell? ⟨w.heap.size, 4, none⟩ = some (.slice A r.links.length c) := by simp
  go_enter Try.func49, Try.ntmps49
  go_wp2_with fail
  generalize (w.alloc (.cells #[.int .i64 r.rows, .int .i64 r.mid, .int .i64 r.gap, .int .i64 r.reach, .slice A r.links.length c] 24)) = x1 at *
  go_loopw [8, 10] (fun o i wr => ∃ k : Nat, k ≤ ball.length ∧ i = .int .i64 k ∧ OwnI x1.heap.size wr o ((pickB ball ws).take k) ∧ Below x1.heap.size x1 wr) (fun _ i _ => ball.length - (intOf i).toNat)
  case atStart => exact ⟨0, by omega, rfl, OwnI.nil _ _, Below.refl _ _⟩
  case round =>
    obtain ⟨k, hk, rfl, ho, hb⟩ := hrel
    have HO := Lib.hid ho
    have HBW := Lib.hid hb
    obtain ⟨Ao, co, rfl⟩ := ho.form
    clear ho
    have hlt : ((pickB ball ws).take k).length = k := len_take_map_range _ _ _ hk
    have hwr : x1.heap.size ≤ wr.heap.size := hb.size
    by_cases h1 : k < ball.length
    · obtain ⟨b, off, rfl, hb0, c1, c2⟩ := (HBa.out.below hb).at_ h1
      have HT : Hid ((pickB ball ws).take (k + 1) = (pickB ball ws).take k ++ [(gx ball k).lo + wordF ws k % ((gx ball k).hi - (gx ball k).lo + 1)]) := take_map_range _ _ _ h1
      have hrg := hbl k h1
      have h1i : (k : Int) < (ball.length : Int) := by omega
      replace HO : Hid (OwnI x1.heap.size wr.drew (.slice Ao ((pickB ball ws).take k).length co) ((pickB ball ws).take k)) := HO.out.kept (Below.refl _ _).drew
      obtain ⟨hw0, hw1⟩ := wordF_bd HWs.out k
      have HWD := Lib.hid (word81_c Aw ws cw k wr.drew ((HWs.out.step hb).step (Below.refl _ _).drew) (by omega) hcw)
      rw [hlt] at HO ⊢
      have HLT := Lib.hid hlt
      generalize wordF ws k = wf at *
      generalize gx ball k = x at *
      obtain ⟨lo, hi⟩ := x
      dsimp only at c1 c2 hrg HT
      have m0 := Int.emod_nonneg wf (b := hi - lo + 1) (by omega)
      have m1 := Int.emod_lt_of_pos wf (b := hi - lo + 1) (by omega)
      have z3 : IntKind.i64.wrap (hi - lo) = hi - lo := IntWalk.i64_in _ (by omega)
      have z4 : IntKind.i64.wrap (hi - lo + 1) = hi - lo + 1 := IntWalk.i64_in _ (by omega)
      have z5 : wf.tmod (hi - lo + 1) = wf % (hi - lo + 1) := Int.tmod_eq_emod_of_nonneg hw0
      have z6 : IntKind.i64.wrap (wf % (hi - lo + 1)) = wf % (hi - lo + 1) := IntWalk.i64_in _ (by omega)
      have z7 : IntKind.i64.wrap (lo + wf % (hi - lo + 1)) = lo + wf % (hi - lo + 1) := IntWalk.i64_in _ (by omega)
      have z8 : ¬ (hi - lo + 1 = 0) := by omega
      have z9 : (hi - lo + 1 == 0) = false := by rw [beq_eq_false_iff_ne]; omega
      obtain ⟨pb, hpb⟩ : ∃ pb, pb = lo + wf % (hi - lo + 1) := ⟨_, rfl⟩
      rw [← hpb] at HT z7
      have HPB : Hid (lo + wf % (hi - lo + 1) = pb) := hpb.symm
      have z10 : lo + wf % (hi - lo + 1) = pb := hpb.symm
      clear hb hlt m0 m1 hpb
      go_wp2_with fail
      refine wp_region_noPanic ?_
      have hS : (fun W' : World => Below x1.heap.size wr W') wr.drew := (Below.refl _ _).drew
      refine wp_region_any (by kernel_rfl) (wpAny_of_T (S := fun W' : World => Below x1.heap.size wr W') (m := 26) _ _ _ _ ?_)
      refine' T_take (i := 0) (v := _) rfl (by kernel_rfl) (by kernel_rfl) (by kernel_rfl) (by kernel_rfl) (fun _ _ _ h => h) (by kernel_rfl) hS ?_ ?_
      rotate_left 1
      · intro Wv hW
        replace c1 := (hW.cell (p := ⟨b, off + k * 2, none⟩) hb0).trans c1
        replace c2 := (hW.cell (p := ⟨b, off + k * 2 + 1, none⟩) hb0).trans c2
        go_simp
        first | done | with_reducible rfl
      try simp only [Act.put, List.setIfInBounds_toArray, List.set_cons_zero, List.set_cons_succ]
      refine' T_take (i := 1) (v := _) rfl (by kernel_rfl) (by kernel_rfl) (by kernel_rfl) (by kernel_rfl) (fun _ _ _ h => h) (by kernel_rfl) hS ?_ ?_
      rotate_left 1
      · intro Wv hW
        replace c1 := (hW.cell (p := ⟨b, off + k * 2, none⟩) hb0).trans c1
        replace c2 := (hW.cell (p := ⟨b, off + k * 2 + 1, none⟩) hb0).trans c2
        go_simp
        first | done | with_reducible rfl
      try simp only [Act.put, List.setIfInBounds_toArray, List.set_cons_zero, List.set_cons_succ]
      refine' T_take (i := 2) (v := _) rfl (by kernel_rfl) (by kernel_rfl) (by kernel_rfl) (by kernel_rfl) (fun _ _ _ h => h) (by kernel_rfl) hS ?_ ?_
      rotate_left 1
      · intro Wv hW
        replace c1 := (hW.cell (p := ⟨b, off + k * 2, none⟩) hb0).trans c1
        replace c2 := (hW.cell (p := ⟨b, off + k * 2 + 1, none⟩) hb0).trans c2
        go_simp
        first | done | with_reducible rfl
      try simp only [Act.put, List.setIfInBounds_toArray, List.set_cons_zero, List.set_cons_succ]
      refine' T_take (i := 3) (v := _) rfl (by kernel_rfl) (by kernel_rfl) (by kernel_rfl) (by kernel_rfl) (fun _ _ _ h => h) (by kernel_rfl) hS ?_ ?_
      rotate_left 1
      · intro Wv hW
        replace c1 := (hW.cell (p := ⟨b, off + k * 2, none⟩) hb0).trans c1
        replace c2 := (hW.cell (p := ⟨b, off + k * 2 + 1, none⟩) hb0).trans c2
        go_simp
        first | done | with_reducible rfl
      try simp only [Act.put, List.setIfInBounds_toArray, List.set_cons_zero, List.set_cons_succ]
      refine' T_take (i := 4) (v := _) rfl (by kernel_rfl) (by kernel_rfl) (by kernel_rfl) (by kernel_rfl) (fun _ _ _ h => h) (by kernel_rfl) hS ?_ ?_
      rotate_left 1
      · intro Wv hW
        replace c1 := (hW.cell (p := ⟨b, off + k * 2, none⟩) hb0).trans c1
        replace c2 := (hW.cell (p := ⟨b, off + k * 2 + 1, none⟩) hb0).trans c2
        go_simp
        first | done | with_reducible rfl
      try simp only [Act.put, List.setIfInBounds_toArray, List.set_cons_zero, List.set_cons_succ]
      refine' T_take (i := 5) (v := _) rfl (by kernel_rfl) (by kernel_rfl) (by kernel_rfl) (by kernel_rfl) (fun _ _ _ h => h) (by kernel_rfl) hS ?_ ?_
      rotate_left 1
      · intro Wv hW
        replace c1 := (hW.cell (p := ⟨b, off + k * 2, none⟩) hb0).trans c1
        replace c2 := (hW.cell (p := ⟨b, off + k * 2 + 1, none⟩) hb0).trans c2
        go_simp
        first | done | with_reducible rfl
      try simp only [Act.put, List.setIfInBounds_toArray, List.set_cons_zero, List.set_cons_succ]
      refine' T_take (i := 6) (v := _) rfl (by kernel_rfl) (by kernel_rfl) (by kernel_rfl) (by kernel_rfl) (fun _ _ _ h => h) (by kernel_rfl) hS ?_ ?_
      rotate_left 1
      · intro Wv hW
        replace c1 := (hW.cell (p := ⟨b, off + k * 2, none⟩) hb0).trans c1
        replace c2 := (hW.cell (p := ⟨b, off + k * 2 + 1, none⟩) hb0).trans c2
        go_simp
        first | done | with_reducible rfl
      try simp only [Act.put, List.setIfInBounds_toArray, List.set_cons_zero, List.set_cons_succ]
      refine' T_take (i := 7) (v := _) rfl (by kernel_rfl) (by kernel_rfl) (by kernel_rfl) (by kernel_rfl) (fun _ _ _ h => h) (by kernel_rfl) hS ?_ ?_
      rotate_left 1
      · intro Wv hW
        replace c1 := (hW.cell (p := ⟨b, off + k * 2, none⟩) hb0).trans c1
        replace c2 := (hW.cell (p := ⟨b, off + k * 2 + 1, none⟩) hb0).trans c2
        go_simp
        first | done | with_reducible rfl
      try simp only [Act.put, List.setIfInBounds_toArray, List.set_cons_zero, List.set_cons_succ]
      refine' T_take (i := 9) (v := _) rfl (by kernel_rfl) (by kernel_rfl) (by kernel_rfl) (by kernel_rfl) (fun _ _ _ h => h) (by kernel_rfl) hS ?_ ?_
      rotate_left 1
      · intro Wv hW
        replace c1 := (hW.cell (p := ⟨b, off + k * 2, none⟩) hb0).trans c1
        replace c2 := (hW.cell (p := ⟨b, off + k * 2 + 1, none⟩) hb0).trans c2
        go_simp
        first | done | with_reducible rfl
      try simp only [Act.put, List.setIfInBounds_toArray, List.set_cons_zero, List.set_cons_succ]
      refine' T_take (i := 10) (v := _) rfl (by kernel_rfl) (by kernel_rfl) (by kernel_rfl) (by kernel_rfl) (fun _ _ _ h => h) (by kernel_rfl) hS ?_ ?_
      rotate_left 1
      · intro Wv hW
        replace c1 := (hW.cell (p := ⟨b, off + k * 2, none⟩) hb0).trans c1
        replace c2 := (hW.cell (p := ⟨b, off + k * 2 + 1, none⟩) hb0).trans c2
        go_simp
        first | done | with_reducible rfl
      try simp only [Act.put, List.setIfInBounds_toArray, List.set_cons_zero, List.set_cons_succ]
      refine' T_take (i := 11) (v := _) rfl (by kernel_rfl) (by kernel_rfl) (by kernel_rfl) (by kernel_rfl) (fun _ _ _ h => h) (by kernel_rfl) hS ?_ ?_
      rotate_left 1
      · intro Wv hW
        replace c1 := (hW.cell (p := ⟨b, off + k * 2, none⟩) hb0).trans c1
        replace c2 := (hW.cell (p := ⟨b, off + k * 2 + 1, none⟩) hb0).trans c2
        go_simp
        first | done | with_reducible rfl
      try simp only [Act.put, List.setIfInBounds_toArray, List.set_cons_zero, List.set_cons_succ]
      refine' T_take (i := 12) (v := _) rfl (by kernel_rfl) (by kernel_rfl) (by kernel_rfl) (by kernel_rfl) (fun _ _ _ h => h) (by kernel_rfl) hS ?_ ?_
      rotate_left 1
      · intro Wv hW
        replace c1 := (hW.cell (p := ⟨b, off + k * 2, none⟩) hb0).trans c1
        replace c2 := (hW.cell (p := ⟨b, off + k * 2 + 1, none⟩) hb0).trans c2
        go_simp
        first | done | with_reducible rfl
      try simp only [Act.put, List.setIfInBounds_toArray, List.set_cons_zero, List.set_cons_succ]
      refine' T_take (i := 13) (v := _) rfl (by kernel_rfl) (by kernel_rfl) (by kernel_rfl) (by kernel_rfl) (fun _ _ _ h => h) (by kernel_rfl) hS ?_ ?_
      rotate_left 1
      · intro Wv hW
        replace c1 := (hW.cell (p := ⟨b, off + k * 2, none⟩) hb0).trans c1
        replace c2 := (hW.cell (p := ⟨b, off + k * 2 + 1, none⟩) hb0).trans c2
        go_simp
        first | done | with_reducible rfl
      try simp only [Act.put, List.setIfInBounds_toArray, List.set_cons_zero, List.set_cons_succ]
      refine' T_take (i := 14) (v := _) rfl (by kernel_rfl) (by kernel_rfl) (by kernel_rfl) (by kernel_rfl) (fun _ _ _ h => h) (by kernel_rfl) hS ?_ ?_
      rotate_left 1
      · intro Wv hW
        replace c1 := (hW.cell (p := ⟨b, off + k * 2, none⟩) hb0).trans c1
        replace c2 := (hW.cell (p := ⟨b, off + k * 2 + 1, none⟩) hb0).trans c2
        go_simp
        first | done | with_reducible rfl
      try simp only [Act.put, List.setIfInBounds_toArray, List.set_cons_zero, List.set_cons_succ]
      refine' T_take (i := 15) (v := _) rfl (by kernel_rfl) (by kernel_rfl) (by kernel_rfl) (by kernel_rfl) (fun _ _ _ h => h) (by kernel_rfl) hS ?_ ?_
      rotate_left 1
      · intro Wv hW
        replace c1 := (hW.cell (p := ⟨b, off + k * 2, none⟩) hb0).trans c1
        replace c2 := (hW.cell (p := ⟨b, off + k * 2 + 1, none⟩) hb0).trans c2
        go_simp
        first | done | with_reducible rfl
      try simp only [Act.put, List.setIfInBounds_toArray, List.set_cons_zero, List.set_cons_succ]
      refine' T_take (i := 16) (v := _) rfl (by kernel_rfl) (by kernel_rfl) (by kernel_rfl) (by kernel_rfl) (fun _ _ _ h => h) (by kernel_rfl) hS ?_ ?_
      rotate_left 1
      · intro Wv hW
        replace c1 := (hW.cell (p := ⟨b, off + k * 2, none⟩) hb0).trans c1
        replace c2 := (hW.cell (p := ⟨b, off + k * 2 + 1, none⟩) hb0).trans c2
        go_simp
        first | done | with_reducible rfl
      try simp only [Act.put, List.setIfInBounds_toArray, List.set_cons_zero, List.set_cons_succ]
      refine' T_take (i := 17) (v := _) rfl (by kernel_rfl) (by kernel_rfl) (by kernel_rfl) (by kernel_rfl) (fun _ _ _ h => h) (by kernel_rfl) hS ?_ ?_
      rotate_left 1
      · intro Wv hW
        replace c1 := (hW.cell (p := ⟨b, off + k * 2, none⟩) hb0).trans c1
        replace c2 := (hW.cell (p := ⟨b, off + k * 2 + 1, none⟩) hb0).trans c2
        go_simp
        first | done | with_reducible rfl
      try simp only [Act.put, List.setIfInBounds_toArray, List.set_cons_zero, List.set_cons_succ]
      refine' T_take (i := 18) (v := _) rfl (by kernel_rfl) (by kernel_rfl) (by kernel_rfl) (by kernel_rfl) (fun _ _ _ h => h) (by kernel_rfl) hS ?_ ?_
      rotate_left 1
      · intro Wv hW
        replace c1 := (hW.cell (p := ⟨b, off + k * 2, none⟩) hb0).trans c1
        replace c2 := (hW.cell (p := ⟨b, off + k * 2 + 1, none⟩) hb0).trans c2
        go_simp
        first | done | with_reducible rfl
      try simp only [Act.put, List.setIfInBounds_toArray, List.set_cons_zero, List.set_cons_succ]
      refine' T_take (i := 19) (v := _) rfl (by kernel_rfl) (by kernel_rfl) (by kernel_rfl) (by kernel_rfl) (fun _ _ _ h => h) (by kernel_rfl) hS ?_ ?_
      rotate_left 1
      · intro Wv hW
        replace c1 := (hW.cell (p := ⟨b, off + k * 2, none⟩) hb0).trans c1
        replace c2 := (hW.cell (p := ⟨b, off + k * 2 + 1, none⟩) hb0).trans c2
        go_simp
        first | done | with_reducible rfl
      try simp only [Act.put, List.setIfInBounds_toArray, List.set_cons_zero, List.set_cons_succ]
      refine' T_take (i := 20) (v := _) rfl (by kernel_rfl) (by kernel_rfl) (by kernel_rfl) (by kernel_rfl) (fun _ _ _ h => h) (by kernel_rfl) hS ?_ ?_
      rotate_left 1
      · intro Wv hW
        replace c1 := (hW.cell (p := ⟨b, off + k * 2, none⟩) hb0).trans c1
        replace c2 := (hW.cell (p := ⟨b, off + k * 2 + 1, none⟩) hb0).trans c2
        go_simp
        first | done | with_reducible rfl
      try simp only [Act.put, List.setIfInBounds_toArray, List.set_cons_zero, List.set_cons_succ]
      refine T_ready (rs := [8]) (by kernel_rfl) (by simp) ?_
      refine TReady.cons rfl (fun K hK => ?_) TReady.nil
      try go_simp
      refine (HWD.out).mono ?_
      rintro e w6 ⟨rfl, rfl⟩
      try go_simp
      refine hK.out _ _ (fun _ => hS) (fun _ => ?_)
      clear hK K
      try simp only [Act.put, List.setIfInBounds_toArray, List.set_cons_zero, List.set_cons_succ]
      refine' T_take (i := 21) (v := _) rfl (by kernel_rfl) (by kernel_rfl) (by kernel_rfl) (by kernel_rfl) (fun _ _ _ h => h) (by kernel_rfl) hS ?_ ?_
      rotate_left 1
      · intro Wv hW
        replace c1 := (hW.cell (p := ⟨b, off + k * 2, none⟩) hb0).trans c1
        replace c2 := (hW.cell (p := ⟨b, off + k * 2 + 1, none⟩) hb0).trans c2
        go_simp
        first | done | with_reducible rfl
      try simp only [Act.put, List.setIfInBounds_toArray, List.set_cons_zero, List.set_cons_succ]
      refine' T_take (i := 22) (v := _) rfl (by kernel_rfl) (by kernel_rfl) (by kernel_rfl) (by kernel_rfl) (fun _ _ _ h => h) (by kernel_rfl) hS ?_ ?_
      rotate_left 1
      · intro Wv hW
        replace c1 := (hW.cell (p := ⟨b, off + k * 2, none⟩) hb0).trans c1
        replace c2 := (hW.cell (p := ⟨b, off + k * 2 + 1, none⟩) hb0).trans c2
        go_simp
        first | done | with_reducible rfl
      try simp only [Act.put, List.setIfInBounds_toArray, List.set_cons_zero, List.set_cons_succ]
      refine T_ready (rs := [23]) (by kernel_rfl) (by simp) ?_
      refine TReady.cons rfl (fun K hK => ?_) TReady.nil
      try go_simp
      refine hK.out _ _ (fun _ => hS.alloc (Nat.le_trans hwr hS.size) _) (fun hS2 => ?_)
      replace hS := hS2 (by decide)
      clear hS2 hK K
      try simp only [Act.put, List.setIfInBounds_toArray, List.set_cons_zero, List.set_cons_succ]
      refine T_ready (rs := [24]) (by kernel_rfl) (by simp) ?_
      refine TReady.cons rfl (fun K hK => ?_) TReady.nil
      refine step_app_int (.tmp 18) (.tmp 41) rfl rfl x1.heap.size wr.drew _ ((pickB ball ws).take k) pb rfl rfl HO (by simp; omega) hwr ?_
      intro A9 c9 w2 HO2 HB2
      refine hK.out _ _ (fun _ => below_drew_l HB2.out) (fun hS2 => ?_)
      replace hS := hS2 (by decide)
      clear hK K hS2
      try simp only [Act.put, List.setIfInBounds_toArray, List.set_cons_zero, List.set_cons_succ]
      refine' T_take (i := 25) (v := _) rfl (by kernel_rfl) (by kernel_rfl) (by kernel_rfl) (by kernel_rfl) (fun _ _ _ h => h) (by kernel_rfl) hS ?_ ?_
      rotate_left 1
      · intro Wv hW
        replace c1 := (hW.cell (p := ⟨b, off + k * 2, none⟩) hb0).trans c1
        replace c2 := (hW.cell (p := ⟨b, off + k * 2 + 1, none⟩) hb0).trans c2
        go_simp
        first | done | with_reducible rfl
      try simp only [Act.put, List.setIfInBounds_toArray, List.set_cons_zero, List.set_cons_succ]
      refine T_done (by kernel_rfl) ?_ _
      refine NoPanic.normal ?_
      try go_simp
      clear z3 z4 z5 z6 z7 z8 z9 z10
      have ho2 := HO2.out
      rw [HLT.out] at ho2
      have HO3 := Lib.hid ho2
      clear ho2
      go_wp2_with fail
      go_roundw
      case rel => exact ⟨k + 1, by omega, by go_num, by have e := HLT.out; rw [List.length_take] at e; rw [HT.out, e]; exact HO3.out, HBW.out.trans (below_drew_l HB2.out)⟩
      case measure => simp [intOf]; omega
    · obtain rfl : k = ball.length := by omega
      have e1 : (pickB ball ws).take ball.length = pickB ball ws := List.take_of_length_le (by rw [pickB_len]; exact Nat.le_refl _)
      rw [e1] at HO ⊢
      have hlt1 : (pickB ball ws).length = ball.length := pickB_len _ _
      have HP := Lib.hid HO.out
      rw [hlt1] at HP ⊢
      replace k4 := cell_of_ans hb k4
      have HLr := Lib.hid (HL.out.step hb)
      have HWr := Lib.hid (HWs.out.step hb)
      have hz := hb.size
      clear hb e1 hlt HO
      obtain ⟨wz, hwz⟩ : ∃ wz, wz = wr := ⟨_, rfl⟩
      go_wp2_with fail
      go_loopw [9, 11] (fun o i wt => ∃ k : Nat, k ≤ r.links.length ∧ i = .int .i64 k ∧ OwnB 4 wr.heap.size wt o ((pickC r.links ws).take k) ∧ Below wr.heap.size wr wt) (fun _ i _ => r.links.length - (intOf i).toNat)
      case atStart => exact ⟨0, by omega, rfl, OwnB.nil _ _ _, Below.refl _ _⟩
      case round =>
        obtain ⟨k, hk, rfl, ho, hb⟩ := hrel
        rename World => wt
        have HO := Lib.hid ho
        have HBT := Lib.hid hb
        obtain ⟨Ao2, co2, rfl⟩ := ho.form
        clear ho
        have hlt : ((pickC r.links ws).take k).length = k := len_take_map_range _ _ _ hk
        have hwt : wr.heap.size ≤ wt.heap.size := hb.size
        have q4 := cell_of_ans hb k4
        by_cases h2 : k < r.links.length
        · obtain ⟨b, off, rfl, hb0, c1, c2, c3⟩ := (HLr.out.step hb).at_ h2
          have HT : Hid ((pickC r.links ws).take (k + 1) = (pickC r.links ws).take k ++ [(lx r.links k).s || (wordF ws (k + 3) % 2 == 1)]) := take_map_range _ _ _ h2
          have h2i : (k : Int) < (r.links.length : Int) := by omega
          obtain ⟨hw0, hw1⟩ := wordF_bd HWr.out (k + 3)
          have HWD := Lib.hid (word81_c Aw ws cw (k + 3) wt (HWr.out.step hb) (by omega) hcw)
          have hk3 : IntKind.i64.wrap ((k : Int) + 3) = ((k + 3 : Nat) : Int) := by rw [IntWalk.i64_in _ (by omega)]; omega
          rw [hlt] at HO ⊢
          have HLT := Lib.hid hlt
          generalize wordF ws (k + 3) = wf at *
          have z5 : wf.tmod 2 = wf % 2 := Int.tmod_eq_emod_of_nonneg hw0
          have z6 : IntKind.i64.wrap (wf % 2) = wf % 2 := IntWalk.i64_in _ (by omega)
          generalize lx r.links k = x at *
          obtain ⟨xf, xt, xs⟩ := x
          dsimp only at c1 c2 c3 HT
          clear hb hlt
          have HO2 : Hid (OwnB 4 wr.heap.size wt (.slice Ao2 k co2) ((pickC r.links ws).take k)) := HO.out
          cases xs
          · go_wp2_with (first | (go_at_call 81; refine HWD.out.mono ?_; rintro e w6 ⟨rfl, rfl⟩) | (at_builtin; refine wpList_appB (t := 71) (e := 4) ⟨rfl, rfl⟩ (.tmp 50) (.tmp 65) rfl rfl wr.heap.size _ _ ((pickC r.links ws).take k) (wf % 2 == 1) rfl rfl HO (by rw [HLT.out]; omega) hwt ?_; intro A9 c9 w2 HO2 HB2))
            have ho2 := HO2.out
            rw [HLT.out] at ho2
            have HO3 := Lib.hid ho2
            clear ho2
            try rw [HLT.out]
            go_roundw
            case rel => exact ⟨k + 1, by omega, by go_num, by have e := HLT.out; rw [List.length_take] at e; rw [HT.out, e]; exact HO3.out, HBT.out.trans HB2.out⟩
            case measure => simp [intOf]; omega
          · go_wp2_with (at_builtin; refine wpList_appB (t := 71) (e := 4) ⟨rfl, rfl⟩ (.tmp 50) (.tmp 65) rfl rfl wr.heap.size _ _ ((pickC r.links ws).take k) true rfl rfl HO (by rw [HLT.out]; omega) hwt ?_; intro A9 c9 w2 HO2 HB2)
            have ho2 := HO2.out
            rw [HLT.out] at ho2
            have HO3 := Lib.hid ho2
            clear ho2
            try rw [HLT.out]
            go_roundw
            case rel => exact ⟨k + 1, by omega, by go_num, by have e := HLT.out; rw [List.length_take] at e; rw [HT.out, e]; exact HO3.out, HBT.out.trans HB2.out⟩
            case measure => simp [intOf]; omega
        · obtain rfl : k = r.links.length := by omega
          have e1 : (pickC r.links ws).take r.links.length = pickC r.links ws := List.take_of_length_le (by rw [pickC_len]; exact Nat.le_refl _)
          rw [e1] at HO ⊢
          have hlt2 : (pickC r.links ws).length = r.links.length := pickC_len _ _
          have HQ := Lib.hid HO.out
          rw [hlt2] at HQ ⊢
          have HPP : Hid (PickP w (pickB ball ws) (pickC r.links ws) (.returned (.tuple #[.slice Ao ball.length co, .slice Ao2 r.links.length co2])) wt) := by
            have hI := (HP.out.kept hb).isInts
            obtain ⟨a1, a2, a3⟩ := isInts_parts hI
            obtain ⟨b1, b2, b3⟩ := HQ.out.parts
            refine ⟨Ao, co, Ao2, co2, by rw [pickB_len, pickC_len], ⟨a3, a1, a2⟩, ⟨b3, b1, b2⟩, (HB.out.trans (HBW.out.mono HB.out.size)).trans (hb.mono ?_)⟩
            have := HB.out.size
            have := HBW.out.size
            omega
          clear hb e1 hlt HO hlt1 hlt2
          go_wp2_with fail
          refine bodyPost_ret (results_tmp2 rfl _ _ _) rfl ?_
          exact HPP.out
end Go.Proofs.Ytpekajnjjhibjaa
