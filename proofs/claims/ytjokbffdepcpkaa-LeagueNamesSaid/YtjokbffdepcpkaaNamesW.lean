/-
  The walk of LeagueNames.
-/
import Derived.Test.YtjokbffdepcpkaaNamesM
namespace Go.Proofs.Ytjokbffdepcpkaa
open Go.RowKit
set_option linter.unusedSimpArgs false
set_option linter.unusedVariables false

attribute [local go_sem] Oper.semAt_some
set_option maxRecDepth 100000 in
set_option maxHeartbeats 16000000 in
theorem names14_c (w : World) : Calls Try.prog 14 #[] w (Ans w (.bool true)) := by
  have HPL := Lib.hid played49_c
  have HPX := Lib.hid played49_x
  have HR1 : Hid (∀ (W : World) (q : Nat) (Au : Option Addr), Gms W.heap.size W (some ⟨q, 0, none⟩) playedG → Byts W.heap.size W Au [1] → Calls Try.prog 19 #[.agg #[.int .i64 4, .slice (some ⟨q, 0, none⟩) 5 5], .slice Au 1 1] W (ListE W [1, 1, 1, 4] 0)) := fun W q Au h hu => by
    have := rank19_c playedL (some ⟨q, 0, none⟩) Au 5 1 [1] W h ⟨by decide, by decide⟩ hu ⟨by decide, by decide⟩ (by decide)
    rw [nm_r1.1, nm_r1.2] at this
    exact this
  have HR2 : Hid (∀ (W : World) (q : Nat) (Au : Option Addr), Gms W.heap.size W (some ⟨q, 0, none⟩) playedG → Byts W.heap.size W Au [1, 3, 3] → Calls Try.prog 19 #[.agg #[.int .i64 4, .slice (some ⟨q, 0, none⟩) 5 5], .slice Au 3 3] W (ListE W [1, 2, 3, 4] 0)) := fun W q Au h hu => by
    have := rank19_c playedL (some ⟨q, 0, none⟩) Au 5 3 [1, 3, 3] W h ⟨by decide, by decide⟩ hu ⟨by decide, by decide⟩ (by decide)
    rw [nm_r2.1, nm_r2.2] at this
    exact this
  have HR3 : Hid (∀ (W : World) (q : Nat) (Au : Option Addr), Gms W.heap.size W (some ⟨q, 0, none⟩) playedG → Byts W.heap.size W Au [1, 4] → Calls Try.prog 19 #[.agg #[.int .i64 4, .slice (some ⟨q, 0, none⟩) 5 5], .slice Au 2 2] W (ListE W [3, 1, 2, 4] 0)) := fun W q Au h hu => by
    have := rank19_c playedL (some ⟨q, 0, none⟩) Au 5 2 [1, 4] W h ⟨by decide, by decide⟩ hu ⟨by decide, by decide⟩ (by decide)
    rw [nm_r3.1, nm_r3.2] at this
    exact this
  have HR4 : Hid (∀ (W : World) (q : Nat) (Au : Option Addr), Gms W.heap.size W (some ⟨q, 0, none⟩) playedG → Byts W.heap.size W Au [0, 0, 0, 0, 0, 0, 0] → Calls Try.prog 19 #[.agg #[.int .i64 4, .slice (some ⟨q, 0, none⟩) 5 5], .slice Au 7 7] W (ListE W [] 3)) := fun W q Au h hu => by
    have := rank19_c playedL (some ⟨q, 0, none⟩) Au 5 7 [0, 0, 0, 0, 0, 0, 0] W h ⟨by decide, by decide⟩ hu ⟨by decide, by decide⟩ (by decide)
    rw [nm_r4.1, nm_r4.2] at this
    exact this
  have HR5 : Hid (∀ (W : World) (q : Nat) (Au : Option Addr), Gms W.heap.size W (some ⟨q, 0, none⟩) playedG → Byts W.heap.size W Au [5] → Calls Try.prog 19 #[.agg #[.int .i64 4, .slice (some ⟨q, 0, none⟩) 5 5], .slice Au 1 1] W (ListE W [] 2)) := fun W q Au h hu => by
    have := rank19_c playedL (some ⟨q, 0, none⟩) Au 5 1 [5] W h ⟨by decide, by decide⟩ hu ⟨by decide, by decide⟩ (by decide)
    rw [nm_r5.1, nm_r5.2] at this
    exact this
  have HA1 : Hid (∀ (W : World) (q : Nat) (Au : Option Addr), Gms W.heap.size W (some ⟨q, 0, none⟩) playedG → Byts W.heap.size W Au [1] → Calls Try.prog 25 #[.agg #[.int .i64 4, .slice (some ⟨q, 0, none⟩) 5 5], .slice Au 1 1] W (ListE W [] 2)) := fun W q Au h hu => by
    have := after25_c playedL (some ⟨q, 0, none⟩) Au 5 1 [1] W h ⟨by decide, by decide⟩ hu ⟨by decide, by decide⟩ (by decide)
    rw [nm_a1.1, nm_a1.2] at this
    exact this
  have HA2 : Hid (∀ (W : World) (q : Nat) (Au : Option Addr), Gms W.heap.size W (some ⟨q, 0, none⟩) playedG → Byts W.heap.size W Au [1, 4] → Calls Try.prog 25 #[.agg #[.int .i64 4, .slice (some ⟨q, 0, none⟩) 5 5], .slice Au 2 2] W (ListE W [] 2)) := fun W q Au h hu => by
    have := after25_c playedL (some ⟨q, 0, none⟩) Au 5 2 [1, 4] W h ⟨by decide, by decide⟩ hu ⟨by decide, by decide⟩ (by decide)
    rw [nm_a2.1, nm_a2.2] at this
    exact this
  have HC0 : Hid (∀ (W : World) (q : Nat), Gms W.heap.size W (some ⟨q, 0, none⟩) playedG → Calls Try.prog 43 #[.agg #[.int .i64 4, .slice (some ⟨q, 0, none⟩) 5 5], .int .i64 0] W (Ans W (.tuple #[.bool true, .int .i64 0]))) := fun W q h => by
    have := can43_c playedL 0 (some ⟨q, 0, none⟩) 5 W h ⟨by decide, by decide⟩
    rw [nm_k0, nm_ask.1] at this
    exact this
  have HC2 : Hid (∀ (W : World) (q : Nat), Gms W.heap.size W (some ⟨q, 0, none⟩) playedG → Calls Try.prog 43 #[.agg #[.int .i64 4, .slice (some ⟨q, 0, none⟩) 5 5], .int .i64 2] W (Ans W (.tuple #[.bool false, .int .i64 0]))) := fun W q h => by
    have := can43_c playedL 2 (some ⟨q, 0, none⟩) 5 W h ⟨by decide, by decide⟩
    rw [nm_k2, nm_ask.2.1] at this
    exact this
  have HC3 : Hid (∀ (W : World) (q : Nat), Gms W.heap.size W (some ⟨q, 0, none⟩) playedG → Calls Try.prog 43 #[.agg #[.int .i64 4, .slice (some ⟨q, 0, none⟩) 5 5], .int .i64 3] W (Ans W (.tuple #[.bool true, .int .i64 0]))) := fun W q h => by
    have := can43_c playedL 3 (some ⟨q, 0, none⟩) 5 W h ⟨by decide, by decide⟩
    rw [nm_k3, nm_ask.2.2] at this
    exact this
  have HS0 : Hid (∀ (W : World) (q : Nat), Gms W.heap.size W (some ⟨q, 0, none⟩) playedG → Calls Try.prog 37 #[.agg #[.int .i64 4, .slice (some ⟨q, 0, none⟩) 5 5], .int .i64 0] W (ListE W [] 7)) := fun W q h => by
    have := reason37_c playedL 0 (some ⟨q, 0, none⟩) 5 W h ⟨by decide, by decide⟩
    rw [nm_s1.1, nm_s1.2] at this
    exact this
  have HS4 : Hid (∀ (W : World) (q : Nat), Gms W.heap.size W (some ⟨q, 0, none⟩) playedG → Calls Try.prog 37 #[.agg #[.int .i64 4, .slice (some ⟨q, 0, none⟩) 5 5], .int .i64 4] W (ListE W [] 2)) := fun W q h => by
    have := reason37_c playedL 4 (some ⟨q, 0, none⟩) 5 W h ⟨by decide, by decide⟩
    rw [nm_s2.1, nm_s2.2] at this
    exact this
  have HO1 : Hid (∀ (W : World) (q : Nat) (Au : Option Addr), Gms W.heap.size W (some ⟨q, 0, none⟩) playedG → Ints W.heap.size W Au [0, 1, 3] → Calls Try.prog 38 #[.agg #[.int .i64 4, .slice (some ⟨q, 0, none⟩) 5 5], .int .i64 2, .slice Au 3 3] W (Ans W (.bool true))) := fun W q Au h hu => by
    have := rulesOut38_c playedL 2 (some ⟨q, 0, none⟩) Au 5 3 [0, 1, 3] W h ⟨by decide, by decide⟩ hu ⟨by decide, by decide⟩ (by decide)
    rw [nm_o1] at this
    exact this
  have HO2 : Hid (∀ (W : World) (q : Nat) (Au : Option Addr), Gms W.heap.size W (some ⟨q, 0, none⟩) playedG → Ints W.heap.size W Au [0, 3] → Calls Try.prog 38 #[.agg #[.int .i64 4, .slice (some ⟨q, 0, none⟩) 5 5], .int .i64 2, .slice Au 2 2] W (Ans W (.bool false))) := fun W q Au h hu => by
    have := rulesOut38_c playedL 2 (some ⟨q, 0, none⟩) Au 5 2 [0, 3] W h ⟨by decide, by decide⟩ hu ⟨by decide, by decide⟩ (by decide)
    rw [nm_o2] at this
    exact this
  have HO3 : Hid (∀ (W : World) (q : Nat) (Au : Option Addr), Gms W.heap.size W (some ⟨q, 0, none⟩) playedG → Ints W.heap.size W Au [0, 1, 2, 3] → Calls Try.prog 38 #[.agg #[.int .i64 4, .slice (some ⟨q, 0, none⟩) 5 5], .int .i64 2, .slice Au 4 4] W (Ans W (.bool false))) := fun W q Au h hu => by
    have := rulesOut38_c playedL 2 (some ⟨q, 0, none⟩) Au 5 4 [0, 1, 2, 3] W h ⟨by decide, by decide⟩ hu ⟨by decide, by decide⟩ (by decide)
    rw [nm_o3] at this
    exact this
  have HBU := Lib.hid (fun W => build29_c 6 W (by decide))
  have HBB := Lib.hid (fun W => build29_bad 7 W (by decide))
  have hb6 : (buildS 6).length = 5 := by decide +kernel
  have HB6 := Lib.hid hb6
  have HU6 : Hid (∀ (W : World) (A : Option Addr) (c : Nat), Grm W.heap.size W A (buildS 6) → ((buildS 6).length ≤ c ∧ c ≤ 9223372036854775807) → Calls Try.prog 30 #[.int .i64 6, .slice A (buildS 6).length c] W (Ans W (.tuple #[.int .i64 1, .int .i64 0]))) := fun W A c h hc => by
    have := uneven30_c 6 (by decide) (buildS 6) A c W h hc (smallB 6 (by decide)) (fun e => absurd e nm_b6)
    rw [nm_u6.1, nm_u6.2] at this
    exact this
  have HU5 : Hid (∀ (W : World) (A : Option Addr) (c : Nat), Grm W.heap.size W A (buildS 6) → ((buildS 6).length ≤ c ∧ c ≤ 9223372036854775807) → Calls Try.prog 30 #[.int .i64 5, .slice A (buildS 6).length c] W (Ans W (.tuple #[.int .i64 (unS 5 (buildS 6)), .int .i64 10]))) := fun W A c h hc => by
    have := uneven30_c 5 (by decide) (buildS 6) A c W h hc (smallB 6 (by decide)) (fun _ => nm_b5)
    rw [nm_u5] at this
    exact this
  have HSH : Hid (∀ (W : World) (q : Nat), Gms W.heap.size W (some ⟨q, 0, none⟩) playedG → Calls Try.prog 47 #[.agg #[.int .i64 4, .slice (some ⟨q, 0, none⟩) 5 5], .int .i64 2] W (Ans W (.tuple #[.slice none 0 0, .int .i64 9]))) := fun W q h => by
    refine (shows47_c playedL 2 (some ⟨q, 0, none⟩) 5 W h ⟨by decide, by decide⟩ nm_ask.2.1).mono ?_
    rintro e w' ⟨hb, ⟨rfl, -⟩ | ⟨s, A, c, -, h1, h2, -⟩⟩
    · exact ⟨rfl, hb⟩
    · have := can_true nm_v h1 h2
      rw [nm_c2] at this
      cases this
  have HIN := Lib.hid (fun (rs : List Int) (W : World) (A1 A2 : Option Addr) (c1 c2 : Nat) (h1 : Ints W.heap.size W A1 rs) (h2 : Ints W.heap.size W A2 rs) h3 h4 => by
    have h := ints23_c A1 A2 rs rs c1 c2 W h1 h2 h3 h4
    rw [show eqB rs rs = true by unfold eqB; exact decide_eq_true rfl] at h
    exact h)
  have HB := Lib.hid (Below.refl w.heap.size w)
  clear hb6
  go_enter Try.func14, Try.ntmps14
  go_wp2_with fail
  refine (HPL.out _).mono ?_
  rintro e x1 ⟨q1, rfl, hg1, hb⟩
  replace HB := Lib.hid (HB.out.trans (hb.mono HB.out.size))
  clear hb
  have Hhg1 := Lib.hid hg1
  clear hg1
  have hb : Below x1.heap.size x1 (x1.alloc (.cells #[.int .u8 1] 5)) := (Below.refl _ _).alloc (Nat.le_refl _) _
  replace Hhg1 := Lib.hid (Hhg1.out.step hb)
  replace HB := Lib.hid (HB.out.trans (hb.mono HB.out.size))
  clear hb
  have HL2 := Lib.hid ((byts_lit x1 [1] (by decide)).more (show x1.heap.size + 1 ≤ (x1.alloc (.cells #[.int .u8 1] 5)).heap.size by simp))
  go_wp2_with fail
  refine (HR1.out _ q1 _ Hhg1.out HL2.out).mono ?_
  rintro e x2 ⟨rA1, rc1, rfl, ⟨hr1, hr1a, hr1b⟩, hb⟩
  replace Hhg1 := Lib.hid (Hhg1.out.step hb)
  replace HL2 := Lib.hid (HL2.out.step hb)
  replace HB := Lib.hid (HB.out.trans (hb.mono HB.out.size))
  clear hb
  have Hhr1 := Lib.hid hr1
  clear hr1
  clear Hhg1 HL2
  go_wp2_with fail
  refine (HPL.out _).mono ?_
  rintro e x3 ⟨q3, rfl, hg3, hb⟩
  replace Hhr1 := Lib.hid (Hhr1.out.step hb)
  replace HB := Lib.hid (HB.out.trans (hb.mono HB.out.size))
  clear hb
  have Hhg3 := Lib.hid hg3
  clear hg3
  have hb : Below x3.heap.size x3 (x3.alloc (.cells #[.int .u8 1, .int .u8 3, .int .u8 3] 5)) := (Below.refl _ _).alloc (Nat.le_refl _) _
  replace Hhr1 := Lib.hid (Hhr1.out.step hb)
  replace Hhg3 := Lib.hid (Hhg3.out.step hb)
  replace HB := Lib.hid (HB.out.trans (hb.mono HB.out.size))
  clear hb
  have HL4 := Lib.hid ((byts_lit x3 [1, 3, 3] (by decide)).more (show x3.heap.size + 1 ≤ (x3.alloc (.cells #[.int .u8 1, .int .u8 3, .int .u8 3] 5)).heap.size by simp))
  go_wp2_with fail
  refine (HR2.out _ q3 _ Hhg3.out HL4.out).mono ?_
  rintro e x4 ⟨rA2, rc2, rfl, ⟨hr2, hr2a, hr2b⟩, hb⟩
  replace Hhr1 := Lib.hid (Hhr1.out.step hb)
  replace Hhg3 := Lib.hid (Hhg3.out.step hb)
  replace HL4 := Lib.hid (HL4.out.step hb)
  replace HB := Lib.hid (HB.out.trans (hb.mono HB.out.size))
  clear hb
  have Hhr2 := Lib.hid hr2
  clear hr2
  clear Hhg3 HL4
  go_wp2_with fail
  refine (HPL.out _).mono ?_
  rintro e x5 ⟨q5, rfl, hg5, hb⟩
  replace Hhr1 := Lib.hid (Hhr1.out.step hb)
  replace Hhr2 := Lib.hid (Hhr2.out.step hb)
  replace HB := Lib.hid (HB.out.trans (hb.mono HB.out.size))
  clear hb
  have Hhg5 := Lib.hid hg5
  clear hg5
  have hb : Below x5.heap.size x5 (x5.alloc (.cells #[.int .u8 1, .int .u8 4] 5)) := (Below.refl _ _).alloc (Nat.le_refl _) _
  replace Hhr1 := Lib.hid (Hhr1.out.step hb)
  replace Hhr2 := Lib.hid (Hhr2.out.step hb)
  replace Hhg5 := Lib.hid (Hhg5.out.step hb)
  replace HB := Lib.hid (HB.out.trans (hb.mono HB.out.size))
  clear hb
  have HL6 := Lib.hid ((byts_lit x5 [1, 4] (by decide)).more (show x5.heap.size + 1 ≤ (x5.alloc (.cells #[.int .u8 1, .int .u8 4] 5)).heap.size by simp))
  go_wp2_with fail
  refine (HR3.out _ q5 _ Hhg5.out HL6.out).mono ?_
  rintro e x6 ⟨rA3, rc3, rfl, ⟨hr3, hr3a, hr3b⟩, hb⟩
  replace Hhr1 := Lib.hid (Hhr1.out.step hb)
  replace Hhr2 := Lib.hid (Hhr2.out.step hb)
  replace Hhg5 := Lib.hid (Hhg5.out.step hb)
  replace HL6 := Lib.hid (HL6.out.step hb)
  replace HB := Lib.hid (HB.out.trans (hb.mono HB.out.size))
  clear hb
  have Hhr3 := Lib.hid hr3
  clear hr3
  clear Hhg5 HL6
  go_wp2_with fail
  refine (HPL.out _).mono ?_
  rintro e x7 ⟨q7, rfl, hg7, hb⟩
  replace Hhr1 := Lib.hid (Hhr1.out.step hb)
  replace Hhr2 := Lib.hid (Hhr2.out.step hb)
  replace Hhr3 := Lib.hid (Hhr3.out.step hb)
  replace HB := Lib.hid (HB.out.trans (hb.mono HB.out.size))
  clear hb
  have Hhg7 := Lib.hid hg7
  clear hg7
  go_wp2_with fail
  refine (HC0.out _ q7 Hhg7.out).mono ?_
  rintro e x8 ⟨rfl, hb⟩
  replace Hhr1 := Lib.hid (Hhr1.out.step hb)
  replace Hhr2 := Lib.hid (Hhr2.out.step hb)
  replace Hhr3 := Lib.hid (Hhr3.out.step hb)
  replace Hhg7 := Lib.hid (Hhg7.out.step hb)
  replace HB := Lib.hid (HB.out.trans (hb.mono HB.out.size))
  clear hb
  clear Hhg7
  go_wp2_with fail
  refine (HPL.out _).mono ?_
  rintro e x9 ⟨q8, rfl, hg8, hb⟩
  replace Hhr1 := Lib.hid (Hhr1.out.step hb)
  replace Hhr2 := Lib.hid (Hhr2.out.step hb)
  replace Hhr3 := Lib.hid (Hhr3.out.step hb)
  replace HB := Lib.hid (HB.out.trans (hb.mono HB.out.size))
  clear hb
  have Hhg8 := Lib.hid hg8
  clear hg8
  go_wp2_with fail
  refine (HC2.out _ q8 Hhg8.out).mono ?_
  rintro e x10 ⟨rfl, hb⟩
  replace Hhr1 := Lib.hid (Hhr1.out.step hb)
  replace Hhr2 := Lib.hid (Hhr2.out.step hb)
  replace Hhr3 := Lib.hid (Hhr3.out.step hb)
  replace Hhg8 := Lib.hid (Hhg8.out.step hb)
  replace HB := Lib.hid (HB.out.trans (hb.mono HB.out.size))
  clear hb
  clear Hhg8
  go_wp2_with fail
  refine (HPL.out _).mono ?_
  rintro e x11 ⟨q9, rfl, hg9, hb⟩
  replace Hhr1 := Lib.hid (Hhr1.out.step hb)
  replace Hhr2 := Lib.hid (Hhr2.out.step hb)
  replace Hhr3 := Lib.hid (Hhr3.out.step hb)
  replace HB := Lib.hid (HB.out.trans (hb.mono HB.out.size))
  clear hb
  have Hhg9 := Lib.hid hg9
  clear hg9
  go_wp2_with fail
  refine (HC3.out _ q9 Hhg9.out).mono ?_
  rintro e x12 ⟨rfl, hb⟩
  replace Hhr1 := Lib.hid (Hhr1.out.step hb)
  replace Hhr2 := Lib.hid (Hhr2.out.step hb)
  replace Hhr3 := Lib.hid (Hhr3.out.step hb)
  replace Hhg9 := Lib.hid (Hhg9.out.step hb)
  replace HB := Lib.hid (HB.out.trans (hb.mono HB.out.size))
  clear hb
  clear Hhg9
  go_wp2_with fail
  refine (HBU.out _).mono ?_
  rintro e x13 ⟨bA, bc, rfl, ⟨hgr, hbc1, hbc2⟩, hb⟩
  replace Hhr1 := Lib.hid (Hhr1.out.step hb)
  replace Hhr2 := Lib.hid (Hhr2.out.step hb)
  replace Hhr3 := Lib.hid (Hhr3.out.step hb)
  replace HB := Lib.hid (HB.out.trans (hb.mono HB.out.size))
  clear hb
  have Hhgr := Lib.hid hgr
  clear hgr
  go_wp2_with fail
  refine (HU6.out _ bA bc Hhgr.out ⟨hbc1, hbc2⟩).mono ?_
  rintro e x14 ⟨rfl, hb⟩
  replace Hhr1 := Lib.hid (Hhr1.out.step hb)
  replace Hhr2 := Lib.hid (Hhr2.out.step hb)
  replace Hhr3 := Lib.hid (Hhr3.out.step hb)
  replace Hhgr := Lib.hid (Hhgr.out.step hb)
  replace HB := Lib.hid (HB.out.trans (hb.mono HB.out.size))
  clear hb
  have hb : Below x14.heap.size x14 (x14.alloc (.cells #[.int .i64 1, .int .i64 1, .int .i64 1, .int .i64 4] 3)) := (Below.refl _ _).alloc (Nat.le_refl _) _
  replace Hhr1 := Lib.hid (Hhr1.out.step hb)
  replace Hhr2 := Lib.hid (Hhr2.out.step hb)
  replace Hhr3 := Lib.hid (Hhr3.out.step hb)
  replace Hhgr := Lib.hid (Hhgr.out.step hb)
  replace HB := Lib.hid (HB.out.trans (hb.mono HB.out.size))
  clear hb
  have HL10 := Lib.hid ((ints_lit x14 [1, 1, 1, 4]).more (show x14.heap.size + 1 ≤ (x14.alloc (.cells #[.int .i64 1, .int .i64 1, .int .i64 1, .int .i64 4] 3)).heap.size by simp))
  go_wp2_with fail
  refine ((HIN.out [1, 1, 1, 4] _ rA1 (some ⟨x14.heap.size, 0, none⟩) rc1 4 Hhr1.out HL10.out ⟨hr1a, hr1b⟩ ⟨by decide, by decide⟩).mono (fun _ _ h => h.ans)).mono ?_
  rintro e x15 ⟨rfl, hb⟩
  replace Hhr1 := Lib.hid (Hhr1.out.step hb)
  replace Hhr2 := Lib.hid (Hhr2.out.step hb)
  replace Hhr3 := Lib.hid (Hhr3.out.step hb)
  replace Hhgr := Lib.hid (Hhgr.out.step hb)
  replace HL10 := Lib.hid (HL10.out.step hb)
  replace HB := Lib.hid (HB.out.trans (hb.mono HB.out.size))
  clear hb
  clear HL10 Hhr1
  have hb : Below x15.heap.size x15 (x15.alloc (.cells #[.int .i64 1, .int .i64 2, .int .i64 3, .int .i64 4] 3)) := (Below.refl _ _).alloc (Nat.le_refl _) _
  replace Hhr2 := Lib.hid (Hhr2.out.step hb)
  replace Hhr3 := Lib.hid (Hhr3.out.step hb)
  replace Hhgr := Lib.hid (Hhgr.out.step hb)
  replace HB := Lib.hid (HB.out.trans (hb.mono HB.out.size))
  clear hb
  have HL11 := Lib.hid ((ints_lit x15 [1, 2, 3, 4]).more (show x15.heap.size + 1 ≤ (x15.alloc (.cells #[.int .i64 1, .int .i64 2, .int .i64 3, .int .i64 4] 3)).heap.size by simp))
  go_wp2_with fail
  refine ((HIN.out [1, 2, 3, 4] _ rA2 (some ⟨x15.heap.size, 0, none⟩) rc2 4 Hhr2.out HL11.out ⟨hr2a, hr2b⟩ ⟨by decide, by decide⟩).mono (fun _ _ h => h.ans)).mono ?_
  rintro e x16 ⟨rfl, hb⟩
  replace Hhr2 := Lib.hid (Hhr2.out.step hb)
  replace Hhr3 := Lib.hid (Hhr3.out.step hb)
  replace Hhgr := Lib.hid (Hhgr.out.step hb)
  replace HL11 := Lib.hid (HL11.out.step hb)
  replace HB := Lib.hid (HB.out.trans (hb.mono HB.out.size))
  clear hb
  clear HL11 Hhr2
  have hb : Below x16.heap.size x16 (x16.alloc (.cells #[.int .i64 3, .int .i64 1, .int .i64 2, .int .i64 4] 3)) := (Below.refl _ _).alloc (Nat.le_refl _) _
  replace Hhr3 := Lib.hid (Hhr3.out.step hb)
  replace Hhgr := Lib.hid (Hhgr.out.step hb)
  replace HB := Lib.hid (HB.out.trans (hb.mono HB.out.size))
  clear hb
  have HL12 := Lib.hid ((ints_lit x16 [3, 1, 2, 4]).more (show x16.heap.size + 1 ≤ (x16.alloc (.cells #[.int .i64 3, .int .i64 1, .int .i64 2, .int .i64 4] 3)).heap.size by simp))
  go_wp2_with fail
  refine ((HIN.out [3, 1, 2, 4] _ rA3 (some ⟨x16.heap.size, 0, none⟩) rc3 4 Hhr3.out HL12.out ⟨hr3a, hr3b⟩ ⟨by decide, by decide⟩).mono (fun _ _ h => h.ans)).mono ?_
  rintro e x17 ⟨rfl, hb⟩
  replace Hhr3 := Lib.hid (Hhr3.out.step hb)
  replace Hhgr := Lib.hid (Hhgr.out.step hb)
  replace HL12 := Lib.hid (HL12.out.step hb)
  replace HB := Lib.hid (HB.out.trans (hb.mono HB.out.size))
  clear hb
  clear HL12 Hhr3
  go_wp2_with fail
  refine (HPL.out _).mono ?_
  rintro e x18 ⟨q13, rfl, hg13, hb⟩
  replace Hhgr := Lib.hid (Hhgr.out.step hb)
  replace HB := Lib.hid (HB.out.trans (hb.mono HB.out.size))
  clear hb
  have Hhg13 := Lib.hid hg13
  clear hg13
  have hb : Below x18.heap.size x18 (x18.alloc (.cells #[.int .i64 0, .int .i64 1, .int .i64 3] 3)) := (Below.refl _ _).alloc (Nat.le_refl _) _
  replace Hhgr := Lib.hid (Hhgr.out.step hb)
  replace Hhg13 := Lib.hid (Hhg13.out.step hb)
  replace HB := Lib.hid (HB.out.trans (hb.mono HB.out.size))
  clear hb
  have HL14 := Lib.hid ((ints_lit x18 [0, 1, 3]).more (show x18.heap.size + 1 ≤ (x18.alloc (.cells #[.int .i64 0, .int .i64 1, .int .i64 3] 3)).heap.size by simp))
  go_wp2_with fail
  refine (HO1.out _ q13 _ Hhg13.out HL14.out).mono ?_
  rintro e x19 ⟨rfl, hb⟩
  replace Hhgr := Lib.hid (Hhgr.out.step hb)
  replace Hhg13 := Lib.hid (Hhg13.out.step hb)
  replace HL14 := Lib.hid (HL14.out.step hb)
  replace HB := Lib.hid (HB.out.trans (hb.mono HB.out.size))
  clear hb
  clear Hhg13 HL14
  go_wp2_with fail
  refine (HPL.out _).mono ?_
  rintro e x20 ⟨q15, rfl, hg15, hb⟩
  replace Hhgr := Lib.hid (Hhgr.out.step hb)
  replace HB := Lib.hid (HB.out.trans (hb.mono HB.out.size))
  clear hb
  have Hhg15 := Lib.hid hg15
  clear hg15
  have hb : Below x20.heap.size x20 (x20.alloc (.cells #[.int .i64 0, .int .i64 3] 3)) := (Below.refl _ _).alloc (Nat.le_refl _) _
  replace Hhgr := Lib.hid (Hhgr.out.step hb)
  replace Hhg15 := Lib.hid (Hhg15.out.step hb)
  replace HB := Lib.hid (HB.out.trans (hb.mono HB.out.size))
  clear hb
  have HL16 := Lib.hid ((ints_lit x20 [0, 3]).more (show x20.heap.size + 1 ≤ (x20.alloc (.cells #[.int .i64 0, .int .i64 3] 3)).heap.size by simp))
  go_wp2_with fail
  refine (HO2.out _ q15 _ Hhg15.out HL16.out).mono ?_
  rintro e x21 ⟨rfl, hb⟩
  replace Hhgr := Lib.hid (Hhgr.out.step hb)
  replace Hhg15 := Lib.hid (Hhg15.out.step hb)
  replace HL16 := Lib.hid (HL16.out.step hb)
  replace HB := Lib.hid (HB.out.trans (hb.mono HB.out.size))
  clear hb
  clear Hhg15 HL16
  go_wp2_with fail
  refine (HPL.out _).mono ?_
  rintro e x22 ⟨q17, rfl, hg17, hb⟩
  replace Hhgr := Lib.hid (Hhgr.out.step hb)
  replace HB := Lib.hid (HB.out.trans (hb.mono HB.out.size))
  clear hb
  have Hhg17 := Lib.hid hg17
  clear hg17
  have hb : Below x22.heap.size x22 (x22.alloc (.cells #[.int .i64 0, .int .i64 1, .int .i64 2, .int .i64 3] 3)) := (Below.refl _ _).alloc (Nat.le_refl _) _
  replace Hhgr := Lib.hid (Hhgr.out.step hb)
  replace Hhg17 := Lib.hid (Hhg17.out.step hb)
  replace HB := Lib.hid (HB.out.trans (hb.mono HB.out.size))
  clear hb
  have HL18 := Lib.hid ((ints_lit x22 [0, 1, 2, 3]).more (show x22.heap.size + 1 ≤ (x22.alloc (.cells #[.int .i64 0, .int .i64 1, .int .i64 2, .int .i64 3] 3)).heap.size by simp))
  go_wp2_with fail
  refine (HO3.out _ q17 _ Hhg17.out HL18.out).mono ?_
  rintro e x23 ⟨rfl, hb⟩
  replace Hhgr := Lib.hid (Hhgr.out.step hb)
  replace Hhg17 := Lib.hid (Hhg17.out.step hb)
  replace HL18 := Lib.hid (HL18.out.step hb)
  replace HB := Lib.hid (HB.out.trans (hb.mono HB.out.size))
  clear hb
  clear Hhg17 HL18
  go_wp2_with fail
  refine ((HBB.out _).mono (fun _ _ h => h.ans)).mono ?_
  rintro e x24 ⟨rfl, hb⟩
  replace Hhgr := Lib.hid (Hhgr.out.step hb)
  replace HB := Lib.hid (HB.out.trans (hb.mono HB.out.size))
  clear hb
  go_wp2_with fail
  refine (HU5.out _ bA bc Hhgr.out ⟨hbc1, hbc2⟩).mono ?_
  rintro e x25 ⟨rfl, hb⟩
  replace Hhgr := Lib.hid (Hhgr.out.step hb)
  replace HB := Lib.hid (HB.out.trans (hb.mono HB.out.size))
  clear hb
  clear Hhgr
  have hmk : ∀ W : World, (Instr.makeSlice 25 (.int .i64 7) (.int .i64 7)).run Try.prog W = .ok (.slice (some ⟨W.heap.size, 0, none⟩) 7 7) (W.alloc (.cells #[.int .u8 0, .int .u8 0, .int .u8 0, .int .u8 0, .int .u8 0, .int .u8 0, .int .u8 0] 5)) := fun W => by
    have h := run_make_row' 25 5 (.int .u8 0) 1 (by kernel_rfl) infoByt rfl .i64 .i64 7 (by omega) (by omega) W
    rw [show madeCells #[Value.int .u8 0] 7 = #[.int .u8 0, .int .u8 0, .int .u8 0, .int .u8 0, .int .u8 0, .int .u8 0, .int .u8 0] from by first | rfl | kernel_rfl | simp [madeCells]] at h
    exact h
  clear HR1 HR2 HR3 HC0 HC2 HC3 HO1 HO2 HO3 HBU HBB HU5 HU6 HIN hr1a hr1b hr2a hr2b hr3a hr3b hbc1 hbc2
  go_upto_region 13 with fail
  refine wp_region_noPanic ?_
  have hS : (fun W' : World => Below x25.heap.size x25 W') x25.drew := (Below.refl _ _).drew
  refine wp_region_any (by kernel_rfl) (wpAny_of_T (S := fun W' : World => Below x25.heap.size x25 W') (m := 7) _ _ _ _ ?_)
  refine T_ready (rs := [0, 1]) (by kernel_rfl) (by simp) ?_
  refine TReady.cons rfl (fun K hK => ?_) (TReady.cons rfl (fun K hK => ?_) TReady.nil)
  · try go_simp
    refine (HPL.out _).mono ?_
    rintro e v0 ⟨q0, rfl, hg0, hb⟩
    have hS2 : Below x25.heap.size x25 v0 := hS.trans (hb.mono hS.size)
    have HG0 := Lib.hid hg0
    clear hg0 hb
    try go_simp
    refine hK.out _ _ (fun _ => hS2) (fun _ => ?_)
    clear hK K hS
    have hS := hS2
    clear hS2
    try simp only [Act.put, List.setIfInBounds_toArray, List.set_cons_zero, List.set_cons_succ]
    refine T_ready (rs := [1]) (by kernel_rfl) (by simp) ?_
    refine TReady.cons rfl (fun K hK => ?_) TReady.nil
    try go_simp
    have hb : Below v0.heap.size v0 (v0.alloc (.cells #[.int .u8 0, .int .u8 0, .int .u8 0, .int .u8 0, .int .u8 0, .int .u8 0, .int .u8 0] 5)) := (Below.refl _ _).alloc (Nat.le_refl _) _
    replace HG0 := Lib.hid (HG0.out.step hb)
    have HLZ := Lib.hid ((byts_lit v0 [0, 0, 0, 0, 0, 0, 0] (by decide)).more (show v0.heap.size + 1 ≤ (v0.alloc (.cells #[.int .u8 0, .int .u8 0, .int .u8 0, .int .u8 0, .int .u8 0, .int .u8 0, .int .u8 0] 5)).heap.size by simp))
    have hS2 : Below x25.heap.size x25 (v0.alloc (.cells #[.int .u8 0, .int .u8 0, .int .u8 0, .int .u8 0, .int .u8 0, .int .u8 0, .int .u8 0] 5)) := hS.trans (hb.mono hS.size)
    clear hb
    refine hK.out _ _ (fun _ => hS2) (fun _ => ?_)
    clear hK K hS
    have hS := hS2
    clear hS2
    try simp only [Act.put, List.setIfInBounds_toArray, List.set_cons_zero, List.set_cons_succ]
    refine T_ready (rs := [2]) (by kernel_rfl) (by simp) ?_
    refine TReady.cons rfl (fun K hK => ?_) TReady.nil
    try go_simp
    refine (HR4.out _ q0 _ HG0.out HLZ.out).mono ?_
    rintro e v2 ⟨zA, zc, rfl, ⟨-, -, -⟩, hb⟩
    have hS2 : Below x25.heap.size x25 v2 := hS.trans (hb.mono hS.size)
    clear hb HG0 HLZ
    try go_simp
    refine hK.out _ _ (fun _ => hS2) (fun _ => ?_)
    clear hK K hS
    have hS := hS2
    clear hS2
    try simp only [Act.put, List.setIfInBounds_toArray, List.set_cons_zero, List.set_cons_succ]
    refine' T_take (i := 3) (v := _) rfl (by kernel_rfl) (by kernel_rfl) (by kernel_rfl) (by kernel_rfl) (fun _ _ _ h => h) (by kernel_rfl) hS ?_ ?_
    rotate_left 1
    · intro Wv hW
      go_simp
      first | done | with_reducible rfl | omega
    try simp only [Act.put, List.setIfInBounds_toArray, List.set_cons_zero, List.set_cons_succ]
    refine' T_take (i := 4) (v := _) rfl (by kernel_rfl) (by kernel_rfl) (by kernel_rfl) (by kernel_rfl) (fun _ _ _ h => h) (by kernel_rfl) hS ?_ ?_
    rotate_left 1
    · intro Wv hW
      go_simp
      first | done | with_reducible rfl | omega
    try simp only [Act.put, List.setIfInBounds_toArray, List.set_cons_zero, List.set_cons_succ]
    refine' T_take (i := 5) (v := _) rfl (by kernel_rfl) (by kernel_rfl) (by kernel_rfl) (by kernel_rfl) (fun _ _ _ h => h) (by kernel_rfl) hS ?_ ?_
    rotate_left 1
    · intro Wv hW
      go_simp
      first | done | with_reducible rfl | omega
    try simp only [Act.put, List.setIfInBounds_toArray, List.set_cons_zero, List.set_cons_succ]
    refine' T_take (i := 6) (v := _) rfl (by kernel_rfl) (by kernel_rfl) (by kernel_rfl) (by kernel_rfl) (fun _ _ _ h => h) (by kernel_rfl) hS ?_ ?_
    rotate_left 1
    · intro Wv hW
      go_simp
      first | done | with_reducible rfl | omega
    try simp only [Act.put, List.setIfInBounds_toArray, List.set_cons_zero, List.set_cons_succ]
    refine T_done (by kernel_rfl) ?_ _
    refine NoPanic.normal ?_
    try go_simp
    replace HB := Lib.hid (HB.out.trans (hS.mono HB.out.size))
    clear hS
    go_wp2_with fail
    refine (HPL.out _).mono ?_
    rintro e x1 ⟨q19, rfl, hg19, hb⟩
    replace HB := Lib.hid (HB.out.trans (hb.mono HB.out.size))
    clear hb
    have Hhg19 := Lib.hid hg19
    clear hg19
    have hb : Below x1.heap.size x1 (x1.alloc (.cells #[.int .u8 5] 5)) := (Below.refl _ _).alloc (Nat.le_refl _) _
    replace Hhg19 := Lib.hid (Hhg19.out.step hb)
    replace HB := Lib.hid (HB.out.trans (hb.mono HB.out.size))
    clear hb
    have HL20 := Lib.hid ((byts_lit x1 [5] (by decide)).more (show x1.heap.size + 1 ≤ (x1.alloc (.cells #[.int .u8 5] 5)).heap.size by simp))
    go_wp2_with fail
    refine (HR5.out _ q19 _ Hhg19.out HL20.out).mono ?_
    rintro e x2 ⟨sA, sc, rfl, ⟨-, -, -⟩, hb⟩
    replace Hhg19 := Lib.hid (Hhg19.out.step hb)
    replace HL20 := Lib.hid (HL20.out.step hb)
    replace HB := Lib.hid (HB.out.trans (hb.mono HB.out.size))
    clear hb
    clear Hhg19 HL20
    go_wp2_with fail
    refine (HPL.out _).mono ?_
    rintro e x3 ⟨q21, rfl, hg21, hb⟩
    replace HB := Lib.hid (HB.out.trans (hb.mono HB.out.size))
    clear hb
    have Hhg21 := Lib.hid hg21
    clear hg21
    have hb : Below x3.heap.size x3 (x3.alloc (.cells #[.int .u8 1] 5)) := (Below.refl _ _).alloc (Nat.le_refl _) _
    replace Hhg21 := Lib.hid (Hhg21.out.step hb)
    replace HB := Lib.hid (HB.out.trans (hb.mono HB.out.size))
    clear hb
    have HL22 := Lib.hid ((byts_lit x3 [1] (by decide)).more (show x3.heap.size + 1 ≤ (x3.alloc (.cells #[.int .u8 1] 5)).heap.size by simp))
    go_wp2_with fail
    refine (HA1.out _ q21 _ Hhg21.out HL22.out).mono ?_
    rintro e x4 ⟨sHA1A, sHA1c, rfl, ⟨-, -, -⟩, hb⟩
    replace Hhg21 := Lib.hid (Hhg21.out.step hb)
    replace HL22 := Lib.hid (HL22.out.step hb)
    replace HB := Lib.hid (HB.out.trans (hb.mono HB.out.size))
    clear hb
    clear Hhg21 HL22
    go_wp2_with fail
    refine (HPL.out _).mono ?_
    rintro e x5 ⟨q23, rfl, hg23, hb⟩
    replace HB := Lib.hid (HB.out.trans (hb.mono HB.out.size))
    clear hb
    have Hhg23 := Lib.hid hg23
    clear hg23
    have hb : Below x5.heap.size x5 (x5.alloc (.cells #[.int .u8 1, .int .u8 4] 5)) := (Below.refl _ _).alloc (Nat.le_refl _) _
    replace Hhg23 := Lib.hid (Hhg23.out.step hb)
    replace HB := Lib.hid (HB.out.trans (hb.mono HB.out.size))
    clear hb
    have HL24 := Lib.hid ((byts_lit x5 [1, 4] (by decide)).more (show x5.heap.size + 1 ≤ (x5.alloc (.cells #[.int .u8 1, .int .u8 4] 5)).heap.size by simp))
    go_wp2_with fail
    refine (HA2.out _ q23 _ Hhg23.out HL24.out).mono ?_
    rintro e x6 ⟨sHA2A, sHA2c, rfl, ⟨-, -, -⟩, hb⟩
    replace Hhg23 := Lib.hid (Hhg23.out.step hb)
    replace HL24 := Lib.hid (HL24.out.step hb)
    replace HB := Lib.hid (HB.out.trans (hb.mono HB.out.size))
    clear hb
    clear Hhg23 HL24
    go_wp2_with fail
    refine (HPL.out _).mono ?_
    rintro e x7 ⟨q25, rfl, hg25, hb⟩
    replace HB := Lib.hid (HB.out.trans (hb.mono HB.out.size))
    clear hb
    have Hhg25 := Lib.hid hg25
    clear hg25
    go_wp2_with fail
    refine (HSH.out _ q25 Hhg25.out).mono ?_
    rintro e x8 ⟨rfl, hb⟩
    replace Hhg25 := Lib.hid (Hhg25.out.step hb)
    replace HB := Lib.hid (HB.out.trans (hb.mono HB.out.size))
    clear hb
    clear Hhg25
    go_wp2_with fail
    refine (HPL.out _).mono ?_
    rintro e x9 ⟨q26, rfl, hg26, hb⟩
    replace HB := Lib.hid (HB.out.trans (hb.mono HB.out.size))
    clear hb
    have Hhg26 := Lib.hid hg26
    clear hg26
    go_wp2_with fail
    refine (HS0.out _ q26 Hhg26.out).mono ?_
    rintro e x10 ⟨u0A, u0c, rfl, ⟨-, -, -⟩, hb⟩
    replace Hhg26 := Lib.hid (Hhg26.out.step hb)
    replace HB := Lib.hid (HB.out.trans (hb.mono HB.out.size))
    clear hb
    clear Hhg26
    go_wp2_with fail
    refine (HPL.out _).mono ?_
    rintro e x11 ⟨q27, rfl, hg27, hb⟩
    replace HB := Lib.hid (HB.out.trans (hb.mono HB.out.size))
    clear hb
    have Hhg27 := Lib.hid hg27
    clear hg27
    go_wp2_with fail
    refine (HS4.out _ q27 Hhg27.out).mono ?_
    rintro e x12 ⟨u4A, u4c, rfl, ⟨-, -, -⟩, hb⟩
    replace Hhg27 := Lib.hid (Hhg27.out.step hb)
    replace HB := Lib.hid (HB.out.trans (hb.mono HB.out.size))
    clear hb
    clear Hhg27
    have hw1 := HB.out.size
    go_wp2_with fail
    refine (HPX.out _).mono ?_
    rintro e x13 ⟨p1, rfl, hp1, hq1, hb⟩
    replace HB := Lib.hid (HB.out.trans (hb.mono HB.out.size))
    clear hb
    have Hhp1 := Lib.hid hp1
    clear hp1
    have HWP1 : Hid (w.heap.size ≤ p1) := Nat.le_trans hw1 hq1
    clear hw1
    have hl1 := Hhp1.out.lt
    have hw2 := HB.out.size
    go_wp2_with fail
    refine (HPX.out _).mono ?_
    rintro e x14 ⟨p2, rfl, hp2, hq2, hb⟩
    replace Hhp1 := Lib.hid (Hhp1.out.step hb)
    replace HB := Lib.hid (HB.out.trans (hb.mono HB.out.size))
    clear hb
    have Hhp2 := Lib.hid hp2
    clear hp2
    have HWP2 : Hid (w.heap.size ≤ p2) := Nat.le_trans hw2 hq2
    clear hw2
    have hl2 := Hhp2.out.lt
    have hs2 : x13.heap.size ≤ x14.heap.size := Nat.le_of_lt (Nat.lt_of_le_of_lt hq2 hl2)
    have hw3 := HB.out.size
    go_wp2_with fail
    refine (HPX.out _).mono ?_
    rintro e x15 ⟨p3, rfl, hp3, hq3, hb⟩
    replace Hhp1 := Lib.hid (Hhp1.out.step hb)
    replace Hhp2 := Lib.hid (Hhp2.out.step hb)
    replace HB := Lib.hid (HB.out.trans (hb.mono HB.out.size))
    clear hb
    have Hhp3 := Lib.hid hp3
    clear hp3
    have HWP3 : Hid (w.heap.size ≤ p3) := Nat.le_trans hw3 hq3
    clear hw3
    have hl3 := Hhp3.out.lt
    have hs3 : x14.heap.size ≤ x15.heap.size := Nat.le_of_lt (Nat.lt_of_le_of_lt hq3 hl3)
    clear HPL HR4 HR5 HA1 HA2 HSH HS0 HS4 HB6 hmk
    go_upto_region 21 with fail
    have hd12 : p1 ≠ p2 := by omega
    have hd13 : p1 ≠ p3 := by omega
    have hd23 : p2 ≠ p3 := by omega
    have hb : Below x15.heap.size x15 (((x15.alloc (.cells #[.int .i64 4, .slice (some ⟨p1, 0, none⟩) 5 5] 32)).alloc (.cells #[.int .i64 4, .slice (some ⟨p2, 0, none⟩) 5 5] 32)).alloc (.cells #[.int .i64 4, .slice (some ⟨p3, 0, none⟩) 5 5] 32)) := (((Below.refl _ _).alloc (Nat.le_refl _) _).alloc (by simp) _).alloc (by simp; omega) _
    have HQ1 : Hid (At2 (((x15.alloc (.cells #[.int .i64 4, .slice (some ⟨p1, 0, none⟩) 5 5] 32)).alloc (.cells #[.int .i64 4, .slice (some ⟨p2, 0, none⟩) 5 5] 32)).alloc (.cells #[.int .i64 4, .slice (some ⟨p3, 0, none⟩) 5 5] 32)) x15.heap.size 32 (.int .i64 4) (.slice (some ⟨p1, 0, none⟩) 5 5)) := (show At2 (x15.alloc (.cells #[.int .i64 4, .slice (some ⟨p1, 0, none⟩) 5 5] 32)) _ _ _ _ from World.alloc_heap_new _ _).step (((Below.refl _ _).alloc (Nat.le_refl _) _).alloc (by simp) _)
    have HQ2 : Hid (At2 (((x15.alloc (.cells #[.int .i64 4, .slice (some ⟨p1, 0, none⟩) 5 5] 32)).alloc (.cells #[.int .i64 4, .slice (some ⟨p2, 0, none⟩) 5 5] 32)).alloc (.cells #[.int .i64 4, .slice (some ⟨p3, 0, none⟩) 5 5] 32)) (x15.heap.size + 1) 32 (.int .i64 4) (.slice (some ⟨p2, 0, none⟩) 5 5)) := by
      have h := World.alloc_heap_new (x15.alloc (.cells #[.int .i64 4, .slice (some ⟨p1, 0, none⟩) 5 5] 32)) (.cells #[.int .i64 4, .slice (some ⟨p2, 0, none⟩) 5 5] 32)
      rw [World.size_alloc] at h
      exact (show At2 ((x15.alloc (.cells #[.int .i64 4, .slice (some ⟨p1, 0, none⟩) 5 5] 32)).alloc (.cells #[.int .i64 4, .slice (some ⟨p2, 0, none⟩) 5 5] 32)) _ _ _ _ from h).step ((Below.refl _ _).alloc (Nat.le_refl _) _)
    have HQ3 : Hid (At2 (((x15.alloc (.cells #[.int .i64 4, .slice (some ⟨p1, 0, none⟩) 5 5] 32)).alloc (.cells #[.int .i64 4, .slice (some ⟨p2, 0, none⟩) 5 5] 32)).alloc (.cells #[.int .i64 4, .slice (some ⟨p3, 0, none⟩) 5 5] 32)) (x15.heap.size + 1 + 1) 32 (.int .i64 4) (.slice (some ⟨p3, 0, none⟩) 5 5)) := by
      have h := World.alloc_heap_new ((x15.alloc (.cells #[.int .i64 4, .slice (some ⟨p1, 0, none⟩) 5 5] 32)).alloc (.cells #[.int .i64 4, .slice (some ⟨p2, 0, none⟩) 5 5] 32)) (.cells #[.int .i64 4, .slice (some ⟨p3, 0, none⟩) 5 5] 32)
      rw [World.size_alloc, World.size_alloc] at h
      exact h
    replace Hhp1 := Lib.hid (Hhp1.out.step hb)
    replace Hhp2 := Lib.hid (Hhp2.out.step hb)
    replace Hhp3 := Lib.hid (Hhp3.out.step hb)
    replace HB := Lib.hid (HB.out.trans (hb.mono HB.out.size))
    clear hb
    have hl1q : p1 < x15.heap.size := by omega
    have hl2q : p2 < x15.heap.size := by omega
    have hl3q : p3 < x15.heap.size := by omega
    have hzq : (((x15.alloc (.cells #[.int .i64 4, .slice (some ⟨p1, 0, none⟩) 5 5] 32)).alloc (.cells #[.int .i64 4, .slice (some ⟨p2, 0, none⟩) 5 5] 32)).alloc (.cells #[.int .i64 4, .slice (some ⟨p3, 0, none⟩) 5 5] 32)).heap.size = x15.heap.size + 3 := by simp
    clear hq1 hq2 hq3 hl1 hl2 hl3
    have HZQ := Lib.hid hzq
    have HD12 := Lib.hid hd12
    have HD13 := Lib.hid hd13
    have HD23 := Lib.hid hd23
    have HL1Q := Lib.hid hl1q
    have HL2Q := Lib.hid hl2q
    have HL3Q := Lib.hid hl3q
    clear hzq hd12 hd13 hd23 hl1q hl2q hl3q
    generalize (((x15.alloc (.cells #[.int .i64 4, .slice (some ⟨p1, 0, none⟩) 5 5] 32)).alloc (.cells #[.int .i64 4, .slice (some ⟨p2, 0, none⟩) 5 5] 32)).alloc (.cells #[.int .i64 4, .slice (some ⟨p3, 0, none⟩) 5 5] 32)) = y0 at *
    generalize x15.heap.size = Q at *
    obtain ⟨⟨e10, e11⟩, e1f⟩ := HQ1.out.cells
    obtain ⟨m1, m1f⟩ := Hhp1.out.cell (k := 1) (v := .int .i64 1) rfl
    go_upto_region 22 with fail
    have HS1 := Lib.hid Hhp1.out.same
    have HW2 := Lib.hid (Hhp2.out.far (p := ⟨p1, 1, none⟩) HD12.out (.int .i64 0))
    have HW3 := Lib.hid (Hhp3.out.far (p := ⟨p1, 1, none⟩) HD13.out (.int .i64 0))
    have n1q : p1 ≠ Q := by have := HL1Q.out; omega
    have n1q1 : p1 ≠ Q + 1 := by have := HL1Q.out; omega
    have n1q2 : p1 ≠ Q + 1 + 1 := by have := HL1Q.out; omega
    replace HQ1 := Lib.hid (HQ1.out.farM (p := ⟨p1, 1, none⟩) n1q (.int .i64 0))
    replace HQ2 := Lib.hid (HQ2.out.farM (p := ⟨p1, 1, none⟩) n1q1 (.int .i64 0))
    replace HQ3 := Lib.hid (HQ3.out.farM (p := ⟨p1, 1, none⟩) n1q2 (.int .i64 0))
    replace HB := Lib.hid (HB.out.setCell (p := ⟨p1, 1, none⟩) HWP1.out (.int .i64 0))
    replace HZQ : Hid ((y0.setCell ⟨p1, 1, none⟩ (.int .i64 0)).heap.size = Q + 3) := by have := HZQ.out; show _ = _; simp [World.setCell]; exact this
    clear n1q n1q1 n1q2 e10 e11 e1f m1 m1f Hhp1 Hhp2 Hhp3 HW2
    generalize y0.setCell ⟨p1, 1, none⟩ (.int .i64 0) = y1 at *
    have hmk2 : ∀ W : World, (Instr.makeSlice 30 (.int .i64 21) (.int .i64 21)).run Try.prog W = .ok (.slice (some ⟨W.heap.size, 0, none⟩) 21 21) (W.alloc (.cells (flatM manyG).toArray 85)) := many_make
    obtain ⟨⟨e20, e21⟩, e2f⟩ := HQ2.out.cells
    have e2g := e2f 1
    have ltq2 := World.block_lt_of_cell? _ _ e21
    dsimp only at ltq2
    go_upto_region 23 with fail
    have n2q : Q + 1 ≠ Q := by omega
    have n2q2 : Q + 1 ≠ Q + 1 + 1 := by omega
    have n21 : Q + 1 ≠ p1 := by have := HL1Q.out; omega
    have n23 : Q + 1 ≠ p3 := by have := HL3Q.out; omega
    have hwq : w.heap.size ≤ Q + 1 := by have := HWP1.out; have := HL1Q.out; omega
    replace HQ1 := Lib.hid (HQ1.out.farM (p := ⟨Q + 1, 1, none⟩) n2q (.slice (some ⟨y1.heap.size, 0, none⟩) 21 21))
    replace HQ3 := Lib.hid (HQ3.out.farM (p := ⟨Q + 1, 1, none⟩) n2q2 (.slice (some ⟨y1.heap.size, 0, none⟩) 21 21))
    replace HQ2 := Lib.hid (HQ2.out.set1 (.slice (some ⟨y1.heap.size, 0, none⟩) 21 21))
    replace HS1 := Lib.hid (HS1.out.far (p := ⟨Q + 1, 1, none⟩) n21 (.slice (some ⟨y1.heap.size, 0, none⟩) 21 21))
    replace HW3 := Lib.hid (HW3.out.far (p := ⟨Q + 1, 1, none⟩) n23 (.slice (some ⟨y1.heap.size, 0, none⟩) 21 21))
    replace HB := Lib.hid (HB.out.setCell (p := ⟨Q + 1, 1, none⟩) hwq (.slice (some ⟨y1.heap.size, 0, none⟩) 21 21))
    have HZX : Hid ((y1.setCell ⟨Q + 1, 1, none⟩ (.slice (some ⟨y1.heap.size, 0, none⟩) 21 21)).heap.size = y1.heap.size) := by show _ = _; simp [World.setCell]
    have HQ4 : Hid (Q + 3 = y1.heap.size) := HZQ.out.symm
    clear n2q n2q2 n21 n23 hwq e20 e21 e2f e2g ltq2 hmk2 HZQ
    generalize y1.setCell ⟨Q + 1, 1, none⟩ (.slice (some ⟨y1.heap.size, 0, none⟩) 21 21) = yx at *
    generalize y1.heap.size = q4 at *
    have HM1 : Hid (BlkM (yx.alloc (.cells (flatM manyG).toArray 85)) q4 manyG) := by
      have h : BlkM (yx.alloc (.cells (flatM manyG).toArray 85)) yx.heap.size manyG := World.alloc_heap_new _ _
      rw [HZX.out] at h
      exact h
    have hb : Below yx.heap.size yx (yx.alloc (.cells (flatM manyG).toArray 85)) := (Below.refl _ _).alloc (Nat.le_refl _) _
    replace HQ1 := Lib.hid (HQ1.out.step hb)
    replace HQ2 := Lib.hid (HQ2.out.step hb)
    replace HQ3 := Lib.hid (HQ3.out.step hb)
    replace HS1 := Lib.hid (HS1.out.step hb)
    replace HW3 := Lib.hid (HW3.out.step hb)
    replace HB := Lib.hid (HB.out.trans (hb.mono HB.out.size))
    clear hb HZX
    generalize yx.alloc (.cells (flatM manyG).toArray 85) = y2 at *
    obtain ⟨⟨e30, e31⟩, e3f⟩ := HQ3.out.cells
    obtain ⟨m17, m17f⟩ := HW3.out.cell (k := 17) (v := .int .i64 0) rfl
    go_upto_region 24 with fail
    have n3q : p3 ≠ Q := by have := HL3Q.out; omega
    have n3q1 : p3 ≠ Q + 1 := by have := HL3Q.out; omega
    have n3q2 : p3 ≠ Q + 1 + 1 := by have := HL3Q.out; omega
    have n31 : p3 ≠ p1 := fun e => HD13.out e.symm
    have n34 : p3 ≠ q4 := by have := HL3Q.out; have := HQ4.out; omega
    have HX3 := Lib.hid HW3.out.wild
    replace HQ1 := Lib.hid (HQ1.out.farM (p := ⟨p3, 17, none⟩) n3q (.int .i64 1))
    replace HQ2 := Lib.hid (HQ2.out.farM (p := ⟨p3, 17, none⟩) n3q1 (.int .i64 1))
    replace HQ3 := Lib.hid (HQ3.out.farM (p := ⟨p3, 17, none⟩) n3q2 (.int .i64 1))
    replace HS1 := Lib.hid (HS1.out.far (p := ⟨p3, 17, none⟩) n31 (.int .i64 1))
    replace HM1 := Lib.hid (HM1.out.far (p := ⟨p3, 17, none⟩) n34 (.int .i64 1))
    replace HB := Lib.hid (HB.out.setCell (p := ⟨p3, 17, none⟩) HWP3.out (.int .i64 1))
    clear n3q n3q1 n3q2 n31 n34 e30 e31 e3f m17 m17f HW3 HD12 HD13 HD23 HL1Q HL2Q HL3Q HWP1 HWP2 HWP3 HQ4
    generalize y2.setCell ⟨p3, 17, none⟩ (.int .i64 1) = y3 at *
    obtain ⟨⟨e10, e11⟩, -⟩ := HQ1.out.cells
    obtain ⟨⟨e20, e21⟩, -⟩ := HQ2.out.cells
    obtain ⟨⟨e30, e31⟩, -⟩ := HQ3.out.cells
    clear HQ1 HQ2 HQ3
    have HK1 : Hid (∀ W : World, BlkM W p1 sameG → Calls Try.prog 17 #[.agg #[.int .i64 4, .slice (some ⟨p1, 0, none⟩) 5 5]] W (Ans W (.int .i64 1))) := fun W h => by
      have := check17_c ⟨4, sameG⟩ (some ⟨p1, 0, none⟩) 5 W h.gms ⟨by decide, by decide⟩
      rw [nm_f1] at this
      exact this
    have HK2 : Hid (∀ W : World, BlkM W q4 manyG → Calls Try.prog 17 #[.agg #[.int .i64 4, .slice (some ⟨q4, 0, none⟩) 21 21]] W (Ans W (.int .i64 3))) := fun W h => by
      have := check17_c ⟨4, manyG⟩ (some ⟨q4, 0, none⟩) 21 W h.gms ⟨by decide, by decide⟩
      rw [nm_f2] at this
      exact this
    have HK3 : Hid (∀ W : World, BlkM W p3 wildG → Calls Try.prog 17 #[.agg #[.int .i64 4, .slice (some ⟨p3, 0, none⟩) 5 5]] W (Ans W (.int .i64 1))) := fun W h => by
      have := check17_c ⟨4, wildG⟩ (some ⟨p3, 0, none⟩) 5 W h.gms ⟨by decide, by decide⟩
      rw [nm_f3] at this
      exact this
    have HK4 : Hid (∀ W : World, Calls Try.prog 17 #[.agg #[.int .i64 1, .slice none 0 0]] W (Ans W (.int .i64 1))) := fun W => by
      have := check17_c ⟨1, []⟩ none 0 W (Gms_nil _ _) ⟨by decide, by decide⟩
      rw [nm_f4] at this
      exact this
    go_wp2_with fail
    refine (HK1.out _ HS1.out).mono ?_
    rintro e x16 ⟨rfl, hb⟩
    replace HS1 := Lib.hid (HS1.out.step hb)
    replace HM1 := Lib.hid (HM1.out.step hb)
    replace HX3 := Lib.hid (HX3.out.step hb)
    replace e10 := cell_of_ans hb e10
    replace e11 := cell_of_ans hb e11
    replace e20 := cell_of_ans hb e20
    replace e21 := cell_of_ans hb e21
    replace e30 := cell_of_ans hb e30
    replace e31 := cell_of_ans hb e31
    replace HB := Lib.hid (HB.out.trans (hb.mono HB.out.size))
    clear hb
    clear HS1
    go_wp2_with fail
    refine (HK2.out _ HM1.out).mono ?_
    rintro e x17 ⟨rfl, hb⟩
    replace HM1 := Lib.hid (HM1.out.step hb)
    replace HX3 := Lib.hid (HX3.out.step hb)
    replace e10 := cell_of_ans hb e10
    replace e11 := cell_of_ans hb e11
    replace e20 := cell_of_ans hb e20
    replace e21 := cell_of_ans hb e21
    replace e30 := cell_of_ans hb e30
    replace e31 := cell_of_ans hb e31
    replace HB := Lib.hid (HB.out.trans (hb.mono HB.out.size))
    clear hb
    clear HM1
    go_wp2_with fail
    refine (HK3.out _ HX3.out).mono ?_
    rintro e x18 ⟨rfl, hb⟩
    replace HX3 := Lib.hid (HX3.out.step hb)
    replace e10 := cell_of_ans hb e10
    replace e11 := cell_of_ans hb e11
    replace e20 := cell_of_ans hb e20
    replace e21 := cell_of_ans hb e21
    replace e30 := cell_of_ans hb e30
    replace e31 := cell_of_ans hb e31
    replace HB := Lib.hid (HB.out.trans (hb.mono HB.out.size))
    clear hb
    clear HX3
    go_wp2_with fail
    refine (HK4.out _).mono ?_
    rintro e x19 ⟨rfl, hb⟩
    replace e10 := cell_of_ans hb e10
    replace e11 := cell_of_ans hb e11
    replace e20 := cell_of_ans hb e20
    replace e21 := cell_of_ans hb e21
    replace e30 := cell_of_ans hb e30
    replace e31 := cell_of_ans hb e31
    replace HB := Lib.hid (HB.out.trans (hb.mono HB.out.size))
    clear hb
    go_wp2_with fail
    refine (awake16_c _).mono ?_
    rintro e x20 ⟨rfl, hb⟩
    replace e10 := cell_of_ans hb e10
    replace e11 := cell_of_ans hb e11
    replace e20 := cell_of_ans hb e20
    replace e21 := cell_of_ans hb e21
    replace e30 := cell_of_ans hb e30
    replace e31 := cell_of_ans hb e31
    replace HB := Lib.hid (HB.out.trans (hb.mono HB.out.size))
    clear hb
    go_wp2_with fail
    go_ret
    exact ⟨rfl, HB.out⟩
  · try go_simp
    have hb : Below x25.drew.heap.size x25.drew (x25.drew.alloc (.cells #[.int .u8 0, .int .u8 0, .int .u8 0, .int .u8 0, .int .u8 0, .int .u8 0, .int .u8 0] 5)) := (Below.refl _ _).alloc (Nat.le_refl _) _
    have HLZ := Lib.hid ((byts_lit x25.drew [0, 0, 0, 0, 0, 0, 0] (by decide)).more (show x25.drew.heap.size + 1 ≤ (x25.drew.alloc (.cells #[.int .u8 0, .int .u8 0, .int .u8 0, .int .u8 0, .int .u8 0, .int .u8 0, .int .u8 0] 5)).heap.size by simp))
    have hS2 : Below x25.heap.size x25 (x25.drew.alloc (.cells #[.int .u8 0, .int .u8 0, .int .u8 0, .int .u8 0, .int .u8 0, .int .u8 0, .int .u8 0] 5)) := hS.trans (hb.mono hS.size)
    clear hb
    refine hK.out _ _ (fun _ => hS2) (fun _ => ?_)
    clear hK K hS
    have hS := hS2
    clear hS2
    try simp only [Act.put, List.setIfInBounds_toArray, List.set_cons_zero, List.set_cons_succ]
    refine T_ready (rs := [0]) (by kernel_rfl) (by simp) ?_
    refine TReady.cons rfl (fun K hK => ?_) TReady.nil
    try go_simp
    refine (HPL.out _).mono ?_
    rintro e v0 ⟨q0, rfl, hg0, hb⟩
    have hS2 : Below x25.heap.size x25 v0 := hS.trans (hb.mono hS.size)
    replace HLZ := Lib.hid (HLZ.out.step hb)
    have HG0 := Lib.hid hg0
    clear hg0 hb
    try go_simp
    refine hK.out _ _ (fun _ => hS2) (fun _ => ?_)
    clear hK K hS
    have hS := hS2
    clear hS2
    try simp only [Act.put, List.setIfInBounds_toArray, List.set_cons_zero, List.set_cons_succ]
    refine T_ready (rs := [2]) (by kernel_rfl) (by simp) ?_
    refine TReady.cons rfl (fun K hK => ?_) TReady.nil
    try go_simp
    refine (HR4.out _ q0 _ HG0.out HLZ.out).mono ?_
    rintro e v2 ⟨zA, zc, rfl, ⟨-, -, -⟩, hb⟩
    have hS2 : Below x25.heap.size x25 v2 := hS.trans (hb.mono hS.size)
    clear hb HG0 HLZ
    try go_simp
    refine hK.out _ _ (fun _ => hS2) (fun _ => ?_)
    clear hK K hS
    have hS := hS2
    clear hS2
    try simp only [Act.put, List.setIfInBounds_toArray, List.set_cons_zero, List.set_cons_succ]
    refine' T_take (i := 3) (v := _) rfl (by kernel_rfl) (by kernel_rfl) (by kernel_rfl) (by kernel_rfl) (fun _ _ _ h => h) (by kernel_rfl) hS ?_ ?_
    rotate_left 1
    · intro Wv hW
      go_simp
      first | done | with_reducible rfl | omega
    try simp only [Act.put, List.setIfInBounds_toArray, List.set_cons_zero, List.set_cons_succ]
    refine' T_take (i := 4) (v := _) rfl (by kernel_rfl) (by kernel_rfl) (by kernel_rfl) (by kernel_rfl) (fun _ _ _ h => h) (by kernel_rfl) hS ?_ ?_
    rotate_left 1
    · intro Wv hW
      go_simp
      first | done | with_reducible rfl | omega
    try simp only [Act.put, List.setIfInBounds_toArray, List.set_cons_zero, List.set_cons_succ]
    refine' T_take (i := 5) (v := _) rfl (by kernel_rfl) (by kernel_rfl) (by kernel_rfl) (by kernel_rfl) (fun _ _ _ h => h) (by kernel_rfl) hS ?_ ?_
    rotate_left 1
    · intro Wv hW
      go_simp
      first | done | with_reducible rfl | omega
    try simp only [Act.put, List.setIfInBounds_toArray, List.set_cons_zero, List.set_cons_succ]
    refine' T_take (i := 6) (v := _) rfl (by kernel_rfl) (by kernel_rfl) (by kernel_rfl) (by kernel_rfl) (fun _ _ _ h => h) (by kernel_rfl) hS ?_ ?_
    rotate_left 1
    · intro Wv hW
      go_simp
      first | done | with_reducible rfl | omega
    try simp only [Act.put, List.setIfInBounds_toArray, List.set_cons_zero, List.set_cons_succ]
    refine T_done (by kernel_rfl) ?_ _
    refine NoPanic.normal ?_
    try go_simp
    replace HB := Lib.hid (HB.out.trans (hS.mono HB.out.size))
    clear hS
    go_wp2_with fail
    refine (HPL.out _).mono ?_
    rintro e x1 ⟨q28, rfl, hg28, hb⟩
    replace HB := Lib.hid (HB.out.trans (hb.mono HB.out.size))
    clear hb
    have Hhg28 := Lib.hid hg28
    clear hg28
    have hb : Below x1.heap.size x1 (x1.alloc (.cells #[.int .u8 5] 5)) := (Below.refl _ _).alloc (Nat.le_refl _) _
    replace Hhg28 := Lib.hid (Hhg28.out.step hb)
    replace HB := Lib.hid (HB.out.trans (hb.mono HB.out.size))
    clear hb
    have HL29 := Lib.hid ((byts_lit x1 [5] (by decide)).more (show x1.heap.size + 1 ≤ (x1.alloc (.cells #[.int .u8 5] 5)).heap.size by simp))
    go_wp2_with fail
    refine (HR5.out _ q28 _ Hhg28.out HL29.out).mono ?_
    rintro e x2 ⟨sA, sc, rfl, ⟨-, -, -⟩, hb⟩
    replace Hhg28 := Lib.hid (Hhg28.out.step hb)
    replace HL29 := Lib.hid (HL29.out.step hb)
    replace HB := Lib.hid (HB.out.trans (hb.mono HB.out.size))
    clear hb
    clear Hhg28 HL29
    go_wp2_with fail
    refine (HPL.out _).mono ?_
    rintro e x3 ⟨q30, rfl, hg30, hb⟩
    replace HB := Lib.hid (HB.out.trans (hb.mono HB.out.size))
    clear hb
    have Hhg30 := Lib.hid hg30
    clear hg30
    have hb : Below x3.heap.size x3 (x3.alloc (.cells #[.int .u8 1] 5)) := (Below.refl _ _).alloc (Nat.le_refl _) _
    replace Hhg30 := Lib.hid (Hhg30.out.step hb)
    replace HB := Lib.hid (HB.out.trans (hb.mono HB.out.size))
    clear hb
    have HL31 := Lib.hid ((byts_lit x3 [1] (by decide)).more (show x3.heap.size + 1 ≤ (x3.alloc (.cells #[.int .u8 1] 5)).heap.size by simp))
    go_wp2_with fail
    refine (HA1.out _ q30 _ Hhg30.out HL31.out).mono ?_
    rintro e x4 ⟨sHA1A, sHA1c, rfl, ⟨-, -, -⟩, hb⟩
    replace Hhg30 := Lib.hid (Hhg30.out.step hb)
    replace HL31 := Lib.hid (HL31.out.step hb)
    replace HB := Lib.hid (HB.out.trans (hb.mono HB.out.size))
    clear hb
    clear Hhg30 HL31
    go_wp2_with fail
    refine (HPL.out _).mono ?_
    rintro e x5 ⟨q32, rfl, hg32, hb⟩
    replace HB := Lib.hid (HB.out.trans (hb.mono HB.out.size))
    clear hb
    have Hhg32 := Lib.hid hg32
    clear hg32
    have hb : Below x5.heap.size x5 (x5.alloc (.cells #[.int .u8 1, .int .u8 4] 5)) := (Below.refl _ _).alloc (Nat.le_refl _) _
    replace Hhg32 := Lib.hid (Hhg32.out.step hb)
    replace HB := Lib.hid (HB.out.trans (hb.mono HB.out.size))
    clear hb
    have HL33 := Lib.hid ((byts_lit x5 [1, 4] (by decide)).more (show x5.heap.size + 1 ≤ (x5.alloc (.cells #[.int .u8 1, .int .u8 4] 5)).heap.size by simp))
    go_wp2_with fail
    refine (HA2.out _ q32 _ Hhg32.out HL33.out).mono ?_
    rintro e x6 ⟨sHA2A, sHA2c, rfl, ⟨-, -, -⟩, hb⟩
    replace Hhg32 := Lib.hid (Hhg32.out.step hb)
    replace HL33 := Lib.hid (HL33.out.step hb)
    replace HB := Lib.hid (HB.out.trans (hb.mono HB.out.size))
    clear hb
    clear Hhg32 HL33
    go_wp2_with fail
    refine (HPL.out _).mono ?_
    rintro e x7 ⟨q34, rfl, hg34, hb⟩
    replace HB := Lib.hid (HB.out.trans (hb.mono HB.out.size))
    clear hb
    have Hhg34 := Lib.hid hg34
    clear hg34
    go_wp2_with fail
    refine (HSH.out _ q34 Hhg34.out).mono ?_
    rintro e x8 ⟨rfl, hb⟩
    replace Hhg34 := Lib.hid (Hhg34.out.step hb)
    replace HB := Lib.hid (HB.out.trans (hb.mono HB.out.size))
    clear hb
    clear Hhg34
    go_wp2_with fail
    refine (HPL.out _).mono ?_
    rintro e x9 ⟨q35, rfl, hg35, hb⟩
    replace HB := Lib.hid (HB.out.trans (hb.mono HB.out.size))
    clear hb
    have Hhg35 := Lib.hid hg35
    clear hg35
    go_wp2_with fail
    refine (HS0.out _ q35 Hhg35.out).mono ?_
    rintro e x10 ⟨u0A, u0c, rfl, ⟨-, -, -⟩, hb⟩
    replace Hhg35 := Lib.hid (Hhg35.out.step hb)
    replace HB := Lib.hid (HB.out.trans (hb.mono HB.out.size))
    clear hb
    clear Hhg35
    go_wp2_with fail
    refine (HPL.out _).mono ?_
    rintro e x11 ⟨q36, rfl, hg36, hb⟩
    replace HB := Lib.hid (HB.out.trans (hb.mono HB.out.size))
    clear hb
    have Hhg36 := Lib.hid hg36
    clear hg36
    go_wp2_with fail
    refine (HS4.out _ q36 Hhg36.out).mono ?_
    rintro e x12 ⟨u4A, u4c, rfl, ⟨-, -, -⟩, hb⟩
    replace Hhg36 := Lib.hid (Hhg36.out.step hb)
    replace HB := Lib.hid (HB.out.trans (hb.mono HB.out.size))
    clear hb
    clear Hhg36
    have hw1 := HB.out.size
    go_wp2_with fail
    refine (HPX.out _).mono ?_
    rintro e x13 ⟨p1, rfl, hp1, hq1, hb⟩
    replace HB := Lib.hid (HB.out.trans (hb.mono HB.out.size))
    clear hb
    have Hhp1 := Lib.hid hp1
    clear hp1
    have HWP1 : Hid (w.heap.size ≤ p1) := Nat.le_trans hw1 hq1
    clear hw1
    have hl1 := Hhp1.out.lt
    have hw2 := HB.out.size
    go_wp2_with fail
    refine (HPX.out _).mono ?_
    rintro e x14 ⟨p2, rfl, hp2, hq2, hb⟩
    replace Hhp1 := Lib.hid (Hhp1.out.step hb)
    replace HB := Lib.hid (HB.out.trans (hb.mono HB.out.size))
    clear hb
    have Hhp2 := Lib.hid hp2
    clear hp2
    have HWP2 : Hid (w.heap.size ≤ p2) := Nat.le_trans hw2 hq2
    clear hw2
    have hl2 := Hhp2.out.lt
    have hs2 : x13.heap.size ≤ x14.heap.size := Nat.le_of_lt (Nat.lt_of_le_of_lt hq2 hl2)
    have hw3 := HB.out.size
    go_wp2_with fail
    refine (HPX.out _).mono ?_
    rintro e x15 ⟨p3, rfl, hp3, hq3, hb⟩
    replace Hhp1 := Lib.hid (Hhp1.out.step hb)
    replace Hhp2 := Lib.hid (Hhp2.out.step hb)
    replace HB := Lib.hid (HB.out.trans (hb.mono HB.out.size))
    clear hb
    have Hhp3 := Lib.hid hp3
    clear hp3
    have HWP3 : Hid (w.heap.size ≤ p3) := Nat.le_trans hw3 hq3
    clear hw3
    have hl3 := Hhp3.out.lt
    have hs3 : x14.heap.size ≤ x15.heap.size := Nat.le_of_lt (Nat.lt_of_le_of_lt hq3 hl3)
    clear HPL HR4 HR5 HA1 HA2 HSH HS0 HS4 HB6 hmk
    go_upto_region 21 with fail
    have hd12 : p1 ≠ p2 := by omega
    have hd13 : p1 ≠ p3 := by omega
    have hd23 : p2 ≠ p3 := by omega
    have hb : Below x15.heap.size x15 (((x15.alloc (.cells #[.int .i64 4, .slice (some ⟨p1, 0, none⟩) 5 5] 32)).alloc (.cells #[.int .i64 4, .slice (some ⟨p2, 0, none⟩) 5 5] 32)).alloc (.cells #[.int .i64 4, .slice (some ⟨p3, 0, none⟩) 5 5] 32)) := (((Below.refl _ _).alloc (Nat.le_refl _) _).alloc (by simp) _).alloc (by simp; omega) _
    have HQ1 : Hid (At2 (((x15.alloc (.cells #[.int .i64 4, .slice (some ⟨p1, 0, none⟩) 5 5] 32)).alloc (.cells #[.int .i64 4, .slice (some ⟨p2, 0, none⟩) 5 5] 32)).alloc (.cells #[.int .i64 4, .slice (some ⟨p3, 0, none⟩) 5 5] 32)) x15.heap.size 32 (.int .i64 4) (.slice (some ⟨p1, 0, none⟩) 5 5)) := (show At2 (x15.alloc (.cells #[.int .i64 4, .slice (some ⟨p1, 0, none⟩) 5 5] 32)) _ _ _ _ from World.alloc_heap_new _ _).step (((Below.refl _ _).alloc (Nat.le_refl _) _).alloc (by simp) _)
    have HQ2 : Hid (At2 (((x15.alloc (.cells #[.int .i64 4, .slice (some ⟨p1, 0, none⟩) 5 5] 32)).alloc (.cells #[.int .i64 4, .slice (some ⟨p2, 0, none⟩) 5 5] 32)).alloc (.cells #[.int .i64 4, .slice (some ⟨p3, 0, none⟩) 5 5] 32)) (x15.heap.size + 1) 32 (.int .i64 4) (.slice (some ⟨p2, 0, none⟩) 5 5)) := by
      have h := World.alloc_heap_new (x15.alloc (.cells #[.int .i64 4, .slice (some ⟨p1, 0, none⟩) 5 5] 32)) (.cells #[.int .i64 4, .slice (some ⟨p2, 0, none⟩) 5 5] 32)
      rw [World.size_alloc] at h
      exact (show At2 ((x15.alloc (.cells #[.int .i64 4, .slice (some ⟨p1, 0, none⟩) 5 5] 32)).alloc (.cells #[.int .i64 4, .slice (some ⟨p2, 0, none⟩) 5 5] 32)) _ _ _ _ from h).step ((Below.refl _ _).alloc (Nat.le_refl _) _)
    have HQ3 : Hid (At2 (((x15.alloc (.cells #[.int .i64 4, .slice (some ⟨p1, 0, none⟩) 5 5] 32)).alloc (.cells #[.int .i64 4, .slice (some ⟨p2, 0, none⟩) 5 5] 32)).alloc (.cells #[.int .i64 4, .slice (some ⟨p3, 0, none⟩) 5 5] 32)) (x15.heap.size + 1 + 1) 32 (.int .i64 4) (.slice (some ⟨p3, 0, none⟩) 5 5)) := by
      have h := World.alloc_heap_new ((x15.alloc (.cells #[.int .i64 4, .slice (some ⟨p1, 0, none⟩) 5 5] 32)).alloc (.cells #[.int .i64 4, .slice (some ⟨p2, 0, none⟩) 5 5] 32)) (.cells #[.int .i64 4, .slice (some ⟨p3, 0, none⟩) 5 5] 32)
      rw [World.size_alloc, World.size_alloc] at h
      exact h
    replace Hhp1 := Lib.hid (Hhp1.out.step hb)
    replace Hhp2 := Lib.hid (Hhp2.out.step hb)
    replace Hhp3 := Lib.hid (Hhp3.out.step hb)
    replace HB := Lib.hid (HB.out.trans (hb.mono HB.out.size))
    clear hb
    have hl1q : p1 < x15.heap.size := by omega
    have hl2q : p2 < x15.heap.size := by omega
    have hl3q : p3 < x15.heap.size := by omega
    have hzq : (((x15.alloc (.cells #[.int .i64 4, .slice (some ⟨p1, 0, none⟩) 5 5] 32)).alloc (.cells #[.int .i64 4, .slice (some ⟨p2, 0, none⟩) 5 5] 32)).alloc (.cells #[.int .i64 4, .slice (some ⟨p3, 0, none⟩) 5 5] 32)).heap.size = x15.heap.size + 3 := by simp
    clear hq1 hq2 hq3 hl1 hl2 hl3
    have HZQ := Lib.hid hzq
    have HD12 := Lib.hid hd12
    have HD13 := Lib.hid hd13
    have HD23 := Lib.hid hd23
    have HL1Q := Lib.hid hl1q
    have HL2Q := Lib.hid hl2q
    have HL3Q := Lib.hid hl3q
    clear hzq hd12 hd13 hd23 hl1q hl2q hl3q
    generalize (((x15.alloc (.cells #[.int .i64 4, .slice (some ⟨p1, 0, none⟩) 5 5] 32)).alloc (.cells #[.int .i64 4, .slice (some ⟨p2, 0, none⟩) 5 5] 32)).alloc (.cells #[.int .i64 4, .slice (some ⟨p3, 0, none⟩) 5 5] 32)) = y0 at *
    generalize x15.heap.size = Q at *
    obtain ⟨⟨e10, e11⟩, e1f⟩ := HQ1.out.cells
    obtain ⟨m1, m1f⟩ := Hhp1.out.cell (k := 1) (v := .int .i64 1) rfl
    go_upto_region 22 with fail
    have HS1 := Lib.hid Hhp1.out.same
    have HW2 := Lib.hid (Hhp2.out.far (p := ⟨p1, 1, none⟩) HD12.out (.int .i64 0))
    have HW3 := Lib.hid (Hhp3.out.far (p := ⟨p1, 1, none⟩) HD13.out (.int .i64 0))
    have n1q : p1 ≠ Q := by have := HL1Q.out; omega
    have n1q1 : p1 ≠ Q + 1 := by have := HL1Q.out; omega
    have n1q2 : p1 ≠ Q + 1 + 1 := by have := HL1Q.out; omega
    replace HQ1 := Lib.hid (HQ1.out.farM (p := ⟨p1, 1, none⟩) n1q (.int .i64 0))
    replace HQ2 := Lib.hid (HQ2.out.farM (p := ⟨p1, 1, none⟩) n1q1 (.int .i64 0))
    replace HQ3 := Lib.hid (HQ3.out.farM (p := ⟨p1, 1, none⟩) n1q2 (.int .i64 0))
    replace HB := Lib.hid (HB.out.setCell (p := ⟨p1, 1, none⟩) HWP1.out (.int .i64 0))
    replace HZQ : Hid ((y0.setCell ⟨p1, 1, none⟩ (.int .i64 0)).heap.size = Q + 3) := by have := HZQ.out; show _ = _; simp [World.setCell]; exact this
    clear n1q n1q1 n1q2 e10 e11 e1f m1 m1f Hhp1 Hhp2 Hhp3 HW2
    generalize y0.setCell ⟨p1, 1, none⟩ (.int .i64 0) = y1 at *
    have hmk2 : ∀ W : World, (Instr.makeSlice 30 (.int .i64 21) (.int .i64 21)).run Try.prog W = .ok (.slice (some ⟨W.heap.size, 0, none⟩) 21 21) (W.alloc (.cells (flatM manyG).toArray 85)) := many_make
    obtain ⟨⟨e20, e21⟩, e2f⟩ := HQ2.out.cells
    have e2g := e2f 1
    have ltq2 := World.block_lt_of_cell? _ _ e21
    dsimp only at ltq2
    go_upto_region 23 with fail
    have n2q : Q + 1 ≠ Q := by omega
    have n2q2 : Q + 1 ≠ Q + 1 + 1 := by omega
    have n21 : Q + 1 ≠ p1 := by have := HL1Q.out; omega
    have n23 : Q + 1 ≠ p3 := by have := HL3Q.out; omega
    have hwq : w.heap.size ≤ Q + 1 := by have := HWP1.out; have := HL1Q.out; omega
    replace HQ1 := Lib.hid (HQ1.out.farM (p := ⟨Q + 1, 1, none⟩) n2q (.slice (some ⟨y1.heap.size, 0, none⟩) 21 21))
    replace HQ3 := Lib.hid (HQ3.out.farM (p := ⟨Q + 1, 1, none⟩) n2q2 (.slice (some ⟨y1.heap.size, 0, none⟩) 21 21))
    replace HQ2 := Lib.hid (HQ2.out.set1 (.slice (some ⟨y1.heap.size, 0, none⟩) 21 21))
    replace HS1 := Lib.hid (HS1.out.far (p := ⟨Q + 1, 1, none⟩) n21 (.slice (some ⟨y1.heap.size, 0, none⟩) 21 21))
    replace HW3 := Lib.hid (HW3.out.far (p := ⟨Q + 1, 1, none⟩) n23 (.slice (some ⟨y1.heap.size, 0, none⟩) 21 21))
    replace HB := Lib.hid (HB.out.setCell (p := ⟨Q + 1, 1, none⟩) hwq (.slice (some ⟨y1.heap.size, 0, none⟩) 21 21))
    have HZX : Hid ((y1.setCell ⟨Q + 1, 1, none⟩ (.slice (some ⟨y1.heap.size, 0, none⟩) 21 21)).heap.size = y1.heap.size) := by show _ = _; simp [World.setCell]
    have HQ4 : Hid (Q + 3 = y1.heap.size) := HZQ.out.symm
    clear n2q n2q2 n21 n23 hwq e20 e21 e2f e2g ltq2 hmk2 HZQ
    generalize y1.setCell ⟨Q + 1, 1, none⟩ (.slice (some ⟨y1.heap.size, 0, none⟩) 21 21) = yx at *
    generalize y1.heap.size = q4 at *
    have HM1 : Hid (BlkM (yx.alloc (.cells (flatM manyG).toArray 85)) q4 manyG) := by
      have h : BlkM (yx.alloc (.cells (flatM manyG).toArray 85)) yx.heap.size manyG := World.alloc_heap_new _ _
      rw [HZX.out] at h
      exact h
    have hb : Below yx.heap.size yx (yx.alloc (.cells (flatM manyG).toArray 85)) := (Below.refl _ _).alloc (Nat.le_refl _) _
    replace HQ1 := Lib.hid (HQ1.out.step hb)
    replace HQ2 := Lib.hid (HQ2.out.step hb)
    replace HQ3 := Lib.hid (HQ3.out.step hb)
    replace HS1 := Lib.hid (HS1.out.step hb)
    replace HW3 := Lib.hid (HW3.out.step hb)
    replace HB := Lib.hid (HB.out.trans (hb.mono HB.out.size))
    clear hb HZX
    generalize yx.alloc (.cells (flatM manyG).toArray 85) = y2 at *
    obtain ⟨⟨e30, e31⟩, e3f⟩ := HQ3.out.cells
    obtain ⟨m17, m17f⟩ := HW3.out.cell (k := 17) (v := .int .i64 0) rfl
    go_upto_region 24 with fail
    have n3q : p3 ≠ Q := by have := HL3Q.out; omega
    have n3q1 : p3 ≠ Q + 1 := by have := HL3Q.out; omega
    have n3q2 : p3 ≠ Q + 1 + 1 := by have := HL3Q.out; omega
    have n31 : p3 ≠ p1 := fun e => HD13.out e.symm
    have n34 : p3 ≠ q4 := by have := HL3Q.out; have := HQ4.out; omega
    have HX3 := Lib.hid HW3.out.wild
    replace HQ1 := Lib.hid (HQ1.out.farM (p := ⟨p3, 17, none⟩) n3q (.int .i64 1))
    replace HQ2 := Lib.hid (HQ2.out.farM (p := ⟨p3, 17, none⟩) n3q1 (.int .i64 1))
    replace HQ3 := Lib.hid (HQ3.out.farM (p := ⟨p3, 17, none⟩) n3q2 (.int .i64 1))
    replace HS1 := Lib.hid (HS1.out.far (p := ⟨p3, 17, none⟩) n31 (.int .i64 1))
    replace HM1 := Lib.hid (HM1.out.far (p := ⟨p3, 17, none⟩) n34 (.int .i64 1))
    replace HB := Lib.hid (HB.out.setCell (p := ⟨p3, 17, none⟩) HWP3.out (.int .i64 1))
    clear n3q n3q1 n3q2 n31 n34 e30 e31 e3f m17 m17f HW3 HD12 HD13 HD23 HL1Q HL2Q HL3Q HWP1 HWP2 HWP3 HQ4
    generalize y2.setCell ⟨p3, 17, none⟩ (.int .i64 1) = y3 at *
    obtain ⟨⟨e10, e11⟩, -⟩ := HQ1.out.cells
    obtain ⟨⟨e20, e21⟩, -⟩ := HQ2.out.cells
    obtain ⟨⟨e30, e31⟩, -⟩ := HQ3.out.cells
    clear HQ1 HQ2 HQ3
    have HK1 : Hid (∀ W : World, BlkM W p1 sameG → Calls Try.prog 17 #[.agg #[.int .i64 4, .slice (some ⟨p1, 0, none⟩) 5 5]] W (Ans W (.int .i64 1))) := fun W h => by
      have := check17_c ⟨4, sameG⟩ (some ⟨p1, 0, none⟩) 5 W h.gms ⟨by decide, by decide⟩
      rw [nm_f1] at this
      exact this
    have HK2 : Hid (∀ W : World, BlkM W q4 manyG → Calls Try.prog 17 #[.agg #[.int .i64 4, .slice (some ⟨q4, 0, none⟩) 21 21]] W (Ans W (.int .i64 3))) := fun W h => by
      have := check17_c ⟨4, manyG⟩ (some ⟨q4, 0, none⟩) 21 W h.gms ⟨by decide, by decide⟩
      rw [nm_f2] at this
      exact this
    have HK3 : Hid (∀ W : World, BlkM W p3 wildG → Calls Try.prog 17 #[.agg #[.int .i64 4, .slice (some ⟨p3, 0, none⟩) 5 5]] W (Ans W (.int .i64 1))) := fun W h => by
      have := check17_c ⟨4, wildG⟩ (some ⟨p3, 0, none⟩) 5 W h.gms ⟨by decide, by decide⟩
      rw [nm_f3] at this
      exact this
    have HK4 : Hid (∀ W : World, Calls Try.prog 17 #[.agg #[.int .i64 1, .slice none 0 0]] W (Ans W (.int .i64 1))) := fun W => by
      have := check17_c ⟨1, []⟩ none 0 W (Gms_nil _ _) ⟨by decide, by decide⟩
      rw [nm_f4] at this
      exact this
    go_wp2_with fail
    refine (HK1.out _ HS1.out).mono ?_
    rintro e x16 ⟨rfl, hb⟩
    replace HS1 := Lib.hid (HS1.out.step hb)
    replace HM1 := Lib.hid (HM1.out.step hb)
    replace HX3 := Lib.hid (HX3.out.step hb)
    replace e10 := cell_of_ans hb e10
    replace e11 := cell_of_ans hb e11
    replace e20 := cell_of_ans hb e20
    replace e21 := cell_of_ans hb e21
    replace e30 := cell_of_ans hb e30
    replace e31 := cell_of_ans hb e31
    replace HB := Lib.hid (HB.out.trans (hb.mono HB.out.size))
    clear hb
    clear HS1
    go_wp2_with fail
    refine (HK2.out _ HM1.out).mono ?_
    rintro e x17 ⟨rfl, hb⟩
    replace HM1 := Lib.hid (HM1.out.step hb)
    replace HX3 := Lib.hid (HX3.out.step hb)
    replace e10 := cell_of_ans hb e10
    replace e11 := cell_of_ans hb e11
    replace e20 := cell_of_ans hb e20
    replace e21 := cell_of_ans hb e21
    replace e30 := cell_of_ans hb e30
    replace e31 := cell_of_ans hb e31
    replace HB := Lib.hid (HB.out.trans (hb.mono HB.out.size))
    clear hb
    clear HM1
    go_wp2_with fail
    refine (HK3.out _ HX3.out).mono ?_
    rintro e x18 ⟨rfl, hb⟩
    replace HX3 := Lib.hid (HX3.out.step hb)
    replace e10 := cell_of_ans hb e10
    replace e11 := cell_of_ans hb e11
    replace e20 := cell_of_ans hb e20
    replace e21 := cell_of_ans hb e21
    replace e30 := cell_of_ans hb e30
    replace e31 := cell_of_ans hb e31
    replace HB := Lib.hid (HB.out.trans (hb.mono HB.out.size))
    clear hb
    clear HX3
    go_wp2_with fail
    refine (HK4.out _).mono ?_
    rintro e x19 ⟨rfl, hb⟩
    replace e10 := cell_of_ans hb e10
    replace e11 := cell_of_ans hb e11
    replace e20 := cell_of_ans hb e20
    replace e21 := cell_of_ans hb e21
    replace e30 := cell_of_ans hb e30
    replace e31 := cell_of_ans hb e31
    replace HB := Lib.hid (HB.out.trans (hb.mono HB.out.size))
    clear hb
    go_wp2_with fail
    refine (awake16_c _).mono ?_
    rintro e x20 ⟨rfl, hb⟩
    replace e10 := cell_of_ans hb e10
    replace e11 := cell_of_ans hb e11
    replace e20 := cell_of_ans hb e20
    replace e21 := cell_of_ans hb e21
    replace e30 := cell_of_ans hb e30
    replace e31 := cell_of_ans hb e31
    replace HB := Lib.hid (HB.out.trans (hb.mono HB.out.size))
    clear hb
    go_wp2_with fail
    go_ret
    exact ⟨rfl, HB.out⟩
end Go.Proofs.Ytjokbffdepcpkaa
