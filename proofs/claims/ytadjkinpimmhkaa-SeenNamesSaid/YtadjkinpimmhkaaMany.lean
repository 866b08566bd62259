/-
  How many games there are: the program's answer.
-/
import Derived.Test.YtadjkinpimmhkaaExd
namespace Go.Proofs.Ytadjkinpimmhkaa
open Go.RowKit
set_option linter.unusedSimpArgs false
set_option linter.unusedVariables false

noncomputable def manyP (ws : List Wd) (o : Nat → Bool) : Nat → Nat
  | 0 => 1
  | k + 1 => manyP ws o k * (gamesL ws (k : Int) o).length
theorem gamesL_len (ws : List Wd) (f : Int) (o : Nat → Bool) : (gamesL ws f o).length ≤ 77 := gamesTo_len ws f o (by omega) (by omega)
theorem manyP_le (ws : List Wd) (o : Nat → Bool) : ∀ k, k ≤ 5 → manyP ws o k ≤ 77 ^ k
  | 0, _ => Nat.le_refl _
  | k + 1, h => by
    have h1 := manyP_le ws o k (by omega)
    rw [manyP, Nat.pow_succ]
    exact Nat.mul_le_mul h1 (gamesL_len _ _ _)
theorem manyP_bd (ws : List Wd) (o : Nat → Bool) {k : Nat} (h : k ≤ 5) : manyP ws o k ≤ 2706784157 :=
  Nat.le_trans (manyP_le ws o k h) (Nat.le_trans (Nat.pow_le_pow_right (by omega) h) (by decide))

set_option maxRecDepth 100000 in
set_option maxHeartbeats 4000000 in
theorem many_bad (A At : Option Addr) (ws : List Wd) (ts : List Int) (c ct : Nat) (frn : Int) (w : World) (hw : Wds w.heap.size w A ws) (ht : Ints w.heap.size w At ts) (hc : ws.length ≤ c ∧ c ≤ 9223372036854775807) (hct : ts.length ≤ ct ∧ ct ≤ 9223372036854775807) (h : exErr frn ws ts ≠ 0) : Calls Try.prog 30 #[.agg #[.int .i64 frn, .slice A ws.length c], .slice At ts.length ct] w (Ans w (.tuple #[.int .i64 0, .int .i64 (exErr frn ws ts)])) := by
  have hb0 : Below w.heap.size w (w.alloc (.cells #[.int .i64 frn, .slice A ws.length c] 32)) := (Below.refl _ _).alloc (Nat.le_refl _) _
  have k0 : (w.alloc (.cells #[.int .i64 frn, .slice A ws.length c] 32)).cell? ⟨w.heap.size, 0, none⟩ = some (.int .i64 frn) := by simp
  have k1 : (w.alloc (.cells #[.int .i64 frn, .slice A ws.length c] 32)).cell? ⟨w.heap.size, 1, none⟩ = some (.slice A ws.length c) := by simp
  have HC := Lib.hid (explained_bad A At ws ts c ct frn _ (hw.step hb0) (ht.step hb0) hc hct h)
  have hne : (exErr frn ws ts != 0) = true := by simp [h]
  have HB0 := Lib.hid hb0
  generalize exErr frn ws ts = er at HC hne ⊢
  clear h hb0
  go_enter Try.func30, Try.ntmps30
  go_wp2_with fail
  generalize (w.alloc (.cells #[.int .i64 frn, .slice A ws.length c] 32)) = W0 at k0 k1 HC HB0 ⊢
  refine HC.out.mono ?_
  rintro e w1 ⟨P, a1, a2, a3, a4, rfl, hb1⟩
  have HB1 := Lib.hid (HB0.out.trans (hb1.mono HB0.out.size))
  clear hb1
  go_wp2_with fail
  go_ret2
  exact ⟨rfl, HB1.out.alloc HB1.out.size _⟩

set_option maxRecDepth 100000 in
set_option maxHeartbeats 8000000 in
theorem many_ok (A At : Option Addr) (ws : List Wd) (ts : List Int) (c ct : Nat) (frn : Int) (w : World) (hw : Wds w.heap.size w A ws) (ht : Ints w.heap.size w At ts) (hc : ws.length ≤ c ∧ c ≤ 9223372036854775807) (hct : ts.length ≤ ct ∧ ct ≤ 9223372036854775807) (h : exErr frn ws ts = 0) : Calls Try.prog 30 #[.agg #[.int .i64 frn, .slice A ws.length c], .slice At ts.length ct] w (Ans w (.tuple #[.int .i64 ((manyP ws (offT ts) frn.toNat : Nat) : Int), .int .i64 0])) := by
  have hb0 : Below w.heap.size w (w.alloc (.cells #[.int .i64 frn, .slice A ws.length c] 32)) := (Below.refl _ _).alloc (Nat.le_refl _) _
  have k0 : (w.alloc (.cells #[.int .i64 frn, .slice A ws.length c] 32)).cell? ⟨w.heap.size, 0, none⟩ = some (.int .i64 frn) := by simp
  have k1 : (w.alloc (.cells #[.int .i64 frn, .slice A ws.length c] 32)).cell? ⟨w.heap.size, 1, none⟩ = some (.slice A ws.length c) := by simp
  have HC := Lib.hid (explained_ok A At ws ts c ct frn _ (hw.step hb0) (ht.step hb0) hc hct h)
  have HB0 := Lib.hid hb0
  obtain ⟨hl, -⟩ := askOk (exOk h).1
  obtain ⟨h30, hf1, hf5, hok⟩ := laneOk hl
  have HOK := Lib.hid hok
  obtain ⟨m, rfl⟩ : ∃ m : Nat, frn = (m : Int) := ⟨frn.toNat, by omega⟩
  have hm5 : m ≤ 5 := by omega
  rw [Int.toNat_natCast]
  clear h hl hok hb0
  generalize offT ts = o at HC ⊢
  go_enter Try.func30, Try.ntmps30
  go_wp2_with fail
  generalize (w.alloc (.cells #[.int .i64 (m : Int), .slice A ws.length c] 32)) = W0 at k0 k1 HC HB0 ⊢
  refine HC.out.mono ?_
  rintro e w1 ⟨p, b, rfl, hp1, hp2, hb1, hWat, hbw⟩
  have hb2 : Below w1.heap.size w1 (w1.alloc (.cells #[.bool (o 0), .bool (o 1), .bool (o 2), .bool (o 3)] 92)) := (Below.refl _ _).alloc (Nat.le_refl _) _
  have HO : Hid (B4 (w1.alloc (.cells #[.bool (o 0), .bool (o 1), .bool (o 2), .bool (o 3)] 92)) w1.heap.size o) := B4.new w1 _ _ _ _ _ ⟨rfl, rfl, rfl, rfl⟩
  have HWA := Lib.hid (hWat.step hb2 hbw.size)
  have HB2 : Hid (Below w.heap.size w (w1.alloc (.cells #[.bool (o 0), .bool (o 1), .bool (o 2), .bool (o 3)] 92))) := (HB0.out.trans (hbw.mono HB0.out.size)).alloc (Nat.le_trans HB0.out.size hbw.size) _
  have k2 := HWA.out.cn
  clear hWat hbw hb2
  go_wp2_with fail
  generalize hw2 : w1.alloc (.cells #[.bool (o 0), .bool (o 1), .bool (o 2), .bool (o 3)] 92) = w2 at HO HWA HB2 k2 ⊢
  have hp3 : p < w2.heap.size := World.block_lt_of_cell? w2 _ k2
  clear hw2
  go_loopw [28, 9] (fun i v wr => ∃ k : Nat, k ≤ m ∧ i = .int .i64 k ∧ v = .int .i64 (manyP ws o k : Nat) ∧ Below w2.heap.size w2 wr) (fun i _ _ => m - (intOf i).toNat)
  case atStart => exact ⟨0, by omega, rfl, rfl, Below.refl _ _⟩
  case round =>
    obtain ⟨k, hk, rfl, rfl, hbr⟩ := hrel
    have HOr := Lib.hid (HO.out.below hbr)
    have HBr := Lib.hid hbr
    have hzr := hbr.size
    have hWr := HWA.out.step hbr (by have := HB2.out.size; have := HB0.out.size; omega)
    by_cases h1 : k < m
    · obtain ⟨d0, d1, d2, d3, -⟩ := HOr.out.cells
      have hki : (k : Int) < (m : Int) := by omega
      have HF := Lib.hid (frame_c (B := wr.heap.size) p c (k : Int) (m : Int) o A ws wr (Nat.le_refl _) (by omega) hWr.cn hWr.cl (hWr.wd.more (by omega)) (by omega) HOK.out)
      have hml := gamesL_len ws (k : Int) o
      have hpb := manyP_bd ws o (k := k) (by omega)
      have hpb' := manyP_bd ws o (k := k + 1) (by omega)
      have HS : Hid (manyP ws o (k + 1) = manyP ws o k * (gamesL ws (k : Int) o).length) := rfl
      rw [HS.out] at hpb'
      generalize loS (fsts (gamesL ws (k : Int) o)) = a1 at HF
      generalize hiS (fsts (gamesL ws (k : Int) o)) = a2 at HF
      generalize loS (snds (gamesL ws (k : Int) o)) = a3 at HF
      generalize hiS (snds (gamesL ws (k : Int) o)) = a4 at HF
      generalize (gamesL ws (k : Int) o).length = gl at *
      generalize manyP ws o k = pk at *
      have hq0 : (0 : Int) ≤ (pk : Int) * (gl : Int) := by rw [← Int.natCast_mul]; omega
      have hq1 : (pk : Int) * (gl : Int) ≤ 2706784157 := by rw [← Int.natCast_mul]; omega
      clear hbr hWr hpb'
      go_wp2_with fail
      refine HF.out.mono ?_
      rintro e w3 ⟨rfl, hb3⟩
      have HB3 := Lib.hid (HBr.out.trans (hb3.mono hzr))
      clear hb3
      go_wp2_with fail
      go_roundw
      case rel => exact ⟨k + 1, by omega, by go_num, by rw [HS.out, Int.natCast_mul], HB3.out.alloc HB3.out.size _⟩
      case measure => simp [intOf]; omega
    · obtain rfl : k = m := by omega
      clear hbr hWr
      go_wp2_with fail
      go_ret2
      exact ⟨rfl, HB2.out.trans (HBr.out.mono HB2.out.size)⟩
end Go.Proofs.Ytadjkinpimmhkaa
