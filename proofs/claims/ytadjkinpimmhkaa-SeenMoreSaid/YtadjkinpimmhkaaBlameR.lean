/-
  The reference's Blame.
-/
import Derived.Test.YtadjkinpimmhkaaRef4
namespace Go.Proofs.Ytadjkinpimmhkaa
open Go.RowKit
set_option linter.unusedSimpArgs false
set_option linter.unusedVariables false

/-- The last of the first n tellers who explains alone, and how many do. -/
def brO (ex : (Nat → Bool) → Bool) : Nat → Int × Nat
  | 0 => (-1, 0)
  | n + 1 => if ex (offT [(n : Int)]) then ((n : Int), (brO ex n).2 + 1) else brO ex n
def blameR (ex : (Nat → Bool) → Bool) : Int := if ex (offT []) then -1 else if (brO ex 4).2 = 1 then (brO ex 4).1 else -1
theorem brO_le (ex : (Nat → Bool) → Bool) : ∀ n, (brO ex n).2 ≤ n
  | 0 => Nat.le_refl _
  | n + 1 => by
    have := brO_le ex n
    unfold brO
    split
    · dsimp only; omega
    · omega
theorem ints_1 (w : World) (x : Int) : Ints (w.alloc (.cells #[.int .i64 x] 3)).heap.size (w.alloc (.cells #[.int .i64 x] 3)) (some ⟨w.heap.size, 0, none⟩) [x] := fun _ => ⟨w.heap.size, 0, rfl, by simp, fun k hk => by
  obtain rfl : k = 0 := by simpa using hk
  simp [ix]⟩

set_option maxRecDepth 100000 in
set_option maxHeartbeats 8000000 in
theorem blame38_c (A : Option Addr) (ws : List Wd) (c m : Nat) (w : World) (hw : Wds w.heap.size w A ws) (hc : ws.length ≤ c ∧ c ≤ 9223372036854775807) (hl : ws.length ≤ 1000000) (hok : ∀ k, k < ws.length → wordB (m : Int) (wx ws k) = true) (hm : m ≤ 5) :
    Calls Try.prog 38 #[.agg #[.int .i64 (m : Int), .slice A ws.length c]] w (Ans w (.int .i64 (blameR (explB (m : Int) ws)))) := by
  have hb0 : Below w.heap.size w (w.alloc (.cells #[.int .i64 (m : Int), .slice A ws.length c] 24)) := (Below.refl _ _).alloc (Nat.le_refl _) _
  have k0 : (w.alloc (.cells #[.int .i64 (m : Int), .slice A ws.length c] 24)).cell? ⟨w.heap.size, 0, none⟩ = some (.int .i64 (m : Int)) := by simp
  have k1 : (w.alloc (.cells #[.int .i64 (m : Int), .slice A ws.length c] 24)).cell? ⟨w.heap.size, 1, none⟩ = some (.slice A ws.length c) := by simp
  have HB0 := Lib.hid hb0
  have HW := Lib.hid (hw.step hb0)
  have HE0 := Lib.hid (fun W (h : Wds W.heap.size W A ws) => explains25_c A none ws [] c 0 m W h (fun hp => by simp at hp) hc (by decide) hl hok hm)
  have HE1 := Lib.hid (fun W (n : Int) (h : Wds W.heap.size W A ws) => explains25_c A (some ⟨W.heap.size, 0, none⟩) ws [n] c 1 m (W.alloc (.cells #[.int .i64 n] 3)) (h.step ((Below.refl _ _).alloc (Nat.le_refl _) _)) (ints_1 W n) hc (by simp) hl hok hm)
  generalize explB (m : Int) ws = ex at *
  clear hb0 hw hok
  go_enter Try.func38, Try.ntmps38
  go_wp2_with fail
  generalize w.alloc (.cells #[.int .i64 (m : Int), .slice A ws.length c] 24) = W0 at k0 k1 HB0 HW ⊢
  have HE := Lib.hid (HE0.out W0 HW.out)
  cases hx : ex (offT [])
  · rw [hx] at HE
    have HBR : Hid (blameR ex = if (brO ex 4).2 = 1 then (brO ex 4).1 else -1) := by show _ = _; simp [blameR, hx]
    clear hx
    refine HE.out.mono ?_
    rintro e w1 ⟨rfl, hb1⟩
    replace k0 := cell_of_ans hb1 k0
    replace k1 := cell_of_ans hb1 k1
    replace HW := Lib.hid (HW.out.step hb1)
    have HB1 : Hid (Below w.heap.size w w1) := HB0.out.trans (hb1.mono HB0.out.size)
    clear hb1
    go_wp2_with fail
    go_loopw [5, 3, 4] (fun i v u wr => ∃ k : Nat, k ≤ 4 ∧ i = .int .i64 k ∧ v = .int .i64 (brO ex k).1 ∧ u = .int .i64 ((brO ex k).2 : Nat) ∧ Below w1.heap.size w1 wr) (fun i _ _ _ => 4 - (intOf i).toNat)
    case atStart => exact ⟨0, by omega, rfl, rfl, rfl, Below.refl _ _⟩
    case round =>
      obtain ⟨k, hk, rfl, rfl, rfl, hbr⟩ := hrel
      have HBr := Lib.hid hbr
      have q0 := cell_of_ans hbr k0
      have q1 := cell_of_ans hbr k1
      have hzr := hbr.size
      have HEk := Lib.hid (HE1.out wr (k : Int) (HW.out.step hbr))
      have hle := brO_le ex k
      have HD : Hid (brO ex (k + 1) = if ex (offT [(k : Int)]) then ((k : Int), (brO ex k).2 + 1) else brO ex k) := rfl
      clear hbr
      by_cases h1 : k < 4
      · have h1i : (k : Int) < 4 := by omega
        generalize hbk : brO ex k = bk at *
        obtain ⟨bo, bn⟩ := bk
        dsimp only at hle HD ⊢
        have HBK := Lib.hid hbk
        clear hbk
        cases hxk : ex (offT [(k : Int)])
        · rw [hxk] at HEk
          have HN : Hid (brO ex (k + 1) = (bo, bn)) := by show _ = _; rw [HD.out, hxk]; rfl
          clear hxk
          go_wp2_with fail
          refine HEk.out.mono ?_
          rintro e w3 ⟨rfl, hb3⟩
          have HB3 : Hid (Below w1.heap.size w1 w3) := (HBr.out.alloc hzr _).trans (hb3.mono (by simp; omega))
          clear hb3
          go_wp2_with fail
          go_roundw
          case rel => exact ⟨k + 1, by omega, by go_num, by rw [HN.out], by rw [HN.out], HB3.out⟩
          case measure => simp [intOf]; omega
        · rw [hxk] at HEk
          have HN : Hid (brO ex (k + 1) = ((k : Int), bn + 1)) := by show _ = _; rw [HD.out, hxk]; rfl
          clear hxk
          go_wp2_with fail
          refine HEk.out.mono ?_
          rintro e w3 ⟨rfl, hb3⟩
          have HB3 : Hid (Below w1.heap.size w1 w3) := (HBr.out.alloc hzr _).trans (hb3.mono (by simp; omega))
          clear hb3
          go_wp2_with fail
          go_roundw
          case rel => exact ⟨k + 1, by omega, by go_num, by rw [HN.out], by rw [HN.out]; go_num, HB3.out⟩
          case measure => simp [intOf]; omega
      · have h1i : ¬ (k : Int) < 4 := by omega
        obtain rfl : 4 = k := by omega
        generalize brO ex 4 = bk at *
        obtain ⟨bo, bn⟩ := bk
        dsimp only at hle HBR ⊢
        by_cases hbn : bn = 1
        · have hb9 : ((bn : Int) != 1) = false := by simp; omega
          have HR : Hid (blameR ex = bo) := by show _ = _; rw [HBR.out, if_pos hbn]
          clear hbn
          go_wp2_with fail
          go_ret
          exact ⟨ret_int HR.out.symm, HB1.out.trans (HBr.out.mono HB1.out.size)⟩
        · have hb9 : ((bn : Int) != 1) = true := by simp; omega
          have HR : Hid (blameR ex = -1) := by show _ = _; rw [HBR.out, if_neg hbn]
          clear hbn
          go_wp2_with fail
          go_ret
          exact ⟨ret_int HR.out.symm, HB1.out.trans (HBr.out.mono HB1.out.size)⟩
  · rw [hx] at HE
    have HBR : Hid (blameR ex = -1) := by show _ = _; simp [blameR, hx]
    clear hx
    refine HE.out.mono ?_
    rintro e w1 ⟨rfl, hb1⟩
    go_wp2_with fail
    go_ret
    exact ⟨ret_int HBR.out.symm, HB0.out.trans (hb1.mono HB0.out.size)⟩
end Go.Proofs.Ytadjkinpimmhkaa
