/-
  Explains: the program's answer.
-/
import Derived.Test.YtadjkinpimmhkaaAsk
namespace Go.Proofs.Ytadjkinpimmhkaa
open Go.RowKit
set_option linter.unusedSimpArgs false
set_option linter.unusedVariables false

noncomputable def exErr (frn : Int) (ws : List Wd) (ts : List Int) : Int := if askErr frn ws ts = 0 then (if explB frn ws (offT ts) then 0 else 9) else askErr frn ws ts

set_option maxRecDepth 100000 in
set_option maxHeartbeats 4000000 in
theorem explains_c (A At : Option Addr) (ws : List Wd) (ts : List Int) (c ct : Nat) (frn : Int) (w : World) (hw : Wds w.heap.size w A ws) (ht : Ints w.heap.size w At ts) (hc : ws.length ≤ c ∧ c ≤ 9223372036854775807) (hct : ts.length ≤ ct ∧ ct ≤ 9223372036854775807) : Calls Try.prog 21 #[.agg #[.int .i64 frn, .slice A ws.length c], .slice At ts.length ct] w (Ans w (.tuple #[.bool (decide (askErr frn ws ts = 0) && explB frn ws (offT ts)), .int .i64 (askErr frn ws ts)])) := by
  have hb0 : Below w.heap.size w (w.alloc (.cells #[.int .i64 frn, .slice A ws.length c] 32)) := (Below.refl _ _).alloc (Nat.le_refl _) _
  have k0 : (w.alloc (.cells #[.int .i64 frn, .slice A ws.length c] 32)).cell? ⟨w.heap.size, 0, none⟩ = some (.int .i64 frn) := by simp
  have k1 : (w.alloc (.cells #[.int .i64 frn, .slice A ws.length c] 32)).cell? ⟨w.heap.size, 1, none⟩ = some (.slice A ws.length c) := by simp
  have HB0 := Lib.hid hb0
  by_cases h : askErr frn ws ts = 0
  · have HC := Lib.hid (asked_ok A At ws ts c ct frn (w.alloc (.cells #[.int .i64 frn, .slice A ws.length c] 32)) (hw.step hb0) (ht.step hb0) hc hct h)
    obtain ⟨hl, -⟩ := askOk h
    obtain ⟨h30, hf1, hf5, hok⟩ := laneOk hl
    have HE := Lib.hid h
    have HOK := Lib.hid hok
    obtain ⟨m, rfl⟩ : ∃ m : Nat, frn = (m : Int) := ⟨frn.toNat, by omega⟩
    have hm5 : m ≤ 5 := by omega
    clear h hl hok hb0
    rw [HE.out, show (decide ((0 : Int) = 0) && explB (m : Int) ws (offT ts)) = explB (m : Int) ws (offT ts) by simp]
    generalize offT ts = o at HC ⊢
    go_enter Try.func21, Try.ntmps21
    go_wp2_with fail
    generalize (w.alloc (.cells #[.int .i64 (m : Int), .slice A ws.length c] 32)) = W0 at k0 k1 HC HB0 ⊢
    refine HC.out.mono ?_
    rintro e w1 ⟨p, b, rfl, hp1, hp2, hb1, hWat, hbw⟩
    have HWA := Lib.hid (hWat.step (w' := w1.alloc (.cells #[.bool (o 0), .bool (o 1), .bool (o 2), .bool (o 3)] 92)) ((Below.refl _ _).alloc (Nat.le_refl _) _) hbw.size)
    have HB1 : Hid (Below W0.heap.size W0 (w1.alloc (.cells #[.bool (o 0), .bool (o 1), .bool (o 2), .bool (o 3)] 92))) := hbw.alloc hbw.size _
    have x0 : (w1.alloc (.cells #[.bool (o 0), .bool (o 1), .bool (o 2), .bool (o 3)] 92)).cell? ⟨w1.heap.size, 0, none⟩ = some (.bool (o 0)) := by simp
    have x1 : (w1.alloc (.cells #[.bool (o 0), .bool (o 1), .bool (o 2), .bool (o 3)] 92)).cell? ⟨w1.heap.size, 1, none⟩ = some (.bool (o 1)) := by simp
    have x2 : (w1.alloc (.cells #[.bool (o 0), .bool (o 1), .bool (o 2), .bool (o 3)] 92)).cell? ⟨w1.heap.size, 2, none⟩ = some (.bool (o 2)) := by simp
    have x3 : (w1.alloc (.cells #[.bool (o 0), .bool (o 1), .bool (o 2), .bool (o 3)] 92)).cell? ⟨w1.heap.size, 3, none⟩ = some (.bool (o 3)) := by simp
    have hs0 := HB0.out.size
    clear hWat hbw
    go_wp2_with fail
    generalize w1.alloc (.cells #[.bool (o 0), .bool (o 1), .bool (o 2), .bool (o 3)] 92) = w2 at HWA HB1 x0 x1 x2 x3 ⊢
    refine (explain_c p b 0 c m o A ws w2 HB1.out.size (World.block_lt_of_cell? w2 _ HWA.out.cn) hb1 HWA.out (by omega) HOK.out hm5 (by omega)).mono ?_
    rintro e w3 ⟨rfl, -, hg⟩
    have HG := Lib.hid hg
    clear hg
    go_wp2_with fail
    go_ret2
    refine ⟨rfl, (HB0.out.trans (HB1.out.mono hs0)).grown HG.out (Nat.le_trans hs0 HB1.out.size) (fun j e => by injection e with e; subst e; omega)⟩
  · have HC := Lib.hid (asked_bad A At ws ts c ct frn (w.alloc (.cells #[.int .i64 frn, .slice A ws.length c] 32)) (hw.step hb0) (ht.step hb0) hc hct h)
    have hne : (askErr frn ws ts != 0) = true := by simp [h]
    rw [show (decide (askErr frn ws ts = 0) && explB frn ws (offT ts)) = false by simp [h]]
    generalize askErr frn ws ts = er at HC hne ⊢
    clear h hb0
    go_enter Try.func21, Try.ntmps21
    go_wp2_with fail
    generalize (w.alloc (.cells #[.int .i64 frn, .slice A ws.length c] 32)) = W0 at k0 k1 HC HB0 ⊢
    refine HC.out.mono ?_
    rintro e w1 ⟨rfl, hb1⟩
    have HB1 := Lib.hid (HB0.out.trans (hb1.mono HB0.out.size))
    clear hb1
    go_wp2_with fail
    go_ret2
    exact ⟨rfl, HB1.out.alloc HB1.out.size _⟩
end Go.Proofs.Ytadjkinpimmhkaa
