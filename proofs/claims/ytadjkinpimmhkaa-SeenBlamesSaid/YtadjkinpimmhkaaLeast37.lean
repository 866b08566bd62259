/-
  The reference's Least.
-/
import Derived.Test.YtadjkinpimmhkaaSetsR
import Derived.Test.YtadjkinpimmhkaaBlameM
import Derived.StillTailTactics
namespace Go.Proofs.Ytadjkinpimmhkaa
open Go.RowKit
set_option linter.unusedSimpArgs false
set_option linter.unusedVariables false

def IntsPost (w : World) (xs : List Int) (e : Ending) (w' : World) : Prop := ∃ A c, e = .returned (.slice A xs.length c) ∧ (xs.length ≤ c ∧ c ≤ 9223372036854775807) ∧ Ints w'.heap.size w' A xs ∧ Below w.heap.size w w'
theorem brM_brO (ex : (Nat → Bool) → Bool) : ∀ n, brM ex n = brO ex n
  | 0 => rfl
  | n + 1 => by rw [brM, brO, brM_brO ex n]
theorem blameR_eq (ex : (Nat → Bool) → Bool) : blameR ex = if blameOk ex then blameV ex else -1 := by
  have h := blame_same ex
  rw [brM_brO] at h
  exact h

set_option maxRecDepth 100000 in
set_option maxHeartbeats 8000000 in
theorem least37_c (A : Option Addr) (ws : List Wd) (c m : Nat) (w : World) (hw : Wds w.heap.size w A ws) (hc : ws.length ≤ c ∧ c ≤ 9223372036854775807) (hl : ws.length ≤ 1000000) (hok : ∀ k, k < ws.length → wordB (m : Int) (wx ws k) = true) (hm : m ≤ 5) :
    Calls Try.prog 37 #[.agg #[.int .i64 (m : Int), .slice A ws.length c]] w (IntsPost w (leastL (explB (m : Int) ws))) := by
  rw [least_firstL]
  have hb0 : Below w.heap.size w (w.alloc (.cells #[.int .i64 (m : Int), .slice A ws.length c] 24)) := (Below.refl _ _).alloc (Nat.le_refl _) _
  have k0 : (w.alloc (.cells #[.int .i64 (m : Int), .slice A ws.length c] 24)).cell? ⟨w.heap.size, 0, none⟩ = some (.int .i64 (m : Int)) := by simp
  have k1 : (w.alloc (.cells #[.int .i64 (m : Int), .slice A ws.length c] 24)).cell? ⟨w.heap.size, 1, none⟩ = some (.slice A ws.length c) := by simp
  have HB0 := Lib.hid hb0
  have HW := Lib.hid (hw.step hb0)
  have HE0 := Lib.hid (fun W (xs : List Int) At ct (h : Wds W.heap.size W A ws) (ht : Ints W.heap.size W At xs) (hct : xs.length ≤ ct ∧ ct ≤ 9223372036854775807) => explains25_c A At ws xs c ct m W h ht hc hct hl hok hm)
  generalize explB (m : Int) ws = ex at *
  clear hb0 hw hok
  go_enter Try.func37, Try.ntmps37
  go_wp2_with fail
  generalize w.alloc (.cells #[.int .i64 (m : Int), .slice A ws.length c] 24) = W0 at k0 k1 HB0 HW ⊢
  refine (sets_c W0).mono ?_
  rintro e w1 ⟨As, cs, vs, rfl, hR, hb1⟩
  replace k0 := cell_of_ans hb1 k0
  replace k1 := cell_of_ans hb1 k1
  replace HW := Lib.hid (HW.out.step hb1)
  have HB1 : Hid (Below w.heap.size w w1) := HB0.out.trans (hb1.mono HB0.out.size)
  have HG := Lib.hid (grd_of (Rws.grd hR)).2.2
  have HSL := Lib.hid setsL_len
  have HRW := Lib.hid (fun k (hk : k < setsL.length) => sets_rows hk)
  have hsl : setsL.length ≤ 1000 := by have := HSL.out; omega
  have HFA := Lib.hid (fun k (hk : k < setsL.length) (h0 : ∀ j, j < k → ex (offT (rx setsL j)) = false) (h : ex (offT (rx setsL k)) = true) => firstL_at hk h0 h)
  have HFN := Lib.hid (fun (h0 : ∀ j, j < setsL.length → ex (offT (rx setsL j)) = false) => firstL_none h0)
  generalize setsL = ss at *
  clear hb1 hR
  go_wp2_with fail
  go_loopw [4] (fun i wr => ∃ k : Nat, k ≤ ss.length ∧ i = .int .i64 k ∧ (∀ j, j < k → ex (offT (rx ss j)) = false) ∧ Below w1.heap.size w1 wr) (fun i _ => ss.length - (intOf i).toNat)
  case atStart => exact ⟨0, by omega, rfl, fun j hj => by omega, Below.refl _ _⟩
  case round =>
    obtain ⟨k, hk, rfl, hno, hbr⟩ := hrel
    have HNO := Lib.hid hno
    have HBr := Lib.hid hbr
    have q0 := cell_of_ans hbr k0
    have q1 := cell_of_ans hbr k1
    have hzr := hbr.size
    clear hno
    by_cases h1 : k < ss.length
    · obtain ⟨b, off, A', c', hA1, hbl, hcell, hc1', hc2', hI⟩ := (HG.out.below hbr).at_ h1
      subst hA1
      have h1i : (k : Int) < (ss.length : Int) := by omega
      have HEk := Lib.hid (HE0.out wr.drew (rx ss k) A' c' ((HW.out.step hbr).step (Below.refl _ _).drew) ((hI.more hzr).below (Below.refl _ _).drew) ⟨hc1', hc2'⟩)
      have HI := Lib.hid (hI.more hzr)
      generalize hrow : rx ss k = row at *
      have HROW := Lib.hid hrow
      clear hbr hI hrow
      go_wp2_with fail
      go_still_tail 5, (by kernel_rfl)
      change wpList _ _ _ _ _ wr.drew
      cases hx : ex (offT row)
      · rw [hx] at HEk
        have HN : Hid (∀ j, j < k + 1 → ex (offT (rx ss j)) = false) := fun j hj => by
          by_cases e : j = k
          · subst e; rw [HROW.out]; exact hx
          · exact HNO.out j (by omega)
        clear hx
        go_wp2_with fail
        refine HEk.out.mono ?_
        rintro e w3 ⟨rfl, hb3⟩
        have HB3 : Hid (Below w1.heap.size w1 w3) := HBr.out.drew.trans (hb3.mono hzr)
        clear hb3
        go_wp2_with fail
        go_roundw
        case rel => exact ⟨k + 1, by omega, by go_num, HN.out, HB3.out⟩
        case measure => simp [intOf]; omega
      · rw [hx] at HEk
        have HF : Hid (firstL ex ss = row) := by show _ = _; rw [HFA.out k h1 HNO.out (by rw [HROW.out]; exact hx)]; exact HROW.out
        clear hx
        go_wp2_with fail
        refine HEk.out.mono ?_
        rintro e w3 ⟨rfl, hb3⟩
        have hb4 : Below wr.heap.size wr w3 := (Below.refl _ _).drew.trans hb3
        have HB3 : Hid (Below w1.heap.size w1 w3) := HBr.out.trans (hb4.mono hzr)
        have q3 := cell_of_ans hb4 hcell
        have HI3 := Lib.hid ((HI.out.below hb4).more hb4.size)
        clear hb3 hb4
        go_wp2_with fail
        go_ret
        rw [HF.out]
        exact ⟨A', c', rfl, ⟨hc1', hc2'⟩, HI3.out, HB1.out.trans (HB3.out.mono HB1.out.size)⟩
    · have h1i : ¬ (k : Int) < (ss.length : Int) := by omega
      obtain rfl : k = ss.length := by omega
      have HF : Hid (firstL ex ss = []) := HFN.out HNO.out
      clear hbr
      go_wp2_with fail
      go_ret
      rw [HF.out]
      exact ⟨none, 0, rfl, by simp, fun hp => by simp at hp, HB1.out.trans (HBr.out.mono HB1.out.size)⟩
end Go.Proofs.Ytadjkinpimmhkaa
