/-
  The law's copy of a list of rows.
-/
import Derived.Test.YtadjkinpimmhkaaFrames
namespace Go.Proofs.Ytadjkinpimmhkaa
open Go.RowKit
set_option linter.unusedSimpArgs false
set_option linter.unusedVariables false

set_option maxRecDepth 100000 in
set_option maxHeartbeats 4000000 in
theorem rows_c (A : Option Addr) (xss : List (List Int)) (c : Nat) (w : World) (hx : Grd w.heap.size w A xss) (hl : xss.length ≤ 1000000) (hr : ∀ k, k < xss.length → (rx xss k).length ≤ 1000000) :
    Calls Try.prog 47 #[.slice A xss.length c] w (OwnRows w xss) := by
  have HX := Lib.hid hx
  have HR := Lib.hid hr
  clear hx hr
  go_enter Try.func47, Try.ntmps47
  go_wp2_with fail
  go_loopw [4, 3] (fun i v wr => ∃ (k : Nat) (vs : List Value), k ≤ xss.length ∧ i = .int .i64 k ∧ Rws w.heap.size wr v k vs (rx xss) ∧ Below w.heap.size w wr) (fun i _ _ => xss.length - (intOf i).toNat)
  case atStart => exact ⟨0, [], by omega, rfl, Rws.nil _ _ _, Below.refl _ _⟩
  case round =>
    obtain ⟨k, vs, hk, rfl, hO, hb⟩ := hrel
    have hz := hb.size
    obtain ⟨Av, cv, rfl⟩ := ownsRow_form hO.1
    by_cases h1 : k < xss.length
    · obtain ⟨b, off, A', c', rfl, hbl, hc1, hc2, hc3, hi3⟩ := (HX.out.below hb).at_ h1
      have h1i : (k : Int) < (xss.length : Int) := by omega
      have HB := Lib.hid hb
      have HO := Lib.hid hO
      have HL := Lib.hid (list_c (B := wr.heap.size) A' (rx xss k) c' wr (hi3.more hz) (Nat.le_refl _) (HR.out k h1))
      clear hb hO hi3
      go_wp2_with fail
      refine HL.out.mono ?_
      rintro e w2 ⟨Au, cu, rfl, hu, hb2⟩
      have HU := Lib.hid hu
      have HB2 := Lib.hid hb2
      have hk6 : k ≤ 1000000 := by omega
      clear hu hb2
      go_wp2_with (at_builtin; refine wpList_app_row (.tmp 11) (.tmp 17) rfl rfl w.heap.size wr w2 _ k vs (rx xss) Au (rx xss k).length cu rfl rfl HO rfl HU HB2 hk6 hz ?_; intro A2 c2 vs2 w3 HO3 HB3)
      go_roundw
      case rel => exact ⟨k + 1, vs2, by omega, by go_num, HO3.out, HB.out.trans HB3.out⟩
      case measure => simp [intOf]; omega
    · have h1i : ¬ (k : Int) < (xss.length : Int) := by omega
      obtain rfl : k = xss.length := by omega
      go_wp2_with fail
      go_ret
      exact ⟨Av, cv, vs, rfl, hO, hb⟩
end Go.Proofs.Ytadjkinpimmhkaa
