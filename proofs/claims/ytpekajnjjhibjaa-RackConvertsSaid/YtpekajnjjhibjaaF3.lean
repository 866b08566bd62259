/-
  The reference's Over.
-/
import Derived.Test.YtpekajnjjhibjaaF2
import Derived.Test.YtpekajnjjhibjaaC2
namespace Go.Proofs.Ytpekajnjjhibjaa
open Go.RowKit
set_option linter.unusedSimpArgs false
set_option linter.unusedVariables false

attribute [local go_sem] Oper.semAt_some
def overL (r : Rk) (st dr : Int) : List Int := (List.range r.rows.toNat).map (ovF st dr)
set_option maxRecDepth 100000 in
set_option maxHeartbeats 4000000 in
theorem over67_c (r : Rk) (A : Option Addr) (c : Nat) (st dr : Int) (w : World) (hr : Ok r) (h1 : 0 ≤ st) (h2 : st ≤ 60) (h3 : -3 ≤ dr) (h4 : dr ≤ 3) :
    Calls Try.prog 67 #[.agg #[.int .i64 r.rows, .int .i64 r.mid, .int .i64 r.gap, .int .i64 r.reach, .slice A r.links.length c], .agg #[.int .i64 st, .int .i64 dr]] w (NewO w (overL r st dr)) := by
  have HB := Lib.hid (((Below.refl w.heap.size w).alloc (Nat.le_refl _) (.cells #[.int .i64 r.rows, .int .i64 r.mid, .int .i64 r.gap, .int .i64 r.reach, .slice A r.links.length c] 24)).alloc (by simp) (.cells #[.int .i64 st, .int .i64 dr] 50))
  have k0 : ((w.alloc (.cells #[.int .i64 r.rows, .int .i64 r.mid, .int .i64 r.gap, .int .i64 r.reach, .slice A r.links.length c] 24)).alloc (.cells #[.int .i64 st, .int .i64 dr] 50)).cell? ⟨w.heap.size, 0, none⟩ = some (.int .i64 r.rows) := by go_simp
  have s0 : ((w.alloc (.cells #[.int .i64 r.rows, .int .i64 r.mid, .int .i64 r.gap, .int .i64 r.reach, .slice A r.links.length c] 24)).alloc (.cells #[.int .i64 st, .int .i64 dr] 50)).cell? ⟨w.heap.size + 1, 0, none⟩ = some (.int .i64 st) := by go_simp
  have s1 : ((w.alloc (.cells #[.int .i64 r.rows, .int .i64 r.mid, .int .i64 r.gap, .int .i64 r.reach, .slice A r.links.length c] 24)).alloc (.cells #[.int .i64 st, .int .i64 dr] 50)).cell? ⟨w.heap.size + 1, 1, none⟩ = some (.int .i64 dr) := by go_simp
  have hr1 := hr.rows1
  have hr4 := hr.rows4
  go_enter Try.func67, Try.ntmps67
  go_wp2_with fail
  generalize ((w.alloc (.cells #[.int .i64 r.rows, .int .i64 r.mid, .int .i64 r.gap, .int .i64 r.reach, .slice A r.links.length c] 24)).alloc (.cells #[.int .i64 st, .int .i64 dr] 50)) = x1 at *
  have lt0 := World.block_lt_of_cell? _ _ k0
  have lt1 := World.block_lt_of_cell? _ _ s0
  dsimp only at lt0 lt1
  go_loopw [5, 6] (fun o i wr => ∃ k : Nat, k ≤ r.rows.toNat ∧ i = .int .i64 k ∧ OwnI x1.heap.size wr o ((List.range k).map (ovF st dr)) ∧ Below x1.heap.size x1 wr) (fun _ i _ => r.rows.toNat - (intOf i).toNat)
  case atStart => exact ⟨0, by omega, rfl, OwnI.nil _ _, Below.refl _ _⟩
  case round =>
    obtain ⟨k, hk, rfl, hO, hbr⟩ := hrel
    have HO := Lib.hid hO
    have HBR := Lib.hid hbr
    obtain ⟨Ao, co, rfl⟩ := hO.form
    have hwr : x1.heap.size ≤ wr.heap.size := hbr.size
    clear hO hbr
    replace k0 := (HBR.out.cell (p := ⟨w.heap.size, 0, none⟩) lt0).trans k0
    replace s0 := (HBR.out.cell (p := ⟨w.heap.size + 1, 0, none⟩) lt1).trans s0
    replace s1 := (HBR.out.cell (p := ⟨w.heap.size + 1, 1, none⟩) lt1).trans s1
    by_cases hk1 : k < r.rows.toNat
    · have hki : (k : Int) < r.rows := by omega
      have hln : ((List.range k).map (ovF st dr)).length ≤ k := by simp
      have hmd : -9 ≤ (k : Int) * dr ∧ (k : Int) * dr ≤ 9 := by
        rcases (by omega : k = 0 ∨ k = 1 ∨ k = 2 ∨ k = 3) with rfl | rfl | rfl | rfl <;> simp <;> omega
      have HT : Hid ((List.range (k + 1)).map (ovF st dr) = (List.range k).map (ovF st dr) ++ [st + (k : Int) * dr]) := by
        show _ = _
        rw [List.range_succ, List.map_append]
        rfl
      have hw1 : wrap64 ((k : Int) * dr) = (k : Int) * dr := IntWalk.wrap64_in _ (by omega)
      have hw2 : wrap64 (st + (k : Int) * dr) = st + (k : Int) * dr := IntWalk.wrap64_in _ (by omega)
      generalize (List.range k).map (ovF st dr) = os at *
      go_wp2_with (at_builtin; refine wpList_app_int (.tmp 13) (.tmp 21) rfl rfl x1.heap.size _ _ os (st + (k : Int) * dr) rfl rfl HO (by omega) hwr ?_; intro A2 c2 wn HO2 HB2)
      go_roundw
      case rel => exact ⟨k + 1, by omega, by go_num, by rw [HT.out]; exact HO2.out, HBR.out.trans HB2.out⟩
      case measure => simp [intOf]; omega
    · obtain rfl : k = r.rows.toNat := by omega
      have hki : ¬ (r.rows.toNat : Int) < r.rows := by omega
      go_wp2_with fail
      go_ret
      have hov : (overL r st dr).length = r.rows.toNat := by simp [overL]
      have HO2 : Hid (OwnI x1.heap.size wr (.slice Ao (overL r st dr).length co) (overL r st dr)) := HO
      exact ⟨Ao, co, by rw [hov]; rfl, ownsRow_base HO2.out HB.out.size, HB.out.trans (HBR.out.mono HB.out.size)⟩
end Go.Proofs.Ytpekajnjjhibjaa
