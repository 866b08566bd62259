/-
  mirrored, turned.
-/
import Derived.Test.YtpekajnjjhibjaaTurnM
import Derived.Test.YtpekajnjjhibjaaE1
namespace Go.Proofs.Ytpekajnjjhibjaa
open Go.RowKit
set_option linter.unusedSimpArgs false
set_option linter.unusedVariables false

attribute [local go_sem] Oper.semAt_some
set_option maxRecDepth 100000 in
set_option maxHeartbeats 2000000 in
theorem mirrored47_c (p : Nat) (w : World) (hp : p < 10) : Calls Try.prog 47 #[.int .i64 (p : Int)] w (Same w (.int .i64 (mir p : Int))) := by
  have HPL := Lib.hid (fun W => place79_c p W hp)
  obtain ⟨-, -, -, h4, h5⟩ := mir_all p hp
  have hr := (show ∀ p, p < 10 → rowP p < 4 from by decide) p hp
  have HM : Hid (((rowP p : Int) * ((rowP p : Int) + 1)) / 2 + (rowP p : Int) - (atP p : Int) = (mir p : Int)) := (show ∀ p, p < 10 → ((rowP p : Int) * ((rowP p : Int) + 1)) / 2 + (rowP p : Int) - (atP p : Int) = (mir p : Int) from by decide) p hp
  generalize rowP p = row at *
  generalize atP p = at' at *
  have hm : 0 ≤ (row : Int) * ((row : Int) + 1) ∧ (row : Int) * ((row : Int) + 1) ≤ 12 := by
    rcases (by omega : row = 0 ∨ row = 1 ∨ row = 2 ∨ row = 3) with rfl | rfl | rfl | rfl <;> decide
  have hw1 : wrap64 ((row : Int) + 1) = (row : Int) + 1 := IntWalk.wrap64_in _ (by omega)
  have hw2 : wrap64 ((row : Int) * ((row : Int) + 1)) = (row : Int) * ((row : Int) + 1) := IntWalk.wrap64_in _ (by omega)
  go_enter Try.func47, Try.ntmps47
  go_wp2_with fail
  refine (HPL.out _).mono ?_
  rintro e w1 ⟨rfl, rfl⟩
  go_wp2_with fail
  go_ret
  exact ⟨ret_int HM.out, rfl⟩
set_option maxRecDepth 100000 in
set_option maxHeartbeats 8000000 in
theorem turned48_c (r : Rk) (A xA : Option Addr) (c cx : Nat) (xs : List Int) (w : World) (hr : Ok r) (hx : Ints w.heap.size w xA xs) (hcx : xs.length ≤ cx ∧ cx ≤ 9223372036854775807) :
    Calls Try.prog 48 #[.agg #[.int .i64 r.rows, .int .i64 r.mid, .int .i64 r.gap, .int .i64 r.reach, .slice A r.links.length c], .slice xA xs.length cx] w (NewO w (turnL r xs)) := by
  have HB := Lib.hid (Below.refl w.heap.size w)
  have HX := Lib.hid hx
  clear hx
  have hb : Below w.heap.size w (w.alloc (.cells #[.int .i64 r.rows, .int .i64 r.mid, .int .i64 r.gap, .int .i64 r.reach, .slice A r.links.length c] 24)) := (Below.refl _ _).alloc (Nat.le_refl _) _
  replace HX := Lib.hid (HX.out.step hb)
  replace HB := Lib.hid (HB.out.trans (hb.mono HB.out.size))
  clear hb
  have k0 : (w.alloc (.cells #[.int .i64 r.rows, .int .i64 r.mid, .int .i64 r.gap, .int .i64 r.reach, .slice A r.links.length c] 24)).cell? ⟨w.heap.size, 0, none⟩ = some (.int .i64 r.rows) := by simp
  have k1 : (w.alloc (.cells #[.int .i64 r.rows, .int .i64 r.mid, .int .i64 r.gap, .int .i64 r.reach, .slice A r.links.length c] 24)).cell? ⟨w.heap.size, 1, none⟩ = some (.int .i64 r.mid) := by simp
  have k2 : (w.alloc (.cells #[.int .i64 r.rows, .int .i64 r.mid, .int .i64 r.gap, .int .i64 r.reach, .slice A r.links.length c] 24)).cell? ⟨w.heap.size, 2, none⟩ = some (.int .i64 r.gap) := by simp
  have k3 : (w.alloc (.cells #[.int .i64 r.rows, .int .i64 r.mid, .int .i64 r.gap, .int .i64 r.reach, .slice A r.links.length c] 24)).cell? ⟨w.heap.size, 3, none⟩ = some (.int .i64 r.reach) := by simp
  have k4 : (w.alloc (.cells #[.int .i64 r.rows, .int .i64 r.mid, .int .i64 r.gap, .int .i64 r.reach, .slice A r.links.length c] 24)).cell? ⟨w.heap.size, 4, none⟩ = some (.slice A r.links.length c) := by simp
  have hpn := pn_le hr.rows1 hr.rows4
  have HPI := Lib.hid (fun W => pins40_c r.rows r.mid r.gap r.reach A r.links.length c W hr.rows1 hr.rows4)
  have HTU : Hid (turnL r xs = turnT xs (pn r.rows)) := rfl
  clear hr
  obtain ⟨n, hn⟩ : ∃ n, n = pn r.rows := ⟨_, rfl⟩
  rw [← hn] at hpn HPI HTU
  clear hn
  go_enter Try.func48, Try.ntmps48
  go_wp2_with fail
  generalize (w.alloc (.cells #[.int .i64 r.rows, .int .i64 r.mid, .int .i64 r.gap, .int .i64 r.reach, .slice A r.links.length c] 24)) = x1 at *
  go_loopw [5, 6] (fun o i wr => ∃ k : Nat, k ≤ n ∧ i = .int .i64 k ∧ OwnI x1.heap.size wr o (turnT xs k) ∧ Below x1.heap.size x1 wr) (fun _ i _ => n - (intOf i).toNat)
  case atStart => exact ⟨0, by omega, rfl, OwnI.nil _ _, Below.refl _ _⟩
  case round =>
    obtain ⟨k, hk, rfl, ho, hb⟩ := hrel
    have HO := Lib.hid ho
    have HBr := Lib.hid hb
    obtain ⟨Ao, co, rfl⟩ := ho.form
    have hwr : x1.heap.size ≤ wr.heap.size := hb.size
    clear ho
    replace k0 := cell_of_ans hb k0
    replace k1 := cell_of_ans hb k1
    replace k2 := cell_of_ans hb k2
    replace k3 := cell_of_ans hb k3
    replace k4 := cell_of_ans hb k4
    clear hb
    go_wp2_with fail
    refine (HPI.out _).mono ?_
    rintro e w2 ⟨rfl, hb⟩
    replace HO := Lib.hid (HO.out.kept hb)
    replace HBr := Lib.hid (HBr.out.trans (hb.mono hwr))
    replace hwr : x1.heap.size ≤ w2.heap.size := Nat.le_trans hwr hb.size
    clear hb
    by_cases h1 : k < n
    · have hki : (k : Int) < (n : Int) := by omega
      have hfk := turnT_len xs k
      have HT : Hid (turnT xs (k + 1) = if hasB xs (mir k : Int) then turnT xs k ++ [(k : Int)] else turnT xs k) := rfl
      have HMI := Lib.hid (fun W => mirrored47_c k W (by omega))
      have HHA := Lib.hid (fun (W : World) h => has35_c (B := W.heap.size) xA xs cx (mir k : Int) W h hcx)
      have HX2 := Lib.hid ((HX.out.below HBr.out).more hwr)
      clear k0 k1 k2 k3 k4
      generalize turnT xs k = os at *
      cases e1 : hasB xs (mir k : Int)
      all_goals rw [e1] at HT HHA
      all_goals go_wp2_with fail
      all_goals refine (HMI.out _).mono ?_
      all_goals rintro e w3 ⟨rfl, rfl⟩
      all_goals go_wp2_with fail
      all_goals refine (HHA.out _ HX2.out).mono ?_
      all_goals rintro e w4 ⟨rfl, rfl⟩
      · go_wp2_with fail
        go_roundw
        case rel => exact ⟨k + 1, by omega, by go_num, by rw [HT.out]; exact HO.out, HBr.out⟩
        case measure => simp [intOf]; omega
      · go_wp2_with (at_builtin; refine wpList_app_int (.tmp 17) (.tmp 19) rfl rfl x1.heap.size _ _ os (k : Int) rfl rfl HO (by omega) hwr ?_; intro A2 c2 wn HO2 HB2)
        go_roundw
        case rel => exact ⟨k + 1, by omega, by go_num, by rw [HT.out]; exact HO2.out, HBr.out.trans HB2.out⟩
        case measure => simp [intOf]; omega
    · obtain rfl : k = n := by omega
      have hki : ¬ (k : Int) < (k : Int) := by omega
      go_wp2_with fail
      go_ret
      rw [HTU.out]
      exact ⟨Ao, co, rfl, ownsRow_base HO.out HB.out.size, HB.out.trans (HBr.out.mono HB.out.size)⟩
end Go.Proofs.Ytpekajnjjhibjaa
