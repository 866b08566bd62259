/-
  The reference's Convert, walked.
-/
import Derived.Test.YtpekajnjjhibjaaF4
namespace Go.Proofs.Ytpekajnjjhibjaa
open Go.RowKit
set_option linter.unusedSimpArgs false
set_option linter.unusedVariables false

attribute [local go_sem] Oper.semAt_some
/-- What the reference's Convert answers. -/
noncomputable def rcO (r : Rk) (xs : List Int) (may : Bool) : Option Nat := convO r (pinS r xs) (carryOf r.links may)
noncomputable def rcL (r : Rk) (xs : List Int) (may : Bool) : Int × Int := match rcO r xs may with | some n => (lineS n, lineD n) | none => (0, 0)
set_option maxRecDepth 100000 in
set_option maxHeartbeats 16000000 in
theorem convert29_c (r : Rk) (A xA : Option Addr) (c cx : Nat) (xs : List Int) (may : Bool) (w : World) (hl : Lks w.heap.size w A r.links) (hc : r.links.length ≤ c ∧ c ≤ 9223372036854775807) (hx : Ints w.heap.size w xA xs) (hcx : xs.length ≤ cx ∧ cx ≤ 9223372036854775807) (he : pinErr r xs = 0) :
    Calls Try.prog 29 #[.agg #[.int .i64 r.rows, .int .i64 r.mid, .int .i64 r.gap, .int .i64 r.reach, .slice A r.links.length c], .slice xA xs.length cx, .bool may] w (Ans w (.tuple #[.agg #[.int .i64 (rcL r xs may).1, .int .i64 (rcL r xs may).2], .bool (rcO r xs may).isSome])) := by
  have hb : Below w.heap.size w ((w.alloc (.cells #[.int .i64 r.rows, .int .i64 r.mid, .int .i64 r.gap, .int .i64 r.reach, .slice A r.links.length c] 24)).alloc (.cells #[.int .i64 0, .int .i64 0] 50)) := ((Below.refl w.heap.size w).alloc (Nat.le_refl _) _).alloc (by simp) _
  have HB := Lib.hid hb
  have HL := Lib.hid (hl.step hb)
  have HX := Lib.hid (hx.step hb)
  clear hb hl hx
  have k0 : ((w.alloc (.cells #[.int .i64 r.rows, .int .i64 r.mid, .int .i64 r.gap, .int .i64 r.reach, .slice A r.links.length c] 24)).alloc (.cells #[.int .i64 0, .int .i64 0] 50)).cell? ⟨w.heap.size, 0, none⟩ = some (.int .i64 r.rows) := by go_simp
  have k1 : ((w.alloc (.cells #[.int .i64 r.rows, .int .i64 r.mid, .int .i64 r.gap, .int .i64 r.reach, .slice A r.links.length c] 24)).alloc (.cells #[.int .i64 0, .int .i64 0] 50)).cell? ⟨w.heap.size, 1, none⟩ = some (.int .i64 r.mid) := by go_simp
  have k2 : ((w.alloc (.cells #[.int .i64 r.rows, .int .i64 r.mid, .int .i64 r.gap, .int .i64 r.reach, .slice A r.links.length c] 24)).alloc (.cells #[.int .i64 0, .int .i64 0] 50)).cell? ⟨w.heap.size, 2, none⟩ = some (.int .i64 r.gap) := by go_simp
  have k3 : ((w.alloc (.cells #[.int .i64 r.rows, .int .i64 r.mid, .int .i64 r.gap, .int .i64 r.reach, .slice A r.links.length c] 24)).alloc (.cells #[.int .i64 0, .int .i64 0] 50)).cell? ⟨w.heap.size, 3, none⟩ = some (.int .i64 r.reach) := by go_simp
  have k4 : ((w.alloc (.cells #[.int .i64 r.rows, .int .i64 r.mid, .int .i64 r.gap, .int .i64 r.reach, .slice A r.links.length c] 24)).alloc (.cells #[.int .i64 0, .int .i64 0] 50)).cell? ⟨w.heap.size, 4, none⟩ = some (.slice A r.links.length c) := by go_simp
  have HZ : Hid (At2 ((w.alloc (.cells #[.int .i64 r.rows, .int .i64 r.mid, .int .i64 r.gap, .int .i64 r.reach, .slice A r.links.length c] 24)).alloc (.cells #[.int .i64 0, .int .i64 0] 50)) (w.heap.size + 1) 50 0 0) := by show At2 _ _ _ _ _; unfold At2; rw [show w.heap.size + 1 = (w.alloc (.cells #[.int .i64 r.rows, .int .i64 r.mid, .int .i64 r.gap, .int .i64 r.reach, .slice A r.links.length c] 24)).heap.size by simp]; exact World.alloc_heap_new _ _
  have HRL : Hid (rcL r xs may = match rcO r xs may with | some n => (lineS n, lineD n) | none => (0, 0)) := rfl
  have HCO1 : Hid (∀ n, n < 427 → cvN r (pinS r xs) (carryOf r.links may) n = true → (∀ m, m < n → cvN r (pinS r xs) (carryOf r.links may) m = false) → rcO r xs may = some n) := fun n h1 h2 h3 => convO_some h1 h2 h3
  have HCO2 : Hid ((∀ m, m < 427 → cvN r (pinS r xs) (carryOf r.links may) m = false) → rcO r xs may = none) := fun h => convO_none h
  have HCV := Lib.hid (fun (i j : Nat) (hi : i < 61) (hj : j < 7) (W : World) h1 h2 => (show Calls Try.prog 28 #[.agg #[.int .i64 r.rows, .int .i64 r.mid, .int .i64 r.gap, .int .i64 r.reach, .slice A r.links.length c], .slice xA xs.length cx, .agg #[.int .i64 (i : Int), .int .i64 ((j : Int) - 3)], .bool may] W (Ans W (.bool (cvN r (pinS r xs) (carryOf r.links may) (7 * i + j)))) from by
    have h := converts28_c r A xA c cx xs (i : Int) ((j : Int) - 3) may W h1 hc h2 hcx he (by omega) (by omega) (by omega) (by omega)
    rw [cvN, (line_at i j hj).1, (line_at i j hj).2]
    exact h))
  generalize hcf : cvN r (pinS r xs) (carryOf r.links may) = cv at *
  clear hcf he
  go_enter Try.func29, Try.ntmps29
  go_wp2_with fail
  generalize ((w.alloc (.cells #[.int .i64 r.rows, .int .i64 r.mid, .int .i64 r.gap, .int .i64 r.reach, .slice A r.links.length c] 24)).alloc (.cells #[.int .i64 0, .int .i64 0] 50)) = x2 at *
  have lt0 := World.block_lt_of_cell? _ _ k0
  have ltz := HZ.out.lt
  dsimp only at lt0
  go_loopw [8, 9, 10] (fun i d e wr => ∃ i' : Nat, i' ≤ 61 ∧ i = .int .i64 i' ∧ (∀ m, m < 7 * i' → cv m = false) ∧ Below x2.heap.size x2 wr) (fun i _ _ _ => 61 - (intOf i).toNat)
  case atStart => exact ⟨0, by omega, rfl, fun m hm => by omega, Below.refl _ _⟩
  case round =>
    obtain ⟨i, hi, rfl, hno, hb⟩ := hrel
    have HNO := Lib.hid hno
    have HBI := Lib.hid hb
    clear hno hb
    by_cases h1 : i < 61
    · have h1i : (i : Int) ≤ 60 := by omega
      have hwi : IntKind.i64.wrap ((i : Int) + 1) = (i : Int) + 1 := IntWalk.i64_in _ (by omega)
      go_wp2_with fail
      generalize wr = wo at *
      go_loopw [9, 10] (fun d e wr => ∃ j : Nat, j ≤ 7 ∧ d = .int .i64 ((j : Int) - 3) ∧ (∀ m, m < 7 * i + j → cv m = false) ∧ Below x2.heap.size x2 wr) (fun d _ _ => (4 - intOf d).toNat)
      case atStart => exact ⟨0, by omega, rfl, fun m hm => HNO.out m (by omega), HBI.out⟩
      case round =>
        obtain ⟨j, hj, rfl, hno, hb⟩ := hrel
        have HNJ := Lib.hid hno
        have HBJ := Lib.hid hb
        by_cases h2 : j < 7
        · have h2i : (j : Int) - 3 ≤ 3 := by omega
          have t0 := cell_of_ans hb k0
          have t1 := cell_of_ans hb k1
          have t2 := cell_of_ans hb k2
          have t3 := cell_of_ans hb k3
          have t4 := cell_of_ans hb k4
          have lt1 := World.block_lt_of_cell? _ _ t0
          dsimp only at lt1
          have hbl : Below x2.heap.size x2 (wr.alloc (.cells #[.int .i64 (i : Int), .int .i64 ((j : Int) - 3)] 50)) := hb.alloc hb.size _
          have HBL := Lib.hid hbl
          have HLl := Lib.hid (HL.out.step hbl)
          have HXl := Lib.hid (HX.out.step hbl)
          have HC := Lib.hid (HCV.out i j h1 h2 (wr.alloc (.cells #[.int .i64 (i : Int), .int .i64 ((j : Int) - 3)] 50)) HLl.out HXl.out)
          have hw : IntKind.i64.wrap ((j : Int) - 3 + 1) = (j : Int) - 3 + 1 := IntWalk.i64_in _ (by omega)
          have l0 : (wr.alloc (.cells #[.int .i64 (i : Int), .int .i64 ((j : Int) - 3)] 50)).cell? ⟨wr.heap.size, 0, none⟩ = some (.int .i64 (i : Int)) := by simp
          have l1 : (wr.alloc (.cells #[.int .i64 (i : Int), .int .i64 ((j : Int) - 3)] 50)).cell? ⟨wr.heap.size, 1, none⟩ = some (.int .i64 ((j : Int) - 3)) := by simp
          cases e1 : cv (7 * i + j)
          · rw [e1] at HC
            have HE1 := Lib.hid e1
            clear e1 hno hb hbl
            go_wp2_with fail
            refine HC.out.mono ?_
            rintro e w3 ⟨rfl, hb3⟩
            have HB3 := Lib.hid hb3
            clear hb3
            go_wp2_with fail
            go_roundw
            case rel => exact ⟨j + 1, by omega, by congr 1; omega, fun m hm => (by
              by_cases e : m = 7 * i + j
              · rw [e]; exact HE1.out
              · exact HNJ.out m (by omega)), HBL.out.trans (HB3.out.mono HBL.out.size)⟩
            case measure => simp [intOf]; omega
          · rw [e1] at HC
            have HCO : Hid (rcO r xs may = some (7 * i + j)) := HCO1.out _ (by omega) e1 HNJ.out
            have HLA : Hid (lineS (7 * i + j) = (i : Int) ∧ lineD (7 * i + j) = (j : Int) - 3) := line_at i j h2
            clear e1 hno hb hbl
            go_wp2_with fail
            refine HC.out.mono ?_
            rintro e w3 ⟨rfl, hb3⟩
            have HBW : Hid (Below x2.heap.size x2 w3) := HBL.out.trans (hb3.mono HBL.out.size)
            replace l0 := cell_of_ans hb3 l0
            replace l1 := cell_of_ans hb3 l1
            clear hb3
            have HZ3 := Lib.hid (HZ.out.step HBW.out)
            have HB4 : Hid (Below w.heap.size w w3) := HB.out.trans (HBW.out.mono HB.out.size)
            clear k0 k1 k2 k3 k4 t0 t1 t2 t3 t4
            obtain ⟨⟨z0, z1⟩, zf⟩ := HZ3.out.cells
            have zf0 := zf 0
            have zf1 := zf 1
            have HF := Lib.hid (HZ3.out.set ((i : Int)) ((j : Int) - 3))
            have HBF : Hid (Below w.heap.size w ((w3.setCell ⟨w.heap.size + 1, 0, none⟩ (.int .i64 ((i : Int)))).setCell ⟨w.heap.size + 1, 1, none⟩ (.int .i64 ((j : Int) - 3)))) := (HB4.out.setCell (by simp) _).setCell (by simp) _
            clear zf
            go_wp2_with fail
            generalize (w3.setCell ⟨w.heap.size + 1, 0, none⟩ (.int .i64 ((i : Int)))).setCell ⟨w.heap.size + 1, 1, none⟩ (.int .i64 ((j : Int) - 3)) = W9 at *
            obtain ⟨⟨y0, y1⟩, -⟩ := HF.out.cells
            refine bodyPost_ret (v := .tuple #[.agg #[.int .i64 ((i : Int)), .int .i64 ((j : Int) - 3)], .bool true]) (by simp [results, Try.results29, go_sem, y0, y1]) rfl ?_
            exact ⟨by rw [HRL.out, HCO.out]; simp [HLA.out.1, HLA.out.2], HBF.out⟩
        · have h2i : ¬ (j : Int) - 3 ≤ 3 := by omega
          obtain rfl : j = 7 := by omega
          clear hno hb
          go_wp2_with fail
          go_roundw
          case rel => exact ⟨i + 1, by omega, by go_num, fun m hm => HNJ.out m (by omega), HBJ.out⟩
          case measure => simp [intOf]; omega
    · have h1i : ¬ (i : Int) ≤ 60 := by omega
      obtain rfl : i = 61 := by omega
      have HCO : Hid (rcO r xs may = none) := HCO2.out fun m hm => HNO.out m (by omega)
      have HZ3 := Lib.hid (HZ.out.step HBI.out)
      have HB4 : Hid (Below w.heap.size w wr) := HB.out.trans (HBI.out.mono HB.out.size)
      clear k0 k1 k2 k3 k4
      obtain ⟨⟨z0, z1⟩, zf⟩ := HZ3.out.cells
      have zf0 := zf 0
      have zf1 := zf 1
      have HF := Lib.hid (HZ3.out.set (0) (0))
      have HBF : Hid (Below w.heap.size w ((wr.setCell ⟨w.heap.size + 1, 0, none⟩ (.int .i64 (0))).setCell ⟨w.heap.size + 1, 1, none⟩ (.int .i64 (0)))) := (HB4.out.setCell (by simp) _).setCell (by simp) _
      clear zf
      go_wp2_with fail
      generalize (wr.setCell ⟨w.heap.size + 1, 0, none⟩ (.int .i64 (0))).setCell ⟨w.heap.size + 1, 1, none⟩ (.int .i64 (0)) = W9 at *
      obtain ⟨⟨y0, y1⟩, -⟩ := HF.out.cells
      refine bodyPost_ret (v := .tuple #[.agg #[.int .i64 (0), .int .i64 (0)], .bool false]) (by simp [results, Try.results29, go_sem, y0, y1]) rfl ?_
      exact ⟨by rw [HRL.out, HCO.out]; simp, HBF.out⟩
end Go.Proofs.Ytpekajnjjhibjaa
