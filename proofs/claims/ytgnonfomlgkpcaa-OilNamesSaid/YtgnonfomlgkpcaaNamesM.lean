/-
  The examples of OilNames: plain values.
-/
import Derived.Test.YtgnonfomlgkpcaaPlA
namespace Go.Proofs.Ytgnonfomlgkpcaa

def nmX : List Int × List Int := ([0, 0, 0], [25, 0, 0])
def unevenX : List (List Int) := [[30, 20, 10], [10, 20], [5, 5, 5]]
theorem nm_p1 : enB [0, 0, 0] [20, 6, 5] (endO 50 3 rolledX 2 5 (oilOf laidX) 2) = true := by kernel_rfl
theorem nm_p2 : enB [0, 0, 0] [21, 6, 5] (endO 50 3 rolledX 2 5 (oilOf laidX) 2) = false := by kernel_rfl
theorem nm_l1 : lineB laidX [0, 0, 0] [20, 6, 5] = true := by kernel_rfl
theorem nm_l2 : lineB laidX [0, 0, 0] [21, 6, 5] = true := by kernel_rfl
theorem nm_b3 : blockErr laidX 2 5 50 [nmX, nmX, nmX] = 0 := by kernel_rfl
theorem nm_b4 : blockErr laidX 2 5 50 [nmX, nmX, nmX, nmX] = 0 := by kernel_rfl
theorem nm_q3 : planB laidX 2 5 50 [nmX, nmX, nmX] = some [1] := by kernel_rfl
theorem nm_q4 : planB laidX 2 5 50 [nmX, nmX, nmX, nmX] = some [2] := by kernel_rfl
theorem nm_r3 : provePlan laidX 2 5 50 [nmX, nmX, nmX] [2] = true := by kernel_rfl
theorem nm_r4 : provePlan laidX 2 5 50 [nmX, nmX, nmX, nmX] [1] = false := by kernel_rfl
theorem nm_r2 : provePlan laidX 2 5 50 [nmX, nmX] [0] = false := by kernel_rfl
theorem nm_e1 : playErr laidX 2 5 50 rolledX [[2, 3, 4]] = 2 := by kernel_rfl
theorem nm_e2 : playErr laidX 2 5 50 rolledX [[2, 3, 4], [5, 5, 6]] = 2 := by kernel_rfl
theorem nm_e3 : ballsErr laidX 2 5 50 [[0, 0, 3]] = 2 := by kernel_rfl
theorem nm_e4 : ballsErr laidX 2 5 50 (List.replicate 21 []) = 3 := by kernel_rfl
theorem nm_e5 : lastsErr laidX 2 5 50 [0, 0, 0] [1, 1] = 2 := by kernel_rfl
theorem nm_e6 : blockErr laidX 2 5 50 [([0, 0, 0], [31, 0, 0])] = 0 := by kernel_rfl
theorem nm_e7 : planB laidX 2 5 50 [([0, 0, 0], [31, 0, 0])] = none := by kernel_rfl
theorem nm_f1 : laneErr [] 2 5 50 = 1 := by kernel_rfl
theorem nm_f2 : laneErr laidX 2 10 50 = 1 := by kernel_rfl
theorem nm_f3 : laneErr unevenX 2 5 50 = 1 := by kernel_rfl
theorem nm_f4 : laneErr (List.replicate 9 []) 2 5 50 = 3 := by kernel_rfl
theorem nm_g1 : lastsErr laidX 2 5 50 [0, 0, 0] [31, 0, 0] = 0 := by kernel_rfl
theorem nm_g2 : lastsFrom 50 [0, 0, 0] [31, 0, 0] 2 5 (oilOf laidX) 0 20 = 0 := by kernel_rfl
end Go.Proofs.Ytgnonfomlgkpcaa
