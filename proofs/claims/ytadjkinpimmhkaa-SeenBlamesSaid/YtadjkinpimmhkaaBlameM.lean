/-
  The reference's Blame is the program's. Plain facts.
-/
import Derived.Test.YtadjkinpimmhkaaLeast
import Derived.Test.YtadjkinpimmhkaaAsk
namespace Go.Proofs.Ytadjkinpimmhkaa
open Go.RowKit
set_option linter.unusedSimpArgs false
set_option linter.unusedVariables false

theorem off0 : offT [] = fun _ => false := rfl
theorem off1 (n : Nat) : offT [(n : Int)] = setO (fun _ => false) n := by
  funext j
  unfold offT setO
  by_cases h : j = n
  · subst h; simp
  · rw [if_neg h]
    simp
    omega
def brM (ex : (Nat → Bool) → Bool) : Nat → Int × Nat
  | 0 => (-1, 0)
  | n + 1 => if ex (offT [(n : Int)]) then ((n : Int), (brM ex n).2 + 1) else brM ex n
theorem blame_same (ex : (Nat → Bool) → Bool) : (if ex (offT []) then -1 else if (brM ex 4).2 = 1 then (brM ex 4).1 else -1) = if blameOk ex then blameV ex else -1 := by
  rw [off0]
  cases hn : ex fun _ => false
  · simp only [blameV, blameOk, lstM_1, brM, off1, hn]
    cases h0 : ex (setO (fun _ => false) 0) <;> cases h1 : ex (setO (fun _ => false) 1) <;> cases h2 : ex (setO (fun _ => false) 2) <;> cases h3 : ex (setO (fun _ => false) 3) <;> simp [List.range_succ, h0, h1, h2, h3, rx, ix]
  · simp [blameOk, hn]
end Go.Proofs.Ytadjkinpimmhkaa
