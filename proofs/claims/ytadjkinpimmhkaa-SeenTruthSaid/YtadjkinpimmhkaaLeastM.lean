/-
  The least list is the first one of all lists that explains. Plain facts.
-/
import Derived.Test.YtadjkinpimmhkaaLeast
import Derived.Test.YtadjkinpimmhkaaAsk
namespace Go.Proofs.Ytadjkinpimmhkaa
open Go.RowKit
set_option linter.unusedSimpArgs false
set_option linter.unusedVariables false

theorem off_add (xs : List Int) (n : Nat) : offT (xs ++ [(n : Int)]) = setO (offT xs) n := by
  funext j
  rw [offT_snoc]
  unfold setO
  by_cases h : j = n
  · subst h; simp
  · rw [if_neg h, show ((n : Int) == (j : Int)) = false by simp; omega, Bool.or_false]
def setsK : Nat → List (List Int)
  | 0 => [[]]
  | 1 => [[0], [1], [2], [3]]
  | 2 => [[0, 1], [0, 2], [0, 3], [1, 2], [1, 3], [2, 3]]
  | 3 => [[0, 1, 2], [0, 1, 3], [0, 2, 3], [1, 2, 3]]
  | _ => [[0, 1, 2, 3]]
theorem o0 : offT [] = fun _ => false := rfl
theorem o1 (a : Nat) : offT [(a : Int)] = setO (fun _ => false) a := off_add [] a
theorem o2 (a b : Nat) : offT [(a : Int), (b : Int)] = setO (setO (fun _ => false) a) b := by rw [← o1]; exact off_add [(a : Int)] b
theorem o3 (a b c : Nat) : offT [(a : Int), (b : Int), (c : Int)] = setO (setO (setO (fun _ => false) a) b) c := by rw [← o2]; exact off_add [(a : Int), (b : Int)] c
theorem o4 (a b c d : Nat) : offT [(a : Int), (b : Int), (c : Int), (d : Int)] = setO (setO (setO (setO (fun _ => false) a) b) c) d := by rw [← o3]; exact off_add [(a : Int), (b : Int), (c : Int)] d
theorem lst0 (ex : (Nat → Bool) → Bool) : lstM ex 0 = (setsK 0).filter fun s => ex (offT s) := by
  simp only [setsK, o0]
  cases h : ex fun _ => false <;> simp [lstM, lstF, o0, h]
theorem lst1 (ex : (Nat → Bool) → Bool) : lstM ex 1 = (setsK 1).filter fun s => ex (offT s) := by
  have e0 := o1 0; have e1 := o1 1; have e2 := o1 2; have e3 := o1 3
  simp only [Int.natCast_zero, Int.natCast_one, Int.cast_ofNat_Int] at e0 e1 e2 e3
  cases h0 : ex (setO (fun _ => false) 0) <;> cases h1 : ex (setO (fun _ => false) 1) <;> cases h2 : ex (setO (fun _ => false) 2) <;> cases h3 : ex (setO (fun _ => false) 3) <;> simp [lstM, lstF, lstL, setsK, e0, e1, e2, e3, h0, h1, h2, h3]
theorem lst2 (ex : (Nat → Bool) → Bool) : lstM ex 2 = (setsK 2).filter fun s => ex (offT s) := by
  have e0 := o2 0 1
  have e1 := o2 0 2
  have e2 := o2 0 3
  have e3 := o2 1 2
  have e4 := o2 1 3
  have e5 := o2 2 3
  simp only [Int.natCast_zero, Int.natCast_one, Int.cast_ofNat_Int] at e0 e1 e2 e3 e4 e5
  cases h0 : ex (setO (setO (fun _ => false) 0) 1) <;> cases h1 : ex (setO (setO (fun _ => false) 0) 2) <;> cases h2 : ex (setO (setO (fun _ => false) 0) 3) <;> cases h3 : ex (setO (setO (fun _ => false) 1) 2) <;> cases h4 : ex (setO (setO (fun _ => false) 1) 3) <;> cases h5 : ex (setO (setO (fun _ => false) 2) 3) <;> simp [lstM, lstF, lstL, setsK, e0, e1, e2, e3, e4, e5, h0, h1, h2, h3, h4, h5]
theorem lst3 (ex : (Nat → Bool) → Bool) : lstM ex 3 = (setsK 3).filter fun s => ex (offT s) := by
  have e0 := o3 0 1 2
  have e1 := o3 0 1 3
  have e2 := o3 0 2 3
  have e3 := o3 1 2 3
  simp only [Int.natCast_zero, Int.natCast_one, Int.cast_ofNat_Int] at e0 e1 e2 e3
  cases h0 : ex (setO (setO (setO (fun _ => false) 0) 1) 2) <;> cases h1 : ex (setO (setO (setO (fun _ => false) 0) 1) 3) <;> cases h2 : ex (setO (setO (setO (fun _ => false) 0) 2) 3) <;> cases h3 : ex (setO (setO (setO (fun _ => false) 1) 2) 3) <;> simp [lstM, lstF, lstL, setsK, e0, e1, e2, e3, h0, h1, h2, h3]
theorem lst4 (ex : (Nat → Bool) → Bool) : lstM ex 4 = (setsK 4).filter fun s => ex (offT s) := by
  have e0 := o4 0 1 2 3
  simp only [Int.natCast_zero, Int.natCast_one, Int.cast_ofNat_Int] at e0
  cases h0 : ex (setO (setO (setO (setO (fun _ => false) 0) 1) 2) 3) <;> simp [lstM, lstF, lstL, setsK, e0, h0]
/-- The least list is the first one that explains. -/
theorem least_first (ex : (Nat → Bool) → Bool) : leastL ex = rx ((setsK 0 ++ (setsK 1 ++ (setsK 2 ++ (setsK 3 ++ setsK 4)))).filter fun s => ex (offT s)) 0 := by
  simp only [leastL, lst0, lst1, lst2, lst3, lst4, List.filter_append]
end Go.Proofs.Ytadjkinpimmhkaa
