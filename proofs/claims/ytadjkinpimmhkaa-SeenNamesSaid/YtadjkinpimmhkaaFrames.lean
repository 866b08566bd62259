/-
  The reference's Frames: all balls that a frame can have.
-/
import Derived.Test.YtadjkinpimmhkaaLst
namespace Go.Proofs.Ytadjkinpimmhkaa
open Go.RowKit
set_option linter.unusedSimpArgs false
set_option linter.unusedVariables false

def framesTo (f s : Nat) : List (List Int) := [10] :: ((List.range f).flatMap (fun (a : Nat) => (List.range (11 - a)).map fun (b : Nat) => [(a : Int), (b : Int)]) ++ (List.range s).map fun (b : Nat) => [(f : Int), (b : Int)])
def framesL : List (List Int) := framesTo 10 0
theorem framesTo_succ (f s : Nat) : framesTo f (s + 1) = framesTo f s ++ [[(f : Int), (s : Int)]] := by simp [framesTo, List.range_succ]
theorem framesTo_next (f : Nat) : framesTo (f + 1) 0 = framesTo f (11 - f) := by simp [framesTo, List.range_succ (n := f)]
theorem framesTo_len : ∀ f s, f ≤ 10 → s ≤ 11 → (framesTo f s).length ≤ 122 := by
  intro f s hf hs
  simp only [framesTo, List.length_cons, List.length_append, List.length_map, List.length_range]
  have : ((List.range f).flatMap (fun (a : Nat) => (List.range (11 - a)).map fun (b : Nat) => [(a : Int), (b : Int)])).length ≤ f * 11 := by
    induction f with
    | zero => simp
    | succ f ih =>
      rw [List.range_succ, List.flatMap_append, List.length_append]
      have := ih (by omega)
      simp only [List.flatMap_cons, List.flatMap_nil, List.append_nil, List.length_map, List.length_range]
      omega
  omega
theorem rx_snoc {rs : List (List Int)} {x : List Int} : rx (rs ++ [x]) rs.length = x := by unfold rx; simp
theorem rx_keep {rs : List (List Int)} {x : List Int} {j : Nat} (h : j < rs.length) : rx (rs ++ [x]) j = rx rs j := by unfold rx; simp [List.getElem?_append_left h]
/-- A new row of numbers, then it is appended to the rows. -/
theorem wpList_newrow {ops : Array Oper} {rest : List Oper} {o : Oper} {a : Act} {Q : Exit → Act → World → Prop} (s x : Operand) (hgd : o.guard = none) (ho : o.op = .call { callee := .builtin .append, args := #[s, x], argTypes := #[66, 66] })
    (base : Nat) (w : World) (v : Value) (vs : List Value) (rows : List (List Int)) (y z : Int) (hv : a.eval s = v) (hx : a.eval x = .slice (some ⟨w.heap.size + 1, 0, none⟩) 1 1) (hR : Rws base w v rows.length vs (rx rows)) (hl : rows.length ≤ 1000000) (hb : base ≤ w.heap.size)
    (h : ∀ A c vs' w', Hid (Rws base w' (.slice A (rows.length + 1) c) (rows.length + 1) vs' (rx (rows ++ [[y, z]]))) → Hid (Below base w w') → wpList Try.prog ops Q rest (a.put o.dst (.slice A (rows.length + 1) c)) w') :
    wpList Try.prog ops Q (o :: rest) a ((w.alloc (.cells #[.int .i64 y, .int .i64 z] 3)).alloc (.cells #[.slice (some ⟨w.heap.size, 0, none⟩) 2 2] 25)) := by
  have hu : OwnI w.heap.size (w.alloc (.cells #[.int .i64 y, .int .i64 z] 3)) (.slice (some ⟨w.heap.size, 0, none⟩) 2 2) [y, z] :=
    ⟨rfl, .inr ⟨w.heap.size, 2, #[.int .i64 y, .int .i64 z], rfl, Nat.le_refl _, World.alloc_heap_new _ _, by simp, by simp [maxLen], rfl, rfl⟩⟩
  have hb1 : Below w.heap.size w (w.alloc (.cells #[.int .i64 y, .int .i64 z] 3)) := (Below.refl _ _).alloc (Nat.le_refl _) _
  have e : rx (rows ++ [[y, z]]) rows.length = [y, z] := rx_snoc
  refine wpList_app_row s x hgd ho base w (w.alloc (.cells #[.int .i64 y, .int .i64 z] 3)) v rows.length vs (rx (rows ++ [[y, z]])) (some ⟨w.heap.size, 0, none⟩) 2 2 hv (by rw [hx]; simp) (hR.congr fun j hj => rx_keep hj) (by rw [e]; rfl) (by show OwnI _ _ _ _; rw [e]; exact hu) hb1 hl hb h

def RowsPost (w : World) (rs : List (List Int)) (e : Ending) (w' : World) : Prop := ∃ A c, e = .returned (.slice A rs.length c) ∧ (rs.length ≤ c ∧ c ≤ 9223372036854775807) ∧ Grd w'.heap.size w' A rs ∧ Below w.heap.size w w'
def OwnRows (w : World) (rs : List (List Int)) (e : Ending) (w' : World) : Prop := ∃ A c vs, e = .returned (.slice A rs.length c) ∧ Rws w.heap.size w' (.slice A rs.length c) rs.length vs (rx rs) ∧ Below w.heap.size w w'
theorem grd_of {B : Nat} {w : World} {A : Option Addr} {n c : Nat} {rs : List (List Int)} (h : IsGrd B w (.slice A n c) rs) : rs.length ≤ c ∧ c ≤ 9223372036854775807 ∧ Grd B w A rs := by
  obtain ⟨A', c', e, h1, h2, h3⟩ := h
  injection e with e1 e2 e3
  subst e1 e3
  exact ⟨h1, h2, h3⟩

set_option maxRecDepth 100000 in
set_option maxHeartbeats 8000000 in
theorem frames_c (w : World) : Calls Try.prog 74 #[] w (OwnRows w framesL) := by
  have hb0 : Below w.heap.size w ((w.alloc (.cells #[.int .i64 10] 3)).alloc (.cells #[.slice (some ⟨w.heap.size, 0, none⟩) 1 1] 25)) := ((Below.refl _ _).alloc (Nat.le_refl _) _).alloc (by simp) _
  have hR0 : Rws w.heap.size ((w.alloc (.cells #[.int .i64 10] 3)).alloc (.cells #[.slice (some ⟨w.heap.size, 0, none⟩) 1 1] 25)) (.slice (some ⟨w.heap.size + 1, 0, none⟩) 1 1) 1 [.slice (some ⟨w.heap.size, 0, none⟩) 1 1] (rx (framesTo 0 0)) := by
    have hu : OwnI w.heap.size (w.alloc (.cells #[.int .i64 10] 3)) (.slice (some ⟨w.heap.size, 0, none⟩) 1 1) [10] :=
      ⟨rfl, .inr ⟨w.heap.size, 1, #[.int .i64 10], rfl, Nat.le_refl _, World.alloc_heap_new _ _, by simp, by simp [maxLen], rfl, rfl⟩⟩
    refine ⟨⟨rfl, .inr ⟨w.heap.size + 1, 1, #[.slice (some ⟨w.heap.size, 0, none⟩) 1 1], rfl, by omega, ?_, by simp, by simp [maxLen], rfl, rfl⟩⟩, fun j hj => ?_, fun i j u u' hij hi hj => ?_⟩
    · have := World.alloc_heap_new (w.alloc (.cells #[.int .i64 10] 3)) (.cells #[.slice (some ⟨w.heap.size, 0, none⟩) 1 1] 25)
      simpa using this
    · obtain rfl : j = 0 := by omega
      exact ⟨_, rfl, World.ownsRow.alloc hu _, .inr (by simp [Value.ownBlock])⟩
    · have := (List.getElem?_eq_some_iff.1 hj).1
      simp at this
      omega
  go_enter Try.func74, Try.ntmps74
  go_wp2_with fail
  have HB0 := Lib.hid hb0
  have HR0 := Lib.hid hR0
  clear hb0 hR0
  generalize ((w.alloc (.cells #[.int .i64 10] 3)).alloc (.cells #[.slice (some ⟨w.heap.size, 0, none⟩) 1 1] 25)) = W0 at HB0 HR0 ⊢
  go_loopw [2, 1] (fun i v wr => ∃ (k : Nat) (vs : List Value), k ≤ 10 ∧ i = .int .i64 k ∧ Rws w.heap.size wr v (framesTo k 0).length vs (rx (framesTo k 0)) ∧ Below w.heap.size w wr) (fun i _ _ => 10 - (intOf i).toNat)
  case atStart => exact ⟨0, _, by omega, rfl, HR0.out, HB0.out⟩
  case round =>
    obtain ⟨k, vs, hk, rfl, hR, hb⟩ := hrel
    by_cases h1 : k < 10
    · have h1i : (k : Int) < 10 := by omega
      have HR := Lib.hid hR
      have HB := Lib.hid hb
      obtain ⟨W1, rfl⟩ : ∃ W1 : World, W1 = wr := ⟨_, rfl⟩
      clear hR hb
      go_wp2_with fail
      go_loopw [3, 1] (fun i v wr => ∃ (s : Nat) (vs : List Value), s ≤ 11 - k ∧ i = .int .i64 s ∧ Rws w.heap.size wr v (framesTo k s).length vs (rx (framesTo k s)) ∧ Below w.heap.size w wr) (fun i _ _ => 11 - (intOf i).toNat)
      case atStart => exact ⟨0, _, by omega, rfl, HR.out, HB.out⟩
      case round =>
        obtain ⟨s, vs2, hs, rfl, hR2, hb2⟩ := hrel
        have HR2 := Lib.hid hR2
        have HB2 := Lib.hid hb2
        have hz := hb2.size
        clear hR2 hb2
        have z1 : IntKind.i64.wrap (10 - (k : Int)) = 10 - (k : Int) := IntWalk.i64_in _ (by omega)
        by_cases h2 : (s : Int) ≤ 10 - (k : Int)
        · have HL : Hid ((framesTo k s).length ≤ 1000000) := by show _ ≤ _; have := framesTo_len k s (by omega) (by omega); omega
          have HX := Lib.hid (framesTo_succ k s)
          have HXL : Hid ((framesTo k (s + 1)).length = (framesTo k s).length + 1) := by show _ = _; rw [HX.out, List.length_append]; rfl
          go_wp2_with (at_builtin; refine wpList_newrow (.tmp 16) (.tmp 20) rfl rfl w.heap.size _ _ vs2 (framesTo k s) (k : Int) (s : Int) rfl rfl HR2.out HL.out hz ?_; intro A' c' vs' w2 HR3 HB3)
          go_roundw
          case rel => exact ⟨s + 1, vs', by omega, by go_num, by rw [HXL.out, HX.out]; exact HR3.out, HB2.out.trans HB3.out⟩
          case measure => simp [intOf]; omega
        · obtain rfl : s = 11 - k := by omega
          go_wp2_with fail
          go_roundw
          case rel => exact ⟨k + 1, vs2, by omega, by go_num, by rw [framesTo_next]; exact HR2.out, HB2.out⟩
          case measure => simp [intOf]; omega
    · obtain rfl : k = 10 := by omega
      have h1i : ¬ (10 : Int) < 10 := by omega
      obtain ⟨A, c, rfl⟩ := ownsRow_form hR.1
      go_wp2_with fail
      go_ret
      exact ⟨A, c, vs, rfl, hR, hb⟩
end Go.Proofs.Ytadjkinpimmhkaa
