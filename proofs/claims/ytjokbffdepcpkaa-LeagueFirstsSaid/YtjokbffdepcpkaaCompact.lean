/-
  slices.Compact: is the result as long as the list?
-/
import Derived.Test.YtjokbffdepcpkaaPD
namespace Go.Proofs.Ytjokbffdepcpkaa
open Go.RowKit
set_option linter.unusedSimpArgs false
set_option linter.unusedVariables false

attribute [local go_sem] Oper.semAt_some
/-- Numbers, none of them the same as the one ahead of it. -/
def noAdj (xs : List Int) (n : Nat) : Prop := ∀ j, 1 ≤ j → j < n → ix xs j ≠ ix xs (j - 1)
/-- A list no longer than xs; as long, just if no number is the same as the one ahead of it. -/
def CompP (base : Nat) (w : World) (xs : List Int) (e : Ending) (w' : World) : Prop := ∃ A n c, e = .returned (.slice A n c) ∧ n ≤ xs.length ∧ (n = xs.length ↔ noAdj xs xs.length) ∧ Below base w w'
theorem OwnI.cells {base : Nat} {w : World} {g n c : Nat} {xs : List Int} (h : OwnI base w (.slice (some ⟨g, 0, none⟩) n c) xs) {k : Nat} (hk : k < xs.length) : w.cell? ⟨g, k, none⟩ = some (.int .i64 (ix xs k)) := by
  obtain ⟨A, c', e'⟩ := h.form
  have hn : n = xs.length := by injection e'
  subst hn
  obtain ⟨A, c2, e1, h1, h2, h3⟩ := h.isInts
  injection e1 with e1 e2 e3
  subst e1 e3
  obtain ⟨b, off, e1, hb, hc⟩ := h3.at_ hk
  injection e1 with e1
  injection e1 with e1 e2
  subst e1 e2
  rwa [Nat.zero_add] at hc
theorem OwnI.stored {base : Nat} {w : World} {g n c : Nat} {xs : List Int} (h : OwnI base w (.slice (some ⟨g, 0, none⟩) n c) xs) (k : Nat) (v : Int) : OwnI base (w.setCell ⟨g, k, none⟩ (.int .i64 v)) (.slice (some ⟨g, 0, none⟩) n c) (xs.set k v) := by
  obtain ⟨A, c', e⟩ := h.form
  have hn : n = xs.length := by injection e
  subst hn
  unfold OwnI at h ⊢
  rw [List.length_set, List.map_set]
  exact (World.ownsRow.stored h k (.int .i64 v)).1
theorem OwnI.some_ {base : Nat} {w : World} {A : Option Addr} {n c : Nat} {xs : List Int} (h : OwnI base w (.slice A n c) xs) (hp : 0 < xs.length) : ∃ g, A = some ⟨g, 0, none⟩ ∧ base ≤ g ∧ g < w.heap.size := by
  rcases h.2 with ⟨e, h0⟩ | ⟨g, cap, cur, e, hb, hg, hn, hm, hs, ht⟩
  · injection e with e1 e2 e3
    omega
  · injection e with e1 e2 e3
    exact ⟨g, e1, hb, (Array.getElem?_eq_some_iff.1 hg).1⟩
def zI (m : Nat) : List Value := (Builtin.zeroCells #[.int .i64 0] m).toList
theorem zI_len (m : Nat) : (zI m).length = m := by simp [zI, Builtin.zeroCells]
theorem zI_one (m : Nat) : ∀ v ∈ zI m, v.oneCell' = true := by
  intro v hv
  unfold zI Builtin.zeroCells at hv
  simp only [Array.toList_map, List.mem_map] at hv
  obtain ⟨i, _, rfl⟩ := hv
  have h : i % 1 = 0 := by omega
  simp [h]
  rfl
def clearedI (w : World) (g o m : Nat) (cur : Array Value) : World := w.setRow g (cur.toList.take (o + 0) ++ zI m ++ cur.toList.drop (o + 0 + (zI m).length)).toArray
theorem run_clear_I {w : World} {g o m c : Nat} {cur : Array Value} (hg : w.heap[g]? = some (.cells cur 3)) (hm : 0 < m) (hsz : o + m ≤ cur.size) (ty : TypeId) :
    (Builtin.clear_ #[34] ty #[.slice (some ⟨g, o, none⟩) m c]).run Try.prog w = .ok (.tuple #[]) (clearedI w g o m cur) := by
  obtain ⟨i, hi, hz, hz1, hz2⟩ := info_parts infoInt
  have hst := run_storeCells_at (P := Try.prog) g o 3 (zI m) 0 cur w hg (by rw [zI_len]; omega) (zI_one m)
  have hv : ∀ w, (zeroValue 3).run Try.prog w = .ok (.int .i64 0) w := fun w => by simp [zeroValue, typeInfo, hi, hz]
  obtain ⟨n, rfl⟩ : ∃ n, m = n + 1 := ⟨m - 1, by omega⟩
  have hc : (Value.int .i64 0).cells = #[.int .i64 0] := rfl
  unfold zI at hst
  simp only [Builtin.clear_, Sem.run_bind, run_underlying Try.underlying34]
  simp [hv, hc, hst, clearedI, zI]
theorem below_clearedI {B : Nat} {a w : World} (h : Below B a w) {g : Nat} (hg : B ≤ g) (o m : Nat) (cur : Array Value) : Below B a (clearedI w g o m cur) :=
  ⟨h.os, h.tape, h.output, by unfold clearedI; rw [setRow_size]; exact h.size, fun i hi => by unfold clearedI; rw [setRow_other _ _ _ _ (by omega)]; exact h.block i hi⟩
set_option maxRecDepth 100000 in
set_option maxHeartbeats 4000000 in
theorem compact77_c (xs : List Int) (A : Option Addr) (c base : Nat) (w : World) (ho : OwnI base w (.slice A xs.length c) xs) (hbase : base ≤ w.heap.size) (hn : xs.length ≤ 1000) :
    Calls Try.prog 77 #[.slice A xs.length c] w (CompP base w xs) := by
  have hcc : xs.length ≤ c ∧ c ≤ 9223372036854775807 := by
    obtain ⟨A2, c2, e1, h1, h2, h3⟩ := ho.isInts
    injection e1 with e1 e2 e3
    omega
  have HO := Lib.hid ho
  by_cases h2 : xs.length < 2
  · have h2i : (xs.length : Int) < 2 := by omega
    go_enter Try.func77, Try.ntmps77
    go_wp2_with fail
    go_ret
    exact ⟨A, xs.length, c, rfl, Nat.le_refl _, ⟨fun _ j h3 h4 => by omega, fun _ => rfl⟩, Below.refl _ _⟩
  · have h2i : ¬ (xs.length : Int) < 2 := by omega
    obtain ⟨g, rfl, hgb, hgw⟩ := ho.some_ (by omega)
    clear ho
    go_enter Try.func77, Try.ntmps77
    go_wp2_with fail
    go_loopw [3] (fun i wr => ∃ k : Nat, 1 ≤ k ∧ k ≤ xs.length ∧ i = .int .i64 k ∧ noAdj xs k ∧ OwnI base wr (.slice (some ⟨g, 0, none⟩) xs.length c) xs ∧ Below base w wr) (fun i _ => xs.length - (intOf i).toNat)
    case atStart => exact ⟨1, Nat.le_refl _, by omega, rfl, fun j h3 h4 => by omega, HO.out, Below.refl _ _⟩
    case round =>
      clear HO
      obtain ⟨k, hk1, hk, rfl, hna, ho2, hb2⟩ := hrel
      have HO2 := Lib.hid ho2
      have HB2 := Lib.hid hb2
      have HNA := Lib.hid hna
      have hbw : base ≤ wr.heap.size := Nat.le_trans hbase hb2.size
      clear ho2 hb2 hna
      by_cases h3 : k < xs.length
      · have h3i : (k : Int) < (xs.length : Int) := by omega
        have hkm : IntKind.i64.wrap ((k : Int) - 1) = ((k - 1 : Nat) : Int) := by rw [IntWalk.i64_in _ (by omega)]; omega
        have h3m : ((k - 1 : Nat) : Int) < (xs.length : Int) := by omega
        have d1 := HO2.out.cells h3
        have d2 := HO2.out.cells (show k - 1 < xs.length by omega)
        have HEQ : Hid (ix xs k ≠ ix xs (k - 1) → noAdj xs (k + 1)) := fun hne j h4 h5 => by
          by_cases e : j = k
          · rw [e]; exact hne
          · exact HNA.out j h4 (by omega)
        have HNE : Hid (ix xs k = ix xs (k - 1) → ¬ noAdj xs xs.length) := fun he hh => hh k hk1 h3 he
        clear HNA
        generalize ix xs k = x1 at *
        generalize ix xs (k - 1) = x2 at *
        go_upto_region 6 with fail
        go_quiet (fail)
        have hbq : Below wr.heap.size wr (wr.drewN nq) := below_drewN (Below.refl _ _) nq
        replace d1 := cell_of_ans hbq d1
        replace d2 := cell_of_ans hbq d2
        replace HO2 := Lib.hid (HO2.out.kept hbq)
        replace HB2 := Lib.hid (HB2.out.trans (hbq.mono hbw))
        clear hbq
        generalize wr.drewN nq = wq at *
        by_cases he : x1 = x2
        · have hei : (x1 == x2) = true := by simp [he]
          have HNN := Lib.hid (HNE.out he)
          have hkc : ¬ c < k := by omega
          have hki : (k : Int) ≤ (xs.length : Int) := by omega
          clear HEQ HNE he d1 d2
          have hwx : base ≤ wq.heap.size := by have := (World.ownsRow.lt HO2.out g rfl); omega
          go_wp2_with fail
          have hln : IntKind.i64.wrap ((xs.length : Int) - (k : Int)) = (xs.length : Int) - (k : Int) := IntWalk.i64_in _ (by omega)
          go_loopw [3, 5] (fun kk i wr => ∃ (k' k2 : Nat) (ys : List Int), 1 ≤ k2 ∧ k + k2 ≤ xs.length ∧ k ≤ k' ∧ k' < k + k2 ∧ kk = .int .i64 k' ∧ i = .int .i64 k2 ∧ ys.length = xs.length ∧ OwnI base wr (.slice (some ⟨g, 0, none⟩) xs.length c) ys ∧ Below base w wr) (fun _ i _ => xs.length - (intOf i).toNat)
          case atStart => exact ⟨k, 1, xs, Nat.le_refl _, by omega, Nat.le_refl _, by omega, rfl, rfl, rfl, HO2.out, HB2.out⟩
          case round =>
            clear HO2 HB2
            obtain ⟨k', k2, ys, hk2, hkk, hk3, hk4, rfl, rfl, hys, ho2, hb2⟩ := hrel
            have HO2 := Lib.hid ho2
            have HB2 := Lib.hid hb2
            have HYS := Lib.hid hys
            have hbw : base ≤ wr.heap.size := Nat.le_trans hbase hb2.size
            clear ho2 hb2 hys
            by_cases h5 : k + k2 < xs.length
            · have h5i : (k2 : Int) < ((xs.length - k : Nat) : Int) := by omega
              have h5j : IntKind.i64.wrap ((k2 : Int) - 1) = ((k2 - 1 : Nat) : Int) := by rw [IntWalk.i64_in _ (by omega)]; omega
              have h5m : ((k2 - 1 : Nat) : Int) < ((xs.length - k : Nat) : Int) := by omega
              have h5k : (k' : Int) < (xs.length : Int) := by omega
              have d1 := HO2.out.cells (show k + k2 < ys.length by rw [HYS.out]; exact h5)
              have d2 := HO2.out.cells (show k + (k2 - 1) < ys.length by rw [HYS.out]; omega)
              generalize ix ys (k + k2) = x3 at *
              generalize ix ys (k + (k2 - 1)) = x4 at *
              go_upto_region 11 with fail
              go_quiet (fail)
              have hbq : Below wr.heap.size wr (wr.drewN nq) := below_drewN (Below.refl _ _) nq
              replace d1 := cell_of_ans hbq d1
              replace d2 := cell_of_ans hbq d2
              replace HO2 := Lib.hid (HO2.out.kept hbq)
              replace HB2 := Lib.hid (HB2.out.trans (hbq.mono hbw))
              clear hbq
              generalize wr.drewN nq = wp at *
              have hwx2 : base ≤ wp.heap.size := by have := (World.ownsRow.lt HO2.out g rfl); omega
              by_cases he2 : x3 = x4
              · have hei2 : (x3 != x4) = false := by simp [he2]
                go_wp2_with fail
                go_roundw
                case rel => exact ⟨k', k2 + 1, ys, by omega, by omega, by omega, by omega, rfl, by go_num, HYS.out, HO2.out, HB2.out⟩
                case measure => simp [intOf]; omega
              · have hei2 : (x3 != x4) = true := by simp [he2]
                have HO2' : OwnI base wp (.slice (some ⟨g, 0, none⟩) ys.length c) ys := by rw [HYS.out]; exact HO2.out
                have f1 : wp.frozen? ⟨g, k', none⟩ = false := World.ownsRow.frozenAt HO2' k'
                clear HO2'
                have d3 := HO2.out.cells (show k' < ys.length by rw [HYS.out]; omega)
                have HO3 := Lib.hid (HO2.out.stored k' x3)
                have HB3 := Lib.hid (HB2.out.setCell (p := ⟨g, k', none⟩) hgb (.int .i64 x3))
                go_wp2_with fail
                go_roundw
                case rel => exact ⟨k' + 1, k2 + 1, ys.set k' x3, by omega, by omega, by omega, by omega, by go_num, by go_num, by rw [List.length_set]; exact HYS.out, HO3.out, HB3.out⟩
                case measure => simp [intOf]; omega
            · have h5i : ¬ (k2 : Int) < ((xs.length - k : Nat) : Int) := by omega
              obtain ⟨cur, hcur, hcs⟩ : ∃ cur, wr.heap[g]? = some (.cells cur 3) ∧ cur.size = c * 1 := by
                rcases HO2.out.2 with ⟨e, _⟩ | ⟨g', cap, cur, e, _, hg', _, _, hs, _⟩
                · cases e
                · injection e with e1 e2 e3
                  injection e1 with e1
                  injection e1 with e1
                  subst e1 e3
                  exact ⟨cur, hg', hs⟩
              have hcl := fun ty => run_clear_I (g := g) (o := k') (m := xs.length - k') (c := c - k') hcur (by omega) (by omega) ty
              have hci : ¬ c = k' := by omega
              have hi1 : (k' : Int) ≤ (xs.length : Int) := by omega
              have hi2 : (k' : Int) ≤ (c : Int) := by omega
              have HBC : Hid (Below base w (clearedI wr g k' (xs.length - k') cur)) := below_clearedI HB2.out hgb _ _ _
              clear hcur hcs
              go_wp2_with fail
              go_ret
              exact ⟨_, k', _, rfl, by omega, ⟨fun e => by omega, fun h => absurd h HNN.out⟩, HBC.out⟩
        · have hei : (x1 == x2) = false := by simp [he]
          have HNA := Lib.hid (HEQ.out he)
          clear HEQ HNE
          go_wp2_with fail
          go_roundw
          case rel => exact ⟨k + 1, by omega, by omega, by go_num, HNA.out, HO2.out, HB2.out⟩
          case measure => simp [intOf]; omega
      · obtain rfl : k = xs.length := by omega
        have h3i : ¬ (xs.length : Int) < (xs.length : Int) := by omega
        go_wp2_with fail
        go_ret
        exact ⟨_, xs.length, _, rfl, Nat.le_refl _, ⟨fun _ => HNA.out, fun _ => rfl⟩, HB2.out⟩
end Go.Proofs.Ytjokbffdepcpkaa
