/-
  The reference's small functions: Pins, Has, Place, Board, Fault, Rising, IsBall.
-/
import Derived.Test.YtpekajnjjhibjaaOwn2
namespace Go.Proofs.Ytpekajnjjhibjaa
open Go.RowKit
set_option linter.unusedSimpArgs false
set_option linter.unusedVariables false

attribute [local go_sem] Oper.semAt_some
theorem in_e {n lo hi : Int} {b : Bool} {w : World} (h : inB n lo hi = b) : Calls Try.prog 27 #[.int .i64 n, .int .i64 lo, .int .i64 hi] w (Same w (.bool b)) := by
  rw [← h]
  exact in_c n lo hi w
theorem T_skip {P : Program} {ops : Array Oper} {Q : Exit → Act → World → Prop} {md : Region.Mode} {S : World → Prop} {m i : Nat} {oi : Oper} {fuel : Nat} {listed : Array Bool} {a : Act} {w : World} (hi : ops[i]? = some oi)
    (hs : Region.noSelect ops = true) (hf : Region.free md ops listed i = true) (hr : (Region.ready md ops listed).contains i = true) (hwt : tailWaits md ops m i = true)
    (hQ : ∀ c a w, Q (.panic c) (a.put oi.dst undef) w → Q (.panic c) a w) (hw : Region.wanted oi (yielded ops a.tmps) = false) (hS : S w)
    (h : wpAnyT P md ops Q S m fuel (listed.setIfInBounds i true) (a.put oi.dst undef) w) : wpAnyT P md ops Q S m (fuel + 1) listed a w :=
  wpAnyT_first hi (Region.noSelect_spec hs) hQ hwt fuel listed a w (Region.free_spec hi hf) (by simpa using hr) (.inr ⟨hw, rfl⟩) hS h
/-- Is a number in a list? -/
def hasB (ts : List Int) (n : Int) : Bool := ts.any fun t => t == n
theorem hasB_at {ts : List Int} {n : Int} {k : Nat} (h : k < ts.length) (hk : ix ts k = n) : hasB ts n = true := by
  simp only [hasB, List.any_eq_true]
  exact ⟨ts[k], List.getElem_mem h, by rw [ix_lt h] at hk; simp [hk]⟩
theorem hasB_no {ts : List Int} {n : Int} (h : ∀ k, k < ts.length → ix ts k ≠ n) : hasB ts n = false := by
  refine Bool.eq_false_iff.2 fun h2 => ?_
  simp only [hasB, List.any_eq_true, beq_iff_eq] at h2
  obtain ⟨x, hx, rfl⟩ := h2
  obtain ⟨k, hk, rfl⟩ := List.getElem_of_mem hx
  exact h k hk (ix_lt hk)

set_option maxHeartbeats 1000000 in
theorem has35_c {B : Nat} (At : Option Addr) (ts : List Int) (ct : Nat) (n : Int) (w : World) (ht : Ints B w At ts) (hct : ts.length ≤ ct ∧ ct ≤ 9223372036854775807) :
    Calls Try.prog 35 #[.slice At ts.length ct, .int .i64 n] w (Same w (.bool (hasB ts n))) := by
  have HT := Lib.hid ht
  clear ht
  go_enter Try.func35, Try.ntmps35
  go_wp2_with fail
  go_loop [5] (fun i => ∃ k : Nat, k ≤ ts.length ∧ i = .int .i64 k ∧ ∀ j, j < k → ix ts j ≠ n) (fun i => ts.length - (intOf i).toNat)
  case atStart => exact ⟨0, by omega, rfl, fun j hj => by omega⟩
  case round =>
    obtain ⟨k, hk, rfl, hp⟩ := hrel
    have HP := Lib.hid hp
    clear hp
    by_cases h1 : k < ts.length
    · obtain ⟨b, off, rfl, _, hc⟩ := HT.out.at_ h1
      by_cases he : ix ts k = n
      · have HR := Lib.hid (hasB_at h1 he)
        have he' : (ix ts k == n) = true := by simp [he]
        clear he
        go_wp2_with fail
        go_ret
        exact ⟨ret_bool HR.out.symm, rfl⟩
      · have he' : (ix ts k == n) = false := by simp [he]
        have HE := Lib.hid he
        clear he
        go_wp2_with fail
        go_round
        case rel => exact ⟨k + 1, by omega, by go_num, fun j hj => by
          by_cases e : j = k
          · subst e; exact HE.out
          · exact HP.out j (by omega)⟩
        case measure => simp [intOf]; omega
    · have HR := Lib.hid (hasB_no (ts := ts) (n := n) fun j hj => HP.out j (by omega))
      go_wp2_with fail
      go_ret
      exact ⟨ret_bool HR.out.symm, rfl⟩

theorem hasB_iff {ts : List Int} {n : Int} : hasB ts n = true ↔ n ∈ ts := by simp [hasB]
set_option maxHeartbeats 400000 in
theorem pins40_c (rows mid gap reach : Int) (A : Option Addr) (n c : Nat) (w : World) (h1 : 1 ≤ rows) (h4 : rows ≤ 4) :
    Calls Try.prog 40 #[.agg #[.int .i64 rows, .int .i64 mid, .int .i64 gap, .int .i64 reach, .slice A n c]] w (Ans w (.int .i64 (pn rows : Int))) := by
  have hb0 : Below w.heap.size w (w.alloc (.cells #[.int .i64 rows, .int .i64 mid, .int .i64 gap, .int .i64 reach, .slice A n c] 24)) := (Below.refl _ _).alloc (Nat.le_refl _) _
  have HB := Lib.hid hb0
  clear hb0
  rcases rows4 h1 h4 with rfl | rfl | rfl | rfl
  all_goals
    go_enter Try.func40, Try.ntmps40
    go_wp2
    go_ret
    exact ⟨rfl, HB.out⟩


set_option maxHeartbeats 1000000 in
theorem place79_c (p : Nat) (w : World) (hp : p < 10) : Calls Try.prog 79 #[.int .i64 (p : Int)] w (Same w (.tuple #[.int .i64 (rowP p : Int), .int .i64 (atP p : Int)])) := by
  go_enter Try.func79, Try.ntmps79
  go_wp2_with fail
  go_loopw [0, 4] (fun t i wr => ∃ row : Nat, row ≤ 3 ∧ triN row ≤ p ∧ i = .int .i64 row ∧ t = .int .i64 ((p - triN row : Nat) : Int) ∧ wr = w) (fun _ i _ => 3 - (intOf i).toNat)
  case atStart => exact ⟨0, by omega, by simp [triN], rfl, by simp [triN], rfl⟩
  case round =>
    obtain ⟨row, h3, h1, rfl, rfl, rfl⟩ := hrel
    by_cases h2 : row < p - triN row
    · obtain ⟨h4, h5⟩ := tri_3 hp h3 h2
      have h6 := tri_next h3
      have h7 : ((row : Int) < ((p - triN row : Nat) : Int)) := by omega
      have h8 : IntKind.i64.wrap ((row : Int) + 1) = (row : Int) + 1 := IntWalk.i64_in _ (by omega)
      have h9 : IntKind.i64.wrap (((p - triN row : Nat) : Int) - ((row : Int) + 1)) = ((p - triN (row + 1) : Nat) : Int) := by
        rw [IntWalk.i64_in _ (by omega)]; omega
      generalize p - triN row = d at *
      go_wp2_with fail
      go_roundw
      case rel => exact ⟨row + 1, h4, h5, by go_num, by first | rfl | rw [h6], by trivial⟩
      case measure => simp [intOf]; omega
    · obtain ⟨e1, e2⟩ := place_at hp h3 h1 (by omega)
      have h7 : ¬ ((row : Int) < ((p - triN row : Nat) : Int)) := by omega
      rw [e1, e2]
      generalize p - triN row = d at *
      go_wp2_with fail
      refine bodyPost_ret (results_tmp2 rfl _ _ _) rfl ?_
      exact ⟨rfl, rfl⟩
set_option maxRecDepth 100000 in
set_option maxHeartbeats 2000000 in
theorem board80_c (r : Rk) (A : Option Addr) (c p : Nat) (w : World) (hr : Ok r) (hp : p < 10) :
    Calls Try.prog 80 #[.agg #[.int .i64 r.rows, .int .i64 r.mid, .int .i64 r.gap, .int .i64 r.reach, .slice A r.links.length c], .int .i64 (p : Int)] w (Ans w (.int .i64 (boardP r p))) := by
  have HB := Lib.hid (Below.refl w.heap.size w)
  have h1 := place_le hp
  have h2 := hr.mid0
  have h3 := hr.mid60
  have h4 := hr.gap1
  have h5 := hr.gap8
  have h6 := board_in hr hp
  have q1 : IntKind.i64.wrap (2 * (atP p : Int)) = 2 * (atP p : Int) := IntWalk.i64_in _ (by omega)
  have q2 : IntKind.i64.wrap (2 * (atP p : Int) - (rowP p : Int)) = 2 * (atP p : Int) - (rowP p : Int) := IntWalk.i64_in _ (by omega)
  have q3 : IntKind.i64.wrap (r.gap * (2 * (atP p : Int) - (rowP p : Int))) = r.gap * (2 * (atP p : Int) - (rowP p : Int)) := IntWalk.i64_in _ (by unfold boardP at h6; omega)
  have q4 : IntKind.i64.wrap (r.mid + r.gap * (2 * (atP p : Int) - (rowP p : Int))) = r.mid + r.gap * (2 * (atP p : Int) - (rowP p : Int)) := IntWalk.i64_in _ (by unfold boardP at h6; omega)
  have HR : Hid (r.mid + r.gap * (2 * (atP p : Int) - (rowP p : Int)) = boardP r p) := rfl
  have hb : Below w.heap.size w (w.alloc (.cells #[.int .i64 r.rows, .int .i64 r.mid, .int .i64 r.gap, .int .i64 r.reach, .slice A r.links.length c] 24)) := (Below.refl _ _).alloc (Nat.le_refl _) _
  replace HB := Lib.hid (HB.out.trans (hb.mono HB.out.size))
  clear hb
  have k1 : (w.alloc (.cells #[.int .i64 r.rows, .int .i64 r.mid, .int .i64 r.gap, .int .i64 r.reach, .slice A r.links.length c] 24)).cell? ⟨w.heap.size, 1, none⟩ = some (.int .i64 r.mid) := by simp
  have k2 : (w.alloc (.cells #[.int .i64 r.rows, .int .i64 r.mid, .int .i64 r.gap, .int .i64 r.reach, .slice A r.links.length c] 24)).cell? ⟨w.heap.size, 2, none⟩ = some (.int .i64 r.gap) := by simp
  go_enter Try.func80, Try.ntmps80
  go_wp2_with fail
  generalize (w.alloc (.cells #[.int .i64 r.rows, .int .i64 r.mid, .int .i64 r.gap, .int .i64 r.reach, .slice A r.links.length c] 24)) = x1 at *
  refine (place79_c p _ hp).mono ?_
  rintro e x2 ⟨rfl, rfl⟩
  have hb : Below x1.heap.size x1 x1 := Below.refl _ _
  replace k1 := cell_of_ans hb k1
  replace k2 := cell_of_ans hb k2
  replace HB := Lib.hid (HB.out.trans (hb.mono HB.out.size))
  clear hb
  have ltk1 := World.block_lt_of_cell? _ _ k1
  dsimp only at ltk1
  go_wp2_with fail
  go_ret
  exact ⟨ret_int HR.out, HB.out⟩


set_option maxRecDepth 100000 in
set_option maxHeartbeats 8000000 in
theorem rising66_c (r : Rk) (A xA : Option Addr) (c cx : Nat) (xs : List Int) (w : World) (hr1 : 1 ≤ r.rows) (hr4 : r.rows ≤ 4) (hx : Ints w.heap.size w xA xs) (hcx : xs.length ≤ cx ∧ cx ≤ 9223372036854775807) :
    Calls Try.prog 66 #[.agg #[.int .i64 r.rows, .int .i64 r.mid, .int .i64 r.gap, .int .i64 r.reach, .slice A r.links.length c], .slice xA xs.length cx] w (Ans w (.bool (pinsB r.rows xs && risesB xs))) := by
  have HB := Lib.hid (Below.refl w.heap.size w)
  have HX := Lib.hid hx
  clear hx
  have hb : Below w.heap.size w (w.alloc (.cells #[.int .i64 r.rows, .int .i64 r.mid, .int .i64 r.gap, .int .i64 r.reach, .slice A r.links.length c] 24)) := (Below.refl _ _).alloc (Nat.le_refl _) _
  replace HX := Lib.hid (HX.out.step hb)
  replace HB := Lib.hid (HB.out.trans (hb.mono HB.out.size))
  clear hb
  have k0 : (w.alloc (.cells #[.int .i64 r.rows, .int .i64 r.mid, .int .i64 r.gap, .int .i64 r.reach, .slice A r.links.length c] 24)).cell? ⟨w.heap.size, 0, none⟩ = some (.int .i64 r.rows) := by simp
  have k1 : (w.alloc (.cells #[.int .i64 r.rows, .int .i64 r.mid, .int .i64 r.gap, .int .i64 r.reach, .slice A r.links.length c] 24)).cell? ⟨w.heap.size, 1, none⟩ = some (.int .i64 r.mid) := by simp
  have k2 : (w.alloc (.cells #[.int .i64 r.rows, .int .i64 r.mid, .int .i64 r.gap, .int .i64 r.reach, .slice A r.links.length c] 24)).cell? ⟨w.heap.size, 2, none⟩ = some (.int .i64 r.gap) := by simp
  have k3 : (w.alloc (.cells #[.int .i64 r.rows, .int .i64 r.mid, .int .i64 r.gap, .int .i64 r.reach, .slice A r.links.length c] 24)).cell? ⟨w.heap.size, 3, none⟩ = some (.int .i64 r.reach) := by simp
  have k4 : (w.alloc (.cells #[.int .i64 r.rows, .int .i64 r.mid, .int .i64 r.gap, .int .i64 r.reach, .slice A r.links.length c] 24)).cell? ⟨w.heap.size, 4, none⟩ = some (.slice A r.links.length c) := by simp
  have hpn := pn_le hr1 hr4
  have hwr : IntKind.i64.wrap ((pn r.rows : Int) - 1) = (pn r.rows : Int) - 1 := IntWalk.i64_in _ (by omega)
  go_enter Try.func66, Try.ntmps66
  go_wp2_with fail
  generalize (w.alloc (.cells #[.int .i64 r.rows, .int .i64 r.mid, .int .i64 r.gap, .int .i64 r.reach, .slice A r.links.length c] 24)) = x1 at *
  go_loopw [5] (fun i wr => ∃ k : Nat, k ≤ xs.length ∧ i = .int .i64 k ∧ AllB k (fun k => inB (ix xs k) 0 ((pn r.rows : Int) - 1)) ∧ AllB k (fun k => decide (lastOf xs k < ix xs k)) ∧ Below x1.heap.size x1 wr) (fun i _ => xs.length - (intOf i).toNat)
  case atStart => exact ⟨0, by omega, rfl, fun j hj => by omega, fun j hj => by omega, Below.refl _ _⟩
  case round =>
    obtain ⟨k, hk, rfl, ha, hl, hb⟩ := hrel
    have HA := Lib.hid ha
    have HLs := Lib.hid hl
    have HBW := Lib.hid hb
    have HBX := Lib.hid hb
    clear ha hl
    by_cases h1 : k < xs.length
    · have hXr := HX.out.step hb
      obtain ⟨b1, o1, hA1, hb1, c1⟩ := hXr.at_ h1
      have HXr := Lib.hid hXr
      clear hXr
      replace k0 := cell_of_ans hb k0
      replace k1 := cell_of_ans hb k1
      replace k2 := cell_of_ans hb k2
      replace k3 := cell_of_ans hb k3
      replace k4 := cell_of_ans hb k4
      have h1i : (k : Int) < (xs.length : Int) := by omega
      have HAN : Hid (inB (ix xs k) 0 ((pn r.rows : Int) - 1) = false → (pinsB r.rows xs && risesB xs) = false) := fun h => by rw [show pinsB r.rows xs = false from allB_false h1 h]; rfl
      have HAY : Hid (inB (ix xs k) 0 ((pn r.rows : Int) - 1) = true → AllB (k + 1) (fun k => inB (ix xs k) 0 ((pn r.rows : Int) - 1))) := fun h => HA.out.succ h
      have HLN : Hid (decide (lastOf xs k < ix xs k) = false → (pinsB r.rows xs && risesB xs) = false) := fun h => by rw [show risesB xs = false from allB_false h1 h, Bool.and_false]
      have HLY : Hid (decide (lastOf xs k < ix xs k) = true → AllB (k + 1) (fun k => decide (lastOf xs k < ix xs k))) := fun h => HLs.out.succ h
      have HZ : Hid (k = 0 → lastOf xs k = -1) := fun h => by simp [lastOf, h]
      have HNZ : Hid (0 < k → lastOf xs k = ix xs (k - 1)) := fun h => by simp [lastOf, show ¬ k = 0 by omega]
      clear hb
      cases e1 : inB (ix xs k) 0 ((pn r.rows : Int) - 1)
      · have HR := Lib.hid (HAN.out e1)
        generalize ix xs k = x at *
        generalize lastOf xs k = l at *
        subst hA1
        go_wp2_with fail
        refine wp_region_noPanic ?_
        have hS : (fun W' : World => Below wr.heap.size wr W') wr.drew := (Below.refl _ _).drew
        refine wp_region_any (by kernel_rfl) (wpAny_of_T (S := fun W' : World => Below wr.heap.size wr W') (m := 25) _ _ _ _ ?_)
        refine' T_take (i := 0) (v := _) rfl (by kernel_rfl) (by kernel_rfl) (by kernel_rfl) (by kernel_rfl) (fun _ _ _ h => h) (by kernel_rfl) hS ?_ ?_
        rotate_left 1
        · intro Wv hW
          replace k0 := cell_of_ans hW k0
          replace k1 := cell_of_ans hW k1
          replace k2 := cell_of_ans hW k2
          replace k3 := cell_of_ans hW k3
          replace k4 := cell_of_ans hW k4
          replace c1 := cell_of_ans hW c1
          go_simp
          first | done | with_reducible rfl
        try simp only [Act.put, List.setIfInBounds_toArray, List.set_cons_zero, List.set_cons_succ]
        refine' T_take (i := 1) (v := _) rfl (by kernel_rfl) (by kernel_rfl) (by kernel_rfl) (by kernel_rfl) (fun _ _ _ h => h) (by kernel_rfl) hS ?_ ?_
        rotate_left 1
        · intro Wv hW
          replace k0 := cell_of_ans hW k0
          replace k1 := cell_of_ans hW k1
          replace k2 := cell_of_ans hW k2
          replace k3 := cell_of_ans hW k3
          replace k4 := cell_of_ans hW k4
          replace c1 := cell_of_ans hW c1
          go_simp
          first | done | with_reducible rfl
        try simp only [Act.put, List.setIfInBounds_toArray, List.set_cons_zero, List.set_cons_succ]
        refine' T_take (i := 2) (v := _) rfl (by kernel_rfl) (by kernel_rfl) (by kernel_rfl) (by kernel_rfl) (fun _ _ _ h => h) (by kernel_rfl) hS ?_ ?_
        rotate_left 1
        · intro Wv hW
          replace k0 := cell_of_ans hW k0
          replace k1 := cell_of_ans hW k1
          replace k2 := cell_of_ans hW k2
          replace k3 := cell_of_ans hW k3
          replace k4 := cell_of_ans hW k4
          replace c1 := cell_of_ans hW c1
          go_simp
          first | done | with_reducible rfl
        try simp only [Act.put, List.setIfInBounds_toArray, List.set_cons_zero, List.set_cons_succ]
        refine' T_take (i := 3) (v := _) rfl (by kernel_rfl) (by kernel_rfl) (by kernel_rfl) (by kernel_rfl) (fun _ _ _ h => h) (by kernel_rfl) hS ?_ ?_
        rotate_left 1
        · intro Wv hW
          replace k0 := cell_of_ans hW k0
          replace k1 := cell_of_ans hW k1
          replace k2 := cell_of_ans hW k2
          replace k3 := cell_of_ans hW k3
          replace k4 := cell_of_ans hW k4
          replace c1 := cell_of_ans hW c1
          go_simp
          first | done | with_reducible rfl
        try simp only [Act.put, List.setIfInBounds_toArray, List.set_cons_zero, List.set_cons_succ]
        refine' T_take (i := 4) (v := _) rfl (by kernel_rfl) (by kernel_rfl) (by kernel_rfl) (by kernel_rfl) (fun _ _ _ h => h) (by kernel_rfl) hS ?_ ?_
        rotate_left 1
        · intro Wv hW
          replace k0 := cell_of_ans hW k0
          replace k1 := cell_of_ans hW k1
          replace k2 := cell_of_ans hW k2
          replace k3 := cell_of_ans hW k3
          replace k4 := cell_of_ans hW k4
          replace c1 := cell_of_ans hW c1
          go_simp
          first | done | with_reducible rfl
        try simp only [Act.put, List.setIfInBounds_toArray, List.set_cons_zero, List.set_cons_succ]
        refine T_ready (rs := [5]) (by kernel_rfl) (by simp) ?_
        refine TReady.cons rfl (fun K hK => ?_) TReady.nil
        try go_simp
        refine (pins40_c r.rows r.mid r.gap r.reach A r.links.length c _ hr1 hr4).mono ?_
        rintro e w5 ⟨rfl, hb⟩
        have hS2 : Below wr.heap.size wr w5 := below_cat hb hS
        try go_simp
        refine hK.out _ _ (fun _ => hS2) (fun _ => ?_)
        clear hK K hS hb
        replace hS := hS2
        clear hS2
        try simp only [Act.put, List.setIfInBounds_toArray, List.set_cons_zero, List.set_cons_succ]
        refine' T_take (i := 6) (v := _) rfl (by kernel_rfl) (by kernel_rfl) (by kernel_rfl) (by kernel_rfl) (fun _ _ _ h => h) (by kernel_rfl) hS ?_ ?_
        rotate_left 1
        · intro Wv hW
          replace k0 := cell_of_ans hW k0
          replace k1 := cell_of_ans hW k1
          replace k2 := cell_of_ans hW k2
          replace k3 := cell_of_ans hW k3
          replace k4 := cell_of_ans hW k4
          replace c1 := cell_of_ans hW c1
          go_simp
          first | done | with_reducible rfl
        try simp only [Act.put, List.setIfInBounds_toArray, List.set_cons_zero, List.set_cons_succ]
        refine T_ready (rs := [7]) (by kernel_rfl) (by simp) ?_
        refine TReady.cons rfl (fun K hK => ?_) TReady.nil
        try go_simp
        refine (in_e e1).mono ?_
        rintro e w6 ⟨rfl, rfl⟩
        try go_simp
        refine hK.out _ _ (fun _ => hS) (fun _ => ?_)
        clear hK K
        try simp only [Act.put, List.setIfInBounds_toArray, List.set_cons_zero, List.set_cons_succ]
        refine' T_take (i := 8) (v := _) rfl (by kernel_rfl) (by kernel_rfl) (by kernel_rfl) (by kernel_rfl) (fun _ _ _ h => h) (by kernel_rfl) hS ?_ ?_
        rotate_left 1
        · intro Wv hW
          replace k0 := cell_of_ans hW k0
          replace k1 := cell_of_ans hW k1
          replace k2 := cell_of_ans hW k2
          replace k3 := cell_of_ans hW k3
          replace k4 := cell_of_ans hW k4
          replace c1 := cell_of_ans hW c1
          go_simp
          first | done | with_reducible rfl
        try simp only [Act.put, List.setIfInBounds_toArray, List.set_cons_zero, List.set_cons_succ]
        refine' T_take (i := 9) (v := _) rfl (by kernel_rfl) (by kernel_rfl) (by kernel_rfl) (by kernel_rfl) (fun _ _ _ h => h) (by kernel_rfl) hS ?_ ?_
        rotate_left 1
        · intro Wv hW
          replace k0 := cell_of_ans hW k0
          replace k1 := cell_of_ans hW k1
          replace k2 := cell_of_ans hW k2
          replace k3 := cell_of_ans hW k3
          replace k4 := cell_of_ans hW k4
          replace c1 := cell_of_ans hW c1
          go_simp
          first | done | with_reducible rfl
        try simp only [Act.put, List.setIfInBounds_toArray, List.set_cons_zero, List.set_cons_succ]
        refine' T_skip (i := 10) rfl (by kernel_rfl) (by kernel_rfl) (by kernel_rfl) (by kernel_rfl) (fun _ _ _ h => h) (by kernel_rfl) hS ?_
        try simp only [Act.put, List.setIfInBounds_toArray, List.set_cons_zero, List.set_cons_succ]
        refine' T_skip (i := 11) rfl (by kernel_rfl) (by kernel_rfl) (by kernel_rfl) (by kernel_rfl) (fun _ _ _ h => h) (by kernel_rfl) hS ?_
        try simp only [Act.put, List.setIfInBounds_toArray, List.set_cons_zero, List.set_cons_succ]
        refine' T_skip (i := 12) rfl (by kernel_rfl) (by kernel_rfl) (by kernel_rfl) (by kernel_rfl) (fun _ _ _ h => h) (by kernel_rfl) hS ?_
        try simp only [Act.put, List.setIfInBounds_toArray, List.set_cons_zero, List.set_cons_succ]
        refine' T_skip (i := 13) rfl (by kernel_rfl) (by kernel_rfl) (by kernel_rfl) (by kernel_rfl) (fun _ _ _ h => h) (by kernel_rfl) hS ?_
        try simp only [Act.put, List.setIfInBounds_toArray, List.set_cons_zero, List.set_cons_succ]
        refine' T_skip (i := 14) rfl (by kernel_rfl) (by kernel_rfl) (by kernel_rfl) (by kernel_rfl) (fun _ _ _ h => h) (by kernel_rfl) hS ?_
        try simp only [Act.put, List.setIfInBounds_toArray, List.set_cons_zero, List.set_cons_succ]
        refine' T_skip (i := 15) rfl (by kernel_rfl) (by kernel_rfl) (by kernel_rfl) (by kernel_rfl) (fun _ _ _ h => h) (by kernel_rfl) hS ?_
        try simp only [Act.put, List.setIfInBounds_toArray, List.set_cons_zero, List.set_cons_succ]
        refine' T_skip (i := 16) rfl (by kernel_rfl) (by kernel_rfl) (by kernel_rfl) (by kernel_rfl) (fun _ _ _ h => h) (by kernel_rfl) hS ?_
        try simp only [Act.put, List.setIfInBounds_toArray, List.set_cons_zero, List.set_cons_succ]
        refine' T_skip (i := 17) rfl (by kernel_rfl) (by kernel_rfl) (by kernel_rfl) (by kernel_rfl) (fun _ _ _ h => h) (by kernel_rfl) hS ?_
        try simp only [Act.put, List.setIfInBounds_toArray, List.set_cons_zero, List.set_cons_succ]
        refine' T_skip (i := 18) rfl (by kernel_rfl) (by kernel_rfl) (by kernel_rfl) (by kernel_rfl) (fun _ _ _ h => h) (by kernel_rfl) hS ?_
        try simp only [Act.put, List.setIfInBounds_toArray, List.set_cons_zero, List.set_cons_succ]
        refine' T_skip (i := 19) rfl (by kernel_rfl) (by kernel_rfl) (by kernel_rfl) (by kernel_rfl) (fun _ _ _ h => h) (by kernel_rfl) hS ?_
        try simp only [Act.put, List.setIfInBounds_toArray, List.set_cons_zero, List.set_cons_succ]
        refine' T_skip (i := 20) rfl (by kernel_rfl) (by kernel_rfl) (by kernel_rfl) (by kernel_rfl) (fun _ _ _ h => h) (by kernel_rfl) hS ?_
        try simp only [Act.put, List.setIfInBounds_toArray, List.set_cons_zero, List.set_cons_succ]
        refine' T_skip (i := 21) rfl (by kernel_rfl) (by kernel_rfl) (by kernel_rfl) (by kernel_rfl) (fun _ _ _ h => h) (by kernel_rfl) hS ?_
        try simp only [Act.put, List.setIfInBounds_toArray, List.set_cons_zero, List.set_cons_succ]
        refine' T_skip (i := 22) rfl (by kernel_rfl) (by kernel_rfl) (by kernel_rfl) (by kernel_rfl) (fun _ _ _ h => h) (by kernel_rfl) hS ?_
        try simp only [Act.put, List.setIfInBounds_toArray, List.set_cons_zero, List.set_cons_succ]
        refine' T_skip (i := 23) rfl (by kernel_rfl) (by kernel_rfl) (by kernel_rfl) (by kernel_rfl) (fun _ _ _ h => h) (by kernel_rfl) hS ?_
        try simp only [Act.put, List.setIfInBounds_toArray, List.set_cons_zero, List.set_cons_succ]
        refine' T_take (i := 24) (v := _) rfl (by kernel_rfl) (by kernel_rfl) (by kernel_rfl) (by kernel_rfl) (fun _ _ _ h => h) (by kernel_rfl) hS ?_ ?_
        rotate_left 1
        · intro Wv hW
          replace k0 := cell_of_ans hW k0
          replace k1 := cell_of_ans hW k1
          replace k2 := cell_of_ans hW k2
          replace k3 := cell_of_ans hW k3
          replace k4 := cell_of_ans hW k4
          replace c1 := cell_of_ans hW c1
          go_simp
          first | done | with_reducible rfl
        try simp only [Act.put, List.setIfInBounds_toArray, List.set_cons_zero, List.set_cons_succ]
        refine T_done (by kernel_rfl) ?_ _
        refine NoPanic.normal ?_
        try go_simp
        go_wp2_with fail
        go_ret
        exact ⟨ret_bool HR.out.symm, HB.out.trans ((below_cat hS HBX.out).mono HB.out.size)⟩
      · have HY := Lib.hid (HAY.out e1)
        have hpos := (inB_eq _ _ _).1 e1
        by_cases hz : k = 0
        · have HL2 := Lib.hid (HLY.out (by rw [HZ.out hz]; exact decide_eq_true (by omega)))
          subst hz
          generalize lastOf xs 0 = l at *
          simp only [Nat.add_zero] at c1
          simp only [Int.natCast_zero] at h1i ⊢
          have h10 : 0 < xs.length := h1
          generalize ix xs 0 = x at *
          subst hA1
          clear hpos
          go_wp2_with fail
          refine wp_region_noPanic ?_
          have hS : (fun W' : World => Below wr.heap.size wr W') wr.drew := (Below.refl _ _).drew
          refine wp_region_any (by kernel_rfl) (wpAny_of_T (S := fun W' : World => Below wr.heap.size wr W') (m := 25) _ _ _ _ ?_)
          refine' T_take (i := 0) (v := _) rfl (by kernel_rfl) (by kernel_rfl) (by kernel_rfl) (by kernel_rfl) (fun _ _ _ h => h) (by kernel_rfl) hS ?_ ?_
          rotate_left 1
          · intro Wv hW
            replace k0 := cell_of_ans hW k0
            replace k1 := cell_of_ans hW k1
            replace k2 := cell_of_ans hW k2
            replace k3 := cell_of_ans hW k3
            replace k4 := cell_of_ans hW k4
            replace c1 := cell_of_ans hW c1
            go_simp
            first | done | with_reducible rfl
          try simp only [Act.put, List.setIfInBounds_toArray, List.set_cons_zero, List.set_cons_succ]
          refine' T_take (i := 1) (v := _) rfl (by kernel_rfl) (by kernel_rfl) (by kernel_rfl) (by kernel_rfl) (fun _ _ _ h => h) (by kernel_rfl) hS ?_ ?_
          rotate_left 1
          · intro Wv hW
            replace k0 := cell_of_ans hW k0
            replace k1 := cell_of_ans hW k1
            replace k2 := cell_of_ans hW k2
            replace k3 := cell_of_ans hW k3
            replace k4 := cell_of_ans hW k4
            replace c1 := cell_of_ans hW c1
            go_simp
            first | done | with_reducible rfl
          try simp only [Act.put, List.setIfInBounds_toArray, List.set_cons_zero, List.set_cons_succ]
          refine' T_take (i := 2) (v := _) rfl (by kernel_rfl) (by kernel_rfl) (by kernel_rfl) (by kernel_rfl) (fun _ _ _ h => h) (by kernel_rfl) hS ?_ ?_
          rotate_left 1
          · intro Wv hW
            replace k0 := cell_of_ans hW k0
            replace k1 := cell_of_ans hW k1
            replace k2 := cell_of_ans hW k2
            replace k3 := cell_of_ans hW k3
            replace k4 := cell_of_ans hW k4
            replace c1 := cell_of_ans hW c1
            go_simp
            first | done | with_reducible rfl
          try simp only [Act.put, List.setIfInBounds_toArray, List.set_cons_zero, List.set_cons_succ]
          refine' T_take (i := 3) (v := _) rfl (by kernel_rfl) (by kernel_rfl) (by kernel_rfl) (by kernel_rfl) (fun _ _ _ h => h) (by kernel_rfl) hS ?_ ?_
          rotate_left 1
          · intro Wv hW
            replace k0 := cell_of_ans hW k0
            replace k1 := cell_of_ans hW k1
            replace k2 := cell_of_ans hW k2
            replace k3 := cell_of_ans hW k3
            replace k4 := cell_of_ans hW k4
            replace c1 := cell_of_ans hW c1
            go_simp
            first | done | with_reducible rfl
          try simp only [Act.put, List.setIfInBounds_toArray, List.set_cons_zero, List.set_cons_succ]
          refine' T_take (i := 4) (v := _) rfl (by kernel_rfl) (by kernel_rfl) (by kernel_rfl) (by kernel_rfl) (fun _ _ _ h => h) (by kernel_rfl) hS ?_ ?_
          rotate_left 1
          · intro Wv hW
            replace k0 := cell_of_ans hW k0
            replace k1 := cell_of_ans hW k1
            replace k2 := cell_of_ans hW k2
            replace k3 := cell_of_ans hW k3
            replace k4 := cell_of_ans hW k4
            replace c1 := cell_of_ans hW c1
            go_simp
            first | done | with_reducible rfl
          try simp only [Act.put, List.setIfInBounds_toArray, List.set_cons_zero, List.set_cons_succ]
          refine T_ready (rs := [5]) (by kernel_rfl) (by simp) ?_
          refine TReady.cons rfl (fun K hK => ?_) TReady.nil
          try go_simp
          refine (pins40_c r.rows r.mid r.gap r.reach A r.links.length c _ hr1 hr4).mono ?_
          rintro e w5 ⟨rfl, hb⟩
          have hS2 : Below wr.heap.size wr w5 := below_cat hb hS
          try go_simp
          refine hK.out _ _ (fun _ => hS2) (fun _ => ?_)
          clear hK K hS hb
          replace hS := hS2
          clear hS2
          try simp only [Act.put, List.setIfInBounds_toArray, List.set_cons_zero, List.set_cons_succ]
          refine' T_take (i := 6) (v := _) rfl (by kernel_rfl) (by kernel_rfl) (by kernel_rfl) (by kernel_rfl) (fun _ _ _ h => h) (by kernel_rfl) hS ?_ ?_
          rotate_left 1
          · intro Wv hW
            replace k0 := cell_of_ans hW k0
            replace k1 := cell_of_ans hW k1
            replace k2 := cell_of_ans hW k2
            replace k3 := cell_of_ans hW k3
            replace k4 := cell_of_ans hW k4
            replace c1 := cell_of_ans hW c1
            go_simp
            first | done | with_reducible rfl
          try simp only [Act.put, List.setIfInBounds_toArray, List.set_cons_zero, List.set_cons_succ]
          refine T_ready (rs := [7]) (by kernel_rfl) (by simp) ?_
          refine TReady.cons rfl (fun K hK => ?_) TReady.nil
          try go_simp
          refine (in_e e1).mono ?_
          rintro e w6 ⟨rfl, rfl⟩
          try go_simp
          refine hK.out _ _ (fun _ => hS) (fun _ => ?_)
          clear hK K
          try simp only [Act.put, List.setIfInBounds_toArray, List.set_cons_zero, List.set_cons_succ]
          refine' T_take (i := 8) (v := _) rfl (by kernel_rfl) (by kernel_rfl) (by kernel_rfl) (by kernel_rfl) (fun _ _ _ h => h) (by kernel_rfl) hS ?_ ?_
          rotate_left 1
          · intro Wv hW
            replace k0 := cell_of_ans hW k0
            replace k1 := cell_of_ans hW k1
            replace k2 := cell_of_ans hW k2
            replace k3 := cell_of_ans hW k3
            replace k4 := cell_of_ans hW k4
            replace c1 := cell_of_ans hW c1
            go_simp
            first | done | with_reducible rfl
          try simp only [Act.put, List.setIfInBounds_toArray, List.set_cons_zero, List.set_cons_succ]
          refine' T_take (i := 9) (v := _) rfl (by kernel_rfl) (by kernel_rfl) (by kernel_rfl) (by kernel_rfl) (fun _ _ _ h => h) (by kernel_rfl) hS ?_ ?_
          rotate_left 1
          · intro Wv hW
            replace k0 := cell_of_ans hW k0
            replace k1 := cell_of_ans hW k1
            replace k2 := cell_of_ans hW k2
            replace k3 := cell_of_ans hW k3
            replace k4 := cell_of_ans hW k4
            replace c1 := cell_of_ans hW c1
            go_simp
            first | done | with_reducible rfl
          try simp only [Act.put, List.setIfInBounds_toArray, List.set_cons_zero, List.set_cons_succ]
          refine' T_take (i := 10) (v := _) rfl (by kernel_rfl) (by kernel_rfl) (by kernel_rfl) (by kernel_rfl) (fun _ _ _ h => h) (by kernel_rfl) hS ?_ ?_
          rotate_left 1
          · intro Wv hW
            replace k0 := cell_of_ans hW k0
            replace k1 := cell_of_ans hW k1
            replace k2 := cell_of_ans hW k2
            replace k3 := cell_of_ans hW k3
            replace k4 := cell_of_ans hW k4
            replace c1 := cell_of_ans hW c1
            go_simp
            first | done | with_reducible rfl
          try simp only [Act.put, List.setIfInBounds_toArray, List.set_cons_zero, List.set_cons_succ]
          refine' T_take (i := 11) (v := _) rfl (by kernel_rfl) (by kernel_rfl) (by kernel_rfl) (by kernel_rfl) (fun _ _ _ h => h) (by kernel_rfl) hS ?_ ?_
          rotate_left 1
          · intro Wv hW
            replace k0 := cell_of_ans hW k0
            replace k1 := cell_of_ans hW k1
            replace k2 := cell_of_ans hW k2
            replace k3 := cell_of_ans hW k3
            replace k4 := cell_of_ans hW k4
            replace c1 := cell_of_ans hW c1
            go_simp
            first | done | with_reducible rfl
          try simp only [Act.put, List.setIfInBounds_toArray, List.set_cons_zero, List.set_cons_succ]
          refine' T_take (i := 12) (v := _) rfl (by kernel_rfl) (by kernel_rfl) (by kernel_rfl) (by kernel_rfl) (fun _ _ _ h => h) (by kernel_rfl) hS ?_ ?_
          rotate_left 1
          · intro Wv hW
            replace k0 := cell_of_ans hW k0
            replace k1 := cell_of_ans hW k1
            replace k2 := cell_of_ans hW k2
            replace k3 := cell_of_ans hW k3
            replace k4 := cell_of_ans hW k4
            replace c1 := cell_of_ans hW c1
            go_simp
            first | done | with_reducible rfl
          try simp only [Act.put, List.setIfInBounds_toArray, List.set_cons_zero, List.set_cons_succ]
          refine' T_skip (i := 13) rfl (by kernel_rfl) (by kernel_rfl) (by kernel_rfl) (by kernel_rfl) (fun _ _ _ h => h) (by kernel_rfl) hS ?_
          try simp only [Act.put, List.setIfInBounds_toArray, List.set_cons_zero, List.set_cons_succ]
          refine' T_skip (i := 14) rfl (by kernel_rfl) (by kernel_rfl) (by kernel_rfl) (by kernel_rfl) (fun _ _ _ h => h) (by kernel_rfl) hS ?_
          try simp only [Act.put, List.setIfInBounds_toArray, List.set_cons_zero, List.set_cons_succ]
          refine' T_skip (i := 15) rfl (by kernel_rfl) (by kernel_rfl) (by kernel_rfl) (by kernel_rfl) (fun _ _ _ h => h) (by kernel_rfl) hS ?_
          try simp only [Act.put, List.setIfInBounds_toArray, List.set_cons_zero, List.set_cons_succ]
          refine' T_skip (i := 16) rfl (by kernel_rfl) (by kernel_rfl) (by kernel_rfl) (by kernel_rfl) (fun _ _ _ h => h) (by kernel_rfl) hS ?_
          try simp only [Act.put, List.setIfInBounds_toArray, List.set_cons_zero, List.set_cons_succ]
          refine' T_skip (i := 17) rfl (by kernel_rfl) (by kernel_rfl) (by kernel_rfl) (by kernel_rfl) (fun _ _ _ h => h) (by kernel_rfl) hS ?_
          try simp only [Act.put, List.setIfInBounds_toArray, List.set_cons_zero, List.set_cons_succ]
          refine' T_skip (i := 18) rfl (by kernel_rfl) (by kernel_rfl) (by kernel_rfl) (by kernel_rfl) (fun _ _ _ h => h) (by kernel_rfl) hS ?_
          try simp only [Act.put, List.setIfInBounds_toArray, List.set_cons_zero, List.set_cons_succ]
          refine' T_skip (i := 19) rfl (by kernel_rfl) (by kernel_rfl) (by kernel_rfl) (by kernel_rfl) (fun _ _ _ h => h) (by kernel_rfl) hS ?_
          try simp only [Act.put, List.setIfInBounds_toArray, List.set_cons_zero, List.set_cons_succ]
          refine' T_skip (i := 20) rfl (by kernel_rfl) (by kernel_rfl) (by kernel_rfl) (by kernel_rfl) (fun _ _ _ h => h) (by kernel_rfl) hS ?_
          try simp only [Act.put, List.setIfInBounds_toArray, List.set_cons_zero, List.set_cons_succ]
          refine' T_skip (i := 21) rfl (by kernel_rfl) (by kernel_rfl) (by kernel_rfl) (by kernel_rfl) (fun _ _ _ h => h) (by kernel_rfl) hS ?_
          try simp only [Act.put, List.setIfInBounds_toArray, List.set_cons_zero, List.set_cons_succ]
          refine' T_skip (i := 22) rfl (by kernel_rfl) (by kernel_rfl) (by kernel_rfl) (by kernel_rfl) (fun _ _ _ h => h) (by kernel_rfl) hS ?_
          try simp only [Act.put, List.setIfInBounds_toArray, List.set_cons_zero, List.set_cons_succ]
          refine' T_take (i := 23) (v := _) rfl (by kernel_rfl) (by kernel_rfl) (by kernel_rfl) (by kernel_rfl) (fun _ _ _ h => h) (by kernel_rfl) hS ?_ ?_
          rotate_left 1
          · intro Wv hW
            replace k0 := cell_of_ans hW k0
            replace k1 := cell_of_ans hW k1
            replace k2 := cell_of_ans hW k2
            replace k3 := cell_of_ans hW k3
            replace k4 := cell_of_ans hW k4
            replace c1 := cell_of_ans hW c1
            go_simp
            first | done | with_reducible rfl
          try simp only [Act.put, List.setIfInBounds_toArray, List.set_cons_zero, List.set_cons_succ]
          refine' T_take (i := 24) (v := _) rfl (by kernel_rfl) (by kernel_rfl) (by kernel_rfl) (by kernel_rfl) (fun _ _ _ h => h) (by kernel_rfl) hS ?_ ?_
          rotate_left 1
          · intro Wv hW
            replace k0 := cell_of_ans hW k0
            replace k1 := cell_of_ans hW k1
            replace k2 := cell_of_ans hW k2
            replace k3 := cell_of_ans hW k3
            replace k4 := cell_of_ans hW k4
            replace c1 := cell_of_ans hW c1
            go_simp
            first | done | with_reducible rfl
          try simp only [Act.put, List.setIfInBounds_toArray, List.set_cons_zero, List.set_cons_succ]
          refine T_done (by kernel_rfl) ?_ _
          refine NoPanic.normal ?_
          try go_simp
          go_wp2_with fail
          go_roundw
          case rel => exact ⟨1, by omega, rfl, HY.out, HL2.out, below_cat hS HBX.out⟩
          case measure => simp [intOf]; omega
        · have hzi : (0 : Int) < (k : Int) := by omega
          have hzn : decide (0 < k) = true := by simp; omega
          obtain ⟨b2, o2, hA2, hb2, c2⟩ := HXr.out.at_ (k := k - 1) (by omega)
          have hwk : IntKind.i64.wrap ((k : Int) - 1) = ((k - 1 : Nat) : Int) := by rw [IntWalk.i64_in _ (by omega)]; omega
          have h2i : ((k - 1 : Nat) : Int) < (xs.length : Int) := by omega
          have e2 := HNZ.out (by omega)
          subst hA1
          injection hA2 with hA2
          injection hA2 with hA2 hA3
          subst hA2 hA3
          rw [e2] at HLN HLY
          clear hpos e2 HZ HNZ HA HLs HAN HAY
          generalize ix xs k = x at *
          generalize ix xs (k - 1) = l at *
          by_cases hle : x ≤ l
          · have HR := Lib.hid (HLN.out (by simp; omega))
            have hle' : decide (x ≤ l) = true := by simp [hle]
            go_wp2_with fail
            refine wp_region_noPanic ?_
            have hS : (fun W' : World => Below wr.heap.size wr W') wr.drew := (Below.refl _ _).drew
            refine wp_region_any (by kernel_rfl) (wpAny_of_T (S := fun W' : World => Below wr.heap.size wr W') (m := 25) _ _ _ _ ?_)
            refine' T_take (i := 0) (v := _) rfl (by kernel_rfl) (by kernel_rfl) (by kernel_rfl) (by kernel_rfl) (fun _ _ _ h => h) (by kernel_rfl) hS ?_ ?_
            rotate_left 1
            · intro Wv hW
              replace k0 := cell_of_ans hW k0
              replace k1 := cell_of_ans hW k1
              replace k2 := cell_of_ans hW k2
              replace k3 := cell_of_ans hW k3
              replace k4 := cell_of_ans hW k4
              replace c1 := cell_of_ans hW c1
              replace c2 := cell_of_ans hW c2
              go_simp
              first | done | with_reducible rfl
            try simp only [Act.put, List.setIfInBounds_toArray, List.set_cons_zero, List.set_cons_succ]
            refine' T_take (i := 1) (v := _) rfl (by kernel_rfl) (by kernel_rfl) (by kernel_rfl) (by kernel_rfl) (fun _ _ _ h => h) (by kernel_rfl) hS ?_ ?_
            rotate_left 1
            · intro Wv hW
              replace k0 := cell_of_ans hW k0
              replace k1 := cell_of_ans hW k1
              replace k2 := cell_of_ans hW k2
              replace k3 := cell_of_ans hW k3
              replace k4 := cell_of_ans hW k4
              replace c1 := cell_of_ans hW c1
              replace c2 := cell_of_ans hW c2
              go_simp
              first | done | with_reducible rfl
            try simp only [Act.put, List.setIfInBounds_toArray, List.set_cons_zero, List.set_cons_succ]
            refine' T_take (i := 2) (v := _) rfl (by kernel_rfl) (by kernel_rfl) (by kernel_rfl) (by kernel_rfl) (fun _ _ _ h => h) (by kernel_rfl) hS ?_ ?_
            rotate_left 1
            · intro Wv hW
              replace k0 := cell_of_ans hW k0
              replace k1 := cell_of_ans hW k1
              replace k2 := cell_of_ans hW k2
              replace k3 := cell_of_ans hW k3
              replace k4 := cell_of_ans hW k4
              replace c1 := cell_of_ans hW c1
              replace c2 := cell_of_ans hW c2
              go_simp
              first | done | with_reducible rfl
            try simp only [Act.put, List.setIfInBounds_toArray, List.set_cons_zero, List.set_cons_succ]
            refine' T_take (i := 3) (v := _) rfl (by kernel_rfl) (by kernel_rfl) (by kernel_rfl) (by kernel_rfl) (fun _ _ _ h => h) (by kernel_rfl) hS ?_ ?_
            rotate_left 1
            · intro Wv hW
              replace k0 := cell_of_ans hW k0
              replace k1 := cell_of_ans hW k1
              replace k2 := cell_of_ans hW k2
              replace k3 := cell_of_ans hW k3
              replace k4 := cell_of_ans hW k4
              replace c1 := cell_of_ans hW c1
              replace c2 := cell_of_ans hW c2
              go_simp
              first | done | with_reducible rfl
            try simp only [Act.put, List.setIfInBounds_toArray, List.set_cons_zero, List.set_cons_succ]
            refine' T_take (i := 4) (v := _) rfl (by kernel_rfl) (by kernel_rfl) (by kernel_rfl) (by kernel_rfl) (fun _ _ _ h => h) (by kernel_rfl) hS ?_ ?_
            rotate_left 1
            · intro Wv hW
              replace k0 := cell_of_ans hW k0
              replace k1 := cell_of_ans hW k1
              replace k2 := cell_of_ans hW k2
              replace k3 := cell_of_ans hW k3
              replace k4 := cell_of_ans hW k4
              replace c1 := cell_of_ans hW c1
              replace c2 := cell_of_ans hW c2
              go_simp
              first | done | with_reducible rfl
            try simp only [Act.put, List.setIfInBounds_toArray, List.set_cons_zero, List.set_cons_succ]
            refine T_ready (rs := [5]) (by kernel_rfl) (by simp) ?_
            refine TReady.cons rfl (fun K hK => ?_) TReady.nil
            try go_simp
            refine (pins40_c r.rows r.mid r.gap r.reach A r.links.length c _ hr1 hr4).mono ?_
            rintro e w5 ⟨rfl, hb⟩
            have hS2 : Below wr.heap.size wr w5 := below_cat hb hS
            try go_simp
            refine hK.out _ _ (fun _ => hS2) (fun _ => ?_)
            clear hK K hS hb
            replace hS := hS2
            clear hS2
            try simp only [Act.put, List.setIfInBounds_toArray, List.set_cons_zero, List.set_cons_succ]
            refine' T_take (i := 6) (v := _) rfl (by kernel_rfl) (by kernel_rfl) (by kernel_rfl) (by kernel_rfl) (fun _ _ _ h => h) (by kernel_rfl) hS ?_ ?_
            rotate_left 1
            · intro Wv hW
              replace k0 := cell_of_ans hW k0
              replace k1 := cell_of_ans hW k1
              replace k2 := cell_of_ans hW k2
              replace k3 := cell_of_ans hW k3
              replace k4 := cell_of_ans hW k4
              replace c1 := cell_of_ans hW c1
              replace c2 := cell_of_ans hW c2
              go_simp
              first | done | with_reducible rfl
            try simp only [Act.put, List.setIfInBounds_toArray, List.set_cons_zero, List.set_cons_succ]
            refine T_ready (rs := [7]) (by kernel_rfl) (by simp) ?_
            refine TReady.cons rfl (fun K hK => ?_) TReady.nil
            try go_simp
            refine (in_e e1).mono ?_
            rintro e w6 ⟨rfl, rfl⟩
            try go_simp
            refine hK.out _ _ (fun _ => hS) (fun _ => ?_)
            clear hK K
            try simp only [Act.put, List.setIfInBounds_toArray, List.set_cons_zero, List.set_cons_succ]
            refine' T_take (i := 8) (v := _) rfl (by kernel_rfl) (by kernel_rfl) (by kernel_rfl) (by kernel_rfl) (fun _ _ _ h => h) (by kernel_rfl) hS ?_ ?_
            rotate_left 1
            · intro Wv hW
              replace k0 := cell_of_ans hW k0
              replace k1 := cell_of_ans hW k1
              replace k2 := cell_of_ans hW k2
              replace k3 := cell_of_ans hW k3
              replace k4 := cell_of_ans hW k4
              replace c1 := cell_of_ans hW c1
              replace c2 := cell_of_ans hW c2
              go_simp
              first | done | with_reducible rfl
            try simp only [Act.put, List.setIfInBounds_toArray, List.set_cons_zero, List.set_cons_succ]
            refine' T_take (i := 9) (v := _) rfl (by kernel_rfl) (by kernel_rfl) (by kernel_rfl) (by kernel_rfl) (fun _ _ _ h => h) (by kernel_rfl) hS ?_ ?_
            rotate_left 1
            · intro Wv hW
              replace k0 := cell_of_ans hW k0
              replace k1 := cell_of_ans hW k1
              replace k2 := cell_of_ans hW k2
              replace k3 := cell_of_ans hW k3
              replace k4 := cell_of_ans hW k4
              replace c1 := cell_of_ans hW c1
              replace c2 := cell_of_ans hW c2
              go_simp
              first | done | with_reducible rfl
            try simp only [Act.put, List.setIfInBounds_toArray, List.set_cons_zero, List.set_cons_succ]
            refine' T_take (i := 10) (v := _) rfl (by kernel_rfl) (by kernel_rfl) (by kernel_rfl) (by kernel_rfl) (fun _ _ _ h => h) (by kernel_rfl) hS ?_ ?_
            rotate_left 1
            · intro Wv hW
              replace k0 := cell_of_ans hW k0
              replace k1 := cell_of_ans hW k1
              replace k2 := cell_of_ans hW k2
              replace k3 := cell_of_ans hW k3
              replace k4 := cell_of_ans hW k4
              replace c1 := cell_of_ans hW c1
              replace c2 := cell_of_ans hW c2
              go_simp
              first | done | with_reducible rfl
            try simp only [Act.put, List.setIfInBounds_toArray, List.set_cons_zero, List.set_cons_succ]
            refine' T_take (i := 11) (v := _) rfl (by kernel_rfl) (by kernel_rfl) (by kernel_rfl) (by kernel_rfl) (fun _ _ _ h => h) (by kernel_rfl) hS ?_ ?_
            rotate_left 1
            · intro Wv hW
              replace k0 := cell_of_ans hW k0
              replace k1 := cell_of_ans hW k1
              replace k2 := cell_of_ans hW k2
              replace k3 := cell_of_ans hW k3
              replace k4 := cell_of_ans hW k4
              replace c1 := cell_of_ans hW c1
              replace c2 := cell_of_ans hW c2
              go_simp
              first | done | with_reducible rfl
            try simp only [Act.put, List.setIfInBounds_toArray, List.set_cons_zero, List.set_cons_succ]
            refine' T_take (i := 12) (v := _) rfl (by kernel_rfl) (by kernel_rfl) (by kernel_rfl) (by kernel_rfl) (fun _ _ _ h => h) (by kernel_rfl) hS ?_ ?_
            rotate_left 1
            · intro Wv hW
              replace k0 := cell_of_ans hW k0
              replace k1 := cell_of_ans hW k1
              replace k2 := cell_of_ans hW k2
              replace k3 := cell_of_ans hW k3
              replace k4 := cell_of_ans hW k4
              replace c1 := cell_of_ans hW c1
              replace c2 := cell_of_ans hW c2
              go_simp
              first | done | with_reducible rfl
            try simp only [Act.put, List.setIfInBounds_toArray, List.set_cons_zero, List.set_cons_succ]
            refine' T_take (i := 13) (v := _) rfl (by kernel_rfl) (by kernel_rfl) (by kernel_rfl) (by kernel_rfl) (fun _ _ _ h => h) (by kernel_rfl) hS ?_ ?_
            rotate_left 1
            · intro Wv hW
              replace k0 := cell_of_ans hW k0
              replace k1 := cell_of_ans hW k1
              replace k2 := cell_of_ans hW k2
              replace k3 := cell_of_ans hW k3
              replace k4 := cell_of_ans hW k4
              replace c1 := cell_of_ans hW c1
              replace c2 := cell_of_ans hW c2
              go_simp
              first | done | with_reducible rfl
            try simp only [Act.put, List.setIfInBounds_toArray, List.set_cons_zero, List.set_cons_succ]
            refine' T_take (i := 14) (v := _) rfl (by kernel_rfl) (by kernel_rfl) (by kernel_rfl) (by kernel_rfl) (fun _ _ _ h => h) (by kernel_rfl) hS ?_ ?_
            rotate_left 1
            · intro Wv hW
              replace k0 := cell_of_ans hW k0
              replace k1 := cell_of_ans hW k1
              replace k2 := cell_of_ans hW k2
              replace k3 := cell_of_ans hW k3
              replace k4 := cell_of_ans hW k4
              replace c1 := cell_of_ans hW c1
              replace c2 := cell_of_ans hW c2
              go_simp
              first | done | with_reducible rfl
            try simp only [Act.put, List.setIfInBounds_toArray, List.set_cons_zero, List.set_cons_succ]
            refine' T_take (i := 15) (v := _) rfl (by kernel_rfl) (by kernel_rfl) (by kernel_rfl) (by kernel_rfl) (fun _ _ _ h => h) (by kernel_rfl) hS ?_ ?_
            rotate_left 1
            · intro Wv hW
              replace k0 := cell_of_ans hW k0
              replace k1 := cell_of_ans hW k1
              replace k2 := cell_of_ans hW k2
              replace k3 := cell_of_ans hW k3
              replace k4 := cell_of_ans hW k4
              replace c1 := cell_of_ans hW c1
              replace c2 := cell_of_ans hW c2
              go_simp
              first | done | with_reducible rfl
            try simp only [Act.put, List.setIfInBounds_toArray, List.set_cons_zero, List.set_cons_succ]
            refine' T_take (i := 16) (v := _) rfl (by kernel_rfl) (by kernel_rfl) (by kernel_rfl) (by kernel_rfl) (fun _ _ _ h => h) (by kernel_rfl) hS ?_ ?_
            rotate_left 1
            · intro Wv hW
              replace k0 := cell_of_ans hW k0
              replace k1 := cell_of_ans hW k1
              replace k2 := cell_of_ans hW k2
              replace k3 := cell_of_ans hW k3
              replace k4 := cell_of_ans hW k4
              replace c1 := cell_of_ans hW c1
              replace c2 := cell_of_ans hW c2
              go_simp
              first | done | with_reducible rfl
            try simp only [Act.put, List.setIfInBounds_toArray, List.set_cons_zero, List.set_cons_succ]
            refine' T_take (i := 17) (v := _) rfl (by kernel_rfl) (by kernel_rfl) (by kernel_rfl) (by kernel_rfl) (fun _ _ _ h => h) (by kernel_rfl) hS ?_ ?_
            rotate_left 1
            · intro Wv hW
              replace k0 := cell_of_ans hW k0
              replace k1 := cell_of_ans hW k1
              replace k2 := cell_of_ans hW k2
              replace k3 := cell_of_ans hW k3
              replace k4 := cell_of_ans hW k4
              replace c1 := cell_of_ans hW c1
              replace c2 := cell_of_ans hW c2
              go_simp
              first | done | with_reducible rfl
            try simp only [Act.put, List.setIfInBounds_toArray, List.set_cons_zero, List.set_cons_succ]
            refine' T_take (i := 18) (v := _) rfl (by kernel_rfl) (by kernel_rfl) (by kernel_rfl) (by kernel_rfl) (fun _ _ _ h => h) (by kernel_rfl) hS ?_ ?_
            rotate_left 1
            · intro Wv hW
              replace k0 := cell_of_ans hW k0
              replace k1 := cell_of_ans hW k1
              replace k2 := cell_of_ans hW k2
              replace k3 := cell_of_ans hW k3
              replace k4 := cell_of_ans hW k4
              replace c1 := cell_of_ans hW c1
              replace c2 := cell_of_ans hW c2
              go_simp
              first | done | with_reducible rfl
            try simp only [Act.put, List.setIfInBounds_toArray, List.set_cons_zero, List.set_cons_succ]
            refine' T_take (i := 19) (v := _) rfl (by kernel_rfl) (by kernel_rfl) (by kernel_rfl) (by kernel_rfl) (fun _ _ _ h => h) (by kernel_rfl) hS ?_ ?_
            rotate_left 1
            · intro Wv hW
              replace k0 := cell_of_ans hW k0
              replace k1 := cell_of_ans hW k1
              replace k2 := cell_of_ans hW k2
              replace k3 := cell_of_ans hW k3
              replace k4 := cell_of_ans hW k4
              replace c1 := cell_of_ans hW c1
              replace c2 := cell_of_ans hW c2
              go_simp
              first | done | with_reducible rfl
            try simp only [Act.put, List.setIfInBounds_toArray, List.set_cons_zero, List.set_cons_succ]
            refine' T_take (i := 20) (v := _) rfl (by kernel_rfl) (by kernel_rfl) (by kernel_rfl) (by kernel_rfl) (fun _ _ _ h => h) (by kernel_rfl) hS ?_ ?_
            rotate_left 1
            · intro Wv hW
              replace k0 := cell_of_ans hW k0
              replace k1 := cell_of_ans hW k1
              replace k2 := cell_of_ans hW k2
              replace k3 := cell_of_ans hW k3
              replace k4 := cell_of_ans hW k4
              replace c1 := cell_of_ans hW c1
              replace c2 := cell_of_ans hW c2
              go_simp
              first | done | with_reducible rfl
            try simp only [Act.put, List.setIfInBounds_toArray, List.set_cons_zero, List.set_cons_succ]
            refine' T_take (i := 21) (v := _) rfl (by kernel_rfl) (by kernel_rfl) (by kernel_rfl) (by kernel_rfl) (fun _ _ _ h => h) (by kernel_rfl) hS ?_ ?_
            rotate_left 1
            · intro Wv hW
              replace k0 := cell_of_ans hW k0
              replace k1 := cell_of_ans hW k1
              replace k2 := cell_of_ans hW k2
              replace k3 := cell_of_ans hW k3
              replace k4 := cell_of_ans hW k4
              replace c1 := cell_of_ans hW c1
              replace c2 := cell_of_ans hW c2
              go_simp
              first | done | with_reducible rfl
            try simp only [Act.put, List.setIfInBounds_toArray, List.set_cons_zero, List.set_cons_succ]
            refine' T_take (i := 22) (v := _) rfl (by kernel_rfl) (by kernel_rfl) (by kernel_rfl) (by kernel_rfl) (fun _ _ _ h => h) (by kernel_rfl) hS ?_ ?_
            rotate_left 1
            · intro Wv hW
              replace k0 := cell_of_ans hW k0
              replace k1 := cell_of_ans hW k1
              replace k2 := cell_of_ans hW k2
              replace k3 := cell_of_ans hW k3
              replace k4 := cell_of_ans hW k4
              replace c1 := cell_of_ans hW c1
              replace c2 := cell_of_ans hW c2
              go_simp
              first | done | with_reducible rfl
            try simp only [Act.put, List.setIfInBounds_toArray, List.set_cons_zero, List.set_cons_succ]
            refine' T_take (i := 23) (v := _) rfl (by kernel_rfl) (by kernel_rfl) (by kernel_rfl) (by kernel_rfl) (fun _ _ _ h => h) (by kernel_rfl) hS ?_ ?_
            rotate_left 1
            · intro Wv hW
              replace k0 := cell_of_ans hW k0
              replace k1 := cell_of_ans hW k1
              replace k2 := cell_of_ans hW k2
              replace k3 := cell_of_ans hW k3
              replace k4 := cell_of_ans hW k4
              replace c1 := cell_of_ans hW c1
              replace c2 := cell_of_ans hW c2
              go_simp
              first | done | with_reducible rfl
            try simp only [Act.put, List.setIfInBounds_toArray, List.set_cons_zero, List.set_cons_succ]
            refine' T_take (i := 24) (v := _) rfl (by kernel_rfl) (by kernel_rfl) (by kernel_rfl) (by kernel_rfl) (fun _ _ _ h => h) (by kernel_rfl) hS ?_ ?_
            rotate_left 1
            · intro Wv hW
              replace k0 := cell_of_ans hW k0
              replace k1 := cell_of_ans hW k1
              replace k2 := cell_of_ans hW k2
              replace k3 := cell_of_ans hW k3
              replace k4 := cell_of_ans hW k4
              replace c1 := cell_of_ans hW c1
              replace c2 := cell_of_ans hW c2
              go_simp
              first | done | with_reducible rfl
            try simp only [Act.put, List.setIfInBounds_toArray, List.set_cons_zero, List.set_cons_succ]
            refine T_done (by kernel_rfl) ?_ _
            refine NoPanic.normal ?_
            try go_simp
            go_wp2_with fail
            go_ret
            exact ⟨ret_bool HR.out.symm, HB.out.trans ((below_cat hS HBX.out).mono HB.out.size)⟩
          · have HL2 := Lib.hid (HLY.out (by simp; omega))
            have hle' : decide (x ≤ l) = false := by simp; omega
            clear hle
            go_wp2_with fail
            refine wp_region_noPanic ?_
            have hS : (fun W' : World => Below wr.heap.size wr W') wr.drew := (Below.refl _ _).drew
            refine wp_region_any (by kernel_rfl) (wpAny_of_T (S := fun W' : World => Below wr.heap.size wr W') (m := 25) _ _ _ _ ?_)
            refine' T_take (i := 0) (v := _) rfl (by kernel_rfl) (by kernel_rfl) (by kernel_rfl) (by kernel_rfl) (fun _ _ _ h => h) (by kernel_rfl) hS ?_ ?_
            rotate_left 1
            · intro Wv hW
              replace k0 := cell_of_ans hW k0
              replace k1 := cell_of_ans hW k1
              replace k2 := cell_of_ans hW k2
              replace k3 := cell_of_ans hW k3
              replace k4 := cell_of_ans hW k4
              replace c1 := cell_of_ans hW c1
              replace c2 := cell_of_ans hW c2
              go_simp
              first | done | with_reducible rfl
            try simp only [Act.put, List.setIfInBounds_toArray, List.set_cons_zero, List.set_cons_succ]
            refine' T_take (i := 1) (v := _) rfl (by kernel_rfl) (by kernel_rfl) (by kernel_rfl) (by kernel_rfl) (fun _ _ _ h => h) (by kernel_rfl) hS ?_ ?_
            rotate_left 1
            · intro Wv hW
              replace k0 := cell_of_ans hW k0
              replace k1 := cell_of_ans hW k1
              replace k2 := cell_of_ans hW k2
              replace k3 := cell_of_ans hW k3
              replace k4 := cell_of_ans hW k4
              replace c1 := cell_of_ans hW c1
              replace c2 := cell_of_ans hW c2
              go_simp
              first | done | with_reducible rfl
            try simp only [Act.put, List.setIfInBounds_toArray, List.set_cons_zero, List.set_cons_succ]
            refine' T_take (i := 2) (v := _) rfl (by kernel_rfl) (by kernel_rfl) (by kernel_rfl) (by kernel_rfl) (fun _ _ _ h => h) (by kernel_rfl) hS ?_ ?_
            rotate_left 1
            · intro Wv hW
              replace k0 := cell_of_ans hW k0
              replace k1 := cell_of_ans hW k1
              replace k2 := cell_of_ans hW k2
              replace k3 := cell_of_ans hW k3
              replace k4 := cell_of_ans hW k4
              replace c1 := cell_of_ans hW c1
              replace c2 := cell_of_ans hW c2
              go_simp
              first | done | with_reducible rfl
            try simp only [Act.put, List.setIfInBounds_toArray, List.set_cons_zero, List.set_cons_succ]
            refine' T_take (i := 3) (v := _) rfl (by kernel_rfl) (by kernel_rfl) (by kernel_rfl) (by kernel_rfl) (fun _ _ _ h => h) (by kernel_rfl) hS ?_ ?_
            rotate_left 1
            · intro Wv hW
              replace k0 := cell_of_ans hW k0
              replace k1 := cell_of_ans hW k1
              replace k2 := cell_of_ans hW k2
              replace k3 := cell_of_ans hW k3
              replace k4 := cell_of_ans hW k4
              replace c1 := cell_of_ans hW c1
              replace c2 := cell_of_ans hW c2
              go_simp
              first | done | with_reducible rfl
            try simp only [Act.put, List.setIfInBounds_toArray, List.set_cons_zero, List.set_cons_succ]
            refine' T_take (i := 4) (v := _) rfl (by kernel_rfl) (by kernel_rfl) (by kernel_rfl) (by kernel_rfl) (fun _ _ _ h => h) (by kernel_rfl) hS ?_ ?_
            rotate_left 1
            · intro Wv hW
              replace k0 := cell_of_ans hW k0
              replace k1 := cell_of_ans hW k1
              replace k2 := cell_of_ans hW k2
              replace k3 := cell_of_ans hW k3
              replace k4 := cell_of_ans hW k4
              replace c1 := cell_of_ans hW c1
              replace c2 := cell_of_ans hW c2
              go_simp
              first | done | with_reducible rfl
            try simp only [Act.put, List.setIfInBounds_toArray, List.set_cons_zero, List.set_cons_succ]
            refine T_ready (rs := [5]) (by kernel_rfl) (by simp) ?_
            refine TReady.cons rfl (fun K hK => ?_) TReady.nil
            try go_simp
            refine (pins40_c r.rows r.mid r.gap r.reach A r.links.length c _ hr1 hr4).mono ?_
            rintro e w5 ⟨rfl, hb⟩
            have hS2 : Below wr.heap.size wr w5 := below_cat hb hS
            try go_simp
            refine hK.out _ _ (fun _ => hS2) (fun _ => ?_)
            clear hK K hS hb
            replace hS := hS2
            clear hS2
            try simp only [Act.put, List.setIfInBounds_toArray, List.set_cons_zero, List.set_cons_succ]
            refine' T_take (i := 6) (v := _) rfl (by kernel_rfl) (by kernel_rfl) (by kernel_rfl) (by kernel_rfl) (fun _ _ _ h => h) (by kernel_rfl) hS ?_ ?_
            rotate_left 1
            · intro Wv hW
              replace k0 := cell_of_ans hW k0
              replace k1 := cell_of_ans hW k1
              replace k2 := cell_of_ans hW k2
              replace k3 := cell_of_ans hW k3
              replace k4 := cell_of_ans hW k4
              replace c1 := cell_of_ans hW c1
              replace c2 := cell_of_ans hW c2
              go_simp
              first | done | with_reducible rfl
            try simp only [Act.put, List.setIfInBounds_toArray, List.set_cons_zero, List.set_cons_succ]
            refine T_ready (rs := [7]) (by kernel_rfl) (by simp) ?_
            refine TReady.cons rfl (fun K hK => ?_) TReady.nil
            try go_simp
            refine (in_e e1).mono ?_
            rintro e w6 ⟨rfl, rfl⟩
            try go_simp
            refine hK.out _ _ (fun _ => hS) (fun _ => ?_)
            clear hK K
            try simp only [Act.put, List.setIfInBounds_toArray, List.set_cons_zero, List.set_cons_succ]
            refine' T_take (i := 8) (v := _) rfl (by kernel_rfl) (by kernel_rfl) (by kernel_rfl) (by kernel_rfl) (fun _ _ _ h => h) (by kernel_rfl) hS ?_ ?_
            rotate_left 1
            · intro Wv hW
              replace k0 := cell_of_ans hW k0
              replace k1 := cell_of_ans hW k1
              replace k2 := cell_of_ans hW k2
              replace k3 := cell_of_ans hW k3
              replace k4 := cell_of_ans hW k4
              replace c1 := cell_of_ans hW c1
              replace c2 := cell_of_ans hW c2
              go_simp
              first | done | with_reducible rfl
            try simp only [Act.put, List.setIfInBounds_toArray, List.set_cons_zero, List.set_cons_succ]
            refine' T_take (i := 9) (v := _) rfl (by kernel_rfl) (by kernel_rfl) (by kernel_rfl) (by kernel_rfl) (fun _ _ _ h => h) (by kernel_rfl) hS ?_ ?_
            rotate_left 1
            · intro Wv hW
              replace k0 := cell_of_ans hW k0
              replace k1 := cell_of_ans hW k1
              replace k2 := cell_of_ans hW k2
              replace k3 := cell_of_ans hW k3
              replace k4 := cell_of_ans hW k4
              replace c1 := cell_of_ans hW c1
              replace c2 := cell_of_ans hW c2
              go_simp
              first | done | with_reducible rfl
            try simp only [Act.put, List.setIfInBounds_toArray, List.set_cons_zero, List.set_cons_succ]
            refine' T_take (i := 10) (v := _) rfl (by kernel_rfl) (by kernel_rfl) (by kernel_rfl) (by kernel_rfl) (fun _ _ _ h => h) (by kernel_rfl) hS ?_ ?_
            rotate_left 1
            · intro Wv hW
              replace k0 := cell_of_ans hW k0
              replace k1 := cell_of_ans hW k1
              replace k2 := cell_of_ans hW k2
              replace k3 := cell_of_ans hW k3
              replace k4 := cell_of_ans hW k4
              replace c1 := cell_of_ans hW c1
              replace c2 := cell_of_ans hW c2
              go_simp
              first | done | with_reducible rfl
            try simp only [Act.put, List.setIfInBounds_toArray, List.set_cons_zero, List.set_cons_succ]
            refine' T_take (i := 11) (v := _) rfl (by kernel_rfl) (by kernel_rfl) (by kernel_rfl) (by kernel_rfl) (fun _ _ _ h => h) (by kernel_rfl) hS ?_ ?_
            rotate_left 1
            · intro Wv hW
              replace k0 := cell_of_ans hW k0
              replace k1 := cell_of_ans hW k1
              replace k2 := cell_of_ans hW k2
              replace k3 := cell_of_ans hW k3
              replace k4 := cell_of_ans hW k4
              replace c1 := cell_of_ans hW c1
              replace c2 := cell_of_ans hW c2
              go_simp
              first | done | with_reducible rfl
            try simp only [Act.put, List.setIfInBounds_toArray, List.set_cons_zero, List.set_cons_succ]
            refine' T_take (i := 12) (v := _) rfl (by kernel_rfl) (by kernel_rfl) (by kernel_rfl) (by kernel_rfl) (fun _ _ _ h => h) (by kernel_rfl) hS ?_ ?_
            rotate_left 1
            · intro Wv hW
              replace k0 := cell_of_ans hW k0
              replace k1 := cell_of_ans hW k1
              replace k2 := cell_of_ans hW k2
              replace k3 := cell_of_ans hW k3
              replace k4 := cell_of_ans hW k4
              replace c1 := cell_of_ans hW c1
              replace c2 := cell_of_ans hW c2
              go_simp
              first | done | with_reducible rfl
            try simp only [Act.put, List.setIfInBounds_toArray, List.set_cons_zero, List.set_cons_succ]
            refine' T_take (i := 13) (v := _) rfl (by kernel_rfl) (by kernel_rfl) (by kernel_rfl) (by kernel_rfl) (fun _ _ _ h => h) (by kernel_rfl) hS ?_ ?_
            rotate_left 1
            · intro Wv hW
              replace k0 := cell_of_ans hW k0
              replace k1 := cell_of_ans hW k1
              replace k2 := cell_of_ans hW k2
              replace k3 := cell_of_ans hW k3
              replace k4 := cell_of_ans hW k4
              replace c1 := cell_of_ans hW c1
              replace c2 := cell_of_ans hW c2
              go_simp
              first | done | with_reducible rfl
            try simp only [Act.put, List.setIfInBounds_toArray, List.set_cons_zero, List.set_cons_succ]
            refine' T_take (i := 14) (v := _) rfl (by kernel_rfl) (by kernel_rfl) (by kernel_rfl) (by kernel_rfl) (fun _ _ _ h => h) (by kernel_rfl) hS ?_ ?_
            rotate_left 1
            · intro Wv hW
              replace k0 := cell_of_ans hW k0
              replace k1 := cell_of_ans hW k1
              replace k2 := cell_of_ans hW k2
              replace k3 := cell_of_ans hW k3
              replace k4 := cell_of_ans hW k4
              replace c1 := cell_of_ans hW c1
              replace c2 := cell_of_ans hW c2
              go_simp
              first | done | with_reducible rfl
            try simp only [Act.put, List.setIfInBounds_toArray, List.set_cons_zero, List.set_cons_succ]
            refine' T_take (i := 15) (v := _) rfl (by kernel_rfl) (by kernel_rfl) (by kernel_rfl) (by kernel_rfl) (fun _ _ _ h => h) (by kernel_rfl) hS ?_ ?_
            rotate_left 1
            · intro Wv hW
              replace k0 := cell_of_ans hW k0
              replace k1 := cell_of_ans hW k1
              replace k2 := cell_of_ans hW k2
              replace k3 := cell_of_ans hW k3
              replace k4 := cell_of_ans hW k4
              replace c1 := cell_of_ans hW c1
              replace c2 := cell_of_ans hW c2
              go_simp
              first | done | with_reducible rfl
            try simp only [Act.put, List.setIfInBounds_toArray, List.set_cons_zero, List.set_cons_succ]
            refine' T_take (i := 16) (v := _) rfl (by kernel_rfl) (by kernel_rfl) (by kernel_rfl) (by kernel_rfl) (fun _ _ _ h => h) (by kernel_rfl) hS ?_ ?_
            rotate_left 1
            · intro Wv hW
              replace k0 := cell_of_ans hW k0
              replace k1 := cell_of_ans hW k1
              replace k2 := cell_of_ans hW k2
              replace k3 := cell_of_ans hW k3
              replace k4 := cell_of_ans hW k4
              replace c1 := cell_of_ans hW c1
              replace c2 := cell_of_ans hW c2
              go_simp
              first | done | with_reducible rfl
            try simp only [Act.put, List.setIfInBounds_toArray, List.set_cons_zero, List.set_cons_succ]
            refine' T_take (i := 17) (v := _) rfl (by kernel_rfl) (by kernel_rfl) (by kernel_rfl) (by kernel_rfl) (fun _ _ _ h => h) (by kernel_rfl) hS ?_ ?_
            rotate_left 1
            · intro Wv hW
              replace k0 := cell_of_ans hW k0
              replace k1 := cell_of_ans hW k1
              replace k2 := cell_of_ans hW k2
              replace k3 := cell_of_ans hW k3
              replace k4 := cell_of_ans hW k4
              replace c1 := cell_of_ans hW c1
              replace c2 := cell_of_ans hW c2
              go_simp
              first | done | with_reducible rfl
            try simp only [Act.put, List.setIfInBounds_toArray, List.set_cons_zero, List.set_cons_succ]
            refine' T_take (i := 18) (v := _) rfl (by kernel_rfl) (by kernel_rfl) (by kernel_rfl) (by kernel_rfl) (fun _ _ _ h => h) (by kernel_rfl) hS ?_ ?_
            rotate_left 1
            · intro Wv hW
              replace k0 := cell_of_ans hW k0
              replace k1 := cell_of_ans hW k1
              replace k2 := cell_of_ans hW k2
              replace k3 := cell_of_ans hW k3
              replace k4 := cell_of_ans hW k4
              replace c1 := cell_of_ans hW c1
              replace c2 := cell_of_ans hW c2
              go_simp
              first | done | with_reducible rfl
            try simp only [Act.put, List.setIfInBounds_toArray, List.set_cons_zero, List.set_cons_succ]
            refine' T_take (i := 19) (v := _) rfl (by kernel_rfl) (by kernel_rfl) (by kernel_rfl) (by kernel_rfl) (fun _ _ _ h => h) (by kernel_rfl) hS ?_ ?_
            rotate_left 1
            · intro Wv hW
              replace k0 := cell_of_ans hW k0
              replace k1 := cell_of_ans hW k1
              replace k2 := cell_of_ans hW k2
              replace k3 := cell_of_ans hW k3
              replace k4 := cell_of_ans hW k4
              replace c1 := cell_of_ans hW c1
              replace c2 := cell_of_ans hW c2
              go_simp
              first | done | with_reducible rfl
            try simp only [Act.put, List.setIfInBounds_toArray, List.set_cons_zero, List.set_cons_succ]
            refine' T_take (i := 20) (v := _) rfl (by kernel_rfl) (by kernel_rfl) (by kernel_rfl) (by kernel_rfl) (fun _ _ _ h => h) (by kernel_rfl) hS ?_ ?_
            rotate_left 1
            · intro Wv hW
              replace k0 := cell_of_ans hW k0
              replace k1 := cell_of_ans hW k1
              replace k2 := cell_of_ans hW k2
              replace k3 := cell_of_ans hW k3
              replace k4 := cell_of_ans hW k4
              replace c1 := cell_of_ans hW c1
              replace c2 := cell_of_ans hW c2
              go_simp
              first | done | with_reducible rfl
            try simp only [Act.put, List.setIfInBounds_toArray, List.set_cons_zero, List.set_cons_succ]
            refine' T_take (i := 21) (v := _) rfl (by kernel_rfl) (by kernel_rfl) (by kernel_rfl) (by kernel_rfl) (fun _ _ _ h => h) (by kernel_rfl) hS ?_ ?_
            rotate_left 1
            · intro Wv hW
              replace k0 := cell_of_ans hW k0
              replace k1 := cell_of_ans hW k1
              replace k2 := cell_of_ans hW k2
              replace k3 := cell_of_ans hW k3
              replace k4 := cell_of_ans hW k4
              replace c1 := cell_of_ans hW c1
              replace c2 := cell_of_ans hW c2
              go_simp
              first | done | with_reducible rfl
            try simp only [Act.put, List.setIfInBounds_toArray, List.set_cons_zero, List.set_cons_succ]
            refine' T_take (i := 22) (v := _) rfl (by kernel_rfl) (by kernel_rfl) (by kernel_rfl) (by kernel_rfl) (fun _ _ _ h => h) (by kernel_rfl) hS ?_ ?_
            rotate_left 1
            · intro Wv hW
              replace k0 := cell_of_ans hW k0
              replace k1 := cell_of_ans hW k1
              replace k2 := cell_of_ans hW k2
              replace k3 := cell_of_ans hW k3
              replace k4 := cell_of_ans hW k4
              replace c1 := cell_of_ans hW c1
              replace c2 := cell_of_ans hW c2
              go_simp
              first | done | with_reducible rfl
            try simp only [Act.put, List.setIfInBounds_toArray, List.set_cons_zero, List.set_cons_succ]
            refine' T_take (i := 23) (v := _) rfl (by kernel_rfl) (by kernel_rfl) (by kernel_rfl) (by kernel_rfl) (fun _ _ _ h => h) (by kernel_rfl) hS ?_ ?_
            rotate_left 1
            · intro Wv hW
              replace k0 := cell_of_ans hW k0
              replace k1 := cell_of_ans hW k1
              replace k2 := cell_of_ans hW k2
              replace k3 := cell_of_ans hW k3
              replace k4 := cell_of_ans hW k4
              replace c1 := cell_of_ans hW c1
              replace c2 := cell_of_ans hW c2
              go_simp
              first | done | with_reducible rfl
            try simp only [Act.put, List.setIfInBounds_toArray, List.set_cons_zero, List.set_cons_succ]
            refine' T_take (i := 24) (v := _) rfl (by kernel_rfl) (by kernel_rfl) (by kernel_rfl) (by kernel_rfl) (fun _ _ _ h => h) (by kernel_rfl) hS ?_ ?_
            rotate_left 1
            · intro Wv hW
              replace k0 := cell_of_ans hW k0
              replace k1 := cell_of_ans hW k1
              replace k2 := cell_of_ans hW k2
              replace k3 := cell_of_ans hW k3
              replace k4 := cell_of_ans hW k4
              replace c1 := cell_of_ans hW c1
              replace c2 := cell_of_ans hW c2
              go_simp
              first | done | with_reducible rfl
            try simp only [Act.put, List.setIfInBounds_toArray, List.set_cons_zero, List.set_cons_succ]
            refine T_done (by kernel_rfl) ?_ _
            refine NoPanic.normal ?_
            try go_simp
            go_wp2_with fail
            go_roundw
            case rel => exact ⟨k + 1, by omega, by go_num, HY.out, HL2.out, below_cat hS HBX.out⟩
            case measure => simp [intOf]; omega
    · obtain rfl : k = xs.length := by omega
      go_wp2_with fail
      go_ret
      exact ⟨ret_bool (by rw [show pinsB r.rows xs = true from allB_true HA.out, show risesB xs = true from allB_true HLs.out]; rfl), HB.out.trans (HBW.out.mono HB.out.size)⟩
end Go.Proofs.Ytpekajnjjhibjaa
