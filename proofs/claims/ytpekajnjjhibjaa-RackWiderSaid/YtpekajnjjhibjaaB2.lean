/-
  where, board, list, many, CheckRack, and whether a link carries.
-/
import Derived.Test.YtpekajnjjhibjaaB1
import Derived.Laws.Bits128
namespace Go.Proofs.Ytpekajnjjhibjaa
open Go.RowKit
set_option linter.unusedSimpArgs false
set_option linter.unusedVariables false

/-- A rack that is valid. -/
structure Ok (r : Rk) : Prop where
  rows1 : 1 ≤ r.rows
  rows4 : r.rows ≤ 4
  mid0 : 0 ≤ r.mid
  mid60 : r.mid ≤ 60
  gap1 : 1 ≤ r.gap
  gap8 : r.gap ≤ 8
  reach0 : 0 ≤ r.reach
  reach10 : r.reach ≤ 10
  len : r.links.length ≤ 12
  link : ∀ k, k < r.links.length → linkB r.rows (lx r.links k) = true

def triN (row : Nat) : Nat := row * (row + 1) / 2
theorem place_at {p row : Nat} (hp : p < 10) (h3 : row ≤ 3) (h1 : triN row ≤ p) (h2 : p - triN row ≤ row) : rowP p = row ∧ atP p = p - triN row := by
  have : ∀ row, row ≤ 3 → ∀ p, p < 10 → triN row ≤ p → p - triN row ≤ row → rowP p = row ∧ atP p = p - triN row := by decide
  exact this row h3 p hp h1 h2
theorem tri_next {row : Nat} (h3 : row ≤ 3) : triN (row + 1) = triN row + (row + 1) := by
  have : ∀ row, row ≤ 3 → triN (row + 1) = triN row + (row + 1) := by decide
  exact this row h3
theorem tri_3 {p row : Nat} (hp : p < 10) (h3 : row ≤ 3) (h : row < p - triN row) : row + 1 ≤ 3 ∧ triN (row + 1) ≤ p := by
  have : ∀ row, row ≤ 3 → ∀ p, p < 10 → row < p - triN row → row + 1 ≤ 3 ∧ triN (row + 1) ≤ p := by decide
  exact this row h3 p hp h
theorem place_le {p : Nat} (hp : p < 10) : rowP p ≤ 3 ∧ atP p ≤ 3 ∧ atP p ≤ rowP p := by
  have : ∀ p, p < 10 → rowP p ≤ 3 ∧ atP p ≤ 3 ∧ atP p ≤ rowP p := by decide
  exact this p hp

set_option maxHeartbeats 400000 in
theorem where_c (p : Nat) (w : World) (hp : p < 10) : Calls Try.prog 103 #[.int .i64 (p : Int)] w (Ans w (.agg #[.int .i64 (rowP p : Int), .int .i64 (atP p : Int)])) := by
  have hb0 : Below w.heap.size w (w.alloc (.cells #[.int .i64 0, .int .i64 0] 155)) := (Below.refl _ _).alloc (Nat.le_refl _) _
  have HB := Lib.hid hb0
  clear hb0
  go_enter Try.func103, Try.ntmps103
  go_wp2
  go_loopw [0, 3] (fun t i wr => ∃ row : Nat, row ≤ 3 ∧ triN row ≤ p ∧ i = .int .i64 row ∧ t = .int .i64 ((p - triN row : Nat) : Int) ∧ wr = w.alloc (.cells #[.int .i64 0, .int .i64 0] 155)) (fun _ i _ => 3 - (intOf i).toNat)
  case atStart => exact ⟨0, by omega, by simp [triN], rfl, by simp [triN], rfl⟩
  case round =>
    obtain ⟨row, h3, h1, rfl, rfl, rfl⟩ := hrel
    by_cases h2 : row < p - triN row
    · obtain ⟨h4, h5⟩ := tri_3 hp h3 h2
      have h6 := tri_next h3
      have h7 : ((row : Int) < ((p - triN row : Nat) : Int)) := by omega
      have h8 : IntKind.i64.wrap ((row : Int) + 1) = (row : Int) + 1 := IntWalk.i64_in _ (by omega)
      have h9 : IntKind.i64.wrap (((p - triN row : Nat) : Int) - ((row : Int) + 1)) = ((p - triN (row + 1) : Nat) : Int) := by
        rw [IntWalk.i64_in _ (by omega)]; omega
      generalize p - triN row = d at *
      go_wp2
      go_roundw
      case rel => exact ⟨row + 1, h4, h5, by go_num, by first | rfl | rw [h6], by trivial⟩
      case measure => simp [intOf]; omega
    · obtain ⟨e1, e2⟩ := place_at hp h3 h1 (by omega)
      have h7 : ¬ ((row : Int) < ((p - triN row : Nat) : Int)) := by omega
      rw [e1, e2]
      generalize p - triN row = d at *
      go_wp2
      refine bodyPost_ret (v := .agg #[.int .i64 (row : Int), .int .i64 (d : Int)]) (by simp [results, Try.results103, go_sem]) rfl ?_
      exact ⟨rfl, (Below.refl _ _).alloc (Nat.le_refl _) _⟩

theorem board_in {r : Rk} (hr : Ok r) {p : Nat} (hp : p < 10) : -100 ≤ boardP r p ∧ boardP r p ≤ 200 := by
  have h := place_le hp
  have h1 := hr.mid0; have h2 := hr.mid60; have h3 := hr.gap1; have h4 := hr.gap8
  unfold boardP
  generalize hd : 2 * (atP p : Int) - (rowP p : Int) = d
  have d1 : -3 ≤ d := by omega
  have d2 : d ≤ 6 := by omega
  have m1 : -24 ≤ r.gap * d := by
    rcases (by omega : r.gap = 1 ∨ r.gap = 2 ∨ r.gap = 3 ∨ r.gap = 4 ∨ r.gap = 5 ∨ r.gap = 6 ∨ r.gap = 7 ∨ r.gap = 8) with e | e | e | e | e | e | e | e <;> rw [e] <;> omega
  have m2 : r.gap * d ≤ 48 := by
    rcases (by omega : r.gap = 1 ∨ r.gap = 2 ∨ r.gap = 3 ∨ r.gap = 4 ∨ r.gap = 5 ∨ r.gap = 6 ∨ r.gap = 7 ∨ r.gap = 8) with e | e | e | e | e | e | e | e <;> rw [e] <;> omega
  omega
set_option maxHeartbeats 800000 in
theorem board_c (r : Rk) (A : Option Addr) (c p : Nat) (w : World) (hr : Ok r) (hp : p < 10) :
    Calls Try.prog 110 #[.agg #[.int .i64 r.rows, .int .i64 r.mid, .int .i64 r.gap, .int .i64 r.reach, .slice A r.links.length c], .int .i64 (p : Int)] w (Ans w (.int .i64 (boardP r p))) := by
  have HB := Lib.hid (Below.refl w.heap.size w)
  have h1 := place_le hp
  have h2 := hr.mid0
  have h3 := hr.mid60
  have h4 := hr.gap1
  have h5 := hr.gap8
  have h6 := board_in hr hp
  have q1 : IntKind.i64.wrap (2 * (atP p : Int)) = 2 * (atP p : Int) := IntWalk.i64_in _ (by omega)
  have q2 : IntKind.i64.wrap (2 * (atP p : Int) - (rowP p : Int)) = 2 * (atP p : Int) - (rowP p : Int) := IntWalk.i64_in _ (by omega)
  have q3 : IntKind.i64.wrap (r.gap * (2 * (atP p : Int) - (rowP p : Int))) = r.gap * (2 * (atP p : Int) - (rowP p : Int)) := IntWalk.i64_in _ (by unfold boardP at h6; omega)
  have q4 : IntKind.i64.wrap (r.mid + r.gap * (2 * (atP p : Int) - (rowP p : Int))) = r.mid + r.gap * (2 * (atP p : Int) - (rowP p : Int)) := IntWalk.i64_in _ (by unfold boardP at h6; omega)
  have HR : Hid (r.mid + r.gap * (2 * (atP p : Int) - (rowP p : Int)) = boardP r p) := rfl
  have hb : Below w.heap.size w (w.alloc (.cells #[.int .i64 r.rows, .int .i64 r.mid, .int .i64 r.gap, .int .i64 r.reach, .slice A r.links.length c] 39)) := (Below.refl _ _).alloc (Nat.le_refl _) _
  replace HB := Lib.hid (HB.out.trans (hb.mono HB.out.size))
  clear hb
  have k1 : (w.alloc (.cells #[.int .i64 r.rows, .int .i64 r.mid, .int .i64 r.gap, .int .i64 r.reach, .slice A r.links.length c] 39)).cell? ⟨w.heap.size, 1, none⟩ = some (.int .i64 r.mid) := by simp
  have k2 : (w.alloc (.cells #[.int .i64 r.rows, .int .i64 r.mid, .int .i64 r.gap, .int .i64 r.reach, .slice A r.links.length c] 39)).cell? ⟨w.heap.size, 2, none⟩ = some (.int .i64 r.gap) := by simp
  go_enter Try.func110, Try.ntmps110
  go_wp2_with fail
  generalize (w.alloc (.cells #[.int .i64 r.rows, .int .i64 r.mid, .int .i64 r.gap, .int .i64 r.reach, .slice A r.links.length c] 39)) = x1 at *
  refine (where_c p _ hp).mono ?_
  rintro e x2 ⟨rfl, hb⟩
  replace k1 := cell_of_ans hb k1
  replace k2 := cell_of_ans hb k2
  replace HB := Lib.hid (HB.out.trans (hb.mono HB.out.size))
  clear hb
  have ltk1 := World.block_lt_of_cell? _ _ k1
  dsimp only at ltk1
  go_wp2_with fail
  go_ret
  exact ⟨ret_int HR.out, HB.out.trans ((((Below.refl _ _).alloc (Nat.le_refl _) _).mono HB.out.size))⟩

def natsI (l : List Nat) : List Int := l.map Int.ofNat
theorem natsI_len (l : List Nat) : (natsI l).length = l.length := by simp [natsI]
theorem listS_take (s k : Nat) (h : s.testBit k = true) : natsI ((List.range (k + 1)).filter s.testBit) = natsI ((List.range k).filter s.testBit) ++ [(k : Int)] := by
  simp [natsI, List.range_succ, List.filter_append, h]
theorem listS_skip (s k : Nat) (h : s.testBit k = false) : natsI ((List.range (k + 1)).filter s.testBit) = natsI ((List.range k).filter s.testBit) := by
  simp [natsI, List.range_succ, List.filter_append, h]

set_option maxHeartbeats 800000 in
theorem list_s (s : Nat) (w : World) (hs : s < 65536) : Calls Try.prog 58 #[.int .u16 (s : Int)] w (NewO w (natsI (listS s))) := by
  go_enter Try.func58, Try.ntmps58
  go_wp2
  go_loopw [2, 4] (fun u i wr => ∃ k : Nat, k ≤ 10 ∧ i = .int .i64 k ∧ Hid (OwnI w.heap.size wr u (natsI ((List.range k).filter s.testBit))) ∧ Below w.heap.size w wr) (fun _ i _ => 10 - (intOf i).toNat)
  case atStart => exact ⟨0, by omega, rfl, OwnI.nil _ _, Below.refl _ _⟩
  case round =>
    obtain ⟨k, hk, rfl, hO, hb⟩ := hrel
    have HB := Lib.hid hb
    have hz := hb.size
    clear hb
    have HL : Hid ((natsI ((List.range k).filter s.testBit)).length ≤ 1000000) := by
      show _ ≤ _
      have := List.length_filter_le s.testBit (List.range k)
      rw [natsI_len]; simp at this; omega
    by_cases h1 : k < 10
    · obtain ⟨Au, cu, hu⟩ := hO.out.form
      have HH := Lib.hid (has_c s k wr hs (by omega))
      cases hp : s.testBit k
      · rw [hp] at HH
        have HS := Lib.hid (listS_skip s k hp)
        clear hp
        generalize natsI ((List.range k).filter s.testBit) = xs at *
        subst hu
        go_wp2_with fail
        refine HH.out.mono ?_
        rintro e w1 ⟨rfl, rfl⟩
        go_wp2_with fail
        go_roundw
        case rel => exact ⟨k + 1, by omega, by go_num, by rw [HS.out]; exact hO, HB.out⟩
        case measure => simp [intOf]; omega
      · rw [hp] at HH
        have HS := Lib.hid (listS_take s k hp)
        clear hp
        generalize natsI ((List.range k).filter s.testBit) = xs at *
        subst hu
        have HLX : Hid ((xs ++ [(k : Int)]).length = xs.length + 1) := by show _ = _; simp
        go_wp2_with fail
        refine HH.out.mono ?_
        rintro e w1 ⟨rfl, rfl⟩
        go_wp2_with (at_builtin; refine wpList_app_int (.tmp 10) (.tmp 12) rfl rfl w.heap.size wr _ xs (k : Int) rfl rfl hO HL.out hz ?_; intro As cs w3 HO3 HB3)
        go_roundw
        case rel => exact ⟨k + 1, by omega, by go_num, by rw [HS.out]; exact HO3, HB.out.trans HB3.out⟩
        case measure => simp [intOf]; omega
    · obtain rfl : k = 10 := by omega
      obtain ⟨Au, cu, rfl⟩ := hO.out.form
      go_wp2_with fail
      go_ret
      exact ⟨_, _, rfl, hO.out, HB.out⟩

set_option maxHeartbeats 400000 in
theorem many_c (s : Nat) (w : World) (hs : s < 65536) : Calls Try.prog 61 #[.int .u16 (s : Int)] w (Ans w (.int .i64 (many s : Int))) := by
  have HH := Lib.hid (list_s s w hs)
  have HR : Hid ((natsI (listS s)).length = many s) := by show _ = _; rw [natsI_len]; rfl
  go_enter Try.func61, Try.ntmps61
  go_wp2_with fail
  refine HH.out.mono ?_
  rintro e w1 ⟨A, c, rfl, hO, hb⟩
  have HB := Lib.hid hb
  rw [HR.out]
  clear hb hO
  go_wp2_with fail
  go_ret
  exact ⟨rfl, HB.out⟩

/-- How many links of the first k are not sure. -/
def mayTo (ls : List Lk) : Nat → Nat
  | 0 => 0
  | k + 1 => mayTo ls k + (if (lx ls k).s then 0 else 1)
theorem mayTo_le (ls : List Lk) : ∀ k, mayTo ls k ≤ k
  | 0 => Nat.le_refl _
  | k + 1 => by
    have := mayTo_le ls k
    rw [mayTo]; split <;> omega
/-- The error of a rack. -/
noncomputable def rackErr (r : Rk) : Int :=
  if r.links.length ≤ 12 ∧ mayTo r.links r.links.length ≤ 6 then
    (if inB r.rows 1 4 && (inB r.mid 0 60 && (inB r.gap 1 8 && (inB r.reach 0 10 && allB r.links.length (fun k => linkB r.rows (lx r.links k))))) then 0 else 1) else 3
theorem rackOk {r : Rk} (h : rackErr r = 0) : Ok r := by
  unfold rackErr at h
  split at h
  · rename_i h1
    split at h
    · rename_i h2
      simp only [Bool.and_eq_true, inB_eq, allB_iff] at h2
      obtain ⟨⟨a, b⟩, ⟨c, d⟩, ⟨e, f⟩, ⟨i, j⟩, k⟩ := h2
      exact ⟨a, b, c, d, e, f, i, j, h1.1, k⟩
    · cases h
  · cases h
theorem rackErr_cases (r : Rk) : rackErr r = 0 ∨ rackErr r = 1 ∨ rackErr r = 3 := by
  unfold rackErr
  split
  · split
    · exact .inl rfl
    · exact .inr (.inl rfl)
  · exact .inr (.inr rfl)
theorem enters73 : Enters 73 := fun _ _ => enters_of Try.func73 (by kernel_rfl) rfl _ _

set_option maxHeartbeats 4000000 in
theorem checkRack_c (r : Rk) (A : Option Addr) (c : Nat) (w : World) (hl : Lks w.heap.size w A r.links) (hc : r.links.length ≤ c ∧ c ≤ 9223372036854775807) :
    Calls Try.prog 36 #[.agg #[.int .i64 r.rows, .int .i64 r.mid, .int .i64 r.gap, .int .i64 r.reach, .slice A r.links.length c]] w (Ans w (.int .i64 (rackErr r))) := by
  have HB := Lib.hid (Below.refl w.heap.size w)
  have HL := Lib.hid hl
  clear hl
  have hb : Below w.heap.size w (w.alloc (.cells #[.int .i64 r.rows, .int .i64 r.mid, .int .i64 r.gap, .int .i64 r.reach, .slice A r.links.length c] 39)) := (Below.refl _ _).alloc (Nat.le_refl _) _
  replace HL := Lib.hid (HL.out.step hb)
  replace HB := Lib.hid (HB.out.trans (hb.mono HB.out.size))
  clear hb
  have k0 : (w.alloc (.cells #[.int .i64 r.rows, .int .i64 r.mid, .int .i64 r.gap, .int .i64 r.reach, .slice A r.links.length c] 39)).cell? ⟨w.heap.size, 0, none⟩ = some (.int .i64 r.rows) := by simp
  have k1 : (w.alloc (.cells #[.int .i64 r.rows, .int .i64 r.mid, .int .i64 r.gap, .int .i64 r.reach, .slice A r.links.length c] 39)).cell? ⟨w.heap.size, 1, none⟩ = some (.int .i64 r.mid) := by simp
  have k2 : (w.alloc (.cells #[.int .i64 r.rows, .int .i64 r.mid, .int .i64 r.gap, .int .i64 r.reach, .slice A r.links.length c] 39)).cell? ⟨w.heap.size, 2, none⟩ = some (.int .i64 r.gap) := by simp
  have k3 : (w.alloc (.cells #[.int .i64 r.rows, .int .i64 r.mid, .int .i64 r.gap, .int .i64 r.reach, .slice A r.links.length c] 39)).cell? ⟨w.heap.size, 3, none⟩ = some (.int .i64 r.reach) := by simp
  have k4 : (w.alloc (.cells #[.int .i64 r.rows, .int .i64 r.mid, .int .i64 r.gap, .int .i64 r.reach, .slice A r.links.length c] 39)).cell? ⟨w.heap.size, 4, none⟩ = some (.slice A r.links.length c) := by simp
  go_enter Try.func36, Try.ntmps36
  go_wp2_with fail
  generalize (w.alloc (.cells #[.int .i64 r.rows, .int .i64 r.mid, .int .i64 r.gap, .int .i64 r.reach, .slice A r.links.length c] 39)) = x1 at *
  go_loopw [3, 9] (fun m i wr => ∃ k : Nat, k ≤ r.links.length ∧ i = .int .i64 k ∧ m = .int .i64 (mayTo r.links k : Int) ∧ Below x1.heap.size x1 wr) (fun _ i _ => r.links.length - (intOf i).toNat)
  case atStart => exact ⟨0, by omega, rfl, rfl, Below.refl _ _⟩
  case round =>
    obtain ⟨k, hk, rfl, rfl, hb⟩ := hrel
    by_cases h1 : k < r.links.length
    · obtain ⟨b, off, rfl, hb1, c1, c2, c3⟩ := (HL.out.step hb).at_ h1
      have HM : Hid (mayTo r.links (k + 1) = mayTo r.links k + (if (lx r.links k).s then 0 else 1)) := rfl
      have hm := mayTo_le r.links k
      generalize mayTo r.links k = m at *
      generalize lx r.links k = x at *
      obtain ⟨xf, xt, xs⟩ := x
      dsimp only at c1 c2 c3 HM
      have hz := hb.size
      have h1i : (k : Int) < (r.links.length : Int) := by omega
      have hb2 : Below x1.heap.size x1 (wr.alloc (.cells #[.int .i64 xf, .int .i64 xt, .bool xs] 99)) := hb.alloc hz _
      have HB2 := Lib.hid hb2
      clear hb hb2
      cases xs
      all_goals
        go_wp2_with fail
        go_roundw
        case rel => exact ⟨k + 1, by omega, by go_num, by rw [HM.out]; simp, HB2.out⟩
        case measure => simp [intOf]; omega
    · obtain rfl : k = r.links.length := by omega
      replace HL := Lib.hid (HL.out.step hb)
      replace k0 := cell_of_ans hb k0
      replace k1 := cell_of_ans hb k1
      replace k2 := cell_of_ans hb k2
      replace k3 := cell_of_ans hb k3
      replace k4 := cell_of_ans hb k4
      replace HB := Lib.hid (HB.out.trans (hb.mono HB.out.size))
      clear hb
      have hm := mayTo_le r.links r.links.length
      by_cases t0 : r.links.length ≤ 12
      · by_cases t1 : mayTo r.links r.links.length ≤ 6
        · have HA : Hid (allB r.links.length (fun k => linkB r.rows (lx r.links k)) = allB r.links.length (fun k => linkB r.rows (lx r.links k))) := rfl
          have HE : Hid (rackErr r = if inB r.rows 1 4 && (inB r.mid 0 60 && (inB r.gap 1 8 && (inB r.reach 0 10 && allB r.links.length (fun k => linkB r.rows (lx r.links k))))) then (0 : Int) else 1) := by show _ = _; rw [rackErr, if_pos ⟨t0, t1⟩]
          have ht0 : (r.links.length : Int) ≤ 12 := by omega
          have ht1 : ((mayTo r.links r.links.length : Nat) : Int) ≤ 6 := by omega
          generalize mayTo r.links r.links.length = m at *
          clear t1
          cases e0 : inB r.rows 1 4
          · rw [e0] at HE
            go_wp2_with (go_at_call 65; refine (within_c _ _ _ _).mono ?_; rintro e w1 ⟨rfl, rfl⟩)
            go_ret
            exact ⟨ret_int (by rw [HE.out]; rfl), HB.out⟩
          · cases e1 : inB r.mid 0 60
            · rw [e0, e1] at HE
              go_wp2_with (go_at_call 65; refine (within_c _ _ _ _).mono ?_; rintro e w1 ⟨rfl, rfl⟩)
              go_ret
              exact ⟨ret_int (by rw [HE.out]; rfl), HB.out⟩
            · cases e2 : inB r.gap 1 8
              · rw [e0, e1, e2] at HE
                go_wp2_with (go_at_call 65; refine (within_c _ _ _ _).mono ?_; rintro e w1 ⟨rfl, rfl⟩)
                go_ret
                exact ⟨ret_int (by rw [HE.out]; rfl), HB.out⟩
              · cases e3 : inB r.reach 0 10
                · rw [e0, e1, e2, e3] at HE
                  go_wp2_with (go_at_call 65; refine (within_c _ _ _ _).mono ?_; rintro e w1 ⟨rfl, rfl⟩)
                  go_ret
                  exact ⟨ret_int (by rw [HE.out]; rfl), HB.out⟩
                · obtain ⟨hr1, hr4⟩ := (inB_eq _ _ _).1 e0
                  have H1 := Lib.hid (allLk (B := wr.heap.size) A c 73 #[.agg #[.int .i64 r.rows, .int .i64 r.mid, .int .i64 r.gap, .int .i64 r.reach, .slice A r.links.length c]] #[] r.links (fun k => linkB r.rows (lx r.links k)) wr enters73 (Nat.le_refl _) (by omega) HL.out (fun k _ W _ => link_c r.rows r.mid r.gap r.reach (lx r.links k) A r.links.length c W hr1 hr4))
                  rw [e0, e1, e2, e3] at HE
                  cases h3 : allB r.links.length (fun k => linkB r.rows (lx r.links k))
                  all_goals
                    have H3 := Lib.hid h3
                    clear h3
                    go_wp2_with (go_at_call 65; refine (within_c _ _ _ _).mono ?_; rintro e w1 ⟨rfl, rfl⟩)
                    refine H1.out.mono ?_
                    rw [H3.out]
                    rintro e w1 ⟨rfl, hb⟩
                    replace HL := Lib.hid (HL.out.step hb)
                    replace k0 := cell_of_ans hb k0
                    replace k1 := cell_of_ans hb k1
                    replace k2 := cell_of_ans hb k2
                    replace k3 := cell_of_ans hb k3
                    replace k4 := cell_of_ans hb k4
                    replace HB := Lib.hid (HB.out.trans (hb.mono HB.out.size))
                    clear hb
                    go_wp2_with fail
                    go_ret
                    exact ⟨ret_int (by rw [HE.out, H3.out]; rfl), HB.out⟩
        · have HE : Hid (rackErr r = 3) := by show _ = _; rw [rackErr, if_neg (fun h => t1 h.2)]
          have ht0 : (r.links.length : Int) ≤ 12 := by omega
          have ht1 : ¬ ((mayTo r.links r.links.length : Nat) : Int) ≤ 6 := by omega
          generalize mayTo r.links r.links.length = m at *
          go_wp2_with fail
          go_ret
          exact ⟨ret_int HE.out.symm, HB.out⟩
      · have HE : Hid (rackErr r = 3) := by show _ = _; rw [rackErr, if_neg (fun h => t0 h.1)]
        have ht0 : ¬ (r.links.length : Int) ≤ 12 := by omega
        go_wp2_with fail
        go_ret
        exact ⟨ret_int HE.out.symm, HB.out⟩

set_option maxHeartbeats 400000 in
theorem surely_c (x : Lk) (i j : Int) (w : World) : Calls Try.prog 56 #[lV x, .int .i64 i, .int .i64 j] w (Ans w (.bool x.s)) := by
  obtain ⟨xf, xt, xs⟩ := x
  unfold lV
  dsimp only
  have hb0 : Below w.heap.size w (w.alloc (.cells #[.int .i64 xf, .int .i64 xt, .bool xs] 99)) := (Below.refl _ _).alloc (Nat.le_refl _) _
  have HB := Lib.hid hb0
  clear hb0
  go_enter Try.func56, Try.ntmps56
  go_wp2_with fail
  go_ret
  exact ⟨rfl, HB.out⟩

set_option maxHeartbeats 400000 in
theorem maybe_c (x : Lk) (i j : Int) (w : World) : Calls Try.prog 57 #[lV x, .int .i64 i, .int .i64 j] w (Ans w (.bool true)) := by
  obtain ⟨xf, xt, xs⟩ := x
  unfold lV
  dsimp only
  have hb0 : Below w.heap.size w (w.alloc (.cells #[.int .i64 xf, .int .i64 xt, .bool xs] 99)) := (Below.refl _ _).alloc (Nat.le_refl _) _
  have HB := Lib.hid hb0
  clear hb0
  go_enter Try.func57, Try.ntmps57
  go_wp2_with fail
  go_ret
  exact ⟨rfl, HB.out⟩

theorem i64_and1 (n : Int) : bits .and .i64 n 1 = n % 2 := by
  have h1 : (BitVec.ofInt 64 1).toNat = 2 ^ 1 - 1 := by decide
  have key : (BitVec.ofInt 64 n &&& BitVec.ofInt 64 1).toNat = (n % ((2 ^ 64 : Nat) : Int)).toNat % 2 ^ 1 := by
    rw [BitVec.toNat_and, BitVec.toNat_ofInt, h1, Nat.and_two_pow_sub_one_eq_mod]
  show IntKind.i64.wrap ((BitVec.ofInt 64 n &&& BitVec.ofInt 64 1).toNat : Nat) = n % 2
  rw [key, IntKind.wrap_i64]
  omega
theorem some_bit (b i : Nat) : (bits .and .i64 ((b : Int) / 2 ^ i) 1 == 1) = b.testBit i := by
  have h1 : ((b : Int) / 2 ^ i) = ((b / 2 ^ i : Nat) : Int) := by simp
  rw [i64_and1, h1, Nat.testBit_eq_decide_div_mod_eq]
  generalize b / 2 ^ i = x
  rcases Nat.mod_two_eq_zero_or_one x with e | e
  · simp [e]; omega
  · simp [e]; omega
set_option maxHeartbeats 400000 in
theorem some_c (x : Lk) (i b : Nat) (w : World) (hi : i < 16) : Calls Try.prog 78 #[lV x, .int .i64 (i : Int), .int .i64 (b : Int)] w (Ans w (.bool (x.s || b.testBit i))) := by
  obtain ⟨xf, xt, xs⟩ := x
  unfold lV
  dsimp only
  have hb0 : Below w.heap.size w (w.alloc (.cells #[.int .i64 xf, .int .i64 xt, .bool xs] 99)) := (Below.refl _ _).alloc (Nat.le_refl _) _
  have HB := Lib.hid hb0
  have HR := Lib.hid (some_bit b i)
  clear hb0
  cases xs
  · go_enter Try.func78, Try.ntmps78
    go_wp2_with fail
    go_ret
    exact ⟨ret_bool (by rw [← HR.out]; rfl), HB.out⟩
  · go_enter Try.func78, Try.ntmps78
    go_wp2_with fail
    go_ret
    exact ⟨rfl, HB.out⟩
end Go.Proofs.Ytpekajnjjhibjaa
