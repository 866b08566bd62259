/-
  The bounds of all cells behind balls.
-/
import Derived.Test.YtgnonfomlgkpcaaK
namespace Go.Proofs.Ytgnonfomlgkpcaa
open Go.RowKit

/-- The oil behind the first k balls, if each wears bf in the row before and ow in its own one. -/
def endO (ca : Int) (n : Nat) (bss : List (List Int)) (bf ow : Int) (o : Nat → Int) (k : Nat) : Nat → Int :=
  (List.range k).foldl (fun o i => rollW ca (rx bss i) (fun _ => bf) (fun _ => ow) o (List.range n)) o
theorem endO_succ (ca : Int) (n : Nat) (bss : List (List Int)) (bf ow : Int) (o : Nat → Int) (k : Nat) : endO ca n bss bf ow o (k + 1) = rollW ca (rx bss k) (fun _ => bf) (fun _ => ow) (endO ca n bss bf ow o k) (List.range n) := by
  simp [endO, List.range_succ]
theorem lvl_endO {ca : Int} {n : Nat} {bss : List (List Int)} {bf ow : Int} {o : Nat → Int} (h : Lvl o) (hw : 0 ≤ ow) (k : Nat) : Lvl (endO ca n bss bf ow o k) := by
  induction k with
  | zero => exact h
  | succ k ih => rw [endO_succ]; exact ih.roll (fun _ => hw) _

def BoundsPost (w : World) (err : Int) (yss zss : List (List Int)) (e : Ending) (w' : World) : Prop :=
  (err ≠ 0 ∧ e = .returned (.tuple #[.slice none 0 0, .slice none 0 0, .int .i64 err]) ∧ Below w.heap.size w w') ∨
  (err = 0 ∧ ∃ v u, e = .returned (.tuple #[v, u, .int .i64 0]) ∧ IsGrd w'.heap.size w' v yss ∧ IsGrd w'.heap.size w' u zss ∧ Below w.heap.size w w')

theorem ret_err3 {v u : Value} {a b : Int} (h : a = b) : Ending.returned (.tuple #[v, u, .int .i64 a]) = .returned (.tuple #[v, u, .int .i64 b]) := by rw [h]

set_option maxRecDepth 100000 in
set_option maxHeartbeats 4000000 in
theorem bounds_c {B : Nat} (A Ab : Option Addr) (xss bss : List (List Int)) (c cb : Nat) (lo hi ca : Int) (w : World) (hB : B ≤ w.heap.size) (hr : Grd B w A xss) (hb : Grd B w Ab bss) (hc : xss.length ≤ c ∧ c ≤ 9223372036854775807) (hcb : bss.length ≤ cb ∧ cb ≤ 9223372036854775807) :
    Calls Try.prog 26 #[.agg #[.slice A xss.length c, .int .i64 lo, .int .i64 hi, .int .i64 ca], .slice Ab bss.length cb] w
      (BoundsPost w (ballsErr xss lo hi ca bss) (rowsOf (endO ca xss.length bss lo hi (oilOf xss) bss.length) (rx xss 0).length xss.length) (rowsOf (endO ca xss.length bss hi lo (oilOf xss) bss.length) (rx xss 0).length xss.length)) := by
  have hw1 : Below w.heap.size w (w.alloc (.cells #[.slice A xss.length c, .int .i64 lo, .int .i64 hi, .int .i64 ca] 34)) := (Below.refl _ _).alloc (Nat.le_refl _) _
  have hz1 := hw1.size
  have H1 := Lib.hid (check_c (B := B) A Ab xss bss c cb lo hi ca _ (by omega) (hr.below (hw1.mono hB)) (hb.below (hw1.mono hB)) hc hcb)
  have HRr := Lib.hid hr
  have HBr := Lib.hid hb
  clear hr hb
  by_cases h : ballsErr xss lo hi ca bss = 0
  · have HE := Lib.hid h
    clear h
    have HV1 := Lib.hid (ballsOk HE.out)
    have HV := Lib.hid (laneOk HV1.out.1)
    have HLW := Lib.hid (lvl_oilOf HV1.out.1)
    go_enter Try.func26, Try.ntmps26
    go_wp2_with fail
    refine H1.out.mono ?_
    rw [HE.out]
    rintro e w1 ⟨rfl, hb1⟩
    have d0 := cell_of_ans hb1 (p := ⟨w.heap.size, 0, none⟩) (v := .slice A xss.length c) (by go_simp)
    have d1 := cell_of_ans hb1 (p := ⟨w.heap.size, 1, none⟩) (v := .int .i64 lo) (by go_simp)
    have d2 := cell_of_ans hb1 (p := ⟨w.heap.size, 2, none⟩) (v := .int .i64 hi) (by go_simp)
    have d3 := cell_of_ans hb1 (p := ⟨w.heap.size, 3, none⟩) (v := .int .i64 ca) (by go_simp)
    have hz2 : w.heap.size + 1 ≤ w1.heap.size := by have := hb1.size; simp at this; omega
    have HB2 := Lib.hid (hw1.trans (hb1.mono hz1))
    clear hb1 hw1 hz1 H1
    have H61 : Hid (∀ W, Below w.heap.size w W → Calls Try.prog 61 #[.agg #[.slice A xss.length c, .int .i64 lo, .int .i64 hi, .int .i64 ca]] W (FreshPost W (.slice A xss.length c) lo hi ca (oilOf xss))) :=
      fun W hW => fresh_c (B := B) A xss c lo hi ca W (Nat.le_trans hB hW.size) (HRr.out.below (hW.mono hB)) hc HV.out.2.1 (fun k hk => (HV.out.2.2.1 k hk).2.2)
    have HBa : Hid (Below w.heap.size w w1) := HB2.out
    go_upto_region 4 with fail
    go_cut [8, 9] (fun s8 s9 wx => ∃ p q : Nat, s8 = .pointer (some ⟨p, 0, none⟩) ∧ s9 = .pointer (some ⟨q, 0, none⟩) ∧ w1.heap.size ≤ p ∧ p < q ∧ Worn wx p (.slice A xss.length c) lo hi ca (oilOf xss) ∧ Worn wx q (.slice A xss.length c) lo hi ca (oilOf xss) ∧ Below w1.heap.size w1 wx)
    case first =>
      go_region_held3 (fun w' => w'.cell? ⟨w.heap.size, 0, none⟩ = some (.slice A xss.length c) ∧ w'.cell? ⟨w.heap.size, 1, none⟩ = some (.int .i64 lo) ∧ w'.cell? ⟨w.heap.size, 2, none⟩ = some (.int .i64 hi) ∧ w'.cell? ⟨w.heap.size, 3, none⟩ = some (.int .i64 ca)) (go_keep)
        (first
          | (go_at_call 61; refine (H61.out _ HBa.out.drew).mono ?_; clear HBa; rintro e w5 ⟨g5, rfl, hg5, hW5, hb5⟩; have r0 := cell_of_ans hb5 d0; have r1 := cell_of_ans hb5 d1; have r2 := cell_of_ans hb5 d2; have r3 := cell_of_ans hb5 d3; have HB5 := Lib.hid hb5; have HW5 := Lib.hid hW5; have HG5 := Lib.hid hg5; clear hb5 hW5 hg5; have HBb : Hid (Below w.heap.size w w5) := (HB2.out.drew).trans (HB5.out.mono HB2.out.size))
          | (go_at_call 61; refine (H61.out _ HBb.out).mono ?_; clear HBb; rintro e w6 ⟨g6, rfl, hg6, hW6, hb6⟩; have t0 := cell_of_ans hb6 r0; have t1 := cell_of_ans hb6 r1; have t2 := cell_of_ans hb6 r2; have t3 := cell_of_ans hb6 r3; have HB6 := Lib.hid hb6; have HW6 := Lib.hid hW6; have HG6 := Lib.hid hg6; clear hb6 hW6 hg6))
      go_wp2_with fail
      go_meet
      have z5 := HB5.out.size
      have z5' := HG5.out
      rw [World.size_drew] at z5 z5'
      have z6 := HB6.out.size
      have z6' := HG6.out
      have l5 := HW5.out.lt
      exact ⟨g5, g6, rfl, rfl, z5', by omega, HW5.out.below HB6.out l5, HW6.out, (below_drew_l HB5.out).trans (HB6.out.mono z5)⟩
    case rest =>
      obtain ⟨p, q, rfl, rfl, hp, hpq, hWp, hWq, hbx⟩ := hcut
      clear HBa H61 d0 d1 d2 d3
      have HWp := Lib.hid hWp
      have HWq := Lib.hid hWq
      have HBX := Lib.hid hbx
      clear hWp hWq hbx
      go_wp2_with fail
      go_loopw [24] (fun i wr => ∃ k : Nat, k ≤ bss.length ∧ i = .int .i64 k ∧ Worn wr p (.slice A xss.length c) lo hi ca (endO ca xss.length bss lo hi (oilOf xss) k) ∧ Worn wr q (.slice A xss.length c) lo hi ca (endO ca xss.length bss hi lo (oilOf xss) k) ∧ Below w1.heap.size w1 wr) (fun i _ => bss.length - (intOf i).toNat)
      case atStart => exact ⟨0, by omega, rfl, HWp.out, HWq.out, HBX.out⟩
      case round =>
        obtain ⟨k, hk, rfl, hWp, hWq, hbr⟩ := hrel
        clear HWp HWq HBX
        have hzr := hbr.size
        have hbw : Below B w wr := (HB2.out.mono hB).trans (hbr.mono (by omega))
        by_cases h1 : k < bss.length
        · obtain ⟨bb0, off0, Ab', cb', rfl, hb0, hcl, hl1, hl2, hin⟩ := (HBr.out.below hbw).at_ h1
          have hball := HV1.out.2.2 k h1
          have h12 := (HV.out.2.2.1 0 HV.out.1).2.2
          have hv := HV.out.2.2.2.2
          have hlen : (rx bss k).length ≤ 8 := by rw [hball.1]; exact HV.out.2.1
          have hbd : ∀ j, j < (rx bss k).length → 0 ≤ ix (rx bss k) j ∧ ix (rx bss k) j < 12 := fun j hj => by
            have := hball.2 j (by rw [← hball.1]; exact hj)
            omega
          have H68 := Lib.hid (roll_c (B := B) p 69 cb' Ab' (rx bss k) (.slice A xss.length c) lo hi ca lo hi _ wr hWp (by omega) (by omega) hin enters69 (fun W => little_c lo hi W) hlen hbd hv.2.2.2.1 hv.2.2.2.2 hv.1 (by omega) (by omega) hv.2.2.1 (lvl_endO HLW.out (by omega) k))
          have H70 := Lib.hid (fun (W : World) (hW : wr.grownBy W (some p)) => roll_c (B := B) q 70 cb' Ab' (rx bss k) (.slice A xss.length c) lo hi ca hi lo _ W (hWq.grown hW (fun e => by injection e with e; omega)) (by have := hW.size; omega) (by omega) (hin.below (below_only hW (by omega) (by omega))) enters70 (fun W => much_c lo hi W) hlen hbd hv.2.2.2.1 hv.2.2.2.2 (by omega) hv.2.2.1 hv.1 (by omega) (lvl_endO HLW.out hv.1 k))
          have HBALL := Lib.hid hball.1
          have HBRR := Lib.hid hbr
          clear hball hbd hv hlen h12 hin hWp hWq hbr hbw
          go_wp2_with fail
          refine H68.out.mono ?_
          rintro e w5 ⟨rfl, hWp5, hg5⟩
          have HG5 := Lib.hid hg5
          have HP5 := Lib.hid hWp5
          clear hg5 hWp5
          go_wp2_with fail
          refine (H70.out w5 HG5.out).mono ?_
          rintro e w6 ⟨rfl, hWq6, hg6⟩
          have HG6 := Lib.hid hg6
          have HQ6 := Lib.hid hWq6
          clear hg6 hWq6
          go_wp2_with fail
          go_roundw
          case rel =>
            refine ⟨k + 1, by omega, by go_num, ?_, ?_, ?_⟩
            · rw [endO_succ]
              have := HP5.out.grown HG6.out (fun e => by injection e with e; omega)
              rwa [HBALL.out] at this
            · rw [endO_succ]
              have := HQ6.out
              rwa [HBALL.out] at this
            · exact (HBRR.out.trans (below_only HG5.out hp (by omega))).trans (below_only HG6.out (by omega) (by have := HG5.out.size; omega))
          case measure => simp [intOf]; omega
        · obtain rfl : k = bss.length := by omega
          have h12 := (HV.out.2.2.1 0 HV.out.1).2.2
          have H64 := Lib.hid (list_c (B := B) p A c lo hi ca _ xss wr hWp (by omega) (HRr.out.below hbw) HV.out.1 HV.out.2.1 h12)
          have H64b := Lib.hid (fun (W : World) (hW : Below wr.heap.size wr W) => list_c (B := B) q A c lo hi ca _ xss W (hWq.below hW hWq.lt) (by have := hW.size; omega) (HRr.out.below (hbw.trans (hW.mono (by omega)))) HV.out.1 HV.out.2.1 h12)
          have HBRR := Lib.hid hbr
          clear hWp hWq hbr hbw h12
          go_wp2_with fail
          refine H64.out.mono ?_
          rintro e w7 ⟨v7, rfl, hv7, hb7⟩
          have HV7 := Lib.hid hv7
          have HB7 := Lib.hid hb7
          clear hv7 hb7
          go_wp2_with fail
          refine (H64b.out w7 HB7.out).mono ?_
          rintro e w8 ⟨v8, rfl, hv8, hb8⟩
          have HV8 := Lib.hid hv8
          have HB8 := Lib.hid hb8
          clear hv8 hb8
          go_wp2_with fail
          go_ret3
          refine .inr ⟨HE.out, _, _, rfl, (HV7.out.below HB8.out).more HB8.out.size, HV8.out, ?_⟩
          exact ((HB2.out.trans (HBRR.out.mono (by omega))).trans (HB7.out.mono (by omega))).trans (HB8.out.mono (by have := HB7.out.size; omega))
  · have h1' : (ballsErr xss lo hi ca bss != 0) = true := by simp [h]
    have HE := Lib.hid h
    clear h
    go_enter Try.func26, Try.ntmps26
    go_wp2_with fail
    refine H1.out.mono ?_
    rintro e w1 ⟨rfl, hb1⟩
    go_wp2_with fail
    go_ret3
    exact .inl ⟨HE.out, rfl, hw1.trans (hb1.mono hz1)⟩
end Go.Proofs.Ytgnonfomlgkpcaa
