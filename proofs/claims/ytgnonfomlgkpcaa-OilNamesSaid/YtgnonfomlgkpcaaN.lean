/-
  The reference: what is valid.
-/
import Derived.Test.YtgnonfomlgkpcaaM
namespace Go.Proofs.Ytgnonfomlgkpcaa
open Go.RowKit

theorem allB_false {n k : Nat} {p : Nat → Bool} (hk : k < n) (hp : p k = false) : allB n p = false := Bool.eq_false_iff.2 fun h => by rw [allB_iff] at h; rw [h k hk] at hp; cases hp
theorem allB_true {n : Nat} {p : Nat → Bool} (h : AllB n p) : allB n p = true := allB_iff.2 h

set_option maxHeartbeats 1000000 in
theorem isBall_c {B : Nat} (A A' : Option Addr) (xss : List (List Int)) (x : List Int) (c c' : Nat) (lo hi ca : Int) (w : World) (hB : B ≤ w.heap.size) (hr : Grd B w A xss) (hx : Ints B w A' x) (h0 : 0 < xss.length) (hc' : x.length ≤ c' ∧ c' ≤ 9223372036854775807) :
    Calls Try.prog 75 #[.agg #[.slice A xss.length c, .int .i64 lo, .int .i64 hi, .int .i64 ca], .slice A' x.length c'] w (Ans w (.bool (ballB xss x))) := by
  have hw1 : Below w.heap.size w (w.alloc (.cells #[.slice A xss.length c, .int .i64 lo, .int .i64 hi, .int .i64 ca] 26)) := (Below.refl _ _).alloc (Nat.le_refl _) _
  have f0 : (w.alloc (.cells #[.slice A xss.length c, .int .i64 lo, .int .i64 hi, .int .i64 ca] 26)).cell? ⟨w.heap.size, 0, none⟩ = some (.slice A xss.length c) := by simp
  have hsz : (w.alloc (.cells #[.slice A xss.length c, .int .i64 lo, .int .i64 hi, .int .i64 ca] 26)).heap.size = w.heap.size + 1 := by simp
  have hl0 := grd_len hr h0
  have HRr := Lib.hid hr
  have HX := Lib.hid hx
  clear hr hx
  go_enter Try.func75, Try.ntmps75
  go_wp2_with fail
  generalize w.alloc (.cells #[.slice A xss.length c, .int .i64 lo, .int .i64 hi, .int .i64 ca] 26) = W1 at hw1 f0 hsz ⊢
  have HSZ := Lib.hid hsz
  clear hsz
  go_loopw [5] (fun i wr => ∃ k : Nat, k ≤ x.length ∧ i = .int .i64 k ∧ AllB k (fun j => inB (ix x j) 0 ((rx xss 0).length - 1)) ∧ Below W1.heap.size W1 wr) (fun i _ => x.length - (intOf i).toNat)
  case atStart => exact ⟨0, by omega, rfl, fun j hj => by omega, Below.refl _ _⟩
  case round =>
    obtain ⟨k, hk, rfl, hp, hb⟩ := hrel
    have hb2 := hw1.trans (hb.mono (by have := HSZ.out; omega))
    have f0' := cell_of_ans hb f0
    by_cases h1 : k < x.length
    · obtain ⟨b, off, rfl, hbb, hcl⟩ := (HX.out.below (hb2.mono hB)).at_ h1
      obtain ⟨b0, off0, A0, c0, rfl, hb0, hcl0, _, _, _⟩ := (HRr.out.below (hb2.mono hB)).at_ h0
      simp only [Nat.add_zero] at hcl0
      have hki : ((k : Nat) : Int) < (x.length : Int) := by omega
      have hki0 : (0 : Int) ≤ ((k : Nat) : Int) := by omega
      have HB1 := Lib.hid hb
      have HB2 := Lib.hid hb2
      clear hb hb2 hw1
      cases hin : inB (ix x k) 0 ((rx xss 0).length - 1)
      · have HIN := Lib.hid hin
        have HR : Hid (ballB xss x = false) := by show _ = _; rw [ballB, allB_false h1 hin, Bool.and_false]
        clear hin
        go_wp2_with fail
        go_quiet ((go_at_call 66; refine (in_c _ _ _ _).mono ?_; rw [HIN.out]; rintro e w' ⟨rfl, rfl⟩; exact ⟨rfl, _, rfl⟩))
        go_wp2_with fail
        go_ret
        exact ⟨ret_bool HR.out.symm, below_drewN HB2.out _⟩
      · have HIN := Lib.hid hin
        clear hin
        go_wp2_with fail
        go_quiet ((go_at_call 66; refine (in_c _ _ _ _).mono ?_; rw [HIN.out]; rintro e w' ⟨rfl, rfl⟩; exact ⟨rfl, _, rfl⟩))
        go_wp2_with fail
        go_roundw
        case rel => exact ⟨k + 1, by omega, by go_num, hp.succ HIN.out, below_drewN HB1.out _⟩
        case measure => simp [intOf]; omega
    · obtain rfl : k = x.length := by omega
      by_cases h2 : x.length = xss.length
      · have h2' : ((x.length : Int) == (xss.length : Int)) = true := by simp [h2]
        have HR : Hid (ballB xss x = true) := by show _ = _; rw [ballB, allB_true hp, decide_eq_true h2]; rfl
        clear h2
        go_wp2_with fail
        go_ret
        exact ⟨ret_bool HR.out.symm, hb2⟩
      · have h2' : ((x.length : Int) == (xss.length : Int)) = false := by simp; omega
        have HR : Hid (ballB xss x = false) := by show _ = _; rw [ballB, decide_eq_false h2, Bool.false_and]
        clear h2
        go_wp2_with fail
        go_ret
        exact ⟨ret_bool HR.out.symm, hb2⟩

theorem laneErr_3 {xss : List (List Int)} {lo hi ca : Int} (h : limB xss = false) : laneErr xss lo hi ca = 3 := by simp [laneErr, h]
theorem laneErr_1 {xss : List (List Int)} {lo hi ca : Int} (h : limB xss = true) (h' : argB xss lo hi ca = false) : laneErr xss lo hi ca = 1 := by simp [laneErr, h, h']
theorem laneErr_0 {xss : List (List Int)} {lo hi ca : Int} (h : limB xss = true) (h' : argB xss lo hi ca = true) : laneErr xss lo hi ca = 0 := by simp [laneErr, h, h']

set_option maxRecDepth 100000 in
set_option maxHeartbeats 4000000 in
theorem fault_c {B : Nat} (A : Option Addr) (xss : List (List Int)) (c : Nat) (lo hi ca : Int) (w : World) (hB : B ≤ w.heap.size) (hr : Grd B w A xss) (_hc : xss.length ≤ c ∧ c ≤ 9223372036854775807) :
    Calls Try.prog 32 #[.agg #[.slice A xss.length c, .int .i64 lo, .int .i64 hi, .int .i64 ca]] w (Ans w (.int .i64 (laneErr xss lo hi ca))) := by
  have hw1 : Below w.heap.size w (w.alloc (.cells #[.slice A xss.length c, .int .i64 lo, .int .i64 hi, .int .i64 ca] 26)) := (Below.refl _ _).alloc (Nat.le_refl _) _
  have f0 : (w.alloc (.cells #[.slice A xss.length c, .int .i64 lo, .int .i64 hi, .int .i64 ca] 26)).cell? ⟨w.heap.size, 0, none⟩ = some (.slice A xss.length c) := by simp
  have f1 : (w.alloc (.cells #[.slice A xss.length c, .int .i64 lo, .int .i64 hi, .int .i64 ca] 26)).cell? ⟨w.heap.size, 1, none⟩ = some (.int .i64 lo) := by simp
  have f2 : (w.alloc (.cells #[.slice A xss.length c, .int .i64 lo, .int .i64 hi, .int .i64 ca] 26)).cell? ⟨w.heap.size, 2, none⟩ = some (.int .i64 hi) := by simp
  have f3 : (w.alloc (.cells #[.slice A xss.length c, .int .i64 lo, .int .i64 hi, .int .i64 ca] 26)).cell? ⟨w.heap.size, 3, none⟩ = some (.int .i64 ca) := by simp
  have HSZ : Hid ((w.alloc (.cells #[.slice A xss.length c, .int .i64 lo, .int .i64 hi, .int .i64 ca] 26)).heap.size = w.heap.size + 1) := by show _ = _; simp
  have HR1 := Lib.hid (hr.below (hw1.mono hB))
  clear hr
  by_cases h8 : xss.length ≤ 8
  · go_enter Try.func32, Try.ntmps32
    go_wp2_with fail
    generalize w.alloc (.cells #[.slice A xss.length c, .int .i64 lo, .int .i64 hi, .int .i64 ca] 26) = W1 at hw1 f0 f1 f2 f3 HSZ HR1 ⊢
    have HW1 := Lib.hid hw1
    clear hw1
    go_loop [3] (fun i => ∃ k : Nat, k ≤ xss.length ∧ i = .int .i64 k ∧ AllB k (fun j => decide ((rx xss j).length ≤ 12))) (fun i => xss.length - (intOf i).toNat)
    case atStart => exact ⟨0, by omega, rfl, fun j hj => by omega⟩
    case round =>
      obtain ⟨k, hk, rfl, hp⟩ := hrel
      by_cases h1 : k < xss.length
      · obtain ⟨b0, off0, A0, c0, rfl, hb0, hcl0, hl1, hl2, hin⟩ := HR1.out.at_ h1
        clear hin
        by_cases h12 : (rx xss k).length ≤ 12
        · go_wp2_with fail
          go_round
          case rel => exact ⟨k + 1, by omega, by go_num, hp.succ (decide_eq_true h12)⟩
          case measure => simp [intOf]; omega
        · have HR : Hid (laneErr xss lo hi ca = 3) := laneErr_3 (by rw [limB, allB_false h1 (decide_eq_false h12), Bool.and_false])
          go_wp2_with fail
          go_ret
          exact ⟨ret_int HR.out.symm, HW1.out⟩
      · obtain rfl : k = xss.length := by omega
        have HLIM : Hid (limB xss = true) := by show _ = _; rw [limB, allB_true hp, decide_eq_true h8]; rfl
        clear hp h1
        by_cases h3 : 0 < xss.length
        · have h3' : ((xss.length : Int) == 0) = false := by rw [beq_eq_false_iff_ne]; omega
          cases h5 : inB lo 0 hi
          · have HR : Hid (laneErr xss lo hi ca = 1) := laneErr_1 HLIM.out (by simp [argB, h5])
            have H5 := Lib.hid h5
            clear h5
            go_wp2_with fail
            refine (in_c _ _ _ _).mono ?_
            rw [H5.out]
            rintro e w3 ⟨rfl, rfl⟩
            go_wp2_with fail
            go_ret
            exact ⟨ret_int HR.out.symm, HW1.out⟩
          · have H5 := Lib.hid h5
            clear h5
            by_cases h6 : hi ≤ 9
            · cases h7 : inB ca 0 100
              · have HR : Hid (laneErr xss lo hi ca = 1) := laneErr_1 HLIM.out (by simp [argB, h7])
                have H7 := Lib.hid h7
                clear h7
                go_wp2_with fail
                refine (in_c _ _ _ _).mono ?_
                rw [H5.out]
                rintro e w3 ⟨rfl, rfl⟩
                go_wp2_with fail
                refine (in_c _ _ _ _).mono ?_
                rw [H7.out]
                rintro e w3 ⟨rfl, rfl⟩
                go_wp2_with fail
                go_ret
                exact ⟨ret_int HR.out.symm, HW1.out⟩
              · have H7 := Lib.hid h7
                clear h7
                go_wp2_with fail
                refine (in_c _ _ _ _).mono ?_
                rw [H5.out]
                rintro e w3 ⟨rfl, rfl⟩
                go_wp2_with fail
                refine (in_c _ _ _ _).mono ?_
                rw [H7.out]
                rintro e w3 ⟨rfl, rfl⟩
                go_wp2_with fail
                clear h3'
                obtain ⟨bz, offz, Az, cz, rfl, hbz, hclz, hlz1, hlz2, hinz⟩ := HR1.out.at_ h3
                clear hinz
                simp only [Nat.add_zero] at hclz
                go_loopw [4] (fun i wr => ∃ k : Nat, k ≤ xss.length ∧ i = .int .i64 k ∧ AllB k (fun j => rowB xss (rx xss j)) ∧ Below W1.heap.size W1 wr) (fun i _ => xss.length - (intOf i).toNat)
                case atStart => exact ⟨0, by omega, rfl, fun j hj => by omega, Below.refl _ _⟩
                case round =>
                  obtain ⟨k, hk, rfl, hp, hb⟩ := hrel
                  have hzb := hb.size
                  have f0' := cell_of_ans hb f0
                  have hclz' := cell_of_ans hb hclz
                  have HB1 := Lib.hid hb
                  have HBw : Hid (Below w.heap.size w wr) := HW1.out.trans (hb.mono (by have := HSZ.out; omega))
                  by_cases h1 : k < xss.length
                  · obtain ⟨b0, off0, A0, c0, hA0, hb0, hcl0, hl1, hl2, hin⟩ := (HR1.out.below (hb.mono (by have := HSZ.out; omega))).at_ h1
                    injection hA0 with hA0
                    injection hA0 with e1 e2
                    subst e1 e2
                    have HIN := Lib.hid hin
                    have hki : ((k : Nat) : Int) < (xss.length : Int) := by omega
                    have hki0 : (0 : Int) ≤ ((k : Nat) : Int) := by omega
                    clear hb hin
                    by_cases hz : 0 < (rx xss k).length
                    · have hz' : (((rx xss k).length : Int) == 0) = false := by rw [beq_eq_false_iff_ne]; omega
                      by_cases hq : (rx xss k).length = (rx xss 0).length
                      · have hq' : (((rx xss k).length : Int) != ((rx xss 0).length : Int)) = false := by simp [hq]
                        have HQ := Lib.hid hq
                        clear hq
                        go_wp2_with fail
                        go_quiet (fail)
                        go_wp2_with fail
                        go_loop [5] (fun i => ∃ j : Nat, j ≤ (rx xss k).length ∧ i = .int .i64 j ∧ AllB j (fun j => inB (ix (rx xss k) j) 0 100)) (fun i => (rx xss k).length - (intOf i).toNat)
                        case atStart => exact ⟨0, by omega, rfl, fun j hj => by omega⟩
                        case round =>
                          obtain ⟨j, hj, rfl, hpj⟩ := hrel
                          by_cases hj1 : j < (rx xss k).length
                          · obtain ⟨b2, off2, rfl, hb2, hcl2⟩ := HIN.out.at_ hj1
                            cases hin : inB (ix (rx xss k) j) 0 100
                            · have HI := Lib.hid hin
                              have HR : Hid (laneErr xss lo hi ca = 1) := laneErr_1 HLIM.out (by
                                have : rowB xss (rx xss k) = false := by rw [rowB, allB_false hj1 hin, Bool.and_false]
                                rw [argB, allB_false h1 this]; simp)
                              clear hin
                              go_wp2_with fail
                              refine (in_c _ _ _ _).mono ?_
                              rw [HI.out]
                              rintro e w3 ⟨rfl, rfl⟩
                              go_wp2_with fail
                              go_ret
                              exact ⟨ret_int HR.out.symm, below_drewN HBw.out _⟩
                            · have HI := Lib.hid hin
                              clear hin
                              go_wp2_with fail
                              refine (in_c _ _ _ _).mono ?_
                              rw [HI.out]
                              rintro e w3 ⟨rfl, rfl⟩
                              go_wp2_with fail
                              go_round
                              case rel => exact ⟨j + 1, by omega, by go_num, hpj.succ HI.out⟩
                              case measure => simp [intOf]; omega
                          · obtain rfl : j = (rx xss k).length := by omega
                            have HRW : Hid (rowB xss (rx xss k) = true) := by show _ = _; rw [rowB, allB_true hpj, decide_eq_true hz, decide_eq_true HQ.out]; rfl
                            go_wp2_with fail
                            go_roundw
                            case rel => exact ⟨k + 1, by omega, by go_num, hp.succ HRW.out, below_drewN HB1.out _⟩
                            case measure => simp [intOf]; omega
                      · have hq' : (((rx xss k).length : Int) != ((rx xss 0).length : Int)) = true := by simp; omega
                        have HR : Hid (laneErr xss lo hi ca = 1) := laneErr_1 HLIM.out (by
                          have : rowB xss (rx xss k) = false := by rw [rowB, decide_eq_false hq]; simp
                          rw [argB, allB_false h1 this]; simp)
                        clear hq
                        go_wp2_with fail
                        go_quiet (fail)
                        go_wp2_with fail
                        go_ret
                        exact ⟨ret_int HR.out.symm, below_drewN HBw.out _⟩
                    · have hz' : (((rx xss k).length : Int) == 0) = true := by rw [beq_iff_eq]; omega
                      have HR : Hid (laneErr xss lo hi ca = 1) := laneErr_1 HLIM.out (by
                        have : rowB xss (rx xss k) = false := by rw [rowB, decide_eq_false hz]; simp
                        rw [argB, allB_false h1 this]; simp)
                      go_wp2_with fail
                      go_quiet (fail)
                      go_wp2_with fail
                      go_ret
                      exact ⟨ret_int HR.out.symm, below_drewN HBw.out _⟩
                  · obtain rfl : k = xss.length := by omega
                    have HR : Hid (laneErr xss lo hi ca = 0) := laneErr_0 HLIM.out (by rw [argB, allB_true hp, H5.out, H7.out, decide_eq_true h3, decide_eq_true h6]; rfl)
                    go_wp2_with fail
                    go_ret
                    exact ⟨ret_int HR.out.symm, HBw.out⟩
            · have HR : Hid (laneErr xss lo hi ca = 1) := laneErr_1 HLIM.out (by simp [argB, h6])
              go_wp2_with fail
              refine (in_c _ _ _ _).mono ?_
              rw [H5.out]
              rintro e w3 ⟨rfl, rfl⟩
              go_wp2_with fail
              go_ret
              exact ⟨ret_int HR.out.symm, HW1.out⟩
        · have h3' : ((xss.length : Int) == 0) = true := by rw [beq_iff_eq]; omega
          have HR : Hid (laneErr xss lo hi ca = 1) := laneErr_1 HLIM.out (by simp [argB, h3])
          go_wp2_with fail
          go_ret
          exact ⟨ret_int HR.out.symm, HW1.out⟩
  · have HR : Hid (laneErr xss lo hi ca = 3) := laneErr_3 (by simp [limB, h8])
    go_enter Try.func32, Try.ntmps32
    go_wp2_with fail
    go_ret
    exact ⟨ret_int HR.out.symm, hw1⟩

/-- A region that draws: a head that only reads, a tail in one forced order. -/
theorem still_tail {id : Nat} {P : Program} {Q : Exit → Act → World → Prop} {a : Act} {w : World} {l : List Oper} (n : Nat) (hm : P.follows .mixedOrders = true) (hB : Region.lexTailB .any l.toArray n = true)
    (h : wpStill P l.toArray w.drew (fun a' => wpList P l.toArray Q (l.drop n) a' w.drew) (l.take n) a) : (Code.region id l.toArray true).wp P Q a w := wp_region_still_tail n hm hB h

set_option maxRecDepth 100000 in
set_option maxHeartbeats 2000000 in
theorem ballsFault_c {B : Nat} (A Ab : Option Addr) (xss bss : List (List Int)) (c cb : Nat) (lo hi ca : Int) (w : World) (hB : B ≤ w.heap.size) (hr : Grd B w A xss) (hbs : Grd B w Ab bss) (hc : xss.length ≤ c ∧ c ≤ 9223372036854775807) :
    Calls Try.prog 65 #[.agg #[.slice A xss.length c, .int .i64 lo, .int .i64 hi, .int .i64 ca], .slice Ab bss.length cb] w (Ans w (.int .i64 (ballsErr xss lo hi ca bss))) := by
  have hw1 : Below w.heap.size w (w.alloc (.cells #[.slice A xss.length c, .int .i64 lo, .int .i64 hi, .int .i64 ca] 26)) := (Below.refl _ _).alloc (Nat.le_refl _) _
  have hz1 := hw1.size
  have H1 := Lib.hid (fault_c (B := B) A xss c lo hi ca _ (by omega) (hr.below (hw1.mono hB)) hc)
  have HRr := Lib.hid hr
  have HBr := Lib.hid hbs
  clear hr hbs
  by_cases h : laneErr xss lo hi ca = 0
  · have HE := Lib.hid h
    have HV := Lib.hid (laneOk h)
    clear h
    go_enter Try.func65, Try.ntmps65
    go_wp2_with fail
    refine H1.out.mono ?_
    rw [HE.out]
    rintro e w1 ⟨rfl, hb1⟩
    have d0 := cell_of_ans hb1 (p := ⟨w.heap.size, 0, none⟩) (v := .slice A xss.length c) (by go_simp)
    have d1 := cell_of_ans hb1 (p := ⟨w.heap.size, 1, none⟩) (v := .int .i64 lo) (by go_simp)
    have d2 := cell_of_ans hb1 (p := ⟨w.heap.size, 2, none⟩) (v := .int .i64 hi) (by go_simp)
    have d3 := cell_of_ans hb1 (p := ⟨w.heap.size, 3, none⟩) (v := .int .i64 ca) (by go_simp)
    have HB2 := Lib.hid (hw1.trans (hb1.mono hz1))
    have hz2 : w.heap.size + 1 ≤ w1.heap.size := by have := hb1.size; simp at this; omega
    clear hb1 hw1 hz1 H1
    by_cases h2 : bss.length ≤ 20
    · go_wp2_with fail
      go_loopw [6] (fun i wr => ∃ k : Nat, k ≤ bss.length ∧ i = .int .i64 k ∧ AllB k (fun j => ballB xss (rx bss j)) ∧ Below w1.heap.size w1 wr) (fun i _ => bss.length - (intOf i).toNat)
      case atStart => exact ⟨0, by omega, rfl, fun j hj => by omega, Below.refl _ _⟩
      case round =>
        obtain ⟨k, hk, rfl, hp, hb⟩ := hrel
        have hzb := hb.size
        have f0 := cell_of_ans hb d0
        have f1 := cell_of_ans hb d1
        have f2 := cell_of_ans hb d2
        have f3 := cell_of_ans hb d3
        have HB1 := Lib.hid hb
        have HBw : Hid (Below w.heap.size w wr) := HB2.out.trans (hb.mono (by omega))
        clear hb
        by_cases h1 : k < bss.length
        · obtain ⟨b0, off0, A0, c0, rfl, hb0, hcl0, hl1, hl2, hin⟩ := (HBr.out.below (HBw.out.mono hB)).at_ h1
          have H75 := Lib.hid (isBall_c (B := B) A A0 xss (rx bss k) c c0 lo hi ca wr.drew (by simp; omega) (HRr.out.below (HBw.out.mono hB).drew) hin HV.out.1 ⟨hl1, hl2⟩)
          have hki : ((k : Nat) : Int) < (bss.length : Int) := by omega
          have hki0 : (0 : Int) ≤ ((k : Nat) : Int) := by omega
          clear hin
          cases hbl : ballB xss (rx bss k)
          · have HR : Hid (ballsErr xss lo hi ca bss = 2) := by show _ = _; rw [ballsErr, if_pos HE.out, if_pos h2, allB_false h1 hbl]; rfl
            have HBL := Lib.hid hbl
            clear hbl
            go_wp2_with fail
            refine still_tail 5 (by kernel_rfl) (by kernel_rfl) ?_
            simp only [List.take_succ_cons, List.take_zero, List.drop_succ_cons, List.drop_zero]
            repeat still_step
            refine wpStill_nil ?_
            go_wp2_with fail
            refine H75.out.mono ?_
            rw [HBL.out]
            rintro e w3 ⟨rfl, hb3⟩
            go_wp2_with fail
            go_ret
            exact ⟨ret_int HR.out.symm, HBw.out.trans ((below_drew_l hb3).mono (by simp; omega))⟩
          · have HBL := Lib.hid hbl
            clear hbl
            go_wp2_with fail
            refine still_tail 5 (by kernel_rfl) (by kernel_rfl) ?_
            simp only [List.take_succ_cons, List.take_zero, List.drop_succ_cons, List.drop_zero]
            repeat still_step
            refine wpStill_nil ?_
            go_wp2_with fail
            refine H75.out.mono ?_
            rw [HBL.out]
            rintro e w3 ⟨rfl, hb3⟩
            go_wp2_with fail
            go_roundw
            case rel => exact ⟨k + 1, by omega, by go_num, hp.succ HBL.out, HB1.out.trans ((below_drew_l hb3).mono (by simp; omega))⟩
            case measure => simp [intOf]; omega
        · obtain rfl : k = bss.length := by omega
          have HR : Hid (ballsErr xss lo hi ca bss = 0) := by show _ = _; rw [ballsErr, if_pos HE.out, if_pos h2, allB_true hp]; rfl
          go_wp2_with fail
          go_ret
          exact ⟨ret_int HR.out.symm, HBw.out⟩
    · have HR : Hid (ballsErr xss lo hi ca bss = 3) := by show _ = _; rw [ballsErr, if_pos HE.out, if_neg h2]
      go_wp2_with fail
      go_ret
      exact ⟨ret_int HR.out.symm, HB2.out⟩
  · have h1' : (laneErr xss lo hi ca != 0) = true := by simp [h]
    have HR : Hid (ballsErr xss lo hi ca bss = laneErr xss lo hi ca) := by show _ = _; rw [ballsErr, if_neg h]
    clear h
    go_enter Try.func65, Try.ntmps65
    go_wp2_with fail
    refine H1.out.mono ?_
    rintro e w1 ⟨rfl, hb1⟩
    go_wp2_with fail
    go_ret
    exact ⟨ret_int HR.out.symm, hw1.trans (hb1.mono hz1)⟩

set_option maxHeartbeats 400000 in
theorem lfault_c {B : Nat} (A Ab : Option Addr) (xss bss : List (List Int)) (c cb : Nat) (lo hi ca : Int) (w : World) (hB : B ≤ w.heap.size) (hr : Grd B w A xss) (hbs : Grd B w Ab bss) (hc : xss.length ≤ c ∧ c ≤ 9223372036854775807) :
    Calls Try.prog 22 #[.agg #[.slice A xss.length c, .int .i64 lo, .int .i64 hi, .int .i64 ca], .slice Ab bss.length cb] w (Ans w (.int .i64 (ballsErr xss lo hi ca bss))) := by
  have hw1 : Below w.heap.size w (w.alloc (.cells #[.slice A xss.length c, .int .i64 lo, .int .i64 hi, .int .i64 ca] 26)) := (Below.refl _ _).alloc (Nat.le_refl _) _
  have hz1 := hw1.size
  have H1 := Lib.hid (ballsFault_c (B := B) A Ab xss bss c cb lo hi ca _ (by omega) (hr.below (hw1.mono hB)) (hbs.below (hw1.mono hB)) hc)
  clear hr hbs
  go_enter Try.func22, Try.ntmps22
  go_wp2_with fail
  refine H1.out.mono ?_
  rintro e w1 ⟨rfl, hb1⟩
  go_wp2_with fail
  go_ret
  exact ⟨rfl, hw1.trans (hb1.mono hz1)⟩

set_option maxHeartbeats 1000000 in
theorem short_c {B : Nat} (A : Option Addr) (xss : List (List Int)) (c m : Nat) (w : World) (hr : Grd B w A xss) (hc : xss.length ≤ c ∧ c ≤ 9223372036854775807) (hm : m ≤ 1000) :
    Calls Try.prog 16 #[.slice A xss.length c, .int .i64 (m : Int)] w (Same w (.bool (decide (xss.length ≤ m) && allB xss.length (fun k => decide ((rx xss k).length ≤ 16))))) := by
  go_enter Try.func16, Try.ntmps16
  go_wp2_with fail
  go_loop [5] (fun i => ∃ k : Nat, k ≤ xss.length ∧ k ≤ m + 1 ∧ i = .int .i64 k ∧ AllB k (fun j => decide ((rx xss j).length ≤ 16))) (fun i => xss.length - (intOf i).toNat)
  case atStart => exact ⟨0, by omega, by omega, rfl, fun j hj => by omega⟩
  case round =>
    obtain ⟨k, hk, hkm, rfl, hp⟩ := hrel
    by_cases h1 : k < xss.length
    · by_cases h2 : k ≤ m
      · obtain ⟨b0, off0, A0, c0, rfl, hb0, hcl0, hl1, hl2, hin⟩ := hr.at_ h1
        clear hin
        by_cases h16 : (rx xss k).length ≤ 16
        · go_wp2_with fail
          go_round
          case rel => exact ⟨k + 1, by omega, by omega, by go_num, hp.succ (decide_eq_true h16)⟩
          case measure => simp [intOf]; omega
        · have HR : Hid ((decide (xss.length ≤ m) && allB xss.length (fun k => decide ((rx xss k).length ≤ 16))) = false) := by show _ = _; rw [allB_false h1 (decide_eq_false h16), Bool.and_false]
          go_wp2_with fail
          go_ret
          exact ⟨ret_bool HR.out.symm, rfl⟩
      · have HR : Hid ((decide (xss.length ≤ m) && allB xss.length (fun k => decide ((rx xss k).length ≤ 16))) = false) := by show _ = _; rw [decide_eq_false (by omega), Bool.false_and]
        have h3 : ¬ ((xss.length : Int) ≤ (m : Int)) := by omega
        go_wp2_with fail
        go_ret
        exact ⟨ret_bool HR.out.symm, rfl⟩
    · obtain rfl : k = xss.length := by omega
      have HR : Hid ((decide (xss.length ≤ m) && allB xss.length (fun k => decide ((rx xss k).length ≤ 16))) = decide (xss.length ≤ m)) := by show _ = _; rw [allB_true hp, Bool.and_true]
      go_wp2_with fail
      go_ret
      exact ⟨by rw [HR.out]; exact ret_bool (decide_eq_decide.2 (by omega)), rfl⟩
end Go.Proofs.Ytgnonfomlgkpcaa
