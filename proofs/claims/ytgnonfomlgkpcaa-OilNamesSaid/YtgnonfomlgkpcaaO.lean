/-
  Thin, rows, IsWear, Copied, Lane.
-/
import Derived.Test.YtgnonfomlgkpcaaN
namespace Go.Proofs.Ytgnonfomlgkpcaa
open Go.RowKit

noncomputable def shortB (m : Nat) (xss : List (List Int)) : Bool := decide (xss.length ≤ m) && allB xss.length (fun k => decide ((rx xss k).length ≤ 16))

theorem short_c2 {B : Nat} (A : Option Addr) (xss : List (List Int)) (c m : Nat) (k : Int) (hk : k = (m : Int)) (w : World) (hr : Grd B w A xss) (hc : xss.length ≤ c ∧ c ≤ 9223372036854775807) (hm : m ≤ 1000) :
    Calls Try.prog 16 #[.slice A xss.length c, .int .i64 k] w (Same w (.bool (shortB m xss))) := by
  subst hk
  exact short_c A xss c m w hr hc hm

set_option maxHeartbeats 400000 in
theorem thin_c {B : Nat} (A Ab : Option Addr) (xss bss : List (List Int)) (c cb : Nat) (lo hi ca : Int) (w : World) (hB : B ≤ w.heap.size) (hr : Grd B w A xss) (hbs : Grd B w Ab bss) (hc : xss.length ≤ c ∧ c ≤ 9223372036854775807) (hcb : bss.length ≤ cb ∧ cb ≤ 9223372036854775807) :
    Calls Try.prog 15 #[.agg #[.slice A xss.length c, .int .i64 lo, .int .i64 hi, .int .i64 ca], .slice Ab bss.length cb] w (Ans w (.bool (shortB 12 xss && shortB 25 bss))) := by
  have hw1 : Below w.heap.size w (w.alloc (.cells #[.slice A xss.length c, .int .i64 lo, .int .i64 hi, .int .i64 ca] 26)) := (Below.refl _ _).alloc (Nat.le_refl _) _
  have H1 := Lib.hid (short_c2 (B := B) A xss c 12 12 rfl (w.alloc (.cells #[.slice A xss.length c, .int .i64 lo, .int .i64 hi, .int .i64 ca] 26)) (hr.below (hw1.mono hB)) hc (by omega))
  have H2 := Lib.hid (short_c2 (B := B) Ab bss cb 25 25 rfl (w.alloc (.cells #[.slice A xss.length c, .int .i64 lo, .int .i64 hi, .int .i64 ca] 26)) (hbs.below (hw1.mono hB)) hcb (by omega))
  clear hr hbs
  cases h : shortB 12 xss
  · have HS := Lib.hid h
    clear h
    go_enter Try.func15, Try.ntmps15
    go_wp2_with fail
    refine H1.out.mono ?_
    rw [HS.out]
    rintro e w1 ⟨rfl, rfl⟩
    go_wp2_with fail
    go_ret
    exact ⟨rfl, hw1⟩
  · have HS := Lib.hid h
    clear h
    go_enter Try.func15, Try.ntmps15
    go_wp2_with fail
    refine H1.out.mono ?_
    rw [HS.out]
    rintro e w1 ⟨rfl, rfl⟩
    go_wp2_with fail
    refine H2.out.mono ?_
    rintro e w1 ⟨rfl, rfl⟩
    go_wp2_with fail
    go_ret
    exact ⟨ret_bool (by rw [Bool.true_and]), hw1⟩

def eqGB (xss yss : List (List Int)) : Bool := decide (xss = yss)
theorem eqGB_len {xs ys : List (List Int)} (h : xs.length ≠ ys.length) : eqGB xs ys = false := by
  simp only [eqGB, decide_eq_false_iff_not]; rintro rfl; exact h rfl
theorem eqGB_at {xs ys : List (List Int)} {k : Nat} (h1 : eqB (rx xs k) (rx ys k) = false) : eqGB xs ys = false := by
  simp only [eqGB, decide_eq_false_iff_not]; rintro rfl; simp [eqB] at h1
theorem eqGB_all {xs ys : List (List Int)} (h : xs.length = ys.length) (h1 : ∀ j, j < xs.length → eqB (rx xs j) (rx ys j) = true) : eqGB xs ys = true := by
  simp only [eqGB, decide_eq_true_eq]
  refine List.ext_getElem h fun i h2 h3 => ?_
  have := h1 i h2
  simp only [eqB, decide_eq_true_eq] at this
  rwa [rx_lt h2, rx_lt h3] at this

set_option maxRecDepth 100000 in
set_option maxHeartbeats 1000000 in
theorem rows_c {B : Nat} (A A' : Option Addr) (xss yss : List (List Int)) (c c' : Nat) (w : World) (hx : Grd B w A xss) (hy : Grd B w A' yss) (hc : xss.length ≤ c ∧ c ≤ 9223372036854775807) (_hc' : yss.length ≤ c' ∧ c' ≤ 9223372036854775807) :
    Calls Try.prog 24 #[.slice A xss.length c, .slice A' yss.length c'] w (Qt w (.bool (eqGB xss yss))) := by
  by_cases hl : xss.length = yss.length
  · have HL := Lib.hid hl
    have hne : ((xss.length : Int) != (yss.length : Int)) = false := by simp [hl]
    clear hl
    go_enter Try.func24, Try.ntmps24
    go_wp2_with fail
    go_loopw [5] (fun i wr => ∃ k n : Nat, k ≤ xss.length ∧ i = .int .i64 k ∧ AllB k (fun j => eqB (rx xss j) (rx yss j)) ∧ wr = w.drewN n) (fun i _ => xss.length - (intOf i).toNat)
    case atStart => exact ⟨0, 0, by omega, rfl, fun j hj => by omega, rfl⟩
    case round =>
      obtain ⟨k, n, hk, rfl, hp, rfl⟩ := hrel
      by_cases h1 : k < xss.length
      · obtain ⟨b, off, A1, c1, rfl, hb, hcell, hl1, hl2, hin1⟩ := hx.at_ h1
        obtain ⟨b', off', A2, c2, rfl, hb', hcell', hl3, hl4, hin2⟩ := hy.at_ (k := k) (by have := HL.out; omega)
        have h1' : k < yss.length := by have := HL.out; omega
        have hki : ((k : Nat) : Int) < (xss.length : Int) := by omega
        have hki' : ((k : Nat) : Int) < (yss.length : Int) := by omega
        have hki0 : (0 : Int) ≤ ((k : Nat) : Int) := by omega
        have H30 : Hid (∀ m, Calls Try.prog 30 #[.slice A1 (rx xss k).length c1, .slice A2 (rx yss k).length c2] (w.drewN m) (Qt (w.drewN m) (.bool (eqB (rx xss k) (rx yss k))))) := fun m => ints_c (B := B) A1 A2 (rx xss k) (rx yss k) c1 c2 (w.drewN m) hin1 hin2 ⟨hl1, hl2⟩ ⟨hl3, hl4⟩
        clear hin1 hin2
        cases he : eqB (rx xss k) (rx yss k)
        · have HE := Lib.hid he
          clear he
          go_wp2_with fail
          go_quiet ((go_at_call 30; refine (H30.out _).mono ?_; rw [HE.out]; rintro e w' ⟨rfl, m, rfl⟩; rw [World.drewN_drewN, Nat.add_assoc]; exact ⟨rfl, _, rfl⟩))
          go_wp2_with fail
          go_ret
          exact ⟨ret_bool (eqGB_at HE.out).symm, _, World.drewN_drewN _ _ _⟩
        · have HE := Lib.hid he
          clear he
          go_wp2_with fail
          go_quiet ((go_at_call 30; refine (H30.out _).mono ?_; rw [HE.out]; rintro e w' ⟨rfl, m, rfl⟩; rw [World.drewN_drewN, Nat.add_assoc]; exact ⟨rfl, _, rfl⟩))
          go_wp2_with fail
          go_roundw
          case rel => exact ⟨k + 1, _, by omega, by go_num, hp.succ HE.out, rfl⟩
          case measure => simp [intOf]; omega
      · obtain rfl : k = xss.length := by omega
        go_wp2_with fail
        go_ret
        exact ⟨ret_bool (eqGB_all HL.out hp).symm, _, rfl⟩
  · have hne : ((xss.length : Int) != (yss.length : Int)) = true := by simp; omega
    go_enter Try.func24, Try.ntmps24
    go_wp2_with fail
    go_ret
    exact ⟨ret_bool (eqGB_len hl).symm, 0, rfl⟩

set_option maxRecDepth 100000 in
set_option maxHeartbeats 2000000 in
theorem isWear_c {B : Nat} (A Ab Aw : Option Addr) (n nb : Nat) (wss : List (List Int)) (c cb cw : Nat) (lo hi ca : Int) (w : World) (hB : B ≤ w.heap.size) (hws : Grd B w Aw wss) (hcw : wss.length ≤ cw ∧ cw ≤ 9223372036854775807) (bss : List (List Int)) (hnb : bss.length = nb) (_hnb9 : nb ≤ 9223372036854775807) :
    Calls Try.prog 23 #[.agg #[.slice A n c, .int .i64 lo, .int .i64 hi, .int .i64 ca], .slice Ab nb cb, .slice Aw wss.length cw] w (Ans w (.bool (wearsB n lo hi bss wss))) := by
  have hw1 : Below w.heap.size w (w.alloc (.cells #[.slice A n c, .int .i64 lo, .int .i64 hi, .int .i64 ca] 26)) := (Below.refl _ _).alloc (Nat.le_refl _) _
  have f0 : (w.alloc (.cells #[.slice A n c, .int .i64 lo, .int .i64 hi, .int .i64 ca] 26)).cell? ⟨w.heap.size, 0, none⟩ = some (.slice A n c) := by simp
  have f1 : (w.alloc (.cells #[.slice A n c, .int .i64 lo, .int .i64 hi, .int .i64 ca] 26)).cell? ⟨w.heap.size, 1, none⟩ = some (.int .i64 lo) := by simp
  have f2 : (w.alloc (.cells #[.slice A n c, .int .i64 lo, .int .i64 hi, .int .i64 ca] 26)).cell? ⟨w.heap.size, 2, none⟩ = some (.int .i64 hi) := by simp
  have HSZ : Hid ((w.alloc (.cells #[.slice A n c, .int .i64 lo, .int .i64 hi, .int .i64 ca] 26)).heap.size = w.heap.size + 1) := by show _ = _; simp
  have HR1 := Lib.hid (hws.below (hw1.mono hB))
  have HNB := Lib.hid hnb
  clear hws hnb
  go_enter Try.func23, Try.ntmps23
  go_wp2_with fail
  generalize w.alloc (.cells #[.slice A n c, .int .i64 lo, .int .i64 hi, .int .i64 ca] 26) = W1 at hw1 f0 f1 f2 HSZ HR1 ⊢
  have HW1 := Lib.hid hw1
  clear hw1
  go_loopw [7] (fun i wr => ∃ k : Nat, k ≤ wss.length ∧ i = .int .i64 k ∧ AllB k (fun j => wearB n lo hi (rx wss j)) ∧ Below W1.heap.size W1 wr) (fun i _ => wss.length - (intOf i).toNat)
  case atStart => exact ⟨0, by omega, rfl, fun j hj => by omega, Below.refl _ _⟩
  case round =>
    obtain ⟨k, hk, rfl, hp, hb⟩ := hrel
    have g0 := cell_of_ans hb f0
    have g1 := cell_of_ans hb f1
    have g2 := cell_of_ans hb f2
    have HB1 := Lib.hid hb
    have HBw : Hid (Below w.heap.size w wr) := HW1.out.trans (hb.mono (by have := HSZ.out; omega))
    by_cases h1 : k < wss.length
    · obtain ⟨b0, off0, A0, c0, rfl, hb0, hcl0, hl1, hl2, hin⟩ := (HR1.out.below (hb.mono (by have := HSZ.out; omega))).at_ h1
      have HIN := Lib.hid hin
      have hki : ((k : Nat) : Int) < (wss.length : Int) := by omega
      have hki0 : (0 : Int) ≤ ((k : Nat) : Int) := by omega
      clear hin hb
      by_cases hq : (rx wss k).length = n
      · have hq' : (((rx wss k).length : Int) != (n : Int)) = false := by simp [hq]
        have HQ := Lib.hid hq
        clear hq
        go_wp2_with fail
        go_quiet (fail)
        go_wp2_with fail
        go_loopw [8] (fun i wx => ∃ j m : Nat, j ≤ (rx wss k).length ∧ i = .int .i64 j ∧ AllB j (fun j => inB (ix (rx wss k) j) lo hi) ∧ wx = wr.drewN m) (fun i _ => (rx wss k).length - (intOf i).toNat)
        case atStart => exact ⟨0, _, by omega, rfl, fun j hj => by omega, rfl⟩
        case round =>
          obtain ⟨j, m, hj, rfl, hpj, rfl⟩ := hrel
          by_cases hj1 : j < (rx wss k).length
          · obtain ⟨b2, off2, rfl, hb2, hcl2⟩ := HIN.out.at_ hj1
            have hji : ((j : Nat) : Int) < ((rx wss k).length : Int) := by omega
            have hji0 : (0 : Int) ≤ ((j : Nat) : Int) := by omega
            cases hin : inB (ix (rx wss k) j) lo hi
            · have HI := Lib.hid hin
              have HR : Hid (wearsB n lo hi bss wss = false) := by
                show _ = _
                have : wearB n lo hi (rx wss k) = false := by rw [wearB, allB_false hj1 hin, Bool.and_false]
                rw [wearsB, allB_false h1 this, Bool.and_false]
              clear hin
              go_wp2_with fail
              go_quiet ((go_at_call 66; refine (in_c _ _ _ _).mono ?_; rw [HI.out]; rintro e w' ⟨rfl, rfl⟩; exact ⟨rfl, _, rfl⟩))
              go_wp2_with fail
              go_ret
              exact ⟨ret_bool HR.out.symm, below_drewN (below_drewN HBw.out _) _⟩
            · have HI := Lib.hid hin
              clear hin
              go_wp2_with fail
              go_quiet ((go_at_call 66; refine (in_c _ _ _ _).mono ?_; rw [HI.out]; rintro e w' ⟨rfl, rfl⟩; exact ⟨rfl, _, rfl⟩))
              go_wp2_with fail
              go_roundw
              case rel => exact ⟨j + 1, _, by omega, by go_num, hpj.succ HI.out, rfl⟩
              case measure => simp [intOf]; omega
          · obtain rfl : j = (rx wss k).length := by omega
            have HRW : Hid (wearB n lo hi (rx wss k) = true) := by show _ = _; rw [wearB, allB_true hpj, decide_eq_true HQ.out]; rfl
            go_wp2_with fail
            go_roundw
            case rel => exact ⟨k + 1, by omega, by go_num, hp.succ HRW.out, below_drewN HB1.out _⟩
            case measure => simp [intOf]; omega
      · have hq' : (((rx wss k).length : Int) != (n : Int)) = true := by simp; omega
        have HR : Hid (wearsB n lo hi bss wss = false) := by
          show _ = _
          have : wearB n lo hi (rx wss k) = false := by rw [wearB, decide_eq_false hq, Bool.false_and]
          rw [wearsB, allB_false h1 this, Bool.and_false]
        clear hq
        go_wp2_with fail
        go_quiet (fail)
        go_wp2_with fail
        go_ret
        exact ⟨ret_bool HR.out.symm, below_drewN HBw.out _⟩
    · obtain rfl : k = wss.length := by omega
      by_cases hq : wss.length = nb
      · have hq' : ((wss.length : Int) == (nb : Int)) = true := by simp [hq]
        have HR : Hid (wearsB n lo hi bss wss = true) := by show _ = _; rw [wearsB, allB_true hp, decide_eq_true (by rw [HNB.out]; exact hq)]; rfl
        clear hq
        go_wp2_with fail
        go_ret
        exact ⟨ret_bool HR.out.symm, HBw.out⟩
      · have hq' : ((wss.length : Int) == (nb : Int)) = false := by simp; omega
        have HR : Hid (wearsB n lo hi bss wss = false) := by show _ = _; rw [wearsB, decide_eq_false (by rw [HNB.out]; exact hq), Bool.false_and]
        clear hq
        go_wp2_with fail
        go_ret
        exact ⟨ret_bool HR.out.symm, HBw.out⟩
end Go.Proofs.Ytgnonfomlgkpcaa
