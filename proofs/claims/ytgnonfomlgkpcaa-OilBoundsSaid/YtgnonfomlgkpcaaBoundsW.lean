/-
  OilBounds: the plain law and the walk.
-/
import Derived.Test.YtgnonfomlgkpcaaStaysW
namespace Go.Proofs.Ytgnonfomlgkpcaa
open Go.RowKit

/-- The blocks of an own list of own lists lie below n. -/
def RwsLt (n : Nat) (v : Value) (vs : List Value) : Prop := (∀ g, v.ownBlock = some g → g < n) ∧ ∀ (j : Nat) (u : Value), vs[j]? = some u → ∀ g, u.ownBlock = some g → g < n
theorem Rws.lts {base : Nat} {w : World} {v : Value} {n : Nat} {vs : List Value} {rows : Nat → List Int} (h : Rws base w v n vs rows) : RwsLt w.heap.size v vs := by
  refine ⟨fun g e => (h.1.lt g e).2, fun j u hu g e => ?_⟩
  have hj : j < n := by rw [← h.len]; exact (List.getElem?_eq_some_iff.1 hu).1
  obtain ⟨u', hu', ho, _⟩ := h.2.1 j hj
  rw [hu] at hu'
  injection hu' with hu'
  subst hu'
  exact (ho.lt g e).2
theorem Rws.keptFar {base g m : Nat} {w w' : World} {v : Value} {n : Nat} {vs : List Value} {rows : Nat → List Int} (h : Rws base w v n vs rows) (hg : w.grownBy w' (some g)) (hl : RwsLt m v vs) (hm : m ≤ g) : Rws base w' v n vs rows := by
  have k : ∀ {u : Value} {e : TypeId} {t : Nat} {us : List Value}, w.ownsRow base e 1 u t us → (∀ q, u.ownBlock = some q → q < m) → w'.ownsRow base e 1 u t us := fun {u e t us} hu hq => hu.kept hg (.inr fun e' => by
    have := hq g e'
    omega)
  refine ⟨k h.1 hl.1, fun j hj => ?_, h.2.2⟩
  obtain ⟨u, a, b, c⟩ := h.2.1 j hj
  exact ⟨u, a, k b (hl.2 j u a), c⟩

/-- Row r up to board b as the bounds say, the rest as it was. -/
def mixR (xss L : List (List Int)) (r b j : Nat) : List Int := if j < r then rx L j else if j = r then (rx L j).take b ++ (rx xss j).drop b else rx xss j
theorem mixR_len {xss L : List (List Int)} {r b j : Nat} (h : (rx L j).length = (rx xss j).length) (hb : b ≤ (rx xss r).length) : (mixR xss L r b j).length = (rx xss j).length := by
  unfold mixR
  split
  · exact h
  · split
    · rename_i e
      subst e
      rw [List.length_append, List.length_take, List.length_drop]
      omega
    · rfl
theorem mixR_set {xss L : List (List Int)} {r b : Nat} (h : (rx L r).length = (rx xss r).length) (hb : b < (rx xss r).length) (j : Nat) : mixR xss L r (b + 1) j = if j = r then (mixR xss L r b r).set b (ix (rx L r) b) else mixR xss L r b j := by
  by_cases e : j = r
  · subst e
    rw [if_pos rfl]
    simp only [mixR, Nat.lt_irrefl, if_false, if_true]
    refine List.ext_getElem (by simp; omega) fun i h1 h2 => ?_
    simp only [List.length_append, List.length_take, List.length_drop] at h1
    rw [List.getElem_set]
    by_cases e : b = i
    · subst e
      rw [if_pos rfl, List.getElem_append_left (by simp; omega), List.getElem_take, ix_lt (by omega)]
    · rw [if_neg e]
      by_cases hi : i < b
      · rw [List.getElem_append_left (by simp; omega), List.getElem_append_left (by simp; omega), List.getElem_take, List.getElem_take]
      · rw [List.getElem_append_right (by simp; omega), List.getElem_append_right (by simp; omega), List.getElem_drop, List.getElem_drop]
        simp only [List.length_take]
        congr 1
        omega
  · rw [if_neg e]
    simp only [mixR, if_neg e]
theorem mixR_next {xss L : List (List Int)} {r b : Nat} (h : (rx L r).length = (rx xss r).length) (hb : b = (rx xss r).length) (j : Nat) : mixR xss L (r + 1) 0 j = mixR xss L r b j := by
  simp only [mixR]
  by_cases e : j < r
  · rw [if_pos e, if_pos (by omega)]
  · by_cases e2 : j = r
    · subst e2
      rw [if_pos (by omega), if_neg e, if_pos rfl, List.take_of_length_le (by omega), List.drop_of_length_le (by omega), List.append_nil]
    · rw [if_neg (by omega), if_neg e, if_neg e2]
      by_cases e3 : j = r + 1
      · rw [if_pos e3]; simp
      · rw [if_neg e3]
theorem rows_same_n_c (A A' : Option Addr) (xss yss : List (List Int)) (n c c' : Nat) (w : World) (hn : n = yss.length) (hx : Grd w.heap.size w A xss) (hy : Grd w.heap.size w A' yss) (hc : xss.length ≤ c ∧ c ≤ 9223372036854775807) (hc' : yss.length ≤ c' ∧ c' ≤ 9223372036854775807) (h : xss = yss) :
    Calls Try.prog 24 #[.slice A xss.length c, .slice A' n c'] w (Ans w (.bool true)) := by
  subst hn
  exact rows_same_c A A' xss yss c c' w hx hy hc hc' h
theorem mixR_zero (xss L : List (List Int)) (j : Nat) : mixR xss L 0 0 j = rx xss j := by
  simp only [mixR, Nat.not_lt_zero, if_false]
  split <;> simp

set_option maxRecDepth 100000 in
set_option maxHeartbeats 8000000 in
theorem oilBounds_c (A Ab : Option Addr) (xss bss : List (List Int)) (c cb : Nat) (lo hi ca : Int) (w : World) (hx : Grd w.heap.size w A xss) (hbs : Grd w.heap.size w Ab bss) (hc : xss.length ≤ c ∧ c ≤ 9223372036854775807) (hcb : bss.length ≤ cb ∧ cb ≤ 9223372036854775807) :
    Calls Try.prog 4 #[.agg #[.slice A xss.length c, .int .i64 lo, .int .i64 hi, .int .i64 ca], .slice Ab bss.length cb] w (Ans w (.bool true)) := by
  have hb0 : Below w.heap.size w (w.alloc (.cells #[.slice A xss.length c, .int .i64 lo, .int .i64 hi, .int .i64 ca] 26)) := (Below.refl _ _).alloc (Nat.le_refl _) _
  have k0 : (w.alloc (.cells #[.slice A xss.length c, .int .i64 lo, .int .i64 hi, .int .i64 ca] 26)).cell? ⟨w.heap.size, 0, none⟩ = some (.slice A xss.length c) := by simp
  have k1 : (w.alloc (.cells #[.slice A xss.length c, .int .i64 lo, .int .i64 hi, .int .i64 ca] 26)).cell? ⟨w.heap.size, 1, none⟩ = some (.int .i64 lo) := by simp
  have k2 : (w.alloc (.cells #[.slice A xss.length c, .int .i64 lo, .int .i64 hi, .int .i64 ca] 26)).cell? ⟨w.heap.size, 2, none⟩ = some (.int .i64 hi) := by simp
  have k3 : (w.alloc (.cells #[.slice A xss.length c, .int .i64 lo, .int .i64 hi, .int .i64 ca] 26)).cell? ⟨w.heap.size, 3, none⟩ = some (.int .i64 ca) := by simp
  have HX := Lib.hid (hx.step hb0)
  have HBs := Lib.hid (hbs.step hb0)
  have HB := Lib.hid hb0
  clear hb0 hx hbs
  go_enter Try.func4, Try.ntmps4
  go_wp2_with fail
  generalize (w.alloc (.cells #[.slice A xss.length c, .int .i64 lo, .int .i64 hi, .int .i64 ca] 26)) = W0 at k0 k1 k2 k3 HX HBs HB ⊢
  cases hP : shortB 12 xss && shortB 25 bss
  · have HP := Lib.hid hP
    clear hP
    refine (thin_c A Ab xss bss c cb lo hi ca _ (Nat.le_refl _) HX.out HBs.out hc hcb).mono ?_
    rw [HP.out]
    rintro e w1 ⟨rfl, hb⟩
    replace HX := Lib.hid (HX.out.step hb)
    replace HBs := Lib.hid (HBs.out.step hb)
    replace k0 := cell_of_ans hb k0
    replace k1 := cell_of_ans hb k1
    replace k2 := cell_of_ans hb k2
    replace k3 := cell_of_ans hb k3
    replace HB := Lib.hid (HB.out.trans (hb.mono HB.out.size))
    clear hb
    go_wp2_with fail
    refine (awake_c _).mono ?_
    rintro e w9 ⟨rfl, hb⟩
    replace HX := Lib.hid (HX.out.step hb)
    replace HBs := Lib.hid (HBs.out.step hb)
    replace k0 := cell_of_ans hb k0
    replace k1 := cell_of_ans hb k1
    replace k2 := cell_of_ans hb k2
    replace k3 := cell_of_ans hb k3
    replace HB := Lib.hid (HB.out.trans (hb.mono HB.out.size))
    clear hb
    go_wp2_with fail
    go_ret
    exact ⟨rfl, HB.out⟩
  · have HP := Lib.hid hP
    clear hP
    refine (thin_c A Ab xss bss c cb lo hi ca _ (Nat.le_refl _) HX.out HBs.out hc hcb).mono ?_
    rw [HP.out]
    rintro e w1 ⟨rfl, hb⟩
    replace HX := Lib.hid (HX.out.step hb)
    replace HBs := Lib.hid (HBs.out.step hb)
    replace k0 := cell_of_ans hb k0
    replace k1 := cell_of_ans hb k1
    replace k2 := cell_of_ans hb k2
    replace k3 := cell_of_ans hb k3
    replace HB := Lib.hid (HB.out.trans (hb.mono HB.out.size))
    clear hb
    have HS1 : Hid (shortB 12 xss = true) := (Bool.and_eq_true_iff.1 HP.out).1
    have HS2 : Hid (shortB 25 bss = true) := (Bool.and_eq_true_iff.1 HP.out).2
    go_wp2_with fail
    refine (lane_c A xss c lo hi ca _ (Nat.le_refl _) HX.out (shortB_big (by omega) HS1.out).1 (shortB_big (by omega) HS1.out).2).mono ?_
    rintro e w2 ⟨A2, c2, rfl, hc2, g2, hb⟩
    replace HX := Lib.hid (HX.out.step hb)
    replace HBs := Lib.hid (HBs.out.step hb)
    replace k0 := cell_of_ans hb k0
    replace k1 := cell_of_ans hb k1
    replace k2 := cell_of_ans hb k2
    replace k3 := cell_of_ans hb k3
    replace HB := Lib.hid (HB.out.trans (hb.mono HB.out.size))
    clear hb
    have Hg2 := Lib.hid g2
    clear g2
    go_wp2_with fail
    refine (copied_new_c Ab bss cb _ HBs.out (shortB_big (by omega) HS2.out).1 (shortB_big (by omega) HS2.out).2).mono ?_
    rintro e w3 ⟨A3, c3, rfl, hc3, g3, hb⟩
    replace HX := Lib.hid (HX.out.step hb)
    replace HBs := Lib.hid (HBs.out.step hb)
    replace k0 := cell_of_ans hb k0
    replace k1 := cell_of_ans hb k1
    replace k2 := cell_of_ans hb k2
    replace k3 := cell_of_ans hb k3
    replace Hg2 := Lib.hid (Hg2.out.step hb)
    replace HB := Lib.hid (HB.out.trans (hb.mono HB.out.size))
    clear hb
    have Hg3 := Lib.hid g3
    clear g3
    by_cases hbe : ballsErr xss lo hi ca bss = 0
    · have HE := Lib.hid hbe
      have HLE := Lib.hid (ballsOk hbe).1
      obtain ⟨hn0, hn8, -, -, hlo, hlh, hhi, -, -⟩ := laneOk (ballsOk hbe).1
      clear hbe
      go_wp2_with fail
      refine (bounds_ok_c A2 A3 xss bss c2 c3 lo hi ca _ Hg2.out Hg3.out hc2 hc3 HE.out).mono ?_
      rintro e w4 ⟨Aa, c4, Ad, c5, rfl, hc4, hc5, ga, gd, hb⟩
      replace HX := Lib.hid (HX.out.step hb)
      replace HBs := Lib.hid (HBs.out.step hb)
      replace k0 := cell_of_ans hb k0
      replace k1 := cell_of_ans hb k1
      replace k2 := cell_of_ans hb k2
      replace k3 := cell_of_ans hb k3
      replace Hg2 := Lib.hid (Hg2.out.step hb)
      replace Hg3 := Lib.hid (Hg3.out.step hb)
      replace HB := Lib.hid (HB.out.trans (hb.mono HB.out.size))
      clear hb
      have Hga := Lib.hid ga
      clear ga
      have Hgd := Lib.hid gd
      clear gd
      clear Hg2 Hg3
      clear hc2 hc3
      go_wp2_with fail
      refine (fault2_c A Ab xss bss c cb lo hi ca _ HX.out HBs.out hc).mono ?_
      rw [HE.out]
      rintro e w5 ⟨rfl, hb⟩
      replace HX := Lib.hid (HX.out.step hb)
      replace HBs := Lib.hid (HBs.out.step hb)
      replace k0 := cell_of_ans hb k0
      replace k1 := cell_of_ans hb k1
      replace k2 := cell_of_ans hb k2
      replace k3 := cell_of_ans hb k3
      replace Hga := Lib.hid (Hga.out.step hb)
      replace Hgd := Lib.hid (Hgd.out.step hb)
      replace HB := Lib.hid (HB.out.trans (hb.mono HB.out.size))
      clear hb
      have HBw5 := HB
      have HX5 := HX
      have HBs5 := HBs
      have Hga5 := Hga
      have Hgd5 := Hgd
      have m0 := k0
      have m1 := k1
      have m2 := k2
      have m3 := k3
      go_wp2_with fail
      have HT1 : Hid True := trivial
      have hd : Below w5.heap.size w5 w5.drew := (Below.refl _ _).drew
      replace HX := Lib.hid (HX.out.step hd)
      replace HBs := Lib.hid (HBs.out.step hd)
      replace Hga := Lib.hid (Hga.out.step hd)
      replace Hgd := Lib.hid (Hgd.out.step hd)
      replace HB := Lib.hid (HB.out.trans (hd.mono HB.out.size))
      clear hd
      go_region_held3 (fun w' => w'.cell? ⟨w.heap.size, 0, none⟩ = some (.slice A xss.length c) ∧ w'.cell? ⟨w.heap.size, 1, none⟩ = some (.int .i64 lo) ∧ w'.cell? ⟨w.heap.size, 2, none⟩ = some (.int .i64 hi) ∧ w'.cell? ⟨w.heap.size, 3, none⟩ = some (.int .i64 ca)) (go_keep) (first | (go_at_call 21; have _t := HT1; refine (copied_n_c A xss _ c _ rfl HX.out (shortB_big (by omega) HS1.out).1 (shortB_big (by omega) HS1.out).2).mono ?_; rintro e w6 ⟨Ax, cx, vx, rfl, hRx, hb⟩; have hb56 := below_drew_l hb; replace HX := Lib.hid (HX.out.step hb); replace HBs := Lib.hid (HBs.out.step hb); replace k0 := cell_of_ans (below_drew_l hb) k0; replace k1 := cell_of_ans (below_drew_l hb) k1; replace k2 := cell_of_ans (below_drew_l hb) k2; replace k3 := cell_of_ans (below_drew_l hb) k3; replace Hga := Lib.hid (Hga.out.step hb); replace Hgd := Lib.hid (Hgd.out.step hb); replace HB := Lib.hid (HB.out.trans (hb.mono HB.out.size)); clear hb; have HRx := Lib.hid hRx; have HB56 := Lib.hid hb56; clear HT1 hRx hb56) | (go_at_call 21; refine (copied_n_c A xss _ c _ rfl HX.out (shortB_big (by omega) HS1.out).1 (shortB_big (by omega) HS1.out).2).mono ?_; rintro e w7 ⟨Ay, cy, vy, rfl, hRy, hb⟩; have HRx2 := Lib.hid (HRx.out.kept hb); have hb67 := hb; replace HX := Lib.hid (HX.out.step hb); replace HBs := Lib.hid (HBs.out.step hb); replace k0 := cell_of_ans hb k0; replace k1 := cell_of_ans hb k1; replace k2 := cell_of_ans hb k2; replace k3 := cell_of_ans hb k3; replace Hga := Lib.hid (Hga.out.step hb); replace Hgd := Lib.hid (Hgd.out.step hb); replace HB := Lib.hid (HB.out.trans (hb.mono HB.out.size)); clear hb; have HRy := Lib.hid hRy; have HB67 := Lib.hid hb67; clear hRy hb67))
      clear HX HBs Hga Hgd k0 k1 k2 k3
      go_wp2_with fail
      have HXL : Hid (RwsLt w6.heap.size (.slice Ax xss.length cx) vx) := HRx.out.lts
      have HB5 : Hid (Below w5.heap.size w5 w7) := HB56.out.trans (HB67.out.mono HB56.out.size)
      have HRX : Hid (Rws w5.heap.size w7 (.slice Ax xss.length cx) xss.length vx (rx xss)) := by have := HRx2.out; rwa [World.size_drew] at this
      have h56 := HB56.out.size
      have HLr : Hid (∀ r, r < xss.length → (rx (lowX xss bss lo hi ca) r).length = (rx xss r).length) := fun r hr => (lowX_row hr).trans ((laneOk HLE.out).2.2.1 r hr).2.1.symm
      have HDr : Hid (∀ r, r < xss.length → (rx (highX xss bss lo hi ca) r).length = (rx xss r).length) := fun r hr => (highX_row hr).trans ((laneOk HLE.out).2.2.1 r hr).2.1.symm
      have HRL : Hid (∀ r, r < xss.length → (rx xss r).length = (rx xss 0).length) := fun r hr => ((laneOk HLE.out).2.2.1 r hr).2.1
      have HAL : Hid (∀ r b, r < xss.length → b < (rx xss 0).length → ((aN ca lo hi bss r b (ix (rx xss r) b) bss.length : Int)) = ix (rx (lowX xss bss lo hi ca) r) b) := fun r b hr hb => by rw [lowX_at HE.out hr hb]; exact (aN_eq bss r b _ (by omega) (fresh_bd HE.out hr hb).1 (fresh_bd HE.out hr hb).2).1
      have HAD : Hid (∀ r b, r < xss.length → b < (rx xss 0).length → ((aN ca hi lo bss r b (ix (rx xss r) b) bss.length : Int)) = ix (rx (highX xss bss lo hi ca) r) b) := fun r b hr hb => by rw [highX_at HE.out hr hb]; exact (aN_eq bss r b _ (by omega) (fresh_bd HE.out hr hb).1 (fresh_bd HE.out hr hb).2).1
      have HLL := Lib.hid (lowX_len xss bss lo hi ca)
      have HDL := Lib.hid (highX_len xss bss lo hi ca)
      clear HRx HRx2 HB56 HB67
      generalize lowX xss bss lo hi ca = L at *
      generalize highX xss bss lo hi ca = D at *
      go_loopw [11] (fun i wr => ∃ r : Nat, r ≤ xss.length ∧ i = .int .i64 r ∧ Rws w5.heap.size wr (.slice Ax xss.length cx) xss.length vx (mixR xss L r 0) ∧ Rws w6.heap.size wr (.slice Ay xss.length cy) xss.length vy (mixR xss D r 0) ∧ Below w5.heap.size w5 wr) (fun i _ => xss.length - (intOf i).toNat)
      case atStart => exact ⟨0, by omega, rfl, HRX.out.congr (fun j _ => mixR_zero xss L j), HRy.out.congr (fun j _ => mixR_zero xss D j), HB5.out⟩
      case round =>
        obtain ⟨r, hr, rfl, hRX, hRY, hb⟩ := hrel
        clear HRX HRy HB5
        by_cases h1 : r < xss.length
        · have HRXr := Lib.hid hRX
          have HRYr := Lib.hid hRY
          have HBr := Lib.hid hb
          clear hRX hRY hb
          go_wp2_with fail
          go_loopw [12] (fun i wr => ∃ b : Nat, b ≤ (rx xss r).length ∧ i = .int .i64 b ∧ Rws w5.heap.size wr (.slice Ax xss.length cx) xss.length vx (mixR xss L r b) ∧ Rws w6.heap.size wr (.slice Ay xss.length cy) xss.length vy (mixR xss D r b) ∧ Below w5.heap.size w5 wr) (fun i _ => (rx xss r).length - (intOf i).toNat)
          case atStart => exact ⟨0, by omega, rfl, HRXr.out, HRYr.out, HBr.out⟩
          case round =>
            obtain ⟨b, hb, rfl, hRX, hRY, hbw⟩ := hrel
            clear HRXr HRYr HBr
            have hlx : (mixR xss L r b r).length = (rx xss r).length := mixR_len (HLr.out r h1) hb
            have hly : (mixR xss D r b r).length = (rx xss r).length := mixR_len (HDr.out r h1) hb
            have hpos : 0 < (rx xss r).length := ((laneOk HLE.out).2.2.1 r h1).1
            obtain ⟨gx, cgx, grx, crx, hvx, qx1, qx2, bx1, bx2, qx3, qx4, lx1, lx2, nx⟩ := hRX.row h1 (by omega)
            obtain ⟨gy, cgy, gry, cry, hvy, qy1, qy2, by1, by2, qy3, qy4, ly1, ly2, ny⟩ := hRY.row h1 (by omega)
            rw [hlx] at qx1 qx2 qx3
            rw [hly] at qy1 qy2 qy3
            injection hvx with e1 _ e2
            injection hvy with e3 _ e4
            subst e1 e2 e3 e4
            have HRXb := Lib.hid hRX
            have HRYb := Lib.hid hRY
            have HBb := Lib.hid hbw
            have hrI : (r : Int) < (xss.length : Int) := by omega
            by_cases h2 : b < (rx xss r).length
            · have hb0 : b < (rx xss 0).length := by have := HRL.out r h1; omega
              have n0 := cell_of_ans hbw m0
              have n1 := cell_of_ans hbw m1
              have n2 := cell_of_ans hbw m2
              have n3 := cell_of_ans hbw m3
              have H27 := refBounds_c A Ab xss bss c cb lo hi ca r b wr (HX5.out.step hbw) (HBs5.out.step hbw) HE.out h1 hb0
              rw [HAL.out r b h1 hb0, HAD.out r b h1 hb0] at H27
              have HH := Lib.hid H27
              have cx3 := qx3 b h2
              have cy3 := qy3 b h2
              have fx3 := qx4 b
              have fy3 := qy4 b
              have HQX := Lib.hid qx2
              have HQY := Lib.hid qy2
              have hbi : (b : Int) < ((rx xss r).length : Int) := by omega
              have hle12 : (rx xss r).length ≤ 12 := ((laneOk HLE.out).2.2.1 r h1).2.2
              have hb0i : (0 : Int) ≤ (b : Int) := by omega
              have hr0i : (0 : Int) ≤ (r : Int) := by omega
              have hzw := hbw.size
              clear H27 hRX hRY hbw qx2 qx3 qx4 qy2 qy3 qy4 hb0
              generalize hpv : ix (rx L r) b = pv at HH
              generalize hqv : ix (rx D r) b = qv at HH
              have HPV := Lib.hid hpv
              have HQV := Lib.hid hqv
              clear hpv hqv
              go_wp2_with fail
              refine HH.out.mono ?_
              rintro e w8 ⟨rfl, hb8⟩
              have hz8 := hb8.size
              replace qx1 := cell_of_ans hb8 qx1
              replace qy1 := cell_of_ans hb8 qy1
              replace cx3 := cell_of_ans hb8 cx3
              replace cy3 := cell_of_ans hb8 cy3
              replace fx3 := ((bcell hb8).2 grx b lx2).trans fx3
              replace fy3 := ((bcell hb8).2 gry b ly2).trans fy3
              have HB8 := Lib.hid hb8
              clear hb8 HH n0 n1 n2 n3
              go_wp2_with fail
              have hb9 : Below w8.heap.size w8 (w8.alloc (.cells #[.int .i64 pv, .int .i64 qv] 24)) := (Below.refl _ _).alloc (Nat.le_refl _) _
              replace qx1 := cell_of_ans hb9 qx1
              replace qy1 := cell_of_ans hb9 qy1
              replace cx3 := cell_of_ans hb9 cx3
              replace cy3 := cell_of_ans hb9 cy3
              replace fx3 := ((bcell hb9).2 grx b (by omega)).trans fx3
              replace fy3 := ((bcell hb9).2 gry b (by omega)).trans fy3
              have s0 : (w8.alloc (.cells #[.int .i64 pv, .int .i64 qv] 24)).cell? ⟨w8.heap.size, 0, none⟩ = some (.int .i64 pv) := by simp
              have s1 : (w8.alloc (.cells #[.int .i64 pv, .int .i64 qv] 24)).cell? ⟨w8.heap.size, 1, none⟩ = some (.int .i64 qv) := by simp
              have HB9 := Lib.hid hb9
              clear hb9
              generalize w8.alloc (.cells #[.int .i64 pv, .int .i64 qv] 24) = W9 at qx1 qy1 cx3 cy3 fx3 fy3 s0 s1 HB9 ⊢
              have l1 : gx < w6.heap.size := HXL.out.1 gx rfl
              have l2 : grx < w6.heap.size := HXL.out.2 r _ HQX.out grx rfl
              have d1 : grx ≠ gx := nx
              have d2 : gx ≠ grx := Ne.symm nx
              have d3 : gry ≠ gy := ny
              have d4 : gy ≠ gry := Ne.symm ny
              have d5 : grx ≠ gy := by omega
              have d6 : gy ≠ grx := by omega
              have d7 : gry ≠ gx := by omega
              have d8 : gx ≠ gry := by omega
              have d9 : grx ≠ gry := by omega
              have d10 : gry ≠ grx := by omega
              have d11 : w8.heap.size ≠ grx := by omega
              have d12 : w8.heap.size ≠ gry := by omega
              have d13 : grx ≠ w8.heap.size := by omega
              have d14 : gry ≠ w8.heap.size := by omega
              go_region_held3 (fun w' => w'.cell? ⟨gx, r, none⟩ = some (.slice (some ⟨grx, 0, none⟩) (rx xss r).length crx) ∧ w'.cell? ⟨gy, r, none⟩ = some (.slice (some ⟨gry, 0, none⟩) (rx xss r).length cry) ∧ w'.cell? ⟨w8.heap.size, 0, none⟩ = some (.int .i64 pv) ∧ w'.cell? ⟨w8.heap.size, 1, none⟩ = some (.int .i64 qv)) (go_keep) (first | fail)
              go_wp2_with fail
              go_roundw
              case rel =>
                have hgx : W9.grownBy (W9.setCell ⟨grx, b, none⟩ (.int .i64 pv)) (some grx) := only_setCell (World.grownBy.refl W9 (some grx)) (.inl rfl) _
                have hgy : (W9.setCell ⟨grx, b, none⟩ (.int .i64 pv)).grownBy ((W9.setCell ⟨grx, b, none⟩ (.int .i64 pv)).setCell ⟨gry, b, none⟩ (.int .i64 qv)) (some gry) := only_setCell (World.grownBy.refl _ (some gry)) (.inl rfl) _
                have x1 := (((HRXb.out.kept HB8.out).kept HB9.out).store (b := b) (x := pv) h1 HQX.out).keptFar hgy HXL.out (by omega)
                have y1 := (((HRYb.out.kept HB8.out).kept HB9.out).keptBy hgx l2).store (b := b) (x := qv) h1 HQY.out
                refine ⟨b + 1, by omega, by go_num, x1.congr fun j _ => ?_, y1.congr fun j _ => ?_, ?_⟩
                · rw [mixR_set (HLr.out r h1) h2, HPV.out]
                · rw [mixR_set (HDr.out r h1) h2, HQV.out]
                · exact ((((HBb.out.trans (HB8.out.mono hzw)).trans (HB9.out.mono (by omega))).setCell (p := ⟨grx, b, none⟩) bx2 _).setCell (p := ⟨gry, b, none⟩) (by dsimp only; omega) _).drew
              case measure => simp [intOf]; omega
            · have eb : b = (rx xss r).length := by omega
              have HR1 := Lib.hid (hRX.congr (fun j _ => mixR_next (HLr.out r h1) eb j))
              have HR2 := Lib.hid (hRY.congr (fun j _ => mixR_next (HDr.out r h1) eb j))
              have h2i : ¬ ((b : Int) < ((rx xss r).length : Int)) := by omega
              clear hRX hRY hbw qx2 qx3 qx4 qy2 qy3 qy4 eb
              go_wp2_with fail
              go_roundw
              case rel => exact ⟨r + 1, by omega, by go_num, HR1.out, HR2.out, HBb.out⟩
              case measure => simp [intOf]; omega
        · obtain rfl : r = xss.length := by omega
          have hb := hb
          have HGX := Lib.hid hRX
          have HGY := Lib.hid hRY
          have hE1 : ∀ j, j < xss.length → mixR xss L xss.length 0 j = rx L j := fun j hj => by simp only [mixR]; rw [if_pos hj]
          have hE2 : ∀ j, j < xss.length → mixR xss D xss.length 0 j = rx D j := fun j hj => by simp only [mixR]; rw [if_pos hj]
          have g1 : Rws w5.heap.size wr (.slice Ax xss.length cx) L.length vx (rx L) := by rw [HLL.out]; exact hRX.congr fun j hj => (hE1 j hj).symm
          have g2 : Rws w6.heap.size wr (.slice Ay xss.length cy) D.length vy (rx D) := by rw [HDL.out]; exact hRY.congr fun j hj => (hE2 j hj).symm
          obtain ⟨Aq, cq, eq1, lq, mq, Gx⟩ := g1.grd
          obtain ⟨Ar, cr, eq2, lr, mr, Gy⟩ := g2.grd
          injection eq1 with f1 f2 f3
          injection eq2 with f4 f5 f6
          subst f1 f3 f4 f6
          clear f2 f5
          have HGa := Lib.hid (Hga5.out.step hb)
          have HGd := Lib.hid (Hgd5.out.step hb)
          have HGx := Lib.hid Gx
          have HGy := Lib.hid Gy
          have HLx : Hid (xss.length = L.length) := HLL.out.symm
          have HDx : Hid (xss.length = D.length) := HDL.out.symm
          have HBB := Lib.hid hb
          clear hRX hRY hb g1 g2 Gx Gy hE1 hE2 HGX HGY
          go_wp2_with fail
          (with_reducible refine (rows_same_n_c Aa Ax L L xss.length c4 cx _ HLx.out HGa.out HGx.out hc4 ⟨lq, mq⟩ rfl).mono ?_)
          rintro e w8 ⟨rfl, hb⟩
          replace HGd := Lib.hid (HGd.out.step hb)
          replace HGy := Lib.hid (HGy.out.step hb)
          replace HBB := Lib.hid (HBB.out.trans (hb.mono HBB.out.size))
          clear hb
          go_wp2_with fail
          (with_reducible refine (rows_same_n_c Ad Ay D D xss.length c5 cy _ HDx.out HGd.out HGy.out hc5 ⟨lr, mr⟩ rfl).mono ?_)
          rintro e w9 ⟨rfl, hb⟩
          replace HBB := Lib.hid (HBB.out.trans (hb.mono HBB.out.size))
          clear hb
          go_wp2_with fail
          (with_reducible refine (awake_c _).mono ?_)
          rintro e w10 ⟨rfl, hb⟩
          replace HBB := Lib.hid (HBB.out.trans (hb.mono HBB.out.size))
          clear hb
          go_wp2_with fail
          go_ret
          exact ⟨rfl, HBw5.out.trans (HBB.out.mono HBw5.out.size)⟩
    · have HBad := Lib.hid hbe
      have z2 : (ballsErr xss lo hi ca bss != 0) = true := by simp [hbe]
      have z4 : (ballsErr xss lo hi ca bss == ballsErr xss lo hi ca bss) = true := by simp
      clear hbe
      go_wp2_with fail
      refine (bounds_bad_c A2 A3 xss bss c2 c3 lo hi ca _ Hg2.out Hg3.out hc2 hc3 HBad.out).mono ?_
      rintro e w4 ⟨rfl, hb⟩
      replace HX := Lib.hid (HX.out.step hb)
      replace HBs := Lib.hid (HBs.out.step hb)
      replace k0 := cell_of_ans hb k0
      replace k1 := cell_of_ans hb k1
      replace k2 := cell_of_ans hb k2
      replace k3 := cell_of_ans hb k3
      replace Hg2 := Lib.hid (Hg2.out.step hb)
      replace Hg3 := Lib.hid (Hg3.out.step hb)
      replace HB := Lib.hid (HB.out.trans (hb.mono HB.out.size))
      clear hb
      clear Hg2 Hg3
      clear hc2 hc3
      go_wp2_with fail
      refine (fault2_c A Ab xss bss c cb lo hi ca _ HX.out HBs.out hc).mono ?_
      rintro e w5 ⟨rfl, hb⟩
      replace HX := Lib.hid (HX.out.step hb)
      replace HBs := Lib.hid (HBs.out.step hb)
      replace k0 := cell_of_ans hb k0
      replace k1 := cell_of_ans hb k1
      replace k2 := cell_of_ans hb k2
      replace k3 := cell_of_ans hb k3
      replace HB := Lib.hid (HB.out.trans (hb.mono HB.out.size))
      clear hb
      go_wp2_with fail
      refine (awake_c _).mono ?_
      rintro e w6 ⟨rfl, hb⟩
      replace HX := Lib.hid (HX.out.step hb)
      replace HBs := Lib.hid (HBs.out.step hb)
      replace k0 := cell_of_ans hb k0
      replace k1 := cell_of_ans hb k1
      replace k2 := cell_of_ans hb k2
      replace k3 := cell_of_ans hb k3
      replace HB := Lib.hid (HB.out.trans (hb.mono HB.out.size))
      clear hb
      go_wp2_with fail
      go_ret
      exact ⟨rfl, HB.out⟩
end Go.Proofs.Ytgnonfomlgkpcaa
