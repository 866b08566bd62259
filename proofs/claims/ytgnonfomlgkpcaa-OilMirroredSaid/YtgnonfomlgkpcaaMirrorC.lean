/-
  across, mirrored.
-/
import Derived.Test.YtgnonfomlgkpcaaTruthW
namespace Go.Proofs.Ytgnonfomlgkpcaa
open Go.RowKit
set_option linter.unusedSimpArgs false
set_option linter.unusedVariables false

def acrR (n : Int) (x : List Int) : List Int := (List.range x.length).map fun k => n - 1 - ix x k
theorem acrR_len (n : Int) (x : List Int) : (acrR n x).length = x.length := by simp [acrR]
theorem ix_acrR {n : Int} {x : List Int} {k : Nat} (h : k < x.length) : ix (acrR n x) k = n - 1 - ix x k := by rw [ix_lt (by rw [acrR_len]; exact h)]; simp [acrR]
def mirR (xs : List Int) : List Int := (List.range xs.length).map fun j => ix xs (xs.length - 1 - j)
theorem mirR_len (xs : List Int) : (mirR xs).length = xs.length := by simp [mirR]
theorem ix_mirR {xs : List Int} {j : Nat} (h : j < xs.length) : ix (mirR xs) j = ix xs (xs.length - 1 - j) := by rw [ix_lt (by rw [mirR_len]; exact h)]; simp [mirR]
def mirX (xss : List (List Int)) : List (List Int) := (List.range xss.length).map fun r => mirR (rx xss r)
theorem mirX_len (xss : List (List Int)) : (mirX xss).length = xss.length := by simp [mirX]
theorem rx_mirX {xss : List (List Int)} {r : Nat} (h : r < xss.length) : rx (mirX xss) r = mirR (rx xss r) := by rw [rx_lt (by rw [mirX_len]; exact h)]; simp [mirX]

set_option maxRecDepth 100000 in
set_option maxHeartbeats 4000000 in
theorem across_c (A : Option Addr) (x : List Int) (c n : Nat) (w : World) (hx : Ints w.heap.size w A x) (hl : x.length ≤ 1000) (hn : n ≤ 1000) (hb : ∀ k, k < x.length → 0 ≤ ix x k ∧ ix x k < n) :
    Calls Try.prog 45 #[.slice A x.length c, .int .i64 (n : Int)] w (NewO w (acrR n x)) := by
  have HX := Lib.hid hx
  have HBD := Lib.hid hb
  have z1 : IntKind.i64.wrap ((n : Int) - 1) = (n : Int) - 1 := IntWalk.i64_in _ (by omega)
  clear hx hb
  go_enter Try.func45, Try.ntmps45
  go_wp2_with fail
  go_loopw [6, 5] (fun i v wr => ∃ (k : Nat) (Av : Option Addr) (cv : Nat), k ≤ x.length ∧ i = .int .i64 (k : Int) ∧ v = .slice Av k cv ∧ OwnI w.heap.size wr (.slice Av k cv) ((acrR n x).take k) ∧ Below w.heap.size w wr) (fun i _ _ => x.length - (intOf i).toNat)
  case atStart => exact ⟨0, none, 0, by omega, rfl, rfl, OwnI.nil _ _, Below.refl _ _⟩
  case round =>
    obtain ⟨k, Av, cv, hk, rfl, rfl, ho, hb⟩ := hrel
    have HO := Lib.hid ho
    have HB := Lib.hid hb
    have hz := hb.size
    by_cases h1 : k < x.length
    · have h1i : (k : Int) < (x.length : Int) := by omega
      obtain ⟨b, off, rfl, _, c0⟩ := (HX.out.step hb).at_ h1
      have hbd := HBD.out k h1
      have HL : Hid (((acrR n x).take k).length = k) := len_take_map_range x.length k _ (by omega)
      have HT : Hid ((acrR n x).take (k + 1) = (acrR n x).take k ++ [(n : Int) - 1 - ix x k]) := take_map_range x.length k _ h1
      obtain ⟨y, hy⟩ : ∃ y, y = ix x k := ⟨_, rfl⟩
      rw [← hy] at c0 hbd HT
      have z2 : IntKind.i64.wrap ((n : Int) - 1 - y) = (n : Int) - 1 - y := IntWalk.i64_in _ (by omega)
      have hll : ((acrR n x).take k).length ≤ 1000000 := by rw [HL.out]; omega
      have HO2 : Hid (OwnI w.heap.size wr (.slice Av k cv) ((acrR n x).take k)) := HO
      clear ho hb hy hbd HO
      generalize (acrR n x).take k = xs at *
      go_wp2_with (at_builtin; refine wpList_app_int (.tmp 13) (.tmp 21) rfl rfl w.heap.size wr _ xs ((n : Int) - 1 - y) rfl rfl HO2 hll hz ?_; intro As cs w3 HO3 HB3; rw [HL.out])
      go_roundw
      case rel => exact ⟨k + 1, As, cs, by omega, by go_num, rfl, by rw [HT.out]; have := HO3.out; rw [HL.out] at this; exact this, HB.out.trans HB3.out⟩
      case measure => simp [intOf] <;> omega
    · obtain rfl : k = x.length := by omega
      have h1i : ¬ (x.length : Int) < (x.length : Int) := by omega
      have e : (acrR n x).take x.length = acrR n x := List.take_of_length_le (by rw [acrR_len]; exact Nat.le_refl _)
      rw [e] at HO
      clear ho e
      go_wp2_with fail
      go_ret
      exact ⟨Av, cv, by rw [acrR_len]; rfl, by rw [acrR_len]; exact HO.out, HB.out⟩

/-- New own rows. -/
def NewR (w : World) (yss : List (List Int)) (e : Ending) (w' : World) : Prop := ∃ A c vs, e = .returned (.slice A yss.length c) ∧ Rws w.heap.size w' (.slice A yss.length c) yss.length vs (rx yss) ∧ Below w.heap.size w w'

set_option maxRecDepth 100000 in
set_option maxHeartbeats 8000000 in
theorem mirroredR_c (A : Option Addr) (xss : List (List Int)) (c : Nat) (w : World) (hx : Grd w.heap.size w A xss) (hl : xss.length ≤ 1000000) (hr : ∀ k, k < xss.length → (rx xss k).length ≤ 1000000) (hc : xss.length ≤ c ∧ c ≤ 9223372036854775807) :
    Calls Try.prog 44 #[.slice A xss.length c] w (NewR w (mirX xss)) := by
  have HX := Lib.hid hx
  have HR := Lib.hid hr
  clear hx hr
  go_enter Try.func44, Try.ntmps44
  go_wp2_with fail
  go_loopw [4, 3] (fun i v wr => ∃ (k : Nat) (vs : List Value), k ≤ xss.length ∧ i = .int .i64 k ∧ Rws w.heap.size wr v k vs (fun r => mirR (rx xss r)) ∧ Below w.heap.size w wr) (fun i _ _ => xss.length - (intOf i).toNat)
  case atStart => exact ⟨0, [], by omega, rfl, Rws.nil _ _ _, Below.refl _ _⟩
  case round =>
    obtain ⟨k, vs, hk, rfl, hO, hb⟩ := hrel
    have HO := Lib.hid hO
    have HBk := Lib.hid hb
    have hzk := hb.size
    by_cases h1 : k < xss.length
    · have h1i : (k : Int) < (xss.length : Int) := by omega
      obtain ⟨b, off, A1, c1, rfl, hbb, d0, q1, q2, hi1⟩ := (HX.out.step hb).at_ h1
      have hlen := HR.out k h1
      have HI := Lib.hid hi1
      have HMV : Hid (∀ t, t < (rx xss k).length → (mirR (rx xss k)).take (t + 1) = (mirR (rx xss k)).take t ++ [ix (rx xss k) ((rx xss k).length - 1 - t)]) := fun t ht => take_map_range (rx xss k).length t _ ht
      have HML := Lib.hid (mirR_len (rx xss k))
      have z0 : IntKind.i64.wrap (((rx xss k).length : Int) - 1) = ((rx xss k).length : Int) - 1 := IntWalk.i64_in _ (by omega)
      clear hO hb hi1
      obtain ⟨wo, rfl⟩ : ∃ wo : World, wo = wr := ⟨_, rfl⟩
      have HMR : Hid (mirR (rx xss k) = (fun r => mirR (rx xss r)) k) := rfl
      generalize hrow : rx xss k = row at *
      generalize hmir : mirR row = mr at *
      clear hrow hmir
      go_wp2_with fail
      go_loopw [6, 5] (fun j u wr' => ∃ (t : Nat) (y : Int) (Au : Option Addr) (cu : Nat), t ≤ row.length ∧ y = (row.length : Int) - 1 - t ∧ j = .int .i64 y ∧ u = .slice Au t cu ∧ OwnI wo.heap.size wr' (.slice Au t cu) (mr.take t) ∧ Below wo.heap.size wo wr') (fun j _ _ => (intOf j + 1).toNat)
      case atStart => exact ⟨0, _, none, 0, by omega, rfl, by simp, rfl, OwnI.nil _ _, Below.refl _ _⟩
      case round =>
        obtain ⟨t, y, Au, cu, ht, hy, rfl, rfl, hu, hb⟩ := hrel
        have e0 := cell_under hb d0 hbb
        have HU := Lib.hid hu
        have HBt := Lib.hid hb
        have hzt := hb.size
        have HIt := Lib.hid (HI.out.step hb)
        clear hu hb
        by_cases h2 : t < row.length
        · obtain ⟨m, rfl⟩ : ∃ m : Nat, y = (m : Int) := ⟨y.toNat, by omega⟩
          have hm : m < row.length := by omega
          have hmi : (m : Int) < (row.length : Int) := by omega
          have hm0 : (0 : Int) ≤ (m : Int) := by omega
          obtain ⟨b2, off2, rfl, _, f0⟩ := HIt.out.at_ hm
          have HL : Hid ((mr.take t).length = t) := by show _ = _; rw [List.length_take, HML.out]; omega
          have HT : Hid (mr.take (t + 1) = mr.take t ++ [ix row m]) := by
            show _ = _
            rw [HMV.out t h2, show row.length - 1 - t = m by omega]
          have hll : (mr.take t).length ≤ 1000000 := by rw [HL.out]; omega
          have z1 : IntKind.i64.wrap ((m : Int) - 1) = (m : Int) - 1 := IntWalk.i64_in _ (by omega)
          have HY : Hid ((m : Int) - 1 = (row.length : Int) - 1 - ((t + 1 : Nat) : Int)) := by show _ = _; omega
          clear hy
          generalize ix row m = v at *
          generalize mr.take t = xs at *
          go_wp2_with (at_builtin; refine wpList_app_int (.tmp 23) (.tmp 31) rfl rfl wo.heap.size wr _ xs v rfl rfl HU hll hzt ?_; intro As cs w3 HO3 HB3; rw [HL.out])
          go_roundw
          case rel => exact ⟨t + 1, _, As, cs, by omega, HY.out, rfl, rfl, by rw [HT.out]; have := HO3.out; rw [HL.out] at this; exact this, HBt.out.trans HB3.out⟩
          case measure => simp [intOf] <;> omega
        · obtain rfl : t = row.length := by omega
          obtain rfl : y = -1 := by omega
          have e : mr.take row.length = mr := List.take_of_length_le (by rw [HML.out]; exact Nat.le_refl _)
          have HU' : Hid (OwnI wo.heap.size wr (.slice Au row.length cu) ((fun r => mirR (rx xss r)) k)) := by
            show OwnI _ _ _ (mirR (rx xss k))
            rw [← HMR.out, ← e]
            exact HU
          have HL' : Hid (((fun r => mirR (rx xss r)) k).length = row.length) := by
            show (mirR (rx xss k)).length = _
            rw [← HMR.out, HML.out]
          clear e HU hy
          go_wp2_with (at_builtin; refine wpList_app_row (.tmp 33) (.tmp 35) rfl rfl w.heap.size wo wr _ k vs (fun r => mirR (rx xss r)) Au row.length cu rfl rfl HO HL'.out HU' HBt (by omega) hzk ?_; intro A' c' vs' w2 HO2 HB2)
          go_roundw
          case rel => exact ⟨k + 1, vs', by omega, by go_num, HO2.out, HBk.out.trans HB2.out⟩
          case measure => simp [intOf] <;> omega
    · obtain rfl : k = xss.length := by omega
      have h1i : ¬ (xss.length : Int) < (xss.length : Int) := by omega
      go_wp2_with fail
      go_ret
      have hG : Rws w.heap.size wr u3 (mirX xss).length vs (rx (mirX xss)) := by
        rw [mirX_len]
        exact hO.congr fun j hj => rx_mirX hj
      obtain ⟨A', c', rfl⟩ := ownsRow_form hG.1
      exact ⟨A', c', vs, rfl, hG, hb⟩
theorem mirrored_c (A : Option Addr) (xss : List (List Int)) (c : Nat) (w : World) (hx : Grd w.heap.size w A xss) (hl : xss.length ≤ 1000000) (hr : ∀ k, k < xss.length → (rx xss k).length ≤ 1000000) (hc : xss.length ≤ c ∧ c ≤ 9223372036854775807) :
    Calls Try.prog 44 #[.slice A xss.length c] w (IsNew w (mirX xss)) := (mirroredR_c A xss c w hx hl hr hc).mono fun e w' ⟨A1, c1, vs, h1, h2, h3⟩ => by
  obtain ⟨A', c', e', a1, a2, a3⟩ := h2.grd
  injection e' with e1 _ e3
  subst e1 e3
  exact ⟨A1, c1, h1, ⟨a1, a2⟩, a3, h3⟩
end Go.Proofs.Ytgnonfomlgkpcaa
