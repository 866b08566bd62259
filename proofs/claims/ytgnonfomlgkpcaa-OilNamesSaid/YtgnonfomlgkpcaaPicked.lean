/-
  word, Picked.
-/
import Derived.Test.YtgnonfomlgkpcaaEndsW
import Derived.IntWalk
namespace Go.Proofs.Ytgnonfomlgkpcaa
open Go.RowKit

/-- A list of words. -/
def Wds (B : Nat) (w : World) (A : Option Addr) (ws : List Int) : Prop :=
  0 < ws.length → ∃ b off, A = some ⟨b, off, none⟩ ∧ b < B ∧ ∀ k, k < ws.length → w.cell? ⟨b, off + k, none⟩ = some (.int .u16 (ix ws k)) ∧ 0 ≤ ix ws k ∧ ix ws k ≤ 65535
theorem Wds.step {w w' : World} {A : Option Addr} {xs : List Int} (h : Wds w.heap.size w A xs) (hb : Below w.heap.size w w') : Wds w'.heap.size w' A xs := fun hp => by
  obtain ⟨b, off, hA, hlt, hc⟩ := h hp
  exact ⟨b, off, hA, Nat.lt_of_lt_of_le hlt hb.size, fun k hk => ⟨(hb.cell (p := ⟨b, off + k, none⟩) hlt).trans (hc k hk).1, (hc k hk).2⟩⟩

theorem cell_under {B : Nat} {w w' : World} (hb : Below B w w') {p : Addr} {v : Value} (h : w.cell? p = some v) (hp : p.block < B) : w'.cell? p = some v := (hb.cell hp).trans h

/-- As wpList_app_int, at a step of a region that draws its order. -/
theorem step_app_int {ops : Array Oper} {o : Oper} {a : Act} {K : Act → World → Prop} {Q : Exit → Act → World → Prop} {E : Prop} (s x : Operand) (hgd : o.guard = none) (ho : o.op = .call { callee := .builtin .append, args := #[s, x], argTypes := #[45, 45] }) (base : Nat) (w : World) (u : Value) (xs : List Int) (y : Int)
    (m : Nat) (hm : xs.length = m) (hv : a.eval s = u) (hx : a.eval x = .slice (some ⟨w.heap.size, 0, none⟩) 1 1) (hown : Hid (OwnI base w u xs)) (hl : xs.length ≤ 1000000) (hb : base ≤ w.heap.size)
    (h : ∀ A c w', Hid (OwnI base w' (.slice A (m + 1) c) (xs ++ [y])) → Hid (Below base w w') → K (a.put o.dst (.slice A (m + 1) c)) w') :
    if Region.wanted o (yielded ops a.tmps) = true then Oper.wp Try.prog o a (w.alloc (.cells #[.int .i64 y] 3)).drew K Q else E := by
  subst hm
  rw [if_pos (by simp [Region.wanted, hgd])]
  obtain ⟨i0, hi, hz0, hz1, hz2⟩ := info_parts infoInt
  have hO : w.ownsRow base 3 1 u xs.length (xs.map (Value.int .i64)) := hown
  obtain ⟨v', w', hr, h1, h2, _⟩ := run_append_src (P := Try.prog) (w := (w.alloc (.cells #[.int .i64 y] 3)).drew) base 45 o.type 3 i0 (.int .i64 0) 1 8 Try.underlying45 hi hz0 hz1 hz2 rfl (by decide) u xs.length (xs.map (Value.int .i64)) (hO.alloc _).drew (some ⟨w.heap.size, 0, none⟩) 1 1 [.int .i64 y] (src_int w y) (one_ints [y]) (by unfold maxLen; omega) (by omega) (by simp; omega)
  unfold Oper.wp execOp
  simp only [ho, resolve, invoke, builtin, Sem.run_bind, Sem.run_pure, Result.andThen_ok, List.map_toArray, List.map_cons, List.map_nil, hv, hx, hr]
  obtain ⟨A, c, rfl⟩ := ownsRow_form h1
  refine h A c w' ?_ ?_
  · show OwnI _ _ _ _
    unfold OwnI
    simpa using h1
  · exact ((Below.refl base w).alloc hb _).drew.grown h2 (by simp; omega) (fun k e => (hO.lt k e).1)

/-- One of some words. -/
def wordF (ws : List Int) (k : Nat) : Int := if ws.length = 0 then 0 else ix ws (k % ws.length)
theorem wordF_bd {B : Nat} {w : World} {A : Option Addr} {ws : List Int} (h : Wds B w A ws) (k : Nat) : 0 ≤ wordF ws k ∧ wordF ws k ≤ 65535 := by
  unfold wordF
  split
  · omega
  · obtain ⟨b, off, _, _, hc⟩ := h (by omega)
    exact (hc _ (Nat.mod_lt _ (by omega))).2

set_option maxHeartbeats 400000 in
theorem word_c {B : Nat} (A : Option Addr) (ws : List Int) (c k : Nat) (w : World) (h : Wds B w A ws) (hk : k ≤ 1000000) (_hc : ws.length ≤ c ∧ c ≤ 9223372036854775807) :
    Calls Try.prog 72 #[.slice A ws.length c, .int .i64 (k : Int)] w (fun e w' => e = .returned (.int .i64 (wordF ws k)) ∧ w' = w) := by
  by_cases h0 : ws.length = 0
  · have h0' : ((ws.length : Int) == 0) = true := by simp [h0]
    have HR : Hid (wordF ws k = 0) := by show _ = _; simp [wordF, h0]
    clear h0
    go_enter Try.func72, Try.ntmps72
    go_wp2
    go_ret
    exact ⟨ret_int HR.out.symm, rfl⟩
  · have h0' : ((ws.length : Int) == 0) = false := by rw [beq_eq_false_iff_ne]; omega
    obtain ⟨b, off, rfl, _, hcl⟩ := h (by omega)
    have hlt := Nat.mod_lt k (show 0 < ws.length by omega)
    obtain ⟨h1, h2, h3⟩ := hcl _ hlt
    have HR : Hid (wordF ws k = ix ws (k % ws.length)) := by show _ = _; simp [wordF, h0]
    clear hcl
    have e : ((k : Int) % (ws.length : Int)) = ((k % ws.length : Nat) : Int) := by simp
    have hp : 0 < ws.length := by omega
    clear h0
    generalize hj : k % ws.length = j at *
    have HJ := Lib.hid hj
    clear hj
    go_enter Try.func72, Try.ntmps72
    go_wp2
    go_ret
    exact ⟨ret_int HR.out.symm, rfl⟩

/-- A wear of each ball, by words. -/
def pickedR (n : Nat) (lo hi : Int) (ws : List Int) (i : Nat) : List Int := (List.range n).map fun r => lo + wordF ws (7 * i + r) % (hi - lo + 1)
def pickedX (n m : Nat) (lo hi : Int) (ws : List Int) : List (List Int) := (List.range m).map fun i => pickedR n lo hi ws i
theorem rx_pickedX {n m : Nat} {lo hi : Int} {ws : List Int} {i : Nat} (h : i < m) : rx (pickedX n m lo hi ws) i = pickedR n lo hi ws i := by
  rw [rx_lt (by simpa [pickedX] using h)]
  simp [pickedX]
theorem pickedX_len (n m : Nat) (lo hi : Int) (ws : List Int) : (pickedX n m lo hi ws).length = m := by simp [pickedX]
theorem picked_wears {n : Nat} {lo hi : Int} (ws : List Int) (bss : List (List Int)) (h : lo ≤ hi) : wearsB n lo hi bss (pickedX n bss.length lo hi ws) = true := by
  simp only [wearsB, Bool.and_eq_true, decide_eq_true_eq, allB_iff]
  refine ⟨pickedX_len _ _ _ _ _, fun k hk => ?_⟩
  rw [pickedX_len] at hk
  have hn : (rx (pickedX n bss.length lo hi ws) k).length = n := by rw [rx_pickedX hk]; simp [pickedR]
  simp only [wearB, Bool.and_eq_true, decide_eq_true_eq, allB_iff]
  refine ⟨hn, fun j hj => ?_⟩
  rw [hn] at hj
  show inB (ix (rx (pickedX n bss.length lo hi ws) k) j) lo hi = true
  rw [rx_pickedX hk, ix_lt (by simpa [pickedR] using hj), inB_eq]
  simp only [pickedR, List.getElem_map, List.getElem_range]
  have a := Int.emod_nonneg (wordF ws (7 * k + j)) (b := hi - lo + 1) (by omega)
  have b := Int.emod_lt_of_pos (wordF ws (7 * k + j)) (b := hi - lo + 1) (by omega)
  omega

set_option maxRecDepth 100000 in
set_option maxHeartbeats 4000000 in
theorem picked_c (A Ab Aw : Option Addr) (n m c cb cw : Nat) (ws : List Int) (lo hi ca : Int) (w : World) (hws : Wds w.heap.size w Aw ws) (hcw : ws.length ≤ cw ∧ cw ≤ 9223372036854775807) (hn : n ≤ 1000) (hm : m ≤ 1000) (hlo : 0 ≤ lo) (hlh : lo ≤ hi) (hhi : hi ≤ 9) :
    Calls Try.prog 31 #[.agg #[.slice A n c, .int .i64 lo, .int .i64 hi, .int .i64 ca], .slice Ab m cb, .slice Aw ws.length cw] w (IsNew w (pickedX n m lo hi ws)) := by
  have hb0 : Below w.heap.size w (w.alloc (.cells #[.slice A n c, .int .i64 lo, .int .i64 hi, .int .i64 ca] 26)) := (Below.refl _ _).alloc (Nat.le_refl _) _
  have k0 : (w.alloc (.cells #[.slice A n c, .int .i64 lo, .int .i64 hi, .int .i64 ca] 26)).cell? ⟨w.heap.size, 0, none⟩ = some (.slice A n c) := by simp
  have k1 : (w.alloc (.cells #[.slice A n c, .int .i64 lo, .int .i64 hi, .int .i64 ca] 26)).cell? ⟨w.heap.size, 1, none⟩ = some (.int .i64 lo) := by simp
  have k2 : (w.alloc (.cells #[.slice A n c, .int .i64 lo, .int .i64 hi, .int .i64 ca] 26)).cell? ⟨w.heap.size, 2, none⟩ = some (.int .i64 hi) := by simp
  have HWs := Lib.hid (hws.step hb0)
  have HB := Lib.hid hb0
  clear hb0 hws
  go_enter Try.func31, Try.ntmps31
  go_wp2_with fail
  generalize (w.alloc (.cells #[.slice A n c, .int .i64 lo, .int .i64 hi, .int .i64 ca] 26)) = W0 at k0 k1 k2 HB HWs ⊢
  go_loopw [8, 7] (fun i v wr => ∃ (k : Nat) (vs : List Value), k ≤ m ∧ i = .int .i64 k ∧ Rws W0.heap.size wr v k vs (pickedR n lo hi ws) ∧ Below W0.heap.size W0 wr) (fun i _ _ => m - (intOf i).toNat)
  case atStart => exact ⟨0, [], by omega, rfl, Rws.nil _ _ _, Below.refl _ _⟩
  case round =>
    obtain ⟨k, vs, hk, rfl, hO, hb⟩ := hrel
    by_cases h1 : k < m
    · have q0 := cell_of_ans hb k0
      have q1 := cell_of_ans hb k1
      have q2 := cell_of_ans hb k2
      have HWk := Lib.hid (HWs.out.step hb)
      have HO := Lib.hid hO
      have HBk := Lib.hid hb
      have hzk := hb.size
      clear hO hb k0 k1 k2
      obtain ⟨wo, rfl⟩ : ∃ wo : World, wo = wr := ⟨_, rfl⟩
      go_wp2_with fail
      go_loopw [10, 9] (fun j u wr' => ∃ t : Nat, t ≤ n ∧ j = .int .i64 t ∧ OwnI wo.heap.size wr' u ((pickedR n lo hi ws k).take t) ∧ Below wo.heap.size wo wr') (fun j _ _ => n - (intOf j).toNat)
      case atStart => exact ⟨0, by omega, rfl, OwnI.nil _ _, Below.refl _ _⟩
      case round =>
        obtain ⟨t, ht, rfl, hu, hb⟩ := hrel
        have p0 := cell_of_ans hb q0
        have p1 := cell_of_ans hb q1
        have p2 := cell_of_ans hb q2
        have HU := Lib.hid hu
        have HBt := Lib.hid hb
        have hzt := hb.size
        have HWt := Lib.hid (HWk.out.step hb)
        clear hu hb
        by_cases h2 : t < n
        · have HL : Hid (((pickedR n lo hi ws k).take t).length = t) := len_take_map_range n t _ (by omega)
          obtain ⟨hw0, hw1⟩ := wordF_bd HWt.out (7 * k + t)
          have H72 := Lib.hid (word_c Aw ws cw (7 * k + t) wr.drew (HWt.out.step (Below.refl _ _).drew) (by omega) hcw)
          have hk7 : (7 * (k : Int) + (t : Int)) = ((7 * k + t : Nat) : Int) := by omega
          generalize hwf : wordF ws (7 * k + t) = wf at *
          have HWF := Lib.hid hwf
          clear hwf
          have e1 : (0 : Int) < hi - lo + 1 := by omega
          have m0 := Int.emod_nonneg wf (b := hi - lo + 1) (by omega)
          have m1 := Int.emod_lt_of_pos wf (b := hi - lo + 1) (by omega)
          generalize hk7t : 7 * k + t = j7 at *
          have HK7 := Lib.hid hk7t
          clear hk7t
          have hbx : w.heap.size < wo.heap.size := World.block_lt_of_cell? wo _ q0
          have z1 : IntKind.i64.wrap (7 * (k : Int)) = 7 * k := IntWalk.i64_in _ (by omega)
          have z2 : IntKind.i64.wrap (7 * (k : Int) + (t : Int)) = (j7 : Int) := by rw [hk7]; exact IntWalk.i64_in _ (by omega)
          have z3 : IntKind.i64.wrap (hi - lo) = hi - lo := IntWalk.i64_in _ (by omega)
          have z4 : IntKind.i64.wrap (hi - lo + 1) = hi - lo + 1 := IntWalk.i64_in _ (by omega)
          have z5 : wf.tmod (hi - lo + 1) = wf % (hi - lo + 1) := Int.tmod_eq_emod_of_nonneg hw0
          have z6 : IntKind.i64.wrap (wf % (hi - lo + 1)) = wf % (hi - lo + 1) := IntWalk.i64_in _ (by omega)
          have z7 : IntKind.i64.wrap (lo + wf % (hi - lo + 1)) = lo + wf % (hi - lo + 1) := IntWalk.i64_in _ (by omega)
          have z8 : ¬ (hi - lo + 1 = 0) := by omega
          have z9 : (hi - lo + 1 == 0) = false := by rw [beq_eq_false_iff_ne]; omega
          clear hk7 e1 m0 m1
          go_wp2_with fail
          go_region_held3 (fun w' => w'.cell? ⟨w.heap.size, 0, none⟩ = some (.slice A n c) ∧ w'.cell? ⟨w.heap.size, 1, none⟩ = some (.int .i64 lo) ∧ w'.cell? ⟨w.heap.size, 2, none⟩ = some (.int .i64 hi)) (go_keep) (first | (go_at_call 72; refine H72.out.mono ?_; rintro e w2 ⟨rfl, rfl⟩) | (refine step_app_int (.tmp 24) (.tmp 44) rfl rfl wo.heap.size wr _ ((pickedR n lo hi ws k).take t) _ t HL.out rfl rfl HU (by rw [HL.out]; omega) hzt ?_; intro A' c' w2 HU2 HB2; have r0 := cell_under HB2.out p0 hbx; have r1 := cell_under HB2.out p1 hbx; have r2 := cell_under HB2.out p2 hbx))
          clear z1 z2 z3 z4 z5 z6 z7 z8 z9
          go_wp2_with fail
          go_roundw
          case rel =>
            refine ⟨t + 1, by omega, by go_num, ?_, HBt.out.trans HB2.out⟩
            have := HU2.out
            rw [← HWF.out, ← HK7.out] at this
            have e := take_map_range n t (fun r => lo + wordF ws (7 * k + r) % (hi - lo + 1)) h2
            unfold pickedR at this ⊢
            rw [e]
            exact this
          case measure => simp [intOf]; omega
        · obtain rfl : t = n := by omega
          have e : (pickedR t lo hi ws k).take t = pickedR t lo hi ws k := List.take_of_length_le (by simp [pickedR])
          have HU' : Hid (OwnI wo.heap.size wr u9 (pickedR t lo hi ws k)) := by have := HU.out; rw [e] at this; exact this
          have HL : Hid ((pickedR t lo hi ws k).length = t) := by show _ = _; simp [pickedR]
          clear e HU
          obtain ⟨Au, cu, hu⟩ := HU'.out.form
          rw [HL.out] at hu
          subst hu
          go_wp2_with (at_builtin; refine wpList_app_row (.tmp 46) (.tmp 48) rfl rfl W0.heap.size wo wr u7 k vs (pickedR t lo hi ws) Au t cu rfl rfl HO HL.out HU' HBt (by omega) hzk ?_; intro A' c' vs' w2 HO2 HB2)
          go_roundw
          case rel => exact ⟨k + 1, vs', by omega, by go_num, HO2.out, HBk.out.trans HB2.out⟩
          case measure => simp [intOf]; omega
    · obtain rfl : k = m := by omega
      go_wp2_with fail
      go_ret
      have hG : Rws W0.heap.size wr u7 (pickedX n k lo hi ws).length vs (rx (pickedX n k lo hi ws)) := by
        rw [pickedX_len]
        exact hO.congr fun j hj => rx_pickedX hj
      obtain ⟨A', c', rfl, a1, a2, a3⟩ := hG.grd
      exact ⟨A', c', rfl, ⟨a1, a2⟩, a3, HB.out.trans (hb.mono HB.out.size)⟩
end Go.Proofs.Ytgnonfomlgkpcaa
