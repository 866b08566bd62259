/-
  The reference's play.
-/
import Derived.Test.YtgnonfomlgkpcaaT
namespace Go.Proofs.Ytgnonfomlgkpcaa
open Go.RowKit

theorem Rws.congr {base : Nat} {w : World} {v : Value} {n : Nat} {vs : List Value} {rows rows' : Nat → List Int} (h : Rws base w v n vs rows) (e : ∀ j, j < n → rows' j = rows j) : Rws base w v n vs rows' :=
  ⟨h.1, fun j hj => by rw [e j hj]; exact h.2.1 j hj, h.2.2⟩

theorem Rws.row {base : Nat} {w : World} {v : Value} {n : Nat} {vs : List Value} {rows : Nat → List Int} (h : Rws base w v n vs rows) {j : Nat} (hj : j < n) (h0 : 0 < (rows j).length) :
    ∃ g c gr cr, v = .slice (some ⟨g, 0, none⟩) n c ∧ w.cell? ⟨g, j, none⟩ = some (.slice (some ⟨gr, 0, none⟩) (rows j).length cr) ∧ vs[j]? = some (.slice (some ⟨gr, 0, none⟩) (rows j).length cr) ∧ base ≤ g ∧ base ≤ gr ∧ (∀ b, b < (rows j).length → w.cell? ⟨gr, b, none⟩ = some (.int .i64 (ix (rows j) b))) ∧ (∀ b, w.frozen? ⟨gr, b, none⟩ = false) ∧ g < w.heap.size ∧ gr < w.heap.size ∧ gr ≠ g := by
  obtain ⟨u, hu, ho, hne⟩ := h.2.1 j hj
  rcases h.1.2 with ⟨_, h2⟩ | ⟨g, cap, cur, hv, hb, hg, hn, hm, hs, ht⟩
  · omega
  · rcases ho.2 with ⟨_, h2⟩ | ⟨gr, cr, cur', hv', hb', hg', hn', hm', hs', ht'⟩
    · omega
    · subst hv hv'
      refine ⟨g, cap, gr, cr, rfl, ?_, hu, hb, hb', fun b hb => ?_, fun b => ?_, (Array.getElem?_eq_some_iff.1 hg).1, (Array.getElem?_eq_some_iff.1 hg').1, fun e => by
        subst e
        rcases hne with hne | hne
        · cases hne
        · exact hne rfl⟩
      · have := h.1.cells (g := g) rfl j _ hu
        rw [add_eq] at this
        simpa using this
      · have := ho.cells (g := gr) rfl b (.int .i64 (ix (rows j) b)) (by rw [List.getElem?_map, List.getElem?_eq_getElem hb, ix_lt hb]; rfl)
        rw [add_eq] at this
        simpa using this
      · exact ho.frozenAt b

theorem Rws.store {base : Nat} {w : World} {v : Value} {n : Nat} {vs : List Value} {rows : Nat → List Int} (h : Rws base w v n vs rows) {j b gr m cr : Nat} {x : Int} (hj : j < n) (hu : vs[j]? = some (.slice (some ⟨gr, 0, none⟩) m cr)) :
    Rws base (w.setCell ⟨gr, b, none⟩ (.int .i64 x)) v n vs (fun i => if i = j then (rows j).set b x else rows i) := by
  obtain ⟨u, hu', ho, hne⟩ := h.2.1 j hj
  rw [hu] at hu'
  injection hu' with hu'
  subst hu'
  have hm : m = (rows j).length := by
    obtain ⟨A, c, e⟩ := ownsRow_form ho
    injection e
  subst hm
  obtain ⟨h1, hg⟩ := ho.stored b (.int .i64 x)
  have hk : ∀ {u : Value} {e : TypeId} {m : Nat} {us : List Value}, w.ownsRow base e 1 u m us → (u.ownBlock = none ∨ u.ownBlock ≠ some gr) → (w.setCell ⟨gr, b, none⟩ (.int .i64 x)).ownsRow base e 1 u m us := fun hu hne => hu.kept hg hne
  refine ⟨hk h.1 ?_, fun i hi => ?_, h.2.2⟩
  · rcases hne with hne | hne
    · cases hne
    · exact .inr (Ne.symm hne)
  · by_cases e : i = j
    · subst e
      refine ⟨_, hu, ?_, hne⟩
      dsimp only
      rw [if_pos rfl]
      simpa [List.map_set] using h1
    · obtain ⟨u, a, c, d⟩ := h.2.1 i hi
      refine ⟨u, a, ?_, d⟩
      dsimp only
      rw [if_neg e]
      refine hk c ?_
      rcases Nat.lt_or_gt_of_ne e with e | e
      · exact h.2.2 i j _ _ e a hu
      · rcases h.2.2 j i _ _ e hu a with r | r
        · cases r
        · exact .inr (Ne.symm r)

theorem rowOf_upd (o : Nat → Int) {nb j b : Nat} (hb : b < nb) (hn : nb ≤ 12) (x : Int) (i : Nat) : rowOf (upd o (j * 12 + b) x) nb i = if i = j then (rowOf o nb j).set b x else rowOf o nb i := by
  refine List.ext_getElem (by split <;> simp [rowOf]) fun k h1 h2 => ?_
  rw [rowOf_len] at h1
  by_cases e : i = j
  · subst e
    simp only [rowOf, upd, List.getElem_map, List.getElem_range, if_true, List.getElem_set]
    by_cases e : k = b
    · subst e; simp
    · rw [if_neg (by omega), if_neg (by omega)]
  · simp only [rowOf, upd, List.getElem_map, List.getElem_range, if_neg e]
    rw [if_neg (by omega)]

theorem rowOf_oilOf {xss : List (List Int)} {nb j : Nat} (hl : (rx xss j).length = nb) (hn : nb ≤ 12) : rowOf (oilOf xss) nb j = rx xss j := by
  subst hl
  refine List.ext_getElem (by simp [rowOf]) fun k h1 h2 => ?_
  simp only [rowOf, List.getElem_map, List.getElem_range, oilOf]
  rw [show (j * 12 + k) / 12 = j by omega, show (j * 12 + k) % 12 = k by omega, ix_lt h2]

def W1D (w : World) (A : Option Addr) (n c : Nat) (lo hi ca : Int) (W1 : World) : Prop :=
  W1.cell? ⟨w.heap.size, 0, none⟩ = some (.slice A n c) ∧ W1.cell? ⟨w.heap.size, 1, none⟩ = some (.int .i64 lo) ∧ W1.cell? ⟨w.heap.size, 2, none⟩ = some (.int .i64 hi) ∧ W1.cell? ⟨w.heap.size, 3, none⟩ = some (.int .i64 ca)

def PlayRefPost (w : World) (yss : List (List Int)) (e : Ending) (w' : World) : Prop := ∃ v, e = .returned v ∧ IsGrd w'.heap.size w' v yss ∧ Below w.heap.size w w'

set_option maxRecDepth 100000 in
set_option maxHeartbeats 4000000 in
theorem refPlay_c {B : Nat} (A Ab Aw : Option Addr) (xss bss wss : List (List Int)) (c cb cw : Nat) (lo hi ca : Int) (w : World) (hB : B ≤ w.heap.size) (hr : Grd B w A xss) (hbs : Grd B w Ab bss) (hws : Grd B w Aw wss) (he : playErr xss lo hi ca bss wss = 0) :
    Calls Try.prog 25 #[.agg #[.slice A xss.length c, .int .i64 lo, .int .i64 hi, .int .i64 ca], .slice Ab bss.length cb, .slice Aw wss.length cw] w (PlayRefPost w (rowsOf (playO ca xss.length bss wss (oilOf xss) bss.length) (rx xss 0).length xss.length)) := by
  have hbe : ballsErr xss lo hi ca bss = 0 := by
    by_cases h : ballsErr xss lo hi ca bss = 0
    · exact h
    · rw [playErr, if_neg h] at he; exact absurd he h
  have hwe : wearsB xss.length lo hi bss wss = true := by
    rw [playErr, if_pos hbe] at he
    by_cases h : wearsB xss.length lo hi bss wss = true
    · exact h
    · rw [if_neg h] at he; cases he
  obtain ⟨hle, hb20, hbx⟩ := ballsOk hbe
  obtain ⟨hx0, hx8, hxr, _, hlo, hlh, hhi, hca0, hca1⟩ := laneOk hle
  have hlv := lvl_oilOf hle
  have hwx : wss.length = bss.length ∧ ∀ k, k < bss.length → (rx wss k).length = xss.length ∧ ∀ j, j < xss.length → lo ≤ ix (rx wss k) j ∧ ix (rx wss k) j ≤ hi := by
    simp only [wearsB, Bool.and_eq_true, decide_eq_true_eq, allB_iff] at hwe
    refine ⟨hwe.1, fun k hk => ?_⟩
    have c1 := hwe.2 k (by omega)
    simp only [wearB, Bool.and_eq_true, decide_eq_true_eq, allB_iff] at c1
    exact ⟨c1.1, fun j hj => inB_le (c1.2 j (by omega))⟩
  have h12 : (rx xss 0).length ≤ 12 := (hxr 0 hx0).2.2
  have h00 : 0 < (rx xss 0).length := (hxr 0 hx0).1
  have hw1 : Below w.heap.size w (w.alloc (.cells #[.slice A xss.length c, .int .i64 lo, .int .i64 hi, .int .i64 ca] 26)) := (Below.refl _ _).alloc (Nat.le_refl _) _
  have d0 : (w.alloc (.cells #[.slice A xss.length c, .int .i64 lo, .int .i64 hi, .int .i64 ca] 26)).cell? ⟨w.heap.size, 0, none⟩ = some (.slice A xss.length c) := by simp
  have d1 : (w.alloc (.cells #[.slice A xss.length c, .int .i64 lo, .int .i64 hi, .int .i64 ca] 26)).cell? ⟨w.heap.size, 1, none⟩ = some (.int .i64 lo) := by simp
  have d2 : (w.alloc (.cells #[.slice A xss.length c, .int .i64 lo, .int .i64 hi, .int .i64 ca] 26)).cell? ⟨w.heap.size, 2, none⟩ = some (.int .i64 hi) := by simp
  have d3 : (w.alloc (.cells #[.slice A xss.length c, .int .i64 lo, .int .i64 hi, .int .i64 ca] 26)).cell? ⟨w.heap.size, 3, none⟩ = some (.int .i64 ca) := by simp
  have HC := Lib.hid (copied_c (B := B) A xss c (w.alloc (.cells #[.slice A xss.length c, .int .i64 lo, .int .i64 hi, .int .i64 ca] 26)) (by rw [World.size_alloc]; omega) (hr.below (hw1.mono hB)) (by omega) (fun k hk => by have := (hxr k hk).2.2; omega))
  have HD : Hid (W1D w A xss.length c lo hi ca (w.alloc (.cells #[.slice A xss.length c, .int .i64 lo, .int .i64 hi, .int .i64 ca] 26))) := ⟨d0, d1, d2, d3⟩
  have HX := Lib.hid hbx
  have HR := Lib.hid hxr
  have HW := Lib.hid hwx.2
  have HWL := Lib.hid hwx.1
  have HV := Lib.hid hlv
  have HBS := Lib.hid (hbs.below (hw1.mono hB))
  have HWS := Lib.hid (hws.below (hw1.mono hB))
  have HW1 := Lib.hid hw1
  have HZ1 : Hid ((w.alloc (.cells #[.slice A xss.length c, .int .i64 lo, .int .i64 hi, .int .i64 ca] 26)).heap.size = w.heap.size + 1) := by show _ = _; simp
  clear hr hbs hws he hbe hwe hle hbx hxr hlv hwx hw1
  go_enter Try.func25, Try.ntmps25
  go_upto_region 1 with fail
  generalize (w.alloc (.cells #[.slice A xss.length c, .int .i64 lo, .int .i64 hi, .int .i64 ca] 26)) = W1 at d0 d1 d2 d3 HC HBS HWS HW1 HZ1 HD ⊢
  go_wp2_with (go_at_call 21; refine HC.out.mono ?_; rintro e w1 ⟨v, vs, rfl, hv, hb1⟩; obtain ⟨Av, cv, rfl⟩ := ownsRow_form hv.1; have HV1 := Lib.hid hv; have HB1 := Lib.hid hb1; clear hv hb1)
  have HR0 : Hid (Rws W1.heap.size w1 (.slice Av xss.length cv) xss.length vs (rowOf (playO ca xss.length bss wss (oilOf xss) 0) (rx xss 0).length)) := HV1.out.congr fun j hj => by
    simp only [playO, List.range_zero, List.foldl_nil]
    exact rowOf_oilOf (HR.out j hj).2.1 h12
  go_loopw [8] (fun i wr => ∃ k : Nat, k ≤ bss.length ∧ i = .int .i64 k ∧ Rws W1.heap.size wr (.slice Av xss.length cv) xss.length vs (rowOf (playO ca xss.length bss wss (oilOf xss) k) (rx xss 0).length) ∧ Lvl (playO ca xss.length bss wss (oilOf xss) k) ∧ Below W1.heap.size W1 wr) (fun i _ => bss.length - (intOf i).toNat)
  case atStart => exact ⟨0, by omega, rfl, HR0.out, HV.out, HB1.out⟩
  case round =>
    obtain ⟨k, hk, rfl, hR, hL, hb⟩ := hrel
    clear HR0 HV1 HC d0 d1 d2 d3
    by_cases h1 : k < bss.length
    · have HRk := Lib.hid hR
      have HLk := Lib.hid hL
      have HBk := Lib.hid hb
      clear hR hL hb
      go_wp2_with fail
      go_loopw [9] (fun i wr' => ∃ r : Nat, r ≤ xss.length ∧ i = .int .i64 r ∧ Rws W1.heap.size wr' (.slice Av xss.length cv) xss.length vs (rowOf (rollW ca (rx bss k) (fun r => ix (rx wss k) (r - 1)) (fun r => ix (rx wss k) r) (playO ca xss.length bss wss (oilOf xss) k) (List.range r)) (rx xss 0).length) ∧ Lvl (rollW ca (rx bss k) (fun r => ix (rx wss k) (r - 1)) (fun r => ix (rx wss k) r) (playO ca xss.length bss wss (oilOf xss) k) (List.range r)) ∧ Below W1.heap.size W1 wr') (fun i _ => xss.length - (intOf i).toNat)
      case atStart => exact ⟨0, by omega, rfl, HRk.out, HLk.out, HBk.out⟩
      case round =>
        obtain ⟨r, hr, rfl, hR, hL, hb⟩ := hrel
        clear HRk HLk HBk
        by_cases h2 : r < xss.length
        · generalize ho : rollW ca (rx bss k) (fun r => ix (rx wss k) (r - 1)) (fun r => ix (rx wss k) r) (playO ca xss.length bss wss (oilOf xss) k) (List.range r) = o at hR hL
          have hbB : Below B W1 wr := hb.mono (by have := HW1.out.size; omega)
          obtain ⟨b1, o1, A1, c1, rfl, t1, e1, _, _, i1⟩ := (HBS.out.below hbB).at_ h1
          have hwl := HWL.out
          obtain ⟨b2, o2, A2, c2, rfl, t2, e2, _, _, i2⟩ := (HWS.out.below hbB).at_ (k := k) (by omega)
          obtain ⟨hbl, hbv⟩ := HX.out k h1
          obtain ⟨hwl2, hwv⟩ := HW.out k h1
          rw [hbl] at e1
          rw [hwl2] at e2
          obtain ⟨b3, o3, rfl, t3, e3⟩ := i1.at_ (k := r) (by omega)
          obtain ⟨p0, p1⟩ := hbv r h2
          obtain ⟨b, hbe⟩ : ∃ b : Nat, ix (rx bss k) r = (b : Int) := ⟨(ix (rx bss k) r).toNat, by omega⟩
          rw [hbe] at e3 p1
          have hbn : b < (rx xss 0).length := by omega
          obtain ⟨b4, o4, hA2, t4, e4⟩ := i2.at_ (k := r) (by omega)
          obtain ⟨y0, y1⟩ := hwv r h2
          have hrl : (rowOf o (rx xss 0).length r).length = (rx xss 0).length := rowOf_len _ _ _
          obtain ⟨g, cg, gr, cr, hv, q1, q2, hgb, hgrb, q3', q4', hgl, hgr, hgg⟩ := hR.row h2 (by omega)
          rw [hrl] at q1 q2 q3'
          have q3 := q3' b hbn
          rw [ix_rowOf o hbn] at q3
          have q4 := q4' b
          injection hv with hv1 _ hv3
          subst hv1 hv3 hA2
          obtain ⟨f0, f1, f2, f3⟩ := HD.out
          have k0 := cell_of_ans hb f0
          have k1 := cell_of_ans hb f1
          have k2 := cell_of_ans hb f2
          have k3 := cell_of_ans hb f3
          have hLr := hL (r * 12 + b)
          have hz1 := HZ1.out
          have m0 : gr ≠ w.heap.size := by omega
          have m0' : w.heap.size ≠ gr := by omega
          have m1 : gr ≠ b1 := by omega
          have m1' : b1 ≠ gr := by omega
          have m2 : gr ≠ b2 := by omega
          have m2' : b2 ≠ gr := by omega
          have m3 : gr ≠ b3 := by omega
          have m3' : b3 ≠ gr := by omega
          have m4 : gr ≠ b4 := by omega
          have m4' : b4 ≠ gr := by omega
          have hgg' : g ≠ gr := Ne.symm hgg
          have HRr := Lib.hid hR
          have HLr := Lib.hid hL
          have HBr := Lib.hid hb
          have HQ2 := Lib.hid q2
          have hrI : (r : Int) < (xss.length : Int) := by omega
          have hkI : (k : Int) < (bss.length : Int) := by omega
          have hkW : (k : Int) < (wss.length : Int) := by omega
          have HW' := Lib.hid hwv
          clear hwl hR hL hb hbv hwv q3' q4' q2 f0 f1 f2 f3 hbB
          by_cases h0 : 0 < r
          · have h0i : (0 : Int) < (r : Int) := by omega
            have h0j : (0 : Int) ≤ (r : Int) - 1 := by omega
            have h0k : (r : Int) - 1 < (xss.length : Int) := by omega
            obtain ⟨b5, o5, hA5, _, e5⟩ := i2.at_ (k := r - 1) (by omega)
            injection hA5 with hA5
            injection hA5 with h5 h6
            subst h5 h6
            obtain ⟨z0, z1⟩ := HW'.out (r - 1) (by omega)
            have H67 := Lib.hid (fun W : World => worn_c (.slice A xss.length c) lo hi ca (o (r * 12 + b)) (ix (rx wss k) (r - 1)) (ix (rx wss k) r) W hca0 hca1 (by omega) (by omega) hLr.1 hLr.2 (by omega) (by omega))
            have HT := Lib.hid ho
            clear ho
            go_wp2_with fail
            refine wp_region_noPanic ?_
            refine region_call_tail 33 (fun w' => w'.cell? ⟨w.heap.size, 0, none⟩ = some (.slice A xss.length c) ∧ w'.cell? ⟨w.heap.size, 1, none⟩ = some (.int .i64 lo) ∧ w'.cell? ⟨w.heap.size, 2, none⟩ = some (.int .i64 hi) ∧ w'.cell? ⟨w.heap.size, 3, none⟩ = some (.int .i64 ca) ∧ w'.cell? ⟨g, r, none⟩ = some (.slice (some ⟨gr, 0, none⟩) (rx xss 0).length cr) ∧ w'.cell? ⟨gr, b, none⟩ = some (.int .i64 (o (r * 12 + b))) ∧ w'.cell? ⟨b1, o1 + k, none⟩ = some (.slice (some ⟨b3, o3, none⟩) xss.length c1) ∧ w'.cell? ⟨b3, o3 + r, none⟩ = some (.int .i64 (b : Int)) ∧ w'.cell? ⟨b2, o2 + k, none⟩ = some (.slice (some ⟨b4, o4, none⟩) xss.length c2) ∧ w'.cell? ⟨b4, o4 + r, none⟩ = some (.int .i64 (ix (rx wss k) r))) (by kernel_rfl) (by kernel_rfl) (fun _ _ _ _ h => h) (by simp) rfl (by kernel_rfl) ⟨k0, k1, k2, k3, q1, q3, e1, e3, e2, e4⟩ ?_
            simp only [List.take_succ_cons, List.take_zero]
            repeat
              refine' stillS_cons _ (by rfl) ?_ ?_
              rotate_left 1
              · intro W hW
                try dsimp only at hW
                go_simp
                first | done | with_reducible rfl
              simp only [Act.put, List.setIfInBounds_toArray, List.set_cons_zero, List.set_cons_succ]
            refine stillS_nil ?_
            intro K hK
            go_simp
            refine (H67.out _).mono ?_
            rintro e w2 ⟨rfl, hb2⟩
            have r0 := cell_of_ans hb2 (p := ⟨w.heap.size, 0, none⟩) (v := .slice A xss.length c) k0
            have r1 := cell_of_ans hb2 (p := ⟨w.heap.size, 1, none⟩) (v := .int .i64 lo) k1
            have r2 := cell_of_ans hb2 (p := ⟨w.heap.size, 2, none⟩) (v := .int .i64 hi) k2
            have r3 := cell_of_ans hb2 (p := ⟨w.heap.size, 3, none⟩) (v := .int .i64 ca) k3
            have r4 := cell_of_ans hb2 (p := ⟨g, r, none⟩) (v := .slice (some ⟨gr, 0, none⟩) (rx xss 0).length cr) q1
            have r5 := cell_of_ans hb2 (p := ⟨gr, b, none⟩) (v := .int .i64 (o (r * 12 + b))) q3
            have r6 := cell_of_ans hb2 (p := ⟨b1, o1 + k, none⟩) (v := .slice (some ⟨b3, o3, none⟩) xss.length c1) e1
            have r7 := cell_of_ans hb2 (p := ⟨b3, o3 + r, none⟩) (v := .int .i64 (b : Int)) e3
            have r8 := cell_of_ans hb2 (p := ⟨b2, o2 + k, none⟩) (v := .slice (some ⟨b4, o4, none⟩) xss.length c2) e2
            have r9 := cell_of_ans hb2 (p := ⟨b4, o4 + r, none⟩) (v := .int .i64 (ix (rx wss k) r)) e4
            have g2 := (bcell hb2).2 gr b hgr
            simp only [World.frozen?_drew, q4] at g2
            have HB2 := Lib.hid hb2
            clear hb2
            go_simp
            refine hK.out _ _ ⟨r0, r1, r2, r3, r4, r5, r6, r7, r8, r9⟩ ?_
            clear hK
            simp only [List.drop_succ_cons, List.drop_zero]
            go_wp2_with fail
            refine NoPanic.normal ?_
            go_wp2_with fail
            go_roundw
            case rel =>
              have hstep : rollW ca (rx bss k) (fun r => ix (rx wss k) (r - 1)) (fun r => ix (rx wss k) r) (playO ca xss.length bss wss (oilOf xss) k) (List.range (r + 1)) = upd o (r * 12 + b) (wornF ca (o (r * 12 + b)) (ix (rx wss k) (r - 1)) (ix (rx wss k) r)) := by
                rw [List.range_succ, rollW_snoc, HT.out]
                simp only [stepW, hbe, Int.toNat_natCast]
                rw [if_pos h0]
              have hb3 := below_drew_l HB2.out
              refine ⟨r + 1, by omega, by go_num, ?_, ?_, (HBr.out.trans (hb3.mono HBr.out.size)).setCell (p := ⟨gr, b, none⟩) hgrb _⟩
              · rw [hstep]
                exact ((HRr.out.kept hb3).store h2 HQ2.out).congr fun j _ => rowOf_upd o hbn h12 _ j
              · rw [hstep]
                intro j
                simp only [upd]
                split
                · exact wornF_lvl _ _ _ _ (by omega)
                · exact HLr.out j
            case measure => simp [intOf]; omega
          · have h0i : ¬ (0 : Int) < (r : Int) := by omega
            have H67 := Lib.hid (fun W : World => worn_c (.slice A xss.length c) lo hi ca (o (r * 12 + b)) 0 (ix (rx wss k) r) W hca0 hca1 (by omega) (by omega) hLr.1 hLr.2 (by omega) (by omega))
            have HT := Lib.hid ho
            clear ho
            go_wp2_with fail
            refine wp_region_noPanic ?_
            refine region_call_tail 33 (fun w' => w'.cell? ⟨w.heap.size, 0, none⟩ = some (.slice A xss.length c) ∧ w'.cell? ⟨w.heap.size, 1, none⟩ = some (.int .i64 lo) ∧ w'.cell? ⟨w.heap.size, 2, none⟩ = some (.int .i64 hi) ∧ w'.cell? ⟨w.heap.size, 3, none⟩ = some (.int .i64 ca) ∧ w'.cell? ⟨g, r, none⟩ = some (.slice (some ⟨gr, 0, none⟩) (rx xss 0).length cr) ∧ w'.cell? ⟨gr, b, none⟩ = some (.int .i64 (o (r * 12 + b))) ∧ w'.cell? ⟨b1, o1 + k, none⟩ = some (.slice (some ⟨b3, o3, none⟩) xss.length c1) ∧ w'.cell? ⟨b3, o3 + r, none⟩ = some (.int .i64 (b : Int)) ∧ w'.cell? ⟨b2, o2 + k, none⟩ = some (.slice (some ⟨b4, o4, none⟩) xss.length c2) ∧ w'.cell? ⟨b4, o4 + r, none⟩ = some (.int .i64 (ix (rx wss k) r))) (by kernel_rfl) (by kernel_rfl) (fun _ _ _ _ h => h) (by simp) rfl (by kernel_rfl) ⟨k0, k1, k2, k3, q1, q3, e1, e3, e2, e4⟩ ?_
            simp only [List.take_succ_cons, List.take_zero]
            repeat
              refine' stillS_cons _ (by rfl) ?_ ?_
              rotate_left 1
              · intro W hW
                try dsimp only at hW
                go_simp
                first | done | with_reducible rfl
              simp only [Act.put, List.setIfInBounds_toArray, List.set_cons_zero, List.set_cons_succ]
            refine stillS_nil ?_
            intro K hK
            go_simp
            refine (H67.out _).mono ?_
            rintro e w2 ⟨rfl, hb2⟩
            have r0 := cell_of_ans hb2 (p := ⟨w.heap.size, 0, none⟩) (v := .slice A xss.length c) k0
            have r1 := cell_of_ans hb2 (p := ⟨w.heap.size, 1, none⟩) (v := .int .i64 lo) k1
            have r2 := cell_of_ans hb2 (p := ⟨w.heap.size, 2, none⟩) (v := .int .i64 hi) k2
            have r3 := cell_of_ans hb2 (p := ⟨w.heap.size, 3, none⟩) (v := .int .i64 ca) k3
            have r4 := cell_of_ans hb2 (p := ⟨g, r, none⟩) (v := .slice (some ⟨gr, 0, none⟩) (rx xss 0).length cr) q1
            have r5 := cell_of_ans hb2 (p := ⟨gr, b, none⟩) (v := .int .i64 (o (r * 12 + b))) q3
            have r6 := cell_of_ans hb2 (p := ⟨b1, o1 + k, none⟩) (v := .slice (some ⟨b3, o3, none⟩) xss.length c1) e1
            have r7 := cell_of_ans hb2 (p := ⟨b3, o3 + r, none⟩) (v := .int .i64 (b : Int)) e3
            have r8 := cell_of_ans hb2 (p := ⟨b2, o2 + k, none⟩) (v := .slice (some ⟨b4, o4, none⟩) xss.length c2) e2
            have r9 := cell_of_ans hb2 (p := ⟨b4, o4 + r, none⟩) (v := .int .i64 (ix (rx wss k) r)) e4
            have g2 := (bcell hb2).2 gr b hgr
            simp only [World.frozen?_drew, q4] at g2
            have HB2 := Lib.hid hb2
            clear hb2
            go_simp
            refine hK.out _ _ ⟨r0, r1, r2, r3, r4, r5, r6, r7, r8, r9⟩ ?_
            clear hK
            simp only [List.drop_succ_cons, List.drop_zero]
            go_wp2_with fail
            refine NoPanic.normal ?_
            go_wp2_with fail
            go_roundw
            case rel =>
              have hstep : rollW ca (rx bss k) (fun r => ix (rx wss k) (r - 1)) (fun r => ix (rx wss k) r) (playO ca xss.length bss wss (oilOf xss) k) (List.range (r + 1)) = upd o (r * 12 + b) (wornF ca (o (r * 12 + b)) 0 (ix (rx wss k) r)) := by
                rw [List.range_succ, rollW_snoc, HT.out]
                simp only [stepW, hbe, Int.toNat_natCast]
                rw [if_neg h0]
              have hb3 := below_drew_l HB2.out
              refine ⟨r + 1, by omega, by go_num, ?_, ?_, (HBr.out.trans (hb3.mono HBr.out.size)).setCell (p := ⟨gr, b, none⟩) hgrb _⟩
              · rw [hstep]
                exact ((HRr.out.kept hb3).store h2 HQ2.out).congr fun j _ => rowOf_upd o hbn h12 _ j
              · rw [hstep]
                intro j
                simp only [upd]
                split
                · exact wornF_lvl _ _ _ _ (by omega)
                · exact HLr.out j
            case measure => simp [intOf]; omega
        · obtain rfl : r = xss.length := by omega
          have HRr := Lib.hid hR
          have HLr := Lib.hid hL
          have HBr := Lib.hid hb
          clear hR hL hb
          go_wp2_with fail
          go_roundw
          case rel => exact ⟨k + 1, by omega, by go_num, by rw [playO_succ]; exact HRr.out, by rw [playO_succ]; exact HLr.out, HBr.out⟩
          case measure => simp [intOf]; omega
    · obtain rfl : k = bss.length := by omega
      have HRk := Lib.hid hR
      have HBk := Lib.hid hb
      clear hR hL hb
      go_wp2_with fail
      go_ret
      refine ⟨_, rfl, ?_, HW1.out.trans (HBk.out.mono HW1.out.size)⟩
      have := HRk.out
      have e := rowsOf_len (playO ca xss.length bss wss (oilOf xss) bss.length) (rx xss 0).length xss.length
      refine Rws.grd (base := W1.heap.size) (vs := vs) ?_
      rw [e]
      exact this.congr fun j hj => rx_rowsOf _ hj
end Go.Proofs.Ytgnonfomlgkpcaa
