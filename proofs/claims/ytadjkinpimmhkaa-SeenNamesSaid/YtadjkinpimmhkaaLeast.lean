/-
  The least list of tellers; who is alone to blame: the program's answers.
-/
import Derived.Test.YtadjkinpimmhkaaLists
namespace Go.Proofs.Ytadjkinpimmhkaa
open Go.RowKit
set_option linter.unusedSimpArgs false
set_option linter.unusedVariables false

/-- The first list that explains, shorter ones first. -/
def leastL (ex : (Nat → Bool) → Bool) : List Int := rx (lstM ex 0 ++ (lstM ex 1 ++ (lstM ex 2 ++ (lstM ex 3 ++ lstM ex 4)))) 0
theorem rx_app {a b : List (List Int)} (h : 0 < a.length) : rx (a ++ b) 0 = rx a 0 := by
  cases a with
  | nil => cases h
  | cons x l => rfl
theorem least_at {ex : (Nat → Bool) → Bool} {k : Nat} (hk : k ≤ 4) (h0 : ∀ j, j < k → (lstM ex j).length = 0) (h : 0 < (lstM ex k).length) : leastL ex = rx (lstM ex k) 0 := by
  unfold leastL
  have e : ∀ j, j < k → lstM ex j = [] := fun j hj => List.eq_nil_of_length_eq_zero (h0 j hj)
  rcases (by omega : k = 0 ∨ k = 1 ∨ k = 2 ∨ k = 3 ∨ k = 4) with rfl | rfl | rfl | rfl | rfl
  · rw [rx_app h]
  · rw [e 0 (by omega), List.nil_append, rx_app h]
  · rw [e 0 (by omega), e 1 (by omega), List.nil_append, List.nil_append, rx_app h]
  · rw [e 0 (by omega), e 1 (by omega), e 2 (by omega), List.nil_append, List.nil_append, List.nil_append, rx_app h]
  · rw [e 0 (by omega), e 1 (by omega), e 2 (by omega), e 3 (by omega), List.nil_append, List.nil_append, List.nil_append, List.nil_append]
theorem upTo_mem {f s : Nat} (h : f ≤ 10) (h2 : s ≤ f) : (f, s) ∈ upTo 11 0 := by
  simp [upTo, List.mem_flatMap]
  omega
theorem off_all {frn : Int} {x : Wd} (hw : wordB frn x = true) {o : Nat → Bool} (h : o 0 = true ∧ o 1 = true ∧ o 2 = true ∧ o 3 = true) : o x.te.toNat = true := by
  simp only [wordB, Bool.and_eq_true, inB_eq, decide_eq_true_eq] at hw
  obtain ⟨-, -, ⟨t0, t3⟩, -⟩ := hw
  obtain ⟨h0, h1, h2, h3⟩ := h
  rcases (by omega : x.te.toNat = 0 ∨ x.te.toNat = 1 ∨ x.te.toNat = 2 ∨ x.te.toNat = 3) with e | e | e | e <;> rw [e] <;> assumption
theorem ex_all {m : Nat} {ws : List Wd} (hok : ∀ k, k < ws.length → wordB (m : Int) (wx ws k) = true) {o : Nat → Bool} (h : o 0 = true ∧ o 1 = true ∧ o 2 = true ∧ o 3 = true) : explB (m : Int) ws o = true := by
  unfold explB
  refine allB_true fun f _ => decide_eq_true (List.length_pos_of_mem (a := (0, 0)) (List.mem_filter.2 ⟨upTo_mem (by omega) (by omega), allB_true fun k hk => ?_⟩))
  simp [okW, off_all (hok k hk) h]
theorem lstM_4 {ex : (Nat → Bool) → Bool} (h : ∀ o : Nat → Bool, o 0 = true ∧ o 1 = true ∧ o 2 = true ∧ o 3 = true → ex o = true) : 0 < (lstM ex 4).length := by
  simp only [lstM, lstF, lstL, List.length_nil, List.length_append, List.length_cons, List.append_nil]
  have := h (setO (setO (setO (setO (fun _ => false) 0) 1) 2) 3) ⟨by simp [setO], by simp [setO], by simp [setO], by simp [setO]⟩
  simp [lstL, this]
theorem lstM_1 (ex : (Nat → Bool) → Bool) : lstM ex 1 = ((List.range 4).filter fun k => ex (setO (fun _ => false) k)).map fun (k : Nat) => [(k : Int)] := by
  simp only [lstM, lstF, lstL, List.range_succ, List.range_zero]
  cases h0 : ex (setO (fun _ => false) 0) <;> cases h1 : ex (setO (fun _ => false) 1) <;> cases h2 : ex (setO (fun _ => false) 2) <;> cases h3 : ex (setO (fun _ => false) 3) <;> simp [lstL, h0, h1, h2, h3]
theorem Rws.row0 {base : Nat} {w : World} {v : Value} {n : Nat} {vs : List Value} {rows : Nat → List Int} (h : Rws base w v n vs rows) {j : Nat} (hj : j < n) :
    ∃ g c Au cu, v = .slice (some ⟨g, 0, none⟩) n c ∧ w.cell? ⟨g, j, none⟩ = some (.slice Au (rows j).length cu) ∧ OwnI base w (.slice Au (rows j).length cu) (rows j) := by
  obtain ⟨u, hu, ho, hne⟩ := h.2.1 j hj
  obtain ⟨Au, cu, rfl⟩ := ownsRow_form ho
  rcases h.1.2 with ⟨_, h2⟩ | ⟨g, cap, cur, hv, hb, hg, hn, hm, hs, ht⟩
  · omega
  · subst hv
    refine ⟨g, cap, Au, cu, rfl, ?_, ho⟩
    have := h.1.cells (g := g) rfl j _ hu
    rw [add_eq] at this
    simpa using this

theorem Known.noCell {w : World} {b n : Nat} {ex : (Nat → Bool) → Bool} (h : Known w b n ex) {p : Addr} {v : Value} (hc : w.cell? p = some v) : p.block ≠ b := fun e => by
  obtain ⟨D, ⟨es, cl, h1, _⟩, _⟩ := h
  subst e
  simp [World.cell?, h1] at hc
set_option maxRecDepth 100000 in
set_option maxHeartbeats 4000000 in
theorem least_bad (A : Option Addr) (ws : List Wd) (c : Nat) (frn : Int) (w : World) (hw : Wds w.heap.size w A ws) (hc : ws.length ≤ c ∧ c ≤ 9223372036854775807) (h : laneErr frn ws ≠ 0) :
    Calls Try.prog 34 #[.agg #[.int .i64 frn, .slice A ws.length c]] w (Ans w (.tuple #[.slice none 0 0, .int .i64 (laneErr frn ws)])) := by
  have hb0 : Below w.heap.size w (w.alloc (.cells #[.int .i64 frn, .slice A ws.length c] 32)) := (Below.refl _ _).alloc (Nat.le_refl _) _
  have HC := Lib.hid (watched_bad A ws c frn _ (hw.step hb0) hc h)
  have hne : (laneErr frn ws != 0) = true := by simp [h]
  generalize laneErr frn ws = er at HC hne ⊢
  have HB0 := Lib.hid hb0
  clear hb0 hw h
  go_enter Try.func34, Try.ntmps34
  go_wp2_with fail
  refine HC.out.mono ?_
  rintro e w1 ⟨rfl, hb1⟩
  have HB1 : Hid (Below w.heap.size w w1) := HB0.out.trans (hb1.mono HB0.out.size)
  clear hb1
  go_wp2_with fail
  go_ret2
  exact ⟨rfl, HB1.out⟩

def LeastPost (w : World) (xs : List Int) (e : Ending) (w' : World) : Prop := ∃ Ar cr, e = .returned (.tuple #[.slice Ar xs.length cr, .int .i64 0]) ∧ OwnI w.heap.size w' (.slice Ar xs.length cr) xs ∧ Below w.heap.size w w'
set_option maxRecDepth 100000 in
set_option maxHeartbeats 8000000 in
theorem least_ok (A : Option Addr) (ws : List Wd) (c : Nat) (frn : Int) (w : World) (hw : Wds w.heap.size w A ws) (hc : ws.length ≤ c ∧ c ≤ 9223372036854775807) (h : laneErr frn ws = 0) :
    Calls Try.prog 34 #[.agg #[.int .i64 frn, .slice A ws.length c]] w (LeastPost w (leastL (explB frn ws))) := by
  have hb0 : Below w.heap.size w (w.alloc (.cells #[.int .i64 frn, .slice A ws.length c] 32)) := (Below.refl _ _).alloc (Nat.le_refl _) _
  have HC := Lib.hid (watched_ok A ws c frn _ (hw.step hb0) hc h)
  obtain ⟨h30, hf1, hf5, hok⟩ := laneOk h
  obtain ⟨m, rfl⟩ : ∃ m : Nat, frn = (m : Int) := ⟨frn.toNat, by omega⟩
  have HB0 := Lib.hid hb0
  have HOK := Lib.hid hok
  have HE : Hid (∃ ex : (Nat → Bool) → Bool, ex = explB (m : Int) ws ∧ 0 < (lstM ex 4).length) := ⟨_, rfl, lstM_4 fun o ho => ex_all hok ho⟩
  have hm5 : m ≤ 5 := by omega
  clear hb0 hw h hok
  go_enter Try.func34, Try.ntmps34
  go_wp2_with fail
  generalize w.alloc (.cells #[.int .i64 (m : Int), .slice A ws.length c] 32) = W0 at HC HB0 ⊢
  refine HC.out.mono ?_
  rintro e w1 ⟨p, b, rfl, hp1, hp2, hb1, hWat, hbw⟩
  have HB1 : Hid (Below w.heap.size w w1) := HB0.out.trans (hbw.mono HB0.out.size)
  have hs0 := HB0.out.size
  have HW1 := Lib.hid hWat
  clear hWat hbw HC
  go_wp2_with fail
  go_loopw [16] (fun i wr => ∃ kk n' : Nat, kk ≤ 4 ∧ i = .int .i64 kk ∧ n' ≤ kk * 3125 ∧ Wat W0.heap.size wr p b n' (m : Int) A c ws ∧ Below w.heap.size w wr ∧ w1.heap.size ≤ wr.heap.size ∧ ∀ j, j < kk → (lstM (explB (m : Int) ws) j).length = 0) (fun i _ => 4 - (intOf i).toNat)
  case atStart => exact ⟨0, 0, by omega, rfl, by omega, HW1.out, HB1.out, Nat.le_refl _, fun j hj => by omega⟩
  case round =>
    obtain ⟨kk, n', hk4, rfl, hn', hW, hbr, hsz, hzero⟩ := hrel
    have HWr := Lib.hid hW
    have HBr := Lib.hid hbr
    have HZ := Lib.hid hzero
    have hWs := HW1.out.kn.lt
    have HL := Lib.hid (fun many (h4 : many ≤ 4) => lists_c (B := W0.heap.size) p b n' c m many A ws wr (by have := HBr.out.size; omega) (by omega) hb1 hW (by omega) HOK.out hm5 (by omega) h4)
    clear hW hbr hzero
    by_cases h1 : kk < 4
    · have h1i : (kk : Int) < 4 := by omega
      have HLk := Lib.hid (HL.out kk (by omega))
      generalize hrs : lstM (explB (m : Int) ws) kk = rs at HLk
      have HRS := Lib.hid hrs
      clear hrs
      go_wp2_with fail
      refine HLk.out.mono ?_
      rintro e w2 ⟨Ar, cr, vs, n2, rfl, hR, hn2, hW2, hg2⟩
      have HB2 : Hid (Below w.heap.size w w2) := HBr.out.grown hg2 HBr.out.size fun j e => by injection e with e; omega
      by_cases h2 : 0 < rs.length
      · have h2i : (0 : Int) < (rs.length : Int) := by omega
        obtain ⟨g, cg, Au, cu, hv, hcell, hO⟩ := hR.row0 h2
        injection hv with hv1 hv2 hv3
        subst hv1 hv3
        have HO := Lib.hid hO
        have HLE : Hid (leastL (explB (m : Int) ws) = rx rs 0) := by show _ = _; rw [← HRS.out]; exact least_at (by omega) HZ.out (by rw [HRS.out]; exact h2)
        generalize rx rs 0 = x0 at *
        clear hR hW2 hg2 hO
        go_wp2_with fail
        go_ret2
        refine ⟨Au, cu, by rw [HLE.out]; rfl, ?_, HB2.out⟩
        rw [HLE.out]
        exact ownsRow_base HO.out (by have := HBr.out.size; omega)
      · have h2i : ¬ (0 : Int) < (rs.length : Int) := by omega
        have HW2 := Lib.hid hW2
        have hz2 := hg2.size
        clear hR hW2 hg2
        go_wp2_with fail
        go_roundw
        case rel =>
          refine ⟨kk + 1, n2, by omega, by go_num, by omega, HW2.out, HB2.out, by omega, fun j hj => ?_⟩
          by_cases e : j = kk
          · subst e; rw [HRS.out]; omega
          · exact HZ.out j (by omega)
        case measure => simp [intOf]; omega
    · have h1i : ¬ (kk : Int) < 4 := by omega
      have HLk := Lib.hid (HL.out 4 (by omega))
      obtain rfl : kk = 4 := by omega
      have h2 : 0 < (lstM (explB (m : Int) ws) 4).length := by
        obtain ⟨ex, he, h⟩ := HE.out
        rw [← he]; exact h
      generalize hrs : lstM (explB (m : Int) ws) 4 = rs at HLk h2
      have HRS := Lib.hid hrs
      clear hrs
      go_wp2_with fail
      refine HLk.out.mono ?_
      rintro e w2 ⟨Ar, cr, vs, n2, rfl, hR, hn2, hW2, hg2⟩
      have HB2 : Hid (Below w.heap.size w w2) := HBr.out.grown hg2 HBr.out.size fun j e => by injection e with e; omega
      have h2i : (0 : Int) < (rs.length : Int) := by omega
      obtain ⟨g, cg, Au, cu, hv, hcell, hO⟩ := hR.row0 h2
      injection hv with hv1 hv2 hv3
      subst hv1 hv3
      have HO := Lib.hid hO
      have HLE : Hid (leastL (explB (m : Int) ws) = rx rs 0) := by show _ = _; rw [← HRS.out]; exact least_at (by omega) HZ.out (by rw [HRS.out]; exact h2)
      generalize rx rs 0 = x0 at *
      clear hR hW2 hg2 hO
      go_wp2_with fail
      go_ret2
      refine ⟨Au, cu, by rw [HLE.out]; rfl, ?_, HB2.out⟩
      rw [HLE.out]
      exact ownsRow_base HO.out (by have := HBr.out.size; omega)
theorem lstM_row {ex : (Nat → Bool) → Bool} (h : (lstM ex 1).length = 1) : (rx (lstM ex 1) 0).length = 1 := by
  have h1 : rx (lstM ex 1) 0 ∈ lstM ex 1 := by rw [rx_lt (by omega)]; exact List.getElem_mem _
  rw [lstM_1] at h1
  obtain ⟨k, _, e⟩ := List.mem_map.1 h1
  rw [lstM_1, ← e]
  rfl
/-- Who is alone to blame; the error, if nobody is. -/
def blameOk (ex : (Nat → Bool) → Bool) : Bool := !(ex fun _ => false) && decide ((lstM ex 1).length = 1)
def blameV (ex : (Nat → Bool) → Bool) : Int := if blameOk ex then ix (rx (lstM ex 1) 0) 0 else 0
def blameE (ex : (Nat → Bool) → Bool) : Int := if blameOk ex then 0 else 7

set_option maxRecDepth 100000 in
set_option maxHeartbeats 4000000 in
theorem blame_bad (A : Option Addr) (ws : List Wd) (c : Nat) (frn : Int) (w : World) (hw : Wds w.heap.size w A ws) (hc : ws.length ≤ c ∧ c ≤ 9223372036854775807) (h : laneErr frn ws ≠ 0) :
    Calls Try.prog 35 #[.agg #[.int .i64 frn, .slice A ws.length c]] w (Ans w (.tuple #[.int .i64 0, .int .i64 (laneErr frn ws)])) := by
  have hb0 : Below w.heap.size w (w.alloc (.cells #[.int .i64 frn, .slice A ws.length c] 32)) := (Below.refl _ _).alloc (Nat.le_refl _) _
  have HC := Lib.hid (watched_bad A ws c frn _ (hw.step hb0) hc h)
  have hne : (laneErr frn ws != 0) = true := by simp [h]
  generalize laneErr frn ws = er at HC hne ⊢
  have HB0 := Lib.hid hb0
  clear hb0 hw h
  go_enter Try.func35, Try.ntmps35
  go_wp2_with fail
  refine HC.out.mono ?_
  rintro e w1 ⟨rfl, hb1⟩
  have HB1 : Hid (Below w.heap.size w w1) := HB0.out.trans (hb1.mono HB0.out.size)
  clear hb1
  go_wp2_with fail
  go_ret2
  exact ⟨rfl, HB1.out⟩

set_option maxRecDepth 100000 in
set_option maxHeartbeats 8000000 in
theorem blame_ok (A : Option Addr) (ws : List Wd) (c : Nat) (frn : Int) (w : World) (hw : Wds w.heap.size w A ws) (hc : ws.length ≤ c ∧ c ≤ 9223372036854775807) (h : laneErr frn ws = 0) :
    Calls Try.prog 35 #[.agg #[.int .i64 frn, .slice A ws.length c]] w (Ans w (.tuple #[.int .i64 (blameV (explB frn ws)), .int .i64 (blameE (explB frn ws))])) := by
  have hb0 : Below w.heap.size w (w.alloc (.cells #[.int .i64 frn, .slice A ws.length c] 32)) := (Below.refl _ _).alloc (Nat.le_refl _) _
  have HC := Lib.hid (watched_ok A ws c frn _ (hw.step hb0) hc h)
  obtain ⟨h30, hf1, hf5, hok⟩ := laneOk h
  obtain ⟨m, rfl⟩ : ∃ m : Nat, frn = (m : Int) := ⟨frn.toNat, by omega⟩
  have HB0 := Lib.hid hb0
  have HOK := Lib.hid hok
  have hm5 : m ≤ 5 := by omega
  clear hb0 hw h hok
  go_enter Try.func35, Try.ntmps35
  go_wp2_with fail
  generalize w.alloc (.cells #[.int .i64 (m : Int), .slice A ws.length c] 32) = W0 at HC HB0 ⊢
  refine HC.out.mono ?_
  rintro e w1 ⟨p, b, rfl, hp1, hp2, hb1, hWat, hbw⟩
  have HB1 : Hid (Below w.heap.size w w1) := HB0.out.trans (hbw.mono HB0.out.size)
  have hs0 := HB0.out.size
  have hs1 := hbw.size
  have HLk := Lib.hid (lists_c (B := W0.heap.size) p b 0 c m 1 A ws w1 (by omega) (by omega) hb1 hWat (by omega) HOK.out hm5 (by omega) (by omega))
  have hpl := hWat.pb
  clear hWat hbw HC
  have HX : Hid (∃ ex, ex = explB (m : Int) ws) := ⟨_, rfl⟩
  generalize hrs : lstM (explB (m : Int) ws) 1 = rs at HLk
  have HRS := Lib.hid hrs
  clear hrs
  go_wp2_with fail
  refine HLk.out.mono ?_
  rintro e w2 ⟨Ar, cr, vs, n2, rfl, hR, hn2, hW2, hg2⟩
  have hz2 := hg2.size
  have HB2 : Hid (Below w.heap.size w w2) := HB1.out.grown hg2 HB1.out.size fun j e => by injection e with e; omega
  have HE := Lib.hid (explain_c (B := W0.heap.size) p b n2 c m (fun _ => false) A ws w2 (by omega) (by omega) hb1 hW2 (by omega) HOK.out hm5 (by omega))
  cases hex : explB (m : Int) ws fun _ => false
  · rw [hex] at HE
    have HEX := Lib.hid hex
    clear hex
    by_cases h2 : rs.length = 1
    · have h2b : ((rs.length : Int) != 1) = false := by simp; omega
      have hOK : blameOk (explB (m : Int) ws) = true := by simp [blameOk, HEX.out, HRS.out, h2]
      obtain ⟨g, cg, Au, cu, hv, hcell, hO⟩ := hR.row0 (j := 0) (by omega)
      have hl0 : (rx rs 0).length = 1 := by rw [← HRS.out]; exact lstM_row (by rw [HRS.out]; exact h2)
      obtain ⟨gu, cu2, hv2, hcell2⟩ : ∃ gu, ∃ _ : Nat, Au = some ⟨gu, 0, none⟩ ∧ w2.cell? ⟨gu, 0, none⟩ = some (.int .i64 (ix (rx rs 0) 0)) := by
        obtain ⟨h3, h4, hI⟩ := isInts_parts (ownsRow_isInts hO)
        rcases hO.2 with ⟨_, h5⟩ | ⟨g', cap', cur', hv', _⟩
        · omega
        · injection hv' with hv' _ _
          obtain ⟨b', off', hA, _, hc'⟩ := hI.at_ (k := 0) (by omega)
          rw [hv'] at hA
          injection hA with hA
          injection hA with hA1 hA2
          subst hA1 hA2
          exact ⟨_, 0, hv', by simpa using hc'⟩
      subst hv2
      rw [hl0] at hcell
      have hi1 : (0 : Int) < (rs.length : Int) := by omega
      injection hv with hv1 hv2 hv3
      subst hv1 hv3
      have HV : Hid (blameV (explB (m : Int) ws) = ix (rx rs 0) 0) := by show _ = _; simp [blameV, hOK, HRS.out]
      have HEE : Hid (blameE (explB (m : Int) ws) = 0) := by show _ = _; simp [blameE, hOK]
      have hgp : g < w2.heap.size := World.block_lt_of_cell? w2 _ hcell
      have hgup : gu < w2.heap.size := World.block_lt_of_cell? w2 _ hcell2
      have HNB : Hid (∀ i, i = g ∨ i = gu → i ≠ b) := by
        rintro i (rfl | rfl)
        · exact hW2.kn.noCell hcell
        · exact hW2.kn.noCell hcell2
      generalize ix (rx rs 0) 0 = y0 at *
      have HC1 := Lib.hid hcell
      clear hOK hR hW2 hg2 hO h2
      go_wp2_with fail
      refine HE.out.mono ?_
      rintro e w3 ⟨rfl, hW3, hg3⟩
      have d1 := cell_grown hg3 hcell (HNB.out g (.inl rfl))
      have d2 := cell_grown hg3 hcell2 (HNB.out gu (.inr rfl))
      have HB3 : Hid (Below w.heap.size w w3) := HB2.out.grown hg3 HB2.out.size fun j e => by injection e with e; omega
      clear hW3 hg3
      go_wp2_with fail
      go_ret2
      exact ⟨by rw [HV.out, HEE.out]; rfl, HB3.out⟩
    · have h2b : ((rs.length : Int) != 1) = true := by simp; omega
      have hOK : blameOk (explB (m : Int) ws) = false := by simp [blameOk, HEX.out, HRS.out, h2]
      have HV : Hid (blameV (explB (m : Int) ws) = 0) := by show _ = _; simp [blameV, hOK]
      have HEE : Hid (blameE (explB (m : Int) ws) = 7) := by show _ = _; simp [blameE, hOK]
      clear hOK hR hW2 hg2 h2
      go_wp2_with fail
      refine HE.out.mono ?_
      rintro e w3 ⟨rfl, hW3, hg3⟩
      have HB3 : Hid (Below w.heap.size w w3) := HB2.out.grown hg3 HB2.out.size fun j e => by injection e with e; omega
      clear hW3 hg3
      go_wp2_with fail
      go_ret2
      exact ⟨by rw [HV.out, HEE.out]; rfl, HB3.out⟩
  · rw [hex] at HE
    have hOK : blameOk (explB (m : Int) ws) = false := by simp [blameOk, hex]
    have HV : Hid (blameV (explB (m : Int) ws) = 0) := by show _ = _; simp [blameV, hOK]
    have HEE : Hid (blameE (explB (m : Int) ws) = 7) := by show _ = _; simp [blameE, hOK]
    clear hOK hR hW2 hg2 hex
    go_wp2_with fail
    refine HE.out.mono ?_
    rintro e w3 ⟨rfl, hW3, hg3⟩
    have HB3 : Hid (Below w.heap.size w w3) := HB2.out.grown hg3 HB2.out.size fun j e => by injection e with e; omega
    clear hW3 hg3
    go_wp2_with fail
    go_ret2
    exact ⟨by rw [HV.out, HEE.out]; rfl, HB3.out⟩
end Go.Proofs.Ytadjkinpimmhkaa
