/-
  A lane that is watched; with tellers; with tellers that explain its words.
-/
import Derived.Test.YtadjkinpimmhkaaExplain
import Derived.Test.YtadjkinpimmhkaaOwn
namespace Go.Proofs.Ytadjkinpimmhkaa
open Go.RowKit
set_option linter.unusedSimpArgs false
set_option linter.unusedVariables false

theorem laneOk {frn : Int} {ws : List Wd} (h : laneErr frn ws = 0) : ws.length ≤ 30 ∧ 1 ≤ frn ∧ frn ≤ 5 ∧ ∀ k, k < ws.length → wordB frn (wx ws k) = true := by
  unfold laneErr at h
  split at h
  · split at h
    · rename_i h1 h2
      rw [Bool.and_eq_true, inB_eq, allB_iff] at h2
      exact ⟨h1, h2.1.1, h2.1.2, h2.2⟩
    · cases h
  · cases h

/-- A new watch. -/
def WPost (w : World) (frn : Int) (A : Option Addr) (c : Nat) (ws : List Wd) (e : Ending) (w' : World) : Prop :=
  ∃ p b, e = .returned (.tuple #[.pointer (some ⟨p, 0, none⟩), .int .i64 0]) ∧ w.heap.size ≤ p ∧ p < w'.heap.size ∧ w.heap.size ≤ b ∧ Wat w.heap.size w' p b 0 frn A c ws ∧ Below w.heap.size w w'

set_option maxRecDepth 100000 in
set_option maxHeartbeats 4000000 in
theorem watched_ok (A : Option Addr) (ws : List Wd) (c : Nat) (frn : Int) (w : World) (hw : Wds w.heap.size w A ws) (hc : ws.length ≤ c ∧ c ≤ 9223372036854775807) (h : laneErr frn ws = 0) :
    Calls Try.prog 61 #[.agg #[.int .i64 frn, .slice A ws.length c]] w (WPost w frn A c ws) := by
  have hb0 : Below w.heap.size w (w.alloc (.cells #[.int .i64 frn, .slice A ws.length c] 32)) := (Below.refl _ _).alloc (Nat.le_refl _) _
  have k0 : (w.alloc (.cells #[.int .i64 frn, .slice A ws.length c] 32)).cell? ⟨w.heap.size, 0, none⟩ = some (.int .i64 frn) := by simp
  have k1 : (w.alloc (.cells #[.int .i64 frn, .slice A ws.length c] 32)).cell? ⟨w.heap.size, 1, none⟩ = some (.slice A ws.length c) := by simp
  have HC := Lib.hid (checkLane_c A ws c frn _ (Nat.le_refl _) (hw.step hb0) hc)
  rw [h] at HC
  have HB0 := Lib.hid hb0
  have HW := Lib.hid hw
  clear hb0 hw h
  go_enter Try.func61, Try.ntmps61
  go_wp2_with fail
  generalize w.alloc (.cells #[.int .i64 frn, .slice A ws.length c] 32) = W0 at k0 k1 HC HB0 ⊢
  refine HC.out.mono ?_
  rintro e w1 ⟨rfl, hb1⟩
  replace k0 := cell_of_ans hb1 k0
  replace k1 := cell_of_ans hb1 k1
  have HB1 : Hid (Below w.heap.size w w1) := HB0.out.trans (hb1.mono HB0.out.size)
  clear hb1
  have hmm := @run_makeMap Try.prog
  go_wp2_with fail
  go_ret2
  have hb := HB1.out
  have hz := hb.size
  have hb2 : Below w1.heap.size w1 (w1.alloc (.map #[] 0)) := (Below.refl _ _).alloc (Nat.le_refl _) _
  have hk := (Known.made w1 (explB frn ws)).step (w' := (w1.alloc (.map #[] 0)).alloc (.cells #[.int .i64 frn, .slice A ws.length c, .map (some w1.heap.size)] 99)) ((Below.refl _ _).alloc (Nat.le_refl _) _)
  have hb3 : Below w.heap.size w ((w1.alloc (.map #[] 0)).alloc (.cells #[.int .i64 frn, .slice A ws.length c, .map (some w1.heap.size)] 99)) := (hb.alloc hz _).alloc (by simp; omega) _
  refine ⟨w1.heap.size + 1, w1.heap.size, rfl, by omega, by simp, hz, ⟨?_, ?_, ?_, HW.out.below hb3, hk⟩, hb3⟩
  all_goals go_simp

set_option maxRecDepth 100000 in
set_option maxHeartbeats 4000000 in
theorem watched_bad (A : Option Addr) (ws : List Wd) (c : Nat) (frn : Int) (w : World) (hw : Wds w.heap.size w A ws) (hc : ws.length ≤ c ∧ c ≤ 9223372036854775807) (h : laneErr frn ws ≠ 0) :
    Calls Try.prog 61 #[.agg #[.int .i64 frn, .slice A ws.length c]] w (Ans w (.tuple #[.pointer none, .int .i64 (laneErr frn ws)])) := by
  have hb0 : Below w.heap.size w (w.alloc (.cells #[.int .i64 frn, .slice A ws.length c] 32)) := (Below.refl _ _).alloc (Nat.le_refl _) _
  have HC := Lib.hid (checkLane_c A ws c frn _ (Nat.le_refl _) (hw.step hb0) hc)
  have hne : (laneErr frn ws != 0) = true := by simp [h]
  generalize laneErr frn ws = er at HC hne ⊢
  have HB0 := Lib.hid hb0
  clear hb0 hw h
  go_enter Try.func61, Try.ntmps61
  go_wp2_with fail
  refine HC.out.mono ?_
  rintro e w1 ⟨rfl, hb1⟩
  have HB1 : Hid (Below w.heap.size w w1) := HB0.out.trans (hb1.mono HB0.out.size)
  clear hb1
  go_wp2_with fail
  go_ret2
  exact ⟨rfl, HB1.out⟩

/-- Are numbers those of tellers, rising? -/
noncomputable def riseB (ts : List Int) : Bool := allB ts.length fun k => inB (ix ts k) 0 3 && (decide (k = 0) || decide (ix ts (k - 1) < ix ts k))
/-- Is a teller in a list? -/
def offT (ts : List Int) (j : Nat) : Bool := ts.any fun t => t == (j : Int)
theorem offT_snoc (ts : List Int) (t : Int) (j : Nat) : offT (ts ++ [t]) j = (offT ts j || t == (j : Int)) := by simp [offT, List.any_append]
noncomputable def askErr (frn : Int) (ws : List Wd) (ts : List Int) : Int := if laneErr frn ws = 0 then (if riseB ts then 0 else 2) else laneErr frn ws

def B4 (w : World) (g : Nat) (o : Nat → Bool) : Prop := w.heap[g]? = some (.cells #[.bool (o 0), .bool (o 1), .bool (o 2), .bool (o 3)] 92 (0, 0))
theorem B4.lt {w : World} {g : Nat} {o : Nat → Bool} (h : B4 w g o) : g < w.heap.size := (Array.getElem?_eq_some_iff.1 h).1
theorem B4.cells {w : World} {g : Nat} {o : Nat → Bool} (h : B4 w g o) : w.cell? ⟨g, 0, none⟩ = some (.bool (o 0)) ∧ w.cell? ⟨g, 1, none⟩ = some (.bool (o 1)) ∧ w.cell? ⟨g, 2, none⟩ = some (.bool (o 2)) ∧ w.cell? ⟨g, 3, none⟩ = some (.bool (o 3)) ∧ ∀ j, w.frozen? ⟨g, j, none⟩ = false := by
  unfold B4 at h
  simp [World.cell?, World.frozen?, h]
theorem B4.cell {w : World} {g : Nat} {o : Nat → Bool} (h : B4 w g o) {j : Nat} (hj : j < 4) : w.cell? ⟨g, j, none⟩ = some (.bool (o j)) := by
  obtain ⟨h0, h1, h2, h3, -⟩ := h.cells
  rcases (by omega : j = 0 ∨ j = 1 ∨ j = 2 ∨ j = 3) with rfl | rfl | rfl | rfl <;> assumption
theorem B4.below {w w' : World} {g : Nat} {o : Nat → Bool} (h : B4 w g o) (hb : Below w.heap.size w w') : B4 w' g o := (hb.block g h.lt).trans h
theorem B4.set {w : World} {g : Nat} {o : Nat → Bool} (h : B4 w g o) {n : Nat} (hn : n < 4) (o' : Nat → Bool) (ho : ∀ j, j < 4 → o' j = if j = n then true else o j) : B4 (w.setCell ⟨g, n, none⟩ (.bool true)) g o' := by
  unfold B4 at h ⊢
  rw [ho 0 (by omega), ho 1 (by omega), ho 2 (by omega), ho 3 (by omega)]
  rcases (by omega : n = 0 ∨ n = 1 ∨ n = 2 ∨ n = 3) with rfl | rfl | rfl | rfl <;> simp [World.setCell, Array.getElem?_modify, h]
theorem B4.same {w : World} {g : Nat} {o : Nat → Bool} (h : B4 w g o) : w.setCell ⟨g, 0, none⟩ (.bool (o 0)) = w ∧ w.setCell ⟨g, 1, none⟩ (.bool (o 1)) = w ∧ w.setCell ⟨g, 2, none⟩ (.bool (o 2)) = w ∧ w.setCell ⟨g, 3, none⟩ (.bool (o 3)) = w :=
  ⟨set_same h rfl, set_same h rfl, set_same h rfl, set_same h rfl⟩
theorem B4.all {w : World} {g : Nat} {o : Nat → Bool} (h : B4 w g o) (o' : Nat → Bool) : B4 ((((w.setCell ⟨g, 0, none⟩ (.bool (o' 0))).setCell ⟨g, 1, none⟩ (.bool (o' 1))).setCell ⟨g, 2, none⟩ (.bool (o' 2))).setCell ⟨g, 3, none⟩ (.bool (o' 3))) g o' := by
  unfold B4 at h ⊢
  simp [World.setCell, Array.getElem?_modify, h]
theorem sets_grown (w : World) (g : Nat) (a b c d : Value) : w.grownBy ((((w.setCell ⟨g, 0, none⟩ a).setCell ⟨g, 1, none⟩ b).setCell ⟨g, 2, none⟩ c).setCell ⟨g, 3, none⟩ d) (some g) :=
  only_setCell (only_setCell (only_setCell (only_setCell (World.grownBy.refl w (some g)) (.inl rfl) _) (.inl rfl) _) (.inl rfl) _) (.inl rfl) _
theorem Wat.grown {B : Nat} {w w' : World} {p b n g : Nat} {frn : Int} {A : Option Addr} {c : Nat} {ws : List Wd} (h : Wat B w p b n frn A c ws) (hg : w.grownBy w' (some g)) (h1 : p ≠ g) (h2 : b ≠ g) (h3 : B ≤ g) : Wat B w' p b n frn A c ws :=
  ⟨cell_grown hg h.cn h1, cell_grown hg h.cl h1, cell_grown hg h.cm h1, h.wd.grown hg h3, h.kn.kept hg (by simpa using h2)⟩
theorem below_drew_r (X : World) : Below X.heap.size X X.drew := (Below.refl _ _).drew
theorem B4.new (w : World) (a b c d : Bool) (o : Nat → Bool) (h : o 0 = a ∧ o 1 = b ∧ o 2 = c ∧ o 3 = d) : B4 (w.alloc (.cells #[.bool a, .bool b, .bool c, .bool d] 92)) w.heap.size o := by
  obtain ⟨rfl, rfl, rfl, rfl⟩ := h
  exact World.alloc_heap_new _ _

def APost (w : World) (frn : Int) (A : Option Addr) (c : Nat) (ws : List Wd) (o : Nat → Bool) (e : Ending) (w' : World) : Prop :=
  ∃ p b, e = .returned (.tuple #[.pointer (some ⟨p, 0, none⟩), .agg #[.bool (o 0), .bool (o 1), .bool (o 2), .bool (o 3)], .int .i64 0]) ∧ w.heap.size ≤ p ∧ p < w'.heap.size ∧ w.heap.size ≤ b ∧ Wat w.heap.size w' p b 0 frn A c ws ∧ Below w.heap.size w w'

set_option maxRecDepth 100000 in
set_option maxHeartbeats 8000000 in
theorem asked_lane (A At : Option Addr) (ws : List Wd) (ts : List Int) (c ct : Nat) (frn : Int) (w : World) (hw : Wds w.heap.size w A ws) (_ht : Ints w.heap.size w At ts) (hc : ws.length ≤ c ∧ c ≤ 9223372036854775807) (_hct : ts.length ≤ ct ∧ ct ≤ 9223372036854775807) (h : laneErr frn ws ≠ 0) :
    Calls Try.prog 54 #[.agg #[.int .i64 frn, .slice A ws.length c], .slice At ts.length ct] w (Ans w (.tuple #[.pointer none, .agg #[.bool false, .bool false, .bool false, .bool false], .int .i64 (laneErr frn ws)])) := by
  have hb0 : Below w.heap.size w ((w.alloc (.cells #[.int .i64 frn, .slice A ws.length c] 32)).alloc (.cells #[.bool false, .bool false, .bool false, .bool false] 92)) := ((Below.refl _ _).alloc (Nat.le_refl _) _).alloc (by simp) _
  have k0 : ((w.alloc (.cells #[.int .i64 frn, .slice A ws.length c] 32)).alloc (.cells #[.bool false, .bool false, .bool false, .bool false] 92)).cell? ⟨w.heap.size, 0, none⟩ = some (.int .i64 frn) := by go_simp
  have k1 : ((w.alloc (.cells #[.int .i64 frn, .slice A ws.length c] 32)).alloc (.cells #[.bool false, .bool false, .bool false, .bool false] 92)).cell? ⟨w.heap.size, 1, none⟩ = some (.slice A ws.length c) := by go_simp
  have hZ : B4 ((w.alloc (.cells #[.int .i64 frn, .slice A ws.length c] 32)).alloc (.cells #[.bool false, .bool false, .bool false, .bool false] 92)) (w.heap.size + 1) (fun _ => false) := by
    have := B4.new (w.alloc (.cells #[.int .i64 frn, .slice A ws.length c] 32)) false false false false (fun _ => false) ⟨rfl, rfl, rfl, rfl⟩
    rwa [World.size_alloc] at this
  have HC := Lib.hid (watched_bad A ws c frn _ (hw.step hb0) hc h)
  have hne : (laneErr frn ws != 0) = true := by simp [h]
  generalize laneErr frn ws = er at HC hne ⊢
  have HB0 := Lib.hid hb0
  have HZ := Lib.hid hZ
  clear hb0 hw h hZ
  go_enter Try.func54, Try.ntmps54
  go_wp2_with fail
  generalize ((w.alloc (.cells #[.int .i64 frn, .slice A ws.length c] 32)).alloc (.cells #[.bool false, .bool false, .bool false, .bool false] 92)) = W0 at k0 k1 HC HB0 HZ ⊢
  refine HC.out.mono ?_
  rintro e w1 ⟨rfl, hb1⟩
  have HZ1 := Lib.hid (HZ.out.below hb1)
  have HB1 : Hid (Below w.heap.size w w1) := HB0.out.trans (hb1.mono HB0.out.size)
  clear hb1
  obtain ⟨c0, c1, c2, c3, c4⟩ := HZ1.out.cells
  have f0 := c4 0
  have f1 := c4 1
  have f2 := c4 2
  have f3 := c4 3
  clear c4
  obtain ⟨v1, v2, v3, v4⟩ := HZ1.out.same
  go_wp2_with fail
  exact bodyPost_ret (v := .tuple #[.pointer none, .agg #[.bool false, .bool false, .bool false, .bool false], .int .i64 er]) (by simp [results, Try.results54, go_sem, c0, c1, c2, c3]) rfl ⟨rfl, HB1.out⟩

theorem take_snoc {xs : List Int} {k : Nat} (h : k < xs.length) : xs.take (k + 1) = xs.take k ++ [ix xs k] := by rw [List.take_succ_eq_append_getElem h, ix_lt h]
theorem rise_no {ts : List Int} {k : Nat} (h : k < ts.length) (hk : (inB (ix ts k) 0 3 && (decide (k = 0) || decide (ix ts (k - 1) < ix ts k))) = false) : riseB ts = false := allB_false h hk

set_option maxRecDepth 100000 in
set_option maxHeartbeats 8000000 in
theorem asked_core (A At : Option Addr) (ws : List Wd) (ts : List Int) (c ct : Nat) (frn : Int) (w : World) (hw : Wds w.heap.size w A ws) (ht : Ints w.heap.size w At ts) (hc : ws.length ≤ c ∧ c ≤ 9223372036854775807) (hct : ts.length ≤ ct ∧ ct ≤ 9223372036854775807) (h : laneErr frn ws = 0) :
    Calls Try.prog 54 #[.agg #[.int .i64 frn, .slice A ws.length c], .slice At ts.length ct] w fun e w' => (riseB ts = false ∧ Ans w (.tuple #[.pointer none, .agg #[.bool false, .bool false, .bool false, .bool false], .int .i64 2]) e w') ∨ (riseB ts = true ∧ APost w frn A c ws (offT ts) e w') := by
  have hb0 : Below w.heap.size w ((w.alloc (.cells #[.int .i64 frn, .slice A ws.length c] 32)).alloc (.cells #[.bool false, .bool false, .bool false, .bool false] 92)) := ((Below.refl _ _).alloc (Nat.le_refl _) _).alloc (by simp) _
  have k0 : ((w.alloc (.cells #[.int .i64 frn, .slice A ws.length c] 32)).alloc (.cells #[.bool false, .bool false, .bool false, .bool false] 92)).cell? ⟨w.heap.size, 0, none⟩ = some (.int .i64 frn) := by go_simp
  have k1 : ((w.alloc (.cells #[.int .i64 frn, .slice A ws.length c] 32)).alloc (.cells #[.bool false, .bool false, .bool false, .bool false] 92)).cell? ⟨w.heap.size, 1, none⟩ = some (.slice A ws.length c) := by go_simp
  have hZ : B4 ((w.alloc (.cells #[.int .i64 frn, .slice A ws.length c] 32)).alloc (.cells #[.bool false, .bool false, .bool false, .bool false] 92)) (w.heap.size + 1) (fun _ => false) := by
    have := B4.new (w.alloc (.cells #[.int .i64 frn, .slice A ws.length c] 32)) false false false false (fun _ => false) ⟨rfl, rfl, rfl, rfl⟩
    rwa [World.size_alloc] at this
  have HC := Lib.hid (watched_ok A ws c frn _ (hw.step hb0) hc h)
  have HB0 := Lib.hid hb0
  have HZ := Lib.hid hZ
  have HT := Lib.hid (ht.step hb0)
  have HWD := Lib.hid hw
  clear hb0 hw hZ ht
  go_enter Try.func54, Try.ntmps54
  go_wp2_with fail
  generalize ((w.alloc (.cells #[.int .i64 frn, .slice A ws.length c] 32)).alloc (.cells #[.bool false, .bool false, .bool false, .bool false] 92)) = W0 at k0 k1 HC HB0 HZ HT ⊢
  refine HC.out.mono ?_
  rintro e w1 ⟨p, b, rfl, hp1, hp2, hb1, hWat, hbw⟩
  have HZ1 := Lib.hid (HZ.out.below hbw)
  have HT1 := Lib.hid (HT.out.step hbw)
  have HB1 : Hid (Below w.heap.size w w1) := HB0.out.trans (hbw.mono HB0.out.size)
  have HWA := Lib.hid hWat
  have hs1 := hbw.size
  have hs0 := HB0.out.size
  have hB1s := HB1.out.size
  have hsz := HZ.out.lt
  clear hbw hWat HZ HT HC
  go_wp2_with fail
  have hb2 : Below w1.heap.size w1 (w1.alloc (.cells #[.bool false, .bool false, .bool false, .bool false] 92)) := (Below.refl _ _).alloc (Nat.le_refl _) _
  have HO : Hid (B4 (w1.alloc (.cells #[.bool false, .bool false, .bool false, .bool false] 92)) w1.heap.size (offT (ts.take 0))) := B4.new w1 false false false false _ ⟨rfl, rfl, rfl, rfl⟩
  have HB2 := Lib.hid hb2
  have hz2 : w1.heap.size < (w1.alloc (.cells #[.bool false, .bool false, .bool false, .bool false] 92)).heap.size := by simp
  clear hb2
  generalize hW2 : w1.alloc (.cells #[.bool false, .bool false, .bool false, .bool false] 92) = W2 at HO HB2 hz2 ⊢
  clear hW2
  obtain ⟨g, hg⟩ : ∃ g, g = w1.heap.size := ⟨_, rfl⟩
  have HB2' : Hid (Below g w1 W2) := by rw [hg]; exact HB2.out
  have hgz : g < W2.heap.size := by omega
  have hgw : w1.heap.size ≤ g := by omega
  rw [← hg] at HO ⊢
  clear hg hz2 HB2
  go_loopw [23] (fun i wr => ∃ k : Nat, k ≤ ts.length ∧ i = .int .i64 k ∧ AllB k (fun k => inB (ix ts k) 0 3 && (decide (k = 0) || decide (ix ts (k - 1) < ix ts k))) ∧ B4 wr g (offT (ts.take k)) ∧ Below g w1 wr) (fun i _ => ts.length - (intOf i).toNat)
  case atStart => exact ⟨0, by omega, rfl, fun j hj => by omega, HO.out, HB2'.out⟩
  case round =>
    obtain ⟨k, hk, rfl, hAll, hO, hbr⟩ := hrel
    have HALL := Lib.hid hAll
    have HOr := Lib.hid hO
    have HBr := Lib.hid hbr
    have HZr := Lib.hid (HZ1.out.below (hbr.mono hgw))
    have hzr := hbr.size
    clear hAll hO hbr
    by_cases h1 : k < ts.length
    · obtain ⟨bt, ot, rfl, hbt, hct0⟩ := HT1.out.at_ h1
      have hct1 : wr.cell? ⟨bt, ot + k, none⟩ = some (.int .i64 (ix ts k)) := ((HBr.out.mono hgw).cell (p := ⟨bt, ot + k, none⟩) hbt).trans hct0
      clear hct0
      obtain ⟨c0, c1, c2, c3, c4⟩ := HZr.out.cells
      have f0 := c4 0
      have f1 := c4 1
      have f2 := c4 2
      have f3 := c4 3
      obtain ⟨v1, v2, v3, v4⟩ := HZr.out.same
      clear c4
      have hki : (k : Int) < (ts.length : Int) := by omega
      cases t1 : inB (ix ts k) 0 3
      · have HNO := Lib.hid (rise_no h1 (show (inB (ix ts k) 0 3 && _) = false by rw [t1]; rfl))
        go_wp2_with (go_at_call 51; refine (within_c _ _ _ _).mono ?_; rintro e w3 ⟨rfl, rfl⟩)
        exact bodyPost_ret (v := .tuple #[.pointer none, .agg #[.bool false, .bool false, .bool false, .bool false], .int .i64 2]) (by simp [results, Try.results54, go_sem, c0, c1, c2, c3]) rfl (.inl ⟨HNO.out, rfl, HB1.out.trans (HBr.out.mono (by omega))⟩)
      · obtain ⟨ht0, ht3⟩ := (inB_eq _ _ _).1 t1
        have HT1' := Lib.hid t1
        obtain ⟨tn, htn⟩ : ∃ tn : Nat, ix ts k = (tn : Int) := ⟨(ix ts k).toNat, by omega⟩
        have HTN := Lib.hid htn
        rw [htn] at hct1 ht3 ht0 t1
        have htn4 : tn < 4 := by omega
        have htni : (tn : Int) < 4 := by omega
        have hgf := HOr.out.cells.2.2.2.2 tn
        have hgc := HOr.out.cell htn4
        have hgw2 : g < wr.heap.size := HOr.out.lt
        clear htn
        by_cases hk0 : k = 0
        · have HY : Hid ((inB (ix ts k) 0 3 && (decide (k = 0) || decide (ix ts (k - 1) < ix ts k))) = true) := by show _ = _; rw [HT1'.out, hk0]; rfl
          have hk0i : ¬ (0 : Int) < (k : Int) := by omega
          clear hk0
          go_wp2_with (go_at_call 51; refine (within_c _ _ _ _).mono ?_; rintro e w3 ⟨rfl, rfl⟩)
          go_roundw
          case rel =>
            have hst : B4 (wr.setCell ⟨g, tn, none⟩ (.bool true)) g (offT (ts.take (k + 1))) := HOr.out.set (by omega) _ (fun j _ => by
              rw [take_snoc h1, offT_snoc, HTN.out]
              by_cases e : j = tn
              · subst e; simp
              · rw [if_neg e, show ((tn : Int) == (j : Int)) = false by simp; omega, Bool.or_false])
            exact ⟨k + 1, by omega, by go_num, HALL.out.succ HY.out, hst, HBr.out.setCell (by dsimp only; omega) _⟩
          case measure => simp [intOf]; omega
        · have hct2 : wr.cell? ⟨bt, ot + (k - 1), none⟩ = some (.int .i64 (ix ts (k - 1))) := by
            obtain ⟨bt', ot', hA, _, hx⟩ := HT1.out.at_ (k := k - 1) (by omega)
            injection hA with hA
            injection hA with hA1 hA2
            subst hA1 hA2
            exact ((HBr.out.mono hgw).cell (p := ⟨bt, ot + (k - 1), none⟩) hbt).trans hx
          have hk0i : (0 : Int) < (k : Int) := by omega
          have hk1i : (0 : Int) ≤ (k : Int) - 1 := by omega
          have hk2i : (k : Int) - 1 < (ts.length : Int) := by omega
          by_cases hle : (tn : Int) ≤ ix ts (k - 1)
          · have HNO := Lib.hid (rise_no h1 (show (inB (ix ts k) 0 3 && (decide (k = 0) || decide (ix ts (k - 1) < ix ts k))) = false by rw [decide_eq_false hk0, HTN.out, decide_eq_false (show ¬ ix ts (k - 1) < (tn : Int) by omega)]; simp))
            generalize ix ts (k - 1) = tp at hct2 hle
            clear hk0
            go_wp2_with (go_at_call 51; refine (within_c _ _ _ _).mono ?_; rintro e w3 ⟨rfl, rfl⟩)
            exact bodyPost_ret (v := .tuple #[.pointer none, .agg #[.bool false, .bool false, .bool false, .bool false], .int .i64 2]) (by simp [results, Try.results54, go_sem, c0, c1, c2, c3]) rfl (.inl ⟨HNO.out, rfl, HB1.out.trans (HBr.out.mono (by omega))⟩)
          · have HY : Hid ((inB (ix ts k) 0 3 && (decide (k = 0) || decide (ix ts (k - 1) < ix ts k))) = true) := by show _ = _; rw [HT1'.out, decide_eq_false hk0, HTN.out, decide_eq_true (show ix ts (k - 1) < (tn : Int) by omega)]; rfl
            generalize ix ts (k - 1) = tp at hct2 hle
            clear hk0
            go_wp2_with (go_at_call 51; refine (within_c _ _ _ _).mono ?_; rintro e w3 ⟨rfl, rfl⟩)
            go_roundw
            case rel =>
              have hst : B4 (wr.setCell ⟨g, tn, none⟩ (.bool true)) g (offT (ts.take (k + 1))) := HOr.out.set (by omega) _ (fun j _ => by
                rw [take_snoc h1, offT_snoc, HTN.out]
                by_cases e : j = tn
                · subst e; simp
                · rw [if_neg e, show ((tn : Int) == (j : Int)) = false by simp; omega, Bool.or_false])
              exact ⟨k + 1, by omega, by go_num, HALL.out.succ HY.out, hst, HBr.out.setCell (by dsimp only; omega) _⟩
            case measure => simp [intOf]; omega
    · obtain rfl : k = ts.length := by omega
      have HY : Hid (riseB ts = true) := allB_true HALL.out
      have HOe : Hid (B4 wr g (offT ts)) := by have := HOr.out; rwa [List.take_length] at this
      have HKW := Lib.hid (HWA.out.step (HBr.out.mono hgw) hs1)
      obtain ⟨d0, d1, d2, d3, d4⟩ := HOe.out.cells
      obtain ⟨c0, c1, c2, c3, c4⟩ := HZr.out.cells
      have f0 := c4 0
      have f1 := c4 1
      have f2 := c4 2
      have f3 := c4 3
      have hgz1 : g ≠ w.heap.size + 1 := by omega
      have hgz2 : w.heap.size + 1 ≠ g := by omega
      have hgz3 := HZr.out.lt
      clear c4 d4 HOr
      obtain ⟨o, ho⟩ : ∃ o, offT ts = o := ⟨_, rfl⟩
      rw [ho] at HOe d0 d1 d2 d3
      have HOQ := Lib.hid ho
      clear ho
      go_wp2_with fail
      go_region_held3 (fun w' => w'.cell? ⟨g, 0, none⟩ = some (.bool (o 0)) ∧ w'.cell? ⟨g, 1, none⟩ = some (.bool (o 1)) ∧ w'.cell? ⟨g, 2, none⟩ = some (.bool (o 2)) ∧ w'.cell? ⟨g, 3, none⟩ = some (.bool (o 3))) (go_keep) (first | fail)
      go_wp2_with fail
      have hb : Below w.heap.size w wr := HB1.out.trans (HBr.out.mono (by omega))
      have hgr := sets_grown wr (w.heap.size + 1) (.bool (o 0)) (.bool (o 1)) (.bool (o 2)) (.bool (o 3))
      have hbf := hb.grown hgr hb.size (fun j e => by injection e with e; subst e; omega)
      have hst := HZr.out.all o
      have hk1 := HKW.out
      have hpz := World.block_lt_of_cell? wr _ hk1.cn
      dsimp only at hpz
      have hk2 : Wat w.heap.size wr p b 0 frn A c ws := ⟨hk1.cn, hk1.cl, hk1.cm, HWD.out.below hb, hk1.kn⟩
      have hk3 := hk2.grown hgr (by omega) (by omega) (by omega)
      obtain ⟨e0, e1, e2, e3, -⟩ := hst.cells
      have hsf := hgr.size
      exact bodyPost_ret (v := .tuple #[.pointer (some ⟨p, 0, none⟩), .agg #[.bool (o 0), .bool (o 1), .bool (o 2), .bool (o 3)], .int .i64 0]) (by simp [results, Try.results54, go_sem, e0, e1, e2, e3]) rfl (.inr ⟨HY.out, by rw [HOQ.out]; exact ⟨p, b, rfl, by omega, Nat.lt_of_lt_of_le hpz hsf, by omega, hk3.step (below_drew_r _) hbf.size, hbf.drew⟩⟩)

section
variable (A At : Option Addr) (ws : List Wd) (ts : List Int) (c ct : Nat) (frn : Int) (w : World) (hw : Wds w.heap.size w A ws) (ht : Ints w.heap.size w At ts) (hc : ws.length ≤ c ∧ c ≤ 9223372036854775807) (hct : ts.length ≤ ct ∧ ct ≤ 9223372036854775807)
include hw ht hc hct
theorem asked_ok (h : askErr frn ws ts = 0) : Calls Try.prog 54 #[.agg #[.int .i64 frn, .slice A ws.length c], .slice At ts.length ct] w (APost w frn A c ws (offT ts)) := by
  unfold askErr at h
  by_cases hl : laneErr frn ws = 0
  · rw [if_pos hl] at h
    refine (asked_core A At ws ts c ct frn w hw ht hc hct hl).mono fun e w' h' => ?_
    rcases h' with ⟨h1, _⟩ | ⟨_, h2⟩
    · rw [h1] at h; cases h
    · exact h2
  · rw [if_neg hl] at h
    exact absurd h hl
theorem asked_bad (h : askErr frn ws ts ≠ 0) : Calls Try.prog 54 #[.agg #[.int .i64 frn, .slice A ws.length c], .slice At ts.length ct] w (Ans w (.tuple #[.pointer none, .agg #[.bool false, .bool false, .bool false, .bool false], .int .i64 (askErr frn ws ts)])) := by
  by_cases hl : laneErr frn ws = 0
  · have e : askErr frn ws ts = if riseB ts then 0 else 2 := by unfold askErr; rw [if_pos hl]
    rw [e] at h ⊢
    refine (asked_core A At ws ts c ct frn w hw ht hc hct hl).mono fun e w' h' => ?_
    rcases h' with ⟨h1, h2⟩ | ⟨h1, _⟩
    · rw [h1]; exact h2
    · rw [h1] at h; exact absurd rfl h
  · have e : askErr frn ws ts = laneErr frn ws := by unfold askErr; rw [if_neg hl]
    rw [e]
    exact asked_lane A At ws ts c ct frn w hw ht hc hct hl
end
theorem askOk {frn : Int} {ws : List Wd} {ts : List Int} (h : askErr frn ws ts = 0) : laneErr frn ws = 0 ∧ riseB ts = true := by
  unfold askErr at h
  by_cases hl : laneErr frn ws = 0
  · rw [if_pos hl] at h
    refine ⟨hl, ?_⟩
    cases hr : riseB ts
    · rw [hr] at h; cases h
    · rfl
  · rw [if_neg hl] at h
    exact absurd h hl
end Go.Proofs.Ytadjkinpimmhkaa
