/-
  Do tellers explain the words of a lane?
-/
import Derived.Test.YtadjkinpimmhkaaFrame
import Derived.Test.YtadjkinpimmhkaaMap
import Derived.StillTailTactics
namespace Go.Proofs.Ytadjkinpimmhkaa
open Go.RowKit
set_option linter.unusedSimpArgs false
set_option linter.unusedVariables false

theorem still_tail {id : Nat} {P : Program} {Q : Exit → Act → World → Prop} {a : Act} {w : World} {l : List Oper} (n : Nat) (hm : P.follows .mixedOrders = true) (hB : Region.lexTailB .any l.toArray n = true)
    (h : wpStill P l.toArray w.drew (fun a' => wpList P l.toArray Q (l.drop n) a' w.drew) (l.take n) a) : (Code.region id l.toArray true).wp P Q a w := wp_region_still_tail n hm hB h

noncomputable def explB (frn : Int) (ws : List Wd) (o : Nat → Bool) : Bool := allB frn.toNat fun f => decide (0 < (gamesL ws (f : Int) o).length)

theorem gamesL_congr {frn : Int} {ws : List Wd} (hok : ∀ k, k < ws.length → wordB frn (wx ws k) = true) {o o' : Nat → Bool} (h : o' 0 = o 0 ∧ o' 1 = o 1 ∧ o' 2 = o 2 ∧ o' 3 = o 3) (f : Int) : gamesL ws f o' = gamesL ws f o := by
  have e : okB ws f o' = okB ws f o := by
    funext p
    unfold okB
    have : ∀ k, k < ws.length → okW f o' (wx ws k) p.1 p.2 = okW f o (wx ws k) p.1 p.2 := fun k hk => by
      have hw := hok k hk
      simp only [wordB, Bool.and_eq_true, inB_eq, decide_eq_true_eq] at hw
      obtain ⟨-, -, ⟨t0, t3⟩, -⟩ := hw
      unfold okW
      have : o' (wx ws k).te.toNat = o (wx ws k).te.toNat := by
        obtain ⟨h0, h1, h2, h3⟩ := h
        rcases (by omega : (wx ws k).te.toNat = 0 ∨ (wx ws k).te.toNat = 1 ∨ (wx ws k).te.toNat = 2 ∨ (wx ws k).te.toNat = 3) with e | e | e | e <;> rw [e] <;> assumption
      rw [this]
    cases hb : allB ws.length fun k => okW f o (wx ws k) p.1 p.2
    · refine Bool.eq_false_iff.2 fun h2 => ?_
      rw [allB_iff] at h2
      have : allB ws.length (fun k => okW f o (wx ws k) p.1 p.2) = true := allB_iff.2 fun k hk => by have h3 : okW f o' (wx ws k) p.1 p.2 = true := h2 k hk; rwa [this k hk] at h3
      rw [this] at hb
      cases hb
    · rw [allB_iff] at hb ⊢
      exact fun k hk => by have h3 : okW f o (wx ws k) p.1 p.2 = true := hb k hk; rwa [← this k hk] at h3
  unfold gamesL gamesTo
  rw [e]
theorem explB_congr {frn : Int} {ws : List Wd} (hok : ∀ k, k < ws.length → wordB frn (wx ws k) = true) {o o' : Nat → Bool} (h : o' 0 = o 0 ∧ o' 1 = o 1 ∧ o' 2 = o 2 ∧ o' 3 = o 3) : explB frn ws o' = explB frn ws o := by
  unfold explB
  congr 1
  funext f
  rw [gamesL_congr hok h]

theorem allB_succ (n : Nat) (p : Nat → Bool) : allB (n + 1) p = (allB n p && p n) := by simp [allB, List.range_succ, Bool.and_comm]

/-- A watch (block p): its lane, and its map (block b). -/
structure Wat (B : Nat) (w : World) (p b n : Nat) (frn : Int) (A : Option Addr) (c : Nat) (ws : List Wd) : Prop where
  cn : w.cell? ⟨p, 0, none⟩ = some (.int .i64 frn)
  cl : w.cell? ⟨p, 1, none⟩ = some (.slice A ws.length c)
  cm : w.cell? ⟨p, 2, none⟩ = some (.map (some b))
  wd : Wds B w A ws
  kn : Known w b n (explB frn ws)
theorem Wat.pb {B : Nat} {w : World} {p b n : Nat} {frn : Int} {A : Option Addr} {c : Nat} {ws : List Wd} (h : Wat B w p b n frn A c ws) : p ≠ b := fun e => by
  obtain ⟨D, ⟨es, cl, h1, _⟩, _⟩ := h.kn
  have := h.cn
  rw [e] at this
  simp [World.cell?, h1] at this
theorem Wat.step {B : Nat} {w w' : World} {p b n : Nat} {frn : Int} {A : Option Addr} {c : Nat} {ws : List Wd} (h : Wat B w p b n frn A c ws) (hb : Below w.heap.size w w') (hB : B ≤ w.heap.size) : Wat B w' p b n frn A c ws :=
  ⟨cell_of_ans hb h.cn, cell_of_ans hb h.cl, cell_of_ans hb h.cm, h.wd.below (hb.mono hB), h.kn.step hb⟩
theorem cell_grown {w w' : World} {b : Nat} (hg : w.grownBy w' (some b)) {p : Addr} {v : Value} (h : w.cell? p = some v) (hne : p.block ≠ b) : w'.cell? p = some v := by
  have e := hg.block p.block (World.block_lt_of_cell? w p h) (fun e => by injection e with e; exact hne e)
  unfold World.cell? at h ⊢
  rw [e]
  exact h
theorem Wds.grown {B b : Nat} {w w' : World} {A : Option Addr} {ws : List Wd} (h : Wds B w A ws) (hg : w.grownBy w' (some b)) (hb : B ≤ b) : Wds B w' A ws := fun hp => by
  obtain ⟨b', off, hA, hlt, hc⟩ := h hp
  refine ⟨b', off, hA, hlt, fun k hk => ?_⟩
  obtain ⟨h1, h2, h3, h4, h5⟩ := hc k hk
  exact ⟨cell_grown hg h1 (by dsimp only; omega), cell_grown hg h2 (by dsimp only; omega), cell_grown hg h3 (by dsimp only; omega), cell_grown hg h4 (by dsimp only; omega), cell_grown hg h5 (by dsimp only; omega)⟩

def ExPost (w : World) (B p b n : Nat) (frn : Int) (A : Option Addr) (c : Nat) (ws : List Wd) (r : Bool) (e : Ending) (w' : World) : Prop :=
  e = .returned (.bool r) ∧ Wat B w' p b (n + 1) frn A c ws ∧ w.grownBy w' (some b)

set_option maxRecDepth 100000 in
set_option maxHeartbeats 8000000 in
theorem explain_c {B : Nat} (p b n c m : Nat) (o : Nat → Bool) (A : Option Addr) (ws : List Wd) (w : World) (hB : B ≤ w.heap.size) (hp : p < w.heap.size) (hb : B ≤ b) (hW : Wat B w p b n (m : Int) A c ws)
    (hl9 : ws.length ≤ 1000000) (hok : ∀ k, k < ws.length → wordB (m : Int) (wx ws k) = true) (hm : m ≤ 5) (hn : n ≤ 1000000) :
    Calls Try.prog 55 #[.pointer (some ⟨p, 0, none⟩), .agg #[.bool (o 0), .bool (o 1), .bool (o 2), .bool (o 3)]] w (ExPost w B p b n (m : Int) A c ws (explB (m : Int) ws o)) := by
  have hb0 : Below w.heap.size w (w.alloc (.cells #[.bool (o 0), .bool (o 1), .bool (o 2), .bool (o 3)] 92)) := (Below.refl _ _).alloc (Nat.le_refl _) _
  have z0 : (w.alloc (.cells #[.bool (o 0), .bool (o 1), .bool (o 2), .bool (o 3)] 92)).cell? ⟨w.heap.size, 0, none⟩ = some (.bool (o 0)) := by simp
  have z1 : (w.alloc (.cells #[.bool (o 0), .bool (o 1), .bool (o 2), .bool (o 3)] 92)).cell? ⟨w.heap.size, 1, none⟩ = some (.bool (o 1)) := by simp
  have z2 : (w.alloc (.cells #[.bool (o 0), .bool (o 1), .bool (o 2), .bool (o 3)] 92)).cell? ⟨w.heap.size, 2, none⟩ = some (.bool (o 2)) := by simp
  have z3 : (w.alloc (.cells #[.bool (o 0), .bool (o 1), .bool (o 2), .bool (o 3)] 92)).cell? ⟨w.heap.size, 3, none⟩ = some (.bool (o 3)) := by simp
  have hW0 := hW.step hb0 hB
  have HPB := Lib.hid hW.pb
  have HB0 := Lib.hid hb0
  have HOK := Lib.hid hok
  have hbl := hW.kn.lt
  clear hb0 hok hW
  go_enter Try.func55, Try.ntmps55
  go_upto_region 1 with fail
  generalize w.alloc (.cells #[.bool (o 0), .bool (o 1), .bool (o 2), .bool (o 3)] 92) = W0 at z0 z1 z2 z3 hW0 HB0 ⊢
  have k2 := hW0.cm
  rcases hW0.kn.look o with hlook | hlook
  · have HW0 := Lib.hid hW0
    clear hW0
    have hl0 : (Instr.lookup 97 (.map (some b)) (.agg #[.bool (o 0), .bool (o 1), .bool (o 2), .bool (o 3)]) true).run Try.prog W0.drew = .ok (.tuple #[.bool (explB (m : Int) ws o), .bool true]) W0.drew := hlook 1
    clear hlook
    go_region_held3 (fun w' => w'.cell? ⟨p, 2, none⟩ = some (.map (some b)) ∧ w'.cell? ⟨w.heap.size, 0, none⟩ = some (.bool (o 0)) ∧ w'.cell? ⟨w.heap.size, 1, none⟩ = some (.bool (o 1)) ∧ w'.cell? ⟨w.heap.size, 2, none⟩ = some (.bool (o 2)) ∧ w'.cell? ⟨w.heap.size, 3, none⟩ = some (.bool (o 3))) (go_keep) (first | fail)
    go_wp2_with fail
    go_ret
    have hd : Below W0.heap.size W0 W0.drew := (Below.refl _ _).drew
    have hs := HB0.out.size
    refine ⟨rfl, ?_, only_below (HB0.out.trans (hd.mono hs)) _⟩
    have h1 := HW0.out.step hd (Nat.le_trans hB hs)
    exact ⟨h1.cn, h1.cl, h1.cm, h1.wd, h1.kn.more (Nat.le_succ _)⟩
  · have k0 := hW0.cn
    have HW0 := Lib.hid hW0
    clear hW0
    have hl0 : (Instr.lookup 97 (.map (some b)) (.agg #[.bool (o 0), .bool (o 1), .bool (o 2), .bool (o 3)]) true).run Try.prog W0.drew = .ok (.tuple #[.bool false, .bool false]) W0.drew := hlook 1
    clear hlook
    go_region_held3 (fun w' => w'.cell? ⟨p, 2, none⟩ = some (.map (some b)) ∧ w'.cell? ⟨w.heap.size, 0, none⟩ = some (.bool (o 0)) ∧ w'.cell? ⟨w.heap.size, 1, none⟩ = some (.bool (o 1)) ∧ w'.cell? ⟨w.heap.size, 2, none⟩ = some (.bool (o 2)) ∧ w'.cell? ⟨w.heap.size, 3, none⟩ = some (.bool (o 3))) (go_keep) (first | fail)
    go_wp2_with fail
    have k3 := HW0.out.cl
    clear k2
    go_loopw [26, 5] (fun i v wr => ∃ k : Nat, k ≤ m ∧ i = .int .i64 k ∧ v = .bool (allB k fun f => decide (0 < (gamesL ws (f : Int) o).length)) ∧ Below W0.heap.size W0 wr) (fun i _ _ => m - (intOf i).toNat)
    case atStart => exact ⟨0, by omega, rfl, rfl, (Below.refl _ _).drew⟩
    case round =>
      obtain ⟨k, hk, rfl, rfl, hbr⟩ := hrel
      have hz0 := HB0.out.size
      have hzr := hbr.size
      have y0 := cell_of_ans hbr z0
      have y1 := cell_of_ans hbr z1
      have y2 := cell_of_ans hbr z2
      have y3 := cell_of_ans hbr z3
      have HWr := Lib.hid (HW0.out.step hbr (Nat.le_trans hB hz0))
      have HBr := Lib.hid hbr
      clear hbr
      by_cases h1 : k < m
      · have hki : (k : Int) < (m : Int) := by omega
        have HF := Lib.hid (frame_c (B := wr.heap.size) p c (k : Int) (m : Int) o A ws wr (Nat.le_refl _) (by omega) HWr.out.cn HWr.out.cl (HWr.out.wd.more (by omega)) hl9 HOK.out)
        have HS := Lib.hid (allB_succ k fun f => decide (0 < (gamesL ws (f : Int) o).length))
        generalize loS (fsts (gamesL ws (k : Int) o)) = a1 at HF
        generalize hiS (fsts (gamesL ws (k : Int) o)) = a2 at HF
        generalize loS (snds (gamesL ws (k : Int) o)) = a3 at HF
        generalize hiS (snds (gamesL ws (k : Int) o)) = a4 at HF
        generalize hN : (gamesL ws (k : Int) o).length = gl at HF
        have HN := Lib.hid hN
        clear hN
        cases hs : allB k fun f => decide (0 < (gamesL ws (f : Int) o).length)
        · have HV := Lib.hid hs
          clear hs
          go_wp2_with fail
          refine HF.out.mono ?_
          rintro e w3 ⟨rfl, hb3⟩
          have HB3 := Lib.hid hb3
          clear hb3
          go_wp2_with fail
          go_roundw
          case rel => exact ⟨k + 1, by omega, by go_num, by rw [HS.out, HV.out]; rfl, (HBr.out.trans (HB3.out.mono HBr.out.size)).alloc (by have := HB3.out.size; omega) _⟩
          case measure => simp [intOf]; omega
        · have HV := Lib.hid hs
          clear hs
          go_wp2_with fail
          refine HF.out.mono ?_
          rintro e w3 ⟨rfl, hb3⟩
          have HB3 := Lib.hid hb3
          clear hb3
          go_wp2_with fail
          go_roundw
          case rel => exact ⟨k + 1, by omega, by go_num, by rw [HS.out, HV.out, HN.out]; simp, (HBr.out.trans (HB3.out.mono HBr.out.size)).alloc (by have := HB3.out.size; omega) _⟩
          case measure => simp [intOf]; omega
      · obtain rfl : k = m := by omega
        have HE : Hid (explB (k : Int) ws o = allB k fun f => decide (0 < (gamesL ws (f : Int) o).length)) := by show _ = _; simp [explB]
        generalize (allB k fun f => decide (0 < (gamesL ws (f : Int) o).length)) = v at HE ⊢
        have k2 := HWr.out.cm
        have HK := Lib.hid HWr.out.kn
        go_wp2_with fail
        refine still_tail 6 (by kernel_rfl) (by kernel_rfl) ?_
        simp only [List.take_succ_cons, List.take_zero, List.drop_succ_cons, List.drop_zero]
        repeat still_step
        refine wpStill_nil ?_
        refine wpList_known wr.drew rfl _ _ _ rfl b n (explB (k : Int) ws) o rfl (HK.out.step (Below.refl _ _).drew) hn rfl (by rw [HE.out]; rfl) (fun o' h => explB_congr HOK.out h) ?_
        intro w4 hk4 hg4
        have HK4 := Lib.hid hk4
        have HG4 := Lib.hid hg4
        clear hk4 hg4
        go_wp2_with fail
        go_ret
        have hne := HPB.out
        have hg : wr.grownBy w4 (some b) := (only_below (Below.refl wr.heap.size wr).drew (some b)).trans HG4.out
        have hk := HWr.out
        have hbb : Below w.heap.size w wr := HB0.out.trans (HBr.out.mono hz0)
        refine ⟨ret_bool HE.out.symm, ⟨cell_grown hg hk.cn hne, cell_grown hg hk.cl hne, cell_grown hg hk.cm hne, hk.wd.grown hg hb, HK4.out⟩, ?_⟩
        exact ⟨hg.os.trans hbb.os, hg.tape.trans hbb.tape, hg.output.trans hbb.output, Nat.le_trans hbb.size hg.size, fun j hj hne => (hg.block j (by omega) hne).trans (hbb.block j hj)⟩
end Go.Proofs.Ytadjkinpimmhkaa
