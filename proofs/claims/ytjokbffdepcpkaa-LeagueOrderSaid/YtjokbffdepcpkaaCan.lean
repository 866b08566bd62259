/-
  CanFirst.
-/
import Derived.Test.YtjokbffdepcpkaaRuns
namespace Go.Proofs.Ytjokbffdepcpkaa
open Go.RowKit
set_option linter.unusedSimpArgs false
set_option linter.unusedVariables false

attribute [local go_sem] Oper.semAt_some
/-- The race of a team. -/
def raceR (l : Lg) (p : Nat) : Rc := ⟨6, (opensL l.games).length, fun i => (gmx (opensL l.games) i).a.toNat, fun i => (gmx (opensL l.games) i).b.toNat, p, reachF l (p : Int)⟩
open Classical in
/-- Does no set of teams rule a team out? -/
noncomputable def canB (l : Lg) (p : Nat) : Bool := decide (∀ S, ¬ (raceR l p).Rules (sumsF l) S)
noncomputable def canL (l : Lg) (tm : Int) : Bool := decide (askedL l tm = 0) && canB l tm.toNat
theorem open_mem {l : Lg} (hv : Valid l) {i : Nat} (h : i < (opensL l.games).length) : GmOk l.teams (gmx (opensL l.games) i) := by
  refine hv.mem ?_
  rw [gmx_lt h]
  exact (List.mem_filter.1 (List.getElem_mem h)).1
theorem race_g6 {l : Lg} (hv : Valid l) (i : Nat) (h : i < (opensL l.games).length) : 0 ≤ (gmx (opensL l.games) i).a ∧ (gmx (opensL l.games) i).a < 6 ∧ 0 ≤ (gmx (opensL l.games) i).b ∧ (gmx (opensL l.games) i).b < 6 ∧ (gmx (opensL l.games) i).a ≠ (gmx (opensL l.games) i).b := by
  have g := open_mem hv h
  have := g.a0; have := g.an; have := g.b0; have := g.bn; have := g.ne; have := hv.t6
  omega
theorem race_ok {l : Lg} (hv : Valid l) (p : Nat) : (raceR l p).Ok := fun i hi => by
  obtain ⟨h1, h2, h3, h4, h5⟩ := race_g6 hv i hi
  show (gmx (opensL l.games) i).a.toNat < 6 ∧ (gmx (opensL l.games) i).b.toNat < 6 ∧ (gmx (opensL l.games) i).a.toNat ≠ (gmx (opensL l.games) i).b.toNat
  omega
theorem race_cnt {l : Lg} (hv : Valid l) (p : Nat) : ∀ k, k ≤ (opensL l.games).length → (raceR l p).cnt p k = (((opensL l.games).take k).countP (inG (p : Int)) : Nat)
  | 0, _ => by simp [Rc.cnt]
  | k + 1, h => by
    have hk : k < (opensL l.games).length := by omega
    obtain ⟨h1, h2, h3, h4, h5⟩ := race_g6 hv k hk
    rw [Rc.cnt, race_cnt hv p k (by omega), List.take_succ_eq_append_getElem hk, List.countP_append, ← gmx_lt hk]
    have e : ((raceR l p).A k = p ∨ (raceR l p).B k = p) ↔ inG (p : Int) (gmx (opensL l.games) k) = true := by
      show ((gmx (opensL l.games) k).a.toNat = p ∨ (gmx (opensL l.games) k).b.toNat = p) ↔ _
      unfold inG
      simp
      omega
    by_cases hi : inG (p : Int) (gmx (opensL l.games) k) = true
    · rw [if_pos (e.2 hi)]
      simp [hi]
    · rw [if_neg (fun h => hi (e.1 h))]
      simp [hi]
theorem race_rc {l : Lg} (hv : Valid l) (p : Nat) : (raceR l p).rc = sumsF l (raceR l p).tm + 2 * (raceR l p).cnt (raceR l p).tm (raceR l p).n := by
  show reachF l (p : Int) = sumsF l p + 2 * (raceR l p).cnt p (opensL l.games).length
  rw [race_cnt hv p _ (Nat.le_refl _)]
  unfold reachF reachK
  simp
theorem can_false {l : Lg} {p : Nat} {S : Nat → Bool} (h : (raceR l p).Rules (sumsF l) S) : canB l p = false := by
  unfold canB
  rw [decide_eq_false_iff_not]
  exact fun hn => hn S h
theorem can_true {l : Lg} (hv : Valid l) {p : Nat} {s : Fl} (h : (raceR l p).Inv (sumsF l) s) (hle : ∀ u, u < (raceR l p).m → u ≠ (raceR l p).tm → s.hv u ≤ (raceR l p).rc) : canB l p = true := by
  classical
  unfold canB
  refine decide_eq_true fun S hS => ?_
  obtain ⟨h1, h2⟩ := Rc.settled (race_ok hv p) h (race_rc hv p) hle
  obtain ⟨u, hu, hlt⟩ := Rc.ruled (race_ok hv p) hS (race_rc hv p) h.rg
  have := h2 u (hS.u6 u hu)
  omega
set_option maxRecDepth 100000 in
set_option maxHeartbeats 4000000 in
theorem can43_c (l : Lg) (tm : Int) (A : Option Addr) (c : Nat) (w : World) (hl : Gms w.heap.size w A l.games) (hc : l.games.length ≤ c ∧ c ≤ 9223372036854775807) :
    Calls Try.prog 43 #[.agg #[.int .i64 l.teams, .slice A l.games.length c], .int .i64 tm] w (Ans w (.tuple #[.bool (canL l tm), .int .i64 (askedL l tm)])) := by
  have hb : Below w.heap.size w (w.alloc (.cells #[.int .i64 l.teams, .slice A l.games.length c] 32)) := (Below.refl _ _).alloc (Nat.le_refl _) _
  have HB := Lib.hid hb
  have HL := Lib.hid (hl.step hb)
  have k0 : (w.alloc (.cells #[.int .i64 l.teams, .slice A l.games.length c] 32)).cell? ⟨w.heap.size, 0, none⟩ = some (.int .i64 l.teams) := by simp
  have k1 : (w.alloc (.cells #[.int .i64 l.teams, .slice A l.games.length c] 32)).cell? ⟨w.heap.size, 1, none⟩ = some (.slice A l.games.length c) := by simp
  have HAS := Lib.hid (fun (W : World) (h : Gms W.heap.size W A l.games) => asked69_c l tm A c W h hc)
  clear hb hl
  by_cases h1 : askedL l tm = 0
  rotate_left 1
  · have HC : Hid (canL l tm = false) := by show _ = _; unfold canL; simp [h1]
    have q1 : (askedL l tm != 0) = true := by simp [h1]
    rw [HC.out]
    clear h1 HC
    generalize askedL l tm = fl at *
    go_enter Try.func43, Try.ntmps43
    go_wp2_with fail
    generalize (w.alloc (.cells #[.int .i64 l.teams, .slice A l.games.length c] 32)) = x1 at *
    refine (HAS.out _ HL.out).mono ?_
    rintro e x2 ⟨rfl, hb⟩
    replace HB := Lib.hid (HB.out.trans (hb.mono HB.out.size))
    clear hb
    go_wp2_with fail
    refine bodyPost_ret (results_tmp2 rfl _ _ _) rfl ?_
    exact ⟨rfl, HB.out⟩
  · obtain ⟨hv, p, rfl, hp⟩ := asked_zero h1
    have HRC := Lib.hid (fun (W : World) (h : Gms W.heap.size W A l.games) => race70_c l p A c W hv hp h hc)
    have HC : Hid (canL l (p : Int) = canB l p) := by show _ = _; unfold canL; rw [decide_eq_true h1, Bool.true_and, Int.toNat_natCast]
    have HV := Lib.hid hv
    have hp6 : p < 6 := by have := hv.t6; omega
    rw [h1] at HAS ⊢
    rw [HC.out]
    clear hv h1 HC
    go_enter Try.func43, Try.ntmps43
    go_wp2_with fail
    generalize (w.alloc (.cells #[.int .i64 l.teams, .slice A l.games.length c] 32)) = x1 at *
    refine (HAS.out _ HL.out).mono ?_
    rintro e x2 ⟨rfl, hb⟩
    replace HL := Lib.hid (HL.out.step hb)
    replace HB := Lib.hid (HB.out.trans (hb.mono HB.out.size))
    replace k0 := cell_of_ans hb k0
    replace k1 := cell_of_ans hb k1
    clear hb
    have ltk := World.block_lt_of_cell? _ _ k0
    dsimp only at ltk
    go_wp2_with fail
    refine (HRC.out _ HL.out).mono ?_
    rintro e x3 ⟨q, OA, oc, rfl, hq, hra, hom, hne, hb⟩
    replace HB := Lib.hid (HB.out.trans (hb.mono HB.out.size))
    obtain ⟨ho1, ho2, hgm⟩ := hom.parts
    have HRN := Lib.hid (runs80_c q p (reachF l (p : Int)) (sumsF l) OA oc (opensL l.games) _ (raceR l p) rfl x3 hra hgm (fun b off e eb => hne (by rw [e, eb]; rfl)) (fun i hi => race_g6 HV.out i hi) hp6 (reachK_rng HV.out (Nat.le_refl _)) (by have := opens_len l.games; have := HV.out.len; omega) ⟨ho1, ho2⟩ (fun u => sumsF_range HV.out u) (by show sumsF l p ≤ reachF l (p : Int); unfold reachF reachK; rw [Int.toNat_natCast]; omega))
    have hxq : w.heap.size ≤ q := by omega
    clear hra hom hne hgm hb HL HAS HRC k0 k1
    go_wp2_with fail
    refine HRN.out.mono ?_
    rintro e x4 ⟨hbq, hr⟩
    have HBZ : Hid (Below w.heap.size w x4) := HB.out.trans (hbq.mono hxq)
    clear hbq
    rcases hr with ⟨rfl, S, hS⟩ | ⟨rfl, s, g, hiv, htm, hle, -, -⟩
    · have HC := Lib.hid (can_false hS)
      clear hS
      go_wp2_with fail
      refine bodyPost_ret (results_tmp2 rfl _ _ _) rfl ?_
      exact ⟨by rw [HC.out]; rfl, HBZ.out⟩
    · have HC := Lib.hid (can_true HV.out hiv hle)
      clear hiv htm hle
      go_wp2_with fail
      refine bodyPost_ret (results_tmp2 rfl _ _ _) rfl ?_
      exact ⟨by rw [HC.out]; rfl, HBZ.out⟩
end Go.Proofs.Ytjokbffdepcpkaa
