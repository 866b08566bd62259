/-
  The reference's Reach, RulesOut, Less.
-/
import Derived.Test.YtjokbffdepcpkaaRefN
import Derived.Test.YtjokbffdepcpkaaOut
namespace Go.Proofs.Ytjokbffdepcpkaa
open Go.RowKit
set_option linter.unusedSimpArgs false
set_option linter.unusedVariables false

attribute [local go_sem] Oper.semAt_some
theorem sums1_is (l : Lg) {tm : Int} (h : 0 ≤ tm) : numS 1 (hasI []) tm l.games = sumsF l tm.toNat := by
  unfold sumsF sumsK
  rw [List.take_length, show ((tm.toNat : Nat) : Int) = tm by omega]
  refine numS_congr fun g _ => ?_
  unfold vG
  simp only [ruV_1]
/-- How many of the first k games are open and are so. -/
def opP (p : Gm → Bool) (gs : List Gm) (k : Nat) : Nat := (gs.take k).countP fun g => g.op && p g
theorem opP_succ {p : Gm → Bool} {gs : List Gm} {k : Nat} (hk : k < gs.length) : opP p gs (k + 1) = opP p gs k + if (gmx gs k).op && p (gmx gs k) then 1 else 0 := by
  unfold opP
  rw [List.take_succ_eq_append_getElem hk, List.countP_append, ← gmx_lt hk]
  cases h : (gmx gs k).op && p (gmx gs k) <;> simp [h]
theorem opP_le {p : Gm → Bool} {gs : List Gm} {k : Nat} : opP p gs k ≤ gs.length := by
  unfold opP
  have := List.countP_le_length (p := fun g => g.op && p g) (l := gs.take k)
  rw [List.length_take] at this
  omega
theorem opP_all {p : Gm → Bool} {gs : List Gm} : opP p gs gs.length = (opensL gs).countP p := by
  unfold opP opensL
  rw [List.take_length, List.countP_filter]
  refine List.countP_congr fun g _ => ?_
  rw [Bool.and_comm]
set_option maxRecDepth 100000 in
set_option maxHeartbeats 8000000 in
theorem reach78_c (l : Lg) (A : Option Addr) (c : Nat) (tm : Int) (w : World) (hv : Valid l) (ht : 0 ≤ tm) (hl : Gms w.heap.size w A l.games) (hc : l.games.length ≤ c ∧ c ≤ 9223372036854775807) :
    Calls Try.prog 78 #[.agg #[.int .i64 l.teams, .slice A l.games.length c], .int .i64 tm] w (Ans w (.int .i64 (reachF l tm))) := by
  have hb : Below w.heap.size w (w.alloc (.cells #[.int .i64 l.teams, .slice A l.games.length c] 24)) := (Below.refl _ _).alloc (Nat.le_refl _) _
  have HB := Lib.hid hb
  have HL := Lib.hid (hl.step hb)
  have k0 : (w.alloc (.cells #[.int .i64 l.teams, .slice A l.games.length c] 24)).cell? ⟨w.heap.size, 0, none⟩ = some (.int .i64 l.teams) := by simp
  have k1 : (w.alloc (.cells #[.int .i64 l.teams, .slice A l.games.length c] 24)).cell? ⟨w.heap.size, 1, none⟩ = some (.slice A l.games.length c) := by simp
  have HNU : Hid (∀ W : World, Gms W.heap.size W A l.games → Calls Try.prog 35 #[.agg #[.int .i64 l.teams, .slice A l.games.length c], .int .u8 1, .int .i64 tm, .slice none 0 0] W (Ans W (.int .i64 (sumsF l tm.toNat)))) := fun W h => by
    have h := number35_1 l A c tm none 0 [] W hv h hc (fun hp => by simp at hp) ⟨by simp, by omega⟩
    rw [sums1_is l ht] at h
    exact h
  have hl20 := hv.len
  have hsr := sumsF_range hv tm.toNat
  have HRF : Hid (reachF l tm = sumsF l tm.toNat + 2 * (opP (inG tm) l.games l.games.length : Int)) := by show _ = _; unfold reachF reachK; rw [List.take_length, opP_all]
  clear hb hl hv ht
  rw [HRF.out]
  clear HRF
  generalize sumsF l tm.toNat = sk at *
  go_enter Try.func78, Try.ntmps78
  go_wp2_with fail
  generalize (w.alloc (.cells #[.int .i64 l.teams, .slice A l.games.length c] 24)) = x1 at *
  refine (HNU.out _ HL.out).mono ?_
  rintro e x2 ⟨rfl, hb⟩
  replace HB := Lib.hid (HB.out.trans (hb.mono HB.out.size))
  replace HL := Lib.hid (HL.out.step hb)
  replace k0 := cell_of_ans hb k0
  replace k1 := cell_of_ans hb k1
  clear hb HNU
  go_wp2_with fail
  go_loopw [5, 6] (fun s i wr => ∃ k : Nat, k ≤ l.games.length ∧ i = .int .i64 k ∧ s = .int .i64 (sk + 2 * (opP (inG tm) l.games k : Int)) ∧ Below x2.heap.size x2 wr) (fun _ i _ => l.games.length - (intOf i).toNat)
  case atStart => exact ⟨0, by omega, rfl, by simp [opP], Below.refl _ _⟩
  case round =>
    obtain ⟨k, hk, rfl, rfl, hb⟩ := hrel
    have HBR := Lib.hid hb
    have j1 := cell_of_ans hb k1
    by_cases h1 : k < l.games.length
    · have h1i : (k : Int) < (l.games.length : Int) := by omega
      have hwk : IntKind.i64.wrap ((k : Int) + 1) = (k : Int) + 1 := IntWalk.i64_in _ (by omega)
      obtain ⟨b, off, rfl, hb0, c1, c2, c3, c4, c5⟩ := (HL.out.step hb).at_ h1
      have HOS := Lib.hid (opP_succ (p := inG tm) h1)
      have hop := opP_le (p := inG tm) (gs := l.games) (k := k)
      generalize opP (inG tm) l.games k = o0 at *
      have hw2 : IntKind.i64.wrap (sk + 2 * (o0 : Int) + 2) = sk + 2 * (o0 : Int) + 2 := IntWalk.i64_in _ (by omega)
      obtain ⟨gg, hgg⟩ : ∃ gg, gg = gmx l.games k := ⟨_, rfl⟩
      rw [← hgg] at c1 c2 c3 c4 c5 HOS
      clear hgg hb
      obtain ⟨ga, gb, gpa, gpb, gop⟩ := gg
      dsimp only at c1 c2 c3 c4 c5 HOS
      have hba : Below wr.heap.size wr (wr.alloc (.cells #[.int .i64 ga, .int .i64 gb, .int .i64 gpa, .int .i64 gpb, .bool gop] 70)) := (Below.refl _ _).alloc (Nat.le_refl _) _
      have v0 : (wr.alloc (.cells #[.int .i64 ga, .int .i64 gb, .int .i64 gpa, .int .i64 gpb, .bool gop] 70)).cell? ⟨wr.heap.size, 0, none⟩ = some (.int .i64 ga) := by simp
      have v1 : (wr.alloc (.cells #[.int .i64 ga, .int .i64 gb, .int .i64 gpa, .int .i64 gpb, .bool gop] 70)).cell? ⟨wr.heap.size, 1, none⟩ = some (.int .i64 gb) := by simp
      have v4 : (wr.alloc (.cells #[.int .i64 ga, .int .i64 gb, .int .i64 gpa, .int .i64 gpb, .bool gop] 70)).cell? ⟨wr.heap.size, 4, none⟩ = some (.bool gop) := by simp
      have HBZ : Hid (Below x2.heap.size x2 (wr.alloc (.cells #[.int .i64 ga, .int .i64 gb, .int .i64 gpa, .int .i64 gpb, .bool gop] 70))) := HBR.out.trans (hba.mono HBR.out.size)
      clear hba HBR
      cases gop
      · have HO2 : Hid (opP (inG tm) l.games (k + 1) = o0) := by show _ = _; rw [HOS.out]; simp
        clear HOS
        go_wp2_with fail
        generalize (wr.alloc (.cells #[.int .i64 ga, .int .i64 gb, .int .i64 gpa, .int .i64 gpb, .bool false] 70)) = wx at *
        go_roundw
        case rel => exact ⟨k + 1, by omega, by go_num, by rw [HO2.out], HBZ.out⟩
        case measure => simp [intOf]; omega
      · by_cases ea : ga = tm
        · have e1 : (ga == tm) = true := by simp [ea]
          have HO2 : Hid (opP (inG tm) l.games (k + 1) = o0 + 1) := by show _ = _; rw [HOS.out]; simp [inG, ea]
          clear ea
          clear HOS
          go_wp2_with fail
          generalize (wr.alloc (.cells #[.int .i64 ga, .int .i64 gb, .int .i64 gpa, .int .i64 gpb, .bool true] 70)) = wx at *
          go_roundw
          case rel => exact ⟨k + 1, by omega, by go_num, by rw [HO2.out]; congr 1; omega, HBZ.out⟩
          case measure => simp [intOf]; omega
        · have e1 : (ga == tm) = false := by simp [ea]
          by_cases eb : gb = tm
          · have e2 : (gb == tm) = true := by simp [eb]
            have HO2 : Hid (opP (inG tm) l.games (k + 1) = o0 + 1) := by show _ = _; rw [HOS.out]; simp [inG, eb]
            clear ea eb
            clear HOS
            go_wp2_with fail
            generalize (wr.alloc (.cells #[.int .i64 ga, .int .i64 gb, .int .i64 gpa, .int .i64 gpb, .bool true] 70)) = wx at *
            go_roundw
            case rel => exact ⟨k + 1, by omega, by go_num, by rw [HO2.out]; congr 1; omega, HBZ.out⟩
            case measure => simp [intOf]; omega
          · have e2 : (gb == tm) = false := by simp [eb]
            have HO2 : Hid (opP (inG tm) l.games (k + 1) = o0) := by show _ = _; rw [HOS.out]; simp [inG, ea, eb]
            clear ea eb
            clear HOS
            go_wp2_with fail
            generalize (wr.alloc (.cells #[.int .i64 ga, .int .i64 gb, .int .i64 gpa, .int .i64 gpb, .bool true] 70)) = wx at *
            go_roundw
            case rel => exact ⟨k + 1, by omega, by go_num, by rw [HO2.out], HBZ.out⟩
            case measure => simp [intOf]; omega
    · obtain rfl : k = l.games.length := by omega
      have h1i : ¬ (l.games.length : Int) < (l.games.length : Int) := by omega
      clear hb
      go_wp2_with fail
      go_ret
      exact ⟨rfl, HB.out.trans (HBR.out.mono HB.out.size)⟩
end Go.Proofs.Ytjokbffdepcpkaa
