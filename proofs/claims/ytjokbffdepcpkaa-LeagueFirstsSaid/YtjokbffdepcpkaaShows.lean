/-
  Shows.
-/
import Derived.Test.YtjokbffdepcpkaaCan
import Derived.Test.YtjokbffdepcpkaaEnds
namespace Go.Proofs.Ytjokbffdepcpkaa
open Go.RowKit
set_option linter.unusedSimpArgs false
set_option linter.unusedVariables false

attribute [local go_sem] Oper.semAt_some
/-- The outcomes of a settled race. -/
def outsF (s : Fl) (n : Nat) : List Int := (List.range n).map fun j => 3 - s.gv j
theorem outsF_succ (s : Fl) (n : Nat) : outsF s (n + 1) = outsF s n ++ [3 - s.gv n] := by unfold outsF; rw [List.range_succ, List.map_append]; rfl
theorem outsF_len (s : Fl) (n : Nat) : (outsF s n).length = n := by simp [outsF]
/-- What Shows gives: an error, or outcomes by which the team is first. -/
def ShowP (l : Lg) (p : Nat) (w : World) (e : Ending) (w' : World) : Prop :=
  Below w.heap.size w w' ∧ ((e = .returned (.tuple #[.slice none 0 0, .int .i64 9]) ∧ canB l p = false) ∨
    (∃ s A c, e = .returned (.tuple #[.slice A (opensL l.games).length c, .int .i64 0]) ∧ (raceR l p).Inv (sumsF l) s ∧ (∀ u, u < (raceR l p).m → u ≠ (raceR l p).tm → s.hv u ≤ (raceR l p).rc) ∧ OwnU w.heap.size w' (.slice A (opensL l.games).length c) (outsF s (opensL l.games).length)))
set_option maxRecDepth 100000 in
set_option maxHeartbeats 4000000 in
theorem shows47_bad (l : Lg) (tm : Int) (A : Option Addr) (c : Nat) (w : World) (hl : Gms w.heap.size w A l.games) (hc : l.games.length ≤ c ∧ c ≤ 9223372036854775807) (h1 : askedL l tm ≠ 0) :
    Calls Try.prog 47 #[.agg #[.int .i64 l.teams, .slice A l.games.length c], .int .i64 tm] w (Ans w (.tuple #[.slice none 0 0, .int .i64 (askedL l tm)])) := by
  have hb : Below w.heap.size w (w.alloc (.cells #[.int .i64 l.teams, .slice A l.games.length c] 32)) := (Below.refl _ _).alloc (Nat.le_refl _) _
  have HB := Lib.hid hb
  have HL := Lib.hid (hl.step hb)
  have k0 : (w.alloc (.cells #[.int .i64 l.teams, .slice A l.games.length c] 32)).cell? ⟨w.heap.size, 0, none⟩ = some (.int .i64 l.teams) := by simp
  have k1 : (w.alloc (.cells #[.int .i64 l.teams, .slice A l.games.length c] 32)).cell? ⟨w.heap.size, 1, none⟩ = some (.slice A l.games.length c) := by simp
  have HAS := Lib.hid (fun (W : World) (h : Gms W.heap.size W A l.games) => asked69_c l tm A c W h hc)
  have q1 : (askedL l tm != 0) = true := by simp [h1]
  clear hb hl h1
  generalize askedL l tm = fl at *
  go_enter Try.func47, Try.ntmps47
  go_wp2_with fail
  generalize (w.alloc (.cells #[.int .i64 l.teams, .slice A l.games.length c] 32)) = x1 at *
  refine (HAS.out _ HL.out).mono ?_
  rintro e x2 ⟨rfl, hb⟩
  replace HB := Lib.hid (HB.out.trans (hb.mono HB.out.size))
  clear hb
  go_wp2_with fail
  refine bodyPost_ret (results_tmp2 rfl _ _ _) rfl ?_
  exact ⟨rfl, HB.out⟩
set_option maxRecDepth 100000 in
set_option maxHeartbeats 4000000 in
theorem shows47_c (l : Lg) (p : Nat) (A : Option Addr) (c : Nat) (w : World) (hl : Gms w.heap.size w A l.games) (hc : l.games.length ≤ c ∧ c ≤ 9223372036854775807) (h1 : askedL l (p : Int) = 0) :
    Calls Try.prog 47 #[.agg #[.int .i64 l.teams, .slice A l.games.length c], .int .i64 (p : Int)] w (ShowP l p w) := by
  have hb : Below w.heap.size w (w.alloc (.cells #[.int .i64 l.teams, .slice A l.games.length c] 32)) := (Below.refl _ _).alloc (Nat.le_refl _) _
  have HB := Lib.hid hb
  have HL := Lib.hid (hl.step hb)
  have k0 : (w.alloc (.cells #[.int .i64 l.teams, .slice A l.games.length c] 32)).cell? ⟨w.heap.size, 0, none⟩ = some (.int .i64 l.teams) := by simp
  have k1 : (w.alloc (.cells #[.int .i64 l.teams, .slice A l.games.length c] 32)).cell? ⟨w.heap.size, 1, none⟩ = some (.slice A l.games.length c) := by simp
  have HAS := Lib.hid (fun (W : World) (h : Gms W.heap.size W A l.games) => asked69_c l (p : Int) A c W h hc)
  clear hb hl
  obtain ⟨hv, p', hpp, hp⟩ := asked_zero h1
  obtain rfl : p = p' := by omega
  have HRC := Lib.hid (fun (W : World) (h : Gms W.heap.size W A l.games) => race70_c l p A c W hv hp h hc)
  have HV := Lib.hid hv
  have hp6 : p < 6 := by have := hv.t6; omega
  have hn20 : (opensL l.games).length ≤ 20 := by have := opens_len l.games; have := hv.len; omega
  rw [h1] at HAS
  clear hv h1
  go_enter Try.func47, Try.ntmps47
  go_wp2_with fail
  generalize (w.alloc (.cells #[.int .i64 l.teams, .slice A l.games.length c] 32)) = x1 at *
  refine (HAS.out _ HL.out).mono ?_
  rintro e x2 ⟨rfl, hb⟩
  replace HL := Lib.hid (HL.out.step hb)
  replace HB := Lib.hid (HB.out.trans (hb.mono HB.out.size))
  replace k0 := cell_of_ans hb k0
  replace k1 := cell_of_ans hb k1
  clear hb
  have ltk := World.block_lt_of_cell? _ _ k0
  dsimp only at ltk
  go_wp2_with fail
  refine (HRC.out _ HL.out).mono ?_
  rintro e x3 ⟨q, OA, oc, rfl, hq, hra, hom, hne, hb⟩
  replace HB := Lib.hid (HB.out.trans (hb.mono HB.out.size))
  obtain ⟨ho1, ho2, hgm⟩ := hom.parts
  have HRN := Lib.hid (runs80_c q p (reachF l (p : Int)) (sumsF l) OA oc (opensL l.games) _ (raceR l p) rfl x3 hra hgm (fun b off e eb => hne (by rw [e, eb]; rfl)) (fun i hi => race_g6 HV.out i hi) hp6 (reachK_rng HV.out (Nat.le_refl _)) hn20 ⟨ho1, ho2⟩ (fun u => sumsF_range HV.out u) (by show sumsF l p ≤ reachF l (p : Int); unfold reachF reachK; rw [Int.toNat_natCast]; omega))
  have hxq : w.heap.size ≤ q := by omega
  clear hra hom hne hgm hb HL HAS HRC k0 k1
  go_wp2_with fail
  refine HRN.out.mono ?_
  rintro e x4 ⟨hbq, hr⟩
  have HBZ : Hid (Below w.heap.size w x4) := HB.out.trans (hbq.mono hxq)
  clear hbq
  rcases hr with ⟨rfl, S, hS⟩ | ⟨rfl, s, g, hiv, htm, hle, hra, hd⟩
  · have HC := Lib.hid (can_false hS)
    clear hS
    go_wp2_with fail
    refine bodyPost_ret (results_tmp2 rfl _ _ _) rfl ?_
    exact ⟨HBZ.out, .inl ⟨rfl, HC.out⟩⟩
  · have hra' : RaceAt x4 q (p : Int) (reachF l (p : Int)) (sumsF l) (.slice OA (opensL l.games).length oc) (.slice (some ⟨g, 0, none⟩) (opensL l.games).length (opensL l.games).length) := hra
    have hd' : DnI x4 g s.gv (opensL l.games).length := hd
    have hrg : ∀ j, j < (opensL l.games).length → 0 ≤ s.gv j ∧ s.gv j ≤ 2 := hiv.rg
    have HIV := Lib.hid hiv
    have HLE := Lib.hid hle
    have HD := Lib.hid hd'
    have HRG := Lib.hid hrg
    obtain ⟨-, -, -, y9, -, -⟩ := hra'.cells
    clear hra hra' hd hd' hrg hiv hle htm
    obtain ⟨n, hn⟩ : ∃ n, (opensL l.games).length = n := ⟨_, rfl⟩
    have HN := Lib.hid hn
    rw [hn] at y9 HD HRG hn20
    clear hn
    go_wp2_with fail
    go_loopw [8, 28] (fun o i wr => ∃ (j : Nat) (A8 : Option Addr) (c8 : Nat), j ≤ n ∧ i = .int .i64 (j : Int) ∧ o = .slice A8 (outsF s j).length c8 ∧ OwnU x4.heap.size wr (.slice A8 (outsF s j).length c8) (outsF s j) ∧ Below x4.heap.size x4 wr) (fun _ i _ => n - (intOf i).toNat)
    case atStart => exact ⟨0, none, 0, by omega, rfl, rfl, OwnU.nil _ _, Below.refl _ _⟩
    case round =>
      obtain ⟨j, A8, c8, hj, rfl, rfl, hO, hb⟩ := hrel
      have HO := Lib.hid hO
      have HBR := Lib.hid hb
      by_cases hj1 : j < n
      · have hji : (j : Int) < (n : Int) := by omega
        have hwj : IntKind.i64.wrap ((j : Int) + 1) = (j : Int) + 1 := IntWalk.i64_in _ (by omega)
        have d0 := cell_of_ans hb (HD.out.cell (p := j) hj1).1
        have hr := HRG.out j hj1
        have HS := Lib.hid (outsF_succ s j)
        have hlen : (outsF s j).length ≤ 1000000 := by rw [outsF_len]; omega
        have hll : (outsF s j ++ [3 - s.gv j]).length = (outsF s j).length + 1 := by simp
        have hle4 : x4.heap.size ≤ wr.heap.size := hb.size
        clear hb hO
        generalize s.gv j = gj at *
        generalize outsF s j = oj at *
        have u1 : IntKind.u8.wrap gj = gj := by simp [IntKind.wrap, IntKind.bits, IntKind.signed]; omega
        have u2 : IntKind.u8.wrap (3 - gj) = 3 - gj := by simp [IntKind.wrap, IntKind.bits, IntKind.signed]; omega
        go_wp2_with (at_builtin; refine wpList_app_byt (.tmp 32) (.tmp 36) rfl rfl x4.heap.size wr _ oj (3 - gj) rfl rfl HO hlen hle4 ?_; intro A9 c9 w9 HO9 HB9)
        go_roundw
        case rel => exact ⟨j + 1, A9, c9, by omega, by go_num, by rw [HS.out, hll], by rw [HS.out, hll]; exact HO9.out, HBR.out.trans HB9.out⟩
        case measure => simp [intOf]; omega
      · obtain rfl : j = n := by omega
        have hji : ¬ (j : Int) < (j : Int) := by omega
        have HBF : Hid (Below w.heap.size w wr) := HBZ.out.trans (HBR.out.mono HBZ.out.size)
        have HOW := Lib.hid (ownsRow_base HO.out HBZ.out.size)
        clear hO hb
        go_wp2_with fail
        refine bodyPost_ret (results_tmp2 rfl _ _ _) rfl ?_
        refine ⟨HBF.out, .inr ⟨s, A8, c8, ?_, HIV.out, HLE.out, ?_⟩⟩
        · rw [HN.out, outsF_len]; rfl
        · rw [HN.out]
          have h := HOW.out
          rw [outsF_len] at h
          unfold OwnU
          rw [outsF_len]
          exact h
end Go.Proofs.Ytjokbffdepcpkaa
