/-
  The reference's Has, First, Number.
-/
import Derived.Test.YtjokbffdepcpkaaEnds
import Derived.Deep.QuietTactic
import Derived.BigQuiet
namespace Go.Proofs.Ytjokbffdepcpkaa
open Go.RowKit
set_option linter.unusedSimpArgs false
set_option linter.unusedVariables false

attribute [local go_sem] Oper.semAt_some
set_option maxHeartbeats 1000000 in
theorem has68_c {B : Nat} (At : Option Addr) (ts : List Int) (ct : Nat) (n : Int) (w : World) (ht : Ints B w At ts) (hct : ts.length ≤ ct ∧ ct ≤ 9223372036854775807) :
    Calls Try.prog 68 #[.slice At ts.length ct, .int .i64 n] w (Same w (.bool (hasI ts n))) := by
  have HT := Lib.hid ht
  clear ht
  go_enter Try.func68, Try.ntmps68
  go_wp2_with fail
  go_loop [5] (fun i => ∃ k : Nat, k ≤ ts.length ∧ i = .int .i64 k ∧ ∀ j, j < k → ix ts j ≠ n) (fun i => ts.length - (intOf i).toNat)
  case atStart => exact ⟨0, by omega, rfl, fun j h => by omega⟩
  case round =>
    obtain ⟨k, hk, rfl, hno⟩ := hrel
    have HNO := Lib.hid hno
    clear hno
    have hwk : IntKind.i64.wrap ((k : Int) + 1) = (k : Int) + 1 ∨ k = ts.length := by
      by_cases h : k < ts.length
      · exact .inl (IntWalk.i64_in _ (by omega))
      · exact .inr (by omega)
    by_cases h1 : k < ts.length
    · have hwk : IntKind.i64.wrap ((k : Int) + 1) = (k : Int) + 1 := IntWalk.i64_in _ (by omega)
      have h1i : (k : Int) < (ts.length : Int) := by omega
      obtain ⟨b, off, rfl, hb, d0⟩ := HT.out.at_ h1
      by_cases e : ix ts k = n
      · have e1 : (ix ts k == n) = true := by simp [e]
        have HR := Lib.hid (hasI_at h1 e)
        clear e
        go_wp2_with fail
        go_ret
        exact ⟨ret_bool HR.out.symm, rfl⟩
      · have e1 : (ix ts k == n) = false := by simp [e]
        have HE := Lib.hid e
        clear e
        go_wp2_with fail
        go_round
        case rel => exact ⟨k + 1, by omega, by go_num, fun j hj => (by rcases Nat.lt_or_ge j k with h | h; exact HNO.out j h; rw [show j = k by omega]; exact HE.out)⟩
        case measure => simp [intOf]; omega
    · obtain rfl : k = ts.length := by omega
      have h1i : ¬ (ts.length : Int) < (ts.length : Int) := by omega
      have HR := Lib.hid (hasI_no HNO.out)
      go_wp2_with fail
      go_ret
      exact ⟨ret_bool HR.out.symm, rfl⟩
/-- Has no team more points than one? -/
noncomputable def firstB (ps : List Int) (t : Nat) : Bool := allB ps.length fun k => decide (ix ps k ≤ ix ps t)
set_option maxHeartbeats 1000000 in
theorem first45_c (Ap : Option Addr) (ps : List Int) (cp : Nat) (t : Nat) (w : World) (hp : Ints w.heap.size w Ap ps) (hcp : ps.length ≤ cp ∧ cp ≤ 9223372036854775807) (htl : t < ps.length) :
    Calls Try.prog 45 #[.slice Ap ps.length cp, .int .i64 (t : Int)] w (Ans w (.bool (firstB ps t))) := by
  have HT := Lib.hid hp
  have hti : (t : Int) < (ps.length : Int) := by omega
  have HBD : Hid (∀ k, k < ps.length → ¬ ix ps k ≤ ix ps t → firstB ps t = false) := fun k h1 h2 => allB_false h1 (decide_eq_false h2)
  have HOK : Hid (AllB ps.length (fun k => decide (ix ps k ≤ ix ps t)) → firstB ps t = true) := fun h => allB_true h
  clear hp
  go_enter Try.func45, Try.ntmps45
  go_wp2_with fail
  go_loopw [5] (fun i wr => ∃ k : Nat, k ≤ ps.length ∧ i = .int .i64 k ∧ AllB k (fun k => decide (ix ps k ≤ ix ps t)) ∧ Below w.heap.size w wr) (fun i _ => ps.length - (intOf i).toNat)
  case atStart => exact ⟨0, by omega, rfl, fun j h => by omega, Below.refl _ _⟩
  case round =>
    obtain ⟨k, hk, rfl, hno, hb⟩ := hrel
    have HNO := Lib.hid hno
    have HB := Lib.hid hb
    clear hno
    by_cases h1 : k < ps.length
    · have hwk : IntKind.i64.wrap ((k : Int) + 1) = (k : Int) + 1 := IntWalk.i64_in _ (by omega)
      have h1i : (k : Int) < (ps.length : Int) := by omega
      obtain ⟨b, off, rfl, hb0, d0⟩ := (HT.out.below hb).at_ h1
      obtain ⟨b', off', eA, -, d1⟩ := (HT.out.below hb).at_ htl
      injection eA with eA
      injection eA with e1 e2
      subst e1 e2
      clear hb
      by_cases e : ix ps t < ix ps k
      · have e1 : decide (ix ps t < ix ps k) = true := decide_eq_true e
        have HR := Lib.hid (HBD.out k h1 (by omega))
        have HBQ : Hid (∀ m, Below w.heap.size w (wr.drewN m)) := fun m => below_drewN HB.out m
        go_upto_region 4 with fail
        go_quiet (fail)
        replace HBQ := Lib.hid (HBQ.out nq)
        generalize wr.drewN nq = wq at *
        go_wp2_with fail
        go_ret
        exact ⟨ret_bool HR.out.symm, HBQ.out⟩
      · have e1 : decide (ix ps t < ix ps k) = false := decide_eq_false e
        have HE : Hid (ix ps k ≤ ix ps t) := by show _ ≤ _; omega
        have HBQ : Hid (∀ m, Below w.heap.size w (wr.drewN m)) := fun m => below_drewN HB.out m
        go_upto_region 4 with fail
        go_quiet (fail)
        replace HBQ := Lib.hid (HBQ.out nq)
        generalize wr.drewN nq = wq at *
        go_wp2_with fail
        go_roundw
        case rel => exact ⟨k + 1, by omega, by go_num, HNO.out.succ (decide_eq_true HE.out), HBQ.out⟩
        case measure => simp [intOf]; omega
    · obtain rfl : k = ps.length := by omega
      have h1i : ¬ (ps.length : Int) < (ps.length : Int) := by omega
      have HR := Lib.hid (HOK.out HNO.out)
      clear hb
      go_wp2_with fail
      go_ret
      exact ⟨ret_bool HR.out.symm, HB.out⟩
set_option maxRecDepth 100000 in
set_option maxHeartbeats 8000000 in
theorem number35_1 (l : Lg) (A : Option Addr) (c : Nat) (tm : Int) (Ag : Option Addr) (cg : Nat) (grp : List Int) (w : World) (hv : Valid l) (hl : Gms w.heap.size w A l.games) (hc : l.games.length ≤ c ∧ c ≤ 9223372036854775807) (hgr : Ints w.heap.size w Ag grp) (hcg : grp.length ≤ cg ∧ cg ≤ 9223372036854775807) :
    Calls Try.prog 35 #[.agg #[.int .i64 l.teams, .slice A l.games.length c], .int .u8 1, .int .i64 tm, .slice Ag grp.length cg] w (Ans w (.int .i64 (numS 1 (hasI grp) tm l.games))) := by
  have hb : Below w.heap.size w (w.alloc (.cells #[.int .i64 l.teams, .slice A l.games.length c] 24)) := (Below.refl _ _).alloc (Nat.le_refl _) _
  have HB := Lib.hid hb
  have HL := Lib.hid (hl.step hb)
  have HG := Lib.hid (hgr.step hb)
  have k1 : (w.alloc (.cells #[.int .i64 l.teams, .slice A l.games.length c] 24)).cell? ⟨w.heap.size, 1, none⟩ = some (.slice A l.games.length c) := by simp
  have HV := Lib.hid hv
  have hl20 := hv.len
  clear hb hl hgr hv
  go_enter Try.func35, Try.ntmps35
  go_wp2_with fail
  generalize (w.alloc (.cells #[.int .i64 l.teams, .slice A l.games.length c] 24)) = x1 at *
  go_loopw [9, 10] (fun s i wr => ∃ k : Nat, k ≤ l.games.length ∧ i = .int .i64 k ∧ s = .int .i64 (numS 1 (hasI grp) tm (l.games.take k)) ∧ Below x1.heap.size x1 wr) (fun _ i _ => l.games.length - (intOf i).toNat)
  case atStart => exact ⟨0, by omega, rfl, by simp [numS], Below.refl _ _⟩
  case round =>
    obtain ⟨k, hk, rfl, rfl, hb⟩ := hrel
    have HBR := Lib.hid hb
    have j1 := cell_of_ans hb k1
    have HGR := Lib.hid (HG.out.step hb)
    by_cases h1 : k < l.games.length
    · have h1i : (k : Int) < (l.games.length : Int) := by omega
      have hwk : IntKind.i64.wrap ((k : Int) + 1) = (k : Int) + 1 := IntWalk.i64_in _ (by omega)
      obtain ⟨b, off, rfl, hb0, c1, c2, c3, c4, c5⟩ := (HL.out.step hb).at_ h1
      have HNK := Lib.hid (numS_take (code := 1) (grp := hasI grp) (t := tm) h1)
      have hg := HV.out.at h1
      have hnr := numS_range (code := 1) (grp := hasI grp) (t := tm) (gs := l.games.take k) (n := l.teams) (fun g hg => HV.out.mem (List.mem_of_mem_take hg))
      have hlt := List.length_take_le k l.games
      have hgr := g_range (gmx l.games k)
      have hpa := hg.pa0; have hpa1 := hg.pa1; have hpb := hg.pb0; have hpb1 := hg.pb1
      have HVGx : Hid (vG 1 (hasI grp) tm (gmx l.games k) = if (gmx l.games k).b = tm then ruV 1 (hasI grp) (gmx l.games k).a (gB (gmx l.games k)) (gmx l.games k).pb else if (gmx l.games k).a = tm then ruV 1 (hasI grp) (gmx l.games k).b (gA (gmx l.games k)) (gmx l.games k).pa else 0) := rfl
      have HG63 := Lib.hid (fun W => gives63_c (gmx l.games k) W)
      obtain ⟨gg, hgg⟩ : ∃ gg, gg = gmx l.games k := ⟨_, rfl⟩
      rw [← hgg] at c1 c2 c3 c4 c5 HNK hgr hpa hpa1 hpb hpb1 HVGx HG63
      clear hgg hg hb
      obtain ⟨gA_, hgA⟩ : ∃ x, gA gg = x := ⟨_, rfl⟩
      obtain ⟨gB_, hgB⟩ : ∃ x, gB gg = x := ⟨_, rfl⟩
      rw [hgA, hgB] at hgr HVGx HG63
      clear hgA hgB
      obtain ⟨vv, hvv⟩ : ∃ x, vG 1 (hasI grp) tm gg = x := ⟨_, rfl⟩
      rw [hvv] at HNK HVGx
      clear hvv
      obtain ⟨ga, gb, gpa, gpb, gop⟩ := gg
      unfold gmV at HG63
      dsimp only at c1 c2 c3 c4 c5 hpa hpa1 hpb hpb1 HVGx HG63
      generalize numS 1 (hasI grp) tm (l.games.take k) = nk at *
      have hba : Below wr.heap.size wr (wr.alloc (.cells #[.int .i64 ga, .int .i64 gb, .int .i64 gpa, .int .i64 gpb, .bool gop] 70)) := (Below.refl _ _).alloc (Nat.le_refl _) _
      have v0 : (wr.alloc (.cells #[.int .i64 ga, .int .i64 gb, .int .i64 gpa, .int .i64 gpb, .bool gop] 70)).cell? ⟨wr.heap.size, 0, none⟩ = some (.int .i64 ga) := by simp
      have v1 : (wr.alloc (.cells #[.int .i64 ga, .int .i64 gb, .int .i64 gpa, .int .i64 gpb, .bool gop] 70)).cell? ⟨wr.heap.size, 1, none⟩ = some (.int .i64 gb) := by simp
      have v2 : (wr.alloc (.cells #[.int .i64 ga, .int .i64 gb, .int .i64 gpa, .int .i64 gpb, .bool gop] 70)).cell? ⟨wr.heap.size, 2, none⟩ = some (.int .i64 gpa) := by simp
      have v3 : (wr.alloc (.cells #[.int .i64 ga, .int .i64 gb, .int .i64 gpa, .int .i64 gpb, .bool gop] 70)).cell? ⟨wr.heap.size, 3, none⟩ = some (.int .i64 gpb) := by simp
      have v4 : (wr.alloc (.cells #[.int .i64 ga, .int .i64 gb, .int .i64 gpa, .int .i64 gpb, .bool gop] 70)).cell? ⟨wr.heap.size, 4, none⟩ = some (.bool gop) := by simp
      have HGZ := Lib.hid (HGR.out.step hba)
      have HBZ : Hid (Below x1.heap.size x1 (wr.alloc (.cells #[.int .i64 ga, .int .i64 gb, .int .i64 gpa, .int .i64 gpb, .bool gop] 70))) := HBR.out.trans (hba.mono HBR.out.size)
      clear hba
      go_wp2_with fail
      generalize (wr.alloc (.cells #[.int .i64 ga, .int .i64 gb, .int .i64 gpa, .int .i64 gpb, .bool gop] 70)) = wx at *
      generalize wr.heap.size = q at *
      refine (HG63.out _).mono ?_
      rintro e wy ⟨rfl, hb⟩
      replace v0 := cell_of_ans hb v0
      replace v1 := cell_of_ans hb v1
      replace v2 := cell_of_ans hb v2
      replace v3 := cell_of_ans hb v3
      replace HGZ := Lib.hid (HGZ.out.step hb)
      replace HBZ : Hid (Below x1.heap.size x1 wy) := HBZ.out.trans (hb.mono HBZ.out.size)
      clear hb c1 c2 c3 c4 c5 v4 HBR HGR j1
      go_upto_region 7 with fail
      go_quiet (fail)
      have hbq : Below wy.heap.size wy (wy.drewN nq) := below_drewN (Below.refl _ _) nq
      replace v0 := cell_of_ans hbq v0
      replace v1 := cell_of_ans hbq v1
      replace v2 := cell_of_ans hbq v2
      replace v3 := cell_of_ans hbq v3
      replace HGZ := Lib.hid (HGZ.out.step hbq)
      replace HBZ : Hid (Below x1.heap.size x1 (wy.drewN nq)) := below_drewN HBZ.out nq
      clear hbq
      generalize wy.drewN nq = wz0 at *
      have q5 : IntKind.i64.wrap (nk + gA_) = nk + gA_ := IntWalk.i64_in _ (by omega)
      have q6 : IntKind.i64.wrap (nk + gB_) = nk + gB_ := IntWalk.i64_in _ (by omega)
      by_cases eb : gb = tm
      · have e1 : (gb == tm) = true := by simp [eb]
        have HVG : Hid (vv = ruV 1 (hasI grp) ga gB_ gpb) := by show _ = _; rw [HVGx.out, if_pos eb]
        clear eb HVGx
        go_upto_region 9 with fail
        go_quiet (fail)
        have hbq : Below wz0.heap.size wz0 (wz0.drewN nq) := below_drewN (Below.refl _ _) nq
        replace v0 := cell_of_ans hbq v0
        replace v1 := cell_of_ans hbq v1
        replace v2 := cell_of_ans hbq v2
        replace v3 := cell_of_ans hbq v3
        replace HGZ := Lib.hid (HGZ.out.step hbq)
        replace HBZ : Hid (Below x1.heap.size x1 (wz0.drewN nq)) := below_drewN HBZ.out nq
        clear hbq
        generalize wz0.drewN nq = wz at *
        have HN : Hid (numS 1 (hasI grp) tm (l.games.take (k + 1)) = nk + gB_) := by show _ = _; rw [HNK.out, HVG.out]; simp [ruV]
        go_wp2_with fail
        go_roundw
        case rel => exact ⟨k + 1, by omega, by go_num, by rw [HN.out], HBZ.out⟩
        case measure => simp [intOf]; omega
      · have e1 : (gb == tm) = false := by simp [eb]
        by_cases ea : ga = tm
        · have e2 : (ga == tm) = true := by simp [ea]
          have e3 : (ga != tm) = false := by simp [ea]
          have HVG : Hid (vv = ruV 1 (hasI grp) gb gA_ gpa) := by show _ = _; rw [HVGx.out, if_neg eb, if_pos ea]
          clear ea eb HVGx
          generalize wz0 = wz at *
          have HN : Hid (numS 1 (hasI grp) tm (l.games.take (k + 1)) = nk + gA_) := by show _ = _; rw [HNK.out, HVG.out]; simp [ruV]
          go_wp2_with fail
          go_roundw
          case rel => exact ⟨k + 1, by omega, by go_num, by rw [HN.out], HBZ.out⟩
          case measure => simp [intOf]; omega
        · have e2 : (ga == tm) = false := by simp [ea]
          have e3 : (ga != tm) = true := by simp [ea]
          have HN : Hid (numS 1 (hasI grp) tm (l.games.take (k + 1)) = nk) := by show _ = _; rw [HNK.out, HVGx.out, if_neg eb, if_neg ea]; omega
          clear ea eb HVGx
          go_wp2_with fail
          go_roundw
          case rel => exact ⟨k + 1, by omega, by go_num, by rw [HN.out], HBZ.out⟩
          case measure => simp [intOf]; omega
    · obtain rfl : k = l.games.length := by omega
      have h1i : ¬ (l.games.length : Int) < (l.games.length : Int) := by omega
      clear hb
      go_wp2_with fail
      go_ret
      exact ⟨by first | rfl | exact ret_int (by rw [List.take_length]), HB.out.trans (HBR.out.mono HB.out.size)⟩
set_option maxRecDepth 100000 in
set_option maxHeartbeats 8000000 in
theorem number35_2 (l : Lg) (A : Option Addr) (c : Nat) (tm : Int) (Ag : Option Addr) (cg : Nat) (grp : List Int) (w : World) (hv : Valid l) (hl : Gms w.heap.size w A l.games) (hc : l.games.length ≤ c ∧ c ≤ 9223372036854775807) (hgr : Ints w.heap.size w Ag grp) (hcg : grp.length ≤ cg ∧ cg ≤ 9223372036854775807) :
    Calls Try.prog 35 #[.agg #[.int .i64 l.teams, .slice A l.games.length c], .int .u8 2, .int .i64 tm, .slice Ag grp.length cg] w (Ans w (.int .i64 (numS 2 (hasI grp) tm l.games))) := by
  have hb : Below w.heap.size w (w.alloc (.cells #[.int .i64 l.teams, .slice A l.games.length c] 24)) := (Below.refl _ _).alloc (Nat.le_refl _) _
  have HB := Lib.hid hb
  have HL := Lib.hid (hl.step hb)
  have HG := Lib.hid (hgr.step hb)
  have k1 : (w.alloc (.cells #[.int .i64 l.teams, .slice A l.games.length c] 24)).cell? ⟨w.heap.size, 1, none⟩ = some (.slice A l.games.length c) := by simp
  have HV := Lib.hid hv
  have hl20 := hv.len
  clear hb hl hgr hv
  go_enter Try.func35, Try.ntmps35
  go_wp2_with fail
  generalize (w.alloc (.cells #[.int .i64 l.teams, .slice A l.games.length c] 24)) = x1 at *
  go_loopw [9, 10] (fun s i wr => ∃ k : Nat, k ≤ l.games.length ∧ i = .int .i64 k ∧ s = .int .i64 (numS 2 (hasI grp) tm (l.games.take k)) ∧ Below x1.heap.size x1 wr) (fun _ i _ => l.games.length - (intOf i).toNat)
  case atStart => exact ⟨0, by omega, rfl, by simp [numS], Below.refl _ _⟩
  case round =>
    obtain ⟨k, hk, rfl, rfl, hb⟩ := hrel
    have HBR := Lib.hid hb
    have j1 := cell_of_ans hb k1
    have HGR := Lib.hid (HG.out.step hb)
    by_cases h1 : k < l.games.length
    · have h1i : (k : Int) < (l.games.length : Int) := by omega
      have hwk : IntKind.i64.wrap ((k : Int) + 1) = (k : Int) + 1 := IntWalk.i64_in _ (by omega)
      obtain ⟨b, off, rfl, hb0, c1, c2, c3, c4, c5⟩ := (HL.out.step hb).at_ h1
      have HNK := Lib.hid (numS_take (code := 2) (grp := hasI grp) (t := tm) h1)
      have hg := HV.out.at h1
      have hnr := numS_range (code := 2) (grp := hasI grp) (t := tm) (gs := l.games.take k) (n := l.teams) (fun g hg => HV.out.mem (List.mem_of_mem_take hg))
      have hlt := List.length_take_le k l.games
      have hgr := g_range (gmx l.games k)
      have hpa := hg.pa0; have hpa1 := hg.pa1; have hpb := hg.pb0; have hpb1 := hg.pb1
      have HVGx : Hid (vG 2 (hasI grp) tm (gmx l.games k) = if (gmx l.games k).b = tm then ruV 2 (hasI grp) (gmx l.games k).a (gB (gmx l.games k)) (gmx l.games k).pb else if (gmx l.games k).a = tm then ruV 2 (hasI grp) (gmx l.games k).b (gA (gmx l.games k)) (gmx l.games k).pa else 0) := rfl
      have HG63 := Lib.hid (fun W => gives63_c (gmx l.games k) W)
      obtain ⟨gg, hgg⟩ : ∃ gg, gg = gmx l.games k := ⟨_, rfl⟩
      rw [← hgg] at c1 c2 c3 c4 c5 HNK hgr hpa hpa1 hpb hpb1 HVGx HG63
      clear hgg hg hb
      obtain ⟨gA_, hgA⟩ : ∃ x, gA gg = x := ⟨_, rfl⟩
      obtain ⟨gB_, hgB⟩ : ∃ x, gB gg = x := ⟨_, rfl⟩
      rw [hgA, hgB] at hgr HVGx HG63
      clear hgA hgB
      obtain ⟨vv, hvv⟩ : ∃ x, vG 2 (hasI grp) tm gg = x := ⟨_, rfl⟩
      rw [hvv] at HNK HVGx
      clear hvv
      obtain ⟨ga, gb, gpa, gpb, gop⟩ := gg
      unfold gmV at HG63
      dsimp only at c1 c2 c3 c4 c5 hpa hpa1 hpb hpb1 HVGx HG63
      generalize numS 2 (hasI grp) tm (l.games.take k) = nk at *
      have hba : Below wr.heap.size wr (wr.alloc (.cells #[.int .i64 ga, .int .i64 gb, .int .i64 gpa, .int .i64 gpb, .bool gop] 70)) := (Below.refl _ _).alloc (Nat.le_refl _) _
      have v0 : (wr.alloc (.cells #[.int .i64 ga, .int .i64 gb, .int .i64 gpa, .int .i64 gpb, .bool gop] 70)).cell? ⟨wr.heap.size, 0, none⟩ = some (.int .i64 ga) := by simp
      have v1 : (wr.alloc (.cells #[.int .i64 ga, .int .i64 gb, .int .i64 gpa, .int .i64 gpb, .bool gop] 70)).cell? ⟨wr.heap.size, 1, none⟩ = some (.int .i64 gb) := by simp
      have v2 : (wr.alloc (.cells #[.int .i64 ga, .int .i64 gb, .int .i64 gpa, .int .i64 gpb, .bool gop] 70)).cell? ⟨wr.heap.size, 2, none⟩ = some (.int .i64 gpa) := by simp
      have v3 : (wr.alloc (.cells #[.int .i64 ga, .int .i64 gb, .int .i64 gpa, .int .i64 gpb, .bool gop] 70)).cell? ⟨wr.heap.size, 3, none⟩ = some (.int .i64 gpb) := by simp
      have v4 : (wr.alloc (.cells #[.int .i64 ga, .int .i64 gb, .int .i64 gpa, .int .i64 gpb, .bool gop] 70)).cell? ⟨wr.heap.size, 4, none⟩ = some (.bool gop) := by simp
      have HGZ := Lib.hid (HGR.out.step hba)
      have HBZ : Hid (Below x1.heap.size x1 (wr.alloc (.cells #[.int .i64 ga, .int .i64 gb, .int .i64 gpa, .int .i64 gpb, .bool gop] 70))) := HBR.out.trans (hba.mono HBR.out.size)
      clear hba
      go_wp2_with fail
      generalize (wr.alloc (.cells #[.int .i64 ga, .int .i64 gb, .int .i64 gpa, .int .i64 gpb, .bool gop] 70)) = wx at *
      generalize wr.heap.size = q at *
      refine (HG63.out _).mono ?_
      rintro e wy ⟨rfl, hb⟩
      replace v0 := cell_of_ans hb v0
      replace v1 := cell_of_ans hb v1
      replace v2 := cell_of_ans hb v2
      replace v3 := cell_of_ans hb v3
      replace HGZ := Lib.hid (HGZ.out.step hb)
      replace HBZ : Hid (Below x1.heap.size x1 wy) := HBZ.out.trans (hb.mono HBZ.out.size)
      clear hb c1 c2 c3 c4 c5 v4 HBR HGR j1
      go_upto_region 7 with fail
      go_quiet (fail)
      have hbq : Below wy.heap.size wy (wy.drewN nq) := below_drewN (Below.refl _ _) nq
      replace v0 := cell_of_ans hbq v0
      replace v1 := cell_of_ans hbq v1
      replace v2 := cell_of_ans hbq v2
      replace v3 := cell_of_ans hbq v3
      replace HGZ := Lib.hid (HGZ.out.step hbq)
      replace HBZ : Hid (Below x1.heap.size x1 (wy.drewN nq)) := below_drewN HBZ.out nq
      clear hbq
      generalize wy.drewN nq = wz0 at *
      have q5 : gA_.tdiv 2 = gA_ / 2 := Int.tdiv_eq_ediv_of_nonneg (by omega)
      have q6 : gB_.tdiv 2 = gB_ / 2 := Int.tdiv_eq_ediv_of_nonneg (by omega)
      have q7 : IntKind.i64.wrap (gA_ / 2) = gA_ / 2 := IntWalk.i64_in _ (by omega)
      have q8 : IntKind.i64.wrap (gB_ / 2) = gB_ / 2 := IntWalk.i64_in _ (by omega)
      have q9 : IntKind.i64.wrap (nk + gA_ / 2) = nk + gA_ / 2 := IntWalk.i64_in _ (by omega)
      have q10 : IntKind.i64.wrap (nk + gB_ / 2) = nk + gB_ / 2 := IntWalk.i64_in _ (by omega)
      by_cases eb : gb = tm
      · have e1 : (gb == tm) = true := by simp [eb]
        have HVG : Hid (vv = ruV 2 (hasI grp) ga gB_ gpb) := by show _ = _; rw [HVGx.out, if_pos eb]
        clear eb HVGx
        go_upto_region 9 with fail
        go_quiet (fail)
        have hbq : Below wz0.heap.size wz0 (wz0.drewN nq) := below_drewN (Below.refl _ _) nq
        replace v0 := cell_of_ans hbq v0
        replace v1 := cell_of_ans hbq v1
        replace v2 := cell_of_ans hbq v2
        replace v3 := cell_of_ans hbq v3
        replace HGZ := Lib.hid (HGZ.out.step hbq)
        replace HBZ : Hid (Below x1.heap.size x1 (wz0.drewN nq)) := below_drewN HBZ.out nq
        clear hbq
        generalize wz0.drewN nq = wz at *
        have HN : Hid (numS 2 (hasI grp) tm (l.games.take (k + 1)) = nk + gB_ / 2) := by show _ = _; rw [HNK.out, HVG.out]; simp [ruV]
        go_wp2_with fail
        go_roundw
        case rel => exact ⟨k + 1, by omega, by go_num, by rw [HN.out], HBZ.out⟩
        case measure => simp [intOf]; omega
      · have e1 : (gb == tm) = false := by simp [eb]
        by_cases ea : ga = tm
        · have e2 : (ga == tm) = true := by simp [ea]
          have e3 : (ga != tm) = false := by simp [ea]
          have HVG : Hid (vv = ruV 2 (hasI grp) gb gA_ gpa) := by show _ = _; rw [HVGx.out, if_neg eb, if_pos ea]
          clear ea eb HVGx
          generalize wz0 = wz at *
          have HN : Hid (numS 2 (hasI grp) tm (l.games.take (k + 1)) = nk + gA_ / 2) := by show _ = _; rw [HNK.out, HVG.out]; simp [ruV]
          go_wp2_with fail
          go_roundw
          case rel => exact ⟨k + 1, by omega, by go_num, by rw [HN.out], HBZ.out⟩
          case measure => simp [intOf]; omega
        · have e2 : (ga == tm) = false := by simp [ea]
          have e3 : (ga != tm) = true := by simp [ea]
          have HN : Hid (numS 2 (hasI grp) tm (l.games.take (k + 1)) = nk) := by show _ = _; rw [HNK.out, HVGx.out, if_neg eb, if_neg ea]; omega
          clear ea eb HVGx
          go_wp2_with fail
          go_roundw
          case rel => exact ⟨k + 1, by omega, by go_num, by rw [HN.out], HBZ.out⟩
          case measure => simp [intOf]; omega
    · obtain rfl : k = l.games.length := by omega
      have h1i : ¬ (l.games.length : Int) < (l.games.length : Int) := by omega
      clear hb
      go_wp2_with fail
      go_ret
      exact ⟨by first | rfl | exact ret_int (by rw [List.take_length]), HB.out.trans (HBR.out.mono HB.out.size)⟩
set_option maxRecDepth 100000 in
set_option maxHeartbeats 8000000 in
theorem number35_3 (l : Lg) (A : Option Addr) (c : Nat) (tm : Int) (Ag : Option Addr) (cg : Nat) (grp : List Int) (w : World) (hv : Valid l) (hl : Gms w.heap.size w A l.games) (hc : l.games.length ≤ c ∧ c ≤ 9223372036854775807) (hgr : Ints w.heap.size w Ag grp) (hcg : grp.length ≤ cg ∧ cg ≤ 9223372036854775807) :
    Calls Try.prog 35 #[.agg #[.int .i64 l.teams, .slice A l.games.length c], .int .u8 3, .int .i64 tm, .slice Ag grp.length cg] w (Ans w (.int .i64 (numS 3 (hasI grp) tm l.games))) := by
  have hb : Below w.heap.size w (w.alloc (.cells #[.int .i64 l.teams, .slice A l.games.length c] 24)) := (Below.refl _ _).alloc (Nat.le_refl _) _
  have HB := Lib.hid hb
  have HL := Lib.hid (hl.step hb)
  have HG := Lib.hid (hgr.step hb)
  have k1 : (w.alloc (.cells #[.int .i64 l.teams, .slice A l.games.length c] 24)).cell? ⟨w.heap.size, 1, none⟩ = some (.slice A l.games.length c) := by simp
  have HV := Lib.hid hv
  have hl20 := hv.len
  clear hb hl hgr hv
  go_enter Try.func35, Try.ntmps35
  go_wp2_with fail
  generalize (w.alloc (.cells #[.int .i64 l.teams, .slice A l.games.length c] 24)) = x1 at *
  go_loopw [9, 10] (fun s i wr => ∃ k : Nat, k ≤ l.games.length ∧ i = .int .i64 k ∧ s = .int .i64 (numS 3 (hasI grp) tm (l.games.take k)) ∧ Below x1.heap.size x1 wr) (fun _ i _ => l.games.length - (intOf i).toNat)
  case atStart => exact ⟨0, by omega, rfl, by simp [numS], Below.refl _ _⟩
  case round =>
    obtain ⟨k, hk, rfl, rfl, hb⟩ := hrel
    have HBR := Lib.hid hb
    have j1 := cell_of_ans hb k1
    have HGR := Lib.hid (HG.out.step hb)
    by_cases h1 : k < l.games.length
    · have h1i : (k : Int) < (l.games.length : Int) := by omega
      have hwk : IntKind.i64.wrap ((k : Int) + 1) = (k : Int) + 1 := IntWalk.i64_in _ (by omega)
      obtain ⟨b, off, rfl, hb0, c1, c2, c3, c4, c5⟩ := (HL.out.step hb).at_ h1
      have HNK := Lib.hid (numS_take (code := 3) (grp := hasI grp) (t := tm) h1)
      have hg := HV.out.at h1
      have hnr := numS_range (code := 3) (grp := hasI grp) (t := tm) (gs := l.games.take k) (n := l.teams) (fun g hg => HV.out.mem (List.mem_of_mem_take hg))
      have hlt := List.length_take_le k l.games
      have hgr := g_range (gmx l.games k)
      have hpa := hg.pa0; have hpa1 := hg.pa1; have hpb := hg.pb0; have hpb1 := hg.pb1
      have HVGx : Hid (vG 3 (hasI grp) tm (gmx l.games k) = if (gmx l.games k).b = tm then ruV 3 (hasI grp) (gmx l.games k).a (gB (gmx l.games k)) (gmx l.games k).pb else if (gmx l.games k).a = tm then ruV 3 (hasI grp) (gmx l.games k).b (gA (gmx l.games k)) (gmx l.games k).pa else 0) := rfl
      have HG63 := Lib.hid (fun W => gives63_c (gmx l.games k) W)
      obtain ⟨gg, hgg⟩ : ∃ gg, gg = gmx l.games k := ⟨_, rfl⟩
      rw [← hgg] at c1 c2 c3 c4 c5 HNK hgr hpa hpa1 hpb hpb1 HVGx HG63
      clear hgg hg hb
      obtain ⟨gA_, hgA⟩ : ∃ x, gA gg = x := ⟨_, rfl⟩
      obtain ⟨gB_, hgB⟩ : ∃ x, gB gg = x := ⟨_, rfl⟩
      rw [hgA, hgB] at hgr HVGx HG63
      clear hgA hgB
      obtain ⟨vv, hvv⟩ : ∃ x, vG 3 (hasI grp) tm gg = x := ⟨_, rfl⟩
      rw [hvv] at HNK HVGx
      clear hvv
      obtain ⟨ga, gb, gpa, gpb, gop⟩ := gg
      unfold gmV at HG63
      dsimp only at c1 c2 c3 c4 c5 hpa hpa1 hpb hpb1 HVGx HG63
      generalize numS 3 (hasI grp) tm (l.games.take k) = nk at *
      have hba : Below wr.heap.size wr (wr.alloc (.cells #[.int .i64 ga, .int .i64 gb, .int .i64 gpa, .int .i64 gpb, .bool gop] 70)) := (Below.refl _ _).alloc (Nat.le_refl _) _
      have v0 : (wr.alloc (.cells #[.int .i64 ga, .int .i64 gb, .int .i64 gpa, .int .i64 gpb, .bool gop] 70)).cell? ⟨wr.heap.size, 0, none⟩ = some (.int .i64 ga) := by simp
      have v1 : (wr.alloc (.cells #[.int .i64 ga, .int .i64 gb, .int .i64 gpa, .int .i64 gpb, .bool gop] 70)).cell? ⟨wr.heap.size, 1, none⟩ = some (.int .i64 gb) := by simp
      have v2 : (wr.alloc (.cells #[.int .i64 ga, .int .i64 gb, .int .i64 gpa, .int .i64 gpb, .bool gop] 70)).cell? ⟨wr.heap.size, 2, none⟩ = some (.int .i64 gpa) := by simp
      have v3 : (wr.alloc (.cells #[.int .i64 ga, .int .i64 gb, .int .i64 gpa, .int .i64 gpb, .bool gop] 70)).cell? ⟨wr.heap.size, 3, none⟩ = some (.int .i64 gpb) := by simp
      have v4 : (wr.alloc (.cells #[.int .i64 ga, .int .i64 gb, .int .i64 gpa, .int .i64 gpb, .bool gop] 70)).cell? ⟨wr.heap.size, 4, none⟩ = some (.bool gop) := by simp
      have HGZ := Lib.hid (HGR.out.step hba)
      have HBZ : Hid (Below x1.heap.size x1 (wr.alloc (.cells #[.int .i64 ga, .int .i64 gb, .int .i64 gpa, .int .i64 gpb, .bool gop] 70))) := HBR.out.trans (hba.mono HBR.out.size)
      clear hba
      go_wp2_with fail
      generalize (wr.alloc (.cells #[.int .i64 ga, .int .i64 gb, .int .i64 gpa, .int .i64 gpb, .bool gop] 70)) = wx at *
      generalize wr.heap.size = q at *
      refine (HG63.out _).mono ?_
      rintro e wy ⟨rfl, hb⟩
      replace v0 := cell_of_ans hb v0
      replace v1 := cell_of_ans hb v1
      replace v2 := cell_of_ans hb v2
      replace v3 := cell_of_ans hb v3
      replace HGZ := Lib.hid (HGZ.out.step hb)
      replace HBZ : Hid (Below x1.heap.size x1 wy) := HBZ.out.trans (hb.mono HBZ.out.size)
      clear hb c1 c2 c3 c4 c5 v4 HBR HGR j1
      go_upto_region 7 with fail
      go_quiet (fail)
      have hbq : Below wy.heap.size wy (wy.drewN nq) := below_drewN (Below.refl _ _) nq
      replace v0 := cell_of_ans hbq v0
      replace v1 := cell_of_ans hbq v1
      replace v2 := cell_of_ans hbq v2
      replace v3 := cell_of_ans hbq v3
      replace HGZ := Lib.hid (HGZ.out.step hbq)
      replace HBZ : Hid (Below x1.heap.size x1 (wy.drewN nq)) := below_drewN HBZ.out nq
      clear hbq
      generalize wy.drewN nq = wz0 at *
      have q5 : IntKind.i64.wrap (nk + gA_) = nk + gA_ := IntWalk.i64_in _ (by omega)
      have q6 : IntKind.i64.wrap (nk + gB_) = nk + gB_ := IntWalk.i64_in _ (by omega)
      by_cases eb : gb = tm
      · have e1 : (gb == tm) = true := by simp [eb]
        have HVG : Hid (vv = ruV 3 (hasI grp) ga gB_ gpb) := by show _ = _; rw [HVGx.out, if_pos eb]
        clear eb HVGx
        go_upto_region 9 with fail
        go_quiet (fail)
        have hbq : Below wz0.heap.size wz0 (wz0.drewN nq) := below_drewN (Below.refl _ _) nq
        replace v0 := cell_of_ans hbq v0
        replace v1 := cell_of_ans hbq v1
        replace v2 := cell_of_ans hbq v2
        replace v3 := cell_of_ans hbq v3
        replace HGZ := Lib.hid (HGZ.out.step hbq)
        replace HBZ : Hid (Below x1.heap.size x1 (wz0.drewN nq)) := below_drewN HBZ.out nq
        clear hbq
        generalize wz0.drewN nq = wz at *
        have HHS := Lib.hid (has68_c Ag grp cg ga wz HGZ.out hcg)
        cases hhs : hasI grp ga
        · rw [hhs] at HHS
          have HN : Hid (numS 3 (hasI grp) tm (l.games.take (k + 1)) = nk) := by show _ = _; rw [HNK.out, HVG.out]; simp [ruV, hhs]
          clear hhs
          go_wp2_with fail
          refine HHS.out.mono ?_
          rintro e w8 ⟨rfl, rfl⟩
          go_wp2_with fail
          go_roundw
          case rel => exact ⟨k + 1, by omega, by go_num, by rw [HN.out], HBZ.out⟩
          case measure => simp [intOf]; omega
        · rw [hhs] at HHS
          have HN : Hid (numS 3 (hasI grp) tm (l.games.take (k + 1)) = nk + gB_) := by show _ = _; rw [HNK.out, HVG.out]; simp [ruV, hhs]
          clear hhs
          go_wp2_with fail
          refine HHS.out.mono ?_
          rintro e w8 ⟨rfl, rfl⟩
          go_wp2_with fail
          go_roundw
          case rel => exact ⟨k + 1, by omega, by go_num, by rw [HN.out], HBZ.out⟩
          case measure => simp [intOf]; omega
      · have e1 : (gb == tm) = false := by simp [eb]
        by_cases ea : ga = tm
        · have e2 : (ga == tm) = true := by simp [ea]
          have e3 : (ga != tm) = false := by simp [ea]
          have HVG : Hid (vv = ruV 3 (hasI grp) gb gA_ gpa) := by show _ = _; rw [HVGx.out, if_neg eb, if_pos ea]
          clear ea eb HVGx
          generalize wz0 = wz at *
          have HHS := Lib.hid (has68_c Ag grp cg gb wz HGZ.out hcg)
          cases hhs : hasI grp gb
          · rw [hhs] at HHS
            have HN : Hid (numS 3 (hasI grp) tm (l.games.take (k + 1)) = nk) := by show _ = _; rw [HNK.out, HVG.out]; simp [ruV, hhs]
            clear hhs
            go_wp2_with fail
            refine HHS.out.mono ?_
            rintro e w8 ⟨rfl, rfl⟩
            go_wp2_with fail
            go_roundw
            case rel => exact ⟨k + 1, by omega, by go_num, by rw [HN.out], HBZ.out⟩
            case measure => simp [intOf]; omega
          · rw [hhs] at HHS
            have HN : Hid (numS 3 (hasI grp) tm (l.games.take (k + 1)) = nk + gA_) := by show _ = _; rw [HNK.out, HVG.out]; simp [ruV, hhs]
            clear hhs
            go_wp2_with fail
            refine HHS.out.mono ?_
            rintro e w8 ⟨rfl, rfl⟩
            go_wp2_with fail
            go_roundw
            case rel => exact ⟨k + 1, by omega, by go_num, by rw [HN.out], HBZ.out⟩
            case measure => simp [intOf]; omega
        · have e2 : (ga == tm) = false := by simp [ea]
          have e3 : (ga != tm) = true := by simp [ea]
          have HN : Hid (numS 3 (hasI grp) tm (l.games.take (k + 1)) = nk) := by show _ = _; rw [HNK.out, HVGx.out, if_neg eb, if_neg ea]; omega
          clear ea eb HVGx
          go_wp2_with fail
          go_roundw
          case rel => exact ⟨k + 1, by omega, by go_num, by rw [HN.out], HBZ.out⟩
          case measure => simp [intOf]; omega
    · obtain rfl : k = l.games.length := by omega
      have h1i : ¬ (l.games.length : Int) < (l.games.length : Int) := by omega
      clear hb
      go_wp2_with fail
      go_ret
      exact ⟨by first | rfl | exact ret_int (by rw [List.take_length]), HB.out.trans (HBR.out.mono HB.out.size)⟩
set_option maxRecDepth 100000 in
set_option maxHeartbeats 8000000 in
theorem number35_4 (l : Lg) (A : Option Addr) (c : Nat) (tm : Int) (Ag : Option Addr) (cg : Nat) (grp : List Int) (w : World) (hv : Valid l) (hl : Gms w.heap.size w A l.games) (hc : l.games.length ≤ c ∧ c ≤ 9223372036854775807) (hgr : Ints w.heap.size w Ag grp) (hcg : grp.length ≤ cg ∧ cg ≤ 9223372036854775807) :
    Calls Try.prog 35 #[.agg #[.int .i64 l.teams, .slice A l.games.length c], .int .u8 4, .int .i64 tm, .slice Ag grp.length cg] w (Ans w (.int .i64 (numS 4 (hasI grp) tm l.games))) := by
  have hb : Below w.heap.size w (w.alloc (.cells #[.int .i64 l.teams, .slice A l.games.length c] 24)) := (Below.refl _ _).alloc (Nat.le_refl _) _
  have HB := Lib.hid hb
  have HL := Lib.hid (hl.step hb)
  have HG := Lib.hid (hgr.step hb)
  have k1 : (w.alloc (.cells #[.int .i64 l.teams, .slice A l.games.length c] 24)).cell? ⟨w.heap.size, 1, none⟩ = some (.slice A l.games.length c) := by simp
  have HV := Lib.hid hv
  have hl20 := hv.len
  clear hb hl hgr hv
  go_enter Try.func35, Try.ntmps35
  go_wp2_with fail
  generalize (w.alloc (.cells #[.int .i64 l.teams, .slice A l.games.length c] 24)) = x1 at *
  go_loopw [9, 10] (fun s i wr => ∃ k : Nat, k ≤ l.games.length ∧ i = .int .i64 k ∧ s = .int .i64 (numS 4 (hasI grp) tm (l.games.take k)) ∧ Below x1.heap.size x1 wr) (fun _ i _ => l.games.length - (intOf i).toNat)
  case atStart => exact ⟨0, by omega, rfl, by simp [numS], Below.refl _ _⟩
  case round =>
    obtain ⟨k, hk, rfl, rfl, hb⟩ := hrel
    have HBR := Lib.hid hb
    have j1 := cell_of_ans hb k1
    have HGR := Lib.hid (HG.out.step hb)
    by_cases h1 : k < l.games.length
    · have h1i : (k : Int) < (l.games.length : Int) := by omega
      have hwk : IntKind.i64.wrap ((k : Int) + 1) = (k : Int) + 1 := IntWalk.i64_in _ (by omega)
      obtain ⟨b, off, rfl, hb0, c1, c2, c3, c4, c5⟩ := (HL.out.step hb).at_ h1
      have HNK := Lib.hid (numS_take (code := 4) (grp := hasI grp) (t := tm) h1)
      have hg := HV.out.at h1
      have hnr := numS_range (code := 4) (grp := hasI grp) (t := tm) (gs := l.games.take k) (n := l.teams) (fun g hg => HV.out.mem (List.mem_of_mem_take hg))
      have hlt := List.length_take_le k l.games
      have hgr := g_range (gmx l.games k)
      have hpa := hg.pa0; have hpa1 := hg.pa1; have hpb := hg.pb0; have hpb1 := hg.pb1
      have HVGx : Hid (vG 4 (hasI grp) tm (gmx l.games k) = if (gmx l.games k).b = tm then ruV 4 (hasI grp) (gmx l.games k).a (gB (gmx l.games k)) (gmx l.games k).pb else if (gmx l.games k).a = tm then ruV 4 (hasI grp) (gmx l.games k).b (gA (gmx l.games k)) (gmx l.games k).pa else 0) := rfl
      have HG63 := Lib.hid (fun W => gives63_c (gmx l.games k) W)
      obtain ⟨gg, hgg⟩ : ∃ gg, gg = gmx l.games k := ⟨_, rfl⟩
      rw [← hgg] at c1 c2 c3 c4 c5 HNK hgr hpa hpa1 hpb hpb1 HVGx HG63
      clear hgg hg hb
      obtain ⟨gA_, hgA⟩ : ∃ x, gA gg = x := ⟨_, rfl⟩
      obtain ⟨gB_, hgB⟩ : ∃ x, gB gg = x := ⟨_, rfl⟩
      rw [hgA, hgB] at hgr HVGx HG63
      clear hgA hgB
      obtain ⟨vv, hvv⟩ : ∃ x, vG 4 (hasI grp) tm gg = x := ⟨_, rfl⟩
      rw [hvv] at HNK HVGx
      clear hvv
      obtain ⟨ga, gb, gpa, gpb, gop⟩ := gg
      unfold gmV at HG63
      dsimp only at c1 c2 c3 c4 c5 hpa hpa1 hpb hpb1 HVGx HG63
      generalize numS 4 (hasI grp) tm (l.games.take k) = nk at *
      have hba : Below wr.heap.size wr (wr.alloc (.cells #[.int .i64 ga, .int .i64 gb, .int .i64 gpa, .int .i64 gpb, .bool gop] 70)) := (Below.refl _ _).alloc (Nat.le_refl _) _
      have v0 : (wr.alloc (.cells #[.int .i64 ga, .int .i64 gb, .int .i64 gpa, .int .i64 gpb, .bool gop] 70)).cell? ⟨wr.heap.size, 0, none⟩ = some (.int .i64 ga) := by simp
      have v1 : (wr.alloc (.cells #[.int .i64 ga, .int .i64 gb, .int .i64 gpa, .int .i64 gpb, .bool gop] 70)).cell? ⟨wr.heap.size, 1, none⟩ = some (.int .i64 gb) := by simp
      have v2 : (wr.alloc (.cells #[.int .i64 ga, .int .i64 gb, .int .i64 gpa, .int .i64 gpb, .bool gop] 70)).cell? ⟨wr.heap.size, 2, none⟩ = some (.int .i64 gpa) := by simp
      have v3 : (wr.alloc (.cells #[.int .i64 ga, .int .i64 gb, .int .i64 gpa, .int .i64 gpb, .bool gop] 70)).cell? ⟨wr.heap.size, 3, none⟩ = some (.int .i64 gpb) := by simp
      have v4 : (wr.alloc (.cells #[.int .i64 ga, .int .i64 gb, .int .i64 gpa, .int .i64 gpb, .bool gop] 70)).cell? ⟨wr.heap.size, 4, none⟩ = some (.bool gop) := by simp
      have HGZ := Lib.hid (HGR.out.step hba)
      have HBZ : Hid (Below x1.heap.size x1 (wr.alloc (.cells #[.int .i64 ga, .int .i64 gb, .int .i64 gpa, .int .i64 gpb, .bool gop] 70))) := HBR.out.trans (hba.mono HBR.out.size)
      clear hba
      go_wp2_with fail
      generalize (wr.alloc (.cells #[.int .i64 ga, .int .i64 gb, .int .i64 gpa, .int .i64 gpb, .bool gop] 70)) = wx at *
      generalize wr.heap.size = q at *
      refine (HG63.out _).mono ?_
      rintro e wy ⟨rfl, hb⟩
      replace v0 := cell_of_ans hb v0
      replace v1 := cell_of_ans hb v1
      replace v2 := cell_of_ans hb v2
      replace v3 := cell_of_ans hb v3
      replace HGZ := Lib.hid (HGZ.out.step hb)
      replace HBZ : Hid (Below x1.heap.size x1 wy) := HBZ.out.trans (hb.mono HBZ.out.size)
      clear hb c1 c2 c3 c4 c5 v4 HBR HGR j1
      go_upto_region 7 with fail
      go_quiet (fail)
      have hbq : Below wy.heap.size wy (wy.drewN nq) := below_drewN (Below.refl _ _) nq
      replace v0 := cell_of_ans hbq v0
      replace v1 := cell_of_ans hbq v1
      replace v2 := cell_of_ans hbq v2
      replace v3 := cell_of_ans hbq v3
      replace HGZ := Lib.hid (HGZ.out.step hbq)
      replace HBZ : Hid (Below x1.heap.size x1 (wy.drewN nq)) := below_drewN HBZ.out nq
      clear hbq
      generalize wy.drewN nq = wz0 at *
      have q5 : IntKind.i64.wrap (nk + gpa) = nk + gpa := IntWalk.i64_in _ (by omega)
      have q6 : IntKind.i64.wrap (nk + gpb) = nk + gpb := IntWalk.i64_in _ (by omega)
      by_cases eb : gb = tm
      · have e1 : (gb == tm) = true := by simp [eb]
        have HVG : Hid (vv = ruV 4 (hasI grp) ga gB_ gpb) := by show _ = _; rw [HVGx.out, if_pos eb]
        clear eb HVGx
        go_upto_region 9 with fail
        go_quiet (fail)
        have hbq : Below wz0.heap.size wz0 (wz0.drewN nq) := below_drewN (Below.refl _ _) nq
        replace v0 := cell_of_ans hbq v0
        replace v1 := cell_of_ans hbq v1
        replace v2 := cell_of_ans hbq v2
        replace v3 := cell_of_ans hbq v3
        replace HGZ := Lib.hid (HGZ.out.step hbq)
        replace HBZ : Hid (Below x1.heap.size x1 (wz0.drewN nq)) := below_drewN HBZ.out nq
        clear hbq
        generalize wz0.drewN nq = wz at *
        have HN : Hid (numS 4 (hasI grp) tm (l.games.take (k + 1)) = nk + gpb) := by show _ = _; rw [HNK.out, HVG.out]; simp [ruV]
        go_wp2_with fail
        go_roundw
        case rel => exact ⟨k + 1, by omega, by go_num, by rw [HN.out], HBZ.out⟩
        case measure => simp [intOf]; omega
      · have e1 : (gb == tm) = false := by simp [eb]
        by_cases ea : ga = tm
        · have e2 : (ga == tm) = true := by simp [ea]
          have e3 : (ga != tm) = false := by simp [ea]
          have HVG : Hid (vv = ruV 4 (hasI grp) gb gA_ gpa) := by show _ = _; rw [HVGx.out, if_neg eb, if_pos ea]
          clear ea eb HVGx
          generalize wz0 = wz at *
          have HN : Hid (numS 4 (hasI grp) tm (l.games.take (k + 1)) = nk + gpa) := by show _ = _; rw [HNK.out, HVG.out]; simp [ruV]
          go_wp2_with fail
          go_roundw
          case rel => exact ⟨k + 1, by omega, by go_num, by rw [HN.out], HBZ.out⟩
          case measure => simp [intOf]; omega
        · have e2 : (ga == tm) = false := by simp [ea]
          have e3 : (ga != tm) = true := by simp [ea]
          have HN : Hid (numS 4 (hasI grp) tm (l.games.take (k + 1)) = nk) := by show _ = _; rw [HNK.out, HVGx.out, if_neg eb, if_neg ea]; omega
          clear ea eb HVGx
          go_wp2_with fail
          go_roundw
          case rel => exact ⟨k + 1, by omega, by go_num, by rw [HN.out], HBZ.out⟩
          case measure => simp [intOf]; omega
    · obtain rfl : k = l.games.length := by omega
      have h1i : ¬ (l.games.length : Int) < (l.games.length : Int) := by omega
      clear hb
      go_wp2_with fail
      go_ret
      exact ⟨by first | rfl | exact ret_int (by rw [List.take_length]), HB.out.trans (HBR.out.mono HB.out.size)⟩
theorem number35_c (l : Lg) (A : Option Addr) (c : Nat) (code : Int) (h4 : Code4 code) (tm : Int) (Ag : Option Addr) (cg : Nat) (grp : List Int) (w : World) (hv : Valid l) (hl : Gms w.heap.size w A l.games) (hc : l.games.length ≤ c ∧ c ≤ 9223372036854775807) (hgr : Ints w.heap.size w Ag grp) (hcg : grp.length ≤ cg ∧ cg ≤ 9223372036854775807) :
    Calls Try.prog 35 #[.agg #[.int .i64 l.teams, .slice A l.games.length c], .int .u8 code, .int .i64 tm, .slice Ag grp.length cg] w (Ans w (.int .i64 (numS code (hasI grp) tm l.games))) := by
  rcases h4 with rfl | rfl | rfl | rfl
  · exact number35_1 l A c tm Ag cg grp w hv hl hc hgr hcg
  · exact number35_2 l A c tm Ag cg grp w hv hl hc hgr hcg
  · exact number35_3 l A c tm Ag cg grp w hv hl hc hgr hcg
  · exact number35_4 l A c tm Ag cg grp w hv hl hc hgr hcg
end Go.Proofs.Ytjokbffdepcpkaa
