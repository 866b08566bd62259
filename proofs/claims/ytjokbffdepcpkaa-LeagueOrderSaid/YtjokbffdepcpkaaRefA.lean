/-
  The reference's After.
-/
import Derived.Test.YtjokbffdepcpkaaRefN
import Derived.Test.YtjokbffdepcpkaaGivesM
namespace Go.Proofs.Ytjokbffdepcpkaa
open Go.RowKit
set_option linter.unusedSimpArgs false
set_option linter.unusedVariables false

attribute [local go_sem] Oper.semAt_some
/-- What the reference has behind k games. -/
def refA (gs : List Gm) (os : List Int) : Nat → Nat → Int
  | 0 => fun _ => 0
  | k + 1 =>
    let f := refA gs os k
    let da := if (gmx gs k).op = true then 3 - ix os (opK gs k) else gA (gmx gs k)
    let db := if (gmx gs k).op = true then ix os (opK gs k) - 1 else gB (gmx gs k)
    let f2 := updI f (gmx gs k).a.toNat (f (gmx gs k).a.toNat + da)
    updI f2 (gmx gs k).b.toNat (f2 (gmx gs k).b.toNat + db)
theorem open_at {gs : List Gm} {k : Nat} (hk : k < gs.length) (h : (gmx gs k).op = true) : gmx (opensL gs) (opK gs k) = gmx gs k ∧ opK gs k < (opensL gs).length := by
  have e : opensL gs = opensL (gs.take k) ++ gmx gs k :: opensL (gs.drop (k + 1)) := by
    conv => lhs; rw [← List.take_append_drop k gs]
    unfold opensL
    rw [List.filter_append, List.drop_eq_getElem_cons hk, ← gmx_lt hk, List.filter_cons, if_pos h]
  unfold opK
  rw [e]
  refine ⟨?_, by simp⟩
  unfold gmx
  rw [List.getD_eq_getElem?_getD, List.getElem?_append_right (Nat.le_refl _)]
  simp
theorem aft_add {ops : List Gm} {os : List Int} {f : Nat → Int} : ∀ j, aftK ops os f j = fun t => f t + aftK ops os (fun _ => 0) j t
  | 0 => by funext t; simp [aftK]
  | j + 1 => by
    funext t
    simp only [aftK]
    rw [aft_add j]
    generalize aftK ops os (fun _ => 0) j = g
    simp only [updI]
    split <;> split <;> (try split) <;> (try split) <;> simp_all <;> omega
theorem refA_eq {l : Lg} (hv : Valid l) (os : List Int) : ∀ k, k ≤ l.games.length → refA l.games os k = fun t => sumsK l.games k t + aftK (opensL l.games) os (fun _ => 0) (opK l.games k) t
  | 0, _ => by
    funext t
    simp [refA, sumsK, numS, opK, opensL, aftK]
  | k + 1, h => by
    have ih := refA_eq hv os k (by omega)
    have hg := hv.at (show k < l.games.length by omega)
    have a0 := hg.a0; have b0 := hg.b0; have hne := hg.ne
    have hop := opK_succ (show k < l.games.length by omega)
    funext t
    simp only [refA]
    rw [sumsK_succ hv (by omega), hop, ih]
    by_cases ho : (gmx l.games k).op = true
    · obtain ⟨e1, -⟩ := open_at (show k < l.games.length by omega) ho
      have z1 : gA (gmx l.games k) = 0 := by simp [gA, ho]
      have z2 : gB (gmx l.games k) = 0 := by simp [gB, ho]
      rw [if_pos ho, if_pos ho, if_pos ho]
      simp only [aftK]
      rw [e1, z1, z2]
      generalize aftK (opensL l.games) os (fun _ => 0) (opK l.games k) = g
      generalize sumsK l.games k = s
      simp only [updI]
      repeat' split
      all_goals (try simp_all)
      all_goals omega
    · rw [if_neg ho, if_neg ho, if_neg ho]
      generalize aftK (opensL l.games) os (fun _ => 0) (opK l.games k) = g
      generalize sumsK l.games k = s
      simp only [updI]
      repeat' split
      all_goals (try simp_all)
      all_goals omega
theorem refA_aft {l : Lg} (hv : Valid l) (os : List Int) (h : os.length = (opensL l.games).length) : refA l.games os l.games.length = aftF l os := by
  rw [refA_eq hv os _ (Nat.le_refl _)]
  unfold aftF
  rw [aft_add os.length]
  have : opK l.games l.games.length = os.length := by unfold opK; rw [List.take_length]; exact h.symm
  rw [this]
  rfl
theorem refA_rng {l : Lg} (hv : Valid l) {os : List Int} (h1 : os.length = (opensL l.games).length) (h2 : ∀ k, k < os.length → 1 ≤ ix os k ∧ ix os k ≤ 3) {k : Nat} (hk : k ≤ l.games.length) (t : Nat) : 0 ≤ refA l.games os k t ∧ refA l.games os k t ≤ 130000 := by
  rw [refA_eq hv os k hk]
  have e1 := sumsK_range hv hk t
  have hm : opK l.games k ≤ os.length := by
    rw [h1]
    unfold opK opensL
    exact (List.Sublist.filter _ (List.take_sublist k l.games)).length_le
  have e2 := aftK_range (ops := opensL l.games) h2 (f := fun _ => 0) (fun t => by simp) (opK l.games k) hm t
  have e3 := opK_le l.games k
  have e4 := hv.len
  dsimp only
  omega
/-- A new list of numbers. -/
def ListP (w : World) (xs : List Int) (e : Ending) (w' : World) : Prop := ∃ A c, e = .returned (.slice A xs.length c) ∧ (Ints w'.heap.size w' A xs ∧ xs.length ≤ c ∧ c ≤ 9223372036854775807) ∧ Below w.heap.size w w'
set_option maxRecDepth 100000 in
set_option maxHeartbeats 8000000 in
theorem after27_c (l : Lg) (A Ao : Option Addr) (c co : Nat) (os : List Int) (w : World) (hv : Valid l) (hl : Gms w.heap.size w A l.games) (hc : l.games.length ≤ c ∧ c ≤ 9223372036854775807) (ho : Byts w.heap.size w Ao os) (hco : os.length ≤ co ∧ co ≤ 9223372036854775807) (hos : os.length = (opensL l.games).length) (hor : ∀ k, k < os.length → 1 ≤ ix os k ∧ ix os k ≤ 3) :
    Calls Try.prog 27 #[.agg #[.int .i64 l.teams, .slice A l.games.length c], .slice Ao os.length co] w (ListP w ((List.range l.teams.toNat).map (aftF l os))) := by
  have hb : Below w.heap.size w (w.alloc (.cells #[.int .i64 l.teams, .slice A l.games.length c] 24)) := (Below.refl _ _).alloc (Nat.le_refl _) _
  have HB := Lib.hid hb
  have HL := Lib.hid (hl.step hb)
  have HO := Lib.hid (ho.step hb)
  have hT2 := hv.t2
  have hT6 := hv.t6
  have hl20 := hv.len
  obtain ⟨T, hT⟩ : ∃ T : Nat, l.teams = (T : Int) := ⟨l.teams.toNat, by omega⟩
  have k0 : (w.alloc (.cells #[.int .i64 l.teams, .slice A l.games.length c] 24)).cell? ⟨w.heap.size, 0, none⟩ = some (.int .i64 (T : Int)) := by rw [← hT]; simp
  have k1 : (w.alloc (.cells #[.int .i64 l.teams, .slice A l.games.length c] 24)).cell? ⟨w.heap.size, 1, none⟩ = some (.slice A l.games.length c) := by simp
  have HRF : Hid (refA l.games os l.games.length = aftF l os) := refA_aft hv os hos
  have HRR := Lib.hid (fun (k : Nat) (hk : k ≤ l.games.length) (t : Nat) => refA_rng hv hos hor hk t)
  have HV := Lib.hid hv
  have HOR := Lib.hid hor
  have hT' : l.teams.toNat = T := by omega
  have hTT : 1 ≤ T ∧ T ≤ 6 := by omega
  have HTI := Lib.hid hT
  have HOS0 := Lib.hid hos
  rw [hT']
  have hmk : ∀ W, (Instr.makeSlice 34 (.int .i64 (T : Int)) (.int .i64 (T : Int))).run Try.prog W = .ok (.slice (some ⟨W.heap.size, 0, none⟩) T T) (W.alloc (.cells (madeCells #[.int .i64 0] T) 3)) :=
    fun W => run_make_row' 34 3 (.int .i64 0) 8 (by kernel_rfl) infoInt rfl .i64 .i64 T (by omega) (by omega) W
  have HXS : Hid ((w.alloc (.cells #[.int .i64 l.teams, .slice A l.games.length c] 24)).heap.size = w.heap.size + 1) := by show _ = _; simp
  clear hb hl ho hv hor hT' hT hos hT2 hT6
  go_enter Try.func27, Try.ntmps27
  go_wp2_with fail
  generalize (w.alloc (.cells #[.int .i64 l.teams, .slice A l.games.length c] 24)) = x1 at *
  have hbn : Below x1.heap.size x1 (x1.alloc (.cells (madeCells #[.int .i64 0] T) 3)) := (Below.refl _ _).alloc (Nat.le_refl _) _
  have HD0 := Lib.hid (dnI_new x1 T)
  rw [HXS.out] at HD0
  have HB0 : Hid (Below (w.heap.size + 1) x1 (x1.alloc (.cells (madeCells #[.int .i64 0] T) 3))) := by show Below _ _ _; rw [← HXS.out]; exact hbn
  clear hbn k0 hmk
  generalize (x1.alloc (.cells (madeCells #[.int .i64 0] T) 3)) = x2 at *
  go_loopw [6, 7] (fun at_ i wr => ∃ k : Nat, k ≤ l.games.length ∧ i = .int .i64 k ∧ at_ = .int .i64 (opK l.games k : Nat) ∧ DnI wr (w.heap.size + 1) (refA l.games os k) T ∧ Below (w.heap.size + 1) x1 wr) (fun _ i _ => l.games.length - (intOf i).toNat)
  case atStart => exact ⟨0, by omega, rfl, rfl, HD0.out, HB0.out⟩
  case round =>
    clear HD0 HB0
    obtain ⟨k, hk, rfl, rfl, hd, hb⟩ := hrel
    have HD := Lib.hid hd
    have HBR := Lib.hid hb
    rw [← HXS.out] at hb
    have j1 := cell_of_ans hb k1
    have hdl := hd.lt
    clear hd
    by_cases h1 : k < l.games.length
    · have h1i : (k : Int) < (l.games.length : Int) := by omega
      have hwk : IntKind.i64.wrap ((k : Int) + 1) = (k : Int) + 1 := IntWalk.i64_in _ (by omega)
      obtain ⟨b0, off, rfl, hb0, c1, c2, c3, c4, c5⟩ := (HL.out.step hb).at_ h1
      have HOr := Lib.hid (HO.out.step hb)
      have hgk := HV.out.at h1
      have HRA : Hid (refA l.games os (k + 1) = updI (updI (refA l.games os k) (gmx l.games k).a.toNat (refA l.games os k (gmx l.games k).a.toNat + (if (gmx l.games k).op = true then 3 - ix os (opK l.games k) else gA (gmx l.games k)))) (gmx l.games k).b.toNat (updI (refA l.games os k) (gmx l.games k).a.toNat (refA l.games os k (gmx l.games k).a.toNat + (if (gmx l.games k).op = true then 3 - ix os (opK l.games k) else gA (gmx l.games k))) (gmx l.games k).b.toNat + (if (gmx l.games k).op = true then ix os (opK l.games k) - 1 else gB (gmx l.games k)))) := rfl
      have HOS := Lib.hid (opK_succ h1)
      have HOA := Lib.hid (fun h => (open_at h1 h).2)
      have HFR := Lib.hid (HRR.out k hk)
      have hle := opK_le l.games k
      have hgr := g_range (gmx l.games k)
      have HG63 := Lib.hid (fun W => gives63_c (gmx l.games k) W)
      have ha0 := hgk.a0; have han := hgk.an; have hbb0 := hgk.b0; have hbn := hgk.bn
      rw [HTI.out] at han hbn
      obtain ⟨gg, hgg⟩ : ∃ gg, gg = gmx l.games k := ⟨_, rfl⟩
      rw [← hgg] at c1 c2 c3 c4 c5 hgr HG63 HRA HOS HOA ha0 han hbb0 hbn
      clear hgg hgk hb
      obtain ⟨gA_, hgA⟩ : ∃ x, gA gg = x := ⟨_, rfl⟩
      obtain ⟨gB_, hgB⟩ : ∃ x, gB gg = x := ⟨_, rfl⟩
      rw [hgA, hgB] at hgr HG63 HRA
      clear hgA hgB
      obtain ⟨ga, gb, gpa, gpb, gop⟩ := gg
      unfold gmV at HG63
      dsimp only at c1 c2 c3 c4 c5 HG63 HRA HOS HOA ha0 han hbb0 hbn
      obtain ⟨a, rfl⟩ : ∃ a : Nat, ga = (a : Int) := ⟨ga.toNat, by omega⟩
      obtain ⟨b, rfl⟩ : ∃ b : Nat, gb = (b : Int) := ⟨gb.toNat, by omega⟩
      simp only [Int.toNat_natCast] at HRA
      generalize refA l.games os k = fk at *
      generalize hok : opK l.games k = ok at *
      have hba : Below wr.heap.size wr (wr.alloc (.cells #[.int .i64 (a : Int), .int .i64 (b : Int), .int .i64 gpa, .int .i64 gpb, .bool gop] 70)) := (Below.refl _ _).alloc (Nat.le_refl _) _
      have v0 : (wr.alloc (.cells #[.int .i64 (a : Int), .int .i64 (b : Int), .int .i64 gpa, .int .i64 gpb, .bool gop] 70)).cell? ⟨wr.heap.size, 0, none⟩ = some (.int .i64 (a : Int)) := by simp
      have v1 : (wr.alloc (.cells #[.int .i64 (a : Int), .int .i64 (b : Int), .int .i64 gpa, .int .i64 gpb, .bool gop] 70)).cell? ⟨wr.heap.size, 1, none⟩ = some (.int .i64 (b : Int)) := by simp
      have v2 : (wr.alloc (.cells #[.int .i64 (a : Int), .int .i64 (b : Int), .int .i64 gpa, .int .i64 gpb, .bool gop] 70)).cell? ⟨wr.heap.size, 2, none⟩ = some (.int .i64 gpa) := by simp
      have v3 : (wr.alloc (.cells #[.int .i64 (a : Int), .int .i64 (b : Int), .int .i64 gpa, .int .i64 gpb, .bool gop] 70)).cell? ⟨wr.heap.size, 3, none⟩ = some (.int .i64 gpb) := by simp
      have v4 : (wr.alloc (.cells #[.int .i64 (a : Int), .int .i64 (b : Int), .int .i64 gpa, .int .i64 gpb, .bool gop] 70)).cell? ⟨wr.heap.size, 4, none⟩ = some (.bool gop) := by simp
      have HOZ := Lib.hid (HOr.out.step hba)
      have HDZ := Lib.hid (HD.out.step hba)
      have hzz : w.heap.size + 1 ≤ wr.heap.size := by omega
      have HBZ : Hid (Below (w.heap.size + 1) x1 (wr.alloc (.cells #[.int .i64 (a : Int), .int .i64 (b : Int), .int .i64 gpa, .int .i64 gpb, .bool gop] 70))) := HBR.out.trans (hba.mono hzz)
      have hqq : w.heap.size + 1 < wr.heap.size := hdl
      clear hba
      go_wp2_with fail
      generalize (wr.alloc (.cells #[.int .i64 (a : Int), .int .i64 (b : Int), .int .i64 gpa, .int .i64 gpb, .bool gop] 70)) = wx at *
      generalize wr.heap.size = qq at *
      refine (HG63.out _).mono ?_
      rintro e wy ⟨rfl, hb⟩
      replace v0 := cell_of_ans hb v0
      replace v1 := cell_of_ans hb v1
      replace v4 := cell_of_ans hb v4
      replace HOZ := Lib.hid (HOZ.out.step hb)
      replace HDZ := Lib.hid (HDZ.out.step hb)
      have hzy := HBZ.out.size
      have hzs := HXS.out
      replace HBZ : Hid (Below (w.heap.size + 1) x1 wy) := HBZ.out.trans (hb.mono (by omega))
      clear hzs hzy
      clear hb c1 c2 c3 c4 c5 v2 v3 HBR HOr j1 HD hdl HG63
      cases gop
      · simp only [Bool.false_eq_true, if_false] at HRA HOS
        obtain ⟨r0, z0⟩ := HDZ.out.cell (p := a) (by omega)
        have d1 := HDZ.out.set a (fk a + (gA_))
        obtain ⟨r1, z1⟩ := d1.cell (p := b) (by omega)
        have e9 : updI' fk a (fk a + (gA_)) = updI fk a (fk a + (gA_)) := rfl
        rw [e9] at d1 r1
        have d2 := d1.set b (updI fk a (fk a + (gA_)) b + (gB_))
        have fa := HFR.out a
        have fb := HFR.out b
        have fb2 : 0 ≤ updI fk a (fk a + (gA_)) b ∧ updI fk a (fk a + (gA_)) b ≤ 130010 := by unfold updI; split <;> omega
        have w1 : IntKind.i64.wrap (fk a + (gA_)) = fk a + (gA_) := IntWalk.i64_in _ (by omega)
        have w2 : IntKind.i64.wrap (updI fk a (fk a + (gA_)) b + (gB_)) = updI fk a (fk a + (gA_)) b + (gB_) := IntWalk.i64_in _ (by omega)
        have HD2 : Hid (DnI ((wy.setCell ⟨w.heap.size + 1, a, none⟩ (.int .i64 (fk a + (gA_)))).setCell ⟨w.heap.size + 1, b, none⟩ (.int .i64 (updI fk a (fk a + (gA_)) b + (gB_)))) (w.heap.size + 1) (refA l.games os (k + 1)) T) := by
          show DnI _ _ _ _
          rw [HRA.out]
          exact d2
        have HB2 : Hid (Below (w.heap.size + 1) x1 ((wy.setCell ⟨w.heap.size + 1, a, none⟩ (.int .i64 (fk a + (gA_)))).setCell ⟨w.heap.size + 1, b, none⟩ (.int .i64 (updI fk a (fk a + (gA_)) b + (gB_))))) := (HBZ.out.setCell (by dsimp only; omega) _).setCell (by dsimp only; omega) _
        clear d1 d2 e9 fb2 fa fb
        generalize hub : updI fk a (fk a + (gA_)) b = ub at *
        clear hub
        go_wp2_with fail
        go_roundw
        case rel => exact ⟨k + 1, by omega, by go_num, by rw [HOS.out]; first | done | rfl | simp, HD2.out, HB2.out⟩
        case measure => simp [intOf]; omega
      · simp only [if_true] at HRA HOS
        have hoa := HOA.out rfl
        rw [← HOS0.out] at hoa
        obtain ⟨bo, oo, rfl, hbo, o0, ho1, ho2⟩ := HOZ.out.at_ hoa
        have hor := HOR.out ok hoa
        have hoi : (ok : Int) < (os.length : Int) := by omega
        generalize ix os ok = o_ at *
        have u1 : IntKind.i64.wrap o_ = o_ := IntWalk.i64_in _ (by omega)
        have u2 : IntKind.i64.wrap (3 - o_) = 3 - o_ := IntWalk.i64_in _ (by omega)
        have u3 : IntKind.i64.wrap (o_ - 1) = o_ - 1 := IntWalk.i64_in _ (by omega)
        have u4 : IntKind.i64.wrap ((ok : Int) + 1) = (ok : Int) + 1 := IntWalk.i64_in _ (by omega)
        go_upto_region 9 with fail
        go_quiet (fail)
        have hbq : Below wy.heap.size wy (wy.drewN nq) := below_drewN (Below.refl _ _) nq
        replace v0 := cell_of_ans hbq v0
        replace v1 := cell_of_ans hbq v1
        replace HDZ := Lib.hid (HDZ.out.step hbq)
        replace HBZ : Hid (Below (w.heap.size + 1) x1 (wy.drewN nq)) := below_drewN HBZ.out nq
        clear hbq o0
        generalize wy.drewN nq = wz at *
        obtain ⟨r0, z0⟩ := HDZ.out.cell (p := a) (by omega)
        have d1 := HDZ.out.set a (fk a + (3 - o_))
        obtain ⟨r1, z1⟩ := d1.cell (p := b) (by omega)
        have e9 : updI' fk a (fk a + (3 - o_)) = updI fk a (fk a + (3 - o_)) := rfl
        rw [e9] at d1 r1
        have d2 := d1.set b (updI fk a (fk a + (3 - o_)) b + (o_ - 1))
        have fa := HFR.out a
        have fb := HFR.out b
        have fb2 : 0 ≤ updI fk a (fk a + (3 - o_)) b ∧ updI fk a (fk a + (3 - o_)) b ≤ 130010 := by unfold updI; split <;> omega
        have w1 : IntKind.i64.wrap (fk a + (3 - o_)) = fk a + (3 - o_) := IntWalk.i64_in _ (by omega)
        have w2 : IntKind.i64.wrap (updI fk a (fk a + (3 - o_)) b + (o_ - 1)) = updI fk a (fk a + (3 - o_)) b + (o_ - 1) := IntWalk.i64_in _ (by omega)
        have HD2 : Hid (DnI ((wz.setCell ⟨w.heap.size + 1, a, none⟩ (.int .i64 (fk a + (3 - o_)))).setCell ⟨w.heap.size + 1, b, none⟩ (.int .i64 (updI fk a (fk a + (3 - o_)) b + (o_ - 1)))) (w.heap.size + 1) (refA l.games os (k + 1)) T) := by
          show DnI _ _ _ _
          rw [HRA.out]
          exact d2
        have HB2 : Hid (Below (w.heap.size + 1) x1 ((wz.setCell ⟨w.heap.size + 1, a, none⟩ (.int .i64 (fk a + (3 - o_)))).setCell ⟨w.heap.size + 1, b, none⟩ (.int .i64 (updI fk a (fk a + (3 - o_)) b + (o_ - 1))))) := (HBZ.out.setCell (by dsimp only; omega) _).setCell (by dsimp only; omega) _
        clear d1 d2 e9 fb2 fa fb
        generalize hub : updI fk a (fk a + (3 - o_)) b = ub at *
        clear hub
        go_wp2_with fail
        go_roundw
        case rel => exact ⟨k + 1, by omega, by go_num, by rw [HOS.out]; first | done | rfl | simp, HD2.out, HB2.out⟩
        case measure => simp [intOf]; omega
    · obtain rfl : k = l.games.length := by omega
      have h1i : ¬ (l.games.length : Int) < (l.games.length : Int) := by omega
      have HD2 := HD.out
      rw [HRF.out] at HD2
      have HOW := Lib.hid (DnI.own HD2 (Nat.le_refl _) ⟨hTT.1, by omega⟩)
      have HBF : Hid (Below w.heap.size w wr) := HB.out.trans (HBR.out.mono (by omega))
      clear hb HD2 HD
      go_wp2_with fail
      go_ret
      obtain ⟨h5, h6, h7⟩ := isInts_parts HOW.out.isInts
      exact ⟨_, _, by first | rfl | simp, ⟨h7, h5, h6⟩, HBF.out⟩
end Go.Proofs.Ytjokbffdepcpkaa
