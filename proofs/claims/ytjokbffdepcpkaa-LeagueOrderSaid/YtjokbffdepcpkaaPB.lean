/-
  teams, team, gives, game, CheckLeague. CheckLeague, League (the copy for the program), Thin, Fault, asked, teamed, Open. The statements' League: a copy for the program. The points of all teams: sums. The open games of a league: Clone, DeleteFunc, open. The open games of a league: DeleteFunc, open. The points behind outcomes: After. The iterator of: a team's games, and what each is for it. Contains, the rules, the greatest of some numbers. number: what a rule gives a team, over its games. fall: the groups into which a group falls. A mutable row of numbers in memory; the check of a rule.
-/
import Derived.Test.YtjokbffdepcpkaaPA
import Derived.Lib.SliceRun
import Derived.Laws.CopyRow
import Derived.WalkMore
import Derived.Deep.RegionHeld3
import Derived.Deep.DeepCutAuto
namespace Go.Proofs.Ytjokbffdepcpkaa
section

open Go.RowKit
set_option linter.unusedSimpArgs false
set_option linter.unusedVariables false

attribute [local go_sem] Oper.semAt_some
set_option maxHeartbeats 400000 in
theorem teams50_c (n : Int) (w : World) : Calls Try.prog 50 #[.int .i64 n] w (Same w (.bool (inB n 2 6))) := by
  go_enter Try.func50, Try.ntmps50
  go_wp2_with (go_at_call 81; refine (within81_c _ _ _ _).mono ?_; rintro e w1 ⟨rfl, rfl⟩)
  go_ret
  exact ⟨rfl, rfl⟩
set_option maxHeartbeats 400000 in
theorem team74_c (T x : Int) (A : Option Addr) (n c : Nat) (w : World) (h2 : 2 ≤ T) (h6 : T ≤ 6) : Calls Try.prog 74 #[.agg #[.int .i64 T, .slice A n c], .int .i64 x] w (Ans w (.bool (inB x 0 (T - 1)))) := by
  have HB := Lib.hid (Below.refl w.heap.size w)
  have hwr : IntKind.i64.wrap (T - 1) = T - 1 := IntWalk.i64_in _ (by omega)
  have hb : Below w.heap.size w (w.alloc (.cells #[.int .i64 T, .slice A n c] 32)) := (Below.refl _ _).alloc (Nat.le_refl _) _
  replace HB := Lib.hid (HB.out.trans (hb.mono HB.out.size))
  clear hb
  have k0 : (w.alloc (.cells #[.int .i64 T, .slice A n c] 32)).cell? ⟨w.heap.size, 0, none⟩ = some (.int .i64 T) := by simp
  have k1 : (w.alloc (.cells #[.int .i64 T, .slice A n c] 32)).cell? ⟨w.heap.size, 1, none⟩ = some (.slice A n c) := by simp
  go_enter Try.func74, Try.ntmps74
  go_wp2_with (go_at_call 81; refine (within81_c _ _ _ _).mono ?_; rintro e w1 ⟨rfl, rfl⟩)
  go_ret
  exact ⟨rfl, HB.out⟩
set_option maxHeartbeats 800000 in
theorem gives95_c (x : Gm) (w : World) : Calls Try.prog 95 #[gmV x] w (Ans w (.tuple #[.int .i64 (gA x), .int .i64 (gB x)])) := by
  obtain ⟨xa, xb, xpa, xpb, xop⟩ := x
  unfold gmV
  dsimp only
  have HB := Lib.hid (Below.refl w.heap.size w)
  have hb : Below w.heap.size w (w.alloc (.cells #[.int .i64 xa, .int .i64 xb, .int .i64 xpa, .int .i64 xpb, .bool xop] 85)) := (Below.refl _ _).alloc (Nat.le_refl _) _
  replace HB := Lib.hid (HB.out.trans (hb.mono HB.out.size))
  clear hb
  have k0 : (w.alloc (.cells #[.int .i64 xa, .int .i64 xb, .int .i64 xpa, .int .i64 xpb, .bool xop] 85)).cell? ⟨w.heap.size, 0, none⟩ = some (.int .i64 xa) := by simp
  have k1 : (w.alloc (.cells #[.int .i64 xa, .int .i64 xb, .int .i64 xpa, .int .i64 xpb, .bool xop] 85)).cell? ⟨w.heap.size, 1, none⟩ = some (.int .i64 xb) := by simp
  have k2 : (w.alloc (.cells #[.int .i64 xa, .int .i64 xb, .int .i64 xpa, .int .i64 xpb, .bool xop] 85)).cell? ⟨w.heap.size, 2, none⟩ = some (.int .i64 xpa) := by simp
  have k3 : (w.alloc (.cells #[.int .i64 xa, .int .i64 xb, .int .i64 xpa, .int .i64 xpb, .bool xop] 85)).cell? ⟨w.heap.size, 3, none⟩ = some (.int .i64 xpb) := by simp
  have k4 : (w.alloc (.cells #[.int .i64 xa, .int .i64 xb, .int .i64 xpa, .int .i64 xpb, .bool xop] 85)).cell? ⟨w.heap.size, 4, none⟩ = some (.bool xop) := by simp
  cases xop
  · by_cases h1 : xpb < xpa
    · have HE : Hid (gA (⟨xa, xb, xpa, xpb, false⟩ : Gm) = 2 ∧ gB (⟨xa, xb, xpa, xpb, false⟩ : Gm) = 0) := by show _ ∧ _; unfold gA gB; simp [h1]
      go_enter Try.func95, Try.ntmps95
      go_wp2_with fail
      refine bodyPost_ret (results_tmp2 rfl _ _ _) rfl ?_
      exact ⟨by rw [HE.out.1, HE.out.2]; rfl, HB.out⟩
    · by_cases h2 : xpa < xpb
      · have HE : Hid (gA (⟨xa, xb, xpa, xpb, false⟩ : Gm) = 0 ∧ gB (⟨xa, xb, xpa, xpb, false⟩ : Gm) = 2) := by show _ ∧ _; unfold gA gB; simp [h1, h2]
        go_enter Try.func95, Try.ntmps95
        go_wp2_with fail
        refine bodyPost_ret (results_tmp2 rfl _ _ _) rfl ?_
        exact ⟨by rw [HE.out.1, HE.out.2]; rfl, HB.out⟩
      · have HE : Hid (gA (⟨xa, xb, xpa, xpb, false⟩ : Gm) = 1 ∧ gB (⟨xa, xb, xpa, xpb, false⟩ : Gm) = 1) := by show _ ∧ _; unfold gA gB; simp [h1, h2]
        go_enter Try.func95, Try.ntmps95
        go_wp2_with fail
        refine bodyPost_ret (results_tmp2 rfl _ _ _) rfl ?_
        exact ⟨by rw [HE.out.1, HE.out.2]; rfl, HB.out⟩
  · have HE : Hid (gA (⟨xa, xb, xpa, xpb, true⟩ : Gm) = 0 ∧ gB (⟨xa, xb, xpa, xpb, true⟩ : Gm) = 0) := by show _ ∧ _; unfold gA gB; simp
    go_enter Try.func95, Try.ntmps95
    go_wp2_with fail
    refine bodyPost_ret (results_tmp2 rfl _ _ _) rfl ?_
    exact ⟨by rw [HE.out.1, HE.out.2]; rfl, HB.out⟩
set_option maxHeartbeats 800000 in
theorem gives63_c (x : Gm) (w : World) : Calls Try.prog 63 #[gmV x] w (Ans w (.tuple #[.int .i64 (gA x), .int .i64 (gB x)])) := by
  obtain ⟨xa, xb, xpa, xpb, xop⟩ := x
  unfold gmV
  dsimp only
  have HB := Lib.hid (Below.refl w.heap.size w)
  have hb : Below w.heap.size w (w.alloc (.cells #[.int .i64 xa, .int .i64 xb, .int .i64 xpa, .int .i64 xpb, .bool xop] 70)) := (Below.refl _ _).alloc (Nat.le_refl _) _
  replace HB := Lib.hid (HB.out.trans (hb.mono HB.out.size))
  clear hb
  have k0 : (w.alloc (.cells #[.int .i64 xa, .int .i64 xb, .int .i64 xpa, .int .i64 xpb, .bool xop] 70)).cell? ⟨w.heap.size, 0, none⟩ = some (.int .i64 xa) := by simp
  have k1 : (w.alloc (.cells #[.int .i64 xa, .int .i64 xb, .int .i64 xpa, .int .i64 xpb, .bool xop] 70)).cell? ⟨w.heap.size, 1, none⟩ = some (.int .i64 xb) := by simp
  have k2 : (w.alloc (.cells #[.int .i64 xa, .int .i64 xb, .int .i64 xpa, .int .i64 xpb, .bool xop] 70)).cell? ⟨w.heap.size, 2, none⟩ = some (.int .i64 xpa) := by simp
  have k3 : (w.alloc (.cells #[.int .i64 xa, .int .i64 xb, .int .i64 xpa, .int .i64 xpb, .bool xop] 70)).cell? ⟨w.heap.size, 3, none⟩ = some (.int .i64 xpb) := by simp
  have k4 : (w.alloc (.cells #[.int .i64 xa, .int .i64 xb, .int .i64 xpa, .int .i64 xpb, .bool xop] 70)).cell? ⟨w.heap.size, 4, none⟩ = some (.bool xop) := by simp
  cases xop
  · by_cases h1 : xpb < xpa
    · have HE : Hid (gA (⟨xa, xb, xpa, xpb, false⟩ : Gm) = 2 ∧ gB (⟨xa, xb, xpa, xpb, false⟩ : Gm) = 0) := by show _ ∧ _; unfold gA gB; simp [h1]
      go_enter Try.func63, Try.ntmps63
      go_wp2_with fail
      refine bodyPost_ret (results_tmp2 rfl _ _ _) rfl ?_
      exact ⟨by rw [HE.out.1, HE.out.2]; rfl, HB.out⟩
    · by_cases h2 : xpa < xpb
      · have HE : Hid (gA (⟨xa, xb, xpa, xpb, false⟩ : Gm) = 0 ∧ gB (⟨xa, xb, xpa, xpb, false⟩ : Gm) = 2) := by show _ ∧ _; unfold gA gB; simp [h1, h2]
        go_enter Try.func63, Try.ntmps63
        go_wp2_with fail
        refine bodyPost_ret (results_tmp2 rfl _ _ _) rfl ?_
        exact ⟨by rw [HE.out.1, HE.out.2]; rfl, HB.out⟩
      · have HE : Hid (gA (⟨xa, xb, xpa, xpb, false⟩ : Gm) = 1 ∧ gB (⟨xa, xb, xpa, xpb, false⟩ : Gm) = 1) := by show _ ∧ _; unfold gA gB; simp [h1, h2]
        go_enter Try.func63, Try.ntmps63
        go_wp2_with fail
        refine bodyPost_ret (results_tmp2 rfl _ _ _) rfl ?_
        exact ⟨by rw [HE.out.1, HE.out.2]; rfl, HB.out⟩
  · have HE : Hid (gA (⟨xa, xb, xpa, xpb, true⟩ : Gm) = 0 ∧ gB (⟨xa, xb, xpa, xpb, true⟩ : Gm) = 0) := by show _ ∧ _; unfold gA gB; simp
    go_enter Try.func63, Try.ntmps63
    go_wp2_with fail
    refine bodyPost_ret (results_tmp2 rfl _ _ _) rfl ?_
    exact ⟨by rw [HE.out.1, HE.out.2]; rfl, HB.out⟩
theorem game_eq {T xa xb xpa xpb : Int} {xop : Bool} : gameB T ⟨xa, xb, xpa, xpb, xop⟩ = (inB xpa 0 3000 && inB xpb 0 3000 && inB xa 0 (T - 1) && inB xb 0 (T - 1) && !(xa == xb) && (!xop || (xpa == 0 && xpb == 0))) := by
  rw [Bool.eq_iff_iff]
  unfold gameB
  simp only [Bool.and_eq_true, Bool.or_eq_true, decide_eq_true_eq, inB_eq, Bool.not_eq_true', beq_iff_eq, beq_eq_false_iff_ne]
  constructor
  · rintro ⟨⟨⟨⟨⟨⟨h1, h2⟩, h3, h4⟩, h5⟩, h6⟩, h7⟩, h8⟩
    exact ⟨⟨⟨⟨⟨h6, h7⟩, h1, by omega⟩, h3, by omega⟩, h5⟩, h8⟩
  · rintro ⟨⟨⟨⟨⟨h6, h7⟩, h1, h2⟩, h3, h4⟩, h5⟩, h8⟩
    exact ⟨⟨⟨⟨⟨⟨h1, by omega⟩, h3, by omega⟩, h5⟩, h6⟩, h7⟩, h8⟩
set_option maxHeartbeats 1600000 in
theorem game52_c (T : Int) (x : Gm) (A : Option Addr) (n c : Nat) (w : World) (h2 : 2 ≤ T) (h6 : T ≤ 6) : Calls Try.prog 52 #[.agg #[.int .i64 T, .slice A n c], gmV x] w (Ans w (.bool (gameB T x))) := by
  obtain ⟨xa, xb, xpa, xpb, xop⟩ := x
  unfold gmV
  dsimp only
  have HB := Lib.hid (Below.refl w.heap.size w)
  have HT : Hid (∀ y W, Calls Try.prog 74 #[.agg #[.int .i64 T, .slice A n c], .int .i64 y] W (Ans W (.bool (inB y 0 (T - 1))))) := fun y W => team74_c T y A n c W h2 h6
  have HQ : Hid (∀ y lo hi W, Calls Try.prog 81 #[.int .i64 y, .int .i64 lo, .int .i64 hi] W (Same W (.bool (inB y lo hi)))) := fun y lo hi W => within81_c y lo hi W
  have HG : Hid (gameB T ⟨xa, xb, xpa, xpb, xop⟩ = (inB xpa 0 3000 && inB xpb 0 3000 && inB xa 0 (T - 1) && inB xb 0 (T - 1) && !(xa == xb) && (!xop || (xpa == 0 && xpb == 0)))) := game_eq
  have hb : Below w.heap.size w (w.alloc (.cells #[.int .i64 T, .slice A n c] 32)) := (Below.refl _ _).alloc (Nat.le_refl _) _
  replace HB := Lib.hid (HB.out.trans (hb.mono HB.out.size))
  clear hb
  have z0 : (w.alloc (.cells #[.int .i64 T, .slice A n c] 32)).cell? ⟨w.heap.size, 0, none⟩ = some (.int .i64 T) := by simp
  have z1 : (w.alloc (.cells #[.int .i64 T, .slice A n c] 32)).cell? ⟨w.heap.size, 1, none⟩ = some (.slice A n c) := by simp
  have hb : Below (w.alloc (.cells #[.int .i64 T, .slice A n c] 32)).heap.size (w.alloc (.cells #[.int .i64 T, .slice A n c] 32)) ((w.alloc (.cells #[.int .i64 T, .slice A n c] 32)).alloc (.cells #[.int .i64 xa, .int .i64 xb, .int .i64 xpa, .int .i64 xpb, .bool xop] 85)) := (Below.refl _ _).alloc (Nat.le_refl _) _
  replace z0 := cell_of_ans hb z0
  replace z1 := cell_of_ans hb z1
  replace HB := Lib.hid (HB.out.trans (hb.mono HB.out.size))
  clear hb
  have k0 : ((w.alloc (.cells #[.int .i64 T, .slice A n c] 32)).alloc (.cells #[.int .i64 xa, .int .i64 xb, .int .i64 xpa, .int .i64 xpb, .bool xop] 85)).cell? ⟨w.heap.size + 1, 0, none⟩ = some (.int .i64 xa) := by simp
  have k1 : ((w.alloc (.cells #[.int .i64 T, .slice A n c] 32)).alloc (.cells #[.int .i64 xa, .int .i64 xb, .int .i64 xpa, .int .i64 xpb, .bool xop] 85)).cell? ⟨w.heap.size + 1, 1, none⟩ = some (.int .i64 xb) := by simp
  have k2 : ((w.alloc (.cells #[.int .i64 T, .slice A n c] 32)).alloc (.cells #[.int .i64 xa, .int .i64 xb, .int .i64 xpa, .int .i64 xpb, .bool xop] 85)).cell? ⟨w.heap.size + 1, 2, none⟩ = some (.int .i64 xpa) := by simp
  have k3 : ((w.alloc (.cells #[.int .i64 T, .slice A n c] 32)).alloc (.cells #[.int .i64 xa, .int .i64 xb, .int .i64 xpa, .int .i64 xpb, .bool xop] 85)).cell? ⟨w.heap.size + 1, 3, none⟩ = some (.int .i64 xpb) := by simp
  have k4 : ((w.alloc (.cells #[.int .i64 T, .slice A n c] 32)).alloc (.cells #[.int .i64 xa, .int .i64 xb, .int .i64 xpa, .int .i64 xpb, .bool xop] 85)).cell? ⟨w.heap.size + 1, 4, none⟩ = some (.bool xop) := by simp
  cases ea : inB xpa 0 3000
  · rw [ea] at HG
    have Hea := Lib.hid ea
    clear ea
    cases ec : inB xa 0 (T - 1)
    · rw [ec] at HG
      have Hec := Lib.hid ec
      clear ec
      go_enter Try.func52, Try.ntmps52
      go_wp2_with fail
      generalize ((w.alloc (.cells #[.int .i64 T, .slice A n c] 32)).alloc (.cells #[.int .i64 xa, .int .i64 xb, .int .i64 xpa, .int .i64 xpb, .bool xop] 85)) = x1 at *
      refine (HQ.out _ _ _ _).mono ?_
      rw [Hea.out]
      rintro e wz ⟨rfl, rfl⟩
      go_wp2_with fail
      refine (HT.out _ _).mono ?_
      rw [Hec.out]
      rintro e x2 ⟨rfl, hb⟩
      replace z0 := cell_of_ans hb z0
      replace z1 := cell_of_ans hb z1
      replace k0 := cell_of_ans hb k0
      replace k1 := cell_of_ans hb k1
      replace k2 := cell_of_ans hb k2
      replace k3 := cell_of_ans hb k3
      replace k4 := cell_of_ans hb k4
      replace HB := Lib.hid (HB.out.trans (hb.mono HB.out.size))
      clear hb
      go_wp2_with fail
      go_ret
      exact ⟨ret_bool (by rw [HG.out]; simp), HB.out⟩
    · rw [ec] at HG
      have Hec := Lib.hid ec
      clear ec
      cases ed : inB xb 0 (T - 1)
      · rw [ed] at HG
        have Hed := Lib.hid ed
        clear ed
        go_enter Try.func52, Try.ntmps52
        go_wp2_with fail
        generalize ((w.alloc (.cells #[.int .i64 T, .slice A n c] 32)).alloc (.cells #[.int .i64 xa, .int .i64 xb, .int .i64 xpa, .int .i64 xpb, .bool xop] 85)) = x1 at *
        refine (HQ.out _ _ _ _).mono ?_
        rw [Hea.out]
        rintro e wz ⟨rfl, rfl⟩
        go_wp2_with fail
        refine (HT.out _ _).mono ?_
        rw [Hec.out]
        rintro e x3 ⟨rfl, hb⟩
        replace z0 := cell_of_ans hb z0
        replace z1 := cell_of_ans hb z1
        replace k0 := cell_of_ans hb k0
        replace k1 := cell_of_ans hb k1
        replace k2 := cell_of_ans hb k2
        replace k3 := cell_of_ans hb k3
        replace k4 := cell_of_ans hb k4
        replace HB := Lib.hid (HB.out.trans (hb.mono HB.out.size))
        clear hb
        go_wp2_with fail
        refine (HT.out _ _).mono ?_
        rw [Hed.out]
        rintro e x4 ⟨rfl, hb⟩
        replace z0 := cell_of_ans hb z0
        replace z1 := cell_of_ans hb z1
        replace k0 := cell_of_ans hb k0
        replace k1 := cell_of_ans hb k1
        replace k2 := cell_of_ans hb k2
        replace k3 := cell_of_ans hb k3
        replace k4 := cell_of_ans hb k4
        replace HB := Lib.hid (HB.out.trans (hb.mono HB.out.size))
        clear hb
        go_wp2_with fail
        go_ret
        exact ⟨ret_bool (by rw [HG.out]; simp), HB.out⟩
      · rw [ed] at HG
        have Hed := Lib.hid ed
        clear ed
        cases ee : xa == xb
        rotate_left 1
        · rw [ee] at HG
          have q1 : (xa != xb) = false := by simp [bne, ee]
          clear ee
          go_enter Try.func52, Try.ntmps52
          go_wp2_with fail
          generalize ((w.alloc (.cells #[.int .i64 T, .slice A n c] 32)).alloc (.cells #[.int .i64 xa, .int .i64 xb, .int .i64 xpa, .int .i64 xpb, .bool xop] 85)) = x1 at *
          refine (HQ.out _ _ _ _).mono ?_
          rw [Hea.out]
          rintro e wz ⟨rfl, rfl⟩
          go_wp2_with fail
          refine (HT.out _ _).mono ?_
          rw [Hec.out]
          rintro e x5 ⟨rfl, hb⟩
          replace z0 := cell_of_ans hb z0
          replace z1 := cell_of_ans hb z1
          replace k0 := cell_of_ans hb k0
          replace k1 := cell_of_ans hb k1
          replace k2 := cell_of_ans hb k2
          replace k3 := cell_of_ans hb k3
          replace k4 := cell_of_ans hb k4
          replace HB := Lib.hid (HB.out.trans (hb.mono HB.out.size))
          clear hb
          go_wp2_with fail
          refine (HT.out _ _).mono ?_
          rw [Hed.out]
          rintro e x6 ⟨rfl, hb⟩
          replace z0 := cell_of_ans hb z0
          replace z1 := cell_of_ans hb z1
          replace k0 := cell_of_ans hb k0
          replace k1 := cell_of_ans hb k1
          replace k2 := cell_of_ans hb k2
          replace k3 := cell_of_ans hb k3
          replace k4 := cell_of_ans hb k4
          replace HB := Lib.hid (HB.out.trans (hb.mono HB.out.size))
          clear hb
          go_wp2_with fail
          go_ret
          exact ⟨ret_bool (by rw [HG.out]; simp), HB.out⟩
        · rw [ee] at HG
          have q1 : (xa != xb) = true := by simp [bne, ee]
          clear ee
          go_enter Try.func52, Try.ntmps52
          go_wp2_with fail
          generalize ((w.alloc (.cells #[.int .i64 T, .slice A n c] 32)).alloc (.cells #[.int .i64 xa, .int .i64 xb, .int .i64 xpa, .int .i64 xpb, .bool xop] 85)) = x1 at *
          refine (HQ.out _ _ _ _).mono ?_
          rw [Hea.out]
          rintro e wz ⟨rfl, rfl⟩
          go_wp2_with fail
          refine (HT.out _ _).mono ?_
          rw [Hec.out]
          rintro e x7 ⟨rfl, hb⟩
          replace z0 := cell_of_ans hb z0
          replace z1 := cell_of_ans hb z1
          replace k0 := cell_of_ans hb k0
          replace k1 := cell_of_ans hb k1
          replace k2 := cell_of_ans hb k2
          replace k3 := cell_of_ans hb k3
          replace k4 := cell_of_ans hb k4
          replace HB := Lib.hid (HB.out.trans (hb.mono HB.out.size))
          clear hb
          go_wp2_with fail
          refine (HT.out _ _).mono ?_
          rw [Hed.out]
          rintro e x8 ⟨rfl, hb⟩
          replace z0 := cell_of_ans hb z0
          replace z1 := cell_of_ans hb z1
          replace k0 := cell_of_ans hb k0
          replace k1 := cell_of_ans hb k1
          replace k2 := cell_of_ans hb k2
          replace k3 := cell_of_ans hb k3
          replace k4 := cell_of_ans hb k4
          replace HB := Lib.hid (HB.out.trans (hb.mono HB.out.size))
          clear hb
          go_wp2_with fail
          go_ret
          exact ⟨ret_bool (by rw [HG.out]; simp), HB.out⟩
  · rw [ea] at HG
    have Hea := Lib.hid ea
    clear ea
    cases eb : inB xpb 0 3000
    · rw [eb] at HG
      have Heb := Lib.hid eb
      clear eb
      cases ec : inB xa 0 (T - 1)
      · rw [ec] at HG
        have Hec := Lib.hid ec
        clear ec
        go_enter Try.func52, Try.ntmps52
        go_wp2_with fail
        generalize ((w.alloc (.cells #[.int .i64 T, .slice A n c] 32)).alloc (.cells #[.int .i64 xa, .int .i64 xb, .int .i64 xpa, .int .i64 xpb, .bool xop] 85)) = x1 at *
        refine (HQ.out _ _ _ _).mono ?_
        rw [Hea.out]
        rintro e wz ⟨rfl, rfl⟩
        go_wp2_with fail
        refine (HQ.out _ _ _ _).mono ?_
        rw [Heb.out]
        rintro e wz ⟨rfl, rfl⟩
        go_wp2_with fail
        refine (HT.out _ _).mono ?_
        rw [Hec.out]
        rintro e x9 ⟨rfl, hb⟩
        replace z0 := cell_of_ans hb z0
        replace z1 := cell_of_ans hb z1
        replace k0 := cell_of_ans hb k0
        replace k1 := cell_of_ans hb k1
        replace k2 := cell_of_ans hb k2
        replace k3 := cell_of_ans hb k3
        replace k4 := cell_of_ans hb k4
        replace HB := Lib.hid (HB.out.trans (hb.mono HB.out.size))
        clear hb
        go_wp2_with fail
        go_ret
        exact ⟨ret_bool (by rw [HG.out]; simp), HB.out⟩
      · rw [ec] at HG
        have Hec := Lib.hid ec
        clear ec
        cases ed : inB xb 0 (T - 1)
        · rw [ed] at HG
          have Hed := Lib.hid ed
          clear ed
          go_enter Try.func52, Try.ntmps52
          go_wp2_with fail
          generalize ((w.alloc (.cells #[.int .i64 T, .slice A n c] 32)).alloc (.cells #[.int .i64 xa, .int .i64 xb, .int .i64 xpa, .int .i64 xpb, .bool xop] 85)) = x1 at *
          refine (HQ.out _ _ _ _).mono ?_
          rw [Hea.out]
          rintro e wz ⟨rfl, rfl⟩
          go_wp2_with fail
          refine (HQ.out _ _ _ _).mono ?_
          rw [Heb.out]
          rintro e wz ⟨rfl, rfl⟩
          go_wp2_with fail
          refine (HT.out _ _).mono ?_
          rw [Hec.out]
          rintro e x10 ⟨rfl, hb⟩
          replace z0 := cell_of_ans hb z0
          replace z1 := cell_of_ans hb z1
          replace k0 := cell_of_ans hb k0
          replace k1 := cell_of_ans hb k1
          replace k2 := cell_of_ans hb k2
          replace k3 := cell_of_ans hb k3
          replace k4 := cell_of_ans hb k4
          replace HB := Lib.hid (HB.out.trans (hb.mono HB.out.size))
          clear hb
          go_wp2_with fail
          refine (HT.out _ _).mono ?_
          rw [Hed.out]
          rintro e x11 ⟨rfl, hb⟩
          replace z0 := cell_of_ans hb z0
          replace z1 := cell_of_ans hb z1
          replace k0 := cell_of_ans hb k0
          replace k1 := cell_of_ans hb k1
          replace k2 := cell_of_ans hb k2
          replace k3 := cell_of_ans hb k3
          replace k4 := cell_of_ans hb k4
          replace HB := Lib.hid (HB.out.trans (hb.mono HB.out.size))
          clear hb
          go_wp2_with fail
          go_ret
          exact ⟨ret_bool (by rw [HG.out]; simp), HB.out⟩
        · rw [ed] at HG
          have Hed := Lib.hid ed
          clear ed
          cases ee : xa == xb
          rotate_left 1
          · rw [ee] at HG
            have q1 : (xa != xb) = false := by simp [bne, ee]
            clear ee
            go_enter Try.func52, Try.ntmps52
            go_wp2_with fail
            generalize ((w.alloc (.cells #[.int .i64 T, .slice A n c] 32)).alloc (.cells #[.int .i64 xa, .int .i64 xb, .int .i64 xpa, .int .i64 xpb, .bool xop] 85)) = x1 at *
            refine (HQ.out _ _ _ _).mono ?_
            rw [Hea.out]
            rintro e wz ⟨rfl, rfl⟩
            go_wp2_with fail
            refine (HQ.out _ _ _ _).mono ?_
            rw [Heb.out]
            rintro e wz ⟨rfl, rfl⟩
            go_wp2_with fail
            refine (HT.out _ _).mono ?_
            rw [Hec.out]
            rintro e x12 ⟨rfl, hb⟩
            replace z0 := cell_of_ans hb z0
            replace z1 := cell_of_ans hb z1
            replace k0 := cell_of_ans hb k0
            replace k1 := cell_of_ans hb k1
            replace k2 := cell_of_ans hb k2
            replace k3 := cell_of_ans hb k3
            replace k4 := cell_of_ans hb k4
            replace HB := Lib.hid (HB.out.trans (hb.mono HB.out.size))
            clear hb
            go_wp2_with fail
            refine (HT.out _ _).mono ?_
            rw [Hed.out]
            rintro e x13 ⟨rfl, hb⟩
            replace z0 := cell_of_ans hb z0
            replace z1 := cell_of_ans hb z1
            replace k0 := cell_of_ans hb k0
            replace k1 := cell_of_ans hb k1
            replace k2 := cell_of_ans hb k2
            replace k3 := cell_of_ans hb k3
            replace k4 := cell_of_ans hb k4
            replace HB := Lib.hid (HB.out.trans (hb.mono HB.out.size))
            clear hb
            go_wp2_with fail
            go_ret
            exact ⟨ret_bool (by rw [HG.out]; simp), HB.out⟩
          · rw [ee] at HG
            have q1 : (xa != xb) = true := by simp [bne, ee]
            clear ee
            go_enter Try.func52, Try.ntmps52
            go_wp2_with fail
            generalize ((w.alloc (.cells #[.int .i64 T, .slice A n c] 32)).alloc (.cells #[.int .i64 xa, .int .i64 xb, .int .i64 xpa, .int .i64 xpb, .bool xop] 85)) = x1 at *
            refine (HQ.out _ _ _ _).mono ?_
            rw [Hea.out]
            rintro e wz ⟨rfl, rfl⟩
            go_wp2_with fail
            refine (HQ.out _ _ _ _).mono ?_
            rw [Heb.out]
            rintro e wz ⟨rfl, rfl⟩
            go_wp2_with fail
            refine (HT.out _ _).mono ?_
            rw [Hec.out]
            rintro e x14 ⟨rfl, hb⟩
            replace z0 := cell_of_ans hb z0
            replace z1 := cell_of_ans hb z1
            replace k0 := cell_of_ans hb k0
            replace k1 := cell_of_ans hb k1
            replace k2 := cell_of_ans hb k2
            replace k3 := cell_of_ans hb k3
            replace k4 := cell_of_ans hb k4
            replace HB := Lib.hid (HB.out.trans (hb.mono HB.out.size))
            clear hb
            go_wp2_with fail
            refine (HT.out _ _).mono ?_
            rw [Hed.out]
            rintro e x15 ⟨rfl, hb⟩
            replace z0 := cell_of_ans hb z0
            replace z1 := cell_of_ans hb z1
            replace k0 := cell_of_ans hb k0
            replace k1 := cell_of_ans hb k1
            replace k2 := cell_of_ans hb k2
            replace k3 := cell_of_ans hb k3
            replace k4 := cell_of_ans hb k4
            replace HB := Lib.hid (HB.out.trans (hb.mono HB.out.size))
            clear hb
            go_wp2_with fail
            go_ret
            exact ⟨ret_bool (by rw [HG.out]; simp), HB.out⟩
    · rw [eb] at HG
      have Heb := Lib.hid eb
      clear eb
      cases ec : inB xa 0 (T - 1)
      · rw [ec] at HG
        have Hec := Lib.hid ec
        clear ec
        go_enter Try.func52, Try.ntmps52
        go_wp2_with fail
        generalize ((w.alloc (.cells #[.int .i64 T, .slice A n c] 32)).alloc (.cells #[.int .i64 xa, .int .i64 xb, .int .i64 xpa, .int .i64 xpb, .bool xop] 85)) = x1 at *
        refine (HQ.out _ _ _ _).mono ?_
        rw [Hea.out]
        rintro e wz ⟨rfl, rfl⟩
        go_wp2_with fail
        refine (HQ.out _ _ _ _).mono ?_
        rw [Heb.out]
        rintro e wz ⟨rfl, rfl⟩
        go_wp2_with fail
        refine (HT.out _ _).mono ?_
        rw [Hec.out]
        rintro e x16 ⟨rfl, hb⟩
        replace z0 := cell_of_ans hb z0
        replace z1 := cell_of_ans hb z1
        replace k0 := cell_of_ans hb k0
        replace k1 := cell_of_ans hb k1
        replace k2 := cell_of_ans hb k2
        replace k3 := cell_of_ans hb k3
        replace k4 := cell_of_ans hb k4
        replace HB := Lib.hid (HB.out.trans (hb.mono HB.out.size))
        clear hb
        go_wp2_with fail
        go_ret
        exact ⟨ret_bool (by rw [HG.out]; simp), HB.out⟩
      · rw [ec] at HG
        have Hec := Lib.hid ec
        clear ec
        cases ed : inB xb 0 (T - 1)
        · rw [ed] at HG
          have Hed := Lib.hid ed
          clear ed
          go_enter Try.func52, Try.ntmps52
          go_wp2_with fail
          generalize ((w.alloc (.cells #[.int .i64 T, .slice A n c] 32)).alloc (.cells #[.int .i64 xa, .int .i64 xb, .int .i64 xpa, .int .i64 xpb, .bool xop] 85)) = x1 at *
          refine (HQ.out _ _ _ _).mono ?_
          rw [Hea.out]
          rintro e wz ⟨rfl, rfl⟩
          go_wp2_with fail
          refine (HQ.out _ _ _ _).mono ?_
          rw [Heb.out]
          rintro e wz ⟨rfl, rfl⟩
          go_wp2_with fail
          refine (HT.out _ _).mono ?_
          rw [Hec.out]
          rintro e x17 ⟨rfl, hb⟩
          replace z0 := cell_of_ans hb z0
          replace z1 := cell_of_ans hb z1
          replace k0 := cell_of_ans hb k0
          replace k1 := cell_of_ans hb k1
          replace k2 := cell_of_ans hb k2
          replace k3 := cell_of_ans hb k3
          replace k4 := cell_of_ans hb k4
          replace HB := Lib.hid (HB.out.trans (hb.mono HB.out.size))
          clear hb
          go_wp2_with fail
          refine (HT.out _ _).mono ?_
          rw [Hed.out]
          rintro e x18 ⟨rfl, hb⟩
          replace z0 := cell_of_ans hb z0
          replace z1 := cell_of_ans hb z1
          replace k0 := cell_of_ans hb k0
          replace k1 := cell_of_ans hb k1
          replace k2 := cell_of_ans hb k2
          replace k3 := cell_of_ans hb k3
          replace k4 := cell_of_ans hb k4
          replace HB := Lib.hid (HB.out.trans (hb.mono HB.out.size))
          clear hb
          go_wp2_with fail
          go_ret
          exact ⟨ret_bool (by rw [HG.out]; simp), HB.out⟩
        · rw [ed] at HG
          have Hed := Lib.hid ed
          clear ed
          cases ee : xa == xb
          rotate_left 1
          · rw [ee] at HG
            have q1 : (xa != xb) = false := by simp [bne, ee]
            clear ee
            go_enter Try.func52, Try.ntmps52
            go_wp2_with fail
            generalize ((w.alloc (.cells #[.int .i64 T, .slice A n c] 32)).alloc (.cells #[.int .i64 xa, .int .i64 xb, .int .i64 xpa, .int .i64 xpb, .bool xop] 85)) = x1 at *
            refine (HQ.out _ _ _ _).mono ?_
            rw [Hea.out]
            rintro e wz ⟨rfl, rfl⟩
            go_wp2_with fail
            refine (HQ.out _ _ _ _).mono ?_
            rw [Heb.out]
            rintro e wz ⟨rfl, rfl⟩
            go_wp2_with fail
            refine (HT.out _ _).mono ?_
            rw [Hec.out]
            rintro e x19 ⟨rfl, hb⟩
            replace z0 := cell_of_ans hb z0
            replace z1 := cell_of_ans hb z1
            replace k0 := cell_of_ans hb k0
            replace k1 := cell_of_ans hb k1
            replace k2 := cell_of_ans hb k2
            replace k3 := cell_of_ans hb k3
            replace k4 := cell_of_ans hb k4
            replace HB := Lib.hid (HB.out.trans (hb.mono HB.out.size))
            clear hb
            go_wp2_with fail
            refine (HT.out _ _).mono ?_
            rw [Hed.out]
            rintro e x20 ⟨rfl, hb⟩
            replace z0 := cell_of_ans hb z0
            replace z1 := cell_of_ans hb z1
            replace k0 := cell_of_ans hb k0
            replace k1 := cell_of_ans hb k1
            replace k2 := cell_of_ans hb k2
            replace k3 := cell_of_ans hb k3
            replace k4 := cell_of_ans hb k4
            replace HB := Lib.hid (HB.out.trans (hb.mono HB.out.size))
            clear hb
            go_wp2_with fail
            go_ret
            exact ⟨ret_bool (by rw [HG.out]; simp), HB.out⟩
          · rw [ee] at HG
            have q1 : (xa != xb) = true := by simp [bne, ee]
            clear ee
            cases xop
            · go_enter Try.func52, Try.ntmps52
              go_wp2_with fail
              generalize ((w.alloc (.cells #[.int .i64 T, .slice A n c] 32)).alloc (.cells #[.int .i64 xa, .int .i64 xb, .int .i64 xpa, .int .i64 xpb, .bool false] 85)) = x1 at *
              refine (HQ.out _ _ _ _).mono ?_
              rw [Hea.out]
              rintro e wz ⟨rfl, rfl⟩
              go_wp2_with fail
              refine (HQ.out _ _ _ _).mono ?_
              rw [Heb.out]
              rintro e wz ⟨rfl, rfl⟩
              go_wp2_with fail
              refine (HT.out _ _).mono ?_
              rw [Hec.out]
              rintro e x21 ⟨rfl, hb⟩
              replace z0 := cell_of_ans hb z0
              replace z1 := cell_of_ans hb z1
              replace k0 := cell_of_ans hb k0
              replace k1 := cell_of_ans hb k1
              replace k2 := cell_of_ans hb k2
              replace k3 := cell_of_ans hb k3
              replace k4 := cell_of_ans hb k4
              replace HB := Lib.hid (HB.out.trans (hb.mono HB.out.size))
              clear hb
              go_wp2_with fail
              refine (HT.out _ _).mono ?_
              rw [Hed.out]
              rintro e x22 ⟨rfl, hb⟩
              replace z0 := cell_of_ans hb z0
              replace z1 := cell_of_ans hb z1
              replace k0 := cell_of_ans hb k0
              replace k1 := cell_of_ans hb k1
              replace k2 := cell_of_ans hb k2
              replace k3 := cell_of_ans hb k3
              replace k4 := cell_of_ans hb k4
              replace HB := Lib.hid (HB.out.trans (hb.mono HB.out.size))
              clear hb
              go_wp2_with fail
              go_ret
              exact ⟨ret_bool (by rw [HG.out]; simp), HB.out⟩
            · cases ef : xpa == 0
              · rw [ef] at HG
                go_enter Try.func52, Try.ntmps52
                go_wp2_with fail
                generalize ((w.alloc (.cells #[.int .i64 T, .slice A n c] 32)).alloc (.cells #[.int .i64 xa, .int .i64 xb, .int .i64 xpa, .int .i64 xpb, .bool true] 85)) = x1 at *
                refine (HQ.out _ _ _ _).mono ?_
                rw [Hea.out]
                rintro e wz ⟨rfl, rfl⟩
                go_wp2_with fail
                refine (HQ.out _ _ _ _).mono ?_
                rw [Heb.out]
                rintro e wz ⟨rfl, rfl⟩
                go_wp2_with fail
                refine (HT.out _ _).mono ?_
                rw [Hec.out]
                rintro e x23 ⟨rfl, hb⟩
                replace z0 := cell_of_ans hb z0
                replace z1 := cell_of_ans hb z1
                replace k0 := cell_of_ans hb k0
                replace k1 := cell_of_ans hb k1
                replace k2 := cell_of_ans hb k2
                replace k3 := cell_of_ans hb k3
                replace k4 := cell_of_ans hb k4
                replace HB := Lib.hid (HB.out.trans (hb.mono HB.out.size))
                clear hb
                go_wp2_with fail
                refine (HT.out _ _).mono ?_
                rw [Hed.out]
                rintro e x24 ⟨rfl, hb⟩
                replace z0 := cell_of_ans hb z0
                replace z1 := cell_of_ans hb z1
                replace k0 := cell_of_ans hb k0
                replace k1 := cell_of_ans hb k1
                replace k2 := cell_of_ans hb k2
                replace k3 := cell_of_ans hb k3
                replace k4 := cell_of_ans hb k4
                replace HB := Lib.hid (HB.out.trans (hb.mono HB.out.size))
                clear hb
                go_wp2_with fail
                go_ret
                exact ⟨ret_bool (by rw [HG.out]; simp), HB.out⟩
              · cases eg : xpb == 0
                · rw [ef, eg] at HG
                  go_enter Try.func52, Try.ntmps52
                  go_wp2_with fail
                  generalize ((w.alloc (.cells #[.int .i64 T, .slice A n c] 32)).alloc (.cells #[.int .i64 xa, .int .i64 xb, .int .i64 xpa, .int .i64 xpb, .bool true] 85)) = x1 at *
                  refine (HQ.out _ _ _ _).mono ?_
                  rw [Hea.out]
                  rintro e wz ⟨rfl, rfl⟩
                  go_wp2_with fail
                  refine (HQ.out _ _ _ _).mono ?_
                  rw [Heb.out]
                  rintro e wz ⟨rfl, rfl⟩
                  go_wp2_with fail
                  refine (HT.out _ _).mono ?_
                  rw [Hec.out]
                  rintro e x25 ⟨rfl, hb⟩
                  replace z0 := cell_of_ans hb z0
                  replace z1 := cell_of_ans hb z1
                  replace k0 := cell_of_ans hb k0
                  replace k1 := cell_of_ans hb k1
                  replace k2 := cell_of_ans hb k2
                  replace k3 := cell_of_ans hb k3
                  replace k4 := cell_of_ans hb k4
                  replace HB := Lib.hid (HB.out.trans (hb.mono HB.out.size))
                  clear hb
                  go_wp2_with fail
                  refine (HT.out _ _).mono ?_
                  rw [Hed.out]
                  rintro e x26 ⟨rfl, hb⟩
                  replace z0 := cell_of_ans hb z0
                  replace z1 := cell_of_ans hb z1
                  replace k0 := cell_of_ans hb k0
                  replace k1 := cell_of_ans hb k1
                  replace k2 := cell_of_ans hb k2
                  replace k3 := cell_of_ans hb k3
                  replace k4 := cell_of_ans hb k4
                  replace HB := Lib.hid (HB.out.trans (hb.mono HB.out.size))
                  clear hb
                  go_wp2_with fail
                  go_ret
                  exact ⟨ret_bool (by rw [HG.out]; simp), HB.out⟩
                · rw [ef, eg] at HG
                  go_enter Try.func52, Try.ntmps52
                  go_wp2_with fail
                  generalize ((w.alloc (.cells #[.int .i64 T, .slice A n c] 32)).alloc (.cells #[.int .i64 xa, .int .i64 xb, .int .i64 xpa, .int .i64 xpb, .bool true] 85)) = x1 at *
                  refine (HQ.out _ _ _ _).mono ?_
                  rw [Hea.out]
                  rintro e wz ⟨rfl, rfl⟩
                  go_wp2_with fail
                  refine (HQ.out _ _ _ _).mono ?_
                  rw [Heb.out]
                  rintro e wz ⟨rfl, rfl⟩
                  go_wp2_with fail
                  refine (HT.out _ _).mono ?_
                  rw [Hec.out]
                  rintro e x27 ⟨rfl, hb⟩
                  replace z0 := cell_of_ans hb z0
                  replace z1 := cell_of_ans hb z1
                  replace k0 := cell_of_ans hb k0
                  replace k1 := cell_of_ans hb k1
                  replace k2 := cell_of_ans hb k2
                  replace k3 := cell_of_ans hb k3
                  replace k4 := cell_of_ans hb k4
                  replace HB := Lib.hid (HB.out.trans (hb.mono HB.out.size))
                  clear hb
                  go_wp2_with fail
                  refine (HT.out _ _).mono ?_
                  rw [Hed.out]
                  rintro e x28 ⟨rfl, hb⟩
                  replace z0 := cell_of_ans hb z0
                  replace z1 := cell_of_ans hb z1
                  replace k0 := cell_of_ans hb k0
                  replace k1 := cell_of_ans hb k1
                  replace k2 := cell_of_ans hb k2
                  replace k3 := cell_of_ans hb k3
                  replace k4 := cell_of_ans hb k4
                  replace HB := Lib.hid (HB.out.trans (hb.mono HB.out.size))
                  clear hb
                  go_wp2_with fail
                  go_ret
                  exact ⟨ret_bool (by rw [HG.out]; simp), HB.out⟩
end

section

open Go.RowKit
set_option linter.unusedSimpArgs false
set_option linter.unusedVariables false

attribute [local go_sem] Oper.semAt_some
theorem enters52 : Enters 52 := fun _ _ => enters_of Try.func52 (by kernel_rfl) rfl _ _
theorem all_games {l : Lg} : l.games.all (gameB l.teams) = allB l.games.length (fun k => gameB l.teams (gmx l.games k)) := by
  rw [Bool.eq_iff_iff, allB_iff, List.all_eq_true]
  constructor
  · intro h k hk
    have := h _ (List.getElem_mem hk)
    rwa [← gmx_lt hk] at this
  · intro h g hg
    obtain ⟨k, hk, rfl⟩ := List.getElem_of_mem hg
    rw [← gmx_lt hk]
    exact h k hk
theorem fault_eq {l : Lg} : faultL l = if 20 < l.games.length then 3 else if inB l.teams 2 6 && allB l.games.length (fun k => gameB l.teams (gmx l.games k)) then 0 else 1 := by
  unfold faultL
  rw [all_games]
  by_cases h : 2 ≤ l.teams ∧ l.teams ≤ 6
  · rw [(inB_eq _ _ _).2 h]
    simp [h]
  · have : inB l.teams 2 6 = false := by
      rw [Bool.eq_false_iff, Ne, inB_eq]; exact h
    rw [this]
    simp [h]
set_option maxRecDepth 100000 in
set_option maxHeartbeats 1600000 in
theorem check17_c (l : Lg) (A : Option Addr) (c : Nat) (w : World) (hl : Gms w.heap.size w A l.games) (hc : l.games.length ≤ c ∧ c ≤ 9223372036854775807) :
    Calls Try.prog 17 #[.agg #[.int .i64 l.teams, .slice A l.games.length c]] w (Ans w (.int .i64 (faultL l))) := by
  have HB := Lib.hid (Below.refl w.heap.size w)
  have HL := Lib.hid hl
  clear hl
  have HF := Lib.hid (fault_eq (l := l))
  have hb : Below w.heap.size w (w.alloc (.cells #[.int .i64 l.teams, .slice A l.games.length c] 32)) := (Below.refl _ _).alloc (Nat.le_refl _) _
  replace HL := Lib.hid (HL.out.step hb)
  replace HB := Lib.hid (HB.out.trans (hb.mono HB.out.size))
  clear hb
  have k0 : (w.alloc (.cells #[.int .i64 l.teams, .slice A l.games.length c] 32)).cell? ⟨w.heap.size, 0, none⟩ = some (.int .i64 l.teams) := by simp
  have k1 : (w.alloc (.cells #[.int .i64 l.teams, .slice A l.games.length c] 32)).cell? ⟨w.heap.size, 1, none⟩ = some (.slice A l.games.length c) := by simp
  by_cases h1 : 20 < l.games.length
  · rw [if_pos h1] at HF
    go_enter Try.func17, Try.ntmps17
    go_wp2_with fail
    go_ret
    exact ⟨ret_int HF.out.symm, HB.out⟩
  · rw [if_neg h1] at HF
    have HT := Lib.hid (fun W => teams50_c l.teams W)
    cases e1 : inB l.teams 2 6
    · rw [e1] at HF
      have He1 := Lib.hid e1
      clear e1
      go_enter Try.func17, Try.ntmps17
      go_wp2_with fail
      generalize (w.alloc (.cells #[.int .i64 l.teams, .slice A l.games.length c] 32)) = x1 at *
      refine (HT.out _).mono ?_
      rw [He1.out]
      rintro e w1 ⟨rfl, rfl⟩
      go_wp2_with fail
      go_ret
      exact ⟨ret_int (by rw [HF.out]; rfl), HB.out⟩
    · rw [e1] at HF
      have hin := (inB_eq _ _ _).1 e1
      have He1 := Lib.hid e1
      clear e1
      have HA := Lib.hid (fun (W : World) (h1 : Gms W.heap.size W A l.games) => allGm (B := W.heap.size) A c 52 #[.agg #[.int .i64 l.teams, .slice A l.games.length c]] #[] l.games (fun k => gameB l.teams (gmx l.games k)) W enters52 (Nat.le_refl _) (by omega) h1 (fun k _ W _ => game52_c l.teams (gmx l.games k) A l.games.length c W hin.1 hin.2))
      cases e2 : allB l.games.length (fun k => gameB l.teams (gmx l.games k))
      · rw [e2] at HF
        simp only [e2] at HA
        clear e2
        go_enter Try.func17, Try.ntmps17
        go_wp2_with fail
        generalize (w.alloc (.cells #[.int .i64 l.teams, .slice A l.games.length c] 32)) = x1 at *
        refine (HT.out _).mono ?_
        rw [He1.out]
        rintro e w1 ⟨rfl, rfl⟩
        go_wp2_with fail
        refine (HA.out _ HL.out).mono ?_
        rintro e x1 ⟨rfl, hb⟩
        replace HL := Lib.hid (HL.out.step hb)
        replace k0 := cell_of_ans hb k0
        replace k1 := cell_of_ans hb k1
        replace HB := Lib.hid (HB.out.trans (hb.mono HB.out.size))
        clear hb
        go_wp2_with fail
        go_ret
        exact ⟨ret_int (by rw [HF.out]; rfl), HB.out⟩
      · rw [e2] at HF
        simp only [e2] at HA
        clear e2
        go_enter Try.func17, Try.ntmps17
        go_wp2_with fail
        generalize (w.alloc (.cells #[.int .i64 l.teams, .slice A l.games.length c] 32)) = x1 at *
        refine (HT.out _).mono ?_
        rw [He1.out]
        rintro e w1 ⟨rfl, rfl⟩
        go_wp2_with fail
        refine (HA.out _ HL.out).mono ?_
        rintro e x2 ⟨rfl, hb⟩
        replace HL := Lib.hid (HL.out.step hb)
        replace k0 := cell_of_ans hb k0
        replace k1 := cell_of_ans hb k1
        replace HB := Lib.hid (HB.out.trans (hb.mono HB.out.size))
        clear hb
        go_wp2_with fail
        go_ret
        exact ⟨ret_int (by rw [HF.out]; rfl), HB.out⟩
/-- The error of a league with a team. -/
def askedL (l : Lg) (tm : Int) : Int := if faultL l = 0 then (if inB tm 0 (l.teams - 1) then 0 else 2) else faultL l
set_option maxRecDepth 100000 in
set_option maxHeartbeats 1600000 in
theorem asked69_c (l : Lg) (tm : Int) (A : Option Addr) (c : Nat) (w : World) (hl : Gms w.heap.size w A l.games) (hc : l.games.length ≤ c ∧ c ≤ 9223372036854775807) :
    Calls Try.prog 69 #[.agg #[.int .i64 l.teams, .slice A l.games.length c], .int .i64 tm] w (Ans w (.int .i64 (askedL l tm))) := by
  have HB := Lib.hid (Below.refl w.heap.size w)
  have HL := Lib.hid hl
  clear hl
  have HC := Lib.hid (fun (W : World) (h : Gms W.heap.size W A l.games) => check17_c l A c W h hc)
  have hb : Below w.heap.size w (w.alloc (.cells #[.int .i64 l.teams, .slice A l.games.length c] 32)) := (Below.refl _ _).alloc (Nat.le_refl _) _
  replace HL := Lib.hid (HL.out.step hb)
  replace HB := Lib.hid (HB.out.trans (hb.mono HB.out.size))
  clear hb
  have k0 : (w.alloc (.cells #[.int .i64 l.teams, .slice A l.games.length c] 32)).cell? ⟨w.heap.size, 0, none⟩ = some (.int .i64 l.teams) := by simp
  have k1 : (w.alloc (.cells #[.int .i64 l.teams, .slice A l.games.length c] 32)).cell? ⟨w.heap.size, 1, none⟩ = some (.slice A l.games.length c) := by simp
  by_cases h1 : faultL l = 0
  · have hv := valid_iff.1 h1
    have HT := Lib.hid (fun W => team74_c l.teams tm A l.games.length c W hv.t2 hv.t6)
    have HF : Hid (askedL l tm = if inB tm 0 (l.teams - 1) then 0 else 2) := by show _ = _; unfold askedL; rw [if_pos h1]
    clear hv
    cases e2 : inB tm 0 (l.teams - 1)
    · rw [e2] at HF HT
      clear e2
      go_enter Try.func69, Try.ntmps69
      go_wp2_with fail
      generalize (w.alloc (.cells #[.int .i64 l.teams, .slice A l.games.length c] 32)) = x1 at *
      refine (HC.out _ HL.out).mono ?_
      rw [h1]
      rintro e x1 ⟨rfl, hb⟩
      replace HL := Lib.hid (HL.out.step hb)
      replace k0 := cell_of_ans hb k0
      replace k1 := cell_of_ans hb k1
      replace HB := Lib.hid (HB.out.trans (hb.mono HB.out.size))
      clear hb
      go_wp2_with fail
      refine (HT.out _).mono ?_
      rintro e x2 ⟨rfl, hb⟩
      replace HL := Lib.hid (HL.out.step hb)
      replace k0 := cell_of_ans hb k0
      replace k1 := cell_of_ans hb k1
      replace HB := Lib.hid (HB.out.trans (hb.mono HB.out.size))
      clear hb
      go_wp2_with fail
      go_ret
      exact ⟨ret_int (by rw [HF.out]; rfl), HB.out⟩
    · rw [e2] at HF HT
      clear e2
      go_enter Try.func69, Try.ntmps69
      go_wp2_with fail
      generalize (w.alloc (.cells #[.int .i64 l.teams, .slice A l.games.length c] 32)) = x1 at *
      refine (HC.out _ HL.out).mono ?_
      rw [h1]
      rintro e x3 ⟨rfl, hb⟩
      replace HL := Lib.hid (HL.out.step hb)
      replace k0 := cell_of_ans hb k0
      replace k1 := cell_of_ans hb k1
      replace HB := Lib.hid (HB.out.trans (hb.mono HB.out.size))
      clear hb
      go_wp2_with fail
      refine (HT.out _).mono ?_
      rintro e x4 ⟨rfl, hb⟩
      replace HL := Lib.hid (HL.out.step hb)
      replace k0 := cell_of_ans hb k0
      replace k1 := cell_of_ans hb k1
      replace HB := Lib.hid (HB.out.trans (hb.mono HB.out.size))
      clear hb
      go_wp2_with fail
      go_ret
      exact ⟨ret_int (by rw [HF.out]; rfl), HB.out⟩
  · have HF : Hid (askedL l tm = faultL l) := by show _ = _; unfold askedL; rw [if_neg h1]
    have q1 : (faultL l != 0) = true := by simp [h1]
    clear h1
    generalize faultL l = fl at *
    go_enter Try.func69, Try.ntmps69
    go_wp2_with fail
    generalize (w.alloc (.cells #[.int .i64 l.teams, .slice A l.games.length c] 32)) = x1 at *
    refine (HC.out _ HL.out).mono ?_
    rintro e x5 ⟨rfl, hb⟩
    replace HL := Lib.hid (HL.out.step hb)
    replace k0 := cell_of_ans hb k0
    replace k1 := cell_of_ans hb k1
    replace HB := Lib.hid (HB.out.trans (hb.mono HB.out.size))
    clear hb
    go_wp2_with fail
    go_ret
    exact ⟨ret_int HF.out.symm, HB.out⟩
set_option maxRecDepth 100000 in
set_option maxHeartbeats 3200000 in
theorem fault57_c (l : Lg) (A : Option Addr) (c : Nat) (w : World) (hl : Gms w.heap.size w A l.games) (hc : l.games.length ≤ c ∧ c ≤ 9223372036854775807) :
    Calls Try.prog 57 #[.agg #[.int .i64 l.teams, .slice A l.games.length c]] w (Ans w (.int .i64 (faultL l))) := by
  have HB := Lib.hid (Below.refl w.heap.size w)
  have HL := Lib.hid hl
  clear hl
  have HF := Lib.hid (fault_eq (l := l))
  have HQ : Hid (∀ y lo hi W, Calls Try.prog 46 #[.int .i64 y, .int .i64 lo, .int .i64 hi] W (Same W (.bool (inB y lo hi)))) := fun y lo hi W => in46_c y lo hi W
  have hb : Below w.heap.size w (w.alloc (.cells #[.int .i64 l.teams, .slice A l.games.length c] 24)) := (Below.refl _ _).alloc (Nat.le_refl _) _
  replace HL := Lib.hid (HL.out.step hb)
  replace HB := Lib.hid (HB.out.trans (hb.mono HB.out.size))
  clear hb
  have k0 : (w.alloc (.cells #[.int .i64 l.teams, .slice A l.games.length c] 24)).cell? ⟨w.heap.size, 0, none⟩ = some (.int .i64 l.teams) := by simp
  have k1 : (w.alloc (.cells #[.int .i64 l.teams, .slice A l.games.length c] 24)).cell? ⟨w.heap.size, 1, none⟩ = some (.slice A l.games.length c) := by simp
  by_cases h1 : 20 < l.games.length
  · rw [if_pos h1] at HF
    go_enter Try.func57, Try.ntmps57
    go_wp2_with fail
    go_ret
    exact ⟨ret_int HF.out.symm, HB.out⟩
  · rw [if_neg h1] at HF
    cases e1 : inB l.teams 2 6
    · rw [e1] at HF
      have He1 := Lib.hid e1
      clear e1
      go_enter Try.func57, Try.ntmps57
      go_wp2_with fail
      generalize (w.alloc (.cells #[.int .i64 l.teams, .slice A l.games.length c] 24)) = x1 at *
      refine (HQ.out _ _ _ _).mono ?_
      rw [He1.out]
      rintro e wz ⟨rfl, rfl⟩
      go_wp2_with fail
      go_ret
      exact ⟨ret_int (by rw [HF.out]; rfl), HB.out⟩
    · rw [e1, Bool.true_and] at HF
      have hin := (inB_eq _ _ _).1 e1
      have He1 := Lib.hid e1
      clear e1
      have hwr : IntKind.i64.wrap (l.teams - 1) = l.teams - 1 := IntWalk.i64_in _ (by omega)
      go_enter Try.func57, Try.ntmps57
      go_wp2_with fail
      generalize (w.alloc (.cells #[.int .i64 l.teams, .slice A l.games.length c] 24)) = x1 at *
      refine (HQ.out _ _ _ _).mono ?_
      rw [He1.out]
      rintro e wz ⟨rfl, rfl⟩
      go_wp2_with fail
      have ltk0 := World.block_lt_of_cell? _ _ k0
      dsimp only at ltk0
      go_loopw [3] (fun i wr => ∃ k : Nat, k ≤ l.games.length ∧ i = .int .i64 k ∧ AllB k (fun k => gameB l.teams (gmx l.games k)) ∧ Below x1.heap.size x1 wr) (fun i _ => l.games.length - (intOf i).toNat)
      case atStart => exact ⟨0, by omega, rfl, fun j hj => by omega, Below.refl _ _⟩
      case round =>
        obtain ⟨k, hk, rfl, ha, hb⟩ := hrel
        have HA := Lib.hid ha
        clear ha
        have HBR := Lib.hid hb
        have hz := hb.size
        by_cases h2 : k < l.games.length
        · obtain ⟨b, off, rfl, hb1, c1, c2, c3, c4, c5⟩ := (HL.out.step hb).at_ h2
          have h1i : (k : Int) < (l.games.length : Int) := by omega
          have HNO : Hid (gameB l.teams (gmx l.games k) = false → faultL l = 1) := fun h => by rw [HF.out, allB_false h2 h]; rfl
          have HYE : Hid (gameB l.teams (gmx l.games k) = true → AllB (k + 1) (fun k => gameB l.teams (gmx l.games k))) := fun h => HA.out.succ h
          clear HF
          replace k0 := cell_of_ans hb k0
          replace k1 := cell_of_ans hb k1
          have ltk1 := World.block_lt_of_cell? _ _ k0
          dsimp only at ltk1
          clear hb
          generalize gmx l.games k = x at *
          obtain ⟨xa, xb, xpa, xpb, xop⟩ := x
          dsimp only at c1 c2 c3 c4 c5
          have HG : Hid (gameB l.teams ⟨xa, xb, xpa, xpb, xop⟩ = (inB xpa 0 3000 && inB xpb 0 3000 && inB xa 0 (l.teams - 1) && inB xb 0 (l.teams - 1) && !(xa == xb) && (!xop || (xpa == 0 && xpb == 0)))) := game_eq
          have HX2 : Hid (Below x1.heap.size x1 (wr.alloc (.cells #[.int .i64 xa, .int .i64 xb, .int .i64 xpa, .int .i64 xpb, .bool xop] 70))) := HBR.out.alloc hz _
          cases ea : inB xa 0 (l.teams - 1)
          · rw [ea] at HG
            have Hea := Lib.hid ea
            clear ea
            go_wp2_with fail
            refine (HQ.out _ _ _ _).mono ?_
            rw [Hea.out]
            rintro e wz ⟨rfl, rfl⟩
            go_wp2_with fail
            go_ret
            exact ⟨ret_int (HNO.out (by rw [HG.out]; simp)).symm, HB.out.trans (HX2.out.mono HB.out.size)⟩
          · rw [ea] at HG
            have Hea := Lib.hid ea
            clear ea
            cases eb : inB xb 0 (l.teams - 1)
            · rw [eb] at HG
              have Heb := Lib.hid eb
              clear eb
              go_wp2_with fail
              refine (HQ.out _ _ _ _).mono ?_
              rw [Hea.out]
              rintro e wz ⟨rfl, rfl⟩
              go_wp2_with fail
              refine (HQ.out _ _ _ _).mono ?_
              rw [Heb.out]
              rintro e wz ⟨rfl, rfl⟩
              go_wp2_with fail
              go_ret
              exact ⟨ret_int (HNO.out (by rw [HG.out]; simp)).symm, HB.out.trans (HX2.out.mono HB.out.size)⟩
            · rw [eb] at HG
              have Heb := Lib.hid eb
              clear eb
              cases ee : xa == xb
              rotate_left 1
              · rw [ee] at HG
                go_wp2_with fail
                refine (HQ.out _ _ _ _).mono ?_
                rw [Hea.out]
                rintro e wz ⟨rfl, rfl⟩
                go_wp2_with fail
                refine (HQ.out _ _ _ _).mono ?_
                rw [Heb.out]
                rintro e wz ⟨rfl, rfl⟩
                go_wp2_with fail
                go_ret
                exact ⟨ret_int (HNO.out (by rw [HG.out]; simp)).symm, HB.out.trans (HX2.out.mono HB.out.size)⟩
              · rw [ee] at HG
                cases ec : inB xpa 0 3000
                · rw [ec] at HG
                  have Hec := Lib.hid ec
                  clear ec
                  go_wp2_with fail
                  refine (HQ.out _ _ _ _).mono ?_
                  rw [Hea.out]
                  rintro e wz ⟨rfl, rfl⟩
                  go_wp2_with fail
                  refine (HQ.out _ _ _ _).mono ?_
                  rw [Heb.out]
                  rintro e wz ⟨rfl, rfl⟩
                  go_wp2_with fail
                  refine (HQ.out _ _ _ _).mono ?_
                  rw [Hec.out]
                  rintro e wz ⟨rfl, rfl⟩
                  go_wp2_with fail
                  go_ret
                  exact ⟨ret_int (HNO.out (by rw [HG.out]; simp)).symm, HB.out.trans (HX2.out.mono HB.out.size)⟩
                · rw [ec] at HG
                  have nec := (inB_eq _ _ _).1 ec
                  have Hec := Lib.hid ec
                  clear ec
                  cases ed : inB xpb 0 3000
                  · rw [ed] at HG
                    have Hed := Lib.hid ed
                    clear ed
                    go_wp2_with fail
                    refine (HQ.out _ _ _ _).mono ?_
                    rw [Hea.out]
                    rintro e wz ⟨rfl, rfl⟩
                    go_wp2_with fail
                    refine (HQ.out _ _ _ _).mono ?_
                    rw [Heb.out]
                    rintro e wz ⟨rfl, rfl⟩
                    go_wp2_with fail
                    refine (HQ.out _ _ _ _).mono ?_
                    rw [Hec.out]
                    rintro e wz ⟨rfl, rfl⟩
                    go_wp2_with fail
                    refine (HQ.out _ _ _ _).mono ?_
                    rw [Hed.out]
                    rintro e wz ⟨rfl, rfl⟩
                    go_wp2_with fail
                    go_ret
                    exact ⟨ret_int (HNO.out (by rw [HG.out]; simp)).symm, HB.out.trans (HX2.out.mono HB.out.size)⟩
                  · rw [ed] at HG
                    have ned := (inB_eq _ _ _).1 ed
                    have Hed := Lib.hid ed
                    clear ed
                    have hw9 : IntKind.i64.wrap (xpa + xpb) = xpa + xpb := IntWalk.i64_in _ (by omega)
                    cases xop
                    · clear nec ned hw9
                      go_wp2_with fail
                      refine (HQ.out _ _ _ _).mono ?_
                      rw [Hea.out]
                      rintro e wz ⟨rfl, rfl⟩
                      go_wp2_with fail
                      refine (HQ.out _ _ _ _).mono ?_
                      rw [Heb.out]
                      rintro e wz ⟨rfl, rfl⟩
                      go_wp2_with fail
                      refine (HQ.out _ _ _ _).mono ?_
                      rw [Hec.out]
                      rintro e wz ⟨rfl, rfl⟩
                      go_wp2_with fail
                      refine (HQ.out _ _ _ _).mono ?_
                      rw [Hed.out]
                      rintro e wz ⟨rfl, rfl⟩
                      go_wp2_with fail
                      go_roundw
                      case rel => exact ⟨k + 1, by omega, by go_num, HYE.out (by rw [HG.out]; simp), HX2.out⟩
                      case measure => simp [intOf]; omega
                    · by_cases h9 : 0 < xpa + xpb
                      · have HZ : Hid ((xpa == 0 && xpb == 0) = false) := by show _ = _; rw [Bool.eq_false_iff]; simp; omega
                        rw [HZ.out] at HG
                        clear nec ned
                        go_wp2_with fail
                        refine (HQ.out _ _ _ _).mono ?_
                        rw [Hea.out]
                        rintro e wz ⟨rfl, rfl⟩
                        go_wp2_with fail
                        refine (HQ.out _ _ _ _).mono ?_
                        rw [Heb.out]
                        rintro e wz ⟨rfl, rfl⟩
                        go_wp2_with fail
                        refine (HQ.out _ _ _ _).mono ?_
                        rw [Hec.out]
                        rintro e wz ⟨rfl, rfl⟩
                        go_wp2_with fail
                        refine (HQ.out _ _ _ _).mono ?_
                        rw [Hed.out]
                        rintro e wz ⟨rfl, rfl⟩
                        go_wp2_with fail
                        go_ret
                        exact ⟨ret_int (HNO.out (by rw [HG.out]; simp)).symm, HB.out.trans (HX2.out.mono HB.out.size)⟩
                      · have HZ : Hid ((xpa == 0 && xpb == 0) = true) := by show _ = _; simp; omega
                        rw [HZ.out] at HG
                        clear nec ned
                        go_wp2_with fail
                        refine (HQ.out _ _ _ _).mono ?_
                        rw [Hea.out]
                        rintro e wz ⟨rfl, rfl⟩
                        go_wp2_with fail
                        refine (HQ.out _ _ _ _).mono ?_
                        rw [Heb.out]
                        rintro e wz ⟨rfl, rfl⟩
                        go_wp2_with fail
                        refine (HQ.out _ _ _ _).mono ?_
                        rw [Hec.out]
                        rintro e wz ⟨rfl, rfl⟩
                        go_wp2_with fail
                        refine (HQ.out _ _ _ _).mono ?_
                        rw [Hed.out]
                        rintro e wz ⟨rfl, rfl⟩
                        go_wp2_with fail
                        go_roundw
                        case rel => exact ⟨k + 1, by omega, by go_num, HYE.out (by rw [HG.out]; simp), HX2.out⟩
                        case measure => simp [intOf]; omega
        · obtain rfl : k = l.games.length := by omega
          have h1i : ¬ (l.games.length : Int) < (l.games.length : Int) := by omega
          rw [allB_true HA.out] at HF
          replace k0 := cell_of_ans hb k0
          replace k1 := cell_of_ans hb k1
          clear hb
          go_wp2_with fail
          go_ret
          exact ⟨ret_int HF.out.symm, HB.out.trans (HBR.out.mono HB.out.size)⟩
set_option maxHeartbeats 400000 in
theorem fault21_c (l : Lg) (A : Option Addr) (c : Nat) (w : World) (hl : Gms w.heap.size w A l.games) (hc : l.games.length ≤ c ∧ c ≤ 9223372036854775807) :
    Calls Try.prog 21 #[.agg #[.int .i64 l.teams, .slice A l.games.length c]] w (Ans w (.int .i64 (faultL l))) := by
  have HB := Lib.hid (Below.refl w.heap.size w)
  have HL := Lib.hid hl
  clear hl
  have HC := Lib.hid (fun (W : World) (h : Gms W.heap.size W A l.games) => fault57_c l A c W h hc)
  have hb : Below w.heap.size w (w.alloc (.cells #[.int .i64 l.teams, .slice A l.games.length c] 24)) := (Below.refl _ _).alloc (Nat.le_refl _) _
  replace HL := Lib.hid (HL.out.step hb)
  replace HB := Lib.hid (HB.out.trans (hb.mono HB.out.size))
  clear hb
  have k0 : (w.alloc (.cells #[.int .i64 l.teams, .slice A l.games.length c] 24)).cell? ⟨w.heap.size, 0, none⟩ = some (.int .i64 l.teams) := by simp
  have k1 : (w.alloc (.cells #[.int .i64 l.teams, .slice A l.games.length c] 24)).cell? ⟨w.heap.size, 1, none⟩ = some (.slice A l.games.length c) := by simp
  go_enter Try.func21, Try.ntmps21
  go_wp2_with fail
  generalize (w.alloc (.cells #[.int .i64 l.teams, .slice A l.games.length c] 24)) = x1 at *
  refine (HC.out _ HL.out).mono ?_
  rintro e x1 ⟨rfl, hb⟩
  replace HL := Lib.hid (HL.out.step hb)
  replace k0 := cell_of_ans hb k0
  replace k1 := cell_of_ans hb k1
  replace HB := Lib.hid (HB.out.trans (hb.mono HB.out.size))
  clear hb
  go_wp2_with fail
  go_ret
  exact ⟨rfl, HB.out⟩
def thinG (n : Nat) : Bool := decide (n ≤ 24)
set_option maxHeartbeats 400000 in
theorem thin15_c (l : Lg) (A : Option Addr) (c : Nat) (w : World) :
    Calls Try.prog 15 #[.agg #[.int .i64 l.teams, .slice A l.games.length c]] w (Ans w (.bool (thinG l.games.length))) := by
  have HB := Lib.hid (Below.refl w.heap.size w)
  have hb : Below w.heap.size w (w.alloc (.cells #[.int .i64 l.teams, .slice A l.games.length c] 24)) := (Below.refl _ _).alloc (Nat.le_refl _) _
  replace HB := Lib.hid (HB.out.trans (hb.mono HB.out.size))
  clear hb
  have k0 : (w.alloc (.cells #[.int .i64 l.teams, .slice A l.games.length c] 24)).cell? ⟨w.heap.size, 0, none⟩ = some (.int .i64 l.teams) := by simp
  have k1 : (w.alloc (.cells #[.int .i64 l.teams, .slice A l.games.length c] 24)).cell? ⟨w.heap.size, 1, none⟩ = some (.slice A l.games.length c) := by simp
  by_cases h : l.games.length ≤ 24
  · have q1 : (l.games.length : Int) ≤ 24 := by omega
    have HD : Hid (thinG l.games.length = true) := by show _ = _; unfold thinG; simp; omega
    go_enter Try.func15, Try.ntmps15
    go_wp2_with fail
    go_ret
    exact ⟨ret_bool HD.out.symm, HB.out⟩
  · have q1 : ¬ (l.games.length : Int) ≤ 24 := by omega
    have HD : Hid (thinG l.games.length = false) := by show _ = _; unfold thinG; simp; omega
    go_enter Try.func15, Try.ntmps15
    go_wp2_with fail
    go_ret
    exact ⟨ret_bool HD.out.symm, HB.out⟩
set_option maxRecDepth 100000 in
set_option maxHeartbeats 1600000 in
theorem teamed40_c (l : Lg) (tm : Int) (A : Option Addr) (c : Nat) (w : World) (hl : Gms w.heap.size w A l.games) (hc : l.games.length ≤ c ∧ c ≤ 9223372036854775807) :
    Calls Try.prog 40 #[.agg #[.int .i64 l.teams, .slice A l.games.length c], .int .i64 tm] w (Ans w (.int .i64 (askedL l tm))) := by
  have HB := Lib.hid (Below.refl w.heap.size w)
  have HL := Lib.hid hl
  clear hl
  have HC := Lib.hid (fun (W : World) (h : Gms W.heap.size W A l.games) => fault21_c l A c W h hc)
  have HQ : Hid (∀ y lo hi W, Calls Try.prog 46 #[.int .i64 y, .int .i64 lo, .int .i64 hi] W (Same W (.bool (inB y lo hi)))) := fun y lo hi W => in46_c y lo hi W
  have hb : Below w.heap.size w (w.alloc (.cells #[.int .i64 l.teams, .slice A l.games.length c] 24)) := (Below.refl _ _).alloc (Nat.le_refl _) _
  replace HL := Lib.hid (HL.out.step hb)
  replace HB := Lib.hid (HB.out.trans (hb.mono HB.out.size))
  clear hb
  have k0 : (w.alloc (.cells #[.int .i64 l.teams, .slice A l.games.length c] 24)).cell? ⟨w.heap.size, 0, none⟩ = some (.int .i64 l.teams) := by simp
  have k1 : (w.alloc (.cells #[.int .i64 l.teams, .slice A l.games.length c] 24)).cell? ⟨w.heap.size, 1, none⟩ = some (.slice A l.games.length c) := by simp
  by_cases h1 : faultL l = 0
  · have hv := valid_iff.1 h1
    have hv2 := hv.t2
    have hv6 := hv.t6
    have hwr : IntKind.i64.wrap (l.teams - 1) = l.teams - 1 := IntWalk.i64_in _ (by omega)
    have HF : Hid (askedL l tm = if inB tm 0 (l.teams - 1) then 0 else 2) := by show _ = _; unfold askedL; rw [if_pos h1]
    clear hv
    cases e2 : inB tm 0 (l.teams - 1)
    · rw [e2] at HF
      have He2 := Lib.hid e2
      clear e2
      go_enter Try.func40, Try.ntmps40
      go_wp2_with fail
      generalize (w.alloc (.cells #[.int .i64 l.teams, .slice A l.games.length c] 24)) = x1 at *
      refine (HC.out _ HL.out).mono ?_
      rw [h1]
      rintro e x1 ⟨rfl, hb⟩
      replace HL := Lib.hid (HL.out.step hb)
      replace k0 := cell_of_ans hb k0
      replace k1 := cell_of_ans hb k1
      replace HB := Lib.hid (HB.out.trans (hb.mono HB.out.size))
      clear hb
      go_wp2_with fail
      refine (HQ.out _ _ _ _).mono ?_
      rw [He2.out]
      rintro e wz ⟨rfl, rfl⟩
      go_wp2_with fail
      go_ret
      exact ⟨ret_int (by rw [HF.out]; rfl), HB.out⟩
    · rw [e2] at HF
      have He2 := Lib.hid e2
      clear e2
      go_enter Try.func40, Try.ntmps40
      go_wp2_with fail
      generalize (w.alloc (.cells #[.int .i64 l.teams, .slice A l.games.length c] 24)) = x1 at *
      refine (HC.out _ HL.out).mono ?_
      rw [h1]
      rintro e x2 ⟨rfl, hb⟩
      replace HL := Lib.hid (HL.out.step hb)
      replace k0 := cell_of_ans hb k0
      replace k1 := cell_of_ans hb k1
      replace HB := Lib.hid (HB.out.trans (hb.mono HB.out.size))
      clear hb
      go_wp2_with fail
      refine (HQ.out _ _ _ _).mono ?_
      rw [He2.out]
      rintro e wz ⟨rfl, rfl⟩
      go_wp2_with fail
      go_ret
      exact ⟨ret_int (by rw [HF.out]; rfl), HB.out⟩
  · have HF : Hid (askedL l tm = faultL l) := by show _ = _; unfold askedL; rw [if_neg h1]
    have q1 : (faultL l != 0) = true := by simp [h1]
    clear h1
    generalize faultL l = fl at *
    go_enter Try.func40, Try.ntmps40
    go_wp2_with fail
    generalize (w.alloc (.cells #[.int .i64 l.teams, .slice A l.games.length c] 24)) = x1 at *
    refine (HC.out _ HL.out).mono ?_
    rintro e x3 ⟨rfl, hb⟩
    replace HL := Lib.hid (HL.out.step hb)
    replace k0 := cell_of_ans hb k0
    replace k1 := cell_of_ans hb k1
    replace HB := Lib.hid (HB.out.trans (hb.mono HB.out.size))
    clear hb
    go_wp2_with fail
    go_ret
    exact ⟨ret_int HF.out.symm, HB.out⟩
end

section

open Go.RowKit
set_option linter.unusedSimpArgs false
set_option linter.unusedVariables false

attribute [local go_sem] Oper.semAt_some
/-- A block of two cells. -/
def At2 (W : World) (q t : Nat) (v0 v1 : Value) : Prop := W.heap[q]? = some (.cells #[v0, v1] t)
section
variable {W W' : World} {q t : Nat} {v0 v1 : Value}
theorem At2.lt (h : At2 W q t v0 v1) : q < W.heap.size := (Array.getElem?_eq_some_iff.1 h).1
theorem At2.step (h : At2 W q t v0 v1) (hb : Below W.heap.size W W') : At2 W' q t v0 v1 := (hb.block q h.lt).trans h
theorem At2.low {B : Nat} (h : At2 W q t v0 v1) (hb : Below B W W') (hq : q < B) : At2 W' q t v0 v1 := (hb.block q hq).trans h
theorem At2.cells (h : At2 W q t v0 v1) : (W.cell? ⟨q, 0, none⟩ = some v0 ∧ W.cell? ⟨q, 1, none⟩ = some v1) ∧ ∀ i, W.frozen? ⟨q, i, none⟩ = false := by
  unfold At2 at h
  simp [World.cell?, World.frozen?, h]
theorem At2.set1 (h : At2 W q t v0 v1) (v : Value) : At2 (W.setCell ⟨q, 1, none⟩ v) q t v0 v := by
  unfold At2 at h ⊢
  simp [World.setCell, Array.getElem?_modify, h]
theorem At2.set (h : At2 W q t v0 v1) (u0 u1 : Value) : At2 ((W.setCell ⟨q, 0, none⟩ u0).setCell ⟨q, 1, none⟩ u1) q t u0 u1 := by
  unfold At2 at h ⊢
  simp [World.setCell, Array.getElem?_modify, h]
end
theorem OwnM.step {e : TypeId} {base : Nat} {w w' : World} {u : Value} {ls : List Gm} (h : OwnM e base w u ls) (hb : Below w.heap.size w w') : OwnM e base w' u ls := h.kept hb
theorem OwnI.step {base : Nat} {w w' : World} {u : Value} {xs : List Int} (h : OwnI base w u xs) (hb : Below w.heap.size w w') : OwnI base w' u xs := h.kept hb
/-- A copy of a league: the same number, the games in new memory. -/
def LeagueP (w : World) (l : Lg) (e : Ending) (w' : World) : Prop := ∃ A c, e = .returned (.agg #[.int .i64 l.teams, .slice A l.games.length c]) ∧ (Gms w'.heap.size w' A l.games ∧ l.games.length ≤ c ∧ c ≤ 9223372036854775807) ∧ Below w.heap.size w w'
theorem take_snocM {gs : List Gm} {k : Nat} (h : k < gs.length) : gs.take (k + 1) = gs.take k ++ [gmx gs k] := by rw [List.take_succ_eq_append_getElem h, gmx_lt h]
set_option maxRecDepth 100000 in
set_option maxHeartbeats 8000000 in
theorem league18_c (l : Lg) (A : Option Addr) (c : Nat) (w : World) (hl : Gms w.heap.size w A l.games) (hc : l.games.length ≤ c ∧ c ≤ 9223372036854775807) (hlen : l.games.length ≤ 1000) :
    Calls Try.prog 18 #[.agg #[.int .i64 l.teams, .slice A l.games.length c]] w (LeagueP w l) := by
  have HL := Lib.hid hl
  clear hl
  have hbx : Below w.heap.size w (((w.alloc (.cells #[.int .i64 l.teams, .slice A l.games.length c] 24)).alloc (.cells #[.int .i64 0, .slice none 0 0] 32)).alloc (.cells #[.int .i64 l.teams, .slice none 0 0] 32)) := ((((Below.refl _ _).alloc (Nat.le_refl _) _).alloc (by simp) _).alloc (by simp; omega) _)
  have HK : Hid (At2 (((w.alloc (.cells #[.int .i64 l.teams, .slice A l.games.length c] 24)).alloc (.cells #[.int .i64 0, .slice none 0 0] 32)).alloc (.cells #[.int .i64 l.teams, .slice none 0 0] 32)) w.heap.size 24 (.int .i64 l.teams) (.slice A l.games.length c)) := (show At2 _ _ _ _ _ from World.alloc_heap_new w _).step (((Below.refl _ _).alloc (Nat.le_refl _) _).alloc (by simp) _)
  have HR : Hid (At2 (((w.alloc (.cells #[.int .i64 l.teams, .slice A l.games.length c] 24)).alloc (.cells #[.int .i64 0, .slice none 0 0] 32)).alloc (.cells #[.int .i64 l.teams, .slice none 0 0] 32)) (w.heap.size + 1) 32 (.int .i64 0) (.slice none 0 0)) := by
    have h := World.alloc_heap_new (w.alloc (.cells #[.int .i64 l.teams, .slice A l.games.length c] 24)) (.cells #[.int .i64 0, .slice none 0 0] 32)
    rw [World.size_alloc] at h
    exact (show At2 _ _ _ _ _ from h).step ((Below.refl _ _).alloc (Nat.le_refl _) _)
  have HM : Hid (At2 (((w.alloc (.cells #[.int .i64 l.teams, .slice A l.games.length c] 24)).alloc (.cells #[.int .i64 0, .slice none 0 0] 32)).alloc (.cells #[.int .i64 l.teams, .slice none 0 0] 32)) (w.heap.size + 2) 32 (.int .i64 l.teams) (.slice none 0 0)) := by
    have h := World.alloc_heap_new ((w.alloc (.cells #[.int .i64 l.teams, .slice A l.games.length c] 24)).alloc (.cells #[.int .i64 0, .slice none 0 0] 32)) (.cells #[.int .i64 l.teams, .slice none 0 0] 32)
    rw [World.size_alloc, World.size_alloc] at h
    exact h
  have hz : (((w.alloc (.cells #[.int .i64 l.teams, .slice A l.games.length c] 24)).alloc (.cells #[.int .i64 0, .slice none 0 0] 32)).alloc (.cells #[.int .i64 l.teams, .slice none 0 0] 32)).heap.size = w.heap.size + 3 := by simp
  have HB := Lib.hid hbx
  clear hbx
  go_enter Try.func18, Try.ntmps18
  go_wp2_with fail
  generalize (((w.alloc (.cells #[.int .i64 l.teams, .slice A l.games.length c] 24)).alloc (.cells #[.int .i64 0, .slice none 0 0] 32)).alloc (.cells #[.int .i64 l.teams, .slice none 0 0] 32)) = x3 at *
  go_loopw [4] (fun i wr => ∃ (k : Nat) (A' : Option Addr) (c' : Nat), k ≤ l.games.length ∧ i = .int .i64 k ∧ At2 wr (w.heap.size + 2) 32 (.int .i64 l.teams) (.slice A' k c') ∧ OwnM 85 (w.heap.size + 3) wr (.slice A' k c') (l.games.take k) ∧ Below (w.heap.size + 2) x3 wr) (fun i _ => l.games.length - (intOf i).toNat)
  case atStart => exact ⟨0, none, 0, by omega, rfl, HM.out, by simp; exact OwnM.nil _ _ _, Below.refl _ _⟩
  case round =>
    clear HM
    obtain ⟨k, A', c', hk, rfl, hM, hO, hb⟩ := hrel
    rename World => wr
    have hwr : w.heap.size + 3 ≤ wr.heap.size := by have := hM.lt; omega
    have hK := HK.out.low hb (by omega)
    obtain ⟨⟨-, k1⟩, -⟩ := hK.cells
    obtain ⟨⟨m0, m1⟩, -⟩ := hM.cells
    have HM := Lib.hid hM
    have HO := Lib.hid hO
    have HBR := Lib.hid hb
    have HLr := Lib.hid ((HL.out.below (HB.out)).below (hb.mono (by omega)))
    clear hM hO hb hK
    by_cases h1 : k < l.games.length
    · obtain ⟨b, off, rfl, hb0, c1, c2, c3, c4, c5⟩ := HLr.out.at_ h1
      have HT : Hid (l.games.take (k + 1) = l.games.take k ++ [gmx l.games k]) := take_snocM h1
      have HLT : Hid ((l.games.take k).length = k) := by show _ = _; simp; omega
      have h1i : (k : Int) < (l.games.length : Int) := by omega
      generalize gmx l.games k = x at *
      generalize l.games.take k = tk at *
      obtain ⟨xa, xb, xpa, xpb, xop⟩ := x
      dsimp only at c1 c2 c3 c4 c5
      clear HLr
      go_upto_region 6 with fail
      have HBW := Lib.hid (Below.refl wr.heap.size wr)
      have hb : Below wr.heap.size wr (wr.alloc (.cells #[.int .i64 xa, .int .i64 xb, .int .i64 xpa, .int .i64 xpb, .bool xop] 70)) := (Below.refl _ _).alloc (Nat.le_refl _) _
      have HB2 : Hid (Below (w.heap.size + 2) x3 (wr.alloc (.cells #[.int .i64 xa, .int .i64 xb, .int .i64 xpa, .int .i64 xpb, .bool xop] 70))) := HBR.out.trans (hb.mono (by omega))
      replace HM := Lib.hid (HM.out.step hb)
      replace HO := Lib.hid (HO.out.step hb)
      replace m1 := cell_of_ans hb m1
      clear c1 c2 c3 c4 c5 k1 m0
      have j0 : (wr.alloc (.cells #[.int .i64 xa, .int .i64 xb, .int .i64 xpa, .int .i64 xpb, .bool xop] 70)).cell? ⟨wr.heap.size, 0, none⟩ = some (.int .i64 xa) := by simp
      have j1 : (wr.alloc (.cells #[.int .i64 xa, .int .i64 xb, .int .i64 xpa, .int .i64 xpb, .bool xop] 70)).cell? ⟨wr.heap.size, 1, none⟩ = some (.int .i64 xb) := by simp
      have j2 : (wr.alloc (.cells #[.int .i64 xa, .int .i64 xb, .int .i64 xpa, .int .i64 xpb, .bool xop] 70)).cell? ⟨wr.heap.size, 2, none⟩ = some (.int .i64 xpa) := by simp
      have j3 : (wr.alloc (.cells #[.int .i64 xa, .int .i64 xb, .int .i64 xpa, .int .i64 xpb, .bool xop] 70)).cell? ⟨wr.heap.size, 3, none⟩ = some (.int .i64 xpb) := by simp
      have j4 : (wr.alloc (.cells #[.int .i64 xa, .int .i64 xb, .int .i64 xpa, .int .i64 xpb, .bool xop] 70)).cell? ⟨wr.heap.size, 4, none⟩ = some (.bool xop) := by simp
      have hwg : w.heap.size + 3 ≤ (wr.alloc (.cells #[.int .i64 xa, .int .i64 xb, .int .i64 xpa, .int .i64 xpb, .bool xop] 70)).heap.size := by simp; omega
      clear hb HBW
      generalize (wr.alloc (.cells #[.int .i64 xa, .int .i64 xb, .int .i64 xpa, .int .i64 xpb, .bool xop] 70)) = wg at *
      go_wp2_with (at_builtin; refine wpList_appM (t := 30) (e := 85) (.inl ⟨rfl, rfl⟩) (.tmp 22) (.tmp 34) rfl rfl (w.heap.size + 3) wg _ tk ⟨xa, xb, xpa, xpb, xop⟩ rfl rfl HO (by have := HLT.out; omega) hwg ?_; intro A9 c9 w9 HO9 HB9; have HM9 := HM.out.low HB9.out (by omega); obtain ⟨⟨m0, m1⟩, mf⟩ := HM9.cells; have mf1 := mf 1; clear mf)
      try simp only [HLT.out]
      have ho2 := HO9.out
      rw [HLT.out] at ho2
      have hg : w9.grownBy (w9.setCell ⟨w.heap.size + 2, 1, none⟩ (.slice A9 (k + 1) c9)) (some (w.heap.size + 2)) := only_setCell (World.grownBy.refl _ _) (.inl rfl) _
      have HM3 := Lib.hid (HM9.set1 (.slice A9 (k + 1) c9))
      have HO3 := Lib.hid (ho2.keptBy hg (by omega))
      have HB4 : Hid (Below (w.heap.size + 2) x3 (w9.setCell ⟨w.heap.size + 2, 1, none⟩ (.slice A9 (k + 1) c9))) := (HB2.out.trans (HB9.out.mono (by omega))).setCell (by simp) _
      clear hg HM9 m0 mf1 ho2
      go_wp2_with fail
      go_roundw
      case rel => exact ⟨k + 1, A9, c9, by omega, by go_num, HM3.out, by rw [HT.out]; exact HO3.out, HB4.out⟩
      case measure => simp [intOf]; omega
    · obtain rfl : k = l.games.length := by omega
      have h1i : ¬ (l.games.length : Int) < (l.games.length : Int) := by omega
      rw [List.take_length] at HO
      have HRr := HR.out.low HBR.out (by omega)
      obtain ⟨⟨r0, r1⟩, rf⟩ := HRr.cells
      have rf0 := rf 0
      have rf1 := rf 1
      have HF := Lib.hid (HRr.set (.int .i64 l.teams) (.slice A' l.games.length c'))
      have HBF : Hid (Below w.heap.size w ((wr.setCell ⟨w.heap.size + 1, 0, none⟩ (.int .i64 l.teams)).setCell ⟨w.heap.size + 1, 1, none⟩ (.slice A' l.games.length c'))) := ((HB.out.trans (HBR.out.mono (by omega))).setCell (by simp) _).setCell (by simp) _
      have HOF : Hid (OwnM 85 (w.heap.size + 3) ((wr.setCell ⟨w.heap.size + 1, 0, none⟩ (.int .i64 l.teams)).setCell ⟨w.heap.size + 1, 1, none⟩ (.slice A' l.games.length c')) (.slice A' l.games.length c') l.games) := HO.out.keptBy (g := w.heap.size + 1) (only_setCell (p := ⟨w.heap.size + 1, 1, none⟩) (only_setCell (p := ⟨w.heap.size + 1, 0, none⟩) (World.grownBy.refl _ _) (.inl rfl) _) (.inl rfl) _) (by omega)
      clear rf HRr
      go_wp2_with fail
      generalize ((wr.setCell ⟨w.heap.size + 1, 0, none⟩ (.int .i64 l.teams)).setCell ⟨w.heap.size + 1, 1, none⟩ (.slice A' l.games.length c')) = W9 at *
      obtain ⟨⟨y0, y1⟩, -⟩ := HF.out.cells
      refine bodyPost_ret (v := .agg #[.int .i64 l.teams, .slice A' l.games.length c']) (by simp [results, Try.results18, go_sem, y0, y1]) rfl ?_
      obtain ⟨h5, h6, h7⟩ := HOF.out.parts
      exact ⟨_, _, rfl, ⟨h7, h5, h6⟩, HBF.out⟩
end

section

open Go.RowKit
set_option linter.unusedSimpArgs false
set_option linter.unusedVariables false

attribute [local go_sem] Oper.semAt_some
/-- An array of six numbers. -/
def six (f : Nat → Int) : Array Value := #[.int .i64 (f 0), .int .i64 (f 1), .int .i64 (f 2), .int .i64 (f 3), .int .i64 (f 4), .int .i64 (f 5)]
def At6 (W : World) (q t : Nat) (f : Nat → Int) : Prop := W.heap[q]? = some (.cells (six f) t)
section
variable {W W' : World} {q t : Nat} {f : Nat → Int}
theorem At6.lt (h : At6 W q t f) : q < W.heap.size := (Array.getElem?_eq_some_iff.1 h).1
theorem At6.step (h : At6 W q t f) (hb : Below W.heap.size W W') : At6 W' q t f := (hb.block q h.lt).trans h
theorem At6.low {B : Nat} (h : At6 W q t f) (hb : Below B W W') (hq : q < B) : At6 W' q t f := (hb.block q hq).trans h
theorem At6.cell (h : At6 W q t f) {k : Nat} (hk : k < 6) : W.cell? ⟨q, k, none⟩ = some (.int .i64 (f k)) ∧ W.frozen? ⟨q, k, none⟩ = false := by
  unfold At6 at h
  have : k = 0 ∨ k = 1 ∨ k = 2 ∨ k = 3 ∨ k = 4 ∨ k = 5 := by omega
  rcases this with rfl | rfl | rfl | rfl | rfl | rfl <;> simp [World.cell?, World.frozen?, h, six]
theorem At6.set (h : At6 W q t f) {k : Nat} (hk : k < 6) (v : Int) : At6 (W.setCell ⟨q, k, none⟩ (.int .i64 v)) q t (updI f k v) := by
  unfold At6 at h ⊢
  have : k = 0 ∨ k = 1 ∨ k = 2 ∨ k = 3 ∨ k = 4 ∨ k = 5 := by omega
  rcases this with rfl | rfl | rfl | rfl | rfl | rfl <;> simp [World.setCell, Array.getElem?_modify, h, six, updI]
theorem At6.congr {g : Nat → Int} (h : At6 W q t f) (e : ∀ k, k < 6 → f k = g k) : At6 W q t g := by
  unfold At6 six at h ⊢
  rw [← e 0 (by omega), ← e 1 (by omega), ← e 2 (by omega), ← e 3 (by omega), ← e 4 (by omega), ← e 5 (by omega)]
  exact h
theorem At6.reset (h : At6 W q t f) : At6 ((((((W.setCell ⟨q, 0, none⟩ (.int .i64 (f 0))).setCell ⟨q, 1, none⟩ (.int .i64 (f 1))).setCell ⟨q, 2, none⟩ (.int .i64 (f 2))).setCell ⟨q, 3, none⟩ (.int .i64 (f 3))).setCell ⟨q, 4, none⟩ (.int .i64 (f 4))).setCell ⟨q, 5, none⟩ (.int .i64 (f 5))) q t f := by
  unfold At6 at h ⊢
  simp [World.setCell, Array.getElem?_modify, h, six]
theorem At6.far {g i : Nat} (h : At6 W q t f) (hne : q ≠ g) (v : Value) : At6 (W.setCell ⟨g, i, none⟩ v) q t f := (Below.heap_setCell W _ v q hne).trans h
end
/-- The points of team t of the first k games. -/
def sumsK (gs : List Gm) (k : Nat) (t : Nat) : Int := numS 1 (fun _ => true) (t : Int) (gs.take k)
theorem ruV_1 {grp : Int → Bool} {o p q : Int} : ruV 1 grp o p q = p := by simp [ruV]
theorem sumsK_succ {l : Lg} (hv : Valid l) {k : Nat} (hk : k < l.games.length) : sumsK l.games (k + 1) = updI (updI (sumsK l.games k) (gmx l.games k).a.toNat (sumsK l.games k (gmx l.games k).a.toNat + gA (gmx l.games k))) (gmx l.games k).b.toNat (sumsK l.games k (gmx l.games k).b.toNat + gB (gmx l.games k)) := by
  have h := hv.at hk
  have a0 := h.a0; have b0 := h.b0; have hne := h.ne
  funext t
  unfold sumsK
  rw [numS_take hk]
  unfold vG
  rw [ruV_1, ruV_1]
  generalize gmx l.games k = g at *
  by_cases e1 : g.b = (t : Int)
  · have e2 : t = g.b.toNat := by omega
    rw [if_pos e1, ← e2, updI_eq]
  · have e2 : t ≠ g.b.toNat := by omega
    rw [if_neg e1, updI_ne e2]
    by_cases e3 : g.a = (t : Int)
    · have e4 : t = g.a.toNat := by omega
      rw [if_pos e3, ← e4, updI_eq]
    · have e4 : t ≠ g.a.toNat := by omega
      rw [if_neg e3, updI_ne e4]
      omega
theorem sumsK_range {l : Lg} (hv : Valid l) {k : Nat} (hk : k ≤ l.games.length) (t : Nat) : 0 ≤ sumsK l.games k t ∧ sumsK l.games k t ≤ 60000 := by
  have h := numS_range (code := 1) (grp := fun _ => true) (t := (t : Int)) (gs := l.games.take k) (n := l.teams) (fun g hg => hv.mem (List.mem_of_mem_take hg))
  have h2 : (l.games.take k).length ≤ 20 := by rw [List.length_take]; have := hv.len; omega
  unfold sumsK
  omega
/-- The points of all teams. -/
def sumsF (l : Lg) (t : Nat) : Int := sumsK l.games l.games.length t
def SixP (w : World) (f : Nat → Int) (e : Ending) (w' : World) : Prop := e = .returned (.agg (six f)) ∧ Below w.heap.size w w'
set_option maxRecDepth 100000 in
set_option maxHeartbeats 8000000 in
theorem sums61_c (l : Lg) (A : Option Addr) (c : Nat) (w : World) (hl : Gms w.heap.size w A l.games) (hc : l.games.length ≤ c ∧ c ≤ 9223372036854775807) (hv : Valid l) :
    Calls Try.prog 61 #[.agg #[.int .i64 l.teams, .slice A l.games.length c]] w (SixP w (sumsF l)) := by
  have HL := Lib.hid hl
  clear hl
  have HVV := Lib.hid hv
  have hb : Below w.heap.size w ((w.alloc (.cells #[.int .i64 l.teams, .slice A l.games.length c] 32)).alloc (.cells #[.int .i64 0, .int .i64 0, .int .i64 0, .int .i64 0, .int .i64 0, .int .i64 0] 102)) := ((Below.refl _ _).alloc (Nat.le_refl _) _).alloc (by simp) _
  have HB := Lib.hid hb
  have k1 : ((w.alloc (.cells #[.int .i64 l.teams, .slice A l.games.length c] 32)).alloc (.cells #[.int .i64 0, .int .i64 0, .int .i64 0, .int .i64 0, .int .i64 0, .int .i64 0] 102)).cell? ⟨w.heap.size, 1, none⟩ = some (.slice A l.games.length c) := by go_simp
  have H6 : Hid (At6 ((w.alloc (.cells #[.int .i64 l.teams, .slice A l.games.length c] 32)).alloc (.cells #[.int .i64 0, .int .i64 0, .int .i64 0, .int .i64 0, .int .i64 0, .int .i64 0] 102)) (w.heap.size + 1) 102 (sumsK l.games 0)) := by
    have h := World.alloc_heap_new (w.alloc (.cells #[.int .i64 l.teams, .slice A l.games.length c] 32)) (.cells #[.int .i64 0, .int .i64 0, .int .i64 0, .int .i64 0, .int .i64 0, .int .i64 0] 102)
    rw [World.size_alloc] at h
    exact h
  have hz : ((w.alloc (.cells #[.int .i64 l.teams, .slice A l.games.length c] 32)).alloc (.cells #[.int .i64 0, .int .i64 0, .int .i64 0, .int .i64 0, .int .i64 0, .int .i64 0] 102)).heap.size = w.heap.size + 2 := by simp
  clear hb
  go_enter Try.func61, Try.ntmps61
  go_wp2_with fail
  generalize ((w.alloc (.cells #[.int .i64 l.teams, .slice A l.games.length c] 32)).alloc (.cells #[.int .i64 0, .int .i64 0, .int .i64 0, .int .i64 0, .int .i64 0, .int .i64 0] 102)) = x2 at *
  have HLx := Lib.hid (HL.out.below HB.out)
  go_loopw [10] (fun i wr => ∃ k : Nat, k ≤ l.games.length ∧ i = .int .i64 k ∧ At6 wr (w.heap.size + 1) 102 (sumsK l.games k) ∧ Below (w.heap.size + 1) x2 wr) (fun i _ => l.games.length - (intOf i).toNat)
  case atStart => exact ⟨0, by omega, rfl, H6.out, Below.refl _ _⟩
  case round =>
    clear H6
    obtain ⟨k, hk, rfl, h6, hb⟩ := hrel
    rename World => wr
    have H6 := Lib.hid h6
    have HBR := Lib.hid hb
    have hwr := h6.lt
    clear h6
    by_cases h1 : k < l.games.length
    · obtain ⟨b, off, rfl, hb0, c1, c2, c3, c4, c5⟩ := (HLx.out.below (hb.mono (by omega))).at_ h1
      have h1i : (k : Int) < (l.games.length : Int) := by omega
      have hg := HVV.out.at h1
      obtain ⟨na, hna⟩ : ∃ na : Nat, (gmx l.games k).a = (na : Int) := ⟨(gmx l.games k).a.toNat, by have := hg.a0; omega⟩
      obtain ⟨nb, hnb⟩ : ∃ nb : Nat, (gmx l.games k).b = (nb : Int) := ⟨(gmx l.games k).b.toNat, by have := hg.b0; omega⟩
      have ha6 : na < 6 := by have := hg.an; have := HVV.out.t6; omega
      have hb6 : nb < 6 := by have := hg.bn; have := HVV.out.t6; omega
      have ha6i : (na : Int) < 6 := by omega
      have hb6i : (nb : Int) < 6 := by omega
      have hne : na ≠ nb := by have := hg.ne; omega
      have HS := Lib.hid (sumsK_succ HVV.out h1)
      have hra := sumsK_range HVV.out hk na
      have hrb := sumsK_range HVV.out hk nb
      have hgr := g_range (gmx l.games k)
      have HGV : Hid (∀ W, Calls Try.prog 95 #[gmV (gmx l.games k)] W (Ans W (.tuple #[.int .i64 (gA (gmx l.games k)), .int .i64 (gB (gmx l.games k))]))) := fun W => gives95_c _ W
      unfold gmV at HGV
      rw [hna, hnb] at HS
      rw [hna] at c1 HGV
      rw [hnb] at c2 HGV
      rw [Int.toNat_natCast, Int.toNat_natCast] at HS
      clear hg hna hnb hb
      generalize gA (gmx l.games k) = ga at *
      generalize gB (gmx l.games k) = gb at *
      generalize (gmx l.games k).pa = pa at *
      generalize (gmx l.games k).pb = pb at *
      generalize (gmx l.games k).op = op at *
      generalize hsk : sumsK l.games k = f at *
      clear hsk
      go_upto_region 4 with fail
      have hb : Below wr.heap.size wr (wr.alloc (.cells #[.int .i64 (na : Int), .int .i64 (nb : Int), .int .i64 pa, .int .i64 pb, .bool op] 85)) := (Below.refl _ _).alloc (Nat.le_refl _) _
      have HB2 : Hid (Below (w.heap.size + 1) x2 (wr.alloc (.cells #[.int .i64 (na : Int), .int .i64 (nb : Int), .int .i64 pa, .int .i64 pb, .bool op] 85))) := HBR.out.trans (hb.mono (by omega))
      replace H6 := Lib.hid (H6.out.step hb)
      clear c1 c2 c3 c4 c5
      have hqs : w.heap.size + 1 < wr.heap.size := hwr
      have j0 : (wr.alloc (.cells #[.int .i64 (na : Int), .int .i64 (nb : Int), .int .i64 pa, .int .i64 pb, .bool op] 85)).cell? ⟨wr.heap.size, 0, none⟩ = some (.int .i64 (na : Int)) := by simp
      have j1 : (wr.alloc (.cells #[.int .i64 (na : Int), .int .i64 (nb : Int), .int .i64 pa, .int .i64 pb, .bool op] 85)).cell? ⟨wr.heap.size, 1, none⟩ = some (.int .i64 (nb : Int)) := by simp
      have j2 : (wr.alloc (.cells #[.int .i64 (na : Int), .int .i64 (nb : Int), .int .i64 pa, .int .i64 pb, .bool op] 85)).cell? ⟨wr.heap.size, 2, none⟩ = some (.int .i64 pa) := by simp
      have j3 : (wr.alloc (.cells #[.int .i64 (na : Int), .int .i64 (nb : Int), .int .i64 pa, .int .i64 pb, .bool op] 85)).cell? ⟨wr.heap.size, 3, none⟩ = some (.int .i64 pb) := by simp
      have j4 : (wr.alloc (.cells #[.int .i64 (na : Int), .int .i64 (nb : Int), .int .i64 pa, .int .i64 pb, .bool op] 85)).cell? ⟨wr.heap.size, 4, none⟩ = some (.bool op) := by simp
      clear hb
      generalize (wr.alloc (.cells #[.int .i64 (na : Int), .int .i64 (nb : Int), .int .i64 pa, .int .i64 pb, .bool op] 85)) = wg at *
      generalize wr.heap.size = gq at *
      have hjq : gq < wg.heap.size := World.block_lt_of_cell? _ _ j0
      go_wp2_with fail
      refine (HGV.out wg).mono ?_
      rintro e w4 ⟨rfl, hb⟩
      replace H6 := Lib.hid (H6.out.step hb)
      replace j0 := cell_of_ans hb j0
      replace j1 := cell_of_ans hb j1
      have HB3 : Hid (Below (w.heap.size + 1) x2 w4) := HB2.out.trans (hb.mono (by omega))
      clear hb j2 j3 j4
      obtain ⟨y1, z1⟩ := H6.out.cell ha6
      have hw1 : IntKind.i64.wrap (f na + ga) = f na + ga := IntWalk.i64_in _ (by omega)
      have hw2 : IntKind.i64.wrap (f nb + gb) = f nb + gb := IntWalk.i64_in _ (by omega)
      have H7 := Lib.hid (H6.out.set ha6 (f na + ga))
      obtain ⟨y2, z2⟩ := H6.out.cell hb6
      have H8 := Lib.hid (H7.out.set hb6 (f nb + gb))
      have hnab : nb ≠ na := fun e => hne e.symm
      have hgq : ¬ gq = w.heap.size + 1 := by omega
      have hgq2 : ¬ w.heap.size + 1 = gq := by omega
      have HB5 : Hid (Below (w.heap.size + 1) x2 ((w4.setCell ⟨w.heap.size + 1, na, none⟩ (.int .i64 (f na + ga))).setCell ⟨w.heap.size + 1, nb, none⟩ (.int .i64 (f nb + gb)))) := (HB3.out.setCell (Nat.le_refl _) _).setCell (Nat.le_refl _) _
      go_wp2_with fail
      go_roundw
      case rel => exact ⟨k + 1, by omega, by go_num, by rw [HS.out]; exact H8.out, HB5.out⟩
      case measure => simp [intOf]; omega
    · obtain rfl : k = l.games.length := by omega
      have h1i : ¬ (l.games.length : Int) < (l.games.length : Int) := by omega
      have HFN : Hid (sumsK l.games l.games.length = sumsF l) := rfl
      rw [HFN.out] at H6
      obtain ⟨s0, f0⟩ := H6.out.cell (k := 0) (by omega)
      obtain ⟨s1, f1⟩ := H6.out.cell (k := 1) (by omega)
      obtain ⟨s2, f2⟩ := H6.out.cell (k := 2) (by omega)
      obtain ⟨s3, f3⟩ := H6.out.cell (k := 3) (by omega)
      obtain ⟨s4, f4⟩ := H6.out.cell (k := 4) (by omega)
      obtain ⟨s5, f5⟩ := H6.out.cell (k := 5) (by omega)
      have HF := Lib.hid H6.out.reset
      have HBF : Hid (Below w.heap.size w ((((((wr.setCell ⟨w.heap.size + 1, 0, none⟩ (.int .i64 (sumsF l 0))).setCell ⟨w.heap.size + 1, 1, none⟩ (.int .i64 (sumsF l 1))).setCell ⟨w.heap.size + 1, 2, none⟩ (.int .i64 (sumsF l 2))).setCell ⟨w.heap.size + 1, 3, none⟩ (.int .i64 (sumsF l 3))).setCell ⟨w.heap.size + 1, 4, none⟩ (.int .i64 (sumsF l 4))).setCell ⟨w.heap.size + 1, 5, none⟩ (.int .i64 (sumsF l 5)))) := ((((((HB.out.trans (HBR.out.mono (by omega))).setCell (by simp) _).setCell (by simp) _).setCell (by simp) _).setCell (by simp) _).setCell (by simp) _).setCell (by simp) _
      clear hb
      go_wp2_with fail
      generalize ((((((wr.setCell ⟨w.heap.size + 1, 0, none⟩ (.int .i64 (sumsF l 0))).setCell ⟨w.heap.size + 1, 1, none⟩ (.int .i64 (sumsF l 1))).setCell ⟨w.heap.size + 1, 2, none⟩ (.int .i64 (sumsF l 2))).setCell ⟨w.heap.size + 1, 3, none⟩ (.int .i64 (sumsF l 3))).setCell ⟨w.heap.size + 1, 4, none⟩ (.int .i64 (sumsF l 4))).setCell ⟨w.heap.size + 1, 5, none⟩ (.int .i64 (sumsF l 5))) = W9 at *
      obtain ⟨y0, -⟩ := HF.out.cell (k := 0) (by omega)
      obtain ⟨y1, -⟩ := HF.out.cell (k := 1) (by omega)
      obtain ⟨y2, -⟩ := HF.out.cell (k := 2) (by omega)
      obtain ⟨y3, -⟩ := HF.out.cell (k := 3) (by omega)
      obtain ⟨y4, -⟩ := HF.out.cell (k := 4) (by omega)
      obtain ⟨y5, -⟩ := HF.out.cell (k := 5) (by omega)
      refine bodyPost_ret (v := .agg (six (sumsF l))) (by simp [results, Try.results61, go_sem, y0, y1, y2, y3, y4, y5, six]) rfl ?_
      exact ⟨rfl, HBF.out⟩
end

section

open Go.RowKit
set_option linter.unusedSimpArgs false
set_option linter.unusedVariables false

attribute [local go_sem] Oper.semAt_some
theorem Gms.isrc {B : Nat} {w : World} {A : Option Addr} {ls : List Gm} (h : Gms B w A ls) : Src w 5 A ls.length (flatM ls) := by
  refine ⟨flatM_len ls, fun hA => ?_, fun ad hA j u hu => ?_⟩
  · rcases Nat.eq_zero_or_pos ls.length with h0 | h0
    · exact h0
    · obtain ⟨b, off, hA', _⟩ := h h0
      rw [hA] at hA'
      cases hA'
  · have hj : j < ls.length * 5 := by
      rw [← flatM_len]
      exact (List.getElem?_eq_some_iff.1 hu).1
    obtain ⟨b, off, hA', _, hc⟩ := h (by omega)
    rw [hA] at hA'
    injection hA' with e
    subst e
    rw [add_eq]
    obtain ⟨c0, c1, c2, c3, c4⟩ := hc (j / 5) (by omega)
    obtain ⟨a0, a1, a2, a3, a4⟩ := flatM_at ls (j / 5) (by omega)
    rcases (by omega : j = j / 5 * 5 ∨ j = j / 5 * 5 + 1 ∨ j = j / 5 * 5 + 2 ∨ j = j / 5 * 5 + 3 ∨ j = j / 5 * 5 + 4) with e | e | e | e | e
    all_goals rw [e] at hu ⊢
    · rw [a0] at hu; rw [← hu]; exact c0
    · rw [a1] at hu; rw [← hu, ← Nat.add_assoc]; exact c1
    · rw [a2] at hu; rw [← hu, ← Nat.add_assoc]; exact c2
    · rw [a3] at hu; rw [← hu, ← Nat.add_assoc]; exact c3
    · rw [a4] at hu; rw [← hu, ← Nat.add_assoc]; exact c4
/-- A new own list of games. -/
def NewM (w : World) (gs : List Gm) (e : Ending) (w' : World) : Prop := ∃ A c, e = .returned (.slice A gs.length c) ∧ OwnM 85 w.heap.size w' (.slice A gs.length c) gs ∧ Below w.heap.size w w'
set_option maxHeartbeats 800000 in
theorem clone93_c {B : Nat} (A : Option Addr) (gs : List Gm) (c : Nat) (w : World) (hx : Gms B w A gs) (hB : B ≤ w.heap.size) (hl : gs.length ≤ 1000) : Calls Try.prog 93 #[.slice A gs.length c] w (NewM w gs) := by
  obtain ⟨hu, i0, hi, hz0, hz1, hz2⟩ := tyM (t := 30) (e := 85) (.inl ⟨rfl, rfl⟩)
  cases A with
  | none =>
    have h0 : gs.length = 0 := hx.isrc.2.1 rfl
    obtain rfl : gs = [] := List.eq_nil_of_length_eq_zero h0
    clear h0
    rw [List.length_nil]
    have heq : ∀ W, (binOp .eql 30 (.slice none 0 c) (.slice none 0 0)).run Try.prog W = .ok (.bool true) W := fun W => Lib.run_eql_slice_nil W 30 85 none _ _ 0 0 hu
    clear hx
    go_enter Try.func93, Try.ntmps93
    go_wp2_with fail
    go_ret
    exact ⟨_, _, rfl, OwnM.nil _ _ _, Below.refl _ _⟩
  | some ad =>
    have heq : ∀ W, (binOp .eql 30 (.slice (some ad) gs.length c) (.slice none 0 0)).run Try.prog W = .ok (.bool false) W := fun W => Lib.run_eql_slice_nil W 30 85 (some ad) _ _ 0 0 hu
    have hs := Lib.hid ((hx.below ((Below.refl B w).alloc hB (.cells #[] 85))).isrc)
    have ho : Hid ((w.alloc (.cells #[] 85)).ownsRow w.heap.size 85 5 (.slice (some ⟨w.heap.size, 0, none⟩) 0 0) 0 []) := World.ownsRow_lit w #[] 0 (Nat.le_refl _) (by simp [maxLen]) (by simp)
    have h63 : Hid (0 + gs.length ≤ maxLen) := by show _ ≤ _; unfold maxLen; omega
    have hby : Hid ((0 + gs.length) * 40 ≤ 140737488355328) := by show _ ≤ _; omega
    go_enter Try.func93, Try.ntmps93
    go_wp2_with (at_builtin; refine wpList_append_src rfl (.tmp 5) (.tmp 6) 30 rfl w.heap.size 85 i0 _ 5 40 hu hi hz0 hz1 hz2 rfl (by decide) (.slice (some ⟨w.heap.size, 0, none⟩) 0 0) 0 [] rfl ho.out (some ad) gs.length c _ rfl hs.out (one_flatM gs) h63.out hby.out (by simp) ?_; intro v' w1 hown hgrow _; have HO := Lib.hid hown; have HG := Lib.hid hgrow; clear hown hgrow)
    go_ret
    have hown := HO.out
    rw [List.nil_append, Nat.zero_add] at hown
    obtain ⟨A', c', rfl⟩ := ownsRow_form hown
    exact ⟨_, _, rfl, hown, ((Below.refl w.heap.size w).alloc (Nat.le_refl _) _).grown HG.out (by simp) (fun k e => by injection e with e; subst e; exact Nat.le_refl _)⟩
set_option maxHeartbeats 800000 in
theorem clone62_c {B : Nat} (A : Option Addr) (xs : List Int) (c : Nat) (w : World) (hx : Ints B w A xs) (hB : B ≤ w.heap.size) (hl : xs.length ≤ 1000) : Calls Try.prog 62 #[.slice A xs.length c] w (NewO w xs) := by
  obtain ⟨i0, hi, hz0, hz1, hz2⟩ := info_parts infoInt
  cases A with
  | none =>
    have h0 : xs.length = 0 := hx.isrc.2.1 rfl
    obtain rfl : xs = [] := List.eq_nil_of_length_eq_zero h0
    clear h0
    rw [List.length_nil]
    have heq : ∀ W, (binOp .eql 34 (.slice none 0 c) (.slice none 0 0)).run Try.prog W = .ok (.bool true) W := fun W => Lib.run_eql_slice_nil W 34 3 none _ _ 0 0 Try.underlying34
    clear hx
    go_enter Try.func62, Try.ntmps62
    go_wp2_with fail
    go_ret
    exact ⟨_, _, rfl, OwnI.nil _ _, Below.refl _ _⟩
  | some ad =>
    have heq : ∀ W, (binOp .eql 34 (.slice (some ad) xs.length c) (.slice none 0 0)).run Try.prog W = .ok (.bool false) W := fun W => Lib.run_eql_slice_nil W 34 3 (some ad) _ _ 0 0 Try.underlying34
    have hs := Lib.hid ((hx.below ((Below.refl B w).alloc hB (.cells #[] 3))).isrc)
    have ho : Hid ((w.alloc (.cells #[] 3)).ownsRow w.heap.size 3 1 (.slice (some ⟨w.heap.size, 0, none⟩) 0 0) 0 []) := World.ownsRow_lit w #[] 0 (Nat.le_refl _) (by simp [maxLen]) (by simp)
    have h63 : Hid (0 + xs.length ≤ maxLen) := by show _ ≤ _; unfold maxLen; omega
    have hby : Hid ((0 + xs.length) * 8 ≤ 140737488355328) := by show _ ≤ _; omega
    go_enter Try.func62, Try.ntmps62
    go_wp2_with (at_builtin; refine wpList_append_src rfl (.tmp 5) (.tmp 6) 34 rfl w.heap.size 3 i0 (.int .i64 0) 1 8 Try.underlying34 hi hz0 hz1 hz2 rfl (by decide) (.slice (some ⟨w.heap.size, 0, none⟩) 0 0) 0 [] rfl ho.out (some ad) xs.length c _ rfl hs.out (one_ints xs) h63.out hby.out (by simp) ?_; intro v' w1 hown hgrow _; have HO := Lib.hid hown; have HG := Lib.hid hgrow; clear hown hgrow)
    go_ret
    have hown := HO.out
    rw [List.nil_append, Nat.zero_add] at hown
    obtain ⟨A', c', rfl⟩ := ownsRow_form hown
    exact ⟨_, _, rfl, hown, ((Below.refl w.heap.size w).alloc (Nat.le_refl _) _).grown HG.out (by simp) (fun k e => by injection e with e; subst e; exact Nat.le_refl _)⟩
set_option maxHeartbeats 400000 in
theorem opens94_c (x : Gm) (w : World) : Calls Try.prog 94 #[gmV x] w (Ans w (.bool (!x.op))) := by
  obtain ⟨xa, xb, xpa, xpb, xop⟩ := x
  unfold gmV
  dsimp only
  have HB := Lib.hid (Below.refl w.heap.size w)
  have hb : Below w.heap.size w (w.alloc (.cells #[.int .i64 xa, .int .i64 xb, .int .i64 xpa, .int .i64 xpb, .bool xop] 85)) := (Below.refl _ _).alloc (Nat.le_refl _) _
  replace HB := Lib.hid (HB.out.trans (hb.mono HB.out.size))
  clear hb
  have k0 : (w.alloc (.cells #[.int .i64 xa, .int .i64 xb, .int .i64 xpa, .int .i64 xpb, .bool xop] 85)).cell? ⟨w.heap.size, 0, none⟩ = some (.int .i64 xa) := by simp
  have k1 : (w.alloc (.cells #[.int .i64 xa, .int .i64 xb, .int .i64 xpa, .int .i64 xpb, .bool xop] 85)).cell? ⟨w.heap.size, 1, none⟩ = some (.int .i64 xb) := by simp
  have k2 : (w.alloc (.cells #[.int .i64 xa, .int .i64 xb, .int .i64 xpa, .int .i64 xpb, .bool xop] 85)).cell? ⟨w.heap.size, 2, none⟩ = some (.int .i64 xpa) := by simp
  have k3 : (w.alloc (.cells #[.int .i64 xa, .int .i64 xb, .int .i64 xpa, .int .i64 xpb, .bool xop] 85)).cell? ⟨w.heap.size, 3, none⟩ = some (.int .i64 xpb) := by simp
  have k4 : (w.alloc (.cells #[.int .i64 xa, .int .i64 xb, .int .i64 xpa, .int .i64 xpb, .bool xop] 85)).cell? ⟨w.heap.size, 4, none⟩ = some (.bool xop) := by simp
  go_enter Try.func94, Try.ntmps94
  go_wp2_with fail
  go_ret
  exact ⟨rfl, HB.out⟩
/-- The first game that is not open. -/
def FirstP (w : World) (gs : List Gm) (e : Ending) (w' : World) : Prop :=
  ((∃ k : Nat, k < gs.length ∧ e = .returned (.int .i64 (k : Int)) ∧ (gmx gs k).op = false ∧ ∀ j, j < k → (gmx gs j).op = true) ∨ (e = .returned (.int .i64 (-1)) ∧ ∀ j, j < gs.length → (gmx gs j).op = true)) ∧ Below w.heap.size w w'
set_option maxHeartbeats 800000 in
theorem index107_c {B : Nat} (A : Option Addr) (c : Nat) (gs : List Gm) (w : World) (hB : B ≤ w.heap.size) (hn : gs.length ≤ 1000) (hel : Gms B w A gs) :
    Calls Try.prog 107 #[.slice A gs.length c, .func (.func 94) #[] #[]] w (FirstP w gs) := by
  go_enter Try.func107, Try.ntmps107
  go_wp2_with fail
  go_loopw [8] (fun i wr => ∃ k : Nat, k ≤ gs.length ∧ i = .int .i64 k ∧ (∀ j, j < k → (gmx gs j).op = true) ∧ Below w.heap.size w wr) (fun i _ => gs.length - (intOf i).toNat)
  case atStart => exact ⟨0, by omega, rfl, fun j hj => by omega, Below.refl _ _⟩
  case round =>
    obtain ⟨k, hk, rfl, hp, hb⟩ := hrel
    have HP := Lib.hid hp
    have HBR := Lib.hid hb
    by_cases h1 : k < gs.length
    · obtain ⟨b, off, rfl, hb1, hc0⟩ := hel.at_ h1
      obtain ⟨c1, c2, c3, c4, c5⟩ := (hc0.below hb (by omega) : W5 wr b (off + k * 5) (gmx gs k))
      clear hc0 hb hp
      have hcl := opens94_c (gmx gs k) wr
      unfold gmV at hcl
      have HCL := Lib.hid hcl
      clear hcl
      cases hpk : (gmx gs k).op
      · have HPK := Lib.hid hpk
        rw [hpk] at HCL c5
        clear hpk
        go_wp2_with fail
        refine HCL.out.mono ?_
        rintro e w1 ⟨rfl, hb2⟩
        go_wp2_with fail
        go_ret
        exact ⟨.inl ⟨k, h1, rfl, HPK.out, HP.out⟩, HBR.out.trans (hb2.mono HBR.out.size)⟩
      · have HPK := Lib.hid hpk
        rw [hpk] at HCL c5
        clear hpk
        go_wp2_with fail
        refine HCL.out.mono ?_
        rintro e w1 ⟨rfl, hb2⟩
        go_wp2_with fail
        go_roundw
        case rel => exact ⟨k + 1, by omega, by go_num, fun j hj => (by
          by_cases e : j = k
          · rw [e]; exact HPK.out
          · exact HP.out j (by omega)), HBR.out.trans (hb2.mono HBR.out.size)⟩
        case measure => simp [intOf]; omega
    · obtain rfl : k = gs.length := by omega
      go_wp2_with fail
      go_ret
      exact ⟨.inr ⟨rfl, HP.out⟩, HBR.out⟩
end

section

open Go.RowKit
set_option linter.unusedSimpArgs false
set_option linter.unusedVariables false

attribute [local go_sem] Oper.semAt_some
theorem flatM_set : ∀ (ls : List Gm) (k : Nat) (x : Gm), k < ls.length → flatM (ls.set k x) = (((((flatM ls).set (k * 5) (.int .i64 x.a)).set (k * 5 + 1) (.int .i64 x.b)).set (k * 5 + 2) (.int .i64 x.pa)).set (k * 5 + 3) (.int .i64 x.pb)).set (k * 5 + 4) (.bool x.op)
  | y :: ys, 0, x, _ => by simp [flatM, cellsM]
  | y :: ys, k + 1, x, h => by
    have := flatM_set ys k x (by simpa using h)
    simp only [flatM, cellsM, List.set_cons_succ, List.flatMap_cons] at *
    rw [this, show (k + 1) * 5 = k * 5 + 5 by omega, show k * 5 + 5 + 1 = (k * 5 + 1) + 5 by omega, show k * 5 + 5 + 2 = (k * 5 + 2) + 5 by omega, show k * 5 + 5 + 3 = (k * 5 + 3) + 5 by omega, show k * 5 + 5 + 4 = (k * 5 + 4) + 5 by omega]
    simp
def setM (w : World) (g k : Nat) (x : Gm) : World := ((((w.setCell ⟨g, k * 5, none⟩ (.int .i64 x.a)).setCell ⟨g, k * 5 + 1, none⟩ (.int .i64 x.b)).setCell ⟨g, k * 5 + 2, none⟩ (.int .i64 x.pa)).setCell ⟨g, k * 5 + 3, none⟩ (.int .i64 x.pb)).setCell ⟨g, k * 5 + 4, none⟩ (.bool x.op)
theorem OwnM.stored {base : Nat} {w : World} {g n c : Nat} {ls : List Gm} (h : OwnM 85 base w (.slice (some ⟨g, 0, none⟩) n c) ls) {k : Nat} (hk : k < ls.length) (x : Gm) : OwnM 85 base (setM w g k x) (.slice (some ⟨g, 0, none⟩) n c) (ls.set k x) := by
  obtain ⟨A, c', e⟩ := h.form
  have hn : n = ls.length := by injection e
  subst hn
  unfold OwnM at h ⊢
  rw [flatM_set ls k x hk, List.length_set]
  obtain ⟨h1, _⟩ := World.ownsRow.stored h (k * 5) (.int .i64 x.a)
  obtain ⟨h2, _⟩ := World.ownsRow.stored h1 (k * 5 + 1) (.int .i64 x.b)
  obtain ⟨h3, _⟩ := World.ownsRow.stored h2 (k * 5 + 2) (.int .i64 x.pa)
  obtain ⟨h4, _⟩ := World.ownsRow.stored h3 (k * 5 + 3) (.int .i64 x.pb)
  exact (World.ownsRow.stored h4 (k * 5 + 4) (.bool x.op)).1
theorem below_setM {B : Nat} {a w : World} (h : Below B a w) {g : Nat} (hg : B ≤ g) (k : Nat) (x : Gm) : Below B a (setM w g k x) := ((((h.setCell hg _).setCell hg _).setCell hg _).setCell hg _).setCell hg _
/-- What clear leaves of an own list of games. -/
def zM (m : Nat) : List Value := (Builtin.zeroCells #[.int .i64 0, .int .i64 0, .int .i64 0, .int .i64 0, .bool false] m).toList
theorem zM_len (m : Nat) : (zM m).length = m * 5 := by simp [zM, Builtin.zeroCells]
theorem zM_one (m : Nat) : ∀ v ∈ zM m, v.oneCell' = true := by
  intro v hv
  unfold zM Builtin.zeroCells at hv
  simp only [Array.toList_map, List.mem_map] at hv
  obtain ⟨i, _, rfl⟩ := hv
  have h : i % 5 = 0 ∨ i % 5 = 1 ∨ i % 5 = 2 ∨ i % 5 = 3 ∨ i % 5 = 4 := by omega
  rcases h with h | h | h | h | h <;> simp [h] <;> rfl
def clearedM (w : World) (g o m : Nat) (cur : Array Value) : World := w.setRow g (cur.toList.take (o + 0) ++ zM m ++ cur.toList.drop (o + 0 + (zM m).length)).toArray
theorem run_clear_M {w : World} {g o m c : Nat} {cur : Array Value} (hg : w.heap[g]? = some (.cells cur 85)) (hm : 0 < m) (hsz : o + m * 5 ≤ cur.size) (ty : TypeId) :
    (Builtin.clear_ #[30] ty #[.slice (some ⟨g, o, none⟩) m c]).run Try.prog w = .ok (.tuple #[]) (clearedM w g o m cur) := by
  obtain ⟨hu, i, hi, hz, hz1, hz2⟩ := tyM (t := 30) (e := 85) (.inl ⟨rfl, rfl⟩)
  have hst := run_storeCells_at (P := Try.prog) g o 85 (zM m) 0 cur w hg (by rw [zM_len]; omega) (zM_one m)
  have hv : ∀ w, (zeroValue 85).run Try.prog w = .ok (.agg #[.int .i64 0, .int .i64 0, .int .i64 0, .int .i64 0, .bool false]) w := fun w => by simp [zeroValue, typeInfo, hi, hz]
  obtain ⟨n, rfl⟩ : ∃ n, m = n + 1 := ⟨m - 1, by omega⟩
  have hc : (Value.agg #[.int .i64 0, .int .i64 0, .int .i64 0, .int .i64 0, .bool false]).cells = #[.int .i64 0, .int .i64 0, .int .i64 0, .int .i64 0, .bool false] := rfl
  unfold zM at hst
  simp only [Builtin.clear_, Sem.run_bind, run_underlying hu]
  simp [hv, hc, hst, clearedM, zM]
theorem OwnM.cleared {base : Nat} {w : World} {g n c i m : Nat} {ls : List Gm} {cur : Array Value} (h : OwnM 85 base w (.slice (some ⟨g, 0, none⟩) n c) ls) (hg : w.heap[g]? = some (.cells cur 85)) (hi : i ≤ ls.length) (hm : i + m = ls.length) : OwnM 85 base (clearedM w g (i * 5) m cur) (.slice (some ⟨g, 0, none⟩) i c) (ls.take i) := by
  rcases h.2 with ⟨e, h0⟩ | ⟨g', cap, cur', e, hb, hg', hn, hmx, hs, ht⟩
  · cases e
  · injection e with e1 e2 e3
    injection e1 with e1
    injection e1 with e1
    subst e1 e3
    rw [hg] at hg'
    injection hg' with hg'
    injection hg' with hg'
    subst hg'
    have hz : (zM m).length = m * 5 := zM_len m
    have hsz : cur.toList.length = c * 5 := by rw [Array.length_toList]; exact hs
    have hcn : ls.length ≤ c := by omega
    have hl : (cur.toList.take (i * 5 + 0) ++ zM m ++ cur.toList.drop (i * 5 + 0 + (zM m).length)).length = c * 5 := by
      rw [List.length_append, List.length_append, List.length_take, List.length_drop, hz, hsz]
      omega
    have hlt : (ls.take i).length = i := by rw [List.length_take]; omega
    refine ⟨by rw [flatM_len], .inr ⟨g, c, _, by rw [hlt], hb, setRow_heap w g cur _ 85 _ hg, by omega, hmx, by simpa using hl, ?_⟩⟩
    rw [hlt, List.toList_toArray, List.append_assoc, List.take_append_of_le_length (by rw [List.length_take, hsz]; omega), List.take_take, Nat.min_eq_left (by omega)]
    have e4 : flatM ls = flatM (ls.take i) ++ flatM (ls.drop i) := by rw [← flatM_append, List.take_append_drop]
    have e5 : cur.toList.take (i * 5) = (flatM ls).take (i * 5) := by
      rw [← ht, List.take_take, Nat.min_eq_left (by omega)]
    rw [e5, e4, List.take_append_of_le_length (by rw [flatM_len, hlt]; omega), List.take_of_length_le (by rw [flatM_len, hlt]; omega)]
theorem below_cleared {B : Nat} {a w : World} (h : Below B a w) {g : Nat} (hg : B ≤ g) (o m : Nat) (cur : Array Value) : Below B a (clearedM w g o m cur) :=
  ⟨h.os, h.tape, h.output, by unfold clearedM; rw [setRow_size]; exact h.size, fun i hi => by unfold clearedM; rw [setRow_other _ _ _ _ (by omega)]; exact h.block i hi⟩
/-- The open games. -/
def opensL (gs : List Gm) : List Gm := gs.filter fun g => g.op
theorem opens_all {gs : List Gm} (h : ∀ j, j < gs.length → (gmx gs j).op = true) : opensL gs = gs := by
  unfold opensL
  rw [List.filter_eq_self]
  intro x hx
  obtain ⟨k, hk, rfl⟩ := List.getElem_of_mem hx
  have := h k hk
  rwa [gmx_lt hk] at this
/-- What DeleteFunc has, behind the first j games: i of them, and the others as they were. -/
structure DelAt (gs L : List Gm) (i j : Nat) : Prop where
  len : L.length = gs.length
  ij : i ≤ j
  kept : L.take i = (gs.take j).filter fun g => g.op
  rest : ∀ m, j ≤ m → m < gs.length → gmx L m = gmx gs m
theorem del_start {gs : List Gm} {k : Nat} (hk : k < gs.length) (h0 : (gmx gs k).op = false) (h1 : ∀ j, j < k → (gmx gs j).op = true) : DelAt gs gs k (k + 1) := by
  refine ⟨rfl, by omega, ?_, fun m _ _ => rfl⟩
  rw [take_snocM hk, List.filter_append]
  have e : (gs.take k).filter (fun g => g.op) = gs.take k := by
    rw [List.filter_eq_self]
    intro x hx
    obtain ⟨j, hj, rfl⟩ := List.getElem_of_mem hx
    have hj2 : j < k := by rw [List.length_take] at hj; omega
    have := h1 j hj2
    rw [gmx_lt (by omega)] at this
    rwa [List.getElem_take]
  rw [e]
  simp [h0]
theorem del_skip {gs L : List Gm} {i j : Nat} (h : DelAt gs L i j) (hj : j < gs.length) (h0 : (gmx gs j).op = false) : DelAt gs L i (j + 1) := by
  refine ⟨h.len, by have := h.ij; omega, ?_, fun m hm hm2 => h.rest m (by omega) hm2⟩
  rw [h.kept, take_snocM hj, List.filter_append]
  simp [h0]
theorem del_take {gs L : List Gm} {i j : Nat} (h : DelAt gs L i j) (hij : i < j) (hj : j < gs.length) (h0 : (gmx gs j).op = true) : DelAt gs (L.set i (gmx gs j)) (i + 1) (j + 1) := by
  have hl := h.len
  refine ⟨by rw [List.length_set]; exact hl, by omega, ?_, fun m hm hm2 => ?_⟩
  · rw [take_snocM (show i < (L.set i (gmx gs j)).length by rw [List.length_set]; omega), take_snocM hj, List.filter_append, List.take_set_of_le (Nat.le_refl _), h.kept]
    congr 1
    rw [gmx_lt (show i < (L.set i (gmx gs j)).length by rw [List.length_set]; omega)]
    simp [h0]
  · rw [← h.rest m (by omega) hm2, gmx_lt (show m < (L.set i (gmx gs j)).length by rw [List.length_set]; omega), gmx_lt (show m < L.length by omega), List.getElem_set_ne (by omega)]
def DelP (base : Nat) (w : World) (gs : List Gm) (e : Ending) (w' : World) : Prop := ∃ A' c', e = .returned (.slice A' (opensL gs).length c') ∧ OwnM 85 base w' (.slice A' (opensL gs).length c') (opensL gs) ∧ Below base w w'
set_option maxRecDepth 100000 in
set_option maxHeartbeats 8000000 in
theorem delete92_c (gs : List Gm) (A : Option Addr) (c base : Nat) (w : World) (ho : OwnM 85 base w (.slice A gs.length c) gs) (hbase : base ≤ w.heap.size) (hn : gs.length ≤ 1000) :
    Calls Try.prog 92 #[.slice A gs.length c, .func (.func 94) #[] #[]] w (DelP base w gs) := by
  have HO := Lib.hid ho
  obtain ⟨hp1, hp2, hp3⟩ := ho.parts
  have HI := Lib.hid (index107_c A c gs w (Nat.le_refl _) hn hp3)
  clear hp3
  go_enter Try.func92, Try.ntmps92
  go_wp2_with fail
  refine HI.out.mono ?_
  rintro e w1 ⟨⟨k, hk, rfl, h0, h1⟩ | ⟨rfl, hall⟩, hb1⟩
  rotate_left 1
  · have HE := Lib.hid (opens_all hall)
    have HB1 := Lib.hid hb1
    clear hall hb1
    go_wp2_with fail
    go_ret
    exact ⟨A, c, by rw [HE.out]; rfl, by rw [HE.out]; exact HO.out.kept HB1.out, HB1.out.mono hbase⟩
  · have HD := Lib.hid (del_start hk h0 h1)
    have hne : ((k : Int) == -1) = false := by rw [beq_eq_false_iff_ne]; omega
    have hwk : IntKind.i64.wrap ((k : Int) + 1) = (k : Int) + 1 := IntWalk.i64_in _ (by omega)
    obtain ⟨gb, eA⟩ : ∃ gb, A = some ⟨gb, 0, none⟩ := by
      rcases HO.out.2 with ⟨_, h0⟩ | ⟨g, cap, cur, e, _⟩
      · omega
      · injection e with e1
        exact ⟨g, e1⟩
    subst eA
    have hgb : base ≤ gb := (World.ownsRow.lt HO.out gb rfl).1
    have HO1 := Lib.hid (HO.out.kept hb1)
    have HB1 : Hid (Below base w w1) := hb1.mono hbase
    clear h0 h1 HI hb1
    go_wp2_with fail
    go_loopw [5, 6, 7] (fun vi vj vb wr => ∃ (i j : Nat) (L : List Gm), vi = .int .i64 i ∧ vj = .int .i64 j ∧ i < j ∧ j ≤ gs.length ∧ DelAt gs L i j ∧ OwnM 85 base wr (.slice (some ⟨gb, 0, none⟩) gs.length c) L ∧ Below base w wr) (fun _ vj _ _ => gs.length - (intOf vj).toNat)
    case atStart => exact ⟨k, k + 1, gs, rfl, by go_num, by omega, by omega, HD.out, HO1.out, HB1.out⟩
    case round =>
      clear HD HO1 HB1
      obtain ⟨i, j, L, rfl, rfl, hij, hj, hd, ho2, hb2⟩ := hrel
      have HD := Lib.hid hd
      have HO2 := Lib.hid ho2
      have HB2 := Lib.hid hb2
      have hL := hd.len
      have hgw := (World.ownsRow.lt ho2 gb rfl).2
      clear hd ho2 hb2
      by_cases h2 : j < gs.length
      · have h2i : (j : Int) < (gs.length : Int) := by omega
        have HR := Lib.hid (HD.out.rest j (Nat.le_refl _) h2)
        have HT1 : Hid ((gmx gs j).op = true → DelAt gs (L.set i (gmx gs j)) (i + 1) (j + 1)) := fun h => del_take HD.out hij h2 h
        have HT0 : Hid ((gmx gs j).op = false → DelAt gs L i (j + 1)) := fun h => del_skip HD.out h2 h
        have hLn : gs.length = L.length := hL.symm
        have HO2' : OwnM 85 base wr (.slice (some ⟨gb, 0, none⟩) L.length c) L := by rw [hL]; exact HO2.out
        obtain ⟨-, -, hgm⟩ := HO2'.parts
        obtain ⟨b1, o1, e1, hb1, c1, c2, c3, c4, c5⟩ := hgm.at_ (k := j) (by omega)
        injection e1 with e1
        injection e1 with e1 e2
        subst e1 e2
        rw [Nat.zero_add] at c1 c2 c3 c4 c5
        rw [HR.out] at c1 c2 c3 c4 c5
        obtain ⟨b1, o1, e1, hb1, d1, d2, d3, d4, d5⟩ := hgm.at_ (k := i) (by omega)
        injection e1 with e1
        injection e1 with e1 e2
        subst e1 e2
        rw [Nat.zero_add] at d1 d2 d3 d4 d5
        have hfz : ∀ m, wr.frozen? ⟨gb, m, none⟩ = false := fun m => World.ownsRow.frozenAt HO2'  m
        have f1 := hfz (i * 5)
        have f2 := hfz (i * 5 + 1)
        have f3 := hfz (i * 5 + 2)
        have f4 := hfz (i * 5 + 3)
        have f5 := hfz (i * 5 + 4)
        have HOP := Lib.hid (fun W => opens94_c (gmx gs j) W)
        unfold gmV at HOP
        clear hgm HO2' hfz hLn HR HD hb1 hL
        generalize gmx gs j = x at *
        generalize gmx L i = y at *
        obtain ⟨xa, xb, xpa, xpb, xop⟩ := x
        dsimp only at c1 c2 c3 c4 c5 HOP HT1 HT0
        go_upto_region 8 with fail
        have hb : Below wr.heap.size wr (wr.alloc (.cells #[.int .i64 xa, .int .i64 xb, .int .i64 xpa, .int .i64 xpb, .bool xop] 85)) := (Below.refl _ _).alloc (Nat.le_refl _) _
        have hbw : base ≤ wr.heap.size := by omega
        have j0 : (wr.alloc (.cells #[.int .i64 xa, .int .i64 xb, .int .i64 xpa, .int .i64 xpb, .bool xop] 85)).cell? ⟨wr.heap.size, 0, none⟩ = some (.int .i64 xa) := by simp
        have j1 : (wr.alloc (.cells #[.int .i64 xa, .int .i64 xb, .int .i64 xpa, .int .i64 xpb, .bool xop] 85)).cell? ⟨wr.heap.size, 1, none⟩ = some (.int .i64 xb) := by simp
        have j2 : (wr.alloc (.cells #[.int .i64 xa, .int .i64 xb, .int .i64 xpa, .int .i64 xpb, .bool xop] 85)).cell? ⟨wr.heap.size, 2, none⟩ = some (.int .i64 xpa) := by simp
        have j3 : (wr.alloc (.cells #[.int .i64 xa, .int .i64 xb, .int .i64 xpa, .int .i64 xpb, .bool xop] 85)).cell? ⟨wr.heap.size, 3, none⟩ = some (.int .i64 xpb) := by simp
        have j4 : (wr.alloc (.cells #[.int .i64 xa, .int .i64 xb, .int .i64 xpa, .int .i64 xpb, .bool xop] 85)).cell? ⟨wr.heap.size, 4, none⟩ = some (.bool xop) := by simp
        replace HB2 : Hid (Below base w (wr.alloc (.cells #[.int .i64 xa, .int .i64 xb, .int .i64 xpa, .int .i64 xpb, .bool xop] 85))) := HB2.out.trans (hb.mono hbw)
        replace HO2 := Lib.hid (HO2.out.kept hb)
        replace d1 := cell_of_ans hb d1
        replace d2 := cell_of_ans hb d2
        replace d3 := cell_of_ans hb d3
        replace d4 := cell_of_ans hb d4
        replace d5 := cell_of_ans hb d5
        replace f1 := (hb.frozen (p := ⟨gb, i * 5, none⟩) hgw).trans f1
        replace f2 := (hb.frozen (p := ⟨gb, i * 5 + 1, none⟩) hgw).trans f2
        replace f3 := (hb.frozen (p := ⟨gb, i * 5 + 2, none⟩) hgw).trans f3
        replace f4 := (hb.frozen (p := ⟨gb, i * 5 + 3, none⟩) hgw).trans f4
        replace f5 := (hb.frozen (p := ⟨gb, i * 5 + 4, none⟩) hgw).trans f5
        have hbg : base ≤ (wr.alloc (.cells #[.int .i64 xa, .int .i64 xb, .int .i64 xpa, .int .i64 xpb, .bool xop] 85)).heap.size := by simp; omega
        have hgx : gb < (wr.alloc (.cells #[.int .i64 xa, .int .i64 xb, .int .i64 xpa, .int .i64 xpb, .bool xop] 85)).heap.size := by simp; omega
        have hgne : ¬ wr.heap.size = gb := by omega
        have hgne2 : ¬ gb = wr.heap.size := by omega
        clear c1 c2 c3 c4 c5 hb
        generalize (wr.alloc (.cells #[.int .i64 xa, .int .i64 xb, .int .i64 xpa, .int .i64 xpb, .bool xop] 85)) = wg at *
        generalize wr.heap.size = gq at *
        go_wp2_with fail
        refine (HOP.out wg).mono ?_
        rintro e w3 ⟨rfl, hb⟩
        replace HB2 : Hid (Below base w w3) := HB2.out.trans (hb.mono hbg)
        replace HO2 := Lib.hid (HO2.out.kept hb)
        replace d1 := cell_of_ans hb d1
        replace d2 := cell_of_ans hb d2
        replace d3 := cell_of_ans hb d3
        replace d4 := cell_of_ans hb d4
        replace d5 := cell_of_ans hb d5
        replace j0 := cell_of_ans hb j0
        replace j1 := cell_of_ans hb j1
        replace j2 := cell_of_ans hb j2
        replace j3 := cell_of_ans hb j3
        replace j4 := cell_of_ans hb j4
        replace f1 := (hb.frozen (p := ⟨gb, i * 5, none⟩) hgx).trans f1
        replace f2 := (hb.frozen (p := ⟨gb, i * 5 + 1, none⟩) hgx).trans f2
        replace f3 := (hb.frozen (p := ⟨gb, i * 5 + 2, none⟩) hgx).trans f3
        replace f4 := (hb.frozen (p := ⟨gb, i * 5 + 3, none⟩) hgx).trans f4
        replace f5 := (hb.frozen (p := ⟨gb, i * 5 + 4, none⟩) hgx).trans f5
        clear hb
        cases xop
        · go_wp2_with fail
          go_roundw
          case rel => exact ⟨i, j + 1, L, rfl, by go_num, by omega, by omega, HT0.out (by first | rfl | trivial), HO2.out, HB2.out⟩
          case measure => simp [intOf]; omega
        · have HLL : Hid (i < L.length) := by show _ < _; have h := (HT1.out (by first | rfl | trivial)).len; rw [List.length_set] at h; omega
          have HO3 : Hid (OwnM 85 base (((((w3.setCell ⟨gb, i * 5, none⟩ (.int .i64 xa)).setCell ⟨gb, i * 5 + 1, none⟩ (.int .i64 xb)).setCell ⟨gb, i * 5 + 2, none⟩ (.int .i64 xpa)).setCell ⟨gb, i * 5 + 3, none⟩ (.int .i64 xpb)).setCell ⟨gb, i * 5 + 4, none⟩ (.bool true)) (.slice (some ⟨gb, 0, none⟩) gs.length c) (L.set i ⟨xa, xb, xpa, xpb, true⟩)) := HO2.out.stored HLL.out ⟨xa, xb, xpa, xpb, true⟩
          have HB3 : Hid (Below base w (((((w3.setCell ⟨gb, i * 5, none⟩ (.int .i64 xa)).setCell ⟨gb, i * 5 + 1, none⟩ (.int .i64 xb)).setCell ⟨gb, i * 5 + 2, none⟩ (.int .i64 xpa)).setCell ⟨gb, i * 5 + 3, none⟩ (.int .i64 xpb)).setCell ⟨gb, i * 5 + 4, none⟩ (.bool true))) := below_setM HB2.out hgb i ⟨xa, xb, xpa, xpb, true⟩
          go_wp2_with fail
          go_roundw
          case rel => exact ⟨i + 1, j + 1, _, by go_num, by go_num, by omega, by omega, HT1.out (by first | rfl | trivial), HO3.out, HB3.out⟩
          case measure => simp [intOf]; omega
      · obtain rfl : j = gs.length := by omega
        have h2i : ¬ (gs.length : Int) < (gs.length : Int) := by omega
        have hcp := HO2.out.2
        obtain ⟨cur, hcur, hcs⟩ : ∃ cur, wr.heap[gb]? = some (.cells cur 85) ∧ cur.size = c * 5 := by
          rcases hcp with ⟨e, _⟩ | ⟨g', cap, cur, e, _, hg', _, _, hs, _⟩
          · cases e
          · injection e with e1 e2 e3
            injection e1 with e1
            injection e1 with e1
            subst e1 e3
            exact ⟨cur, hg', hs⟩
        have hcl := fun ty => run_clear_M (g := gb) (o := i * 5) (m := gs.length - i) (c := c - i) hcur (by omega) (by omega) ty
        have hci : ¬ c = i := by omega
        have hi1 : (i : Int) ≤ (gs.length : Int) := by omega
        have hi2 : (i : Int) ≤ (c : Int) := by omega
        have HK : Hid (L.take i = opensL gs) := by show _ = _; rw [HD.out.kept, List.take_length]; rfl
        have HOL : Hid (OwnM 85 base (clearedM wr gb (i * 5) (gs.length - i) cur) (.slice (some ⟨gb, 0, none⟩) i c) (L.take i)) := HO2.out.cleared hcur (by omega) (by omega)
        have HBC : Hid (Below base w (clearedM wr gb (i * 5) (gs.length - i) cur)) := below_cleared HB2.out hgb _ _ _
        have HLE : Hid ((opensL gs).length = i) := by show _ = _; rw [← HK.out, List.length_take]; omega
        rw [HK.out] at HOL
        clear hcp hcur hcs HD
        go_wp2_with fail
        go_ret
        exact ⟨some ⟨gb, 0, none⟩, c, by rw [HLE.out]; rfl, by rw [HLE.out]; exact HOL.out, HBC.out⟩
set_option maxHeartbeats 800000 in
theorem open59_c (l : Lg) (A : Option Addr) (c : Nat) (w : World) (hl : Gms w.heap.size w A l.games) (hc : l.games.length ≤ c ∧ c ≤ 9223372036854775807) (hn : l.games.length ≤ 1000) :
    Calls Try.prog 59 #[.agg #[.int .i64 l.teams, .slice A l.games.length c]] w (NewM w (opensL l.games)) := by
  have HB := Lib.hid (Below.refl w.heap.size w)
  have HL := Lib.hid hl
  clear hl
  have hb : Below w.heap.size w (w.alloc (.cells #[.int .i64 l.teams, .slice A l.games.length c] 32)) := (Below.refl _ _).alloc (Nat.le_refl _) _
  replace HL := Lib.hid (HL.out.step hb)
  replace HB := Lib.hid (HB.out.trans (hb.mono HB.out.size))
  clear hb
  have k0 : (w.alloc (.cells #[.int .i64 l.teams, .slice A l.games.length c] 32)).cell? ⟨w.heap.size, 0, none⟩ = some (.int .i64 l.teams) := by simp
  have k1 : (w.alloc (.cells #[.int .i64 l.teams, .slice A l.games.length c] 32)).cell? ⟨w.heap.size, 1, none⟩ = some (.slice A l.games.length c) := by simp
  have HCL := Lib.hid (fun (W : World) (h : Gms W.heap.size W A l.games) => clone93_c A l.games c W h (Nat.le_refl _) hn)
  go_enter Try.func59, Try.ntmps59
  go_wp2_with fail
  generalize (w.alloc (.cells #[.int .i64 l.teams, .slice A l.games.length c] 32)) = x1 at *
  refine (HCL.out _ HL.out).mono ?_
  rintro e w2 ⟨A2, c2, rfl, ho, hb⟩
  have HO := Lib.hid ho
  have hz := hb.size
  have HB2 : Hid (Below w.heap.size w w2) := HB.out.trans (hb.mono HB.out.size)
  have hz2 := HB2.out.size
  clear ho hb
  go_wp2_with fail
  refine (delete92_c l.games A2 c2 x1.heap.size w2 HO.out hz hn).mono ?_
  rintro e w3 ⟨A3, c3, rfl, ho, hb⟩
  have HO3 : Hid (OwnM 85 w.heap.size w3 (.slice A3 (opensL l.games).length c3) (opensL l.games)) := ownsRow_base ho HB.out.size
  have HB3 : Hid (Below w.heap.size w w3) := HB2.out.trans (hb.mono HB.out.size)
  clear ho hb
  go_wp2_with fail
  go_ret
  exact ⟨A3, c3, rfl, HO3.out, HB3.out⟩
end

section

open Go.RowKit
set_option linter.unusedSimpArgs false
set_option linter.unusedVariables false

attribute [local go_sem] Oper.semAt_some
set_option maxHeartbeats 400000 in
theorem in60_c (x : Int) (w : World) : Calls Try.prog 60 #[.int .u8 x] w (Ans w (.bool (inB x 1 3))) := by
  by_cases h : 1 ≤ x
  · go_enter Try.func60, Try.ntmps60
    go_wp2
    go_ret
    exact ⟨ret_bool (by simp [inB, h]), Below.refl _ _⟩
  · go_enter Try.func60, Try.ntmps60
    go_wp2
    go_ret
    exact ⟨ret_bool (by simp only [inB]; rw [decide_eq_false (by omega)]; rfl), Below.refl _ _⟩
theorem enters60 : Enters 60 := fun _ _ => enters_of Try.func60 (by kernel_rfl) rfl _ _
set_option maxHeartbeats 400000 in
theorem in54_c (x : Int) (w : World) : Calls Try.prog 54 #[.int .u8 x] w (Ans w (.bool (inB x 1 4))) := by
  by_cases h : 1 ≤ x
  · go_enter Try.func54, Try.ntmps54
    go_wp2
    go_ret
    exact ⟨ret_bool (by simp [inB, h]), Below.refl _ _⟩
  · go_enter Try.func54, Try.ntmps54
    go_wp2
    go_ret
    exact ⟨ret_bool (by simp only [inB]; rw [decide_eq_false (by omega)]; rfl), Below.refl _ _⟩
theorem enters54 : Enters 54 := fun _ _ => enters_of Try.func54 (by kernel_rfl) rfl _ _
/-- What all teams have behind the first k outcomes. -/
def aftK (ops : List Gm) (os : List Int) (f : Nat → Int) : Nat → Nat → Int
  | 0 => f
  | k + 1 => updI (updI (aftK ops os f k) (gmx ops k).a.toNat (aftK ops os f k (gmx ops k).a.toNat + (3 - ix os k))) (gmx ops k).b.toNat (updI (aftK ops os f k) (gmx ops k).a.toNat (aftK ops os f k (gmx ops k).a.toNat + (3 - ix os k)) (gmx ops k).b.toNat + (ix os k - 1))
theorem aftK_range {ops : List Gm} {os : List Int} {f : Nat → Int} (ho : ∀ k, k < os.length → 1 ≤ ix os k ∧ ix os k ≤ 3) (hf : ∀ t, 0 ≤ f t ∧ f t ≤ 60000) : ∀ k, k ≤ os.length → ∀ t, 0 ≤ aftK ops os f k t ∧ aftK ops os f k t ≤ 60000 + 4 * k
  | 0, _, t => by have := hf t; simp only [aftK]; omega
  | k + 1, hk, t => by
    have ih := aftK_range (ops := ops) ho hf k (by omega)
    have h := ho k (by omega)
    have i1 := ih t
    have i2 := ih (gmx ops k).a.toNat
    have i3 := ih (gmx ops k).b.toNat
    simp only [aftK]
    generalize aftK ops os f k = g at *
    generalize (gmx ops k).a.toNat = a at *
    generalize (gmx ops k).b.toNat = b at *
    by_cases e1 : t = b
    · subst e1
      rw [updI_eq]
      by_cases e2 : t = a
      · subst e2; rw [updI_eq]; omega
      · rw [updI_ne e2]; omega
    · rw [updI_ne e1]
      by_cases e2 : t = a
      · subst e2; rw [updI_eq]; omega
      · rw [updI_ne e2]; omega
theorem opens_len (gs : List Gm) : (opensL gs).length ≤ gs.length := List.length_filter_le _ _
theorem opens_ok {l : Lg} (hv : Valid l) {k : Nat} (hk : k < (opensL l.games).length) : GmOk l.teams (gmx (opensL l.games) k) := by
  rw [gmx_lt hk]
  exact hv.mem (List.mem_filter.1 (List.getElem_mem hk)).1
/-- Are outcomes those of a league? -/
noncomputable def outsB (l : Lg) (os : List Int) : Bool := decide (os.length = (opensL l.games).length) && allB os.length (fun k => inB (ix os k) 1 3)
noncomputable def afErr (l : Lg) (os : List Int) : Int := if faultL l = 0 then (if outsB l os = true then 0 else 2) else faultL l
def aftF (l : Lg) (os : List Int) : Nat → Int := aftK (opensL l.games) os (sumsF l) os.length
noncomputable def afL (l : Lg) (os : List Int) : List Int := if afErr l os = 0 then (List.range l.teams.toNat).map (aftF l os) else []
/-- A list of numbers, and an error. -/
def ListE (w : World) (xs : List Int) (er : Int) (e : Ending) (w' : World) : Prop := ∃ A c, e = .returned (.tuple #[.slice A xs.length c, .int .i64 er]) ∧ (Ints w'.heap.size w' A xs ∧ xs.length ≤ c ∧ c ≤ 9223372036854775807) ∧ Below w.heap.size w w'
theorem sumsF_range {l : Lg} (hv : Valid l) (t : Nat) : 0 ≤ sumsF l t ∧ sumsF l t ≤ 60000 := sumsK_range hv (Nat.le_refl _) t
set_option maxRecDepth 100000 in
set_option maxHeartbeats 8000000 in
theorem after25_c (l : Lg) (A Au : Option Addr) (c cu : Nat) (os : List Int) (w : World) (hl : Gms w.heap.size w A l.games) (hc : l.games.length ≤ c ∧ c ≤ 9223372036854775807) (hu : Byts w.heap.size w Au os) (hcu : os.length ≤ cu ∧ cu ≤ 9223372036854775807) (hos0 : os.length ≤ 1000) :
    Calls Try.prog 25 #[.agg #[.int .i64 l.teams, .slice A l.games.length c], .slice Au os.length cu] w (ListE w (afL l os) (afErr l os)) := by
  have HB := Lib.hid (Below.refl w.heap.size w)
  have HL := Lib.hid hl
  have HU := Lib.hid hu
  clear hl hu
  have hb : Below w.heap.size w (w.alloc (.cells #[.int .i64 l.teams, .slice A l.games.length c] 32)) := (Below.refl _ _).alloc (Nat.le_refl _) _
  replace HL := Lib.hid (HL.out.step hb)
  replace HU := Lib.hid (HU.out.step hb)
  replace HB := Lib.hid (HB.out.trans (hb.mono HB.out.size))
  clear hb
  have k0 : (w.alloc (.cells #[.int .i64 l.teams, .slice A l.games.length c] 32)).cell? ⟨w.heap.size, 0, none⟩ = some (.int .i64 l.teams) := by simp
  have k1 : (w.alloc (.cells #[.int .i64 l.teams, .slice A l.games.length c] 32)).cell? ⟨w.heap.size, 1, none⟩ = some (.slice A l.games.length c) := by simp
  have HC := Lib.hid (fun (W : World) (h : Gms W.heap.size W A l.games) => check17_c l A c W h hc)
  by_cases h1 : faultL l = 0
  rotate_left 1
  · have HF : Hid (afErr l os = faultL l) := by show _ = _; unfold afErr; rw [if_neg h1]
    have HLE : Hid (afL l os = []) := by show _ = _; unfold afL; rw [HF.out, if_neg h1]
    have q1 : (faultL l != 0) = true := by simp [h1]
    clear h1
    generalize faultL l = fl at *
    go_enter Try.func25, Try.ntmps25
    go_wp2_with fail
    generalize (w.alloc (.cells #[.int .i64 l.teams, .slice A l.games.length c] 32)) = x1 at *
    refine (HC.out _ HL.out).mono ?_
    rintro e w2 ⟨rfl, hb⟩
    replace HL := Lib.hid (HL.out.step hb)
    replace HU := Lib.hid (HU.out.step hb)
    replace k0 := cell_of_ans hb k0
    replace k1 := cell_of_ans hb k1
    replace HB := Lib.hid (HB.out.trans (hb.mono HB.out.size))
    clear hb
    go_wp2_with fail
    refine bodyPost_ret (results_tmp2 rfl _ _ _) rfl ?_
    exact ⟨none, 0, by rw [HLE.out, HF.out]; rfl, by rw [HLE.out]; exact ⟨fun h => by simp at h, by simp, by simp⟩, HB.out⟩
  · have hv := valid_iff.1 h1
    have HV := Lib.hid hv
    have hl20 := hv.len
    have hn : l.games.length ≤ 1000 := by omega
    have HOP := Lib.hid (fun (W : World) (h : Gms W.heap.size W A l.games) => open59_c l A c W h hc hn)
    have hol := opens_len l.games
    have HF : Hid (afErr l os = if outsB l os = true then 0 else 2) := by show _ = _; unfold afErr; rw [if_pos h1]
    have hT2 := hv.t2
    have hT6 := hv.t6
    by_cases h2 : os.length = (opensL l.games).length
    rotate_left 1
    · have HOB : Hid (outsB l os = false) := by show _ = _; unfold outsB; rw [decide_eq_false h2]; rfl
      rw [HOB.out, if_neg (by simp)] at HF
      have HLE : Hid (afL l os = []) := by show _ = _; unfold afL; rw [HF.out, if_neg (by decide)]
      have q2 : ((os.length : Int) != ((opensL l.games).length : Int)) = true := by simp [bne]; omega
      clear h2 hv
      go_enter Try.func25, Try.ntmps25
      go_wp2_with fail
      generalize (w.alloc (.cells #[.int .i64 l.teams, .slice A l.games.length c] 32)) = x1 at *
      refine (HC.out _ HL.out).mono ?_
      rw [h1]
      rintro e w2 ⟨rfl, hb⟩
      replace HL := Lib.hid (HL.out.step hb)
      replace HU := Lib.hid (HU.out.step hb)
      replace k0 := cell_of_ans hb k0
      replace k1 := cell_of_ans hb k1
      replace HB := Lib.hid (HB.out.trans (hb.mono HB.out.size))
      clear hb
      go_wp2_with fail
      refine (HOP.out _ HL.out).mono ?_
      rintro e w3 ⟨OA, oc, rfl, HO, hb⟩
      replace HL := Lib.hid (HL.out.step hb)
      replace HU := Lib.hid (HU.out.step hb)
      replace k0 := cell_of_ans hb k0
      replace k1 := cell_of_ans hb k1
      replace HB := Lib.hid (HB.out.trans (hb.mono HB.out.size))
      clear hb
      have HON := HO
      skip
      clear HO
      go_wp2_with fail
      refine bodyPost_ret (results_tmp2 rfl _ _ _) rfl ?_
      exact ⟨none, 0, by rw [HLE.out, HF.out]; rfl, by rw [HLE.out]; exact ⟨fun h => by simp at h, by simp, by simp⟩, HB.out⟩
    · have q2 : ((os.length : Int) != ((opensL l.games).length : Int)) = false := by rw [h2]; simp
      have H2 := Lib.hid h2
      have hos : os.length ≤ 1000 := by omega
      have HAL := Lib.hid (fun (W : World) (h : Byts W.heap.size W Au os) => allU (B := W.heap.size) Au cu 60 #[] #[] os (fun k => inB (ix os k) 1 3) W enters60 (Nat.le_refl _) (by omega) h (fun k _ W _ => in60_c (ix os k) W))
      clear h2
      cases h3 : allB os.length (fun k => inB (ix os k) 1 3)
      all_goals simp only [h3] at HAL
      · have HOB : Hid (outsB l os = false) := by show _ = _; unfold outsB; rw [h3, Bool.and_false]
        rw [HOB.out, if_neg (by simp)] at HF
        have HLE : Hid (afL l os = []) := by show _ = _; unfold afL; rw [HF.out, if_neg (by decide)]
        clear hv h3
        go_enter Try.func25, Try.ntmps25
        go_wp2_with fail
        generalize (w.alloc (.cells #[.int .i64 l.teams, .slice A l.games.length c] 32)) = x1 at *
        refine (HC.out _ HL.out).mono ?_
        rw [h1]
        rintro e w2 ⟨rfl, hb⟩
        replace HL := Lib.hid (HL.out.step hb)
        replace HU := Lib.hid (HU.out.step hb)
        replace k0 := cell_of_ans hb k0
        replace k1 := cell_of_ans hb k1
        replace HB := Lib.hid (HB.out.trans (hb.mono HB.out.size))
        clear hb
        go_wp2_with fail
        refine (HOP.out _ HL.out).mono ?_
        rintro e w3 ⟨OA, oc, rfl, HO, hb⟩
        replace HL := Lib.hid (HL.out.step hb)
        replace HU := Lib.hid (HU.out.step hb)
        replace k0 := cell_of_ans hb k0
        replace k1 := cell_of_ans hb k1
        replace HB := Lib.hid (HB.out.trans (hb.mono HB.out.size))
        clear hb
        have HON := HO
        skip
        clear HO
        go_wp2_with fail
        refine (HAL.out _ HU.out).mono ?_
        rintro e w4 ⟨rfl, hb⟩
        replace HL := Lib.hid (HL.out.step hb)
        replace HU := Lib.hid (HU.out.step hb)
        replace k0 := cell_of_ans hb k0
        replace k1 := cell_of_ans hb k1
        replace HB := Lib.hid (HB.out.trans (hb.mono HB.out.size))
        clear hb
        go_wp2_with fail
        refine bodyPost_ret (results_tmp2 rfl _ _ _) rfl ?_
        exact ⟨none, 0, by rw [HLE.out, HF.out]; rfl, by rw [HLE.out]; exact ⟨fun h => by simp at h, by simp, by simp⟩, HB.out⟩
      · have HOB : Hid (outsB l os = true) := by show _ = _; unfold outsB; rw [h3, decide_eq_true H2.out]; rfl
        rw [HOB.out, if_pos rfl] at HF
        have HLE : Hid (afL l os = (List.range l.teams.toNat).map (aftF l os)) := by show _ = _; unfold afL; rw [if_pos HF.out]
        have HOS : Hid (∀ k, k < os.length → 1 ≤ ix os k ∧ ix os k ≤ 3) := fun k hk => by
          rw [allB_iff] at h3
          exact (inB_eq _ _ _).1 (h3 k hk)
        have HRG := Lib.hid (fun k (hk : k ≤ os.length) => aftK_range (ops := opensL l.games) HOS.out (sumsF_range hv) k hk)
        have HOK : Hid (∀ k, k < (opensL l.games).length → GmOk l.teams (gmx (opensL l.games) k)) := fun k hk => opens_ok hv hk
        have HAF : Hid (aftK (opensL l.games) os (sumsF l) os.length = aftF l os) := rfl
        have HSU := Lib.hid (fun (W : World) (h : Gms W.heap.size W A l.games) => sums61_c l A c W h hc HV.out)
        have HA0 : Hid (aftK (opensL l.games) os (sumsF l) 0 = sumsF l) := rfl
        have HAS : Hid (∀ k, aftK (opensL l.games) os (sumsF l) (k + 1) = updI (updI (aftK (opensL l.games) os (sumsF l) k) (gmx (opensL l.games) k).a.toNat (aftK (opensL l.games) os (sumsF l) k (gmx (opensL l.games) k).a.toNat + (3 - ix os k))) (gmx (opensL l.games) k).b.toNat (updI (aftK (opensL l.games) os (sumsF l) k) (gmx (opensL l.games) k).a.toNat (aftK (opensL l.games) os (sumsF l) k (gmx (opensL l.games) k).a.toNat + (3 - ix os k)) (gmx (opensL l.games) k).b.toNat + (ix os k - 1))) := fun k => rfl
        clear hv h3
        go_enter Try.func25, Try.ntmps25
        go_wp2_with fail
        generalize (w.alloc (.cells #[.int .i64 l.teams, .slice A l.games.length c] 32)) = x1 at *
        refine (HC.out _ HL.out).mono ?_
        rw [h1]
        rintro e w2 ⟨rfl, hb⟩
        replace HL := Lib.hid (HL.out.step hb)
        replace HU := Lib.hid (HU.out.step hb)
        replace k0 := cell_of_ans hb k0
        replace k1 := cell_of_ans hb k1
        replace HB := Lib.hid (HB.out.trans (hb.mono HB.out.size))
        clear hb
        go_wp2_with fail
        refine (HOP.out _ HL.out).mono ?_
        rintro e w3 ⟨OA, oc, rfl, HO, hb⟩
        replace HL := Lib.hid (HL.out.step hb)
        replace HU := Lib.hid (HU.out.step hb)
        replace k0 := cell_of_ans hb k0
        replace k1 := cell_of_ans hb k1
        replace HB := Lib.hid (HB.out.trans (hb.mono HB.out.size))
        clear hb
        have HON := HO
        skip
        obtain ⟨ho1, ho2, ho3⟩ := HO.parts
        have HOG := Lib.hid ho3
        clear HO ho3
        go_wp2_with fail
        refine (HAL.out _ HU.out).mono ?_
        rintro e w4 ⟨rfl, hb⟩
        replace HL := Lib.hid (HL.out.step hb)
        replace HU := Lib.hid (HU.out.step hb)
        replace k0 := cell_of_ans hb k0
        replace k1 := cell_of_ans hb k1
        replace HOG := Lib.hid (HOG.out.step hb)
        replace HB := Lib.hid (HB.out.trans (hb.mono HB.out.size))
        clear hb
        go_wp2_with fail
        refine (HSU.out _ HL.out).mono ?_
        rintro e w5 ⟨rfl, hb⟩
        replace HL := Lib.hid (HL.out.step hb)
        replace HU := Lib.hid (HU.out.step hb)
        replace k0 := cell_of_ans hb k0
        replace k1 := cell_of_ans hb k1
        replace HOG := Lib.hid (HOG.out.step hb)
        replace HB := Lib.hid (HB.out.trans (hb.mono HB.out.size))
        clear hb
        clear HAL HSU HOP HC
        have ltk0 := World.block_lt_of_cell? _ _ k0
        dsimp only at ltk0
        have hu5 := HU.out
        have hg5 := HOG.out
        have HU5a := Lib.hid hu5
        have HOG5a := Lib.hid hg5
        clear hu5 hg5
        unfold six
        go_upto_region 8 with fail
        have hb : Below w5.heap.size w5 (w5.alloc (.cells #[.int .i64 (sumsF l 0), .int .i64 (sumsF l 1), .int .i64 (sumsF l 2), .int .i64 (sumsF l 3), .int .i64 (sumsF l 4), .int .i64 (sumsF l 5)] 102)) := (Below.refl _ _).alloc (Nat.le_refl _) _
        have H6 : Hid (At6 (w5.alloc (.cells #[.int .i64 (sumsF l 0), .int .i64 (sumsF l 1), .int .i64 (sumsF l 2), .int .i64 (sumsF l 3), .int .i64 (sumsF l 4), .int .i64 (sumsF l 5)] 102)) w5.heap.size 102 (aftK (opensL l.games) os (sumsF l) 0)) := World.alloc_heap_new w5 _
        have hbx := hb
        replace HL := Lib.hid (HL.out.step hb)
        replace HU := Lib.hid (HU.out.step hb)
        replace k0 := cell_of_ans hb k0
        replace k1 := cell_of_ans hb k1
        replace HOG := Lib.hid (HOG.out.step hb)
        replace HB := Lib.hid (HB.out.trans (hb.mono HB.out.size))
        clear hb
        generalize (w5.alloc (.cells #[.int .i64 (sumsF l 0), .int .i64 (sumsF l 1), .int .i64 (sumsF l 2), .int .i64 (sumsF l 3), .int .i64 (sumsF l 4), .int .i64 (sumsF l 5)] 102)) = x5 at *
        obtain ⟨q, hq⟩ : ∃ q, q = w5.heap.size := ⟨_, rfl⟩
        have hqk : w.heap.size < q := by omega
        rw [← hq] at H6
        simp only [← hq]
        have hqx := H6.out.lt
        have HU5 : Hid (Byts q x5 Au os) := by rw [hq]; exact HU5a.out.below hbx
        have HOG5 : Hid (Gms q x5 OA (opensL l.games)) := by rw [hq]; exact HOG5a.out.below hbx
        clear hq hbx HU5a HOG5a HU HOG
        go_wp2_with fail
        go_loopw [32] (fun i wr => ∃ k : Nat, k ≤ os.length ∧ i = .int .i64 k ∧ At6 wr q 102 (aftK (opensL l.games) os (sumsF l) k) ∧ Below q x5 wr) (fun i _ => os.length - (intOf i).toNat)
        case atStart => exact ⟨0, by omega, rfl, H6.out, Below.refl _ _⟩
        case round =>
          clear H6
          obtain ⟨k, hk, rfl, h6, hb⟩ := hrel
          have H6 := Lib.hid h6
          have HBR := Lib.hid hb
          have hwr := h6.lt
          have HUr := Lib.hid (HU5.out.below hb)
          have HOr := Lib.hid (HOG5.out.below hb)
          clear h6 hb
          by_cases h1 : k < os.length
          · have h1i : (k : Int) < (os.length : Int) := by omega
            have hko : k < (opensL l.games).length := by have := H2.out; omega
            have hkoi : (k : Int) < ((opensL l.games).length : Int) := by omega
            obtain ⟨ub, uo, rfl, hub, u1, -⟩ := HUr.out.at_ h1
            obtain ⟨b, off, rfl, hb0, c1, c2, c3, c4, c5⟩ := HOr.out.at_ hko
            have hg := HOK.out k hko
            obtain ⟨na, hna⟩ : ∃ na : Nat, (gmx (opensL l.games) k).a = (na : Int) := ⟨(gmx (opensL l.games) k).a.toNat, by have := hg.a0; omega⟩
            obtain ⟨nb, hnb⟩ : ∃ nb : Nat, (gmx (opensL l.games) k).b = (nb : Int) := ⟨(gmx (opensL l.games) k).b.toNat, by have := hg.b0; omega⟩
            have ha6 : na < 6 := by have := hg.an; omega
            have hb6 : nb < 6 := by have := hg.bn; omega
            have ha6i : (na : Int) < 6 := by omega
            have hb6i : (nb : Int) < 6 := by omega
            have hne : na ≠ nb := by have := hg.ne; omega
            have HS := Lib.hid (HAS.out k)
            have hra := HRG.out k hk na
            have hrb := HRG.out k hk nb
            have hro := HOS.out k h1
            rw [hna, hnb, Int.toNat_natCast, Int.toNat_natCast] at HS
            rw [hna] at c1
            rw [hnb] at c2
            clear hg hna hnb c3 c4 c5
            generalize ix os k = o at *
            generalize hsk : aftK (opensL l.games) os (sumsF l) k = f at *
            clear hsk
            have hbq : ¬ b = q := by omega
            have hqb : ¬ q = b := by omega
            obtain ⟨y1, z1⟩ := H6.out.cell ha6
            obtain ⟨y2, z2⟩ := H6.out.cell hb6
            have HSN : Hid (updI f na (f na + (3 - o)) nb = f nb) := updI_ne (fun e => hne e.symm)
            rw [HSN.out] at HS
            have hu1 : IntKind.u8.wrap (3 - o) = 3 - o := IntWalk.u8_in _ (by omega)
            have hu2 : IntKind.u8.wrap (o - 1) = o - 1 := IntWalk.u8_in _ (by omega)
            have hi1 : IntKind.i64.wrap (3 - o) = 3 - o := IntWalk.i64_in _ (by omega)
            have hi2 : IntKind.i64.wrap (o - 1) = o - 1 := IntWalk.i64_in _ (by omega)
            have hw1 : IntKind.i64.wrap (f na + (3 - o)) = f na + (3 - o) := IntWalk.i64_in _ (by omega)
            have hw2 : IntKind.i64.wrap (f nb + (o - 1)) = f nb + (o - 1) := IntWalk.i64_in _ (by omega)
            have H7 := Lib.hid (H6.out.set ha6 (f na + (3 - o)))
            have H8 := Lib.hid (H7.out.set hb6 (f nb + (o - 1)))
            have hnab : nb ≠ na := fun e => hne e.symm
            have HB5 : Hid (Below q x5 ((wr.setCell ⟨q, na, none⟩ (.int .i64 (f na + (3 - o)))).setCell ⟨q, nb, none⟩ (.int .i64 (f nb + (o - 1))))) := (HBR.out.setCell (Nat.le_refl _) _).setCell (Nat.le_refl _) _
            go_wp2_with fail
            go_roundw
            case rel => exact ⟨k + 1, by omega, by go_num, by rw [HS.out]; exact H8.out, HB5.out⟩
            case measure => simp [intOf]; omega
          · obtain rfl : k = os.length := by omega
            have h1i : ¬ (os.length : Int) < (os.length : Int) := by omega
            rw [HAF.out] at H6
            obtain ⟨T, hT⟩ : ∃ T : Nat, l.teams = (T : Int) := ⟨l.teams.toNat, by omega⟩
            replace k0 := (HBR.out.cell (p := ⟨w.heap.size, 0, none⟩) hqk).trans k0
            rw [hT] at k0
            have hT60 : T ≤ 6 := by omega
            have hT61 : (T : Int) ≤ 6 := by omega
            have HLE2 : Hid (afL l os = (List.range T).map (aftF l os)) := by show _ = _; rw [HLE.out, hT, Int.toNat_natCast]
            have HBF : Hid (Below w.heap.size w wr) := HB.out.trans (HBR.out.mono (by omega))
            have hxl : ((List.range T).map (aftF l os)).length = T := by simp
            have HIN : Hid (Ints wr.heap.size wr (some ⟨q, 0, none⟩) ((List.range T).map (aftF l os))) := fun hp => ⟨q, 0, rfl, hwr, fun j hj => by
              rw [hxl] at hj
              rw [Nat.zero_add, (H6.out.cell (k := j) (by omega)).1, ix_lt (by rw [hxl]; exact hj)]
              simp⟩
            have HCN := Lib.hid (clone62_c (some ⟨q, 0, none⟩) ((List.range T).map (aftF l os)) 6 wr HIN.out (Nat.le_refl _) (by omega))
            rw [hxl] at HCN
            clear hT hT2 hT6
            go_wp2_with fail
            refine HCN.out.mono ?_
            rintro e w9 ⟨A9, c9, rfl, ho9, hb9⟩
            obtain ⟨p1, p2, p3⟩ := isInts_parts ho9.isInts
            have HP3 := Lib.hid p3
            have HB9 : Hid (Below w.heap.size w w9) := HBF.out.trans (hb9.mono HBF.out.size)
            clear ho9 hb9 p3
            go_wp2_with fail
            refine bodyPost_ret (results_tmp2 rfl _ _ _) rfl ?_
            exact ⟨A9, c9, by rw [HLE2.out, HF.out, hxl]; rfl, by rw [HLE2.out]; exact ⟨HP3.out, p1, p2⟩, HB9.out⟩
end

section

open Go.RowKit
set_option linter.unusedSimpArgs false
set_option linter.unusedVariables false

attribute [local go_sem] Oper.semAt_some
theorem wpIn_scope_wide {n : Nat} {P : Program} {c : Code} {Q : Exit → Act → World → Prop} {a : Act} {w : World} (h : c.wpIn Fence.wide n P (Exit.noGoto Q) a w) : (Code.scope c).wpIn Fence.wide n P Q a w := wpIn_wide.2 (wp_scope_straight (wpIn_wide.1 h))
/-- All blocks ahead of n₀, and all blocks of cells, are kept, but those of S. -/
def KpS (n₀ : Nat) (S : Nat → Prop) (A B : World) : Prop := A.heap.size ≤ B.heap.size ∧ B.os = A.os ∧ B.tape = A.tape ∧ B.output = A.output ∧ ∀ (k : Nat) (o : Obj), A.heap[k]? = some o → (k < n₀ ∨ o.isCells = true) → ¬ S k → B.heap[k]? = some o
section
variable {n₀ : Nat} {S : Nat → Prop} {A B C : World}
theorem KpS.refl (n₀ : Nat) (S : Nat → Prop) (A : World) : KpS n₀ S A A := ⟨Nat.le_refl _, rfl, rfl, rfl, fun _ _ h _ _ => h⟩
theorem KpS.trans (h : KpS n₀ S A B) (k : KpS n₀ S B C) : KpS n₀ S A C := ⟨Nat.le_trans h.1 k.1, k.2.1.trans h.2.1, k.2.2.1.trans h.2.2.1, k.2.2.2.1.trans h.2.2.2.1, fun i o h0 h1 h2 => k.2.2.2.2 i o (h.2.2.2.2 i o h0 h1 h2) h1 h2⟩
theorem KpS.of_below (h : Below A.heap.size A B) : KpS n₀ S A B := ⟨h.size, h.os, h.tape, h.output, fun i _ h0 _ _ => (h.block i (Array.getElem?_eq_some_iff.1 h0).1).trans h0⟩
theorem KpS.of_set {ad : Addr} (h : S ad.block) (v : Value) : KpS n₀ S A (A.setCell ad v) :=
  ⟨by simp [World.setCell], rfl, rfl, rfl, fun i _ h0 _ h2 => (Below.heap_setCell A ad v i (by rintro rfl; exact h2 h)).trans h0⟩
theorem KpS.of_put {l : Nat} {o : Obj} (hl : n₀ ≤ l) (h : A.heap[l]? = some o) (hc : o.isCells = false) (o' : Obj) : KpS n₀ S A (A.putObj l o') :=
  ⟨by simp, rfl, rfl, rfl, fun i x h0 h1 _ => (World.putObj_heap_other (by
    rintro rfl
    rcases h1 with h1 | h1
    · omega
    · rw [h] at h0; cases h0; rw [hc] at h1; cases h1)).trans h0⟩
theorem KpS.of_grown {row : Option Nat} (h : A.grownBy B row) (hr : ∀ q, row = some q → S q) : KpS n₀ S A B := ⟨h.size, h.os, h.tape, h.output, fun i _ h0 _ h2 => (h.block i (Array.getElem?_eq_some_iff.1 h0).1 (fun e => h2 (hr i e.symm))).trans h0⟩
theorem KpS.block (h : KpS n₀ S A B) {k : Nat} {o : Obj} (h0 : A.heap[k]? = some o) (hc : o.isCells = true) (h2 : ¬ S k) : B.heap[k]? = some o := h.2.2.2.2 k o h0 (.inr hc) h2
theorem KpS.cell (h : KpS n₀ S A B) {p : Addr} {v : Value} (hc : A.cell? p = some v) (h2 : ¬ S p.block) : B.cell? p = some v := by
  unfold World.cell? at hc ⊢
  cases h0 : A.heap[p.block]? with
  | none => rw [h0] at hc; cases hc
  | some o =>
    rw [h0] at hc
    cases o with
    | cells c e f => rw [h.block h0 rfl h2]; exact hc
    | _ => cases hc
theorem KpS.below {b : Nat} (h : KpS n₀ S A B) (hb : b ≤ n₀) (hA : b ≤ A.heap.size) (h2 : ∀ k, k < b → ¬ S k) : Below b A B := ⟨h.2.1, h.2.2.1, h.2.2.2.1, h.1, fun k hk => by
  obtain ⟨o, ho⟩ : ∃ o, A.heap[k]? = some o := ⟨_, Array.getElem?_eq_getElem (by omega)⟩
  rw [h.2.2.2.2 k o ho (.inl (by omega)) (h2 k hk), ho]⟩
theorem KpS.less {n₁ : Nat} (h : KpS n₀ S A B) (hn : n₁ ≤ n₀) : KpS n₁ S A B := ⟨h.1, h.2.1, h.2.2.1, h.2.2.2.1, fun k o h0 h1 h2 => h.2.2.2.2 k o h0 (h1.imp (by omega) id) h2⟩
theorem KpS.more {S' : Nat → Prop} (h : KpS n₀ S A B) (hS : ∀ k, S k → S' k) : KpS n₀ S' A B := ⟨h.1, h.2.1, h.2.2.1, h.2.2.2.1, fun k o h0 h1 h2 => h.2.2.2.2 k o h0 h1 fun hs => h2 (hS k hs)⟩
end

/-- What the iterator reads: its box of the league (q), the team (q + 1), the games. -/
structure OfSt (W : World) (q B : Nat) (l : Lg) (A : Option Addr) (c : Nat) (tm : Int) : Prop where
  h0 : W.cell? ⟨q, 0, none⟩ = some (.int .i64 l.teams)
  h1 : W.cell? ⟨q, 1, none⟩ = some (.slice A l.games.length c)
  tm : W.cell? ⟨q + 1, 0, none⟩ = some (.int .i64 tm)
  gm : Gms B W A l.games
  bq : B ≤ q
theorem OfSt.below {W W' : World} {q B : Nat} {l : Lg} {A : Option Addr} {c : Nat} {tm : Int} (h : OfSt W q B l A c tm) (hb : Below W.heap.size W W') : OfSt W' q B l A c tm :=
  ⟨cell_of_ans hb h.h0, cell_of_ans hb h.h1, cell_of_ans hb h.tm, h.gm.below (hb.mono (Nat.le_trans h.bq (Nat.le_of_lt (World.block_lt_of_cell? _ _ h.h0)))), h.bq⟩
theorem OfSt.kept {W W' : World} {q B : Nat} {l : Lg} {A : Option Addr} {c : Nat} {tm : Int} {n₀ : Nat} {S : Nat → Prop} (h : OfSt W q B l A c tm) (hk : KpS n₀ S W W') (hS : ¬ S q ∧ ¬ S (q + 1)) (hB : B ≤ n₀) (hBS : ∀ k, k < B → ¬ S k) : OfSt W' q B l A c tm :=
  ⟨hk.cell h.h0 hS.1, hk.cell h.h1 hS.1, hk.cell h.tm hS.2, h.gm.below (hk.below hB (Nat.le_trans h.bq (Nat.le_of_lt (World.block_lt_of_cell? _ _ h.h0))) hBS), h.bq⟩
/-- One of a team's games: the other team, its points, its pins. -/
def OfX (l : Lg) (tm : Int) : Type := {x : Gm × Int × Int × Int // GmOk l.teams x.1 ∧ ((x.1.a = tm ∧ x.2 = (x.1.b, gA x.1, x.1.pa)) ∨ (x.1.b = tm ∧ x.2 = (x.1.a, gB x.1, x.1.pb)))}
noncomputable def ofL {l : Lg} (hv : Valid l) (tm : Int) : Nat → List (OfX l tm)
  | 0 => []
  | k + 1 => if hk : k < l.games.length then
      (if ha : (gmx l.games k).a = tm then ofL hv tm k ++ [⟨(gmx l.games k, ((gmx l.games k).b, gA (gmx l.games k), (gmx l.games k).pa)), hv.at hk, .inl ⟨ha, rfl⟩⟩]
       else if hb : (gmx l.games k).b = tm then ofL hv tm k ++ [⟨(gmx l.games k, ((gmx l.games k).a, gB (gmx l.games k), (gmx l.games k).pb)), hv.at hk, .inr ⟨hb, rfl⟩⟩]
       else ofL hv tm k) else ofL hv tm k
section
variable {l : Lg} (hv : Valid l) (tm : Int)
theorem ofL_a {k : Nat} (hk : k < l.games.length) (ha : (gmx l.games k).a = tm) : ∃ ex : OfX l tm, ex.1 = (gmx l.games k, ((gmx l.games k).b, gA (gmx l.games k), (gmx l.games k).pa)) ∧ ofL hv tm (k + 1) = ofL hv tm k ++ [ex] :=
  ⟨⟨(gmx l.games k, ((gmx l.games k).b, gA (gmx l.games k), (gmx l.games k).pa)), hv.at hk, .inl ⟨ha, rfl⟩⟩, rfl, by rw [ofL, dif_pos hk, dif_pos ha]⟩
theorem ofL_b {k : Nat} (hk : k < l.games.length) (ha : ¬ (gmx l.games k).a = tm) (hb : (gmx l.games k).b = tm) : ∃ ex : OfX l tm, ex.1 = (gmx l.games k, ((gmx l.games k).a, gB (gmx l.games k), (gmx l.games k).pb)) ∧ ofL hv tm (k + 1) = ofL hv tm k ++ [ex] :=
  ⟨⟨(gmx l.games k, ((gmx l.games k).a, gB (gmx l.games k), (gmx l.games k).pb)), hv.at hk, .inr ⟨hb, rfl⟩⟩, rfl, by rw [ofL, dif_pos hk, dif_neg ha, dif_pos hb]⟩
theorem ofL_no {k : Nat} (hk : k < l.games.length) (ha : ¬ (gmx l.games k).a = tm) (hb : ¬ (gmx l.games k).b = tm) : ofL hv tm (k + 1) = ofL hv tm k := by rw [ofL, dif_pos hk, dif_neg ha, dif_neg hb]
theorem ofL_len : ∀ k : Nat, (ofL hv tm k).length ≤ k
  | 0 => Nat.le_refl _
  | k + 1 => by
    have := ofL_len k
    rw [ofL]
    split
    · split
      · rw [List.length_append]; exact Nat.succ_le_succ this
      · split
        · rw [List.length_append]; exact Nat.succ_le_succ this
        · omega
    · omega
end
def sideV (x : Int × Int × Int) : Value := .agg #[.int .i64 x.1, .int .i64 x.2.1, .int .i64 x.2.2]
def oEnc {l : Lg} {tm : Int} (x : OfX l tm) : Array Value := #[gmV x.1.1, sideV x.1.2]
set_option maxHeartbeats 400000 in
theorem of109_c (l : Lg) (A : Option Addr) (c B : Nat) (tm : Int) (w : World) (hg : Gms B w A l.games) (hB : B ≤ w.heap.size) :
    Calls Try.prog 109 #[.agg #[.int .i64 l.teams, .slice A l.games.length c], .int .i64 tm] w fun e w' => e = .returned (.func (.func 113) #[] #[.pointer (some ⟨w.heap.size, 0, none⟩), .pointer (some ⟨w.heap.size + 1, 0, none⟩)]) ∧
      Below w.heap.size w w' ∧ w'.heap.size = w.heap.size + 2 ∧ OfSt w' w.heap.size B l A c tm := by
  have hb : Below w.heap.size w ((w.alloc (.cells #[.int .i64 l.teams, .slice A l.games.length c] 32)).alloc (.cells #[.int .i64 tm] 3)) := ((Below.refl _ _).alloc (Nat.le_refl _) _).alloc (by simp) _
  have HE : Hid (OfSt ((w.alloc (.cells #[.int .i64 l.teams, .slice A l.games.length c] 32)).alloc (.cells #[.int .i64 tm] 3)) w.heap.size B l A c tm) := ⟨by go_simp, by go_simp, by go_simp, hg.below (hb.mono hB), hB⟩
  have HB := Lib.hid hb
  clear hb hg
  go_enter Try.func109, Try.ntmps109
  go_wp2
  go_ret
  exact ⟨rfl, HB.out, by simp, HE.out⟩
theorem undef_bool {b : Bool} (h : some undef = some (Value.bool b)) : False := by
  unfold undef at h
  cases h
set_option maxRecDepth 100000 in
set_option maxHeartbeats 8000000 in
theorem of1_in (n lb q B : Nat) (l : Lg) (A : Option Addr) (c : Nat) (tm : Int) (hv : Valid l) (n₀ : Nat) (Kp : World → World → Prop) (hKt : ∀ {A B C : World}, Kp A B → Kp B C → Kp A C) (hKb : ∀ A B : World, n₀ ≤ A.heap.size → Below A.heap.size A B → Kp A B) (hKz : ∀ A B : World, Kp A B → A.heap.size ≤ B.heap.size)
    (hKc : ∀ W W', Kp W W' → OfSt W q B l A c tm → OfSt W' q B l A c tm) (hKn : ∀ W W' b o v, Kp W W' → n₀ ≤ b → b < W.heap.size → W.cell? ⟨b, o, none⟩ = some v → W'.cell? ⟨b, o, none⟩ = some v) (J Jx : List (OfX l tm) → World → Prop) (hJb : ∀ pre W W', J pre W → Below W.heap.size W W' → J pre W')
    (hY : ∀ pre x W, J pre W → pre.length < 100 → YieldAt Fence.wide (n - 1) Try.prog lb (oEnc x) W fun e W' =>
      (e = .returned (.bool true) ∧ J (pre ++ [x]) W' ∧ Kp W W') ∨ (e = .returned (.bool false) ∧ Jx (pre ++ [x]) W'))
    (W : World) (hn : n₀ ≤ W.heap.size) (hS : OfSt W q B l A c tm) (h0 : J [] W) :
    CallsIn Fence.wide n Try.prog 113 #[.func (.yield lb) #[] #[], .pointer (some ⟨q, 0, none⟩), .pointer (some ⟨q + 1, 0, none⟩)] W fun e W' => (∃ v, e = .returned v) ∧
      ((∃ ys, ys = ofL hv tm l.games.length ∧ J ys W') ∨ (∃ pre, True ∧ Jx pre W')) := by
  refine callsIn_of_wp Try.func113 rfl trivial ?_ rfl
  simp only [Try.ntmps113, List.size_toArray, List.length_cons, List.length_nil, Nat.reduceAdd, Nat.reduceSub, Array.replicate_succ, Array.replicate_zero, List.push_toArray, List.append_toArray, List.nil_append, List.cons_append]
  have HS := Lib.hid hS
  have s1 := hS.h1
  have hl20 := hv.len
  clear hS
  gi_wp2
  clear s1
  gi_loopw [11] (fun i wr => ∃ k : Nat, k ≤ l.games.length ∧ i = .int .i64 (k : Int) ∧ J (ofL hv tm k) wr ∧ Kp W wr)
    (fun i _ => (l.games.length - (intOf i).toNat))
  case atStart => exact ⟨0, by omega, rfl, h0, hKb _ _ hn (Below.refl _ _)⟩
  case round =>
    obtain ⟨k, hk, rfl, hJ, hK⟩ := hrel
    have HJ := Lib.hid hJ
    have HK := Lib.hid hK
    have hnr : n₀ ≤ wr.heap.size := Nat.le_trans hn (hKz _ _ hK)
    have HS4 := Lib.hid (hKc _ _ hK HS.out)
    clear hJ hK
    by_cases hk1 : k < l.games.length
    · have hki : (k : Int) < (l.games.length : Int) := by omega
      obtain ⟨b, off, rfl, hb0, c1, c2, c3, c4, c5⟩ := HS4.out.gm.at_ hk1
      have hlen : (ofL hv tm k).length < 100 := by have := ofL_len hv tm k; omega
      have HYa := Lib.hid (fun (h : (gmx l.games k).a = tm) => ofL_a hv tm hk1 h)
      have HYb := Lib.hid (fun (h : ¬ (gmx l.games k).a = tm ∧ (gmx l.games k).b = tm) => ofL_b hv tm hk1 h.1 h.2)
      have HYn := Lib.hid (fun (h : ¬ (gmx l.games k).a = tm ∧ ¬ (gmx l.games k).b = tm) => ofL_no hv tm hk1 h.1 h.2)
      have hgn := (hv.at hk1).ne
      have HGI := Lib.hid (fun W => gives95_c (gmx l.games k) W)
      unfold gmV at HGI
      generalize gA (gmx l.games k) = pA at *
      generalize gB (gmx l.games k) = pB at *
      obtain ⟨gg, hgg⟩ : ∃ gg, gg = gmx l.games k := ⟨_, rfl⟩
      rw [← hgg] at c1 c2 c3 c4 c5 HYa HYb HYn hgn HGI
      clear hgg
      obtain ⟨ga, gb, gpa, gpb, gop⟩ := gg
      dsimp only at c1 c2 c3 c4 c5 HYa HYb HYn hgn HGI
      have hb6 : Below wr.heap.size wr (wr.alloc (.cells #[.int .i64 ga, .int .i64 gb, .int .i64 gpa, .int .i64 gpb, .bool gop] 85)) := (Below.refl _ _).alloc (Nat.le_refl _) _
      have HB6 := Lib.hid hb6
      have hgq : wr.heap.size < (wr.alloc (.cells #[.int .i64 ga, .int .i64 gb, .int .i64 gpa, .int .i64 gpb, .bool gop] 85)).heap.size := by simp
      have v0 : (wr.alloc (.cells #[.int .i64 ga, .int .i64 gb, .int .i64 gpa, .int .i64 gpb, .bool gop] 85)).cell? ⟨wr.heap.size, 0, none⟩ = some (.int .i64 ga) := by simp
      have v1 : (wr.alloc (.cells #[.int .i64 ga, .int .i64 gb, .int .i64 gpa, .int .i64 gpb, .bool gop] 85)).cell? ⟨wr.heap.size, 1, none⟩ = some (.int .i64 gb) := by simp
      have v2 : (wr.alloc (.cells #[.int .i64 ga, .int .i64 gb, .int .i64 gpa, .int .i64 gpb, .bool gop] 85)).cell? ⟨wr.heap.size, 2, none⟩ = some (.int .i64 gpa) := by simp
      have v3 : (wr.alloc (.cells #[.int .i64 ga, .int .i64 gb, .int .i64 gpa, .int .i64 gpb, .bool gop] 85)).cell? ⟨wr.heap.size, 3, none⟩ = some (.int .i64 gpb) := by simp
      have v4 : (wr.alloc (.cells #[.int .i64 ga, .int .i64 gb, .int .i64 gpa, .int .i64 gpb, .bool gop] 85)).cell? ⟨wr.heap.size, 4, none⟩ = some (.bool gop) := by simp
      clear hb6
      gi_wp2
      refine ⟨trivial, fun h => by simp [Fence.wide] at h, (callsIn_wide.2 (HGI.out _)).mono ?_⟩
      rintro e w5 ⟨rfl, hb5⟩
      have HB5 : Hid (Below wr.heap.size wr w5) := HB6.out.trans (hb5.mono HB6.out.size)
      have hq5 : wr.heap.size < w5.heap.size := Nat.lt_of_lt_of_le hgq hb5.size
      replace v0 := cell_of_ans hb5 v0
      replace v1 := cell_of_ans hb5 v1
      replace v2 := cell_of_ans hb5 v2
      replace v3 := cell_of_ans hb5 v3
      replace v4 := cell_of_ans hb5 v4
      have HK5 : Hid (Kp W w5) := hKt HK.out (hKb _ _ hnr HB5.out)
      have HJ5 := Lib.hid (hJb _ _ _ HJ.out HB5.out)
      have sT := (hKc _ _ HK5.out HS.out).tm
      have HKC : Hid (∀ W3, Kp w5 W3 → W3.cell? ⟨wr.heap.size, 0, none⟩ = some (.int .i64 ga) ∧ W3.cell? ⟨wr.heap.size, 1, none⟩ = some (.int .i64 gb)) := fun W3 hk => ⟨hKn _ _ _ _ _ hk hnr hq5 v0, hKn _ _ _ _ _ hk hnr hq5 v1⟩
      clear hb5 c1 c2 c3 c4 c5 hgq HGI HS4
      by_cases ea : ga = tm
      · have e1 : (ga == tm) = true := by simp [ea]
        have e2 : (gb == tm) = false := by rw [← ea]; simp; exact fun h => hgn h.symm
        have EAB : ga = tm := ea
        obtain ⟨ex, hex, hof⟩ := HYa.out EAB
        have HOFL := Lib.hid hof
        obtain ⟨fn, tmps, assign, body, hy, hR⟩ := hY _ ex w5 HJ5.out hlen
        unfold oEnc at hy
        rw [hex] at hy
        unfold gmV sideV at hy
        dsimp only at hy
        simp only [ea] at hy
        have HR := Lib.hid hR
        clear hR hof hex
        gi_wp2
        refine ⟨fun h => by simp [Fence.wide] at h, ?_⟩
        refine HR.out.mono ?_
        rintro e W3 (⟨rfl, hJ3, hk3⟩ | ⟨rfl, hJx3⟩)
        · have HJ3 := Lib.hid hJ3
          obtain ⟨v0, v1⟩ := HKC.out W3 hk3
          have HK9 : Hid (Kp W W3) := hKt HK5.out hk3
          have sT := (hKc _ _ HK9.out HS.out).tm
          clear hJ3 hk3
          gi_wp2
          refine ⟨(fun _ h => by cases h), ?_⟩
          gi_wp2
          refine ⟨⟨k + 1, by omega, by go_num, by rw [HOFL.out]; exact HJ3.out, HK9.out⟩, by simp [intOf]; omega⟩
        · have HJX := Lib.hid hJx3
          clear hJx3
          gi_wp2
          any_goals (exact (undef_bool ‹some undef = some (Value.bool _)›).elim)
          refine ⟨(fun _ h => by cases h), ?_⟩
          gi_wp2
          refine bodyPost_ret (results_none rfl _ _ _) rfl ?_
          exact ⟨⟨_, rfl⟩, .inr ⟨_, trivial, HJX.out⟩⟩
      · have e1 : (ga == tm) = false := by simp [ea]
        by_cases eb : gb = tm
        · have e2 : (gb == tm) = true := by simp [eb]
          have EAB : ¬ ga = tm ∧ gb = tm := ⟨ea, eb⟩
          obtain ⟨ex, hex, hof⟩ := HYb.out EAB
          have HOFL := Lib.hid hof
          obtain ⟨fn, tmps, assign, body, hy, hR⟩ := hY _ ex w5 HJ5.out hlen
          unfold oEnc at hy
          rw [hex] at hy
          unfold gmV sideV at hy
          dsimp only at hy
          simp only [eb] at hy
          have HR := Lib.hid hR
          clear hR hof hex
          gi_wp2
          refine ⟨(fun _ h => by cases h), ?_⟩
          gi_wp2
          refine ⟨fun h => by simp [Fence.wide] at h, ?_⟩
          refine HR.out.mono ?_
          rintro e W3 (⟨rfl, hJ3, hk3⟩ | ⟨rfl, hJx3⟩)
          · have HJ3 := Lib.hid hJ3
            obtain ⟨v0, v1⟩ := HKC.out W3 hk3
            have HK9 : Hid (Kp W W3) := hKt HK5.out hk3
            have sT := (hKc _ _ HK9.out HS.out).tm
            clear hJ3 hk3
            gi_wp2
            refine ⟨⟨k + 1, by omega, by go_num, by rw [HOFL.out]; exact HJ3.out, HK9.out⟩, by simp [intOf]; omega⟩
          · have HJX := Lib.hid hJx3
            clear hJx3
            gi_wp2
            refine bodyPost_ret (results_none rfl _ _ _) rfl ?_
            exact ⟨⟨_, rfl⟩, .inr ⟨_, trivial, HJX.out⟩⟩
        · have e2 : (gb == tm) = false := by simp [eb]
          have HNX := Lib.hid (HYn.out ⟨ea, eb⟩)
          clear HYa HYb HYn hgn ea eb
          gi_wp2
          refine ⟨(fun _ h => by cases h), ?_⟩
          gi_wp2
          refine ⟨⟨k + 1, by omega, by go_num, by rw [HNX.out]; exact HJ5.out, HK5.out⟩, by simp [intOf]; omega⟩
    · have hke : k = l.games.length := by omega
      subst hke
      gi_wp2
      refine bodyPost_end (v := .tuple #[]) (results_none rfl _ _ _) rfl ?_
      exact ⟨⟨_, rfl⟩, .inl ⟨_, rfl, HJ.out⟩⟩

theorem of_stops (n q B : Nat) (l : Lg) (A : Option Addr) (c : Nat) (tm : Int) (hv : Valid l) (n₀ : Nat) (Kp : World → World → Prop) (hKt : ∀ {A B C : World}, Kp A B → Kp B C → Kp A C) (hKb : ∀ A B : World, n₀ ≤ A.heap.size → Below A.heap.size A B → Kp A B) (hKz : ∀ A B : World, Kp A B → A.heap.size ≤ B.heap.size)
    (hKc : ∀ W W', Kp W W' → OfSt W q B l A c tm → OfSt W' q B l A c tm) (hKn : ∀ W W' b o v, Kp W W' → n₀ ≤ b → b < W.heap.size → W.cell? ⟨b, o, none⟩ = some v → W'.cell? ⟨b, o, none⟩ = some v) (w : World) (hn : n₀ ≤ w.heap.size) (hS : OfSt w q B l A c tm) :
    SeqStopsK Fence.wide n Try.prog 113 #[.pointer (some ⟨q, 0, none⟩), .pointer (some ⟨q + 1, 0, none⟩)] oEnc Kp (fun ys => ys = ofL hv tm l.games.length) (fun _ => True) 100 w :=
  fun lb J Jx W hW hJ _ hY h0 => of1_in n lb q B l A c tm hv n₀ Kp hKt hKb hKz hKc hKn J Jx (fun pre W W' h hb => hJ pre W W' none h (only_below hb none) (fun _ e => by cases e)) hY W (Nat.le_trans hn hW.size) (hS.below hW) h0
end

section

open Go.RowKit
set_option linter.unusedSimpArgs false
set_option linter.unusedVariables false

attribute [local go_sem] Oper.semAt_some
theorem hasI_at {xs : List Int} {n : Int} {k : Nat} (h : k < xs.length) (he : ix xs k = n) : hasI xs n = true := by
  rw [ix_lt h] at he
  exact decide_eq_true (he ▸ List.getElem_mem h)
theorem hasI_no {xs : List Int} {n : Int} (h : ∀ j, j < xs.length → ix xs j ≠ n) : hasI xs n = false := by
  refine decide_eq_false fun ht => ?_
  obtain ⟨j, hj, e⟩ := List.getElem_of_mem ht
  exact h j hj (by rw [ix_lt hj]; exact e)
def FoundI (w : World) (xs : List Int) (n : Int) (e : Ending) (w' : World) : Prop := (∃ k : Nat, e = .returned (.int .i64 (k : Int)) ∧ hasI xs n = true ∧ w = w') ∨ (e = .returned (.int .i64 (-1)) ∧ hasI xs n = false ∧ w = w')

set_option maxHeartbeats 1000000 in
theorem index104 {B : Nat} (A : Option Addr) (c : Nat) (xs : List Int) (n : Int) (w : World) (h : Ints B w A xs) (_hc : xs.length ≤ c ∧ c ≤ 9223372036854775807) :
    Calls Try.prog 104 #[.slice A xs.length c, .int .i64 n] w (FoundI w xs n) := by
  have HI := Lib.hid h
  clear h
  go_enter Try.func104, Try.ntmps104
  go_wp2_with fail
  go_loop [8] (fun i => ∃ k : Nat, k ≤ xs.length ∧ i = .int .i64 k ∧ ∀ j, j < k → ix xs j ≠ n) (fun i => xs.length - (intOf i).toNat)
  case atStart => exact ⟨0, by omega, rfl, fun j hj => by omega⟩
  case round =>
    obtain ⟨k, hk, rfl, hn⟩ := hrel
    have HN := Lib.hid hn
    clear hn
    by_cases h1 : k < xs.length
    · have h1i : (k : Int) < (xs.length : Int) := by omega
      obtain ⟨b, off, rfl, _, c1⟩ := HI.out.at_ h1
      obtain ⟨x, hx⟩ : ∃ x, x = ix xs k := ⟨_, rfl⟩
      rw [← hx] at c1
      have HX := Lib.hid hx
      clear hx
      by_cases he : n = x
      · have heb : (n == x) = true := by simp [he]
        have HY : Hid (hasI xs n = true) := hasI_at h1 (by rw [← HX.out, he])
        clear he
        go_wp2_with fail
        go_ret
        exact .inl ⟨k, rfl, HY.out, rfl⟩
      · have heb : (n == x) = false := by simp [he]
        have HNE : Hid (ix xs k ≠ n) := fun e => he (by rw [HX.out, e])
        clear he
        go_wp2_with fail
        go_round
        case rel =>
          refine ⟨k + 1, by omega, by go_num, fun j hj => ?_⟩
          by_cases e : j = k
          · subst e; exact HNE.out
          · exact HN.out j (by omega)
        case measure => simp [intOf]; omega
    · have h1i : ¬ (k : Int) < (xs.length : Int) := by omega
      have HNO : Hid (hasI xs n = false) := hasI_no fun j hj => HN.out j (by omega)
      go_wp2_with fail
      go_ret
      exact .inr ⟨rfl, HNO.out, rfl⟩

set_option maxHeartbeats 400000 in
theorem contains75 {B : Nat} (A : Option Addr) (c : Nat) (xs : List Int) (n : Int) (w : World) (h : Ints B w A xs) (hc : xs.length ≤ c ∧ c ≤ 9223372036854775807) :
    Calls Try.prog 75 #[.slice A xs.length c, .int .i64 n] w (Same w (.bool (hasI xs n))) := by
  have H := Lib.hid (index104 A c xs n w h hc)
  clear h
  go_enter Try.func75, Try.ntmps75
  go_wp2_with fail
  refine H.out.mono ?_
  rintro e w1 (⟨k, rfl, hk, rfl⟩ | ⟨rfl, hk, rfl⟩)
  · go_wp2_with fail
    go_ret
    exact ⟨ret_bool (by rw [hk]), rfl⟩
  · go_wp2_with fail
    go_ret
    exact ⟨ret_bool (by rw [hk]), rfl⟩

set_option maxHeartbeats 400000 in
theorem rule88_c {B : Nat} (A : Option Addr) (c : Nat) (grp : List Int) (x : Int × Int × Int) (w : World) (hg : Ints B w A grp) (hc : grp.length ≤ c ∧ c ≤ 9223372036854775807) (hx : 0 ≤ x.2.1 ∧ x.2.1 ≤ 2) (hB : B ≤ w.heap.size) :
    Calls Try.prog 88 #[sideV x, .slice A grp.length c] w (Ans w (.int .i64 (ruV 1 (hasI grp) x.1 x.2.1 x.2.2))) := by
  obtain ⟨o, p, q⟩ := x
  unfold sideV
  dsimp only at hx ⊢
  have hb : Below w.heap.size w (w.alloc (.cells #[.int .i64 o, .int .i64 p, .int .i64 q] 128)) := (Below.refl _ _).alloc (Nat.le_refl _) _
  have HB := Lib.hid hb
  clear hb hg
  go_enter Try.func88, Try.ntmps88
  go_wp2
  go_ret
  exact ⟨by simp [ruV], HB.out⟩
set_option maxHeartbeats 400000 in
theorem rule89_c {B : Nat} (A : Option Addr) (c : Nat) (grp : List Int) (x : Int × Int × Int) (w : World) (hg : Ints B w A grp) (hc : grp.length ≤ c ∧ c ≤ 9223372036854775807) (hx : 0 ≤ x.2.1 ∧ x.2.1 ≤ 2) (hB : B ≤ w.heap.size) :
    Calls Try.prog 89 #[sideV x, .slice A grp.length c] w (Ans w (.int .i64 (ruV 2 (hasI grp) x.1 x.2.1 x.2.2))) := by
  obtain ⟨o, p, q⟩ := x
  unfold sideV
  dsimp only at hx ⊢
  have hb : Below w.heap.size w (w.alloc (.cells #[.int .i64 o, .int .i64 p, .int .i64 q] 128)) := (Below.refl _ _).alloc (Nat.le_refl _) _
  have HB := Lib.hid hb
  clear hb hg
  have e1 : p.tdiv 2 = p / 2 := Int.tdiv_eq_ediv_of_nonneg (by omega)
  have e2 : IntKind.i64.wrap (p / 2) = p / 2 := IntWalk.i64_in _ (by omega)
  go_enter Try.func89, Try.ntmps89
  go_wp2
  go_ret
  exact ⟨by simp [ruV, e1, e2], HB.out⟩
set_option maxHeartbeats 400000 in
theorem rule90_c {B : Nat} (A : Option Addr) (c : Nat) (grp : List Int) (x : Int × Int × Int) (w : World) (hg : Ints B w A grp) (hc : grp.length ≤ c ∧ c ≤ 9223372036854775807) (hx : 0 ≤ x.2.1 ∧ x.2.1 ≤ 2) (hB : B ≤ w.heap.size) :
    Calls Try.prog 90 #[sideV x, .slice A grp.length c] w (Ans w (.int .i64 (ruV 3 (hasI grp) x.1 x.2.1 x.2.2))) := by
  obtain ⟨o, p, q⟩ := x
  unfold sideV
  dsimp only at hx ⊢
  have hb : Below w.heap.size w (w.alloc (.cells #[.int .i64 o, .int .i64 p, .int .i64 q] 128)) := (Below.refl _ _).alloc (Nat.le_refl _) _
  have HB := Lib.hid hb
  have HC := Lib.hid (contains75 A c grp o _ (hg.below (hb.mono hB)) hc)
  have hcell : (w.alloc (.cells #[.int .i64 o, .int .i64 p, .int .i64 q] 128)).cell? ⟨w.heap.size, 1, none⟩ = some (.int .i64 p) := by simp
  clear hb hg
  cases e : hasI grp o
  all_goals rw [e] at HC
  · have HE := Lib.hid e
    clear e
    go_enter Try.func90, Try.ntmps90
    go_wp2_with fail
    refine HC.out.mono ?_
    rintro e w1 ⟨rfl, rfl⟩
    go_wp2_with fail
    go_ret
    exact ⟨by simp [ruV, HE.out], HB.out⟩
  · have HE := Lib.hid e
    clear e
    go_enter Try.func90, Try.ntmps90
    go_wp2_with fail
    refine HC.out.mono ?_
    rintro e w1 ⟨rfl, rfl⟩
    go_wp2_with fail
    go_ret
    exact ⟨by simp [ruV, HE.out], HB.out⟩
set_option maxHeartbeats 400000 in
theorem rule91_c {B : Nat} (A : Option Addr) (c : Nat) (grp : List Int) (x : Int × Int × Int) (w : World) (hg : Ints B w A grp) (hc : grp.length ≤ c ∧ c ≤ 9223372036854775807) (hx : 0 ≤ x.2.1 ∧ x.2.1 ≤ 2) (hB : B ≤ w.heap.size) :
    Calls Try.prog 91 #[sideV x, .slice A grp.length c] w (Ans w (.int .i64 (ruV 4 (hasI grp) x.1 x.2.1 x.2.2))) := by
  obtain ⟨o, p, q⟩ := x
  unfold sideV
  dsimp only at hx ⊢
  have hb : Below w.heap.size w (w.alloc (.cells #[.int .i64 o, .int .i64 p, .int .i64 q] 128)) := (Below.refl _ _).alloc (Nat.le_refl _) _
  have HB := Lib.hid hb
  clear hb hg
  go_enter Try.func91, Try.ntmps91
  go_wp2
  go_ret
  exact ⟨by simp [ruV], HB.out⟩
/-- A rule's function. -/
def ruF (code : Int) : Nat := if code = 1 then 88 else if code = 2 then 89 else if code = 3 then 90 else 91
def Code4 (code : Int) : Prop := code = 1 ∨ code = 2 ∨ code = 3 ∨ code = 4
theorem ruF_c {B : Nat} (code : Int) (h4 : Code4 code) (A : Option Addr) (c : Nat) (grp : List Int) (x : Int × Int × Int) (w : World) (hg : Ints B w A grp) (hc : grp.length ≤ c ∧ c ≤ 9223372036854775807) (hx : 0 ≤ x.2.1 ∧ x.2.1 ≤ 2) (hB : B ≤ w.heap.size) :
    Calls Try.prog (ruF code) #[sideV x, .slice A grp.length c] w (Ans w (.int .i64 (ruV code (hasI grp) x.1 x.2.1 x.2.2))) := by
  rcases h4 with rfl | rfl | rfl | rfl
  · exact rule88_c A c grp x w hg hc hx hB
  · exact rule89_c A c grp x w hg hc hx hB
  · exact rule90_c A c grp x w hg hc hx hB
  · exact rule91_c A c grp x w hg hc hx hB
theorem enters_ruF (code : Int) : Enters (ruF code) := by
  unfold ruF
  split
  · exact fun _ _ => enters_of Try.func88 (by kernel_rfl) rfl _ _
  · split
    · exact fun _ _ => enters_of Try.func89 (by kernel_rfl) rfl _ _
    · split
      · exact fun _ _ => enters_of Try.func90 (by kernel_rfl) rfl _ _
      · exact fun _ _ => enters_of Try.func91 (by kernel_rfl) rfl _ _
def ruleV (code : Int) : Value := .agg #[.func (.func (ruF code)) #[] #[]]
theorem results_cell1 {fn : Func} {p : Tmp} {ty : TypeId} {v : Value} (h : fn.results = #[.cell p ty]) (tmps : Array Value) (P : Program) (w : World) (a : Addr) (hp : tmps.getD p undef = .pointer (some a)) (hl : (loadVar ty a).run P w = .ok v w) :
    (results fn tmps).run P w = .ok v w := by
  have hp' : asAddr (tmps.getD p undef) = pure a := by rw [hp]; rfl
  rw [Array.getD_eq_getD_getElem?] at hp'
  simp only [results, h]
  simp [Sem.run_bind, Result.andThen, hp', hl]
set_option maxHeartbeats 400000 in
theorem rule56_c (code : Int) (h4 : Code4 code) (w : World) : Calls Try.prog 56 #[.int .u8 code] w (Ans w (ruleV code)) := by
  rcases h4 with rfl | rfl | rfl | rfl
  · go_enter Try.func56, Try.ntmps56
    go_wp2
    refine bodyPost_ret (results_cell1 (v := ruleV 1) rfl _ _ _ _ rfl ?_) rfl ?_
    · unfold ruleV ruF
      go_simp
    · exact ⟨rfl, (Below.refl _ _).alloc (Nat.le_refl _) _⟩
  · go_enter Try.func56, Try.ntmps56
    go_wp2
    refine bodyPost_ret (results_cell1 (v := ruleV 2) rfl _ _ _ _ rfl ?_) rfl ?_
    · unfold ruleV ruF
      go_simp
    · exact ⟨rfl, (Below.refl _ _).alloc (Nat.le_refl _) _⟩
  · go_enter Try.func56, Try.ntmps56
    go_wp2
    refine bodyPost_ret (results_cell1 (v := ruleV 3) rfl _ _ _ _ rfl ?_) rfl ?_
    · unfold ruleV ruF
      go_simp
    · exact ⟨rfl, (Below.refl _ _).alloc (Nat.le_refl _) _⟩
  · go_enter Try.func56, Try.ntmps56
    go_wp2
    refine bodyPost_ret (results_cell1 (v := ruleV 4) rfl _ _ _ _ rfl ?_) rfl ?_
    · unfold ruleV ruF
      go_simp
    · exact ⟨rfl, (Below.refl _ _).alloc (Nat.le_refl _) _⟩
/-- The greatest of a list's first k numbers. -/
def maxK (l : List Int) : Nat → Int
  | 0 => ix l 0
  | k + 1 => max (maxK l k) (ix l k)
set_option maxHeartbeats 1000000 in
theorem max100_c {B : Nat} (A : Option Addr) (c : Nat) (xs : List Int) (w : World) (h : Ints B w A xs) (hc : xs.length ≤ c ∧ c ≤ 9223372036854775807) (h1 : 1 ≤ xs.length) :
    Calls Try.prog 100 #[.slice A xs.length c] w (Same w (.int .i64 (maxK xs xs.length))) := by
  have HI := Lib.hid h
  obtain ⟨b, off, rfl, _, c1⟩ := h.at_ (k := 0) h1
  have hln : ¬ (xs.length : Int) < 1 := by omega
  rw [Nat.add_zero] at c1
  clear h
  go_enter Try.func100, Try.ntmps100
  go_wp2_with fail
  clear c1 hln
  go_loop [3, 4] (fun m i => ∃ k : Nat, 1 ≤ k ∧ k ≤ xs.length ∧ i = .int .i64 k ∧ m = .int .i64 (maxK xs k)) (fun _ i => xs.length - (intOf i).toNat)
  case atStart => exact ⟨1, by omega, h1, rfl, by simp [maxK]⟩
  case round =>
    obtain ⟨k, hk0, hk, rfl, rfl⟩ := hrel
    by_cases hk1 : k < xs.length
    · have h1i : (k : Int) < (xs.length : Int) := by omega
      obtain ⟨b', off', hA, _, c1⟩ := HI.out.at_ hk1
      cases hA
      have HM : Hid (maxK xs (k + 1) = if maxK xs k < ix xs k then ix xs k else maxK xs k) := by
        show _ = _
        simp only [maxK]
        split <;> omega
      generalize maxK xs k = m at *
      generalize ix xs k = x at *
      go_wp2_with fail
      go_round
      case rel => exact ⟨k + 1, by omega, by omega, by go_num, by rw [HM.out]⟩
      case measure => simp [intOf]; omega
    · obtain rfl : k = xs.length := by omega
      go_wp2_with fail
      go_ret
      exact ⟨rfl, rfl⟩
theorem great86_c {B : Nat} (A : Option Addr) (c : Nat) (xs : List Int) (w : World) (h : Ints B w A xs) (hc : xs.length ≤ c ∧ c ≤ 9223372036854775807) (h1 : 1 ≤ xs.length) :
    Calls Try.prog 86 #[.slice A xs.length c] w (Same w (.int .i64 (maxK xs xs.length))) := by
  have H := Lib.hid (max100_c A c xs w h hc h1)
  clear h
  go_enter Try.func86, Try.ntmps86
  go_wp2_with fail
  refine H.out.mono ?_
  rintro e w1 ⟨rfl, rfl⟩
  go_wp2_with fail
  go_ret
  exact ⟨rfl, rfl⟩
end

section

open Go.RowKit
set_option linter.unusedSimpArgs false
set_option linter.unusedVariables false

attribute [local go_sem] Oper.semAt_some
/-- The region number n of a piece of code. -/
def regionAt (n : Nat) : Code → Option Code
  | .region id ops d => if id = n then some (.region id ops d) else none
  | .seq a b => (regionAt n a).or (regionAt n b)
  | .cond _ a b => (regionAt n a).or (regionAt n b)
  | .block _ a => regionAt n a
  | .loop a => regionAt n a
  | .scope a => regionAt n a
  | .rangeFunc _ _ a b => (regionAt n a).or (regionAt n b)
  | _ => none
def bodyOf (f : Func) : Code := match f.body with
  | some c => c
  | none => .skip
theorem KpS.of_own {n₀ : Nat} {S : Nat → Prop} {A B : World} {row : Option Nat} (h : A.grownBy B row) (hr : ∀ q, row = some q → n₀ ≤ q ∧ ∃ o : Obj, A.heap[q]? = some o ∧ o.isCells = false) : KpS n₀ S A B :=
  ⟨h.size, h.os, h.tape, h.output, fun i x h0 h1 _ => (h.block i (Array.getElem?_eq_some_iff.1 h0).1 (fun e => by
    obtain ⟨h2, o, ho, hc⟩ := hr i e.symm
    rcases h1 with h1 | h1
    · omega
    · rw [ho] at h0; cases h0; rw [hc] at h1; cases h1)).trans h0⟩
/-- A box that holds a number. -/
def NumAt (W : World) (b : Nat) (v : Int) : Prop := W.heap[b]? = some (.cells #[.int .i64 v] 3)
theorem NumAt.cell {W : World} {b : Nat} {v : Int} (h : NumAt W b v) : W.cell? ⟨b, 0, none⟩ = some (.int .i64 v) ∧ W.frozen? ⟨b, 0, none⟩ = false := by
  unfold NumAt at h
  simp [World.cell?, World.frozen?, h]
theorem NumAt.lt {W : World} {b : Nat} {v : Int} (h : NumAt W b v) : b < W.heap.size := (Array.getElem?_eq_some_iff.1 h).1
theorem NumAt.step {W W' : World} {b : Nat} {v : Int} (h : NumAt W b v) (hb : Below W.heap.size W W') : NumAt W' b v := (hb.block b h.lt).trans h
theorem NumAt.set {W : World} {b : Nat} {v : Int} (h : NumAt W b v) (x : Int) : NumAt (W.setCell ⟨b, 0, none⟩ (.int .i64 x)) b x := by
  unfold NumAt at h ⊢
  simp [World.setCell, Array.getElem?_modify, h]
theorem NumAt.own {W W' : World} {q B : Nat} {v : Int} {row : Option Nat} (h : NumAt W q v) (hg : W.grownBy W' row) (hrow : ∀ r, row = some r → B ≤ r ∧ ∃ o : Obj, W.heap[r]? = some o ∧ o.isCells = false) : NumAt W' q v := (hg.block q h.lt (fun e => by
    obtain ⟨_, ob, ho, hno⟩ := hrow _ e.symm
    rw [show W.heap[q]? = _ from h] at ho
    cases ho
    cases hno)).trans h
/-- A box that holds what a game is for a team. -/
def SideAt (W : World) (b : Nat) (x : Int × Int × Int) : Prop := W.heap[b]? = some (.cells #[.int .i64 x.1, .int .i64 x.2.1, .int .i64 x.2.2] 128)
theorem SideAt.cells {W : World} {b : Nat} {x : Int × Int × Int} (h : SideAt W b x) : W.cell? ⟨b, 0, none⟩ = some (.int .i64 x.1) ∧ W.cell? ⟨b, 1, none⟩ = some (.int .i64 x.2.1) ∧ W.cell? ⟨b, 2, none⟩ = some (.int .i64 x.2.2) := by
  unfold SideAt at h
  simp [World.cell?, h]
theorem SideAt.lt {W : World} {b : Nat} {x : Int × Int × Int} (h : SideAt W b x) : b < W.heap.size := (Array.getElem?_eq_some_iff.1 h).1
theorem SideAt.step {W W' : World} {b : Nat} {x : Int × Int × Int} (h : SideAt W b x) (hb : Below W.heap.size W W') : SideAt W' b x := (hb.block b h.lt).trans h
theorem SideAt.own {W W' : World} {q B : Nat} {v : Int × Int × Int} {row : Option Nat} (h : SideAt W q v) (hg : W.grownBy W' row) (hrow : ∀ r, row = some r → B ≤ r ∧ ∃ o : Obj, W.heap[r]? = some o ∧ o.isCells = false) : SideAt W' q v := (hg.block q h.lt (fun e => by
    obtain ⟨_, ob, ho, hno⟩ := hrow _ e.symm
    rw [show W.heap[q]? = _ from h] at ho
    cases ho
    cases hno)).trans h
set_option maxRecDepth 100000 in
set_option maxHeartbeats 8000000 in
theorem num_reg3 {l0 m : Nat} {cd : Code} {u0 u1 u2 u3 u6 u9 u11 u12 u13 u14 u15 u16 u17 u18 u19 u20 u21 u22 u23 u24 : Value} {ds : List Deferred} {Q : Exit → Act → World → Prop} {wz : World} {tb rb gb vb xb f cg : Nat} {Ag : Option Addr} {grp : List Int} {x : Int × Int × Int} {s r : Int} (hcd : regionAt 3 (bodyOf Try.f87) = some cd) (hout : ¬ LetsOut Q) (hQ : ∀ (ch : List PanicEntry) (a a' : Act) (w : World), Q (.panic ch) a w → Q (.panic ch) a' w)
    (he : Enters f) (hV : NumAt wz vb s) (hX : SideAt wz xb x) (hR : wz.cell? ⟨rb, 0, none⟩ = some (.func (.func f) #[] #[])) (hG : wz.cell? ⟨gb, 0, none⟩ = some (.slice Ag grp.length cg)) (hc : ∀ W, Below wz.heap.size wz W → Calls Try.prog f #[sideV x, .slice Ag grp.length cg] W (Ans W (.int .i64 r))) (hw : IntKind.i64.wrap (s + r) = s + r)
    (h : ∀ W : World, (∃ Wm, Below wz.heap.size wz Wm ∧ W = Wm.setCell ⟨vb, 0, none⟩ (.int .i64 (s + r))) → Q .normal { tmps := #[u0, u1, u2, u3, .pointer (some ⟨tb, 0, none⟩), .pointer (some ⟨rb, 0, none⟩), u6, .pointer (some ⟨gb, 0, none⟩), .pointer (some ⟨vb, 0, none⟩), u9, .pointer (some ⟨xb, 0, none⟩), u11, u12, u13, u14, u15, u16, .int .i64 s, .pointer (some ⟨rb, 0, none⟩), .func (.func f) #[] #[], .agg #[.int .i64 x.1, .int .i64 x.2.1, .int .i64 x.2.2], .slice Ag grp.length cg, .int .i64 r, .int .i64 (s + r), u24], defers := ds } W) :
    cd.wpIn (Fence.wide.inRound l0) m Try.prog Q { tmps := #[u0, u1, u2, u3, .pointer (some ⟨tb, 0, none⟩), .pointer (some ⟨rb, 0, none⟩), u6, .pointer (some ⟨gb, 0, none⟩), .pointer (some ⟨vb, 0, none⟩), u9, .pointer (some ⟨xb, 0, none⟩), u11, u12, u13, u14, u15, u16, u17, u18, u19, u20, u21, u22, u23, u24], defers := ds } wz := by
  try dsimp only at h
  simp only [bodyOf, Try.f87, regionAt, Option.or, Nat.reduceEqDiff, if_true, if_false, Option.some.injEq, reduceIte] at hcd
  subst hcd
  unfold Enters at he
  have HH := Lib.hid h
  clear h
  have HV := Lib.hid hV
  have HX := Lib.hid hX
  have HR := Lib.hid hR
  have HG := Lib.hid hG
  have HCC := Lib.hid hc
  have HW := Lib.hid hw
  clear hV hX hR hG hc hw
  unfold sideV at HCC
  refine round_T (fun W => Below wz.heap.size wz W) 7 (by kernel_rfl) (by kernel_rfl) hout (Below.refl _ _).drew (fun hS => ?_)
  refine' T_take (i := 0) (v := _) rfl (by kernel_rfl) (by kernel_rfl) (by kernel_rfl) (by kernel_rfl) (fun _ _ _ h => hQ _ _ _ _ h) (by rfl) hS ?_ ?_
  rotate_left 1
  · intro Wv hW
    obtain ⟨p0, -⟩ := (HV.out.step hW).cell
    obtain ⟨q0, q1, q2⟩ := (HX.out.step hW).cells
    have r0 := cell_of_ans hW HR.out
    have g0 := cell_of_ans hW HG.out
    have e1 := HW.out
    go_simp
    first | done | with_reducible rfl
  try simp only [Act.put, List.setIfInBounds_toArray, List.set_cons_zero, List.set_cons_succ]
  refine' T_take (i := 1) (v := _) rfl (by kernel_rfl) (by kernel_rfl) (by kernel_rfl) (by kernel_rfl) (fun _ _ _ h => hQ _ _ _ _ h) (by rfl) hS ?_ ?_
  rotate_left 1
  · intro Wv hW
    obtain ⟨p0, -⟩ := (HV.out.step hW).cell
    obtain ⟨q0, q1, q2⟩ := (HX.out.step hW).cells
    have r0 := cell_of_ans hW HR.out
    have g0 := cell_of_ans hW HG.out
    have e1 := HW.out
    go_simp
    first | done | with_reducible rfl
  try simp only [Act.put, List.setIfInBounds_toArray, List.set_cons_zero, List.set_cons_succ]
  refine' T_take (i := 2) (v := _) rfl (by kernel_rfl) (by kernel_rfl) (by kernel_rfl) (by kernel_rfl) (fun _ _ _ h => hQ _ _ _ _ h) (by rfl) hS ?_ ?_
  rotate_left 1
  · intro Wv hW
    obtain ⟨p0, -⟩ := (HV.out.step hW).cell
    obtain ⟨q0, q1, q2⟩ := (HX.out.step hW).cells
    have r0 := cell_of_ans hW HR.out
    have g0 := cell_of_ans hW HG.out
    have e1 := HW.out
    go_simp
    first | done | with_reducible rfl
  try simp only [Act.put, List.setIfInBounds_toArray, List.set_cons_zero, List.set_cons_succ]
  refine' T_take (i := 3) (v := _) rfl (by kernel_rfl) (by kernel_rfl) (by kernel_rfl) (by kernel_rfl) (fun _ _ _ h => hQ _ _ _ _ h) (by rfl) hS ?_ ?_
  rotate_left 1
  · intro Wv hW
    obtain ⟨p0, -⟩ := (HV.out.step hW).cell
    obtain ⟨q0, q1, q2⟩ := (HX.out.step hW).cells
    have r0 := cell_of_ans hW HR.out
    have g0 := cell_of_ans hW HG.out
    have e1 := HW.out
    go_simp
    first | done | with_reducible rfl
  try simp only [Act.put, List.setIfInBounds_toArray, List.set_cons_zero, List.set_cons_succ]
  refine' T_take (i := 4) (v := _) rfl (by kernel_rfl) (by kernel_rfl) (by kernel_rfl) (by kernel_rfl) (fun _ _ _ h => hQ _ _ _ _ h) (by rfl) hS ?_ ?_
  rotate_left 1
  · intro Wv hW
    obtain ⟨p0, -⟩ := (HV.out.step hW).cell
    obtain ⟨q0, q1, q2⟩ := (HX.out.step hW).cells
    have r0 := cell_of_ans hW HR.out
    have g0 := cell_of_ans hW HG.out
    have e1 := HW.out
    go_simp
    first | done | with_reducible rfl
  try simp only [Act.put, List.setIfInBounds_toArray, List.set_cons_zero, List.set_cons_succ]
  refine T_ready (rs := [5]) (by kernel_rfl) (by simp) ?_
  refine TReady.cons rfl (fun K hK => ?_) TReady.nil
  try go_simp
  refine (HCC.out _ hS).mono ?_
  rintro e w4 ⟨rfl, hb⟩
  try go_simp
  have hS2 : Below wz.heap.size wz w4 := hS.trans (hb.mono hS.size)
  refine hK.out _ _ (fun _ => hS2) (fun _ => ?_)
  clear hK K hS hb
  replace hS := hS2
  clear hS2
  try simp only [Act.put, List.setIfInBounds_toArray, List.set_cons_zero, List.set_cons_succ]
  refine' T_take (i := 6) (v := _) rfl (by kernel_rfl) (by kernel_rfl) (by kernel_rfl) (by kernel_rfl) (fun _ _ _ h => hQ _ _ _ _ h) (by rfl) hS ?_ ?_
  rotate_left 1
  · intro Wv hW
    obtain ⟨p0, -⟩ := (HV.out.step hW).cell
    obtain ⟨q0, q1, q2⟩ := (HX.out.step hW).cells
    have r0 := cell_of_ans hW HR.out
    have g0 := cell_of_ans hW HG.out
    have e1 := HW.out
    go_simp
    first | done | with_reducible rfl
  try simp only [Act.put, List.setIfInBounds_toArray, List.set_cons_zero, List.set_cons_succ]
  refine T_ready (rs := [7]) (by kernel_rfl) (by simp) ?_
  refine TReady.cons rfl (fun K hK => ?_) TReady.nil
  obtain ⟨p0, p1⟩ := (HV.out.step hS).cell
  try go_simp
  refine hK.out _ _ (fun h => absurd h (by decide)) (fun _ => ?_)
  try simp only [Act.put, List.setIfInBounds_toArray, List.set_cons_zero, List.set_cons_succ]
  refine T_done (by kernel_rfl) ?_ _
  have e1 := HW.out
  first | exact HH.out _ ⟨_, hS, rfl⟩ | (rw [e1]; exact HH.out _ ⟨_, hS, rfl⟩)
/-- What a rule gives over some of a team's games. -/
def sumO {l : Lg} {tm : Int} (code : Int) (grp : Int → Bool) (pre : List (OfX l tm)) : Int := (pre.map fun y => ruV code grp y.1.2.1 y.1.2.2.1 y.1.2.2.2).sum
theorem sumO_snoc {l : Lg} {tm : Int} {code : Int} {grp : Int → Bool} {pre : List (OfX l tm)} {x : OfX l tm} : sumO code grp (pre ++ [x]) = sumO code grp pre + ruV code grp x.1.2.1 x.1.2.2.1 x.1.2.2.2 := by
  unfold sumO
  rw [List.map_append, List.sum_append]
  simp
theorem OfX.rng {l : Lg} {tm : Int} (x : OfX l tm) : 0 ≤ x.1.2.2.1 ∧ x.1.2.2.1 ≤ 2 ∧ 0 ≤ x.1.2.2.2 ∧ x.1.2.2.2 ≤ 3000 := by
  obtain ⟨⟨g, o, p, q⟩, hg, h⟩ := x
  have := g_range g
  have := hg.pa0; have := hg.pa1; have := hg.pb0; have := hg.pb1
  rcases h with ⟨_, h⟩ | ⟨_, h⟩
  all_goals
    simp only [Prod.mk.injEq] at h ⊢
    simp only at *
    obtain ⟨h1, h2, h3⟩ := h
    subst h1 h2 h3
    omega
theorem ru_rng {code : Int} {grp : Int → Bool} {o p q : Int} (h : 0 ≤ p ∧ p ≤ 2 ∧ 0 ≤ q ∧ q ≤ 3000) : 0 ≤ ruV code grp o p q ∧ ruV code grp o p q ≤ 3000 := by
  unfold ruV
  repeat' split
  all_goals omega
theorem sumO_rng {l : Lg} {tm : Int} {code : Int} {grp : Int → Bool} (pre : List (OfX l tm)) : 0 ≤ sumO code grp pre ∧ sumO code grp pre ≤ 3000 * pre.length := by
  unfold sumO
  induction pre with
  | nil => simp
  | cons x xs ih =>
    have := ru_rng (code := code) (grp := grp) (o := x.1.2.1) x.rng
    simp only [List.map_cons, List.sum_cons, List.length_cons]
    omega
theorem ofL_sum {l : Lg} (hv : Valid l) (tm code : Int) (grp : Int → Bool) : ∀ k, k ≤ l.games.length → sumO code grp (ofL hv tm k) = numS code grp tm (l.games.take k)
  | 0, _ => by simp [ofL, sumO, numS]
  | k + 1, h => by
    have ih := ofL_sum hv tm code grp k (by omega)
    have hk : k < l.games.length := by omega
    have hne := (hv.at hk).ne
    rw [numS_take hk, ← ih]
    by_cases ha : (gmx l.games k).a = tm
    · obtain ⟨ex, hex, hof⟩ := ofL_a hv tm hk ha
      rw [hof, sumO_snoc, hex, vG, if_neg (by omega), if_pos ha]
    · by_cases hb : (gmx l.games k).b = tm
      · obtain ⟨ex, hex, hof⟩ := ofL_b hv tm hk ha hb
        rw [hof, sumO_snoc, hex, vG, if_pos hb]
      · rw [ofL_no hv tm hk ha hb, vG, if_neg hb, if_neg ha]
        omega
set_option maxRecDepth 100000 in
set_option maxHeartbeats 8000000 in
theorem number87_c (l : Lg) (A : Option Addr) (c : Nat) (code : Int) (h4 : Code4 code) (tm : Int) (Ag : Option Addr) (cg : Nat) (grp : List Int) (w : World) (hv : Valid l) (hg : Gms w.heap.size w A l.games) (hgr : Ints w.heap.size w Ag grp) (hcg : grp.length ≤ cg ∧ cg ≤ 9223372036854775807) :
    Calls Try.prog 87 #[.agg #[.int .i64 l.teams, .slice A l.games.length c], ruleV code, .int .i64 tm, .slice Ag grp.length cg] w (Ans w (.int .i64 (numS code (hasI grp) tm l.games))) := by
  have hb0 : Below w.heap.size w ((((w.alloc (.cells #[.int .i64 l.teams, .slice A l.games.length c] 92)).alloc (.cells #[.func (.func (ruF code)) #[] #[]] 97)).alloc (.cells #[.slice Ag grp.length cg] 34)).alloc (.cells #[.int .i64 0] 3)) := ((((Below.refl _ _).alloc (Nat.le_refl _) _).alloc (by simp) _).alloc (by simp; omega) _).alloc (by simp; omega) _
  have HB0 := Lib.hid hb0
  have hz0 : ((((w.alloc (.cells #[.int .i64 l.teams, .slice A l.games.length c] 92)).alloc (.cells #[.func (.func (ruF code)) #[] #[]] 97)).alloc (.cells #[.slice Ag grp.length cg] 34)).alloc (.cells #[.int .i64 0] 3)).heap.size = w.heap.size + 4 := by simp
  have k0 : ((((w.alloc (.cells #[.int .i64 l.teams, .slice A l.games.length c] 92)).alloc (.cells #[.func (.func (ruF code)) #[] #[]] 97)).alloc (.cells #[.slice Ag grp.length cg] 34)).alloc (.cells #[.int .i64 0] 3)).cell? ⟨w.heap.size, 0, none⟩ = some (.int .i64 l.teams) := by go_simp
  have k1 : ((((w.alloc (.cells #[.int .i64 l.teams, .slice A l.games.length c] 92)).alloc (.cells #[.func (.func (ruF code)) #[] #[]] 97)).alloc (.cells #[.slice Ag grp.length cg] 34)).alloc (.cells #[.int .i64 0] 3)).cell? ⟨w.heap.size, 1, none⟩ = some (.slice A l.games.length c) := by go_simp
  have k2 : ((((w.alloc (.cells #[.int .i64 l.teams, .slice A l.games.length c] 92)).alloc (.cells #[.func (.func (ruF code)) #[] #[]] 97)).alloc (.cells #[.slice Ag grp.length cg] 34)).alloc (.cells #[.int .i64 0] 3)).cell? ⟨w.heap.size + 1, 0, none⟩ = some (.func (.func (ruF code)) #[] #[]) := by go_simp
  have k3 : ((((w.alloc (.cells #[.int .i64 l.teams, .slice A l.games.length c] 92)).alloc (.cells #[.func (.func (ruF code)) #[] #[]] 97)).alloc (.cells #[.slice Ag grp.length cg] 34)).alloc (.cells #[.int .i64 0] 3)).cell? ⟨w.heap.size + 2, 0, none⟩ = some (.slice Ag grp.length cg) := by go_simp
  have k4 : NumAt ((((w.alloc (.cells #[.int .i64 l.teams, .slice A l.games.length c] 92)).alloc (.cells #[.func (.func (ruF code)) #[] #[]] 97)).alloc (.cells #[.slice Ag grp.length cg] 34)).alloc (.cells #[.int .i64 0] 3)) (w.heap.size + 3) 0 := by
    have := World.alloc_heap_new (((w.alloc (.cells #[.int .i64 l.teams, .slice A l.games.length c] 92)).alloc (.cells #[.func (.func (ruF code)) #[] #[]] 97)).alloc (.cells #[.slice Ag grp.length cg] 34)) (.cells #[.int .i64 0] 3)
    simpa [NumAt] using this
  have HG := Lib.hid hg
  have HGR := Lib.hid hgr
  unfold ruleV
  clear hb0 hg hgr
  refine calls_marks Try.func87 rfl ?_
  simp only [Try.ntmps87, List.size_toArray, List.length_cons, List.length_nil, Nat.reduceAdd, Nat.reduceSub, Array.replicate_succ, Array.replicate_zero, List.push_toArray, List.append_toArray, List.nil_append, List.cons_append]
  go_wp2_with fail
  try simp only [Nat.add_assoc, Nat.reduceAdd]
  generalize ((((w.alloc (.cells #[.int .i64 l.teams, .slice A l.games.length c] 92)).alloc (.cells #[.func (.func (ruF code)) #[] #[]] 97)).alloc (.cells #[.slice Ag grp.length cg] 34)).alloc (.cells #[.int .i64 0] 3)) = W1 at *
  refine (of109_c l A c w.heap.size tm W1 (HG.out.below HB0.out) (by omega)).mono ?_
  rintro e w2 ⟨rfl, hb, hz, hS⟩
  rw [hz0] at hz hS
  have HB2 : Hid (Below w.heap.size w w2) := HB0.out.trans (hb.mono HB0.out.size)
  have HS := Lib.hid hS
  replace k0 := cell_of_ans hb k0
  replace k1 := cell_of_ans hb k1
  replace k2 := cell_of_ans hb k2
  replace k3 := cell_of_ans hb k3
  replace k4 := k4.step hb
  have HGR2 := Lib.hid ((HGR.out.below HB2.out))
  rw [hz0]
  clear hb hS
  go_wp2_with fail
  have hz2 : w2.heap.size = w.heap.size + 6 := by omega
  refine wpIn_wide.1 (wpIn_rangeFunc_ownH (F := Fence.wide) (n := 5) (α := OfX l tm) rfl (by omega) (gf := 113) (lb := #[.pointer (some ⟨w.heap.size + 4, 0, none⟩), .pointer (some ⟨w.heap.size + 4 + 1, 0, none⟩)]) rfl trivial (enters_of Try.func113 (by kernel_rfl) rfl)
    (of_stops 4 (w.heap.size + 4) w.heap.size l A c tm hv w2.heap.size (KpS w2.heap.size (fun k => k = w.heap.size + 3)) (fun h k => h.trans k) (fun _ _ _ hb => KpS.of_below hb) (fun _ _ h => h.1)
      (fun W W' hk hs => hs.kept hk ⟨by omega, by omega⟩ (by omega) (fun k hk => by omega)) (fun W W' b o v hk hnb _ hc => hk.cell hc (by dsimp only; omega)) w2 (Nat.le_refl _) HS.out)
    (fun h k => h.trans k) ?keepPut (Below.refl _ _) (fun _ => rfl)
    (fun pre W => NumAt W (w.heap.size + 3) (sumO code (hasI grp) pre) ∧ KpS w2.heap.size (fun k => k = w.heap.size + 3) w2 W)
    (fun _ _ _ => False) ?ownI (fun _ _ _ _ _ hs _ _ => hs) ⟨k4, KpS.refl _ _ _⟩
    (fun x a' W => ∃ bb, w2.heap.size ≤ bb ∧ SideAt W bb x.1.2 ∧ a' = { tmps := #[.agg #[.int .i64 l.teams, .slice A l.games.length c], ruleV code, .int .i64 tm, .slice Ag grp.length cg, .pointer (some ⟨w.heap.size, 0, none⟩), .pointer (some ⟨w.heap.size + 1, 0, none⟩), undef, .pointer (some ⟨w.heap.size + 2, 0, none⟩), .pointer (some ⟨w.heap.size + 3, 0, none⟩), undef, .pointer (some ⟨bb, 0, none⟩), .pointer (some ⟨w.heap.size, 0, none⟩), .agg #[.int .i64 l.teams, .slice A l.games.length c], .int .i64 tm, .func (.func 113) #[] #[.pointer (some ⟨w.heap.size + 4, 0, none⟩), .pointer (some ⟨w.heap.size + 4 + 1, 0, none⟩)], gmV x.1.1, sideV x.1.2, undef, undef, undef, undef, undef, undef, undef, undef], defers := [] })
    ?ownA ?assign ?body ?done ?stop)
  case keepPut =>
    intro W l x y hl hx hc _
    exact KpS.of_put hl hx hc _
  case ownI =>
    rintro pre W W' row ⟨hv, hk⟩ hg' hrow
    exact ⟨hv.own hg' hrow, hk.trans (KpS.of_own (S := fun k => k = w.heap.size + 3) hg' hrow)⟩
  case ownA =>
    rintro x a' _ W W' row ⟨bb, hbb, hs, rfl⟩ hg' hrow
    exact ⟨bb, hbb, hs.own hg' hrow, rfl⟩
  case assign =>
    rintro l0 pre x W K ⟨hv1, hk1⟩ hK
    simp only [oEnc, gmV, sideV] at hK ⊢
    gi_wp2
    have hb : Below W.heap.size W (W.alloc (.cells #[.int .i64 x.1.2.1, .int .i64 x.1.2.2.1, .int .i64 x.1.2.2.2] 128)) := (Below.refl _ _).alloc (Nat.le_refl _) _
    refine hK _ _ ((KeepsOthers.alloc _ _).from _) (KpS.of_below hb) ⟨hv1.step hb, hk1.trans (KpS.of_below hb)⟩ ⟨W.heap.size, hk1.1, World.alloc_heap_new _ _, rfl⟩
  case body =>
    rintro l0 pre x a' W hl ⟨rr, hr'⟩ ⟨hv1, hk1⟩ ⟨bb, hbb, hs, rfl⟩ hlt
    have hsr := sumO_rng (code := code) (grp := hasI grp) pre
    have hrr := ru_rng (code := code) (grp := hasI grp) (o := x.1.2.1) x.rng
    have hlw : w2.heap.size ≤ W.heap.size := hk1.1
    have hgW : Ints w.heap.size W Ag grp := HGR2.out.below (hk1.below (by omega) (by omega) (fun k hk => by omega))
    refine wpIn_block ?_
    refine num_reg3 (f := ruF code) (s := sumO code (hasI grp) pre) (r := ruV code (hasI grp) x.1.2.1 x.1.2.2.1 x.1.2.2.2) (x := x.1.2) (Ag := Ag) (grp := grp) (cg := cg) (by kernel_rfl) (by rintro ⟨_, _, h⟩; exact h) (fun _ _ _ _ h => h) (enters_ruF code) hv1 hs (hk1.cell k2 (by dsimp only; omega)) (hk1.cell k3 (by dsimp only; omega)) ?_ (IntWalk.i64_in _ (by omega)) (fun W1 hW1 => ?_)
    · intro W' hb'
      exact ruF_c code h4 Ag cg grp x.1.2 W' (hgW.below (hb'.mono (by omega))) hcg ⟨x.rng.1, x.rng.2.1⟩ (by have := hb'.size; omega)
    · obtain ⟨Wm, hbm, rfl⟩ := hW1
      have hk2 : KpS w2.heap.size (fun k => k = w.heap.size + 3) W (Wm.setCell ⟨w.heap.size + 3, 0, none⟩ (.int .i64 (sumO code (hasI grp) pre + ruV code (hasI grp) x.1.2.1 x.1.2.2.1 x.1.2.2.2))) := (KpS.of_below hbm).trans (KpS.of_set (S := fun k => k = w.heap.size + 3) (ad := ⟨w.heap.size + 3, 0, none⟩) rfl _)
      refine ⟨((KeepsOthers.of_grownBy (only_below hbm none) (fun _ _ e => by cases e)).trans (KeepsOthers.setCell _ _ _)).from _, hk2, ?_, hk1.trans hk2⟩
      rw [sumO_snoc]
      exact (hv1.step hbm).set _
  case done =>
    rintro D ys W hD rfl ⟨hv1, hk1⟩ hK
    have hsum := ofL_sum hv tm code (hasI grp) l.games.length (Nat.le_refl _)
    rw [List.take_length] at hsum
    rw [hsum] at hv1
    obtain ⟨p0, p1⟩ := hv1.cell
    have HV := Lib.hid hv1
    have HK := Lib.hid hk1
    have HKD := Lib.hid hK
    clear hv1 hk1 hK hsum
    go_wp2_with fail
    try rw [Exit.noGoto_ret]
    refine ⟨by simp, .inl ⟨_, _, rfl, run_takeDeferred (w := W.setCell ⟨w.heap.size + 3, 0, none⟩ (.int .i64 (numS code (hasI grp) tm l.games))) ((Below.heap_setCell W _ _ D (show D ≠ w.heap.size + 3 by omega)).trans HKD.out), ?_⟩⟩
    refine ⟨.int .i64 (numS code (hasI grp) tm l.games), ?_, rfl, ?_⟩
    · have hd : w.heap.size + 3 ≠ D := by omega
      have hn : NumAt ((W.setCell ⟨w.heap.size + 3, 0, none⟩ (.int .i64 (numS code (hasI grp) tm l.games))).putObj D (.deferred none)) (w.heap.size + 3) (numS code (hasI grp) tm l.games) := (World.putObj_heap_other hd).trans (HV.out.set _)
      obtain ⟨n0, -⟩ := hn.cell
      refine results_cell1 rfl _ _ _ _ rfl ?_
      go_simp
    · have hb1 : Below w.heap.size w W := HB2.out.trans (HK.out.below (by omega) (by omega) (fun k hk => by omega))
      exact (hb1.setCell (by dsimp only; omega) _).trans ⟨rfl, rfl, rfl, by simp, fun k hk => World.putObj_heap_other (by omega)⟩
  case stop => exact fun _ _ _ _ _ _ h _ => h.elim
end

section

open Go.RowKit
set_option linter.unusedSimpArgs false
set_option linter.unusedVariables false

attribute [local go_sem] Oper.semAt_some
/-- Two own lists of numbers, in two blocks. -/
structure Two (base : Nat) (w : World) (u : Value) (xs : List Int) (v : Value) (ys : List Int) : Prop where
  l : OwnI base w u xs
  r : OwnI base w v ys
  ne : ∀ b, u.ownBlock = some b → v.ownBlock ≠ some b
section
variable {base : Nat} {w w' : World} {u v : Value} {xs ys : List Int}
theorem Two.symm (h : Two base w u xs v ys) : Two base w v ys u xs := ⟨h.r, h.l, fun b h1 h2 => h.ne b h2 h1⟩
theorem Two.kept (h : Two base w u xs v ys) (hb : Below w.heap.size w w') : Two base w' u xs v ys := ⟨h.l.kept hb, h.r.kept hb, h.ne⟩
variable {ops : Array Oper} {rest : List Oper} {o : Oper} {a : Act} {Q : Exit → Act → World → Prop}
theorem wpList_two_l (s x : Operand) (hgd : o.guard = none) (ho : o.op = .call { callee := .builtin .append, args := #[s, x], argTypes := #[34, 34] }) (base : Nat) (w : World) (u v : Value) (xs ys : List Int) (y : Int)
    (hv : a.eval s = u) (hx : a.eval x = .slice (some ⟨w.heap.size, 0, none⟩) 1 1) (hT : Hid (Two base w u xs v ys)) (hl : xs.length ≤ 1000000) (hb : base ≤ w.heap.size)
    (h : ∀ A c w', Hid (Two base w' (.slice A (xs.length + 1) c) (xs ++ [y]) v ys) → Hid (Below base w w') → wpList Try.prog ops Q rest (a.put o.dst (.slice A (xs.length + 1) c)) w') :
    wpList Try.prog ops Q (o :: rest) a (w.alloc (.cells #[.int .i64 y] 3)) := by
  obtain ⟨i0, hi, hz0, hz1, hz2⟩ := info_parts infoInt
  have hO : w.ownsRow base 3 1 u xs.length (xs.map (Value.int .i64)) := hT.out.l
  refine wpList_append_src hgd s x 34 ho base 3 i0 (.int .i64 0) 1 8 Try.underlying34 hi hz0 hz1 hz2 rfl (by decide) u xs.length (xs.map (Value.int .i64)) hv (hO.alloc _) (some ⟨w.heap.size, 0, none⟩) 1 1 [.int .i64 y] hx (src_int w y) (one_ints [y]) (by unfold maxLen; omega) (by omega) (by simp; omega) ?_
  intro v' w' h1 h2 h3
  obtain ⟨A, c, rfl⟩ := ownsRow_form h1
  refine h A c w' ⟨?_, ?_, fun b hb1 hb2 => ?_⟩ (own_below hO hb h2)
  · show OwnI _ _ _ _
    unfold OwnI
    simpa using h1
  · refine World.ownsRow.kept (World.ownsRow.alloc hT.out.r _) h2 ?_
    cases e : v.ownBlock with
    | none => exact .inl rfl
    | some b => exact .inr fun e2 => hT.out.ne b e2.symm e
  · have hlt := (World.ownsRow.lt hT.out.r b hb2).2
    rcases h3 with h3 | h3
    · rw [h3] at hb1
      exact hT.out.ne b hb1 hb2
    · rw [h3] at hb1
      have : (w.alloc (.cells #[.int .i64 y] 3)).heap.size = b := by injection hb1
      simp at this
      omega
theorem wpList_two_r (s x : Operand) (hgd : o.guard = none) (ho : o.op = .call { callee := .builtin .append, args := #[s, x], argTypes := #[34, 34] }) (base : Nat) (w : World) (u v : Value) (xs ys : List Int) (y : Int)
    (hv : a.eval s = v) (hx : a.eval x = .slice (some ⟨w.heap.size, 0, none⟩) 1 1) (hT : Hid (Two base w u xs v ys)) (hl : ys.length ≤ 1000000) (hb : base ≤ w.heap.size)
    (h : ∀ A c w', Hid (Two base w' u xs (.slice A (ys.length + 1) c) (ys ++ [y])) → Hid (Below base w w') → wpList Try.prog ops Q rest (a.put o.dst (.slice A (ys.length + 1) c)) w') :
    wpList Try.prog ops Q (o :: rest) a (w.alloc (.cells #[.int .i64 y] 3)) :=
  wpList_two_l s x hgd ho base w v u ys xs y hv hx hT.out.symm hl hb fun A c w' h1 h2 => h A c w' h1.out.symm h2
end
section
variable {α : Type} {Rd : World → Value → α → Prop} {e : TypeId} {base lo : Nat} {w w1 w2 : World} {v u : Value} {xs ys : List α}
theorem own_ne_none (u : Value) : u.ownBlock = none ∨ u.ownBlock ≠ none := own_ne u
/-- An append of all elements of another list. -/
theorem run_appRs2 (K : RdK Rd) {t : TypeId} (hT : STy t e) (ty : TypeId) {w0 : World} {base1 lo1 : Nat} {A : Option Addr} {n c : Nat} (h1 : Rs Rd e base lo w0 v xs) (hb : Below w0.heap.size w0 w) (hB : base ≤ w0.heap.size) (h2 : Rs Rd e base1 lo1 w (.slice A n c) ys) (hl1 : w0.heap.size ≤ lo1) (hlo : lo ≤ w0.heap.size)
    (hl : xs.length + ys.length ≤ 1000000) : ∃ A' c' w', (Builtin.append_ #[t, t] ty #[v, .slice A n c]).run Try.prog w = .ok (.slice A' (xs.length + ys.length) c') w' ∧ Rs Rd e base lo w' (.slice A' (xs.length + ys.length) c') (xs ++ ys) ∧ Below base w0 w' ∧ w.grownBy w' v.ownBlock ∧ ∀ k, v.ownBlock = some k → k < w0.heap.size := by
  obtain ⟨hu, i, hi, hz, hz1, hz2⟩ := hT
  have h1k := h1.kept K hb
  obtain ⟨vs, o1, o2⟩ := h1
  obtain ⟨us, s1, s2, rfl, s4⟩ := h2.src rfl
  have o1k : w.ownsRow base e 1 v xs.length vs := o1.kept (only_below hb none) (by cases v.ownBlock <;> simp)
  have hsz := hb.size
  obtain ⟨v', w', hr, a1, a2, a3⟩ := run_append_src (P := Try.prog) (w := w) base t ty e i _ 1 24 hu hi hz hz1 hz2 rfl (by decide) v xs.length vs o1k A ys.length c us s1 (Rs.oneCell K s2 s4) (by unfold maxLen; omega) (by omega) (by omega)
  obtain ⟨A', c', rfl⟩ := ownsRow_form a1
  have hvl := o1.1
  refine ⟨A', c', w', hr, ⟨vs ++ us, by rw [List.length_append]; exact a1, fun j hj => ?_⟩, (hb.mono hB).grown a2 (by omega) (fun k e => (o1.lt k e).1), a2, fun k e => (o1.lt k e).2⟩
  by_cases hj1 : j < xs.length
  · obtain ⟨u, b1, b2, b3⟩ := o2 j hj1
    refine ⟨u, by rw [List.getElem?_append_left (by omega)]; exact b1, ?_, fun b hbk => ?_⟩
    · rw [List.getElem_append_left hj1]
      refine K.frame b2 fun k hk => ?_
      have hk1 := K.lt b2 hk
      rw [a2.block k (by omega) (fun e => (b3 k hk).2 e.symm)]
      exact hb.block k hk1
    · refine ⟨(b3 b hbk).1, fun e => ?_⟩
      rcases a3 with a3 | a3
      · rw [a3] at e; exact (b3 b hbk).2 e
      · rw [a3] at e
        injection e with e
        have := K.lt b2 hbk
        omega
  · obtain ⟨u, b1, b2, b3⟩ := s4 (j - xs.length) (by rw [List.length_append] at hj; omega)
    refine ⟨u, by rw [List.getElem?_append_right (by omega), show j - vs.length = j - xs.length by omega]; exact b1, ?_, fun b hbk => ?_⟩
    · rw [List.getElem_append_right (by omega)]
      refine K.frame b2 fun k hk => ?_
      refine a2.block k (K.lt b2 hk) fun e => ?_
      have := (o1.lt k e.symm).2
      have := (b3 k hk).1
      omega
    · have hk1 := (b3 b hbk).1
      refine ⟨by omega, fun e => ?_⟩
      rcases a3 with a3 | a3
      · rw [a3] at e
        have := (o1.lt b e).2
        omega
      · rw [a3] at e
        injection e with e
        have := K.lt b2 hbk
        omega
section
variable {ops : Array Oper} {rest : List Oper} {o : Oper} {a : Act} {KK : Act → World → Prop} {Q : Exit → Act → World → Prop} {E : Prop}
theorem wpList_appRs2 (K : RdK Rd) {t : TypeId} (hT : STy t e) (s y : Operand) (hgd : o.guard = none) (ho : o.op = .call { callee := .builtin .append, args := #[s, y], argTypes := #[t, t] }) {w0 : World} {base1 lo1 : Nat} {A : Option Addr} {n c : Nat} (hv : a.eval s = v) (hx : a.eval y = .slice A n c)
    (h1 : Hid (Rs Rd e base lo w0 v xs)) (hb : Hid (Below w0.heap.size w0 w)) (hB : base ≤ w0.heap.size) (h2 : Hid (Rs Rd e base1 lo1 w (.slice A n c) ys)) (hl1 : w0.heap.size ≤ lo1) (hlo : lo ≤ w0.heap.size) (hl : xs.length + ys.length ≤ 1000000)
    (h : ∀ A' c' w', Hid (Rs Rd e base lo w' (.slice A' (xs.length + ys.length) c') (xs ++ ys)) → Hid (Below base w0 w') → (∀ b' u zs, w0.heap.size ≤ b' → OwnI b' w u zs → OwnI b' w' u zs) → wpList Try.prog ops Q rest (a.put o.dst (.slice A' (xs.length + ys.length) c')) w') :
    wpList Try.prog ops Q (o :: rest) a w := by
  refine wpList_plain hgd fun K' hK => ?_
  obtain ⟨A', c', w', hr, k1, k2, k3, k4⟩ := run_appRs2 K hT o.type h1.out hb.out hB h2.out hl1 hlo hl
  unfold Oper.wp execOp
  simp only [ho, resolve, invoke, builtin, Sem.run_bind, Sem.run_pure, Result.andThen_ok, List.map_toArray, List.map_cons, List.map_nil, hv, hx, hr]
  exact hK _ _ (h _ _ _ k1 k2 fun b' u zs hb' ho => World.ownsRow.kept ho k3 (by
    cases e5 : v.ownBlock with
    | none => exact own_ne_none u
    | some q => exact .inr (fun e6 => absurd (World.ownsRow.lt ho q e6).1 (by have := k4 q e5; omega))))
end
end
theorem sty93 : STy 93 34 := by
  obtain ⟨i, a, b, c, d⟩ := info_parts infoInts
  exact ⟨Try.underlying93, i, a, b, c, d⟩
/-- What a rule gives a team, in a group. -/
def numF (l : Lg) (code : Int) (grp : List Int) (t : Int) : Int := numS code (hasI grp) t l.games
theorem numF_rng {l : Lg} (hv : Valid l) (code : Int) (grp : List Int) (t : Int) : 0 ≤ numF l code grp t ∧ numF l code grp t ≤ 60000 := by
  have := numS_range (code := code) (grp := hasI grp) (t := t) (fun g hg => hv.mem hg)
  have := hv.len
  unfold numF
  omega
theorem ints_two (w : World) (a b : Int) : Ints (w.heap.size + 1) (w.alloc (.cells #[.int .i64 a, .int .i64 b] 3)) (some ⟨w.heap.size, 0, none⟩) [a, b] := fun _ => by
  refine ⟨w.heap.size, 0, rfl, by omega, fun k hk => ?_⟩
  rcases k with _ | _ | k
  · simp [ix]
  · simp [ix]
  · simp at hk
    omega
theorem great2 (w : World) (a b : Int) : Calls Try.prog 86 #[.slice (some ⟨w.heap.size, 0, none⟩) 2 2] (w.alloc (.cells #[.int .i64 a, .int .i64 b] 3)) (Same (w.alloc (.cells #[.int .i64 a, .int .i64 b] 3)) (.int .i64 (max a b))) := by
  have h := great86_c (some ⟨w.heap.size, 0, none⟩) 2 [a, b] _ (ints_two w a b) (by simp) (by simp)
  have e : maxK [a, b] 2 = max a b := by simp [maxK, ix]
  rw [show [a, b].length = 2 from rfl, e] at h
  exact h
theorem ahead_take {f : Int → Int} {m : Int} {l : List Int} {k : Nat} (hk : k < l.length) (h : f (ix l k) = m) : ((l.take (k + 1)).filter fun t => decide (f t = m)) = ((l.take k).filter fun t => decide (f t = m)) ++ [ix l k] ∧ ((l.take (k + 1)).filter fun t => !decide (f t = m)) = ((l.take k).filter fun t => !decide (f t = m)) := by
  rw [List.take_succ_eq_append_getElem hk, List.filter_append, List.filter_append, ← ix_lt hk]
  simp [h]
theorem behind_take {f : Int → Int} {m : Int} {l : List Int} {k : Nat} (hk : k < l.length) (h : ¬ f (ix l k) = m) : ((l.take (k + 1)).filter fun t => decide (f t = m)) = ((l.take k).filter fun t => decide (f t = m)) ∧ ((l.take (k + 1)).filter fun t => !decide (f t = m)) = ((l.take k).filter fun t => !decide (f t = m)) ++ [ix l k] := by
  rw [List.take_succ_eq_append_getElem hk, List.filter_append, List.filter_append, ← ix_lt hk]
  simp [h]
def lenOf : Value → Nat
  | .slice _ n _ => n
  | _ => 0
/-- A new own list of own lists. -/
def NewR (w : World) (G : List (List Int)) (e : Ending) (w' : World) : Prop := ∃ A c, e = .returned (.slice A G.length c) ∧ Rs RdI 34 w.heap.size w.heap.size w' (.slice A G.length c) G ∧ Below w.heap.size w w'
set_option maxRecDepth 100000 in
set_option maxHeartbeats 8000000 in
theorem fall55_c (l : Lg) (A : Option Addr) (c : Nat) (code : Int) (h4 : Code4 code) (Ag : Option Addr) (cg : Nat) (grp : List Int) (w : World) (hv : Valid l) (hg : Gms w.heap.size w A l.games) (hgr : Ints w.heap.size w Ag grp) (hcg : grp.length ≤ cg ∧ cg ≤ 9223372036854775807) (hlen : grp.length ≤ 1000) :
    Calls Try.prog 55 #[.agg #[.int .i64 l.teams, .slice A l.games.length c], ruleV code, .slice Ag grp.length cg] w (NewR w (fallL (numF l code grp) grp.length grp)) := by
  have hb0 : Below w.heap.size w ((w.alloc (.cells #[.int .i64 l.teams, .slice A l.games.length c] 92)).alloc (.cells #[.func (.func (ruF code)) #[] #[]] 97)) := ((Below.refl _ _).alloc (Nat.le_refl _) _).alloc (by simp) _
  have HB0 := Lib.hid hb0
  have hz0 : ((w.alloc (.cells #[.int .i64 l.teams, .slice A l.games.length c] 92)).alloc (.cells #[.func (.func (ruF code)) #[] #[]] 97)).heap.size = w.heap.size + 2 := by simp
  have k0 : ((w.alloc (.cells #[.int .i64 l.teams, .slice A l.games.length c] 92)).alloc (.cells #[.func (.func (ruF code)) #[] #[]] 97)).cell? ⟨w.heap.size, 0, none⟩ = some (.int .i64 l.teams) := by go_simp
  have k1 : ((w.alloc (.cells #[.int .i64 l.teams, .slice A l.games.length c] 92)).alloc (.cells #[.func (.func (ruF code)) #[] #[]] 97)).cell? ⟨w.heap.size, 1, none⟩ = some (.slice A l.games.length c) := by go_simp
  have k2 : ((w.alloc (.cells #[.int .i64 l.teams, .slice A l.games.length c] 92)).alloc (.cells #[.func (.func (ruF code)) #[] #[]] 97)).cell? ⟨w.heap.size + 1, 0, none⟩ = some (.func (.func (ruF code)) #[] #[]) := by go_simp
  have HG := Lib.hid hg
  have HGR := Lib.hid hgr
  have HN : Hid (∀ (t : Int) (W : World), Below w.heap.size w W → Calls Try.prog 87 #[.agg #[.int .i64 l.teams, .slice A l.games.length c], .agg #[.func (.func (ruF code)) #[] #[]], .int .i64 t, .slice Ag grp.length cg] W (Ans W (.int .i64 (numF l code grp t)))) := fun t W hb => number87_c l A c code h4 t Ag cg grp W hv ((HG.out.below hb).more hb.size) ((HGR.out.below hb).more hb.size) hcg
  have HF0 := Lib.hid (fun t => numF_rng hv code grp t)
  unfold ruleV
  clear hb0 hg hgr
  go_enter Try.func55, Try.ntmps55
  go_wp2_with fail
  generalize ((w.alloc (.cells #[.int .i64 l.teams, .slice A l.games.length c] 92)).alloc (.cells #[.func (.func (ruF code)) #[] #[]] 97)) = W1 at *
  refine (clone62_c Ag grp cg W1 (HGR.out.below HB0.out) (by omega) hlen).mono ?_
  rintro e w2 ⟨A2, c2, rfl, hO, hb⟩
  have HB2 : Hid (Below w.heap.size w w2) := HB0.out.trans (hb.mono HB0.out.size)
  replace k0 := cell_of_ans hb k0
  replace k1 := cell_of_ans hb k1
  replace k2 := cell_of_ans hb k2
  have HO := Lib.hid hO.isInts
  have hz2 : w.heap.size + 2 ≤ w2.heap.size := by have := hb.size; omega
  clear hb hO hz0
  generalize numF l code grp = f at *
  obtain ⟨n0, hn0⟩ : ∃ n0, n0 = w.heap.size := ⟨_, rfl⟩
  have HN0 := Lib.hid hn0
  rw [← hn0] at k0 k1 k2 hz2
  simp only [← hn0]
  clear hn0
  go_wp2_with fail
  go_loopw [6, 7] (fun o lf wr => ∃ (pre : List (List Int)) (left : List Int) (m : Nat) (A1 A2 : Option Addr) (c1 c2 : Nat), o = .slice A1 pre.length c1 ∧ Rs RdI 34 w2.heap.size w2.heap.size wr (.slice A1 pre.length c1) pre ∧ lf = .slice A2 left.length c2 ∧ IsInts wr.heap.size wr (.slice A2 left.length c2) left ∧ pre ++ fallL f m left = fallL f grp.length grp ∧ left.length ≤ m ∧ pre.length + left.length ≤ grp.length ∧ Below w2.heap.size w2 wr) (fun _ lf _ => lenOf lf)
  case atStart => exact ⟨[], grp, grp.length, none, A2, 0, c2, rfl, Rs.nil, rfl, HO.out, rfl, Nat.le_refl _, by simp, Below.refl _ _⟩
  case round =>
    obtain ⟨pre, left, m, A1, A3, c1, c3, rfl, hrs, rfl, hli, hpf, hlm, hpl, hb⟩ := hrel
    have HRS := Lib.hid hrs
    have HLI := Lib.hid hli
    have HPF := Lib.hid hpf
    have HBR := Lib.hid hb
    clear hrs hli hpf
    by_cases h1 : 0 < left.length
    · have h1i : (0 : Int) < (left.length : Int) := by omega
      have HBW : Hid (Below w.heap.size w wr) := HB2.out.trans (hb.mono (by have := HB2.out.size; exact this))
      have j0 := cell_of_ans hb k0
      have j1 := cell_of_ans hb k1
      have j2 := cell_of_ans hb k2
      obtain ⟨A', c', e1, hlc, hlc2, hls⟩ := HLI.out
      obtain ⟨rfl, -, rfl⟩ : A3 = A' ∧ left.length = left.length ∧ c3 = c' := by injection e1 with a b c; exact ⟨a, b, c⟩
      have HLS := Lib.hid hls
      clear hls hb
      go_wp2_with fail
      generalize wr = wt at *
      go_loopw [8, 22] (fun be i wr => ∃ k : Nat, k ≤ left.length ∧ i = .int .i64 k ∧ be = .int .i64 (bestK f left k) ∧ Below wt.heap.size wt wr) (fun _ i _ => left.length - (intOf i).toNat)
      case atStart => exact ⟨0, by omega, rfl, rfl, Below.refl _ _⟩
      case round =>
        obtain ⟨k, hk, rfl, rfl, hb⟩ := hrel
        by_cases hk1 : k < left.length
        · have hk1i : (k : Int) < (left.length : Int) := by omega
          obtain ⟨b, off, rfl, hbl, d0⟩ := HLS.out.at_ hk1
          replace d0 := cell_of_ans hb d0
          have i0 := cell_of_ans hb j0
          have i1 := cell_of_ans hb j1
          have i2 := cell_of_ans hb j2
          have HB := Lib.hid hb
          have HBS : Hid (bestK f left (k + 1) = max (bestK f left k) (f (ix left k))) := rfl
          have HNK := Lib.hid (HN.out (ix left k) wr (HBW.out.trans (hb.mono HBW.out.size)))
          clear hb
          generalize ix left k = x at *
          generalize bestK f left k = be at *
          go_wp2_with fail
          refine HNK.out.mono ?_
          rintro e w5 ⟨rfl, hb5⟩
          go_wp2_with fail
          refine (great2 w5 _ _).mono ?_
          rintro e w6 ⟨rfl, rfl⟩
          go_wp2_with fail
          go_roundw
          case rel =>
            have hb6 : Below wr.heap.size wr (w5.alloc (.cells #[.int .i64 be, .int .i64 (f x)] 3)) := hb5.alloc hb5.size _
            exact ⟨k + 1, by omega, by go_num, by rw [HBS.out], HB.out.trans (hb6.mono HB.out.size)⟩
          case measure => simp [intOf]; omega
        · obtain rfl : k = left.length := by omega
          have HB := Lib.hid hb
          clear hb
          clear HN0 HG HGR HO
          go_wp2_with fail
          generalize hmx : bestK f left left.length = mx at *
          generalize wr = wl at *
          have hwl : wt.heap.size ≤ wl.heap.size := HB.out.size
          go_loopw [11, 12, 37] (fun ah be i wr => ∃ k : Nat, k ≤ left.length ∧ i = .int .i64 k ∧ Two wl.heap.size wr ah ((left.take k).filter fun t => decide (f t = mx)) be ((left.take k).filter fun t => !decide (f t = mx)) ∧ Below wl.heap.size wl wr) (fun _ _ i _ => left.length - (intOf i).toNat)
          case atStart => exact ⟨0, by omega, rfl, ⟨OwnI.nil _ _, OwnI.nil _ _, fun b h => by cases h⟩, Below.refl _ _⟩
          case round =>
            rename_i ah be _
            obtain ⟨k, hk, rfl, hT, hb⟩ := hrel
            have HT := Lib.hid hT
            clear hT
            by_cases hk1 : k < left.length
            · have hk1i : (k : Int) < (left.length : Int) := by omega
              obtain ⟨b, off, rfl, hbl, d0⟩ := HLS.out.at_ hk1
              have hbt : Below wt.heap.size wt wr := HB.out.trans (hb.mono hwl)
              replace d0 := cell_of_ans hbt d0
              have i0 := cell_of_ans hbt j0
              have i1 := cell_of_ans hbt j1
              have i2 := cell_of_ans hbt j2
              have HBl := Lib.hid hb
              have HNK := Lib.hid (HN.out (ix left k) wr (HBW.out.trans (hbt.mono HBW.out.size)))
              have HAY := Lib.hid (fun h => ahead_take (f := f) (m := mx) hk1 h)
              have HAN := Lib.hid (fun h => behind_take (f := f) (m := mx) hk1 h)
              have hlk : ((left.take k).filter fun t => decide (f t = mx)).length ≤ 1000000 ∧ ((left.take k).filter fun t => !decide (f t = mx)).length ≤ 1000000 := by
                have a1 := List.length_filter_le (fun t => decide (f t = mx)) (left.take k)
                have a2 := List.length_filter_le (fun t => !decide (f t = mx)) (left.take k)
                rw [List.length_take] at a1 a2
                omega
              clear hb hbt
              generalize ix left k = x at *
              generalize ((left.take k).filter fun t => decide (f t = mx)) = aK at *
              generalize ((left.take k).filter fun t => !decide (f t = mx)) = bK at *
              generalize f x = fx at *
              by_cases hx : fx = mx
              · have e1 : (fx == mx) = true := by simp [hx]
                have HS := Lib.hid (HAY.out hx)
                clear hx HAY HAN
                go_wp2_with fail
                refine HNK.out.mono ?_
                rintro e w5 ⟨rfl, hb5⟩
                have HT5 := Lib.hid (HT.out.kept hb5)
                have hw5 : wl.heap.size ≤ w5.heap.size := Nat.le_trans HBl.out.size hb5.size
                go_wp2_with (at_builtin; refine wpList_two_l (.tmp 48) (.tmp 50) rfl rfl wl.heap.size w5 _ _ aK bK x rfl rfl HT5 hlk.1 hw5 ?_; intro A9 c9 w9 HT9 HB9)
                go_roundw
                case rel => exact ⟨k + 1, by omega, by go_num, by rw [HS.out.1, HS.out.2]; exact HT9.out, HBl.out.trans ((hb5.mono HBl.out.size).trans HB9.out)⟩
                case measure => simp [intOf]; omega
              · have e1 : (fx == mx) = false := by simp [hx]
                have HS := Lib.hid (HAN.out hx)
                clear hx HAY HAN
                go_wp2_with fail
                refine HNK.out.mono ?_
                rintro e w5 ⟨rfl, hb5⟩
                have HT5 := Lib.hid (HT.out.kept hb5)
                have hw5 : wl.heap.size ≤ w5.heap.size := Nat.le_trans HBl.out.size hb5.size
                go_wp2_with (at_builtin; refine wpList_two_r (.tmp 52) (.tmp 54) rfl rfl wl.heap.size w5 _ _ aK bK x rfl rfl HT5 hlk.2 hw5 ?_; intro A9 c9 w9 HT9 HB9)
                go_roundw
                case rel => exact ⟨k + 1, by omega, by go_num, by rw [HS.out.1, HS.out.2]; exact HT9.out, HBl.out.trans ((hb5.mono HBl.out.size).trans HB9.out)⟩
                case measure => simp [intOf]; omega
            · obtain rfl : k = left.length := by omega
              have hbt : Below wt.heap.size wt wr := HB.out.trans (hb.mono hwl)
              have hbw : Below w.heap.size w wr := HBW.out.trans (hbt.mono HBW.out.size)
              rw [List.take_length] at HT
              have hne : left ≠ [] := fun e => by rw [e] at h1; simp at h1
              obtain ⟨m', rfl⟩ : ∃ m', m = m' + 1 := ⟨m - 1, by omega⟩
              have eA : (left.filter fun t => decide (f t = mx)) = aheadL f left := by unfold aheadL bestV; rw [hmx]
              have eB : (left.filter fun t => !decide (f t = mx)) = behindL f left := by unfold behindL bestV; rw [hmx]
              rw [eA, eB] at HT
              have hbl := behind_len (fun t => (HF0.out t).1) hne
              have HPF2 : Hid ((pre ++ [aheadL f left]) ++ fallL f m' (behindL f left) = fallL f grp.length grp) := by
                show _ = _
                rw [← HPF.out, fallL, if_neg hne, List.append_assoc]
                rfl
              have hpl2 : (pre ++ [aheadL f left]).length = pre.length + 1 := by simp
              clear eA eB hmx hne HN HF0
              generalize aheadL f left = aL at *
              generalize behindL f left = bL at *
              obtain ⟨Aa, ca, rfl⟩ := HT.out.l.form
              obtain ⟨Ab, cb, rfl⟩ := HT.out.r.form
              have HTr := HT.out.r
              have hx1 : Below wt.heap.size wt (wr.alloc (.cells #[.slice Aa aL.length ca] 34)) := hbt.alloc hbt.size _
              have HX1 := Lib.hid hx1
              have HRS2 : Hid (Rs RdI 34 wt.heap.size wt.heap.size (wr.alloc (.cells #[.slice Aa aL.length ca] 34)) (.slice (some ⟨wr.heap.size, 0, none⟩) [aL].length 1) [aL]) :=
                Rs.lit hbt.size rdI (rdI_own HT.out.l).1 (fun b hb => Nat.le_trans hwl ((rdI_own HT.out.l).2 b hb))
              have HTX : Hid (OwnI wl.heap.size (wr.alloc (.cells #[.slice Aa aL.length ca] 34)) (.slice Ab bL.length cb) bL) := World.ownsRow.alloc HT.out.r _
              have hw2t : w2.heap.size ≤ wt.heap.size := HBR.out.size
              have hpl3 : pre.length + [aL].length ≤ 1000000 := by simp; omega
              clear hb hbt hbw hx1
              go_wp2_with (at_builtin; refine wpList_appRs2 rdI sty93 (.tmp 57) (.tmp 59) rfl rfl (w0 := wt) rfl rfl HRS HX1 hw2t HRS2 (Nat.le_refl _) hw2t hpl3 ?_; intro A9 c9 w9 HR9 HB9 hown9)
              have hl9 : pre.length + [aL].length = (pre ++ [aL]).length := by simp
              go_roundw
              case rel =>
                rw [hl9] at HR9
                exact ⟨pre ++ [aL], bL, m', A9, Ab, c9, cb, by simp, HR9.out, rfl, (hown9 _ _ _ hwl HTX.out).isInts, HPF2.out, by omega, by omega, HBR.out.trans HB9.out⟩
              case measure => simp [lenOf]; omega
    · have hl0 : left = [] := List.eq_nil_of_length_eq_zero (by omega)
      subst hl0
      have hG : pre = fallL f grp.length grp := by
        rw [← HPF.out]
        cases m <;> simp [fallL]
      have hln : ¬ (0 : Int) < (([] : List Int).length : Int) := by simp
      have HBW : Hid (Below w.heap.size w wr) := HB2.out.trans (HBR.out.mono HB2.out.size)
      subst hG
      clear HPF HN HF0
      go_wp2_with fail
      go_ret
      refine ⟨A1, c1, rfl, ?_, HBW.out⟩
      exact (HRS.out.low (by have := HN0.out; omega)).lowBase (by have := HN0.out; omega)
end

section

open Go.RowKit
set_option linter.unusedSimpArgs false
set_option linter.unusedVariables false

attribute [local go_sem] Oper.semAt_some
def updI' (D : Nat → Int) (p : Nat) (v : Int) : Nat → Int := fun k => if k = p then v else D k
def dnI (D : Nat → Int) (m : Nat) : List Value := (List.range m).map fun k => Value.int .i64 (D k)
/-- Block g holds m numbers. -/
def DnI (w : World) (g : Nat) (D : Nat → Int) (m : Nat) : Prop := w.heap[g]? = some (.cells (dnI D m).toArray 3)
theorem DnI.lt {w : World} {g m : Nat} {D : Nat → Int} (h : DnI w g D m) : g < w.heap.size := (Array.getElem?_eq_some_iff.1 h).1
theorem DnI.step {w w' : World} {g m : Nat} {D : Nat → Int} (h : DnI w g D m) (hb : Below w.heap.size w w') : DnI w' g D m := (hb.block g h.lt).trans h
theorem DnI.cell {w : World} {g m : Nat} {D : Nat → Int} (h : DnI w g D m) {p : Nat} (hp : p < m) : w.cell? ⟨g, p, none⟩ = some (.int .i64 (D p)) ∧ w.frozen? ⟨g, p, none⟩ = false := by
  unfold DnI at h
  refine ⟨?_, by simp [World.frozen?, h]⟩
  simp [World.cell?, h, dnI, hp]
theorem DnI.set {w : World} {g m : Nat} {D : Nat → Int} (h : DnI w g D m) (p : Nat) (b : Int) : DnI (w.setCell ⟨g, p, none⟩ (.int .i64 b)) g (updI' D p b) m := by
  have e : ((dnI D m).toArray.setIfInBounds p (.int .i64 b)) = (dnI (updI' D p b) m).toArray := by
    refine Array.ext (by simp [dnI]) fun i h1 h2 => ?_
    simp only [Array.getElem_setIfInBounds, List.getElem_toArray]
    by_cases e : p = i
    · subst e; simp [dnI, updI']
    · simp [dnI, updI', e, Ne.symm e]
  unfold DnI at h ⊢
  rw [← e]
  simp [World.setCell, Array.getElem?_modify, h]
theorem dnI_new (w : World) (m : Nat) : DnI (w.alloc (.cells (madeCells #[.int .i64 0] m) 3)) w.heap.size (fun _ => 0) m := by
  have e : madeCells #[.int .i64 0] m = (dnI (fun _ => 0) m).toArray := by
    refine Array.toList_inj.1 ?_
    rw [toList_madeCells_one]
    refine List.ext_getElem (by simp [dnI]) fun i h1 h2 => ?_
    simp [dnI]
  unfold DnI
  rw [← e]
  exact World.alloc_heap_new _ _
theorem DnI.congr {w : World} {g m : Nat} {D D' : Nat → Int} (h : DnI w g D m) (e : ∀ k, k < m → D k = D' k) : DnI w g D' m := by
  have : dnI D m = dnI D' m := List.map_congr_left fun k hk => by rw [e k (List.mem_range.1 hk)]
  unfold DnI at h ⊢
  rw [← this]
  exact h
theorem DnI.own {w : World} {g m base : Nat} {D : Nat → Int} (h : DnI w g D m) (hb : base ≤ g) (hm : 1 ≤ m ∧ m ≤ 1000) : OwnI base w (.slice (some ⟨g, 0, none⟩) ((List.range m).map D).length m) ((List.range m).map D) := by
  unfold OwnI
  have e : ((List.range m).map D).map (Value.int .i64) = dnI D m := by simp [dnI, List.map_map, Function.comp_def]
  rw [e]
  have hd : (dnI D m).length = m := by simp [dnI]
  have hl : ((List.range m).map D).length = m := by simp
  rw [hl]
  refine ⟨by rw [hd]; omega, .inr ⟨g, m, (dnI D m).toArray, rfl, hb, h, Nat.le_refl _, by unfold maxLen; omega, by simp [hd], ?_⟩⟩
  exact List.take_of_length_le (by simp [hd])
end
end Go.Proofs.Ytjokbffdepcpkaa
