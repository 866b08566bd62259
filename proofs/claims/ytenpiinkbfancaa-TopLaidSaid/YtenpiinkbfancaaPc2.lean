/-
  path: the check of a lane.
-/
import Derived.Test.YtenpiinkbfancaaPc1
namespace Go.Proofs.Ytenpiinkbfancaa.Pa
open Go.RowKit
set_option linter.unusedSimpArgs false
set_option linter.unusedVariables false

attribute [local go_sem] Oper.semAt_some
set_option maxRecDepth 100000 in
set_option maxHeartbeats 4000000 in
theorem check126_c (l : Ln) (H P : Option Addr) (ch cp : Nat) (w : World) (hok : Ok l) (hH : Recs 2 w.heap.size w H l.hk) (hP : Recs 5 w.heap.size w P l.pt) :
    Calls Try.prog 126 #[LV l H P ch cp] w (Ans w (.int .i64 0)) := by
  have hb0 : Below w.heap.size w (w.alloc (.cells #[.int .i64 l.nb, .int .i64 l.nr, .slice H l.hk.length ch, .slice P l.pt.length cp] 103)) := (Below.refl _ _).alloc (Nat.le_refl _) _
  have HB := Lib.hid hb0
  have hp8 := hok.p8
  have hh4 := hok.h4
  have hh0 := hok.h0
  have k0 : (w.alloc (.cells #[.int .i64 l.nb, .int .i64 l.nr, .slice H l.hk.length ch, .slice P l.pt.length cp] 103)).cell? ⟨w.heap.size, 0, none⟩ = some (.int .i64 l.nb) := by simp
  have k1 : (w.alloc (.cells #[.int .i64 l.nb, .int .i64 l.nr, .slice H l.hk.length ch, .slice P l.pt.length cp] 103)).cell? ⟨w.heap.size, 1, none⟩ = some (.int .i64 l.nr) := by simp
  have k2 : (w.alloc (.cells #[.int .i64 l.nb, .int .i64 l.nr, .slice H l.hk.length ch, .slice P l.pt.length cp] 103)).cell? ⟨w.heap.size, 2, none⟩ = some (.slice H l.hk.length ch) := by simp
  have k3 : (w.alloc (.cells #[.int .i64 l.nb, .int .i64 l.nr, .slice H l.hk.length ch, .slice P l.pt.length cp] 103)).cell? ⟨w.heap.size, 3, none⟩ = some (.slice P l.pt.length cp) := by simp
  have t1 : decide ((l.pt.length : Int) > 8) = false := decide_eq_false (by omega)
  have t1' : decide (8 < l.pt.length) = false := decide_eq_false (by omega)
  have t2 : decide ((l.hk.length : Int) > 4) = false := decide_eq_false (by omega)
  have t2' : decide (4 < l.hk.length) = false := decide_eq_false (by omega)
  have t3 : ((l.hk.length : Int) == 0) = false := by rw [beq_eq_false_iff_ne]; omega
  have t4 : ¬ l.hk.length = 0 := by omega
  have H1 := Lib.hid (fun W => within94_c l.nb 1 40 W)
  have H2 := Lib.hid (fun W => within94_c l.nr 1 12 W)
  rw [show inB l.nb 1 40 = true from (inB_eq _ _ _).2 ⟨hok.b0, hok.b1⟩] at H1
  rw [show inB l.nr 1 12 = true from (inB_eq _ _ _).2 ⟨hok.r0, hok.r1⟩] at H2
  have HZ : Hid ((w.alloc (.cells #[.int .i64 l.nb, .int .i64 l.nr, .slice H l.hk.length ch, .slice P l.pt.length cp] 103)).heap.size = w.heap.size + 1) := by show _ = _; simp
  have HA1 : Hid (Calls Try.prog 159 #[.slice H l.hk.length ch, .func (.func 160) #[] #[]] (w.alloc (.cells #[.int .i64 l.nb, .int .i64 l.nr, .slice H l.hk.length ch, .slice P l.pt.length cp] 103)) (Ans (w.alloc (.cells #[.int .i64 l.nb, .int .i64 l.nr, .slice H l.hk.length ch, .slice P l.pt.length cp] 103)) (.bool true))) :=
    all159_c H ch 160 #[] l.hk _ (enters_of Try.func160 (by kernel_rfl) rfl) (by omega) (hH.step hb0) (fun n hn W => by
      have hb := hook_bd hok hn
      exact hook160_c _ _ hb.1 hb.2.1 hb.2.2 W)
  have HA2 : Hid (∀ W, Below w.heap.size w W → Calls Try.prog 161 #[.slice P l.pt.length cp, .func (.func 162) #[LV l H P ch cp] #[]] W (Ans W (.bool true))) := fun W hW =>
    all161_c P cp 162 #[LV l H P ch cp] l.pt _ (enters_of Try.func162 (by kernel_rfl) rfl) (by omega) (hP.step hW) (fun n hn W => patch162_c l H P ch cp n hok hn W)
  unfold LV at HA2 ⊢
  clear hb0 hok hH hP hp8 hh4 hh0
  go_enter Try.func126, Try.ntmps126
  go_wp2_with fail
  refine (H1.out _).mono ?_
  rintro e w1 ⟨rfl, rfl⟩
  go_wp2_with fail
  refine (H2.out _).mono ?_
  rintro e w1 ⟨rfl, rfl⟩
  go_wp2_with fail
  refine HA1.out.mono ?_
  rintro e w1 ⟨rfl, hb⟩
  replace k0 := cell_of_ans hb k0
  replace k1 := cell_of_ans hb k1
  replace k2 := cell_of_ans hb k2
  replace k3 := cell_of_ans hb k3
  have HB1 : Hid (Below w.heap.size w w1) := HB.out.trans (hb.mono HB.out.size)
  have H3 := Lib.hid (HA2.out w1 HB1.out)
  clear hb
  go_wp2_with fail
  refine H3.out.mono ?_
  rintro e w2 ⟨rfl, hb⟩
  have HB2 : Hid (Below w.heap.size w w2) := HB1.out.trans (hb.mono HB1.out.size)
  clear hb
  go_wp2_with fail
  go_ret
  exact ⟨rfl, HB2.out⟩
end Go.Proofs.Ytenpiinkbfancaa.Pa
