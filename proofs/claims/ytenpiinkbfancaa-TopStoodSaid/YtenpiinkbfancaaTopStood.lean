/-
  The statement TopStood returns true for every rack, ball, words and frames, and leaves its arguments as they were. No condition.
-/
import Derived.Test.YtenpiinkbfancaaTs
import Derived.Test.YtenpiinkbfancaaTo
import Derived.Test.YtenpiinkbfancaaLo
import Derived.Test.YtenpiinkbfancaaOpS
namespace Go.Proofs.Ytenpiinkbfancaa
open Go.ChangeShapes Go.WideShapes Go.ChangeAt Go.RowKit

set_option maxRecDepth 100000 in
theorem topStood_lifted (os : Os) (started : os.Started) (H : Type) (enc : TypeId × Value → H) :
    ReturnsInHanded {} Try.checked os 4 .any (Rows.topStoodSpec.pre6 enc Try.prog Try.f4 Rows.topStoodRow.domain false) (Rows.topStoodSpec.post enc Try.prog Try.f4 false true false false) := by
  refine returnsInHanded_of_change_sized (C := Try.checked) Try.own started (by kernel_rfl) Try.func4
    (ChangeSpec.witness6 (enc := enc) (C := Try.checked) false ⟨#[], #[.agg #[.int .i64 0, .int .i64 0, .int .i64 0, .int .i64 0, .slice none 0 0], .slice none 0 0, .slice none 0 0, .int .u8 0], []⟩ 8 (by kernel_rfl) (by kernel_rfl) (by kernel_rfl) (by kernel_rfl)) ?_
  intro W base args ds gs before hval0 hW _ hsz _
  have hval : ∀ (j : Nat) t v, Try.f4.params[j]? = some t → args[j]? = some v → Value.okWide Try.prog W .any base t v := hval0
  have hW' := hW
  obtain ⟨p, q, hA0, hV, rfl, hfz, hnd⟩ := hW
  have hA : DataW.TrodAll enc Try.prog W 0 (fun _ => true) true Try.f4.params.toList args.toList ds p := hA0
  rw [Try.params4] at hA hval
  obtain ⟨v0, vs0, d0, ds0, p0, q0, hargs, rfl, rfl, h0, r0⟩ := trodAll_cons hA
  obtain ⟨v1, vs1, d1, ds1, p1, q1, rfl, rfl, rfl, h1, r1⟩ := trodAll_cons r0
  obtain ⟨v2, vs2, d2, ds2, p2, q2, rfl, rfl, rfl, h2, r2⟩ := trodAll_cons r1
  obtain ⟨v3, vs3, d3, ds3, p3, q3, rfl, rfl, rfl, h3, r3⟩ := trodAll_cons r2
  obtain ⟨rfl, rfl, rfl⟩ := trodAll_nil r3
  obtain rfl : args = #[v0, v1, v2, v3] := by cases args; simp_all
  obtain ⟨rfl, rfl⟩ := trodVars_none hV
  obtain ⟨A, r, c, rfl, hc, hl⟩ := Rk.open_rack (hval 0 58 v0 rfl rfl) h0
  obtain ⟨Ab, ball, cb, rfl, hcb, hball⟩ := Rk.open_ball (hval 1 59 v1 rfl rfl) h1
  obtain ⟨Aw, ws, cw, rfl, hcw, hws, hwl⟩ := Rk.open_words (hval 2 25 v2 rfl rfl) h2 (fun el sp e => sized_slice hsz (j := 2) rfl (by rw [e]; rfl) Try.underlying25)
  obtain ⟨fb, rfl, hfb⟩ := Rk.open_u8 (hval 3 5 v3 rfl rfl) h3
  refine (Rk.stood4_c told8_c r A Ab Aw c cb cw fb ball ws W hl hc hball hcb hws hcw hwl hfb).mono fun e W' ⟨he, hb⟩ => ?_
  subst he
  exact ⟨_, rfl, Rk.law_post (tb := 4) Try.laidOut hW' rfl (by rw [Try.params4]; intro t ht; simp at ht; rcases ht with rfl | rfl | rfl | rfl <;> exact ⟨by kernel_rfl, of_decide_eq_true (by kernel_rfl)⟩) (by kernel_rfl) Try.underlying4 rfl hb⟩

set_option maxRecDepth 100000 in
/-- The statement TopStood returns true for every rack, ball, words and frames, and leaves its arguments as they were. No condition. -/
theorem topStood_holds : Rows.TopStoodSaid :=
  OpenClaim.holds_of_wide 4 Try.f4 rfl rfl rfl rfl rfl rfl rfl ⟨rfl, rfl, rfl, rfl, rfl⟩ rfl rfl rfl rfl rfl (by kernel_rfl) Try.func4 (by kernel_rfl)
    (of_decide_eq_true (by kernel_rfl)) (by unfold Func.isWrapper; first | (rw [if_pos (by decide +kernel)]; kernel_rfl) | (rw [if_neg (by decide +kernel)]; exact ⟨rfl, rfl⟩))
    (fun os started H enc _ => topStood_lifted os started H enc)
end Go.Proofs.Ytenpiinkbfancaa
