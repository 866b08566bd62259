/-
  The statement TopCounted returns true for every lane, words and bits, and leaves its arguments as they were. No condition.
-/
import Derived.Test.YtenpiinkbfancaaTc
import Derived.Test.YtenpiinkbfancaaTo
import Derived.Test.YtenpiinkbfancaaLo
namespace Go.Proofs.Ytenpiinkbfancaa
open Go.ChangeShapes Go.WideShapes Go.ChangeAt Go.RowKit

set_option maxRecDepth 100000 in
theorem topCounted_lifted (os : Os) (started : os.Started) (H : Type) (enc : TypeId × Value → H) :
    ReturnsInHanded {} Try.checked os 3 .any (Rows.topCountedSpec.pre6 enc Try.prog Try.f3 Rows.topCountedRow.domain false) (Rows.topCountedSpec.post enc Try.prog Try.f3 false true false false) := by
  refine returnsInHanded_of_change (C := Try.checked) Try.own started (by kernel_rfl) Try.func3
    (ChangeSpec.witness6 (enc := enc) (C := Try.checked) false ⟨#[], #[.agg #[.int .i64 0, .slice none 0 0], .slice none 0 0, .int .u8 0], []⟩ 8 (by kernel_rfl) (by kernel_rfl) (by kernel_rfl) (by kernel_rfl)) ?_
  intro W base args ds gs before hval0 hW _ _
  have hval : ∀ (j : Nat) t v, Try.f3.params[j]? = some t → args[j]? = some v → Value.okWide Try.prog W .any base t v := hval0
  have hW' := hW
  obtain ⟨p, q, hA0, hV, rfl, hfz, hnd⟩ := hW
  have hA : DataW.TrodAll enc Try.prog W 0 (fun _ => true) true Try.f3.params.toList args.toList ds p := hA0
  rw [Try.params3] at hA hval
  obtain ⟨v0, vs0, d0, ds0, p0, q0, hargs, rfl, rfl, h0, r0⟩ := trodAll_cons hA
  obtain ⟨v1, vs1, d1, ds1, p1, q1, rfl, rfl, rfl, h1, r1⟩ := trodAll_cons r0
  obtain ⟨v2, vs2, d2, ds2, p2, q2, rfl, rfl, rfl, h2, r2⟩ := trodAll_cons r1
  obtain ⟨rfl, rfl, rfl⟩ := trodAll_nil r2
  obtain rfl : args = #[v0, v1, v2] := by cases args; simp_all
  obtain ⟨rfl, rfl⟩ := trodVars_none hV
  obtain ⟨A, ws, c, frn, rfl, hc, hx⟩ := Sn.open_lane (hval 0 24 v0 rfl rfl) h0
  obtain ⟨An, ns, cn, rfl, hcn, hns⟩ := Sn.open_u16s (hval 1 25 v1 rfl rfl) h1
  obtain ⟨bi, rfl, hbi⟩ := Sn.open_u8 (hval 2 5 v2 rfl rfl) h2
  refine (Sn.counted3_c told8_c A ws c frn An ns cn bi W hx hc hns hcn hbi).mono fun e W' ⟨he, hb⟩ => ?_
  subst he
  exact ⟨_, rfl, Sn.law_post (tb := 4) Try.laidOut hW' rfl (by rw [Try.params3]; intro t ht; simp at ht; rcases ht with rfl | rfl | rfl <;> exact ⟨by kernel_rfl, of_decide_eq_true (by kernel_rfl)⟩) (by kernel_rfl) Try.underlying4 rfl hb⟩

set_option maxRecDepth 100000 in
/-- The statement TopCounted returns true for every lane, words and bits, and leaves its arguments as they were. No condition. -/
theorem topCounted_holds : Rows.TopCountedSaid :=
  OpenClaim.holds_of_wide 3 Try.f3 rfl rfl rfl rfl rfl rfl rfl ⟨rfl, rfl, rfl, rfl, rfl⟩ rfl rfl rfl rfl rfl (by kernel_rfl) Try.func3 (by kernel_rfl)
    (of_decide_eq_true (by kernel_rfl)) (by unfold Func.isWrapper; first | (rw [if_pos (by decide +kernel)]; kernel_rfl) | (rw [if_neg (by decide +kernel)]; exact ⟨rfl, rfl⟩))
    (fun os started H enc _ => topCounted_lifted os started H enc)
end Go.Proofs.Ytenpiinkbfancaa
