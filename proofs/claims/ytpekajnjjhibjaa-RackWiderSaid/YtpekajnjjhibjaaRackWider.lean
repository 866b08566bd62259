/-
  The law RackWider returns true for every rack, pins, ball, change and link, and leaves its arguments as they were. No condition.
-/
import Derived.Test.YtpekajnjjhibjaaWiderW
import Derived.Test.YtpekajnjjhibjaaLaw
namespace Go.Proofs.Ytpekajnjjhibjaa
open Go.ChangeShapes Go.WideShapes Go.ChangeAt Go.RowKit

set_option maxRecDepth 100000 in
theorem rackWider_lifted (os : Os) (started : os.Started) (H : Type) (enc : TypeId × Value → H) :
    ReturnsInHanded {} Try.checked os 3 .any (Rows.rackWiderSpec.pre6 enc Try.prog Try.f3 Rows.rackWiderRow.domain false) (Rows.rackWiderSpec.post enc Try.prog Try.f3 false true false false) := by
  refine returnsInHanded_of_change (C := Try.checked) Try.own started (by kernel_rfl) Try.func3
    (ChangeSpec.witness6 (enc := enc) (C := Try.checked) false ⟨#[], #[.agg #[.int .i64 0, .int .i64 0, .int .i64 0, .int .i64 0, .slice none 0 0], .slice none 0 0, .slice none 0 0, .int .u8 0, .int .u8 0, .agg #[.int .i64 0, .int .i64 0, .bool false]], []⟩ 8 (by kernel_rfl) (by kernel_rfl) (by kernel_rfl) (by kernel_rfl)) ?_
  intro W base args ds gs before hval0 hW _ _
  have hval : ∀ (j : Nat) t v, Try.f3.params[j]? = some t → args[j]? = some v → Value.okWide Try.prog W .any base t v := hval0
  have hW' := hW
  obtain ⟨p, q, hA0, hV, rfl, hfz, hnd⟩ := hW
  have hA : DataW.TrodAll enc Try.prog W 0 (fun _ => true) true Try.f3.params.toList args.toList ds p := hA0
  rw [Try.params3] at hA hval
  obtain ⟨v0, vs0, d0, ds0, p0, q0, hargs, rfl, rfl, h0, r0⟩ := trodAll_cons hA
  obtain ⟨v1, vs1, d1, ds1, p1, q1, rfl, rfl, rfl, h1, r1⟩ := trodAll_cons r0
  obtain ⟨v2, vs2, d2, ds2, p2, q2, rfl, rfl, rfl, h2, r2⟩ := trodAll_cons r1
  obtain ⟨v3, vs3, d3, ds3, p3, q3, rfl, rfl, rfl, h3, r3⟩ := trodAll_cons r2
  obtain ⟨v4, vs4, d4, ds4, p4, q4, rfl, rfl, rfl, h4, r4⟩ := trodAll_cons r3
  obtain ⟨v5, vs5, d5, ds5, p5, q5, rfl, rfl, rfl, h5, r5⟩ := trodAll_cons r4
  obtain ⟨rfl, rfl, rfl⟩ := trodAll_nil r5
  obtain rfl : args = #[v0, v1, v2, v3, v4, v5] := by cases args; simp_all
  obtain ⟨rfl, rfl⟩ := trodVars_none hV
  obtain ⟨A, r, c, rfl, hc, hl⟩ := open_rack (hval 0 24 v0 rfl rfl) h0
  obtain ⟨xA, xs, cx, rfl, hcx, hx⟩ := open_ints1 (hval 1 25 v1 rfl rfl) h1
  obtain ⟨Ab, ball, cb, rfl, hcb, hball⟩ := open_ball (hval 2 26 v2 rfl rfl) h2
  obtain ⟨wh, rfl, hwh⟩ := open_u8 (hval 3 5 v3 rfl rfl) h3
  obtain ⟨at_, rfl, hat⟩ := open_u8 (hval 4 5 v4 rfl rfl) h4
  obtain ⟨lf, lt, lsr, rfl⟩ := open_link (hval 5 28 v5 rfl rfl) h5
  refine (wider3_c r A xA Ab c cx cb xs ball (wh : Int) (at_ : Int) lf lt lsr W hl hc hx hcx hball hcb ⟨by omega, by omega⟩ ⟨by omega, by omega⟩).mono fun e W' ⟨he, hb⟩ => ?_
  subst he
  exact ⟨_, rfl, law_post (tb := 4) laidOutH hW' rfl (by rw [Try.params3]; intro t ht; simp at ht; rcases ht with rfl | rfl | rfl | rfl | rfl | rfl <;> exact ⟨by kernel_rfl, of_decide_eq_true (by kernel_rfl)⟩) (by kernel_rfl) under4 rfl hb⟩

set_option maxRecDepth 100000 in
/-- The law RackWider returns true for every rack, pins, ball, change and link, and leaves its arguments as they were. No condition. -/
theorem rackWider_holds : Rows.RackWiderSaid :=
  OpenClaim.holds_of_wide 3 Try.f3 rfl rfl rfl rfl rfl rfl rfl ⟨rfl, rfl, rfl, rfl, rfl⟩ rfl rfl rfl rfl rfl (by kernel_rfl) Try.func3 (by kernel_rfl)
    (of_decide_eq_true (by kernel_rfl)) (by unfold Func.isWrapper; first | (rw [if_pos (by decide +kernel)]; kernel_rfl) | (rw [if_neg (by decide +kernel)]; exact ⟨rfl, rfl⟩))
    (fun os started H enc _ => rackWider_lifted os started H enc)
end Go.Proofs.Ytpekajnjjhibjaa
