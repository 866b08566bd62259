/-
  The law OilWider returns true for every lane, balls, block, plan and number, and leaves its arguments as they were. No condition.
-/
import Derived.Test.YtgnonfomlgkpcaaWiderW
import Derived.Test.YtgnonfomlgkpcaaLawU
namespace Go.Proofs.Ytgnonfomlgkpcaa
open Go.ChangeShapes Go.WideShapes Go.ChangeAt Go.RowKit

set_option maxRecDepth 100000 in
theorem oilWider_lifted (os : Os) (started : os.Started) (H : Type) (enc : TypeId × Value → H) :
    ReturnsInHanded {} Try.checked os 10 .any (Rows.oilWiderSpec.pre6 enc Try.prog Try.f10 Rows.oilWiderRow.domain false) (Rows.oilWiderSpec.post enc Try.prog Try.f10 false true false false) := by
  refine returnsInHanded_of_change (C := Try.checked) Try.own started (by kernel_rfl) Try.func10
    (ChangeSpec.witness6 (enc := enc) (C := Try.checked) false ⟨#[], #[.agg #[.slice none 0 0, .int .i64 0, .int .i64 0, .int .i64 0], .slice none 0 0, .slice none 0 0, .slice none 0 0, .int .u8 0], []⟩ 8 (by kernel_rfl) (by kernel_rfl) (by kernel_rfl) (by kernel_rfl)) ?_
  intro W base args ds gs before hval0 hW _ _
  have hval : ∀ (j : Nat) t v, Try.f10.params[j]? = some t → args[j]? = some v → Value.okWide Try.prog W .any base t v := hval0
  have hW' := hW
  obtain ⟨p, q, hA0, hV, rfl, hfz, hnd⟩ := hW
  have hA : DataW.TrodAll enc Try.prog W 0 (fun _ => true) true Try.f10.params.toList args.toList ds p := hA0
  rw [Try.params10] at hA hval
  obtain ⟨v0, vs0, d0, ds0, p0, q0, hargs, rfl, rfl, h0, r0⟩ := trodAll_cons hA
  obtain ⟨v1, vs1, d1, ds1, p1, q1, rfl, rfl, rfl, h1, r1⟩ := trodAll_cons r0
  obtain ⟨v2, vs2, d2, ds2, p2, q2, rfl, rfl, rfl, h2, r2⟩ := trodAll_cons r1
  obtain ⟨v3, vs3, d3, ds3, p3, q3, rfl, rfl, rfl, h3, r3⟩ := trodAll_cons r2
  obtain ⟨v4, vs4, d4, ds4, p4, q4, rfl, rfl, rfl, h4, r4⟩ := trodAll_cons r3
  obtain ⟨rfl, rfl, rfl⟩ := trodAll_nil r4
  obtain rfl : args = #[v0, v1, v2, v3, v4] := by cases args; simp_all
  obtain ⟨rfl, rfl⟩ := trodVars_none hV
  obtain ⟨A, xss, c, lo, hi, ca, rfl, hc, hx⟩ := open_lane (hval 0 26 v0 rfl rfl) h0
  obtain ⟨Ab, bss, cb, rfl, hcb, hbs⟩ := open_grd (hval 1 22 v1 rfl rfl) h1
  obtain ⟨A', ls, c', rfl, hc', hl⟩ := open_lns (hval 2 57 v2 rfl rfl) h2
  obtain ⟨Ap, plan, cp, rfl, hcp, hp⟩ := open_int45 (hval 3 45 v3 rfl rfl) h3
  obtain ⟨u, rfl, hu⟩ := open_u8 (hval 4 5 v4 rfl rfl) h4
  refine (oilWider_c A Ab A' Ap xss bss ls plan c cb c' cp lo hi ca u W hx hbs hl hp hc hcb hc' hcp hu).mono fun e W' ⟨he, hb⟩ => ?_
  subst he
  exact ⟨_, rfl, law_post (tb := 4) Try.laidOut hW' rfl (by rw [Try.params10]; intro t ht; simp at ht; rcases ht with rfl | rfl | rfl | rfl | rfl <;> exact ⟨by kernel_rfl, of_decide_eq_true (by kernel_rfl)⟩) (by kernel_rfl) Try.underlying4 rfl hb⟩

set_option maxRecDepth 100000 in
/-- The law OilWider returns true for every lane, balls, block, plan and number, and leaves its arguments as they were. No condition. -/
theorem oilWider_holds : Rows.OilWiderSaid :=
  OpenClaim.holds_of_wide 10 Try.f10 rfl rfl rfl rfl rfl rfl rfl ⟨rfl, rfl, rfl, rfl, rfl⟩ rfl rfl rfl rfl rfl (by kernel_rfl) Try.func10 (by kernel_rfl)
    (of_decide_eq_true (by kernel_rfl)) (by unfold Func.isWrapper; first | (rw [if_pos (by decide +kernel)]; kernel_rfl) | (rw [if_neg (by decide +kernel)]; exact ⟨rfl, rfl⟩))
    (fun os started H enc _ => oilWider_lifted os started H enc)
end Go.Proofs.Ytgnonfomlgkpcaa
