/-
  The statement TopLaid returns true for every lane, start, words and number, and leaves its arguments as they were. No condition.
-/
import Derived.Test.YtenpiinkbfancaaTlW
import Derived.Test.YtenpiinkbfancaaOpL
import Derived.Test.YtenpiinkbfancaaLo
namespace Go.Proofs.Ytenpiinkbfancaa
open Go.ChangeShapes Go.WideShapes Go.ChangeAt Go.RowKit

set_option maxRecDepth 100000 in
theorem topLaid_lifted (os : Os) (started : os.Started) (H : Type) (enc : TypeId × Value → H) :
    ReturnsInHanded {} Try.checked os 5 .any (Rows.topLaidSpec.pre6 enc Try.prog Try.f5 Rows.topLaidRow.domain false) (Rows.topLaidSpec.post enc Try.prog Try.f5 false true false false) := by
  refine returnsInHanded_of_change_sized (C := Try.checked) Try.own started (by kernel_rfl) Try.func5
    (ChangeSpec.witness6 (enc := enc) (C := Try.checked) false ⟨#[], #[.agg #[.int .i64 0, .int .i64 0, .slice none 0 0, .slice none 0 0], .agg #[.int .i64 0, .int .i64 0], .slice none 0 0, .slice none 0 0, .int .u8 0], []⟩ 8 (by kernel_rfl) (by kernel_rfl) (by kernel_rfl) (by kernel_rfl)) ?_
  intro W base args ds gs before hval0 hW _ hsz _
  have hval : ∀ (j : Nat) t v, Try.f5.params[j]? = some t → args[j]? = some v → Value.okWide Try.prog W .any base t v := hval0
  have hW' := hW
  obtain ⟨p, q, hA0, hV, rfl, hfz, hnd⟩ := hW
  have hA : DataW.TrodAll enc Try.prog W 0 (fun _ => true) true Try.f5.params.toList args.toList ds p := hA0
  rw [Try.params5] at hA hval
  obtain ⟨v0, vs0, d0, ds0, p0, q0, hargs, rfl, rfl, h0, r0⟩ := trodAll_cons hA
  obtain ⟨v1, vs1, d1, ds1, p1, q1, rfl, rfl, rfl, h1, r1⟩ := trodAll_cons r0
  obtain ⟨v2, vs2, d2, ds2, p2, q2, rfl, rfl, rfl, h2, r2⟩ := trodAll_cons r1
  obtain ⟨v3, vs3, d3, ds3, p3, q3, rfl, rfl, rfl, h3, r3⟩ := trodAll_cons r2
  obtain ⟨v4, vs4, d4, ds4, p4, q4, rfl, rfl, rfl, h4, r4⟩ := trodAll_cons r3
  obtain ⟨rfl, rfl, rfl⟩ := trodAll_nil r4
  obtain rfl : args = #[v0, v1, v2, v3, v4] := by cases args; simp_all
  obtain ⟨rfl, rfl⟩ := trodVars_none hV
  obtain ⟨l, Ah, Ap, ch, cp, rfl, hH, hP, hk2, hk5⟩ := Pa.open_lane (hval 0 88 v0 rfl rfl) h0
  obtain ⟨s, rfl⟩ := Pa.open_start (hval 1 90 v1 rfl rfl) h1
  obtain ⟨A, ws, cw, rfl, hcw, hws, hwl⟩ := Pa.open_words (hval 2 25 v2 rfl rfl) h2 (fun el sp e => sized_slice hsz (j := 2) rfl (by rw [e]; rfl) Try.underlying25)
  obtain ⟨Ao, zs, co, rfl, hco, hos, hol⟩ := Pa.open_words (hval 3 25 v3 rfl rfl) h3 (fun el sp e => sized_slice hsz (j := 3) rfl (by rw [e]; rfl) Try.underlying25)
  obtain ⟨many, rfl, hm⟩ := Pa.open_u8 (hval 4 5 v4 rfl rfl) h4
  refine (Pa.topLaid5_c l Ah Ap ch cp s A ws cw Ao zs co many W hH hP hk2 hk5 hws hcw hwl hos hco hol hm).mono fun e W' ⟨he, hb⟩ => ?_
  subst he
  exact ⟨_, rfl, Pa.law_post (tb := 4) Try.laidOut hW' rfl (by rw [Try.params5]; intro t ht; simp at ht; rcases ht with rfl | rfl | rfl | rfl | rfl <;> exact ⟨by kernel_rfl, of_decide_eq_true (by kernel_rfl)⟩) (by kernel_rfl) Try.underlying4 rfl hb⟩

set_option maxRecDepth 100000 in
/-- The statement TopLaid returns true for every lane, start, words and number, and leaves its arguments as they were. No condition. -/
theorem topLaid_holds : Rows.TopLaidSaid :=
  OpenClaim.holds_of_wide 5 Try.f5 rfl rfl rfl rfl rfl rfl rfl ⟨rfl, rfl, rfl, rfl, rfl⟩ rfl rfl rfl rfl rfl (by kernel_rfl) Try.func5 (by kernel_rfl)
    (of_decide_eq_true (by kernel_rfl)) (by unfold Func.isWrapper; first | (rw [if_pos (by decide +kernel)]; kernel_rfl) | (rw [if_neg (by decide +kernel)]; exact ⟨rfl, rfl⟩))
    (fun os started H enc _ => topLaid_lifted os started H enc)
end Go.Proofs.Ytenpiinkbfancaa
