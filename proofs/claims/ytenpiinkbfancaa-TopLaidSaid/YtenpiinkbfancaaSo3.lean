/-
  path: the states of a set, listed.
-/
import Derived.Test.YtenpiinkbfancaaSo2
import Derived.Test.YtenpiinkbfancaaRd1
namespace Go.Proofs.Ytenpiinkbfancaa.Pa
open Go.RowKit
set_option linter.unusedSimpArgs false
set_option linter.unusedVariables false

attribute [local go_sem] Oper.semAt_some
def SortedP (D : DataW Unit) (w : World) (e : Ending) (w' : World) : Prop :=
  ∃ (A : Option Addr) (c : Nat) (us : List St), e = .returned (.slice A us.length c) ∧ Below w.heap.size w w' ∧ (us.length ≤ c ∧ c ≤ 9223372036854775807) ∧ Recs 2 w'.heap.size w' A (us.map recS) ∧ ∀ v, hasU D v → ∃ x ∈ us, x.1 = v
/-- What has been collected: all but what is still to come. -/
def Coll (D : DataW Unit) (left : Lit → Bool) (us : List St) : Prop := ∀ v kl, keyOf Try.prog 105 (sk v) = some kl → Maps.has D kl = true → left kl = false → ∃ x ∈ us, x.1 = v
theorem Coll.start (D : DataW Unit) : Coll D (Maps.has D) [] := fun v kl h1 h2 h3 => by rw [h2] at h3; cases h3
theorem Coll.step {D : DataW Unit} {left : Lit → Bool} {us : List St} (h : Coll D left us) (x : St) {kl : Lit} (hk : keyOf Try.prog 105 (sk x.1) = some kl) : Coll D (fun z => left z && !z.sameKey kl) (us ++ [x]) := fun v kl' h1 h2 h3 => by
  simp only [Bool.and_eq_false_iff, Bool.not_eq_false'] at h3
  rcases h3 with h3 | h3
  · obtain ⟨y, hy, he⟩ := h v kl' h1 h2 h3
    exact ⟨y, List.mem_append_left _ hy, he⟩
  · have := Go.WideAt.sameKey_eq h3
    subst this
    have := sk_inj (st_law.inj h1 hk)
    exact ⟨x, by simp, this.symm⟩
set_option maxRecDepth 100000 in
set_option maxHeartbeats 4000000 in
theorem sorted96_c (b n : Nat) (D : DataW Unit) (w : World) (hM : MapD w b n D) (hn : n ≤ 2000000000) : Calls Try.prog 96 #[.map (some b)] w (SortedP D w) := by
  have hbl := hM.lt
  have HMD := Lib.hid hM
  have hown := hM.own
  have hsz := hown.size_le
  go_enter Try.func96, Try.ntmps96
  go_wp2_with (at_range; refine wpList_range_own _ rfl _ 223 rfl 105 4 st_law under223 (plainElem Try.prog 4) b n D rfl hown ?_; intro w0 hrg0 hg0 hs0)
  go_frame
  go_loopw [2] (fun uv wr => ∃ (left : Lit → Bool) (cnt : Nat) (us : List St), wr.ranges Try.prog 105 (plainElem Try.prog 4) b w.heap.size n D left cnt ∧ (∀ kl, left kl = true → Maps.has D kl = true) ∧ us.length + cnt ≤ n ∧ OwnK 105 2 (w.heap.size + 1) wr uv (us.map recS) ∧ Coll D left us ∧ Below w.heap.size w wr ∧ w.heap.size + 1 ≤ wr.heap.size)
    (fun _ wr => wr.rangeLeft b w.heap.size)
  case atStart => exact ⟨_, _, [], hrg0, fun _ h => h, by simpa using hsz, OwnK.nil _ _ _ _, Coll.start D, ⟨hg0.os, hg0.tape, hg0.output, hg0.size, fun j hj => hg0.block j hj (by simp)⟩, by omega⟩
  case round =>
    obtain ⟨left, cnt, us, hrg, hlf, hcn, hou, hco, hbw, hzw⟩ := hrel
    obtain ⟨A, c, rfl⟩ := hou.form
    rw [List.length_map] at hou
    simp only [List.length_map]
    obtain ⟨uv, huv⟩ : ∃ uv, uv = Value.slice A us.length c := ⟨_, rfl⟩
    rw [← huv] at hou ⊢
    have HOU := Lib.hid hou
    have HUV := Lib.hid huv
    have HBW := Lib.hid hbw
    have HCO := Lib.hid hco
    have HRG := Lib.hid hrg
    have HLF := Lib.hid hlf
    clear hou hbw hco hlf huv
    go_wp2_with (at_next; refine wpList_next_ranges _ rfl _ rfl 105 st_law (plainElem Try.prog 4) id id (fun key kl _ => ⟨key, rfl⟩) (fun v y _ => ⟨v, rfl⟩) b w.heap.size n _ _ _ rfl hrg ?_ ?_)
    · intro _ hl0
      have HL0 := Lib.hid hl0
      clear hl0 hrg
      have h1 := HOU.out
      rw [HUV.out] at h1 ⊢
      obtain ⟨-, hc1, hc2, -⟩ := h1.recs
      rw [List.length_map] at hc1
      have HSo := Lib.hid (sort142_c h1 (by omega))
      clear h1
      go_wp2_with fail
      refine HSo.out.mono ?_
      rintro e w2 ⟨rfl, hb2, us', hl2, hm2, hr2⟩
      go_wp2_with fail
      go_ret
      exact ⟨A, c, us', by rw [hl2]; rfl, HBW.out.trans (hb2.mono (by omega)), ⟨by rw [hl2]; exact hc1, hc2⟩, hr2, fun v hv => by
        obtain ⟨kl, h3, h4⟩ := hv
        obtain ⟨x, hx, he⟩ := HCO.out v kl h3 h4 (HL0.out kl)
        exact ⟨x, hm2 x hx, he⟩⟩
    · intro x cc kl y1 y2 w1 cnt1 hkx hlx hRc hat hrg1 hlt1 hg1 hs1 hen
      clear hRc hat hrg
      try simp only [id] at hkx
      try simp only [id] at hen
      try simp only [id]
      obtain ⟨u, hu, hku⟩ := HMD.out.ins kl (HLF.out kl hlx)
      obtain rfl := st_law.inj hkx hku
      have HU := Lib.hid hu
      have HKU := Lib.hid hku
      have HRG1 := Lib.hid hrg1
      have HG1 := Lib.hid hg1
      have HLX := Lib.hid hlx
      obtain ⟨ub, d⟩ := u
      unfold sk at hen
      unfold sk
      dsimp only at hen ⊢
      have hgu : Below w1.heap.size w1 (w1.alloc (.cells #[.int .i64 ub, .int .i64 d] 105)) := (Below.refl _ w1).alloc (Nat.le_refl _) _
      have hne : uv.ownBlock ≠ some w.heap.size := fun e => by have := (HOU.out.lt _ e).1; omega
      have HOU1 : Hid (OwnK 105 2 (w.heap.size + 1) (w1.alloc (.cells #[.int .i64 ub, .int .i64 d] 105)) uv (us.map recS)) := (HOU.out.grown hg1 (.inr hne)).kept hgu
      have hl4 : (us.map recS).length ≤ 4000000000 := by rw [List.length_map]; omega
      clear hkx hku hrg1 hg1 hlx hgu
      go_wp2_with (at_builtin; refine wpList_appKB ty97 (.tmp 10) (.tmp 12) rfl rfl (w.heap.size + 1) (w1.alloc (.cells #[.int .i64 ub, .int .i64 d] 105)) uv (us.map recS) [ub, d] (cs := #[.int .i64 ub, .int .i64 d]) rfl rfl rfl (by simp only [World.size_alloc]; omega) HOU1 rfl hl4 (by simp; omega) ?_; intro u6 w6 HO6 HG6)
      go_roundw
      case rel =>
        have hg6 := HG6.out
        have hG : w1.grownBy w6 uv.ownBlock := (World.grownBy_alloc w1 _ uv.ownBlock).trans hg6
        refine ⟨_, cnt1, us ++ [⟨(ub, d), HU.out⟩], HRG1.out.kept hG (fun e => ?_) (fun e => hne e.symm), fun kl' h => HLF.out kl' (by simp only [Bool.and_eq_true] at h; exact h.1), by simp; omega, ?_, HCO.out.step ⟨(ub, d), HU.out⟩ HKU.out, ?_, ?_⟩
        · have := (HOU.out.lt _ e.symm).1
          omega
        · rw [List.map_append]
          exact HO6.out
        · refine HBW.out.trans ⟨hG.os.trans HG1.out.os, hG.tape.trans HG1.out.tape, hG.output.trans HG1.out.output, Nat.le_trans HG1.out.size hG.size, fun j hj => (hG.block j (by omega) (fun e => ?_)).trans (HG1.out.block j (by omega) (fun e => by injection e with e; omega))⟩
          have := (HOU.out.lt _ e.symm).1
          omega
        · have := hG.size
          omega
      case measure =>
        have hg6 := HG6.out
        have hG : w1.grownBy w6 uv.ownBlock := (World.grownBy_alloc w1 _ uv.ownBlock).trans hg6
        rw [(HRG1.out.kept hG (fun e => by have := (HOU.out.lt _ e.symm).1; omega) (fun e => hne e.symm)).left_eq, HRG.out.left_eq]
        exact hlt1
end Go.Proofs.Ytenpiinkbfancaa.Pa
