/-
  The recursive closure of lists: each list of tellers that explains is found.
-/
import Derived.Test.YtadjkinpimmhkaaLst
import Derived.Test.YtadjkinpimmhkaaRt
namespace Go.Proofs.Ytadjkinpimmhkaa
open Go.RowKit
set_option linter.unusedSimpArgs false
set_option linter.unusedVariables false

set_option maxRecDepth 100000 in
set_option maxHeartbeats 4000000 in
theorem clone_c {base : Nat} (l : Value) (xs : List Int) (w : World) (h : OwnI base w l xs) (hB : base ≤ w.heap.size) (hl : xs.length ≤ 1000000) : Calls Try.prog 76 #[l] w (NewO w xs) := by
  obtain ⟨A, c, rfl⟩ := ownsRow_form h
  have hi0 := ownsRow_isInts h
  obtain ⟨hc1, hc2, hx⟩ := isInts_parts hi0
  cases A with
  | none =>
    have h0 : xs.length = 0 := by
      rcases h.2 with ⟨_, h0⟩ | ⟨g, cap, cur, hv, _⟩
      · exact h0
      · cases hv
    obtain rfl := List.eq_nil_of_length_eq_zero h0
    rw [List.length_nil]
    have heq : ∀ W, (binOp .eql 25 (.slice none 0 c) (.slice none 0 0)).run Try.prog W = .ok (.bool true) W := fun W => Lib.run_eql_slice_nil W 25 3 none _ _ 0 0 Try.underlying25
    clear h hi0 hx h0
    go_enter Try.func76, Try.ntmps76
    go_wp2_with fail
    go_ret
    exact ⟨none, 0, rfl, World.ownsRow_nil _ _ _ _, Below.refl _ _⟩
  | some ad =>
    obtain ⟨i0, hi, hz0, hz1, hz2⟩ := info_parts infoInt
    have heq : ∀ W, (binOp .eql 25 (.slice (some ad) xs.length c) (.slice none 0 0)).run Try.prog W = .ok (.bool false) W := fun W => Lib.run_eql_slice_nil W 25 3 (some ad) _ _ 0 0 Try.underlying25
    have hs := Lib.hid ((hx.alloc (Nat.le_refl _) (.cells #[] 3)).isrc)
    have ho : Hid ((w.alloc (.cells #[] 3)).ownsRow w.heap.size 3 1 (.slice (some ⟨w.heap.size, 0, none⟩) 0 0) 0 []) := World.ownsRow_lit w #[] 0 (Nat.le_refl _) (by simp [maxLen]) (by simp)
    have h63 : Hid (0 + xs.length ≤ maxLen) := by show _ ≤ _; unfold maxLen; omega
    have hby : Hid ((0 + xs.length) * 8 ≤ 140737488355328) := by show _ ≤ _; omega
    clear h hi0 hx
    go_enter Try.func76, Try.ntmps76
    go_wp2_with (at_builtin; refine wpList_append_src rfl (.tmp 5) (.tmp 6) 25 rfl w.heap.size 3 i0 (.int .i64 0) 1 8 Try.underlying25 hi hz0 hz1 hz2 rfl (by decide) (.slice (some ⟨w.heap.size, 0, none⟩) 0 0) 0 [] rfl ho.out (some ad) xs.length c _ rfl hs.out (one_ints xs) h63.out hby.out (by simp) ?_; intro v' w1 hown hgrow _; rw [List.nil_append, Nat.zero_add] at hown; obtain ⟨Au, cu, rfl⟩ := ownsRow_form hown; have HO := Lib.hid hown; have HG := Lib.hid hgrow; clear hown hgrow)
    go_ret
    exact ⟨_, _, rfl, HO.out, ((Below.refl w.heap.size w).alloc (Nat.le_refl _) _).grown HG.out (by simp) (fun k e => by injection e with e; subst e; exact Nat.le_refl _)⟩
def FromC (k : Ctx) (j : Nat) : Prop := ∀ (w : World) (l v : Value) (xs : List Int) (vs : List Value) (rows : List (List Int)) (n : Nat) (o : Nat → Bool), Fst k w l v xs vs rows n → xs.length ≤ j → rows.length + costF j ≤ 1000000 → n + costF j ≤ 1000000 →
  Calls Try.prog 75 #[l, .agg #[.bool (o 0), .bool (o 1), .bool (o 2), .bool (o 3)], .int .i64 (j : Int), .pointer (some ⟨k.bm, 0, none⟩), .pointer (some ⟨k.bx, 0, none⟩), .pointer (some ⟨k.bq, 0, none⟩), .pointer (some ⟨k.bf, 0, none⟩)] w
    (fun e w' => (∃ x, e = .returned x) ∧ FPost k w l v xs vs rows n (costF j) (lstF (explB (k.m : Int) k.ws) k.many xs o j) w')

set_option maxRecDepth 100000 in
set_option maxHeartbeats 8000000 in
theorem from_full {k : Ctx} (hk : k.Ok) {j : Nat} (hj : j ≤ 4) (w : World) (l v : Value) (xs : List Int) (vs : List Value) (rows : List (List Int)) (n : Nat) (o : Nat → Bool) (F : Fst k w l v xs vs rows n) (hx : xs.length = k.many) (hrl : rows.length + costF j ≤ 1000000) (hn : n + costF j ≤ 1000000) (hxl : xs.length ≤ 4) :
  Calls Try.prog 75 #[l, .agg #[.bool (o 0), .bool (o 1), .bool (o 2), .bool (o 3)], .int .i64 (j : Int), .pointer (some ⟨k.bm, 0, none⟩), .pointer (some ⟨k.bx, 0, none⟩), .pointer (some ⟨k.bq, 0, none⟩), .pointer (some ⟨k.bf, 0, none⟩)] w
    (fun e w' => (∃ x, e = .returned x) ∧ FPost k w l v xs vs rows n (costF j) (lstF (explB (k.m : Int) k.ws) k.many xs o j) w') := by
  obtain ⟨Al, cl, rfl⟩ := ownsRow_form F.own
  have hc1 := cost_two hj
  have hb0 : Below w.heap.size w (w.alloc (.cells #[.bool (o 0), .bool (o 1), .bool (o 2), .bool (o 3)] 92)) := (Below.refl _ _).alloc (Nat.le_refl _) _
  have hB4 : B4 (w.alloc (.cells #[.bool (o 0), .bool (o 1), .bool (o 2), .bool (o 3)] 92)) w.heap.size o := B4.new w _ _ _ _ _ ⟨rfl, rfl, rfl, rfl⟩
  have F0 := F.step hk hb0
  have FF := Lib.hid F
  have F0H := Lib.hid F0
  have HB0 := Lib.hid hb0
  have hlen : ((xs.length : Int) == (k.many : Int)) = true := by simp [hx]
  have HRES : Hid (lstF (explB (k.m : Int) k.ws) k.many xs o j = if explB (k.m : Int) k.ws o then [xs] else []) := by show _ = _; simp [lstF, hx]
  have HC := fun W (h : Fst k W (.slice Al xs.length cl) v xs vs rows n) => explain_c (B := k.B) k.p k.b n k.c k.m o k.A k.ws W (by have := h.bs; have := hk.ge; omega) (by have := h.bs; have := hk.lt; omega) hk.ge.1 h.wat hk.hl hk.hok hk.hm (by omega)
  have HC0 := Lib.hid (HC _ F0)
  have cm := F0.cm
  have cx := F0.cx
  obtain ⟨z0, z1, z2, z3, -⟩ := hB4.cells
  clear hx F0 HC hb0 hB4 F
  cases hex : explB (k.m : Int) k.ws o
  · rw [hex] at HC0
    go_enter Try.func75, Try.ntmps75
    go_wp2_with fail
    refine HC0.out.mono ?_
    rintro e w1 ⟨rfl, hW, hg⟩
    have HWg : Hid (Wat k.B w1 k.p k.b (n + 1) (k.m : Int) k.A k.c k.ws) := hW
    have HG : Hid (w.grownBy w1 (some k.b)) := grown_tr (only_below HB0.out _) hg
    clear hW hg
    go_wp2_with fail
    refine bodyPost_ret (results_none rfl _ _ _) rfl ?_
    refine ⟨⟨_, rfl⟩, ?_⟩
    rw [HRES.out, hex]
    exact FPost.explained FF.out hk HWg.out HG.out (by omega)
  · rw [hex] at HC0
    go_enter Try.func75, Try.ntmps75
    go_wp2_with fail
    refine HC0.out.mono ?_
    rintro e w1 ⟨rfl, hW, hg⟩
    have hG : w.grownBy w1 (some k.b) := grown_tr (only_below HB0.out _) hg
    have F1 := FF.out.explained hk hW hG
    have HG := Lib.hid hG
    have HWg : Hid (Wat k.B w1 k.p k.b (n + 1) (k.m : Int) k.A k.c k.ws) := hW
    have cq : w1.cell? ⟨k.bq, 0, none⟩ = some v := by simp [World.cell?, F1.cq]
    have hcl := Lib.hid (clone_c (.slice Al xs.length cl) xs w1.drew (F1.step hk (Below.refl _ _).drew).own (by have := F1.bs; exact this) (by omega))
    have F1H := Lib.hid F1
    have HR1 := Lib.hid F1.rws.1
    clear F1 hW hG hg cm cx z0 z1 z2 z3 HC0
    go_wp2_with fail
    refine wp_region_noPanic ?_
    have hS : (fun w' : World => w'.cell? ⟨k.bq, 0, none⟩ = some v) w1.drew := cq
    refine wp_region_any (by kernel_rfl) (wpAny_of_T (S := fun w' : World => w'.cell? ⟨k.bq, 0, none⟩ = some v) (m := 5) _ _ _ _ ?_)
    refine' T_take (i := 0) (v := _) rfl (by kernel_rfl) (by kernel_rfl) (by kernel_rfl) (by kernel_rfl) (fun _ _ _ h => h) (by rfl) hS ?_ ?_
    rotate_left 1
    · intro Wv hW
      try dsimp only at hW
      go_simp
      first | done | with_reducible rfl
    try simp only [Act.put, List.setIfInBounds_toArray, List.set_cons_zero, List.set_cons_succ]
    refine' T_take (i := 1) (v := _) rfl (by kernel_rfl) (by kernel_rfl) (by kernel_rfl) (by kernel_rfl) (fun _ _ _ h => h) (by rfl) hS ?_ ?_
    rotate_left 1
    · intro Wv hW
      go_simp
      first | done | with_reducible rfl
    try simp only [Act.put, List.setIfInBounds_toArray, List.set_cons_zero, List.set_cons_succ]
    refine T_ready (rs := [2]) (by kernel_rfl) (by simp) ?_
    refine TReady.cons rfl (fun K hK => ?_) TReady.nil
    try go_simp
    refine hcl.out.mono ?_
    rintro e w2 ⟨Au, cu, rfl, hu, hb2⟩
    have HU := Lib.hid hu
    have hbs2 : k.base ≤ w2.heap.size := Nat.le_trans F1H.out.bs (below_drew_l hb2).size
    replace HR1 := Lib.hid (HR1.out.kept (only_below (below_drew_l hb2) none) (own_ne v))
    have HB2 := Lib.hid hb2
    have HB2d : Hid (Below w1.heap.size w1 w2) := below_drew_l hb2
    replace cq := cell_of_ans (below_drew_l hb2) cq
    clear hu hb2
    try go_simp
    refine hK.out _ _ (fun _ => cq) (fun hS => ?_)
    replace hS := hS (by decide)
    clear hK K
    try simp only [Act.put, List.setIfInBounds_toArray, List.set_cons_zero, List.set_cons_succ]
    refine T_ready (rs := [3]) (by kernel_rfl) (by simp) ?_
    refine TReady.cons rfl (fun K hK => ?_) TReady.nil
    try go_simp
    have cq2 := cell_alloc_keep (.cells #[.slice Au xs.length cu] 25) cq
    refine hK.out _ _ (fun _ => cq2) (fun hS => ?_)
    replace hS := hS (by decide)
    clear hK K
    try simp only [Act.put, List.setIfInBounds_toArray, List.set_cons_zero, List.set_cons_succ]
    refine T_ready (rs := [4]) (by kernel_rfl) (by simp) ?_
    refine TReady.cons rfl (fun K hK => ?_) TReady.nil
    refine step_row (.tmp 19) (.tmp 22) rfl rfl k.base w2 v rows.length vs (.slice Au xs.length cu) rfl rfl HR1 (one_slices HU.out) (by omega) hbs2 ?_
    intro v3 w3 HA
    obtain ⟨A3, c3, rfl⟩ := ownsRow_form HA.out.own
    obtain ⟨hS3, hq3⟩ := F1H.out.keepQ hk HB2d.out HA.out
    refine hK.out _ _ (fun _ => hS3) (fun hS => ?_)
    replace hS := hS (by decide)
    clear hK K
    try simp only [Act.put, List.setIfInBounds_toArray, List.set_cons_zero, List.set_cons_succ]
    refine T_ready (rs := [5]) (by kernel_rfl) (by simp) ?_
    refine TReady.cons rfl (fun K hK => ?_) TReady.nil
    go_simp
    refine hK.out _ _ (fun h => absurd h (by decide)) (fun _ => ?_)
    clear hK K
    try simp only [Act.put, List.setIfInBounds_toArray, List.set_cons_zero, List.set_cons_succ]
    refine T_done (by kernel_rfl) ?_ _
    refine NoPanic.normal ?_
    go_wp2_with fail
    refine bodyPost_ret (results_none rfl _ _ _) rfl ?_
    refine ⟨⟨_, rfl⟩, ?_⟩
    rw [HRES.out, hex]
    simp only [if_true]
    exact FPost.pushed FF.out hk HG.out F1H.out hc1 HU.out HB2d.out HA.out
end Go.Proofs.Ytadjkinpimmhkaa
