/-
  A lane with tellers that explain its words.
-/
import Derived.Test.YtadjkinpimmhkaaApi
namespace Go.Proofs.Ytadjkinpimmhkaa
open Go.RowKit
set_option linter.unusedSimpArgs false
set_option linter.unusedVariables false

def EdBad (w : World) (er : Int) (e : Ending) (w' : World) : Prop :=
  ∃ P a b c d, e = .returned (.tuple #[.pointer P, .agg #[.bool a, .bool b, .bool c, .bool d], .int .i64 er]) ∧ Below w.heap.size w w'
def EdOk (w : World) (frn : Int) (A : Option Addr) (c : Nat) (ws : List Wd) (o : Nat → Bool) (e : Ending) (w' : World) : Prop :=
  ∃ p b, e = .returned (.tuple #[.pointer (some ⟨p, 0, none⟩), .agg #[.bool (o 0), .bool (o 1), .bool (o 2), .bool (o 3)], .int .i64 0]) ∧ w.heap.size ≤ p ∧ p < w'.heap.size ∧ w.heap.size ≤ b ∧ Wat w.heap.size w' p b 1 frn A c ws ∧ Below w.heap.size w w'

set_option maxRecDepth 100000 in
set_option maxHeartbeats 8000000 in
theorem explained_ask (A At : Option Addr) (ws : List Wd) (ts : List Int) (c ct : Nat) (frn : Int) (w : World) (hw : Wds w.heap.size w A ws) (ht : Ints w.heap.size w At ts) (hc : ws.length ≤ c ∧ c ≤ 9223372036854775807) (hct : ts.length ≤ ct ∧ ct ≤ 9223372036854775807) (h : askErr frn ws ts ≠ 0) : Calls Try.prog 58 #[.agg #[.int .i64 frn, .slice A ws.length c], .slice At ts.length ct] w (EdBad w (askErr frn ws ts)) := by
  have hb0 : Below w.heap.size w ((w.alloc (.cells #[.int .i64 frn, .slice A ws.length c] 32)).alloc (.cells #[.bool false, .bool false, .bool false, .bool false] 92)) := ((Below.refl _ _).alloc (Nat.le_refl _) _).alloc (by simp) _
  have k0 : ((w.alloc (.cells #[.int .i64 frn, .slice A ws.length c] 32)).alloc (.cells #[.bool false, .bool false, .bool false, .bool false] 92)).cell? ⟨w.heap.size, 0, none⟩ = some (.int .i64 frn) := by go_simp
  have k1 : ((w.alloc (.cells #[.int .i64 frn, .slice A ws.length c] 32)).alloc (.cells #[.bool false, .bool false, .bool false, .bool false] 92)).cell? ⟨w.heap.size, 1, none⟩ = some (.slice A ws.length c) := by go_simp
  have hZ : B4 ((w.alloc (.cells #[.int .i64 frn, .slice A ws.length c] 32)).alloc (.cells #[.bool false, .bool false, .bool false, .bool false] 92)) (w.heap.size + 1) (fun _ => false) := by
    have := B4.new (w.alloc (.cells #[.int .i64 frn, .slice A ws.length c] 32)) false false false false (fun _ => false) ⟨rfl, rfl, rfl, rfl⟩
    rwa [World.size_alloc] at this
  have HB0 := Lib.hid hb0
  have HZ := Lib.hid hZ
  have HC := Lib.hid (asked_bad A At ws ts c ct frn _ (hw.step hb0) (ht.step hb0) hc hct h)
  have hne : (askErr frn ws ts == 0) = false := by simp [h]
  generalize askErr frn ws ts = er at HC hne ⊢
  clear h hb0 hZ
  go_enter Try.func58, Try.ntmps58
  go_wp2_with fail
  generalize ((w.alloc (.cells #[.int .i64 frn, .slice A ws.length c] 32)).alloc (.cells #[.bool false, .bool false, .bool false, .bool false] 92)) = W0 at k0 k1 HC HB0 HZ ⊢
  refine HC.out.mono ?_
  rintro e w1 ⟨rfl, hb1⟩
  have HZ1 := Lib.hid (HZ.out.below hb1)
  have HB1 := Lib.hid (HB0.out.trans (hb1.mono HB0.out.size))
  clear hb1
  go_wp2_with fail
  have hb2 : Below w1.heap.size w1 (w1.alloc (.cells #[.bool false, .bool false, .bool false, .bool false] 92)) := (Below.refl _ _).alloc (Nat.le_refl _) _
  have HO : Hid (B4 (w1.alloc (.cells #[.bool false, .bool false, .bool false, .bool false] 92)) w1.heap.size (fun _ => false)) := B4.new w1 false false false false _ ⟨rfl, rfl, rfl, rfl⟩
  have HZ2 := Lib.hid (HZ1.out.below hb2)
  have HB2 := Lib.hid (HB1.out.trans (hb2.mono HB1.out.size))
  have hzl := HZ1.out.lt
  clear hb2
  generalize w1.alloc (.cells #[.bool false, .bool false, .bool false, .bool false] 92) = w2 at HO HZ2 HB2 ⊢
  obtain ⟨g8, hg8⟩ : ∃ g, g = w1.heap.size := ⟨_, rfl⟩
  rw [← hg8] at HO hzl ⊢
  clear hg8
  obtain ⟨d0, d1, d2, d3, -⟩ := HO.out.cells
  obtain ⟨c0, c1, c2, c3, c4⟩ := HZ2.out.cells
  have f0 := c4 0
  have f1 := c4 1
  have f2 := c4 2
  have f3 := c4 3
  obtain ⟨v1, v2, v3, v4⟩ := HZ2.out.same
  have hne1 : g8 ≠ w.heap.size + 1 := by omega
  have hne2 : w.heap.size + 1 ≠ g8 := by omega
  clear c4
  go_wp2_with fail
  go_region_held3 (fun w' => w'.cell? ⟨g8, 0, none⟩ = some (.bool false) ∧ w'.cell? ⟨g8, 1, none⟩ = some (.bool false) ∧ w'.cell? ⟨g8, 2, none⟩ = some (.bool false) ∧ w'.cell? ⟨g8, 3, none⟩ = some (.bool false)) (go_keep) (first | fail)
  all_goals
    go_wp2_with fail
    exact bodyPost_ret (v := .tuple #[.pointer none, .agg #[.bool false, .bool false, .bool false, .bool false], .int .i64 er]) (by simp [results, Try.results58, go_sem, c0, c1, c2, c3]) rfl ⟨none, _, _, _, _, rfl, HB2.out.drew⟩

set_option maxRecDepth 100000 in
set_option maxHeartbeats 8000000 in
theorem explained_core (A At : Option Addr) (ws : List Wd) (ts : List Int) (c ct : Nat) (frn : Int) (w : World) (hw : Wds w.heap.size w A ws) (ht : Ints w.heap.size w At ts) (hc : ws.length ≤ c ∧ c ≤ 9223372036854775807) (hct : ts.length ≤ ct ∧ ct ≤ 9223372036854775807) (h : askErr frn ws ts = 0) : Calls Try.prog 58 #[.agg #[.int .i64 frn, .slice A ws.length c], .slice At ts.length ct] w fun e w' => (explB frn ws (offT ts) = false ∧ EdBad w 9 e w') ∨ (explB frn ws (offT ts) = true ∧ EdOk w frn A c ws (offT ts) e w') := by
  have hb0 : Below w.heap.size w ((w.alloc (.cells #[.int .i64 frn, .slice A ws.length c] 32)).alloc (.cells #[.bool false, .bool false, .bool false, .bool false] 92)) := ((Below.refl _ _).alloc (Nat.le_refl _) _).alloc (by simp) _
  have k0 : ((w.alloc (.cells #[.int .i64 frn, .slice A ws.length c] 32)).alloc (.cells #[.bool false, .bool false, .bool false, .bool false] 92)).cell? ⟨w.heap.size, 0, none⟩ = some (.int .i64 frn) := by go_simp
  have k1 : ((w.alloc (.cells #[.int .i64 frn, .slice A ws.length c] 32)).alloc (.cells #[.bool false, .bool false, .bool false, .bool false] 92)).cell? ⟨w.heap.size, 1, none⟩ = some (.slice A ws.length c) := by go_simp
  have hZ : B4 ((w.alloc (.cells #[.int .i64 frn, .slice A ws.length c] 32)).alloc (.cells #[.bool false, .bool false, .bool false, .bool false] 92)) (w.heap.size + 1) (fun _ => false) := by
    have := B4.new (w.alloc (.cells #[.int .i64 frn, .slice A ws.length c] 32)) false false false false (fun _ => false) ⟨rfl, rfl, rfl, rfl⟩
    rwa [World.size_alloc] at this
  have HB0 := Lib.hid hb0
  have HZ := Lib.hid hZ
  have HC := Lib.hid (asked_ok A At ws ts c ct frn _ (hw.step hb0) (ht.step hb0) hc hct h)
  obtain ⟨hl, -⟩ := askOk h
  obtain ⟨h30, hf1, hf5, hok⟩ := laneOk hl
  have HOK := Lib.hid hok
  have HWD := Lib.hid hw
  obtain ⟨m, rfl⟩ : ∃ m : Nat, frn = (m : Int) := ⟨frn.toNat, by omega⟩
  have hm5 : m ≤ 5 := by omega
  clear h hl hok hb0 hZ
  generalize offT ts = o at HC ⊢
  go_enter Try.func58, Try.ntmps58
  go_wp2_with fail
  generalize ((w.alloc (.cells #[.int .i64 (m : Int), .slice A ws.length c] 32)).alloc (.cells #[.bool false, .bool false, .bool false, .bool false] 92)) = W0 at k0 k1 HC HB0 HZ ⊢
  refine HC.out.mono ?_
  rintro e w1 ⟨p, b, rfl, hp1, hp2, hb1, hWat, hbw⟩
  have hb2 : Below w1.heap.size w1 (w1.alloc (.cells #[.bool (o 0), .bool (o 1), .bool (o 2), .bool (o 3)] 92)) := (Below.refl _ _).alloc (Nat.le_refl _) _
  have HO : Hid (B4 (w1.alloc (.cells #[.bool (o 0), .bool (o 1), .bool (o 2), .bool (o 3)] 92)) w1.heap.size o) := B4.new w1 _ _ _ _ _ ⟨rfl, rfl, rfl, rfl⟩
  have HWA := Lib.hid (hWat.step hb2 hbw.size)
  have HZ2 := Lib.hid ((HZ.out.below hbw).below hb2)
  have HB2 : Hid (Below W0.heap.size W0 (w1.alloc (.cells #[.bool (o 0), .bool (o 1), .bool (o 2), .bool (o 3)] 92))) := hbw.alloc hbw.size _
  have hs0 := HB0.out.size
  have hs1 := hbw.size
  have hzl := HZ.out.lt
  clear hWat hbw hb2
  go_wp2_with fail
  generalize w1.alloc (.cells #[.bool (o 0), .bool (o 1), .bool (o 2), .bool (o 3)] 92) = w2 at HO HWA HZ2 HB2 ⊢
  obtain ⟨g8, hg8⟩ : ∃ g, g = w1.heap.size := ⟨_, rfl⟩
  rw [← hg8] at HO ⊢
  have hg8' : W0.heap.size ≤ g8 := by omega
  have hpg : p < g8 := by omega
  clear hg8
  obtain ⟨d0, d1, d2, d3, -⟩ := HO.out.cells
  refine (explain_c p b 0 c m o A ws w2 HB2.out.size (World.block_lt_of_cell? w2 _ HWA.out.cn) hb1 HWA.out (by omega) HOK.out hm5 (by omega)).mono ?_
  rintro e w3 ⟨rfl, hW3, hg⟩
  have HG := Lib.hid hg
  have HW3 := Lib.hid hW3
  have hbl := HWA.out.kn.lt
  have hbg : b ≠ g8 := fun e => by
    obtain ⟨D, ⟨es, cl, hx, _⟩, _⟩ := HWA.out.kn
    have := HO.out
    rw [← e] at this
    unfold B4 at this
    rw [this] at hx
    cases hx
  have HO3 : Hid (B4 w3 g8 o) := (hg.block g8 HO.out.lt (fun e => by injection e with e; exact hbg e.symm)).trans HO.out
  have HZ3 : Hid (B4 w3 (w.heap.size + 1) (fun _ => false)) := (hg.block _ HZ2.out.lt (fun e => by injection e with e; omega)).trans HZ2.out
  have HBF : Hid (Below w.heap.size w w3) := (HB0.out.trans (HB2.out.mono hs0)).grown hg (Nat.le_trans hs0 HB2.out.size) (fun j e => by injection e with e; subst e; omega)
  obtain ⟨d0, d1, d2, d3, -⟩ := HO3.out.cells
  obtain ⟨c0, c1, c2, c3, c4⟩ := HZ3.out.cells
  have f0 := c4 0
  have f1 := c4 1
  have f2 := c4 2
  have f3 := c4 3
  have hne1 : g8 ≠ w.heap.size + 1 := by omega
  have hne2 : w.heap.size + 1 ≠ g8 := by omega
  have hzl3 := HZ3.out.lt
  clear c4 hW3 hg
  cases hex : explB (m : Int) ws o
  all_goals
    have HEX := Lib.hid hex
    clear hex
    go_wp2_with fail
    go_region_held3 (fun w' => w'.cell? ⟨g8, 0, none⟩ = some (.bool (o 0)) ∧ w'.cell? ⟨g8, 1, none⟩ = some (.bool (o 1)) ∧ w'.cell? ⟨g8, 2, none⟩ = some (.bool (o 2)) ∧ w'.cell? ⟨g8, 3, none⟩ = some (.bool (o 3))) (go_keep) (first | fail)
    go_wp2_with fail
    have hgr := sets_grown w3 (w.heap.size + 1) (.bool (o 0)) (.bool (o 1)) (.bool (o 2)) (.bool (o 3))
    have hbf := HBF.out.grown hgr HBF.out.size (fun j e => by injection e with e; subst e; omega)
    obtain ⟨e0, e1, e2, e3, -⟩ := (HZ3.out.all o).cells
  · exact bodyPost_ret (v := .tuple #[.pointer (some ⟨p, 0, none⟩), .agg #[.bool (o 0), .bool (o 1), .bool (o 2), .bool (o 3)], .int .i64 9]) (by simp [results, Try.results58, go_sem, e0, e1, e2, e3]) rfl (.inl ⟨HEX.out, _, _, _, _, _, rfl, hbf.drew⟩)
  · have hk1 := HW3.out
    have hpz := World.block_lt_of_cell? w3 _ hk1.cn
    dsimp only at hpz
    have hk2 : Wat w.heap.size w3 p b 1 (m : Int) A c ws := ⟨hk1.cn, hk1.cl, hk1.cm, HWD.out.below HBF.out, hk1.kn⟩
    have hk3 := hk2.grown hgr (by omega) (by omega) (by omega)
    exact bodyPost_ret (v := .tuple #[.pointer (some ⟨p, 0, none⟩), .agg #[.bool (o 0), .bool (o 1), .bool (o 2), .bool (o 3)], .int .i64 0]) (by simp [results, Try.results58, go_sem, e0, e1, e2, e3]) rfl (.inr ⟨HEX.out, p, b, rfl, by omega, Nat.lt_of_lt_of_le hpz hgr.size, by omega, hk3.step (below_drew_r _) hbf.size, hbf.drew⟩)

section
variable (A At : Option Addr) (ws : List Wd) (ts : List Int) (c ct : Nat) (frn : Int) (w : World) (hw : Wds w.heap.size w A ws) (ht : Ints w.heap.size w At ts) (hc : ws.length ≤ c ∧ c ≤ 9223372036854775807) (hct : ts.length ≤ ct ∧ ct ≤ 9223372036854775807)
include hw ht hc hct
theorem explained_ok (h : exErr frn ws ts = 0) : Calls Try.prog 58 #[.agg #[.int .i64 frn, .slice A ws.length c], .slice At ts.length ct] w (EdOk w frn A c ws (offT ts)) := by
  unfold exErr at h
  by_cases hl : askErr frn ws ts = 0
  · rw [if_pos hl] at h
    refine (explained_core A At ws ts c ct frn w hw ht hc hct hl).mono fun e w' h' => ?_
    rcases h' with ⟨h1, _⟩ | ⟨_, h2⟩
    · rw [h1] at h; cases h
    · exact h2
  · rw [if_neg hl] at h
    exact absurd h hl
theorem explained_bad (h : exErr frn ws ts ≠ 0) : Calls Try.prog 58 #[.agg #[.int .i64 frn, .slice A ws.length c], .slice At ts.length ct] w (EdBad w (exErr frn ws ts)) := by
  by_cases hl : askErr frn ws ts = 0
  · have e : exErr frn ws ts = if explB frn ws (offT ts) then 0 else 9 := by unfold exErr; rw [if_pos hl]
    rw [e] at h ⊢
    refine (explained_core A At ws ts c ct frn w hw ht hc hct hl).mono fun e w' h' => ?_
    rcases h' with ⟨h1, h2⟩ | ⟨h1, _⟩
    · rw [h1]; exact h2
    · rw [h1] at h; exact absurd rfl h
  · have e : exErr frn ws ts = askErr frn ws ts := by unfold exErr; rw [if_neg hl]
    rw [e]
    exact explained_ask A At ws ts c ct frn w hw ht hc hct hl
end
theorem exOk {frn : Int} {ws : List Wd} {ts : List Int} (h : exErr frn ws ts = 0) : askErr frn ws ts = 0 ∧ explB frn ws (offT ts) = true := by
  unfold exErr at h
  by_cases hl : askErr frn ws ts = 0
  · rw [if_pos hl] at h
    refine ⟨hl, ?_⟩
    cases hr : explB frn ws (offT ts)
    · rw [hr] at h; cases h
    · rfl
  · rw [if_neg hl] at h
    exact absurd h hl
end Go.Proofs.Ytadjkinpimmhkaa
