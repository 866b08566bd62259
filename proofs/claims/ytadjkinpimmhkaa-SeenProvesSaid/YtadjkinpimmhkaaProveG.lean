/-
  The program's ProveGame.
-/
import Derived.Test.YtadjkinpimmhkaaSeq
import Derived.Test.YtadjkinpimmhkaaAsk
namespace Go.Proofs.Ytadjkinpimmhkaa
open Go.RowKit
set_option linter.unusedSimpArgs false
set_option linter.unusedVariables false

/-- Is a frame's list of balls one of its games? -/
noncomputable def prR (ws : List Wd) (o : Nat → Bool) (f : Nat) (xs : List Int) : Bool :=
  inB (xs.length : Int) 1 2 && (inB (ix xs 0) 0 10 && ((decide (ix xs 0 = 10) == decide (xs.length = 1)) && ((decide (xs.length ≠ 2) || inB (ix xs 1) 0 (10 - ix xs 0)) &&
    decide (((10 - ix xs 0).toNat, if xs.length = 2 then (10 - ix xs 0 - ix xs 1).toNat else 0) ∈ gamesL ws (f : Int) o))))
noncomputable def proveB (m : Nat) (ws : List Wd) (o : Nat → Bool) (game : List (List Int)) : Bool := decide (game.length = m) && allB game.length fun f => prR ws o f (rx game f)
theorem prove_no {m : Nat} {ws : List Wd} {o : Nat → Bool} {game : List (List Int)} {k : Nat} (hk : k < game.length) (h : prR ws o k (rx game k) = false) : proveB m ws o game = false := by
  unfold proveB
  rw [allB_false hk h, Bool.and_false]
theorem prove_yes {m : Nat} {ws : List Wd} {o : Nat → Bool} {game : List (List Int)} (hl : game.length = m) (h : AllB game.length fun f => prR ws o f (rx game f)) : proveB m ws o game = true := by
  unfold proveB
  rw [allB_true h, decide_eq_true hl]
  rfl
theorem prove_len {m : Nat} {ws : List Wd} {o : Nat → Bool} {game : List (List Int)} (hl : game.length ≠ m) : proveB m ws o game = false := by
  unfold proveB
  rw [decide_eq_false hl]
  rfl
/-- The closure's captured blocks. -/
def GS (w : World) (q p : Nat) (fr frn : Int) (o : Nat → Bool) (A : Option Addr) (c : Nat) (ws : List Wd) : Prop := GSt w.heap.size w q p fr frn o A c ws ∧ q + 2 < w.heap.size ∧ p < w.heap.size
def GmPost (w : World) (p : Nat) (fr frn : Int) (o : Nat → Bool) (A : Option Addr) (c : Nat) (ws : List Wd) (e : Ending) (w' : World) : Prop :=
  ∃ q, e = .returned (.func (.func 79) #[] #[.pointer (some ⟨q, 0, none⟩), .pointer (some ⟨q + 1, 0, none⟩), .pointer (some ⟨q + 2, 0, none⟩)]) ∧ GS w' q p fr frn o A c ws ∧ Below w.heap.size w w'
theorem games2_c (p c : Nat) (fr frn : Int) (o : Nat → Bool) (A : Option Addr) (ws : List Wd) (w : World) (hp : p < w.heap.size) (hn : w.cell? ⟨p, 0, none⟩ = some (.int .i64 frn)) (hl : w.cell? ⟨p, 1, none⟩ = some (.slice A ws.length c)) (hw : Wds w.heap.size w A ws) :
    Calls Try.prog 68 #[.pointer (some ⟨p, 0, none⟩), .int .i64 fr, .agg #[.bool (o 0), .bool (o 1), .bool (o 2), .bool (o 3)]] w (GmPost w p fr frn o A c ws) := by
  refine (games_c p fr o w).mono ?_
  rintro e w2 ⟨rfl, rfl⟩
  have hb : Below w.heap.size w (((w.alloc (.cells #[.pointer (some ⟨p, 0, none⟩)] 90)).alloc (.cells #[.int .i64 fr] 3)).alloc (.cells #[.bool (o 0), .bool (o 1), .bool (o 2), .bool (o 3)] 92)) := (((Below.refl _ _).alloc (Nat.le_refl _) _).alloc (by simp) _).alloc (by simp; omega) _
  have hz := hb.size
  refine ⟨w.heap.size, rfl, ⟨⟨by go_simp, by go_simp, ?_, cell_of_ans hb hn, cell_of_ans hb hl, (hw.below hb).more hz⟩, by simp, by simp; omega⟩, hb⟩
  intro j hj
  rcases (by omega : j = 0 ∨ j = 1 ∨ j = 2 ∨ j = 3) with rfl | rfl | rfl | rfl <;> go_simp
theorem gs_collect {w : World} {q p c : Nat} {fr frn : Int} {o : Nat → Bool} {A : Option Addr} {ws : List Wd} (h : GS w q p fr frn o A c ws) (hl9 : ws.length ≤ 1000000) (hok : ∀ k, k < ws.length → wordB frn (wx ws k) = true) :
    Calls Try.prog 67 #[.func (.func 79) #[] #[.pointer (some ⟨q, 0, none⟩), .pointer (some ⟨q + 1, 0, none⟩), .pointer (some ⟨q + 2, 0, none⟩)]] w (StPost w (gamesL ws fr o)) :=
  collect_c (B := w.heap.size) q p c fr frn o A ws w (Nat.le_refl _) h.2.2 h.2.1 h.1 hl9 hok

set_option maxRecDepth 100000 in
set_option maxHeartbeats 4000000 in
theorem prove_bad (A At : Option Addr) (ws : List Wd) (ts : List Int) (c ct : Nat) (frn : Int) (v : Value) (w : World) (hw : Wds w.heap.size w A ws) (ht : Ints w.heap.size w At ts) (hc : ws.length ≤ c ∧ c ≤ 9223372036854775807) (hct : ts.length ≤ ct ∧ ct ≤ 9223372036854775807) (h : askErr frn ws ts ≠ 0) :
    Calls Try.prog 46 #[.agg #[.int .i64 frn, .slice A ws.length c], .slice At ts.length ct, v] w (Ans w (.bool false)) := by
  have hb0 : Below w.heap.size w (w.alloc (.cells #[.int .i64 frn, .slice A ws.length c] 32)) := (Below.refl _ _).alloc (Nat.le_refl _) _
  have k0 : (w.alloc (.cells #[.int .i64 frn, .slice A ws.length c] 32)).cell? ⟨w.heap.size, 0, none⟩ = some (.int .i64 frn) := by simp
  have k1 : (w.alloc (.cells #[.int .i64 frn, .slice A ws.length c] 32)).cell? ⟨w.heap.size, 1, none⟩ = some (.slice A ws.length c) := by simp
  have HC := Lib.hid (asked_bad A At ws ts c ct frn _ (hw.step hb0) (ht.step hb0) hc hct h)
  have hne : (askErr frn ws ts != 0) = true := by simp [h]
  have HB0 := Lib.hid hb0
  generalize askErr frn ws ts = er at HC hne ⊢
  clear h hb0
  go_enter Try.func46, Try.ntmps46
  go_wp2_with fail
  generalize (w.alloc (.cells #[.int .i64 frn, .slice A ws.length c] 32)) = W0 at k0 k1 HC HB0 ⊢
  refine HC.out.mono ?_
  rintro e w1 ⟨rfl, hb1⟩
  have HB1 := Lib.hid (HB0.out.trans (hb1.mono HB0.out.size))
  clear hb1
  go_wp2_with fail
  go_ret
  exact ⟨rfl, HB1.out.alloc HB1.out.size _⟩

set_option maxRecDepth 100000 in
set_option maxHeartbeats 32000000 in
theorem prove_ok (A At Ag : Option Addr) (ws : List Wd) (ts : List Int) (game : List (List Int)) (c ct cg m : Nat) (w : World) (hw : Wds w.heap.size w A ws) (ht : Ints w.heap.size w At ts) (hg : Grd w.heap.size w Ag game) (hc : ws.length ≤ c ∧ c ≤ 9223372036854775807) (hct : ts.length ≤ ct ∧ ct ≤ 9223372036854775807) (hcg : game.length ≤ cg ∧ cg ≤ 9223372036854775807) (h : askErr (m : Int) ws ts = 0) :
    Calls Try.prog 46 #[.agg #[.int .i64 (m : Int), .slice A ws.length c], .slice At ts.length ct, .slice Ag game.length cg] w (Ans w (.bool (proveB m ws (offT ts) game))) := by
  have hb0 : Below w.heap.size w (w.alloc (.cells #[.int .i64 (m : Int), .slice A ws.length c] 32)) := (Below.refl _ _).alloc (Nat.le_refl _) _
  have k0 : (w.alloc (.cells #[.int .i64 (m : Int), .slice A ws.length c] 32)).cell? ⟨w.heap.size, 0, none⟩ = some (.int .i64 (m : Int)) := by simp
  have k1 : (w.alloc (.cells #[.int .i64 (m : Int), .slice A ws.length c] 32)).cell? ⟨w.heap.size, 1, none⟩ = some (.slice A ws.length c) := by simp
  have HC := Lib.hid (asked_ok A At ws ts c ct (m : Int) _ (hw.step hb0) (ht.step hb0) hc hct h)
  have HB0 := Lib.hid hb0
  obtain ⟨h30, hf1, hf5, hok⟩ := laneOk (askOk h).1
  have HOK := Lib.hid hok
  have hm5 : m ≤ 5 := by omega
  have HG := Lib.hid hg
  have HWL : Hid (ws.length ≤ 1000000) := by show _ ≤ _; omega
  clear h hok hb0 hg
  generalize offT ts = o at HC ⊢
  go_enter Try.func46, Try.ntmps46
  go_wp2_with fail
  generalize (w.alloc (.cells #[.int .i64 (m : Int), .slice A ws.length c] 32)) = W0 at k0 k1 HC HB0 ⊢
  refine HC.out.mono ?_
  rintro e w1 ⟨p, b, rfl, hp1, hp2, hb1, hWat, hbw⟩
  have hb2 : Below w1.heap.size w1 (w1.alloc (.cells #[.bool (o 0), .bool (o 1), .bool (o 2), .bool (o 3)] 92)) := (Below.refl _ _).alloc (Nat.le_refl _) _
  have HO : Hid (B4 (w1.alloc (.cells #[.bool (o 0), .bool (o 1), .bool (o 2), .bool (o 3)] 92)) w1.heap.size o) := B4.new w1 _ _ _ _ _ ⟨rfl, rfl, rfl, rfl⟩
  have HWA := Lib.hid (hWat.step hb2 hbw.size)
  have HB2 : Hid (Below w.heap.size w (w1.alloc (.cells #[.bool (o 0), .bool (o 1), .bool (o 2), .bool (o 3)] 92))) := (HB0.out.trans (hbw.mono HB0.out.size)).alloc (Nat.le_trans HB0.out.size hbw.size) _
  have k2 := HWA.out.cn
  clear hWat hbw hb2
  by_cases hgl : game.length = m
  · have hgb : ((game.length : Int) != (m : Int)) = false := bne_eq_false_iff_eq.2 (by omega)
    have HGL := Lib.hid hgl
    clear hgl
    go_wp2_with fail
    generalize hw2 : w1.alloc (.cells #[.bool (o 0), .bool (o 1), .bool (o 2), .bool (o 3)] 92) = w2 at HO HWA HB2 k2 ⊢
    generalize hg8 : w1.heap.size = g8 at *
    have hp3 : p < w2.heap.size := World.block_lt_of_cell? w2 _ k2
    have hW02 : W0.heap.size ≤ w2.heap.size := by rw [← hw2, World.size_alloc]; omega
    clear hw2 hg8
    go_loopw [34] (fun i wr => ∃ k : Nat, k ≤ game.length ∧ i = .int .i64 k ∧ AllB k (fun f => prR ws o f (rx game f)) ∧ Below w2.heap.size w2 wr) (fun i _ => game.length - (intOf i).toNat)
    case atStart => exact ⟨0, by omega, rfl, fun j hj => by omega, Below.refl _ _⟩
    case round =>
      obtain ⟨k, hk, rfl, hall, hbr⟩ := hrel
      have HALL := Lib.hid hall
      have HBr := Lib.hid hbr
      have HBX : Hid (Below w.heap.size w wr) := HB2.out.trans (hbr.mono HB2.out.size)
      have hzr := hbr.size
      have hWr := HWA.out.step hbr (by omega)
      have HOr := Lib.hid (HO.out.below hbr)
      clear hall hbr
      by_cases h1 : k < game.length
      · have h1i : (k : Int) < (game.length : Int) := by omega
        obtain ⟨d0, d1, d2, d3, -⟩ := HOr.out.cells
        obtain ⟨bg, og, Ax, cx, rfl, _, hc0, hcx, hcx2, hi⟩ := (HG.out.step HBX.out).at_ h1
        have HPR : Hid (prR ws o k (rx game k) = (inB ((rx game k).length : Int) 1 2 && (inB (ix (rx game k) 0) 0 10 && ((decide (ix (rx game k) 0 = 10) == decide ((rx game k).length = 1)) && ((decide ((rx game k).length ≠ 2) || inB (ix (rx game k) 1) 0 (10 - ix (rx game k) 0)) && decide (((10 - ix (rx game k) 0).toNat, if (rx game k).length = 2 then (10 - ix (rx game k) 0 - ix (rx game k) 1).toNat else 0) ∈ gamesL ws (k : Int) o)))))) := rfl
        obtain ⟨xs, hxs⟩ : ∃ xs, xs = rx game k := ⟨_, rfl⟩
        rw [← hxs] at hc0 hcx hi
        have HI := Lib.hid hi
        have HXS : Hid (True) := trivial
        clear hi
        cases t1 : inB (xs.length : Int) 1 2
        · have HNO : Hid (proveB m ws o game = false) := prove_no h1 (by rw [HPR.out, ← hxs, t1]; rfl)
          clear hxs HPR
          go_wp2_with (go_at_call 51; refine (within_c _ _ _ _).mono ?_; rintro e w9 ⟨rfl, rfl⟩)
          go_ret
          exact ⟨ret_bool HNO.out.symm, HBX.out⟩
        · have hlen := (inB_eq _ _ _).1 t1
          obtain ⟨bx, ox, rfl, _, x0c⟩ := HI.out.at_ (k := 0) (by omega)
          have hx0p : 0 < xs.length := by omega
          have hx0pi : (0 : Int) < (xs.length : Int) := by omega
          obtain ⟨x0, hx0⟩ : ∃ x0, x0 = ix xs 0 := ⟨_, rfl⟩
          rw [← hx0, Nat.add_zero] at x0c
          cases t2 : inB x0 0 10
          · have HNO : Hid (proveB m ws o game = false) := prove_no h1 (by rw [HPR.out, ← hxs, ← hx0, t1, t2]; rfl)
            clear hxs HPR hx0
            go_wp2_with (go_at_call 51; refine (within_c _ _ _ _).mono ?_; rintro e w9 ⟨rfl, rfl⟩)
            go_ret
            exact ⟨ret_bool HNO.out.symm, HBX.out⟩
          · obtain ⟨x00, x01⟩ := (inB_eq _ _ _).1 t2
            rcases (by omega : xs.length = 1 ∨ xs.length = 2) with hl1 | hl2
            · have hl1i : ((xs.length : Int) == 1) = true := by rw [hl1]; rfl
              have hl2i : ((xs.length : Int) == 2) = false := by rw [hl1]; rfl
              by_cases h10 : x0 = 10
              · subst h10
                have HPE : Hid (prR ws o k (rx game k) = decide ((0, 0) ∈ gamesL ws (k : Int) o)) := by
                  show _ = _
                  rw [HPR.out, ← hxs, ← hx0, t1, t2, hl1]
                  simp
                have hbz : Below wr.heap.size wr (wr.alloc (.cells #[.int .i64 0, .int .i64 0] 111)) := (Below.refl _ _).alloc (Nat.le_refl _) _
                have s0 : (wr.alloc (.cells #[.int .i64 0, .int .i64 0] 111)).cell? ⟨wr.heap.size, 0, none⟩ = some (.int .i64 0) := by simp
                have s1 : (wr.alloc (.cells #[.int .i64 0, .int .i64 0] 111)).cell? ⟨wr.heap.size, 1, none⟩ = some (.int .i64 0) := by simp
                have HBz := Lib.hid hbz
                have hqz : wr.heap.size < (wr.alloc (.cells #[.int .i64 0, .int .i64 0] 111)).heap.size := by simp
                clear hxs HPR hx0 hl1 hbz
                go_upto_region 16 with (go_at_call 51; refine (within_c _ _ _ _).mono ?_; rintro e w9 ⟨rfl, rfl⟩)
                generalize wr.alloc (.cells #[.int .i64 0, .int .i64 0] 111) = wz at s0 s1 HBz hqz ⊢
                obtain ⟨q12, hq12⟩ : ∃ q, q = wr.heap.size := ⟨_, rfl⟩
                rw [← hq12] at s0 s1 hqz ⊢
                clear hq12
                have HBz2 : Hid (Below w.heap.size w wz) := HBX.out.trans (HBz.out.mono HBX.out.size)
                have e0 := cell_of_ans HBz.out d0
                have e1 := cell_of_ans HBz.out d1
                have e2 := cell_of_ans HBz.out d2
                have e3 := cell_of_ans HBz.out d3
                have HWz := Lib.hid (hWr.step HBz.out (by omega))
                have hpz := HWz.out.cn
                have hpzz := World.block_lt_of_cell? wz _ hpz
                have hzz := HBz.out.size
                have HGM : Hid (∀ W, Below wz.heap.size wz W → Calls Try.prog 68 #[.pointer (some ⟨p, 0, none⟩), .int .i64 (k : Int), .agg #[.bool (o 0), .bool (o 1), .bool (o 2), .bool (o 3)]] W (GmPost W p (k : Int) (m : Int) o A c ws)) := fun W h => games2_c p c (k : Int) (m : Int) o A ws W (by have := h.size; dsimp only at hpzz; omega) (cell_of_ans h HWz.out.cn) (cell_of_ans h HWz.out.cl) ((HWz.out.wd.more (by omega)).step h)
                clear d0 d1 d2 d3 hWr hpz
                have hd : Below wz.heap.size wz wz.drew := (Below.refl _ _).drew
                have HY : Hid (Below wz.heap.size wz wz.drew) := hd
                clear hd
                go_region_held3 (fun w' => w'.cell? ⟨g8, 0, none⟩ = some (.bool (o 0)) ∧ w'.cell? ⟨g8, 1, none⟩ = some (.bool (o 1)) ∧ w'.cell? ⟨g8, 2, none⟩ = some (.bool (o 2)) ∧ w'.cell? ⟨g8, 3, none⟩ = some (.bool (o 3)) ∧ w'.cell? ⟨q12, 0, none⟩ = some (.int .i64 (0)) ∧ w'.cell? ⟨q12, 1, none⟩ = some (.int .i64 (0))) (go_keep) (first | (go_at_call 68; refine (HGM.out _ HY.out).mono ?_; rintro e w5 ⟨qg, rfl, hgs, hb⟩; have HGS := Lib.hid hgs; clear hgs; replace e0 := cell_of_ans (below_drew_l hb) e0; replace e1 := cell_of_ans (below_drew_l hb) e1; replace e2 := cell_of_ans (below_drew_l hb) e2; replace e3 := cell_of_ans (below_drew_l hb) e3; replace s0 := cell_of_ans (below_drew_l hb) s0; replace s1 := cell_of_ans (below_drew_l hb) s1; replace HY := Lib.hid (HY.out.trans (hb.mono HY.out.size)); clear hb) | (go_at_call 67; refine (gs_collect HGS.out HWL.out HOK.out).mono ?_; rintro e w6 ⟨Ar, cr, rfl, hcr, hst, hb⟩; have HST := Lib.hid hst; clear hst; replace e0 := cell_of_ans hb e0; replace e1 := cell_of_ans hb e1; replace e2 := cell_of_ans hb e2; replace e3 := cell_of_ans hb e3; replace s0 := cell_of_ans hb s0; replace s1 := cell_of_ans hb s1; replace HY := Lib.hid (HY.out.trans (hb.mono HY.out.size)); clear hb) | (go_at_call 66; refine (containsS Ar cr (gamesL ws (k : Int) o) 0 0 _ HST.out hcr).mono ?_; rintro e w7 ⟨rfl, hb⟩; replace e0 := cell_of_ans hb e0; replace e1 := cell_of_ans hb e1; replace e2 := cell_of_ans hb e2; replace e3 := cell_of_ans hb e3; replace s0 := cell_of_ans hb s0; replace s1 := cell_of_ans hb s1; replace HY := Lib.hid (HY.out.trans (hb.mono HY.out.size)); clear hb))
                cases hin : decide ((0, 0) ∈ gamesL ws (k : Int) o)
                · have HNO : Hid (proveB m ws o game = false) := prove_no h1 (by rw [HPE.out, hin])
                  clear hin
                  go_wp2_with fail
                  go_ret
                  exact ⟨ret_bool HNO.out.symm, HBz2.out.trans (HY.out.mono HBz2.out.size)⟩
                · have HYES : Hid (prR ws o k (rx game k) = true) := by show _ = _; rw [HPE.out, hin]
                  clear hin
                  go_wp2_with fail
                  go_roundw
                  case rel => exact ⟨k + 1, by omega, by go_num, HALL.out.succ HYES.out, HBr.out.trans ((HBz.out.trans (HY.out.mono HBz.out.size)).mono HBr.out.size)⟩
                  case measure => simp [intOf]; omega
              · have HNO : Hid (proveB m ws o game = false) := prove_no h1 (by rw [HPR.out, ← hxs, ← hx0, t1, t2, hl1, decide_eq_false h10]; rfl)
                have z1 : IntKind.i64.wrap (10 - x0) = 10 - x0 := IntWalk.i64_in _ (by omega)
                have z2 : (10 - x0 == 0) = false := beq_eq_false_iff_ne.2 (by omega)
                clear hxs HPR hx0 h10 hl1
                go_wp2_with (go_at_call 51; refine (within_c _ _ _ _).mono ?_; rintro e w9 ⟨rfl, rfl⟩)
                go_ret
                exact ⟨ret_bool HNO.out.symm, HBX.out.alloc HBX.out.size _⟩
            · have hl1i : ((xs.length : Int) == 1) = false := by rw [hl2]; rfl
              have hl2i : ((xs.length : Int) == 2) = true := by rw [hl2]; rfl
              have hx1pi : (1 : Int) < (xs.length : Int) := by omega
              by_cases h10 : x0 = 10
              · have HNO : Hid (proveB m ws o game = false) := prove_no h1 (by rw [HPR.out, ← hxs, ← hx0, t1, t2, hl2, decide_eq_true h10]; rfl)
                subst h10
                clear hxs HPR hx0 hl2
                go_wp2_with (go_at_call 51; refine (within_c _ _ _ _).mono ?_; rintro e w9 ⟨rfl, rfl⟩)
                go_ret
                exact ⟨ret_bool HNO.out.symm, HBX.out.alloc HBX.out.size _⟩
              · obtain ⟨bx1, ox1, e1, _, x1c⟩ := HI.out.at_ (k := 1) (by omega)
                injection e1 with e1
                injection e1 with e1 e2
                subst e1 e2
                obtain ⟨x1, hx1⟩ : ∃ x1, x1 = ix xs 1 := ⟨_, rfl⟩
                rw [← hx1] at x1c
                obtain ⟨sa, hsa⟩ : ∃ sa : Nat, (sa : Int) = 10 - x0 := ⟨(10 - x0).toNat, by omega⟩
                have z1 : IntKind.i64.wrap (10 - x0) = (sa : Int) := by rw [hsa]; exact IntWalk.i64_in _ (by omega)
                have z2 : ((sa : Int) == 0) = false := beq_eq_false_iff_ne.2 (by omega)
                have hbz : Below wr.heap.size wr (wr.alloc (.cells #[.int .i64 (sa : Int), .int .i64 0] 111)) := (Below.refl _ _).alloc (Nat.le_refl _) _
                have s0 : (wr.alloc (.cells #[.int .i64 (sa : Int), .int .i64 0] 111)).cell? ⟨wr.heap.size, 0, none⟩ = some (.int .i64 (sa : Int)) := by simp
                have HBz := Lib.hid hbz
                have x1c' := cell_of_ans hbz x1c
                have HS2 : Hid ((wr.alloc (.cells #[.int .i64 (sa : Int), .int .i64 0] 111)).heap[wr.heap.size]? = some (.cells #[.int .i64 (sa : Int), .int .i64 0] 111 (0, 0))) := World.alloc_heap_new _ _
                cases t3 : inB x1 0 (sa : Int)
                · have HNO : Hid (proveB m ws o game = false) := prove_no h1 (by rw [HPR.out, ← hxs, ← hx0, ← hx1, t1, t2, hl2, decide_eq_false h10, ← hsa, t3]; rfl)
                  clear hxs HPR hx0 h10 hl2 hx1 hsa hbz
                  go_upto_region 13 with (go_at_call 51; refine (within_c _ _ _ _).mono ?_; rintro e w9 ⟨rfl, rfl⟩)
                  generalize wr.alloc (.cells #[.int .i64 (sa : Int), .int .i64 0] 111) = wz at s0 HBz HS2 x1c' ⊢
                  have HWI : Hid (∀ W, Calls Try.prog 51 #[.int .i64 x1, .int .i64 0, .int .i64 (sa : Int)] W fun e w' => e = .returned (.bool false) ∧ w' = W) := fun W => (within_c _ _ _ W).mono fun e w' h => by rw [t3] at h; exact ⟨h.1, h.2.symm⟩
                  clear t3
                  go_quiet ((first | (go_at_call 51; exact Calls.quiet_of_same (HWI.out _))))
                  go_wp2_with fail
                  go_ret
                  exact ⟨ret_bool HNO.out.symm, below_drewN (HBX.out.trans (HBz.out.mono HBX.out.size)) _⟩
                · obtain ⟨x10, x11⟩ := (inB_eq _ _ _).1 t3
                  obtain ⟨sb, hsb⟩ : ∃ sb : Nat, (sb : Int) = (sa : Int) - x1 := ⟨((sa : Int) - x1).toNat, by omega⟩
                  have z3 : IntKind.i64.wrap ((sa : Int) - x1) = (sb : Int) := by rw [hsb]; exact IntWalk.i64_in _ (by omega)
                  have HPE : Hid (prR ws o k (rx game k) = decide ((sa, sb) ∈ gamesL ws (k : Int) o)) := by
                    show _ = _
                    rw [HPR.out, ← hxs, ← hx0, ← hx1, t1, t2, hl2, decide_eq_false h10, ← hsa, t3, ← hsb, if_pos rfl, Int.toNat_natCast, Int.toNat_natCast]
                    simp
                  clear hxs HPR hx0 h10 hl2 hx1 hsa hbz hsb
                  go_upto_region 13 with (go_at_call 51; refine (within_c _ _ _ _).mono ?_; rintro e w9 ⟨rfl, rfl⟩)
                  generalize wr.alloc (.cells #[.int .i64 (sa : Int), .int .i64 0] 111) = wz0 at s0 HBz HS2 x1c' ⊢
                  have HWI : Hid (∀ W, Calls Try.prog 51 #[.int .i64 x1, .int .i64 0, .int .i64 (sa : Int)] W fun e w' => e = .returned (.bool true) ∧ w' = W) := fun W => (within_c _ _ _ W).mono fun e w' h => by rw [t3] at h; exact ⟨h.1, h.2.symm⟩
                  clear t3
                  go_quiet ((first | (go_at_call 51; exact Calls.quiet_of_same (HWI.out _))))
                  go_upto_region 15 with fail
                  have s0y : (wz0.drewN nq).cell? ⟨wr.heap.size, 0, none⟩ = some (.int .i64 (sa : Int)) := s0
                  have x1y : (wz0.drewN nq).cell? ⟨bx, ox + 1, none⟩ = some (.int .i64 x1) := x1c'
                  have HSY : Hid ((wz0.drewN nq).heap[wr.heap.size]? = some (.cells #[.int .i64 (sa : Int), .int .i64 0] 111 (0, 0))) := HS2.out
                  have HBY : Hid (Below wr.heap.size wr (wz0.drewN nq)) := below_drewN HBz.out _
                  clear s0 x1c' HS2 HBz
                  generalize wz0.drewN nq = wy at s0y x1y HSY HBY ⊢
                  have s1y : wy.cell? ⟨wr.heap.size, 1, none⟩ = some (.int .i64 0) := by have := HSY.out; simp [World.cell?, this]
                  have f1y : wy.frozen? ⟨wr.heap.size, 1, none⟩ = false := by have := HSY.out; simp [World.frozen?, this]
                  have hqz0 : wr.heap.size < wy.heap.size := (Array.getElem?_eq_some_iff.1 HSY.out).1
                  go_still_tail 7, (by kernel_rfl)
                  change wpList _ _ _ _ _ wy.drew
                  go_upto_region 16 with fail
                  have s0' : (wy.setCell ⟨wr.heap.size, 1, none⟩ (.int .i64 (sb : Int))).cell? ⟨wr.heap.size, 0, none⟩ = some (.int .i64 (sa : Int)) := by have := HSY.out; simp [World.cell?, World.setCell, Array.getElem?_modify, this]
                  have s1' : (wy.setCell ⟨wr.heap.size, 1, none⟩ (.int .i64 (sb : Int))).cell? ⟨wr.heap.size, 1, none⟩ = some (.int .i64 (sb : Int)) := by have := HSY.out; simp [World.cell?, World.setCell, Array.getElem?_modify, this]
                  have s0 : (wy.setCell ⟨wr.heap.size, 1, none⟩ (.int .i64 (sb : Int))).drew.cell? ⟨wr.heap.size, 0, none⟩ = some (.int .i64 (sa : Int)) := s0'
                  have s1 : (wy.setCell ⟨wr.heap.size, 1, none⟩ (.int .i64 (sb : Int))).drew.cell? ⟨wr.heap.size, 1, none⟩ = some (.int .i64 (sb : Int)) := s1'
                  have hbz : Below wr.heap.size wr (wy.setCell ⟨wr.heap.size, 1, none⟩ (.int .i64 (sb : Int))).drew := (HBY.out.setCell (Nat.le_refl _) _).drew
                  have hqz : wr.heap.size < (wy.setCell ⟨wr.heap.size, 1, none⟩ (.int .i64 (sb : Int))).drew.heap.size := by
                    show wr.heap.size < (wy.setCell ⟨wr.heap.size, 1, none⟩ (.int .i64 (sb : Int))).heap.size
                    rw [World.size_setCell]; exact hqz0
                  have HBz := Lib.hid hbz
                  clear hbz s0y x1y s1y f1y hqz0 s0' s1'
                  generalize (wy.setCell ⟨wr.heap.size, 1, none⟩ (.int .i64 (sb : Int))).drew = wz at s0 s1 HBz hqz ⊢
                  obtain ⟨q12, hq12⟩ : ∃ q, q = wr.heap.size := ⟨_, rfl⟩
                  rw [← hq12] at s0 s1 hqz ⊢
                  clear hq12
                  have HBz2 : Hid (Below w.heap.size w wz) := HBX.out.trans (HBz.out.mono HBX.out.size)
                  have e0 := cell_of_ans HBz.out d0
                  have e1 := cell_of_ans HBz.out d1
                  have e2 := cell_of_ans HBz.out d2
                  have e3 := cell_of_ans HBz.out d3
                  have HWz := Lib.hid (hWr.step HBz.out (by omega))
                  have hpz := HWz.out.cn
                  have hpzz := World.block_lt_of_cell? wz _ hpz
                  have hzz := HBz.out.size
                  have HGM : Hid (∀ W, Below wz.heap.size wz W → Calls Try.prog 68 #[.pointer (some ⟨p, 0, none⟩), .int .i64 (k : Int), .agg #[.bool (o 0), .bool (o 1), .bool (o 2), .bool (o 3)]] W (GmPost W p (k : Int) (m : Int) o A c ws)) := fun W h => games2_c p c (k : Int) (m : Int) o A ws W (by have := h.size; dsimp only at hpzz; omega) (cell_of_ans h HWz.out.cn) (cell_of_ans h HWz.out.cl) ((HWz.out.wd.more (by omega)).step h)
                  clear d0 d1 d2 d3 hWr hpz
                  have hd : Below wz.heap.size wz wz.drew := (Below.refl _ _).drew
                  have HY : Hid (Below wz.heap.size wz wz.drew) := hd
                  clear hd
                  go_region_held3 (fun w' => w'.cell? ⟨g8, 0, none⟩ = some (.bool (o 0)) ∧ w'.cell? ⟨g8, 1, none⟩ = some (.bool (o 1)) ∧ w'.cell? ⟨g8, 2, none⟩ = some (.bool (o 2)) ∧ w'.cell? ⟨g8, 3, none⟩ = some (.bool (o 3)) ∧ w'.cell? ⟨q12, 0, none⟩ = some (.int .i64 (sa : Int)) ∧ w'.cell? ⟨q12, 1, none⟩ = some (.int .i64 (sb : Int))) (go_keep) (first | (go_at_call 68; refine (HGM.out _ HY.out).mono ?_; rintro e w5 ⟨qg, rfl, hgs, hb⟩; have HGS := Lib.hid hgs; clear hgs; replace e0 := cell_of_ans (below_drew_l hb) e0; replace e1 := cell_of_ans (below_drew_l hb) e1; replace e2 := cell_of_ans (below_drew_l hb) e2; replace e3 := cell_of_ans (below_drew_l hb) e3; replace s0 := cell_of_ans (below_drew_l hb) s0; replace s1 := cell_of_ans (below_drew_l hb) s1; replace HY := Lib.hid (HY.out.trans (hb.mono HY.out.size)); clear hb) | (go_at_call 67; refine (gs_collect HGS.out HWL.out HOK.out).mono ?_; rintro e w6 ⟨Ar, cr, rfl, hcr, hst, hb⟩; have HST := Lib.hid hst; clear hst; replace e0 := cell_of_ans hb e0; replace e1 := cell_of_ans hb e1; replace e2 := cell_of_ans hb e2; replace e3 := cell_of_ans hb e3; replace s0 := cell_of_ans hb s0; replace s1 := cell_of_ans hb s1; replace HY := Lib.hid (HY.out.trans (hb.mono HY.out.size)); clear hb) | (go_at_call 66; refine (containsS Ar cr (gamesL ws (k : Int) o) sa sb _ HST.out hcr).mono ?_; rintro e w7 ⟨rfl, hb⟩; replace e0 := cell_of_ans hb e0; replace e1 := cell_of_ans hb e1; replace e2 := cell_of_ans hb e2; replace e3 := cell_of_ans hb e3; replace s0 := cell_of_ans hb s0; replace s1 := cell_of_ans hb s1; replace HY := Lib.hid (HY.out.trans (hb.mono HY.out.size)); clear hb))
                  cases hin : decide ((sa, sb) ∈ gamesL ws (k : Int) o)
                  · have HNO : Hid (proveB m ws o game = false) := prove_no h1 (by rw [HPE.out, hin])
                    clear hin
                    go_wp2_with fail
                    go_ret
                    exact ⟨ret_bool HNO.out.symm, HBz2.out.trans (HY.out.mono HBz2.out.size)⟩
                  · have HYES : Hid (prR ws o k (rx game k) = true) := by show _ = _; rw [HPE.out, hin]
                    clear hin
                    go_wp2_with fail
                    go_roundw
                    case rel => exact ⟨k + 1, by omega, by go_num, HALL.out.succ HYES.out, HBr.out.trans ((HBz.out.trans (HY.out.mono HBz.out.size)).mono HBr.out.size)⟩
                    case measure => simp [intOf]; omega
      · obtain rfl : k = game.length := by omega
        have h1i : ¬ (game.length : Int) < (game.length : Int) := by omega
        have HYES : Hid (proveB m ws o game = true) := prove_yes HGL.out HALL.out
        clear hWr
        go_wp2_with fail
        go_ret
        exact ⟨ret_bool HYES.out.symm, HBX.out⟩
  · have hgb : ((game.length : Int) != (m : Int)) = true := by simp; omega
    have HNO : Hid (proveB m ws o game = false) := prove_len hgl
    clear hgl
    go_wp2_with fail
    go_ret
    exact ⟨ret_bool HNO.out.symm, HB2.out⟩
end Go.Proofs.Ytadjkinpimmhkaa
