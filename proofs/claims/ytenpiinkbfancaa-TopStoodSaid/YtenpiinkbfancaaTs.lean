/-
  The walk of the statement TopStood.
-/
import Derived.Test.YtenpiinkbfancaaStG
import Derived.Test.YtenpiinkbfancaaStoodM
import Derived.Test.YtenpiinkbfancaaAppS
import Derived.Test.YtenpiinkbfancaaSnF
import Derived.Test.YtenpiinkbfancaaEq34
namespace Go.Proofs.Ytenpiinkbfancaa.Rk
open Go.RowKit
set_option linter.unusedSimpArgs false
set_option linter.unusedVariables false

attribute [local go_sem] Oper.semAt_some
theorem _root_.Go.Proofs.Ytenpiinkbfancaa.StG.step {z : Nat} {W W' : World} {uw ug : Value} {ws : List Sn.Wd} {vs : List Value} {R : List (List Int)} {A : Option Addr} {ts : List Int} (h : StG z W uw ws ug vs R A ts) (hb : Below W.heap.size W W') : StG z W' uw ws ug vs R A ts := h.kept hb
theorem _root_.Go.Proofs.Ytenpiinkbfancaa.Sn.LB.step {w w' : World} {g : Nat} {fr : Int} {u : Value} {ty : TypeId} (h : Sn.LB w g fr u ty) (hb : Below w.heap.size w w') : Sn.LB w' g fr u ty := h.below hb
/-- What holds behind f frames. -/
def StR (a b m : Nat) (ws : List Int) (yv : World) (f : Nat) (wv gv : Value) (wr : World) : Prop :=
  ∃ (ls : List Nat) (uw : Value) (B : Option Addr) (cB : Nat) (vs : List Value), wv = .slice B ws.length cB ∧ (ws.length ≤ cB ∧ cB ≤ 9223372036854775807) ∧ (0 < ws.length → ∀ b o, B = some ⟨b, o, none⟩ → b ≠ yv.heap.size) ∧ ls.length = f ∧ (∀ l ∈ ls, a ≤ l ∧ l ≤ b) ∧
    StG (yv.heap.size + 1) wr uw (Sn.stoodL a b f) gv vs (ls.map Sn.stoodR) B (rotN ws f) ∧ Sn.LB wr yv.heap.size (m : Int) uw 40 ∧ Below yv.heap.size yv wr
set_option maxRecDepth 100000 in
set_option maxHeartbeats 32000000 in
theorem stood4_c (htold : ∀ w, Calls Try.prog 8 #[] w (Ans w (.bool true))) (r : Rk) (A Ab Aw : Option Addr) (c cb cw fb : Nat) (ball : List Rg) (ws : List Int) (w : World) (hl : Lks w.heap.size w A r.links) (hc : r.links.length ≤ c ∧ c ≤ 9223372036854775807) (hball : Rgs w.heap.size w Ab ball) (hcb : ball.length ≤ cb ∧ cb ≤ 9223372036854775807) (hws : Wds w.heap.size w Aw ws) (hcw : ws.length ≤ cw ∧ cw ≤ 9223372036854775807) (hwl : ws.length ≤ 70368744175616) (hfb : fb < 256) :
    Calls Try.prog 4 #[.agg #[.int .i64 r.rows, .int .i64 r.mid, .int .i64 r.gap, .int .i64 r.reach, .slice A r.links.length c], .slice Ab ball.length cb, .slice Aw ws.length cw, .int .u8 (fb : Int)] w (Ans w (.bool true)) := by
  have hb0 : Below w.heap.size w (w.alloc (.cells #[.int .i64 r.rows, .int .i64 r.mid, .int .i64 r.gap, .int .i64 r.reach, .slice A r.links.length c] 58)) := (Below.refl _ _).alloc (Nat.le_refl _) _
  have k0 : (w.alloc (.cells #[.int .i64 r.rows, .int .i64 r.mid, .int .i64 r.gap, .int .i64 r.reach, .slice A r.links.length c] 58)).cell? ⟨w.heap.size, 0, none⟩ = some (.int .i64 r.rows) := by simp
  have k1 : (w.alloc (.cells #[.int .i64 r.rows, .int .i64 r.mid, .int .i64 r.gap, .int .i64 r.reach, .slice A r.links.length c] 58)).cell? ⟨w.heap.size, 1, none⟩ = some (.int .i64 r.mid) := by simp
  have k2 : (w.alloc (.cells #[.int .i64 r.rows, .int .i64 r.mid, .int .i64 r.gap, .int .i64 r.reach, .slice A r.links.length c] 58)).cell? ⟨w.heap.size, 2, none⟩ = some (.int .i64 r.gap) := by simp
  have k3 : (w.alloc (.cells #[.int .i64 r.rows, .int .i64 r.mid, .int .i64 r.gap, .int .i64 r.reach, .slice A r.links.length c] 58)).cell? ⟨w.heap.size, 3, none⟩ = some (.int .i64 r.reach) := by simp
  have k4 : (w.alloc (.cells #[.int .i64 r.rows, .int .i64 r.mid, .int .i64 r.gap, .int .i64 r.reach, .slice A r.links.length c] 58)).cell? ⟨w.heap.size, 4, none⟩ = some (.slice A r.links.length c) := by simp
  have HB := Lib.hid hb0
  have HL := Lib.hid (hl.step hb0)
  have HBa := Lib.hid (hball.step hb0)
  have HWs := Lib.hid (hws.step hb0)
  have HWK := Lib.hid htold
  have HTh := Lib.hid (fun W => thin23_c r A none Ab c 0 0 ball.length cb W)
  have HFa := Lib.hid (fun W h => fault68_c r A c W h hc)
  have HIB := Lib.hid (fun W h => isBall69_c r A Ab c cb ball W h hcb)
  clear hb0 hl hball hws htold
  go_enter Try.func4, Try.ntmps4
  go_wp2_with fail
  generalize (w.alloc (.cells #[.int .i64 r.rows, .int .i64 r.mid, .int .i64 r.gap, .int .i64 r.reach, .slice A r.links.length c] 58)) = W0 at *
  cases hth : thinB r.links.length 0 ball.length
  · rw [hth] at HTh
    clear hth
    refine (HTh.out _).mono ?_
    rintro e y1 ⟨rfl, hb⟩
    replace HL := Lib.hid (HL.out.step hb)
    replace HBa := Lib.hid (HBa.out.step hb)
    replace HWs := Lib.hid (HWs.out.step hb)
    replace k0 := cell_of_ans hb k0
    replace k1 := cell_of_ans hb k1
    replace k2 := cell_of_ans hb k2
    replace k3 := cell_of_ans hb k3
    replace k4 := cell_of_ans hb k4
    replace HB := Lib.hid (HB.out.trans (hb.mono HB.out.size))
    clear hb
    go_wp2_with fail
    refine (HWK.out _).mono ?_
    rintro e y2 ⟨rfl, hb⟩
    replace HL := Lib.hid (HL.out.step hb)
    replace HBa := Lib.hid (HBa.out.step hb)
    replace HWs := Lib.hid (HWs.out.step hb)
    replace k0 := cell_of_ans hb k0
    replace k1 := cell_of_ans hb k1
    replace k2 := cell_of_ans hb k2
    replace k3 := cell_of_ans hb k3
    replace k4 := cell_of_ans hb k4
    replace HB := Lib.hid (HB.out.trans (hb.mono HB.out.size))
    clear hb
    go_wp2_with fail
    go_ret
    exact ⟨rfl, HB.out⟩
  rw [hth] at HTh
  refine (HTh.out _).mono ?_
  rintro e y3 ⟨rfl, hb⟩
  replace HL := Lib.hid (HL.out.step hb)
  replace HBa := Lib.hid (HBa.out.step hb)
  replace HWs := Lib.hid (HWs.out.step hb)
  replace k0 := cell_of_ans hb k0
  replace k1 := cell_of_ans hb k1
  replace k2 := cell_of_ans hb k2
  replace k3 := cell_of_ans hb k3
  replace k4 := cell_of_ans hb k4
  replace HB := Lib.hid (HB.out.trans (hb.mono HB.out.size))
  clear hb
  by_cases hle : rackErr r = 0
  rotate_left 1
  · have hle2 : (rackErr r != 0) = true := by simpa using hle
    clear hle
    go_wp2_with fail
    refine (HFa.out _ HL.out).mono ?_
    rintro e y4 ⟨rfl, hb⟩
    replace HL := Lib.hid (HL.out.step hb)
    replace HBa := Lib.hid (HBa.out.step hb)
    replace HWs := Lib.hid (HWs.out.step hb)
    replace k0 := cell_of_ans hb k0
    replace k1 := cell_of_ans hb k1
    replace k2 := cell_of_ans hb k2
    replace k3 := cell_of_ans hb k3
    replace k4 := cell_of_ans hb k4
    replace HB := Lib.hid (HB.out.trans (hb.mono HB.out.size))
    clear hb
    go_wp2_with fail
    refine (HWK.out _).mono ?_
    rintro e y5 ⟨rfl, hb⟩
    replace HL := Lib.hid (HL.out.step hb)
    replace HBa := Lib.hid (HBa.out.step hb)
    replace HWs := Lib.hid (HWs.out.step hb)
    replace k0 := cell_of_ans hb k0
    replace k1 := cell_of_ans hb k1
    replace k2 := cell_of_ans hb k2
    replace k3 := cell_of_ans hb k3
    replace k4 := cell_of_ans hb k4
    replace HB := Lib.hid (HB.out.trans (hb.mono HB.out.size))
    clear hb
    go_wp2_with fail
    go_ret
    exact ⟨rfl, HB.out⟩
  rw [hle] at HFa
  go_wp2_with fail
  refine (HFa.out _ HL.out).mono ?_
  rintro e y6 ⟨rfl, hb⟩
  replace HL := Lib.hid (HL.out.step hb)
  replace HBa := Lib.hid (HBa.out.step hb)
  replace HWs := Lib.hid (HWs.out.step hb)
  replace k0 := cell_of_ans hb k0
  replace k1 := cell_of_ans hb k1
  replace k2 := cell_of_ans hb k2
  replace k3 := cell_of_ans hb k3
  replace k4 := cell_of_ans hb k4
  replace HB := Lib.hid (HB.out.trans (hb.mono HB.out.size))
  clear hb
  by_cases h4 : r.rows = 4
  rotate_left 1
  · have h42 : (r.rows != 4) = true := by simpa using h4
    clear h4
    go_wp2_with fail
    refine (HWK.out _).mono ?_
    rintro e y7 ⟨rfl, hb⟩
    replace HL := Lib.hid (HL.out.step hb)
    replace HBa := Lib.hid (HBa.out.step hb)
    replace HWs := Lib.hid (HWs.out.step hb)
    replace k0 := cell_of_ans hb k0
    replace k1 := cell_of_ans hb k1
    replace k2 := cell_of_ans hb k2
    replace k3 := cell_of_ans hb k3
    replace k4 := cell_of_ans hb k4
    replace HB := Lib.hid (HB.out.trans (hb.mono HB.out.size))
    clear hb
    go_wp2_with fail
    go_ret
    exact ⟨rfl, HB.out⟩
  have h42 : (r.rows != 4) = false := by simp [h4]
  have HLE := Lib.hid hle
  have HH4 := Lib.hid h4
  clear hle h4
  cases hbl : ballB r.rows ball
  · rw [hbl] at HIB
    clear hbl
    go_wp2_with fail
    refine (HIB.out _ HBa.out).mono ?_
    rintro e y8 ⟨rfl, hb⟩
    replace HL := Lib.hid (HL.out.step hb)
    replace HBa := Lib.hid (HBa.out.step hb)
    replace HWs := Lib.hid (HWs.out.step hb)
    replace k0 := cell_of_ans hb k0
    replace k1 := cell_of_ans hb k1
    replace k2 := cell_of_ans hb k2
    replace k3 := cell_of_ans hb k3
    replace k4 := cell_of_ans hb k4
    replace HB := Lib.hid (HB.out.trans (hb.mono HB.out.size))
    clear hb
    go_wp2_with fail
    refine (HWK.out _).mono ?_
    rintro e y9 ⟨rfl, hb⟩
    replace HL := Lib.hid (HL.out.step hb)
    replace HBa := Lib.hid (HBa.out.step hb)
    replace HWs := Lib.hid (HWs.out.step hb)
    replace k0 := cell_of_ans hb k0
    replace k1 := cell_of_ans hb k1
    replace k2 := cell_of_ans hb k2
    replace k3 := cell_of_ans hb k3
    replace k4 := cell_of_ans hb k4
    replace HB := Lib.hid (HB.out.trans (hb.mono HB.out.size))
    clear hb
    go_wp2_with fail
    go_ret
    exact ⟨rfl, HB.out⟩
  rw [hbl] at HIB
  have HET := Lib.hid (all_thr HLE.out HH4.out hbl)
  clear hbl
  go_wp2_with fail
  refine (HIB.out _ HBa.out).mono ?_
  rintro e y10 ⟨rfl, hb⟩
  replace HL := Lib.hid (HL.out.step hb)
  replace HBa := Lib.hid (HBa.out.step hb)
  replace HWs := Lib.hid (HWs.out.step hb)
  replace k0 := cell_of_ans hb k0
  replace k1 := cell_of_ans hb k1
  replace k2 := cell_of_ans hb k2
  replace k3 := cell_of_ans hb k3
  replace k4 := cell_of_ans hb k4
  replace HB := Lib.hid (HB.out.trans (hb.mono HB.out.size))
  clear hb
  have het := HET.out
  rw [thinB, Bool.and_eq_true, Bool.and_eq_true, decide_eq_true_eq, decide_eq_true_eq, decide_eq_true_eq] at hth
  obtain ⟨hl16, -, hb8⟩ := hth
  have hlen : r.links.length ≤ 1000000 := by omega
  have hbln : ball.length ≤ 1000000 := by omega
  have hrg := (thr_parts het).2.2.2.2
  obtain ⟨hab, hb10⟩ := all_left het
  have HOF := Lib.hid (fun W => of42_c r A c 1023 W (thr_parts het).2.1 (by omega))
  rw [all_of HH4.out] at HOF
  have HLF := Lib.hid (fun (A4 xA4 Ab4 : Option Addr) (c4 cx4 cb4 : Nat) (W : World) h1 h2 h3 h4 h5 h6 => left21_c r A4 xA4 Ab4 c4 cx4 cb4 all10 ball W h1 h2 h3 h4 h5 h6)
  rw [het] at HLF
  have HPK := Lib.hid (fun (ts : List Int) (Aw4 : Option Addr) (cw4 : Nat) W h1 h2 h3 h4 => picked49_c r A Ab Aw4 c cb cw4 ball ts W h1 hc h2 hcb h3 h4 (fun k hk => ⟨(hrg k hk).1, (hrg k hk).2.1, (hrg k hk).2.2.1⟩) hl16 hb8)
  have HHT := Lib.hid (fun (ts : List Int) (A4 xA4 Ab4 yA sA : Option Addr) (c4 cx4 cb4 cy cs : Nat) (W : World) h1 h2 h3 h4 h5 h6 h7 h8 h9 h10 => (show Calls Try.prog 25 #[.agg #[.int .i64 r.rows, .int .i64 r.mid, .int .i64 r.gap, .int .i64 r.reach, .slice A4 r.links.length c4], .slice xA4 all10.length cx4, .slice Ab4 ball.length cb4, .slice yA (pickB ball ts).length cy, .slice sA (pickC r.links ts).length cs] W (HitP W (hitL r all10 ball (pickB ball ts) (pickC r.links ts)) 0) by
    have h := hit_c r A4 xA4 Ab4 yA sA c4 cx4 cb4 cy cs all10 (pickB ball ts) ball (pickC r.links ts) W h1 h2 h3 h4 h5 h6 h7 h8 h9 h10
    rwa [hit_ok het] at h))
  have HTL := Lib.hid (fun ts => truth_len (ws := ts) het)
  generalize leftV r all10 ball = lv at *
  obtain ⟨a, b⟩ := lv
  dsimp only at hab hb10 HLF HTL
  clear HET het hrg HTh HFa HIB h42
  go_wp2_with fail
  refine (HOF.out _).mono ?_
  rintro e y11 ⟨xA, cx, rfl, hO, hb⟩
  replace HL := Lib.hid (HL.out.step hb)
  replace HBa := Lib.hid (HBa.out.step hb)
  replace HWs := Lib.hid (HWs.out.step hb)
  replace k0 := cell_of_ans hb k0
  replace k1 := cell_of_ans hb k1
  replace k2 := cell_of_ans hb k2
  replace k3 := cell_of_ans hb k3
  replace k4 := cell_of_ans hb k4
  replace HB := Lib.hid (HB.out.trans (hb.mono HB.out.size))
  clear hb
  obtain ⟨hcx1, hcx2, hO⟩ := isInts_parts (ownsRow_isInts hO)
  have HX := Lib.hid hO
  clear hO HOF
  have hcx : all10.length ≤ cx ∧ cx ≤ 9223372036854775807 := ⟨hcx1, hcx2⟩
  have hxl : all10.length = 10 := rfl
  go_wp2_with fail
  refine (rack18_c r A c _ HL.out hc hlen).mono ?_
  rintro e y12 ⟨Ay12, cy12, rfl, ⟨hly12, hcy12⟩, hb⟩
  replace HL := Lib.hid (HL.out.step hb)
  replace HBa := Lib.hid (HBa.out.step hb)
  replace HWs := Lib.hid (HWs.out.step hb)
  replace k0 := cell_of_ans hb k0
  replace k1 := cell_of_ans hb k1
  replace k2 := cell_of_ans hb k2
  replace k3 := cell_of_ans hb k3
  replace k4 := cell_of_ans hb k4
  replace HX := Lib.hid (HX.out.step hb)
  replace HB := Lib.hid (HB.out.trans (hb.mono HB.out.size))
  clear hb
  have HLy12 := Lib.hid hly12
  clear hly12
  have HNL : Hid (OwnN y12.heap.size y12 (.slice none 0 0) []) := OwnN.nil _ _
  go_wp2_with (at_builtin; refine wpList_appS (.const (.slice none 0 0)) (.tmp 49) rfl rfl y12.heap.size _ _ [] all10 0 all10.length cx y12.heap.size xA rfl rfl HNL (Lib.hid rfl) HX (Lib.hid rfl) (by rw [hxl]; omega) (Nat.le_refl _) ?_; intro Ay13 cy13 y13 HOy13 HBy13)
  replace HOy13 : Hid (OwnN y12.heap.size y13 (.slice Ay13 (0 + all10.length) cy13) all10) := HOy13
  try rw [Nat.zero_add] at HOy13
  try simp only [Nat.zero_add]
  have hb := HBy13.out
  clear HBy13 HNL
  replace HL := Lib.hid (HL.out.step hb)
  replace HBa := Lib.hid (HBa.out.step hb)
  replace HWs := Lib.hid (HWs.out.step hb)
  replace k0 := cell_of_ans hb k0
  replace k1 := cell_of_ans hb k1
  replace k2 := cell_of_ans hb k2
  replace k3 := cell_of_ans hb k3
  replace k4 := cell_of_ans hb k4
  replace HX := Lib.hid (HX.out.step hb)
  replace HLy12 := Lib.hid (HLy12.out.step hb)
  replace HB := Lib.hid (HB.out.trans (hb.mono HB.out.size))
  clear hb
  obtain ⟨-, hpy13, hqy13, hiy13⟩ := ints_parts HOy13.out.isInts
  have HIy13 := Lib.hid hiy13
  clear hiy13 HOy13
  refine (ball20_c Ab cb ball _ HBa.out hcb hbln).mono ?_
  rintro e y14 ⟨Gy14, gy14, rfl, ⟨hgy14, hhy14, hjy14⟩, hb⟩
  replace HL := Lib.hid (HL.out.step hb)
  replace HBa := Lib.hid (HBa.out.step hb)
  replace HWs := Lib.hid (HWs.out.step hb)
  replace k0 := cell_of_ans hb k0
  replace k1 := cell_of_ans hb k1
  replace k2 := cell_of_ans hb k2
  replace k3 := cell_of_ans hb k3
  replace k4 := cell_of_ans hb k4
  replace HX := Lib.hid (HX.out.step hb)
  replace HLy12 := Lib.hid (HLy12.out.step hb)
  replace HIy13 := Lib.hid (HIy13.out.step hb)
  replace HB := Lib.hid (HB.out.trans (hb.mono HB.out.size))
  clear hb
  have HGy14 := Lib.hid hgy14
  clear hgy14
  go_wp2_with fail
  refine (HLF.out Ay12 Ay13 Gy14 cy12 cy13 gy14 _ HLy12.out hcy12 HIy13.out ⟨hpy13, hqy13⟩ HGy14.out ⟨hhy14, hjy14⟩).mono ?_
  rintro e y15 ⟨rfl, hb⟩
  replace HL := Lib.hid (HL.out.step hb)
  replace HBa := Lib.hid (HBa.out.step hb)
  replace HWs := Lib.hid (HWs.out.step hb)
  replace k0 := cell_of_ans hb k0
  replace k1 := cell_of_ans hb k1
  replace k2 := cell_of_ans hb k2
  replace k3 := cell_of_ans hb k3
  replace k4 := cell_of_ans hb k4
  replace HX := Lib.hid (HX.out.step hb)
  replace HLy12 := Lib.hid (HLy12.out.step hb)
  replace HIy13 := Lib.hid (HIy13.out.step hb)
  replace HGy14 := Lib.hid (HGy14.out.step hb)
  replace HB := Lib.hid (HB.out.trans (hb.mono HB.out.size))
  clear hb
  clear HLy12 HIy13 HGy14
  clear HLF
  go_upto_region 5 with fail
  have hb : Below y15.heap.size y15 (y15.alloc (.cells #[.int .i64 (a : Int), .int .i64 (b : Int)] 64)) := (Below.refl _ _).alloc (Nat.le_refl _) _
  have n0 : (y15.alloc (.cells #[.int .i64 (a : Int), .int .i64 (b : Int)] 64)).cell? ⟨y15.heap.size, 0, none⟩ = some (.int .i64 (a : Int)) := by simp
  have n1 : (y15.alloc (.cells #[.int .i64 (a : Int), .int .i64 (b : Int)] 64)).cell? ⟨y15.heap.size, 1, none⟩ = some (.int .i64 (b : Int)) := by simp
  replace HL := Lib.hid (HL.out.step hb)
  replace HBa := Lib.hid (HBa.out.step hb)
  replace HWs := Lib.hid (HWs.out.step hb)
  replace k0 := cell_of_ans hb k0
  replace k1 := cell_of_ans hb k1
  replace k2 := cell_of_ans hb k2
  replace k3 := cell_of_ans hb k3
  replace k4 := cell_of_ans hb k4
  replace HX := Lib.hid (HX.out.step hb)
  replace HB := Lib.hid (HB.out.trans (hb.mono HB.out.size))
  clear hb
  generalize (y15.alloc (.cells #[.int .i64 (a : Int), .int .i64 (b : Int)] 64)) = y16 at *
  generalize y15.heap.size = qy16 at *
  have t1 : decide ((a : Int) < 0) = false := decide_eq_false (by omega)
  have t2 : decide ((b : Int) > 10) = false := decide_eq_false (by omega)
  have t2' : decide (10 < (b : Int)) = false := decide_eq_false (by omega)
  have t3 : decide ((a : Int) > (b : Int)) = false := decide_eq_false (by omega)
  have t3' : decide ((b : Int) < (a : Int)) = false := decide_eq_false (by omega)
  have t4 : decide (10 < b) = false := decide_eq_false (by omega)
  have t5 : decide (b < a) = false := decide_eq_false (by omega)
  go_upto_region 7 with fail
  obtain ⟨fm, hfm⟩ : ∃ fm, fm = fb % 5 := ⟨_, rfl⟩
  have hm1 : ((fb : Nat) : Int).tmod 5 = (fm : Int) := by rw [Int.tmod_eq_emod_of_nonneg (by omega)]; omega
  have hm2 : ((fb : Nat) : Int) % 5 = (fm : Int) := by omega
  have hm3 : IntKind.i64.wrap (fb : Int) = (fb : Int) := IntWalk.i64_in _ (by omega)
  have hm4 : IntKind.i64.wrap (fm : Int) = (fm : Int) := IntWalk.i64_in _ (by omega)
  obtain ⟨m, hm⟩ : ∃ m, m = 1 + fm := ⟨_, rfl⟩
  have hm5 : IntKind.i64.wrap (1 + (fm : Int)) = (m : Int) := by rw [IntWalk.i64_in _ (by omega)]; omega
  have hmb : 1 ≤ m ∧ m ≤ 5 := by omega
  clear hm hfm t1 t2 t2' t3 t3' t4 t5
  go_upto_region 8 with fail
  clear hm1 hm2 hm3 hm4 hm5
  have HLB : Hid (Sn.LB (y16.alloc (.cells #[.int .i64 (m : Int), .slice none 0 0] 40)) y16.heap.size (m : Int) (.slice none 0 0) 40) := World.alloc_heap_new _ _
  have HYB : Hid (Below y16.heap.size y16 (y16.alloc (.cells #[.int .i64 (m : Int), .slice none 0 0] 40))) := (Below.refl _ _).alloc (Nat.le_refl _) _
  have HZB : Hid ((y16.alloc (.cells #[.int .i64 (m : Int), .slice none 0 0] 40)).heap.size = y16.heap.size + 1) := World.size_alloc _ _
  have HWB := Lib.hid (HWs.out.step HYB.out)
  have HNB : Hid (0 < ws.length → ∀ b o, Aw = some ⟨b, o, none⟩ → b ≠ y16.heap.size) := fun hp b o e => by
    obtain ⟨b1, o1, e1, h1, -⟩ := HWs.out hp
    rw [e] at e1
    injection e1 with e1
    injection e1 with e1
    omega
  generalize (y16.alloc (.cells #[.int .i64 (m : Int), .slice none 0 0] 40)) = yb at *
  go_wp2_with fail
  by_cases hn0 : ws.length = 0
  · go_loopw [14, 2, 13, 15, 16, 17, 18] (fun iv wv gv b15 b16 b17 b18 wr => ∃ f : Nat, f ≤ m ∧ iv = .int .i64 (f : Int) ∧ StR a b m ws y16 f wv gv wr) (fun iv _ _ _ _ _ _ _ => m - (intOf iv).toNat)
    case atStart => exact ⟨0, by omega, rfl, [], .slice none 0 0, Aw, cw, [], rfl, hcw, HNB.out, rfl, by simp, ⟨Sn.OwnW.nil _ _ _, RowsN.nil _ _, dis_nil _, fun k hk => by simp at hk, HWB.out, fun hp b o e => ⟨fun h => (by cases h), fun h => (by cases h)⟩⟩, HLB.out, HYB.out⟩
    case round =>
      obtain ⟨f, hf0, rfl, hR⟩ := hrel
      obtain ⟨ls, uw, B, cB, vs, rfl, hcB, hnb, hls, hin, hst, hlb, hbv⟩ := hR
      obtain ⟨Au, cu, hue⟩ := hst.ow.form
      rw [Sn.stoodL_len] at hue
      subst hue
      obtain ⟨Ag, cg, hge⟩ := hst.og.form
      rw [List.length_map, hls] at hge
      subst hge
      have HNBr := Lib.hid hnb
      have HST := Lib.hid hst
      have HLB2 := Lib.hid hlb
      have HBV := Lib.hid hbv
      have HIN := Lib.hid hin
      have HLS := Lib.hid hls
      have HBW : Hid (y16.heap.size < wr.heap.size) := hlb.lt
      have hb := hbv
      replace HL := Lib.hid (HL.out.step hb)
      replace HBa := Lib.hid (HBa.out.step hb)
      replace HX := Lib.hid (HX.out.step hb)
      replace k0 := cell_of_ans hb k0
      replace k1 := cell_of_ans hb k1
      replace k2 := cell_of_ans hb k2
      replace k3 := cell_of_ans hb k3
      replace k4 := cell_of_ans hb k4
      replace n0 := cell_of_ans hb n0
      replace n1 := cell_of_ans hb n1
      replace HB := Lib.hid (HB.out.trans (hb.mono HB.out.size))
      clear hst hlb hin hls hb hnb HLB HYB HWB HWs HNB
      have l0 := HLB2.out.cells.1
      have lf := HLB2.out.cells.2.2
      have hww : IntKind.i64.wrap ((f : Int) + 1) = (f : Int) + 1 := IntWalk.i64_in _ (by omega)
      by_cases h1 : f < m
      · have h1i : (f : Int) < (m : Int) := by omega
        have HNB := HNBr
        have HLW := Lib.hid hn0
        replace HST := Lib.hid (HST.out.turn (B := B) (us := rotN ws (f + 1)) (fun hp => absurd hp (by rw [rotN_len, hn0]; omega)) (fun hp => absurd hp (by rw [rotN_len, hn0]; omega)))
        have HLN : Hid ((rotN ws (f + 1)).length = 0) := by show _ = _; rw [rotN_len, hn0]
        rw [hn0] at hcB ⊢
        have HCX := Lib.hid hcB
        clear hcB
        go_upto_region 14 with fail
        have HP1 := Lib.hid (HPK.out (rotN ws (f + 1)) B cB wr HL.out HBa.out HST.out.wd (by rw [HLN.out]; exact HCX.out))
        rw [HLN.out] at HP1
        go_wp2_with fail
        refine (HP1.out).mono ?_
        rintro e y17 ⟨yA, cy, sA, cs, rfl, ⟨hy, hcy⟩, ⟨hs, hcs⟩, hb⟩
        replace HL := Lib.hid (HL.out.step hb)
        replace HBa := Lib.hid (HBa.out.step hb)
        replace HX := Lib.hid (HX.out.step hb)
        replace HST := Lib.hid (HST.out.step hb)
        replace HLB2 := Lib.hid (HLB2.out.step hb)
        replace k0 := cell_of_ans hb k0
        replace k1 := cell_of_ans hb k1
        replace k2 := cell_of_ans hb k2
        replace k3 := cell_of_ans hb k3
        replace k4 := cell_of_ans hb k4
        replace n0 := cell_of_ans hb n0
        replace n1 := cell_of_ans hb n1
        replace HBV := Lib.hid (HBV.out.trans (hb.mono HBV.out.size))
        replace l0 := cell_of_ans hb l0
        replace HB := Lib.hid (HB.out.trans (hb.mono HB.out.size))
        clear hb
        have HY := Lib.hid hy
        have HS := Lib.hid hs
        clear hy hs HP1
        go_wp2_with fail
        refine (rack18_c r A c _ HL.out hc hlen).mono ?_
        rintro e y18 ⟨Ay18, cy18, rfl, ⟨hly18, hcy18⟩, hb⟩
        replace HL := Lib.hid (HL.out.step hb)
        replace HBa := Lib.hid (HBa.out.step hb)
        replace HX := Lib.hid (HX.out.step hb)
        replace HST := Lib.hid (HST.out.step hb)
        replace HLB2 := Lib.hid (HLB2.out.step hb)
        replace k0 := cell_of_ans hb k0
        replace k1 := cell_of_ans hb k1
        replace k2 := cell_of_ans hb k2
        replace k3 := cell_of_ans hb k3
        replace k4 := cell_of_ans hb k4
        replace n0 := cell_of_ans hb n0
        replace n1 := cell_of_ans hb n1
        replace HBV := Lib.hid (HBV.out.trans (hb.mono HBV.out.size))
        replace l0 := cell_of_ans hb l0
        replace HY := Lib.hid (HY.out.step hb)
        replace HS := Lib.hid (HS.out.step hb)
        replace HB := Lib.hid (HB.out.trans (hb.mono HB.out.size))
        clear hb
        have HLy18 := Lib.hid hly18
        clear hly18
        have HNL : Hid (OwnN y18.heap.size y18 (.slice none 0 0) []) := OwnN.nil _ _
        go_wp2_with (at_builtin; refine wpList_appS (.const (.slice none 0 0)) (.tmp 110) rfl rfl y18.heap.size _ _ [] all10 0 all10.length cx y18.heap.size xA rfl rfl HNL (Lib.hid rfl) HX (Lib.hid rfl) (by rw [hxl]; omega) (Nat.le_refl _) ?_; intro Ay19 cy19 y19 HOy19 HBy19)
        replace HOy19 : Hid (OwnN y18.heap.size y19 (.slice Ay19 (0 + all10.length) cy19) all10) := HOy19
        try rw [Nat.zero_add] at HOy19
        try simp only [Nat.zero_add]
        have hb := HBy19.out
        clear HBy19 HNL
        replace HL := Lib.hid (HL.out.step hb)
        replace HBa := Lib.hid (HBa.out.step hb)
        replace HX := Lib.hid (HX.out.step hb)
        replace HST := Lib.hid (HST.out.step hb)
        replace HLB2 := Lib.hid (HLB2.out.step hb)
        replace k0 := cell_of_ans hb k0
        replace k1 := cell_of_ans hb k1
        replace k2 := cell_of_ans hb k2
        replace k3 := cell_of_ans hb k3
        replace k4 := cell_of_ans hb k4
        replace n0 := cell_of_ans hb n0
        replace n1 := cell_of_ans hb n1
        replace HBV := Lib.hid (HBV.out.trans (hb.mono HBV.out.size))
        replace l0 := cell_of_ans hb l0
        replace HY := Lib.hid (HY.out.step hb)
        replace HS := Lib.hid (HS.out.step hb)
        replace HLy18 := Lib.hid (HLy18.out.step hb)
        replace HB := Lib.hid (HB.out.trans (hb.mono HB.out.size))
        clear hb
        obtain ⟨-, hpy19, hqy19, hiy19⟩ := ints_parts HOy19.out.isInts
        have HIy19 := Lib.hid hiy19
        clear hiy19 HOy19
        refine (ball20_c Ab cb ball _ HBa.out hcb hbln).mono ?_
        rintro e y20 ⟨Gy20, gy20, rfl, ⟨hgy20, hhy20, hjy20⟩, hb⟩
        replace HL := Lib.hid (HL.out.step hb)
        replace HBa := Lib.hid (HBa.out.step hb)
        replace HX := Lib.hid (HX.out.step hb)
        replace HST := Lib.hid (HST.out.step hb)
        replace HLB2 := Lib.hid (HLB2.out.step hb)
        replace k0 := cell_of_ans hb k0
        replace k1 := cell_of_ans hb k1
        replace k2 := cell_of_ans hb k2
        replace k3 := cell_of_ans hb k3
        replace k4 := cell_of_ans hb k4
        replace n0 := cell_of_ans hb n0
        replace n1 := cell_of_ans hb n1
        replace HBV := Lib.hid (HBV.out.trans (hb.mono HBV.out.size))
        replace l0 := cell_of_ans hb l0
        replace HY := Lib.hid (HY.out.step hb)
        replace HS := Lib.hid (HS.out.step hb)
        replace HLy18 := Lib.hid (HLy18.out.step hb)
        replace HIy19 := Lib.hid (HIy19.out.step hb)
        replace HB := Lib.hid (HB.out.trans (hb.mono HB.out.size))
        clear hb
        have HGy20 := Lib.hid hgy20
        clear hgy20
        go_wp2_with fail
        refine (HHT.out (rotN ws (f + 1)) Ay18 Ay19 Gy20 yA sA cy18 cy19 gy20 cy cs _ HLy18.out hcy18 HIy19.out ⟨hpy19, hqy19⟩ HGy20.out ⟨hhy20, hjy20⟩ HY.out hcy HS.out hcs).mono ?_
        rintro e y21 ⟨lA, cl, rfl, hO, hb⟩
        replace HL := Lib.hid (HL.out.step hb)
        replace HBa := Lib.hid (HBa.out.step hb)
        replace HX := Lib.hid (HX.out.step hb)
        replace HST := Lib.hid (HST.out.step hb)
        replace HLB2 := Lib.hid (HLB2.out.step hb)
        replace k0 := cell_of_ans hb k0
        replace k1 := cell_of_ans hb k1
        replace k2 := cell_of_ans hb k2
        replace k3 := cell_of_ans hb k3
        replace k4 := cell_of_ans hb k4
        replace n0 := cell_of_ans hb n0
        replace n1 := cell_of_ans hb n1
        replace HBV := Lib.hid (HBV.out.trans (hb.mono HBV.out.size))
        replace l0 := cell_of_ans hb l0
        replace HY := Lib.hid (HY.out.step hb)
        replace HS := Lib.hid (HS.out.step hb)
        replace HLy18 := Lib.hid (HLy18.out.step hb)
        replace HIy19 := Lib.hid (HIy19.out.step hb)
        replace HGy20 := Lib.hid (HGy20.out.step hb)
        replace HB := Lib.hid (HB.out.trans (hb.mono HB.out.size))
        clear hb
        clear HLy18 HIy19 HGy20 HY HS
        obtain ⟨hle1, hle2⟩ := HTL.out (rotN ws (f + 1))
        obtain ⟨hcl1, hcl2, hO⟩ := isInts_parts (ownsRow_isInts hO)
        clear hO
        generalize hitL r all10 ball (pickB ball (rotN ws (f + 1))) (pickC r.links (rotN ws (f + 1))) = le at *
        obtain ⟨l, hl⟩ : ∃ l, l = le.length := ⟨_, rfl⟩
        rw [← hl] at hle1 hle2 hcl1 ⊢
        have HLL := Lib.hid hl
        clear hl
        have hl10 : l ≤ 10 := by omega
        have t1 : decide ((l : Int) > 10) = false := decide_eq_false (by omega)
        have t2 : decide (10 < l) = false := decide_eq_false (by omega)
        have t3 : decide ((10 : Int) < (l : Int)) = false := decide_eq_false (by omega)
        go_upto_region 18 with fail
        have hb1 : Below y21.heap.size y21 (y21.alloc (.cells #[.int .i64 (f : Int), .int .i64 0, .int .i64 0, .int .i64 (a : Int), .int .i64 (b : Int)] 82)) := (Below.refl _ _).alloc (Nat.le_refl _) _
        have HST1 := Lib.hid (HST.out.kept hb1)
        have HLB1 := Lib.hid (HLB2.out.below hb1)
        have HSRC := Lib.hid (Sn.src_word y21 (Sn.stoodW a b f) 82)
        have HBV1 := Lib.hid (HBV.out.trans (hb1.mono HBV.out.size))
        have HSZ : Hid (y16.heap.size + 1 ≤ (y21.alloc (.cells #[.int .i64 (f : Int), .int .i64 0, .int .i64 0, .int .i64 (a : Int), .int .i64 (b : Int)] 82)).heap.size) := by have := HLB1.out.lt; show _ ≤ _; omega
        have l1 := HLB2.out.cells.2.1
        have HBZ := Lib.hid (HB.out.trans (hb1.mono HB.out.size))
        have N0 := cell_of_ans hb1 n0
        have N1 := cell_of_ans hb1 n1
        clear hb1
        go_upto_region 19 with (at_builtin; refine Sn.wpList_words (t := 38) (e := 82) (.inl ⟨rfl, rfl⟩) (.tmp 127) (.tmp 135) rfl rfl (y16.heap.size + 1) _ (.slice Au f cu) (Sn.stoodL a b f) [Sn.stoodW a b f] (some ⟨y21.heap.size, 0, none⟩) 1 1 rfl rfl rfl HST1.out.ow HSRC.out (by rw [Sn.stoodL_len]; omega) (by simp) HSZ.out ?_; intro u8 w8 HA8; obtain ⟨A8, c8, e8⟩ := HA8.out.own.form; rw [show (Sn.stoodL a b f ++ [Sn.stoodW a b f]).length = f + 1 by rw [List.length_append, Sn.stoodL_len]; rfl] at e8; subst e8; have HLB8 := Lib.hid (LB_grown HLB1.out HA8.out.grw (fun e => by have := (ownW_lt HST1.out.ow _ e).1; omega)); have m1 := HLB8.out.cells.2.1; have m1f := HLB8.out.cells.2.2)
        have HST3 : Hid (StG (y16.heap.size + 1) (w8.setCell ⟨y16.heap.size, 1, none⟩ (.slice A8 (f + 1) c8)) (.slice A8 (f + 1) c8) (Sn.stoodL a b (f + 1)) (.slice Ag f cg) vs (ls.map Sn.stoodR) B (rotN ws (f + 1))) := by
          rw [Sn.stoodL_succ]
          exact (HST1.out.word HA8.out).set (ad := ⟨y16.heap.size, 1, none⟩) (by dsimp only; omega) (fun hp b o e => HNB.out (by first | (rw [rotN_len] at hp; exact hp) | (rw [rot_len, rotN_len] at hp; exact hp)) b o e) _
        have HLB3 : Hid (Sn.LB (w8.setCell ⟨y16.heap.size, 1, none⟩ (.slice A8 (f + 1) c8)) y16.heap.size (m : Int) (.slice A8 (f + 1) c8) 40) := HLB8.out.set _
        have HBG := Lib.hid (below_grown (B := y16.heap.size) HA8.out.grw (by have := HSZ.out; omega) (fun k e => by have := (ownW_lt HST1.out.ow k e).1; omega))
        have HBV3 : Hid (Below y16.heap.size y16 (w8.setCell ⟨y16.heap.size, 1, none⟩ (.slice A8 (f + 1) c8))) := (HBV1.out.trans HBG.out).setCell (by dsimp only; omega) _
        have HSZ3 : Hid (y16.heap.size + 1 ≤ (w8.setCell ⟨y16.heap.size, 1, none⟩ (.slice A8 (f + 1) c8)).heap.size) := HLB3.out.lt
        clear HST HST1 HLB1 HLB2 HLB8 HBV HBV1 HA8 HSRC HBG HSZ m1 m1f l0 l1 N0 N1 HBZ n0 n1 k0 k1 k2 k3 k4 HL HBa HX
        generalize (w8.setCell ⟨y16.heap.size, 1, none⟩ (.slice A8 (f + 1) c8)) = w3 at *
        by_cases hz : l = 0
        · have q1 : ((l : Int) == 0) = true := by simp [hz]
          have HRN : Hid ((ls.map Sn.stoodR).length = f) := (by show _ = _; rw [List.length_map]; exact HLS.out)
          go_wp2_with (at_builtin; refine wpList_appG (.tmp 141) (.tmp 143) rfl rfl (ys := [10]) (m := 1) (cs := #[.int .i64 10]) rfl rfl rfl rfl rfl HST3 HRN (by omega) HSZ3.out (Lib.hid rfl) (by omega) ?_; intro B5 c5 w5 HS5 HG5)
          have HB5 := Lib.hid (below_grown (B := y16.heap.size) HG5.out (by have := HSZ3.out; omega) (fun k e => by have := (HST3.out.og.lt k e).1; omega))
          have HLB5 := Lib.hid (LB_grown HLB3.out HG5.out (fun e => by have := (HST3.out.og.lt _ e).1; omega))
          have HRE : Hid ((ls ++ [l]).map Sn.stoodR = ls.map Sn.stoodR ++ [[10]]) := by show _ = _; rw [List.map_append]; simp [Sn.stoodR, hz]
          go_roundw
          case rel => exact ⟨f + 1, by omega, by go_num, ls ++ [l], _, B, cB, _, by rw [HLW.out], by rw [HLW.out]; exact HCX.out, HNB.out, by simp [HLS.out], fun x hx => by
              rcases List.mem_append.1 hx with h | h
              · exact HIN.out x h
              · rw [List.mem_singleton.1 h]; exact ⟨hle1, hle2⟩, by rw [HRE.out]; exact HS5.out, HLB5.out, HBV3.out.trans HB5.out⟩
          case measure => simp [intOf]; omega
        · have q1 : ((l : Int) == 0) = false := by simp [hz]
          have q2 : IntKind.i64.wrap (10 - (l : Int)) = 10 - (l : Int) := IntWalk.i64_in _ (by omega)
          have HRN : Hid ((ls.map Sn.stoodR).length = f) := (by show _ = _; rw [List.length_map]; exact HLS.out)
          go_wp2_with (at_builtin; refine wpList_appG (.tmp 145) (.tmp 150) rfl rfl (ys := [10 - (l : Int), 0]) (m := 2) (cs := #[.int .i64 (10 - (l : Int)), .int .i64 0]) rfl rfl rfl rfl rfl HST3 HRN (by omega) HSZ3.out (Lib.hid rfl) (by omega) ?_; intro B5 c5 w5 HS5 HG5)
          have HB5 := Lib.hid (below_grown (B := y16.heap.size) HG5.out (by have := HSZ3.out; omega) (fun k e => by have := (HST3.out.og.lt k e).1; omega))
          have HLB5 := Lib.hid (LB_grown HLB3.out HG5.out (fun e => by have := (HST3.out.og.lt _ e).1; omega))
          have HRE : Hid ((ls ++ [l]).map Sn.stoodR = ls.map Sn.stoodR ++ [[10 - (l : Int), 0]]) := by show _ = _; rw [List.map_append]; simp [Sn.stoodR, hz]
          go_roundw
          case rel => exact ⟨f + 1, by omega, by go_num, ls ++ [l], _, B, cB, _, by rw [HLW.out], by rw [HLW.out]; exact HCX.out, HNB.out, by simp [HLS.out], fun x hx => by
              rcases List.mem_append.1 hx with h | h
              · exact HIN.out x h
              · rw [List.mem_singleton.1 h]; exact ⟨hle1, hle2⟩, by rw [HRE.out]; exact HS5.out, HLB5.out, HBV3.out.trans HB5.out⟩
          case measure => simp [intOf]; omega
      · obtain rfl : m = f := by omega
        have h1i : ¬ (m : Int) < (m : Int) := by omega
        have l1 := HLB2.out.cells.2.1
        obtain ⟨hcu1, hcu2, hw0⟩ := HST.out.ow.wds
        have HW := Lib.hid hw0
        have HGR := Lib.hid (Sn.grd_of HST.out.og.isGrd).2.2
        have hcg1 := (Sn.grd_of HST.out.og.isGrd).1
        have hcg2 := (Sn.grd_of HST.out.og.isGrd).2.1
        have HPV := Lib.hid (Sn.stood_prove (a := a) (m := m) hb10 ls HLS.out HIN.out)
        have HRS := Lib.hid (fun f (hf : f < m) => Sn.stood_rgs (a := a) (b := b) (m := m) hab hb10 hf)
        have hrl0 := Sn.rangesL_len (Sn.stoodL a b m) (Sn.offT []) m
        obtain ⟨hcl, hch⟩ := Sn.stood_cnt (a := a) (b := b) (m := m) hab hb10 m (Nat.le_refl _)
        clear hw0 h1 HPK HHT HTL HX HL HBa k0 k1 k2 k3 k4
        have HRA := Lib.hid (fun W (h : Sn.Wds W.heap.size W Au (Sn.stoodL a b m)) => Sn.ranges_ok Au none (Sn.stoodL a b m) [] cu 0 (m : Int) W h (fun h => absurd h (by simp)) ⟨hcu1, hcu2⟩ (by simp) (Sn.stood_expl hab hb10 hmb.1 hmb.2))
        rw [Sn.stoodL_len, Int.toNat_natCast, hcl, hch] at HRA
        have HPR := Lib.hid (fun W (h : Sn.Wds W.heap.size W Au (Sn.stoodL a b m)) (h2 : Grd W.heap.size W Ag (ls.map Sn.stoodR)) => Sn.prove_ok Au none Ag (Sn.stoodL a b m) [] (ls.map Sn.stoodR) cu 0 cg m W h (fun h => absurd h (by simp)) h2 ⟨hcu1, hcu2⟩ (by simp) ⟨hcg1, hcg2⟩ (Sn.stood_ask hab hb10 hmb.1 hmb.2))
        rw [HPV.out, Sn.stoodL_len, List.length_map, HLS.out] at HPR
        clear hcl hch HPV HST HLB2 HBV
        go_wp2_with fail
        refine (HRA.out _ HW.out).mono ?_
        rintro e y22 ⟨Ar, cr, rfl, hcr, hR, hb⟩
        replace n0 := cell_of_ans hb n0
        replace n1 := cell_of_ans hb n1
        replace l0 := cell_of_ans hb l0
        replace l1 := cell_of_ans hb l1
        replace HW := Lib.hid (HW.out.step hb)
        replace HGR := Lib.hid (HGR.out.step hb)
        replace HB := Lib.hid (HB.out.trans (hb.mono HB.out.size))
        clear hb
        have HG := Lib.hid hR
        clear hR HRA
        generalize Sn.rangesL (Sn.stoodL a b m) (Sn.offT []) m = rs at *
        have HRL := Lib.hid hrl0
        have hr10 : rs.length ≤ 10 := by omega
        clear hrl0
        go_upto_region 23 with fail
        have hb : Below y22.heap.size y22 (y22.alloc (.cells #[.int .i64 ((m : Int) * (10 - (b : Int))), .int .i64 ((m : Int) * 10)] 34)) := (Below.refl _ _).alloc (Nat.le_refl _) _
        have u0 : (y22.alloc (.cells #[.int .i64 ((m : Int) * (10 - (b : Int))), .int .i64 ((m : Int) * 10)] 34)).cell? ⟨y22.heap.size, 0, none⟩ = some (.int .i64 ((m : Int) * (10 - (b : Int)))) := by simp
        have u1 : (y22.alloc (.cells #[.int .i64 ((m : Int) * (10 - (b : Int))), .int .i64 ((m : Int) * 10)] 34)).cell? ⟨y22.heap.size, 1, none⟩ = some (.int .i64 ((m : Int) * 10)) := by simp
        replace n0 := cell_of_ans hb n0
        replace n1 := cell_of_ans hb n1
        replace l0 := cell_of_ans hb l0
        replace l1 := cell_of_ans hb l1
        replace HW := Lib.hid (HW.out.step hb)
        replace HGR := Lib.hid (HGR.out.step hb)
        replace HG := Lib.hid (HG.out.step hb)
        replace HB := Lib.hid (HB.out.trans (hb.mono HB.out.size))
        clear hb
        generalize (y22.alloc (.cells #[.int .i64 ((m : Int) * (10 - (b : Int))), .int .i64 ((m : Int) * 10)] 34)) = y23 at *
        generalize y22.heap.size = qy23 at *
        have hm2 : IntKind.i64.wrap (2 * (m : Int)) = 2 * (m : Int) := IntWalk.i64_in _ (by omega)
        have hlm : ((rs.length : Int) != 2 * (m : Int)) = false := bne_eq_false_iff_eq.2 (by have := HRL.out; omega)
        go_wp2_with fail
        refine (HPR.out _ HW.out HGR.out).mono ?_
        rintro e y24 ⟨rfl, hb⟩
        replace n0 := cell_of_ans hb n0
        replace n1 := cell_of_ans hb n1
        replace l0 := cell_of_ans hb l0
        replace l1 := cell_of_ans hb l1
        replace HW := Lib.hid (HW.out.step hb)
        replace HGR := Lib.hid (HGR.out.step hb)
        replace HG := Lib.hid (HG.out.step hb)
        replace u0 := cell_of_ans hb u0
        replace u1 := cell_of_ans hb u1
        replace HB := Lib.hid (HB.out.trans (hb.mono HB.out.size))
        clear hb
        clear HPR hlm HW HGR HLS HIN
        go_wp2_with fail
        have hne : ∀ (x y : Int) (w : World), (binOp .neq 34 (.agg #[.int .i64 x, .int .i64 y]) (.agg #[.int .i64 x, .int .i64 y])).run Try.prog w = .ok (.bool false) w := fun x y w => by rw [ne34]; simp
        have HNE := Lib.hid hne
        clear hne
        go_loopw [22] (fun iv wx => ∃ i : Nat, i ≤ m ∧ iv = .int .i64 (i : Int) ∧ Below y24.heap.size y24 wx) (fun iv _ => m - (intOf iv).toNat)
        case atStart => exact ⟨0, by omega, rfl, Below.refl _ _⟩
        case round =>
          obtain ⟨i, hi0, rfl, hbw⟩ := hrel
          have HBW2 := Lib.hid hbw
          replace l0 := cell_of_ans hbw l0
          replace n0 := cell_of_ans hbw n0
          replace n1 := cell_of_ans hbw n1
          by_cases h1 : i < m
          · have h1i : (i : Int) < (m : Int) := by omega
            obtain ⟨b3, o3, hA3, hb3, hc3⟩ := HG.out (by have := HRL.out; omega)
            subst hA3
            obtain ⟨e1, e2⟩ := HRS.out i h1
            obtain ⟨g1, g2⟩ := hc3 (2 * i) (by have := HRL.out; omega)
            obtain ⟨g3, g4⟩ := hc3 (2 * i + 1) (by have := HRL.out; omega)
            rw [e1] at g1 g2
            rw [e2] at g3 g4
            dsimp only at g1 g2 g3 g4
            clear hc3 e1 e2
            obtain ⟨j1, hj1⟩ : ∃ j, j = 2 * i := ⟨_, rfl⟩
            obtain ⟨j2, hj2⟩ : ∃ j, j = 2 * i + 1 := ⟨_, rfl⟩
            rw [← hj2] at g3 g4
            rw [← hj1] at g1 g2
            have hr1 : (j1 : Int) < (rs.length : Int) := by have := HRL.out; omega
            have hr2 : (j2 : Int) < (rs.length : Int) := by have := HRL.out; omega
            have hw5 : IntKind.i64.wrap (2 * (i : Int)) = (j1 : Int) := by rw [IntWalk.i64_in _ (by omega)]; omega
            have hw6 : IntKind.i64.wrap ((j1 : Int) + 1) = (j2 : Int) := by rw [IntWalk.i64_in _ (by omega)]; omega
            have hw7 : IntKind.i64.wrap ((i : Int) + 1) = (i : Int) + 1 := IntWalk.i64_in _ (by omega)
            have HJ1 := Lib.hid hj1
            have HJ2 := Lib.hid hj2
            clear hj1 hj2
            replace g1 := cell_of_ans hbw g1
            replace g2 := cell_of_ans hbw g2
            replace g3 := cell_of_ans hbw g3
            replace g4 := cell_of_ans hbw g4
            have hne := HNE.out
            go_wp2_with fail
            go_quiet (fail)
            go_wp2_with fail
            go_roundw
            case rel => exact ⟨i + 1, by omega, by go_num, below_drewN HBW2.out _⟩
            case measure => simp [intOf]; omega
          · obtain rfl : m = i := by omega
            have h1i : ¬ (m : Int) < (m : Int) := by omega
            replace u0 := cell_of_ans hbw u0
            replace u1 := cell_of_ans hbw u1
            have hp1 : IntKind.i64.wrap (10 - (b : Int)) = 10 - (b : Int) := IntWalk.i64_in _ (by omega)
            have hp2 : IntKind.i64.wrap ((m : Int) * (10 - (b : Int))) = (m : Int) * (10 - (b : Int)) := IntWalk.i64_in _ (by
              have h1 : (m : Int) * (10 - (b : Int)) ≤ 5 * (10 - (b : Int)) := Int.mul_le_mul_of_nonneg_right (by omega) (by omega)
              have h2 : 0 ≤ (m : Int) * (10 - (b : Int)) := Int.mul_nonneg (by omega) (by omega)
              omega)
            have hp3 : IntKind.i64.wrap ((m : Int) * 10) = (m : Int) * 10 := IntWalk.i64_in _ (by omega)
            have heq : ∀ (x y : Int) (w : World), (binOp .eql 34 (.agg #[.int .i64 x, .int .i64 y]) (.agg #[.int .i64 x, .int .i64 y])).run Try.prog w = .ok (.bool true) w := fun x y w => by rw [eq34]; simp
            have hb := hbw
            replace HB := Lib.hid (HB.out.trans (hb.mono HB.out.size))
            clear hb h1
            go_wp2_with fail
            refine (HWK.out _).mono ?_
            rintro e w9 ⟨rfl, hb⟩
            go_wp2_with fail
            go_ret
            exact ⟨rfl, HB.out.trans (hb.mono HB.out.size)⟩
  · go_loopw [14, 2, 13, 15, 16, 17, 18] (fun iv wv gv b15 b16 b17 b18 wr => ∃ f : Nat, f ≤ m ∧ iv = .int .i64 (f : Int) ∧ StR a b m ws y16 f wv gv wr) (fun iv _ _ _ _ _ _ _ => m - (intOf iv).toNat)
    case atStart => exact ⟨0, by omega, rfl, [], .slice none 0 0, Aw, cw, [], rfl, hcw, HNB.out, rfl, by simp, ⟨Sn.OwnW.nil _ _ _, RowsN.nil _ _, dis_nil _, fun k hk => by simp at hk, HWB.out, fun hp b o e => ⟨fun h => (by cases h), fun h => (by cases h)⟩⟩, HLB.out, HYB.out⟩
    case round =>
      obtain ⟨f, hf0, rfl, hR⟩ := hrel
      obtain ⟨ls, uw, B, cB, vs, rfl, hcB, hnb, hls, hin, hst, hlb, hbv⟩ := hR
      obtain ⟨Au, cu, hue⟩ := hst.ow.form
      rw [Sn.stoodL_len] at hue
      subst hue
      obtain ⟨Ag, cg, hge⟩ := hst.og.form
      rw [List.length_map, hls] at hge
      subst hge
      have HNBr := Lib.hid hnb
      have HST := Lib.hid hst
      have HLB2 := Lib.hid hlb
      have HBV := Lib.hid hbv
      have HIN := Lib.hid hin
      have HLS := Lib.hid hls
      have HBW : Hid (y16.heap.size < wr.heap.size) := hlb.lt
      have hb := hbv
      replace HL := Lib.hid (HL.out.step hb)
      replace HBa := Lib.hid (HBa.out.step hb)
      replace HX := Lib.hid (HX.out.step hb)
      replace k0 := cell_of_ans hb k0
      replace k1 := cell_of_ans hb k1
      replace k2 := cell_of_ans hb k2
      replace k3 := cell_of_ans hb k3
      replace k4 := cell_of_ans hb k4
      replace n0 := cell_of_ans hb n0
      replace n1 := cell_of_ans hb n1
      replace HB := Lib.hid (HB.out.trans (hb.mono HB.out.size))
      clear hst hlb hin hls hb hnb HLB HYB HWB HWs HNB
      have l0 := HLB2.out.cells.1
      have lf := HLB2.out.cells.2.2
      have hww : IntKind.i64.wrap ((f : Int) + 1) = (f : Int) + 1 := IntWalk.i64_in _ (by omega)
      by_cases h1 : f < m
      · have h1i : (f : Int) < (m : Int) := by omega
        have hrl := rotN_len ws f
        obtain ⟨n, hn⟩ : ∃ n, ws.length = n + 1 := ⟨ws.length - 1, by omega⟩
        obtain ⟨bb, oo, hBe, hbb, hcc⟩ := HST.out.wd (by omega)
        subst hBe
        have w0 := (hcc 0 (by omega)).1
        rw [Nat.add_zero] at w0
        have hc0 := (hcc 0 (by omega)).2
        have HRL : Hid ((rotN ws f).length = n + 1) := by show _ = _; omega
        have HN := Lib.hid hn
        clear hcc hrl
        rw [hn] at hcB ⊢
        have hn2 : n + 1 ≤ cB := hcB.1
        have hni : (0 : Int) < (n : Int) + 1 := by omega
        have hnl : n ≤ 70368744177000 := by omega
        obtain ⟨B0, hB0⟩ : ∃ B0 : Addr, (if n = 0 then some (⟨bb, oo, none⟩ : Addr) else some ⟨bb, oo + 1, none⟩) = some B0 := by by_cases h : n = 0 <;> simp [h]
        have HB0 : Hid (n ≠ 0 → B0 = (⟨bb, oo + 1, none⟩ : Addr)) := fun h => by rw [if_neg h] at hB0; injection hB0 with e; exact e.symm
        have hp1 : (n : Int) + 1 ≤ (cB : Int) := by omega
        have hp2 : (0 : Int) ≤ (n : Int) + 1 := by omega
        have hp3 : (1 : Int) ≤ (n : Int) + 1 := by omega
        obtain ⟨v0, hv0⟩ : ∃ v0, v0 = ix (rotN ws f) 0 := ⟨_, rfl⟩
        rw [← hv0] at w0
        have HV0 := Lib.hid hv0
        clear hn hv0 hc0
        go_upto_region 13 with fail
        have HUL : Hid (∀ k, (Value.slice Au f cu).ownBlock = some k → k < wr.heap.size) := fun k e => (ownW_lt HST.out.ow k e).2
        have HGL : Hid (∀ k, (Value.slice Ag f cg).ownBlock = some k → k < wr.heap.size) := fun k e => (HST.out.og.lt k e).2
        refine wp_region_noPanic ?_
        have hS : (fun W' : World => Below wr.heap.size wr W') wr.drew := (Below.refl _ _).drew
        refine wp_region_any (by kernel_rfl) (wpAny_of_T (S := fun W' : World => Below wr.heap.size wr W') (m := 12) _ _ _ _ ?_)
        refine' T_take (i := 0) (v := _) rfl (by kernel_rfl) (by kernel_rfl) (by kernel_rfl) (by kernel_rfl) (fun _ _ _ h => h) (by kernel_rfl) hS ?_ ?_
        rotate_left 1
        · intro Wv hW
          have w0 := cell_of_ans hW w0
          go_simp
          first | done | with_reducible rfl | omega
        try simp only [Act.put, List.setIfInBounds_toArray, List.set_cons_zero, List.set_cons_succ]
        refine' T_take (i := 1) (v := _) rfl (by kernel_rfl) (by kernel_rfl) (by kernel_rfl) (by kernel_rfl) (fun _ _ _ h => h) (by kernel_rfl) hS ?_ ?_
        rotate_left 1
        · intro Wv hW
          have w0 := cell_of_ans hW w0
          go_simp
          first | done | with_reducible rfl | omega
        try simp only [Act.put, List.setIfInBounds_toArray, List.set_cons_zero, List.set_cons_succ]
        refine' T_take (i := 2) (v := _) rfl (by kernel_rfl) (by kernel_rfl) (by kernel_rfl) (by kernel_rfl) (fun _ _ _ h => h) (by kernel_rfl) hS ?_ ?_
        rotate_left 1
        · intro Wv hW
          have w0 := cell_of_ans hW w0
          go_simp
          first | done | with_reducible rfl | omega
        try simp only [Act.put, List.setIfInBounds_toArray, List.set_cons_zero, List.set_cons_succ]
        refine' T_take (i := 3) (v := _) rfl (by kernel_rfl) (by kernel_rfl) (by kernel_rfl) (by kernel_rfl) (fun _ _ _ h => h) (by kernel_rfl) hS ?_ ?_
        rotate_left 1
        · intro Wv hW
          have w0 := cell_of_ans hW w0
          go_simp
          first | done | with_reducible rfl | omega
        try simp only [Act.put, List.setIfInBounds_toArray, List.set_cons_zero, List.set_cons_succ]
        refine' T_take (i := 4) (v := _) rfl (by kernel_rfl) (by kernel_rfl) (by kernel_rfl) (by kernel_rfl) (fun _ _ _ h => h) (by kernel_rfl) hS ?_ ?_
        rotate_left 1
        · intro Wv hW
          have w0 := cell_of_ans hW w0
          go_simp
          first | done | with_reducible rfl | omega
        try simp only [Act.put, List.setIfInBounds_toArray, List.set_cons_zero, List.set_cons_succ]
        refine' T_take (i := 5) (v := _) rfl (by kernel_rfl) (by kernel_rfl) (by kernel_rfl) (by kernel_rfl) (fun _ _ _ h => h) (by kernel_rfl) hS ?_ ?_
        rotate_left 1
        · intro Wv hW
          have w0 := cell_of_ans hW w0
          go_simp
          first | done | with_reducible rfl | omega
        try simp only [Act.put, List.setIfInBounds_toArray, List.set_cons_zero, List.set_cons_succ]
        refine' T_take (i := 6) (v := _) rfl (by kernel_rfl) (by kernel_rfl) (by kernel_rfl) (by kernel_rfl) (fun _ _ _ h => h) (by kernel_rfl) hS ?_ ?_
        rotate_left 1
        · intro Wv hW
          have w0 := cell_of_ans hW w0
          go_simp
          first | done | with_reducible rfl | omega
        try simp only [Act.put, List.setIfInBounds_toArray, List.set_cons_zero, List.set_cons_succ]
        refine' T_take (i := 7) (v := _) rfl (by kernel_rfl) (by kernel_rfl) (by kernel_rfl) (by kernel_rfl) (fun _ _ _ h => h) (by kernel_rfl) hS ?_ ?_
        rotate_left 1
        · intro Wv hW
          have w0 := cell_of_ans hW w0
          go_simp
          first | done | with_reducible rfl | omega
        try simp only [Act.put, List.setIfInBounds_toArray, List.set_cons_zero, List.set_cons_succ]
        refine' T_take (i := 8) (v := _) rfl (by kernel_rfl) (by kernel_rfl) (by kernel_rfl) (by kernel_rfl) (fun _ _ _ h => h) (by kernel_rfl) hS ?_ ?_
        rotate_left 1
        · intro Wv hW
          have w0 := cell_of_ans hW w0
          go_simp
          first | done | with_reducible rfl | omega
        try simp only [Act.put, List.setIfInBounds_toArray, List.set_cons_zero, List.set_cons_succ]
        refine T_ready (rs := [9]) (by kernel_rfl) (by simp) ?_
        refine TReady.cons rfl (fun K hK => ?_) TReady.nil
        try go_simp
        refine hK.out _ _ (fun _ => hS.alloc hS.size _) (fun hS2 => ?_)
        replace hS := hS2 (by decide)
        clear hS2 hK K
        try simp only [Act.put, List.setIfInBounds_toArray, List.set_cons_zero, List.set_cons_succ]
        refine T_ready (rs := [10]) (by kernel_rfl) (by simp) ?_
        refine TReady.cons rfl (fun K hK => ?_) TReady.nil
        refine step_rot (.tmp 94) (.tmp 98) rfl rfl wr.drew bb oo n B0 HB0.out (rotN ws f) v0 rfl rfl rfl HV0.out HRL (Lib.hid (HST.out.wd.step ((Below.refl _ _).drew))) (by omega) ?_
        intro gB cB9 w9 HCB HGB HWD hbw
        have hS2 : Below wr.heap.size wr w9 := (Below.refl wr.heap.size wr).drew.trans hbw
        refine hK.out _ _ (fun _ => hS2) (fun _ => ?_)
        clear hK K hS
        have hS := hS2
        clear hS2 hbw
        try simp only [Act.put, List.setIfInBounds_toArray, List.set_cons_zero, List.set_cons_succ]
        refine' T_take (i := 11) (v := _) rfl (by kernel_rfl) (by kernel_rfl) (by kernel_rfl) (by kernel_rfl) (fun _ _ _ h => h) (by kernel_rfl) hS ?_ ?_
        rotate_left 1
        · intro Wv hW
          have w0 := cell_of_ans hW w0
          go_simp
          first | done | with_reducible rfl | omega
        try simp only [Act.put, List.setIfInBounds_toArray, List.set_cons_zero, List.set_cons_succ]
        refine T_done (by kernel_rfl) ?_ _
        refine NoPanic.normal ?_
        try go_simp
        have hb := hS
        clear hS
        replace HL := Lib.hid (HL.out.step hb)
        replace HBa := Lib.hid (HBa.out.step hb)
        replace HX := Lib.hid (HX.out.step hb)
        replace HST := Lib.hid (HST.out.step hb)
        replace HLB2 := Lib.hid (HLB2.out.step hb)
        replace k0 := cell_of_ans hb k0
        replace k1 := cell_of_ans hb k1
        replace k2 := cell_of_ans hb k2
        replace k3 := cell_of_ans hb k3
        replace k4 := cell_of_ans hb k4
        replace n0 := cell_of_ans hb n0
        replace n1 := cell_of_ans hb n1
        replace HBV := Lib.hid (HBV.out.trans (hb.mono HBV.out.size))
        replace l0 := cell_of_ans hb l0
        replace HB := Lib.hid (HB.out.trans (hb.mono HB.out.size))
        clear hb
        have hgb : wr.heap.size < gB := HGB.out
        replace HST := Lib.hid (HST.out.turn HWD.out (fun hp b o e => by
          injection e with e
          injection e with e1 e2
          subst e1
          exact ⟨fun e => (by have := HUL.out _ e; omega), fun e => (by have := HGL.out _ e; omega)⟩))
        have HNB : Hid (0 < ws.length → ∀ b o, (some ⟨gB, 0, none⟩ : Option Addr) = some ⟨b, o, none⟩ → b ≠ y16.heap.size) := fun hp b o e => by
          injection e with e
          injection e with e1 e2
          have h1 := HLB2.out.lt
          have h2 := HBW.out
          omega
        have HLN : Hid ((rotN ws (f + 1)).length = n + 1) := by show _ = _; rw [rotN_len, HN.out]
        have HLW := HN
        have HCX := HCB
        clear HUL HGL HGB HWD HCB HB0 HV0 hgb w0 HNBr HRL HN hB0
        go_upto_region 14 with fail
        have HP1 := Lib.hid (HPK.out (rotN ws (f + 1)) (some ⟨gB, 0, none⟩) cB9 w9 HL.out HBa.out HST.out.wd (by rw [HLN.out]; exact HCX.out))
        rw [HLN.out] at HP1
        go_wp2_with fail
        refine (HP1.out).mono ?_
        rintro e y25 ⟨yA, cy, sA, cs, rfl, ⟨hy, hcy⟩, ⟨hs, hcs⟩, hb⟩
        replace HL := Lib.hid (HL.out.step hb)
        replace HBa := Lib.hid (HBa.out.step hb)
        replace HX := Lib.hid (HX.out.step hb)
        replace HST := Lib.hid (HST.out.step hb)
        replace HLB2 := Lib.hid (HLB2.out.step hb)
        replace k0 := cell_of_ans hb k0
        replace k1 := cell_of_ans hb k1
        replace k2 := cell_of_ans hb k2
        replace k3 := cell_of_ans hb k3
        replace k4 := cell_of_ans hb k4
        replace n0 := cell_of_ans hb n0
        replace n1 := cell_of_ans hb n1
        replace HBV := Lib.hid (HBV.out.trans (hb.mono HBV.out.size))
        replace l0 := cell_of_ans hb l0
        replace HB := Lib.hid (HB.out.trans (hb.mono HB.out.size))
        clear hb
        have HY := Lib.hid hy
        have HS := Lib.hid hs
        clear hy hs HP1
        go_wp2_with fail
        refine (rack18_c r A c _ HL.out hc hlen).mono ?_
        rintro e y26 ⟨Ay26, cy26, rfl, ⟨hly26, hcy26⟩, hb⟩
        replace HL := Lib.hid (HL.out.step hb)
        replace HBa := Lib.hid (HBa.out.step hb)
        replace HX := Lib.hid (HX.out.step hb)
        replace HST := Lib.hid (HST.out.step hb)
        replace HLB2 := Lib.hid (HLB2.out.step hb)
        replace k0 := cell_of_ans hb k0
        replace k1 := cell_of_ans hb k1
        replace k2 := cell_of_ans hb k2
        replace k3 := cell_of_ans hb k3
        replace k4 := cell_of_ans hb k4
        replace n0 := cell_of_ans hb n0
        replace n1 := cell_of_ans hb n1
        replace HBV := Lib.hid (HBV.out.trans (hb.mono HBV.out.size))
        replace l0 := cell_of_ans hb l0
        replace HY := Lib.hid (HY.out.step hb)
        replace HS := Lib.hid (HS.out.step hb)
        replace HB := Lib.hid (HB.out.trans (hb.mono HB.out.size))
        clear hb
        have HLy26 := Lib.hid hly26
        clear hly26
        have HNL : Hid (OwnN y26.heap.size y26 (.slice none 0 0) []) := OwnN.nil _ _
        go_wp2_with (at_builtin; refine wpList_appS (.const (.slice none 0 0)) (.tmp 110) rfl rfl y26.heap.size _ _ [] all10 0 all10.length cx y26.heap.size xA rfl rfl HNL (Lib.hid rfl) HX (Lib.hid rfl) (by rw [hxl]; omega) (Nat.le_refl _) ?_; intro Ay27 cy27 y27 HOy27 HBy27)
        replace HOy27 : Hid (OwnN y26.heap.size y27 (.slice Ay27 (0 + all10.length) cy27) all10) := HOy27
        try rw [Nat.zero_add] at HOy27
        try simp only [Nat.zero_add]
        have hb := HBy27.out
        clear HBy27 HNL
        replace HL := Lib.hid (HL.out.step hb)
        replace HBa := Lib.hid (HBa.out.step hb)
        replace HX := Lib.hid (HX.out.step hb)
        replace HST := Lib.hid (HST.out.step hb)
        replace HLB2 := Lib.hid (HLB2.out.step hb)
        replace k0 := cell_of_ans hb k0
        replace k1 := cell_of_ans hb k1
        replace k2 := cell_of_ans hb k2
        replace k3 := cell_of_ans hb k3
        replace k4 := cell_of_ans hb k4
        replace n0 := cell_of_ans hb n0
        replace n1 := cell_of_ans hb n1
        replace HBV := Lib.hid (HBV.out.trans (hb.mono HBV.out.size))
        replace l0 := cell_of_ans hb l0
        replace HY := Lib.hid (HY.out.step hb)
        replace HS := Lib.hid (HS.out.step hb)
        replace HLy26 := Lib.hid (HLy26.out.step hb)
        replace HB := Lib.hid (HB.out.trans (hb.mono HB.out.size))
        clear hb
        obtain ⟨-, hpy27, hqy27, hiy27⟩ := ints_parts HOy27.out.isInts
        have HIy27 := Lib.hid hiy27
        clear hiy27 HOy27
        refine (ball20_c Ab cb ball _ HBa.out hcb hbln).mono ?_
        rintro e y28 ⟨Gy28, gy28, rfl, ⟨hgy28, hhy28, hjy28⟩, hb⟩
        replace HL := Lib.hid (HL.out.step hb)
        replace HBa := Lib.hid (HBa.out.step hb)
        replace HX := Lib.hid (HX.out.step hb)
        replace HST := Lib.hid (HST.out.step hb)
        replace HLB2 := Lib.hid (HLB2.out.step hb)
        replace k0 := cell_of_ans hb k0
        replace k1 := cell_of_ans hb k1
        replace k2 := cell_of_ans hb k2
        replace k3 := cell_of_ans hb k3
        replace k4 := cell_of_ans hb k4
        replace n0 := cell_of_ans hb n0
        replace n1 := cell_of_ans hb n1
        replace HBV := Lib.hid (HBV.out.trans (hb.mono HBV.out.size))
        replace l0 := cell_of_ans hb l0
        replace HY := Lib.hid (HY.out.step hb)
        replace HS := Lib.hid (HS.out.step hb)
        replace HLy26 := Lib.hid (HLy26.out.step hb)
        replace HIy27 := Lib.hid (HIy27.out.step hb)
        replace HB := Lib.hid (HB.out.trans (hb.mono HB.out.size))
        clear hb
        have HGy28 := Lib.hid hgy28
        clear hgy28
        go_wp2_with fail
        refine (HHT.out (rotN ws (f + 1)) Ay26 Ay27 Gy28 yA sA cy26 cy27 gy28 cy cs _ HLy26.out hcy26 HIy27.out ⟨hpy27, hqy27⟩ HGy28.out ⟨hhy28, hjy28⟩ HY.out hcy HS.out hcs).mono ?_
        rintro e y29 ⟨lA, cl, rfl, hO, hb⟩
        replace HL := Lib.hid (HL.out.step hb)
        replace HBa := Lib.hid (HBa.out.step hb)
        replace HX := Lib.hid (HX.out.step hb)
        replace HST := Lib.hid (HST.out.step hb)
        replace HLB2 := Lib.hid (HLB2.out.step hb)
        replace k0 := cell_of_ans hb k0
        replace k1 := cell_of_ans hb k1
        replace k2 := cell_of_ans hb k2
        replace k3 := cell_of_ans hb k3
        replace k4 := cell_of_ans hb k4
        replace n0 := cell_of_ans hb n0
        replace n1 := cell_of_ans hb n1
        replace HBV := Lib.hid (HBV.out.trans (hb.mono HBV.out.size))
        replace l0 := cell_of_ans hb l0
        replace HY := Lib.hid (HY.out.step hb)
        replace HS := Lib.hid (HS.out.step hb)
        replace HLy26 := Lib.hid (HLy26.out.step hb)
        replace HIy27 := Lib.hid (HIy27.out.step hb)
        replace HGy28 := Lib.hid (HGy28.out.step hb)
        replace HB := Lib.hid (HB.out.trans (hb.mono HB.out.size))
        clear hb
        clear HLy26 HIy27 HGy28 HY HS
        obtain ⟨hle1, hle2⟩ := HTL.out (rotN ws (f + 1))
        obtain ⟨hcl1, hcl2, hO⟩ := isInts_parts (ownsRow_isInts hO)
        clear hO
        generalize hitL r all10 ball (pickB ball (rotN ws (f + 1))) (pickC r.links (rotN ws (f + 1))) = le at *
        obtain ⟨l, hl⟩ : ∃ l, l = le.length := ⟨_, rfl⟩
        rw [← hl] at hle1 hle2 hcl1 ⊢
        have HLL := Lib.hid hl
        clear hl
        have hl10 : l ≤ 10 := by omega
        have t1 : decide ((l : Int) > 10) = false := decide_eq_false (by omega)
        have t2 : decide (10 < l) = false := decide_eq_false (by omega)
        have t3 : decide ((10 : Int) < (l : Int)) = false := decide_eq_false (by omega)
        go_upto_region 18 with fail
        have hb1 : Below y29.heap.size y29 (y29.alloc (.cells #[.int .i64 (f : Int), .int .i64 0, .int .i64 0, .int .i64 (a : Int), .int .i64 (b : Int)] 82)) := (Below.refl _ _).alloc (Nat.le_refl _) _
        have HST1 := Lib.hid (HST.out.kept hb1)
        have HLB1 := Lib.hid (HLB2.out.below hb1)
        have HSRC := Lib.hid (Sn.src_word y29 (Sn.stoodW a b f) 82)
        have HBV1 := Lib.hid (HBV.out.trans (hb1.mono HBV.out.size))
        have HSZ : Hid (y16.heap.size + 1 ≤ (y29.alloc (.cells #[.int .i64 (f : Int), .int .i64 0, .int .i64 0, .int .i64 (a : Int), .int .i64 (b : Int)] 82)).heap.size) := by have := HLB1.out.lt; show _ ≤ _; omega
        have l1 := HLB2.out.cells.2.1
        have HBZ := Lib.hid (HB.out.trans (hb1.mono HB.out.size))
        have N0 := cell_of_ans hb1 n0
        have N1 := cell_of_ans hb1 n1
        clear hb1
        go_upto_region 19 with (at_builtin; refine Sn.wpList_words (t := 38) (e := 82) (.inl ⟨rfl, rfl⟩) (.tmp 127) (.tmp 135) rfl rfl (y16.heap.size + 1) _ (.slice Au f cu) (Sn.stoodL a b f) [Sn.stoodW a b f] (some ⟨y29.heap.size, 0, none⟩) 1 1 rfl rfl rfl HST1.out.ow HSRC.out (by rw [Sn.stoodL_len]; omega) (by simp) HSZ.out ?_; intro u8 w8 HA8; obtain ⟨A8, c8, e8⟩ := HA8.out.own.form; rw [show (Sn.stoodL a b f ++ [Sn.stoodW a b f]).length = f + 1 by rw [List.length_append, Sn.stoodL_len]; rfl] at e8; subst e8; have HLB8 := Lib.hid (LB_grown HLB1.out HA8.out.grw (fun e => by have := (ownW_lt HST1.out.ow _ e).1; omega)); have m1 := HLB8.out.cells.2.1; have m1f := HLB8.out.cells.2.2)
        have HST3 : Hid (StG (y16.heap.size + 1) (w8.setCell ⟨y16.heap.size, 1, none⟩ (.slice A8 (f + 1) c8)) (.slice A8 (f + 1) c8) (Sn.stoodL a b (f + 1)) (.slice Ag f cg) vs (ls.map Sn.stoodR) (some ⟨gB, 0, none⟩) (rotN ws (f + 1))) := by
          rw [Sn.stoodL_succ]
          exact (HST1.out.word HA8.out).set (ad := ⟨y16.heap.size, 1, none⟩) (by dsimp only; omega) (fun hp b o e => HNB.out (by first | (rw [rotN_len] at hp; exact hp) | (rw [rot_len, rotN_len] at hp; exact hp)) b o e) _
        have HLB3 : Hid (Sn.LB (w8.setCell ⟨y16.heap.size, 1, none⟩ (.slice A8 (f + 1) c8)) y16.heap.size (m : Int) (.slice A8 (f + 1) c8) 40) := HLB8.out.set _
        have HBG := Lib.hid (below_grown (B := y16.heap.size) HA8.out.grw (by have := HSZ.out; omega) (fun k e => by have := (ownW_lt HST1.out.ow k e).1; omega))
        have HBV3 : Hid (Below y16.heap.size y16 (w8.setCell ⟨y16.heap.size, 1, none⟩ (.slice A8 (f + 1) c8))) := (HBV1.out.trans HBG.out).setCell (by dsimp only; omega) _
        have HSZ3 : Hid (y16.heap.size + 1 ≤ (w8.setCell ⟨y16.heap.size, 1, none⟩ (.slice A8 (f + 1) c8)).heap.size) := HLB3.out.lt
        clear HST HST1 HLB1 HLB2 HLB8 HBV HBV1 HA8 HSRC HBG HSZ m1 m1f l0 l1 N0 N1 HBZ n0 n1 k0 k1 k2 k3 k4 HL HBa HX
        generalize (w8.setCell ⟨y16.heap.size, 1, none⟩ (.slice A8 (f + 1) c8)) = w3 at *
        by_cases hz : l = 0
        · have q1 : ((l : Int) == 0) = true := by simp [hz]
          have HRN : Hid ((ls.map Sn.stoodR).length = f) := (by show _ = _; rw [List.length_map]; exact HLS.out)
          go_wp2_with (at_builtin; refine wpList_appG (.tmp 141) (.tmp 143) rfl rfl (ys := [10]) (m := 1) (cs := #[.int .i64 10]) rfl rfl rfl rfl rfl HST3 HRN (by omega) HSZ3.out (Lib.hid rfl) (by omega) ?_; intro B5 c5 w5 HS5 HG5)
          have HB5 := Lib.hid (below_grown (B := y16.heap.size) HG5.out (by have := HSZ3.out; omega) (fun k e => by have := (HST3.out.og.lt k e).1; omega))
          have HLB5 := Lib.hid (LB_grown HLB3.out HG5.out (fun e => by have := (HST3.out.og.lt _ e).1; omega))
          have HRE : Hid ((ls ++ [l]).map Sn.stoodR = ls.map Sn.stoodR ++ [[10]]) := by show _ = _; rw [List.map_append]; simp [Sn.stoodR, hz]
          go_roundw
          case rel => exact ⟨f + 1, by omega, by go_num, ls ++ [l], _, (some ⟨gB, 0, none⟩), cB9, _, by rw [HLW.out], by rw [HLW.out]; exact HCX.out, HNB.out, by simp [HLS.out], fun x hx => by
              rcases List.mem_append.1 hx with h | h
              · exact HIN.out x h
              · rw [List.mem_singleton.1 h]; exact ⟨hle1, hle2⟩, by rw [HRE.out]; exact HS5.out, HLB5.out, HBV3.out.trans HB5.out⟩
          case measure => simp [intOf]; omega
        · have q1 : ((l : Int) == 0) = false := by simp [hz]
          have q2 : IntKind.i64.wrap (10 - (l : Int)) = 10 - (l : Int) := IntWalk.i64_in _ (by omega)
          have HRN : Hid ((ls.map Sn.stoodR).length = f) := (by show _ = _; rw [List.length_map]; exact HLS.out)
          go_wp2_with (at_builtin; refine wpList_appG (.tmp 145) (.tmp 150) rfl rfl (ys := [10 - (l : Int), 0]) (m := 2) (cs := #[.int .i64 (10 - (l : Int)), .int .i64 0]) rfl rfl rfl rfl rfl HST3 HRN (by omega) HSZ3.out (Lib.hid rfl) (by omega) ?_; intro B5 c5 w5 HS5 HG5)
          have HB5 := Lib.hid (below_grown (B := y16.heap.size) HG5.out (by have := HSZ3.out; omega) (fun k e => by have := (HST3.out.og.lt k e).1; omega))
          have HLB5 := Lib.hid (LB_grown HLB3.out HG5.out (fun e => by have := (HST3.out.og.lt _ e).1; omega))
          have HRE : Hid ((ls ++ [l]).map Sn.stoodR = ls.map Sn.stoodR ++ [[10 - (l : Int), 0]]) := by show _ = _; rw [List.map_append]; simp [Sn.stoodR, hz]
          go_roundw
          case rel => exact ⟨f + 1, by omega, by go_num, ls ++ [l], _, (some ⟨gB, 0, none⟩), cB9, _, by rw [HLW.out], by rw [HLW.out]; exact HCX.out, HNB.out, by simp [HLS.out], fun x hx => by
              rcases List.mem_append.1 hx with h | h
              · exact HIN.out x h
              · rw [List.mem_singleton.1 h]; exact ⟨hle1, hle2⟩, by rw [HRE.out]; exact HS5.out, HLB5.out, HBV3.out.trans HB5.out⟩
          case measure => simp [intOf]; omega
      · obtain rfl : m = f := by omega
        have h1i : ¬ (m : Int) < (m : Int) := by omega
        have l1 := HLB2.out.cells.2.1
        obtain ⟨hcu1, hcu2, hw0⟩ := HST.out.ow.wds
        have HW := Lib.hid hw0
        have HGR := Lib.hid (Sn.grd_of HST.out.og.isGrd).2.2
        have hcg1 := (Sn.grd_of HST.out.og.isGrd).1
        have hcg2 := (Sn.grd_of HST.out.og.isGrd).2.1
        have HPV := Lib.hid (Sn.stood_prove (a := a) (m := m) hb10 ls HLS.out HIN.out)
        have HRS := Lib.hid (fun f (hf : f < m) => Sn.stood_rgs (a := a) (b := b) (m := m) hab hb10 hf)
        have hrl0 := Sn.rangesL_len (Sn.stoodL a b m) (Sn.offT []) m
        obtain ⟨hcl, hch⟩ := Sn.stood_cnt (a := a) (b := b) (m := m) hab hb10 m (Nat.le_refl _)
        clear hw0 h1 HPK HHT HTL HX HL HBa k0 k1 k2 k3 k4
        have HRA := Lib.hid (fun W (h : Sn.Wds W.heap.size W Au (Sn.stoodL a b m)) => Sn.ranges_ok Au none (Sn.stoodL a b m) [] cu 0 (m : Int) W h (fun h => absurd h (by simp)) ⟨hcu1, hcu2⟩ (by simp) (Sn.stood_expl hab hb10 hmb.1 hmb.2))
        rw [Sn.stoodL_len, Int.toNat_natCast, hcl, hch] at HRA
        have HPR := Lib.hid (fun W (h : Sn.Wds W.heap.size W Au (Sn.stoodL a b m)) (h2 : Grd W.heap.size W Ag (ls.map Sn.stoodR)) => Sn.prove_ok Au none Ag (Sn.stoodL a b m) [] (ls.map Sn.stoodR) cu 0 cg m W h (fun h => absurd h (by simp)) h2 ⟨hcu1, hcu2⟩ (by simp) ⟨hcg1, hcg2⟩ (Sn.stood_ask hab hb10 hmb.1 hmb.2))
        rw [HPV.out, Sn.stoodL_len, List.length_map, HLS.out] at HPR
        clear hcl hch HPV HST HLB2 HBV
        go_wp2_with fail
        refine (HRA.out _ HW.out).mono ?_
        rintro e y30 ⟨Ar, cr, rfl, hcr, hR, hb⟩
        replace n0 := cell_of_ans hb n0
        replace n1 := cell_of_ans hb n1
        replace l0 := cell_of_ans hb l0
        replace l1 := cell_of_ans hb l1
        replace HW := Lib.hid (HW.out.step hb)
        replace HGR := Lib.hid (HGR.out.step hb)
        replace HB := Lib.hid (HB.out.trans (hb.mono HB.out.size))
        clear hb
        have HG := Lib.hid hR
        clear hR HRA
        generalize Sn.rangesL (Sn.stoodL a b m) (Sn.offT []) m = rs at *
        have HRL := Lib.hid hrl0
        have hr10 : rs.length ≤ 10 := by omega
        clear hrl0
        go_upto_region 23 with fail
        have hb : Below y30.heap.size y30 (y30.alloc (.cells #[.int .i64 ((m : Int) * (10 - (b : Int))), .int .i64 ((m : Int) * 10)] 34)) := (Below.refl _ _).alloc (Nat.le_refl _) _
        have u0 : (y30.alloc (.cells #[.int .i64 ((m : Int) * (10 - (b : Int))), .int .i64 ((m : Int) * 10)] 34)).cell? ⟨y30.heap.size, 0, none⟩ = some (.int .i64 ((m : Int) * (10 - (b : Int)))) := by simp
        have u1 : (y30.alloc (.cells #[.int .i64 ((m : Int) * (10 - (b : Int))), .int .i64 ((m : Int) * 10)] 34)).cell? ⟨y30.heap.size, 1, none⟩ = some (.int .i64 ((m : Int) * 10)) := by simp
        replace n0 := cell_of_ans hb n0
        replace n1 := cell_of_ans hb n1
        replace l0 := cell_of_ans hb l0
        replace l1 := cell_of_ans hb l1
        replace HW := Lib.hid (HW.out.step hb)
        replace HGR := Lib.hid (HGR.out.step hb)
        replace HG := Lib.hid (HG.out.step hb)
        replace HB := Lib.hid (HB.out.trans (hb.mono HB.out.size))
        clear hb
        generalize (y30.alloc (.cells #[.int .i64 ((m : Int) * (10 - (b : Int))), .int .i64 ((m : Int) * 10)] 34)) = y31 at *
        generalize y30.heap.size = qy31 at *
        have hm2 : IntKind.i64.wrap (2 * (m : Int)) = 2 * (m : Int) := IntWalk.i64_in _ (by omega)
        have hlm : ((rs.length : Int) != 2 * (m : Int)) = false := bne_eq_false_iff_eq.2 (by have := HRL.out; omega)
        go_wp2_with fail
        refine (HPR.out _ HW.out HGR.out).mono ?_
        rintro e y32 ⟨rfl, hb⟩
        replace n0 := cell_of_ans hb n0
        replace n1 := cell_of_ans hb n1
        replace l0 := cell_of_ans hb l0
        replace l1 := cell_of_ans hb l1
        replace HW := Lib.hid (HW.out.step hb)
        replace HGR := Lib.hid (HGR.out.step hb)
        replace HG := Lib.hid (HG.out.step hb)
        replace u0 := cell_of_ans hb u0
        replace u1 := cell_of_ans hb u1
        replace HB := Lib.hid (HB.out.trans (hb.mono HB.out.size))
        clear hb
        clear HPR hlm HW HGR HLS HIN
        go_wp2_with fail
        have hne : ∀ (x y : Int) (w : World), (binOp .neq 34 (.agg #[.int .i64 x, .int .i64 y]) (.agg #[.int .i64 x, .int .i64 y])).run Try.prog w = .ok (.bool false) w := fun x y w => by rw [ne34]; simp
        have HNE := Lib.hid hne
        clear hne
        go_loopw [22] (fun iv wx => ∃ i : Nat, i ≤ m ∧ iv = .int .i64 (i : Int) ∧ Below y32.heap.size y32 wx) (fun iv _ => m - (intOf iv).toNat)
        case atStart => exact ⟨0, by omega, rfl, Below.refl _ _⟩
        case round =>
          obtain ⟨i, hi0, rfl, hbw⟩ := hrel
          have HBW2 := Lib.hid hbw
          replace l0 := cell_of_ans hbw l0
          replace n0 := cell_of_ans hbw n0
          replace n1 := cell_of_ans hbw n1
          by_cases h1 : i < m
          · have h1i : (i : Int) < (m : Int) := by omega
            obtain ⟨b3, o3, hA3, hb3, hc3⟩ := HG.out (by have := HRL.out; omega)
            subst hA3
            obtain ⟨e1, e2⟩ := HRS.out i h1
            obtain ⟨g1, g2⟩ := hc3 (2 * i) (by have := HRL.out; omega)
            obtain ⟨g3, g4⟩ := hc3 (2 * i + 1) (by have := HRL.out; omega)
            rw [e1] at g1 g2
            rw [e2] at g3 g4
            dsimp only at g1 g2 g3 g4
            clear hc3 e1 e2
            obtain ⟨j1, hj1⟩ : ∃ j, j = 2 * i := ⟨_, rfl⟩
            obtain ⟨j2, hj2⟩ : ∃ j, j = 2 * i + 1 := ⟨_, rfl⟩
            rw [← hj2] at g3 g4
            rw [← hj1] at g1 g2
            have hr1 : (j1 : Int) < (rs.length : Int) := by have := HRL.out; omega
            have hr2 : (j2 : Int) < (rs.length : Int) := by have := HRL.out; omega
            have hw5 : IntKind.i64.wrap (2 * (i : Int)) = (j1 : Int) := by rw [IntWalk.i64_in _ (by omega)]; omega
            have hw6 : IntKind.i64.wrap ((j1 : Int) + 1) = (j2 : Int) := by rw [IntWalk.i64_in _ (by omega)]; omega
            have hw7 : IntKind.i64.wrap ((i : Int) + 1) = (i : Int) + 1 := IntWalk.i64_in _ (by omega)
            have HJ1 := Lib.hid hj1
            have HJ2 := Lib.hid hj2
            clear hj1 hj2
            replace g1 := cell_of_ans hbw g1
            replace g2 := cell_of_ans hbw g2
            replace g3 := cell_of_ans hbw g3
            replace g4 := cell_of_ans hbw g4
            have hne := HNE.out
            go_wp2_with fail
            go_quiet (fail)
            go_wp2_with fail
            go_roundw
            case rel => exact ⟨i + 1, by omega, by go_num, below_drewN HBW2.out _⟩
            case measure => simp [intOf]; omega
          · obtain rfl : m = i := by omega
            have h1i : ¬ (m : Int) < (m : Int) := by omega
            replace u0 := cell_of_ans hbw u0
            replace u1 := cell_of_ans hbw u1
            have hp1 : IntKind.i64.wrap (10 - (b : Int)) = 10 - (b : Int) := IntWalk.i64_in _ (by omega)
            have hp2 : IntKind.i64.wrap ((m : Int) * (10 - (b : Int))) = (m : Int) * (10 - (b : Int)) := IntWalk.i64_in _ (by
              have h1 : (m : Int) * (10 - (b : Int)) ≤ 5 * (10 - (b : Int)) := Int.mul_le_mul_of_nonneg_right (by omega) (by omega)
              have h2 : 0 ≤ (m : Int) * (10 - (b : Int)) := Int.mul_nonneg (by omega) (by omega)
              omega)
            have hp3 : IntKind.i64.wrap ((m : Int) * 10) = (m : Int) * 10 := IntWalk.i64_in _ (by omega)
            have heq : ∀ (x y : Int) (w : World), (binOp .eql 34 (.agg #[.int .i64 x, .int .i64 y]) (.agg #[.int .i64 x, .int .i64 y])).run Try.prog w = .ok (.bool true) w := fun x y w => by rw [eq34]; simp
            have hb := hbw
            replace HB := Lib.hid (HB.out.trans (hb.mono HB.out.size))
            clear hb h1
            go_wp2_with fail
            refine (HWK.out _).mono ?_
            rintro e w9 ⟨rfl, hb⟩
            go_wp2_with fail
            go_ret
            exact ⟨rfl, HB.out.trans (hb.mono HB.out.size)⟩
end Go.Proofs.Ytenpiinkbfancaa.Rk
