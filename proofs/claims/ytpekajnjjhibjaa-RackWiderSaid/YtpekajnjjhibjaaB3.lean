/-
  reaches, touched, falls, felled.
-/
import Derived.Test.YtpekajnjjhibjaaB2
namespace Go.Proofs.Ytpekajnjjhibjaa
open Go.RowKit
set_option linter.unusedSimpArgs false
set_option linter.unusedVariables false

set_option maxHeartbeats 1000000 in
theorem reaches_c (r : Rk) (A : Option Addr) (c pins p : Nat) (b : Int) (w : World) (hr : Ok r) (hp : p < 10) (hb1 : -1000 ≤ b) (hb2 : b ≤ 1000) :
    Calls Try.prog 102 #[.agg #[.int .i64 r.rows, .int .i64 r.mid, .int .i64 r.gap, .int .i64 r.reach, .slice A r.links.length c, .int .u16 (pins : Int)], .int .i64 (p : Int), .int .i64 b] w (Ans w (.bool (reachB r p b))) := by
  have HB := Lib.hid (Below.refl w.heap.size w)
  have h6 := board_in hr hp
  have h7 := hr.reach0
  have h8 := hr.reach10
  have q1 : IntKind.i64.wrap (-r.reach) = -r.reach := IntWalk.i64_in _ (by omega)
  have q2 : IntKind.i64.wrap (boardP r p - b) = boardP r p - b := IntWalk.i64_in _ (by omega)
  have hb : Below w.heap.size w (w.alloc (.cells #[.int .i64 r.rows, .int .i64 r.mid, .int .i64 r.gap, .int .i64 r.reach, .slice A r.links.length c, .int .u16 (pins : Int)] 102)) := (Below.refl _ _).alloc (Nat.le_refl _) _
  replace HB := Lib.hid (HB.out.trans (hb.mono HB.out.size))
  clear hb
  have k0 : (w.alloc (.cells #[.int .i64 r.rows, .int .i64 r.mid, .int .i64 r.gap, .int .i64 r.reach, .slice A r.links.length c, .int .u16 (pins : Int)] 102)).cell? ⟨w.heap.size, 0, none⟩ = some (.int .i64 r.rows) := by simp
  have k1 : (w.alloc (.cells #[.int .i64 r.rows, .int .i64 r.mid, .int .i64 r.gap, .int .i64 r.reach, .slice A r.links.length c, .int .u16 (pins : Int)] 102)).cell? ⟨w.heap.size, 1, none⟩ = some (.int .i64 r.mid) := by simp
  have k2 : (w.alloc (.cells #[.int .i64 r.rows, .int .i64 r.mid, .int .i64 r.gap, .int .i64 r.reach, .slice A r.links.length c, .int .u16 (pins : Int)] 102)).cell? ⟨w.heap.size, 2, none⟩ = some (.int .i64 r.gap) := by simp
  have k3 : (w.alloc (.cells #[.int .i64 r.rows, .int .i64 r.mid, .int .i64 r.gap, .int .i64 r.reach, .slice A r.links.length c, .int .u16 (pins : Int)] 102)).cell? ⟨w.heap.size, 3, none⟩ = some (.int .i64 r.reach) := by simp
  have k4 : (w.alloc (.cells #[.int .i64 r.rows, .int .i64 r.mid, .int .i64 r.gap, .int .i64 r.reach, .slice A r.links.length c, .int .u16 (pins : Int)] 102)).cell? ⟨w.heap.size, 4, none⟩ = some (.slice A r.links.length c) := by simp
  have k5 : (w.alloc (.cells #[.int .i64 r.rows, .int .i64 r.mid, .int .i64 r.gap, .int .i64 r.reach, .slice A r.links.length c, .int .u16 (pins : Int)] 102)).cell? ⟨w.heap.size, 5, none⟩ = some (.int .u16 (pins : Int)) := by simp
  go_enter Try.func102, Try.ntmps102
  go_upto_region 1 with fail
  generalize (w.alloc (.cells #[.int .i64 r.rows, .int .i64 r.mid, .int .i64 r.gap, .int .i64 r.reach, .slice A r.links.length c, .int .u16 (pins : Int)] 102)) = x1 at *
  have hd : Below x1.heap.size x1 x1.drew := (Below.refl _ _).drew
  replace HB := Lib.hid (HB.out.trans (hd.mono HB.out.size))
  clear hd
  go_region_held3 (fun w' => w'.cell? ⟨w.heap.size, 0, none⟩ = some (.int .i64 r.rows) ∧ w'.cell? ⟨w.heap.size, 1, none⟩ = some (.int .i64 r.mid) ∧ w'.cell? ⟨w.heap.size, 2, none⟩ = some (.int .i64 r.gap) ∧ w'.cell? ⟨w.heap.size, 3, none⟩ = some (.int .i64 r.reach) ∧ w'.cell? ⟨w.heap.size, 4, none⟩ = some (.slice A r.links.length c)) (go_keep) (first | (go_at_call 110; refine (board_c r A c p _ hr hp).mono ?_; rintro e x9 ⟨rfl, hb⟩; replace k0 := cell_of_ans (below_drew_l hb) k0; replace k1 := cell_of_ans (below_drew_l hb) k1; replace k2 := cell_of_ans (below_drew_l hb) k2; replace k3 := cell_of_ans (below_drew_l hb) k3; replace k4 := cell_of_ans (below_drew_l hb) k4; replace k5 := cell_of_ans (below_drew_l hb) k5; replace HB := Lib.hid (HB.out.trans (hb.mono HB.out.size)); clear hb) | (go_at_call 65; refine (within_c _ _ _ _).mono ?_; rintro e w1 ⟨rfl, rfl⟩))
  go_wp2_with fail
  go_ret
  exact ⟨rfl, HB.out⟩

theorem ofS_filter_take (l : List Nat) (f : Nat → Bool) {k : Nat} (h : k < l.length) : ofS ((l.take (k + 1)).filter f) = if f l[k] then ofS ((l.take k).filter f) ||| 2 ^ l[k] else ofS ((l.take k).filter f) := by
  rw [List.take_succ_eq_append_getElem h, List.filter_append]
  cases hf : f l[k]
  · simp [hf]
  · simp [hf, or_ofS]
theorem shl_u16 {p : Nat} (hp : p < 10) : IntKind.u16.wrap ((2 : Int) ^ p) = (2 : Int) ^ p := by
  have hp2 : (2 : Nat) ^ p < 2 ^ 10 := Nat.pow_lt_pow_right (by decide) hp
  have e : (2 : Int) ^ p = ((2 ^ p : Nat) : Int) := by simp
  rw [IntKind.wrap_u16, e]
  generalize 2 ^ p = q at hp2 ⊢
  omega
theorem or_u16 {s p : Nat} (hs : s < 2 ^ 10) (hp : p < 10) : bits .or .u16 (s : Int) ((2 : Int) ^ p) = ((s ||| 2 ^ p : Nat) : Int) := by
  have hp2 : (2 : Nat) ^ p < 2 ^ 10 := Nat.pow_lt_pow_right (by decide) hp
  rw [show (2 : Int) ^ p = ((2 ^ p : Nat) : Int) by simp, u16_or_nat _ _ (by omega) (by omega)]
theorem or_lt {s p : Nat} (hs : s < 2 ^ 10) (hp : p < 10) : s ||| 2 ^ p < 2 ^ 10 := Nat.or_lt_two_pow hs (Nat.pow_lt_pow_right (by decide) hp)
theorem touch_of (r : Rk) (pins row : Nat) (b : Int) : ofS ((listS pins).filter fun p => decide (rowP p = row) && reachB r p b) = touchS r pins row b := by
  refine set_ext (n := 10) (ofS_lt fun p hp => (mem_listS.1 (List.mem_filter.1 hp).1).1) (touchS_lt ..) fun p hp => ?_
  rw [mem_ofS, touchS, mem_bitsP, List.mem_filter, mem_listS]
  simp [hp, and_assoc]
theorem field155 (x y : Int) (w : World) : (Instr.field 155 (.agg #[.int .i64 x, .int .i64 y]) 0).run Try.prog w = .ok (.int .i64 x) w := by kernel_rfl
attribute [local go_sem] field155
theorem enters102 : ∀ args W, (callFunc 102 args).run Try.prog W = .ok (.enter 102 args) W := fun _ _ => enters_of Try.func102 (by kernel_rfl) rfl _ _

set_option maxRecDepth 100000 in
set_option maxHeartbeats 4000000 in
theorem touched_c (r : Rk) (A : Option Addr) (c pins row : Nat) (b : Int) (w : World) (hr : Ok r) (hp : pins < 2 ^ 10) (hb1' : -1000 ≤ b) (hb2' : b ≤ 1000) :
    Calls Try.prog 84 #[.agg #[.int .i64 r.rows, .int .i64 r.mid, .int .i64 r.gap, .int .i64 r.reach, .slice A r.links.length c, .int .u16 (pins : Int)], .int .i64 (row : Int), .int .i64 b] w (Ans w (.int .u16 (touchS r pins row b : Int))) := by
  have HB := Lib.hid (Below.refl w.heap.size w)
  have hb : Below w.heap.size w (w.alloc (.cells #[.int .i64 r.rows, .int .i64 r.mid, .int .i64 r.gap, .int .i64 r.reach, .slice A r.links.length c, .int .u16 (pins : Int)] 102)) := (Below.refl _ _).alloc (Nat.le_refl _) _
  replace HB := Lib.hid (HB.out.trans (hb.mono HB.out.size))
  clear hb
  have k0 : (w.alloc (.cells #[.int .i64 r.rows, .int .i64 r.mid, .int .i64 r.gap, .int .i64 r.reach, .slice A r.links.length c, .int .u16 (pins : Int)] 102)).cell? ⟨w.heap.size, 0, none⟩ = some (.int .i64 r.rows) := by simp
  have k1 : (w.alloc (.cells #[.int .i64 r.rows, .int .i64 r.mid, .int .i64 r.gap, .int .i64 r.reach, .slice A r.links.length c, .int .u16 (pins : Int)] 102)).cell? ⟨w.heap.size, 1, none⟩ = some (.int .i64 r.mid) := by simp
  have k2 : (w.alloc (.cells #[.int .i64 r.rows, .int .i64 r.mid, .int .i64 r.gap, .int .i64 r.reach, .slice A r.links.length c, .int .u16 (pins : Int)] 102)).cell? ⟨w.heap.size, 2, none⟩ = some (.int .i64 r.gap) := by simp
  have k3 : (w.alloc (.cells #[.int .i64 r.rows, .int .i64 r.mid, .int .i64 r.gap, .int .i64 r.reach, .slice A r.links.length c, .int .u16 (pins : Int)] 102)).cell? ⟨w.heap.size, 3, none⟩ = some (.int .i64 r.reach) := by simp
  have k4 : (w.alloc (.cells #[.int .i64 r.rows, .int .i64 r.mid, .int .i64 r.gap, .int .i64 r.reach, .slice A r.links.length c, .int .u16 (pins : Int)] 102)).cell? ⟨w.heap.size, 4, none⟩ = some (.slice A r.links.length c) := by simp
  have k5 : (w.alloc (.cells #[.int .i64 r.rows, .int .i64 r.mid, .int .i64 r.gap, .int .i64 r.reach, .slice A r.links.length c, .int .u16 (pins : Int)] 102)).cell? ⟨w.heap.size, 5, none⟩ = some (.int .u16 (pins : Int)) := by simp
  go_enter Try.func84, Try.ntmps84
  go_wp2_with fail
  generalize (w.alloc (.cells #[.int .i64 r.rows, .int .i64 r.mid, .int .i64 r.gap, .int .i64 r.reach, .slice A r.links.length c, .int .u16 (pins : Int)] 102)) = x1 at *
  refine (list_s pins _ (by omega)).mono ?_
  rintro e x2 ⟨Al, cl, rfl, hO, hb⟩
  replace k0 := cell_of_ans hb k0
  replace k1 := cell_of_ans hb k1
  replace k2 := cell_of_ans hb k2
  replace k3 := cell_of_ans hb k3
  replace k4 := cell_of_ans hb k4
  replace k5 := cell_of_ans hb k5
  replace HB := Lib.hid (HB.out.trans (hb.mono HB.out.size))
  clear hb
  obtain ⟨hcl, hcl2, hI⟩ := isInts_parts (ownsRow_isInts hO)
  have HI := Lib.hid hI
  clear hO hI
  have HM : Hid (∀ p ∈ listS pins, p < 10) := fun p h => (mem_listS.1 h).1
  have hll : (listS pins).length ≤ 10 := many_le pins
  have HT := Lib.hid (touch_of r pins row b)
  rw [natsI_len] at hcl ⊢
  clear k0 k1 k2 k3 k4 k5
  generalize listS pins = l at *
  go_wp2_with fail
  go_loopw [6, 16] (fun t i wr => ∃ k : Nat, k ≤ l.length ∧ i = .int .i64 k ∧ t = .int .u16 (ofS ((l.take k).filter fun p => decide (rowP p = row) && reachB r p b) : Int) ∧ Below x2.heap.size x2 wr) (fun _ i _ => l.length - (intOf i).toNat)
  case atStart => exact ⟨0, by omega, rfl, rfl, Below.refl _ _⟩
  case round =>
    obtain ⟨k, hk, rfl, rfl, hb⟩ := hrel
    by_cases h1 : k < l.length
    · obtain ⟨b1, off, hA, hb1, hc⟩ := (HI.out.step hb).at_ (k := k) (by rw [natsI_len]; exact h1)
      have hp : l[k] < 10 := HM.out _ (List.getElem_mem h1)
      rw [show ix (natsI l) k = (l[k] : Int) by rw [ix_lt (by rw [natsI_len]; exact h1)]; simp [natsI]] at hc
      have HS := Lib.hid (ofS_filter_take l (fun p => decide (rowP p = row) && reachB r p b) h1)
      have hlt : ofS ((l.take k).filter fun p => decide (rowP p = row) && reachB r p b) < 2 ^ 10 := ofS_lt fun p hp => HM.out p (List.mem_of_mem_take (List.mem_filter.1 hp).1)
      generalize ofS ((l.take k).filter fun p => decide (rowP p = row) && reachB r p b) = s at *
      generalize l[k] = p at *
      have h1i : (k : Int) < (l.length : Int) := by omega
      have HBW := Lib.hid hb
      have hpl := place_le hp
      subst hA
      clear hb
      by_cases hrow : rowP p = row
      · have hrb : ((rowP p : Int) == (row : Int)) = true := by simp [hrow]
        cases hre : reachB r p b
        · have HE : Hid (ofS ((l.take (k + 1)).filter fun p => decide (rowP p = row) && reachB r p b) = s) := by show _ = _; rw [HS.out, hre]; simp
          have HRC : Hid (∀ W, Calls Try.prog 102 #[.agg #[.int .i64 r.rows, .int .i64 r.mid, .int .i64 r.gap, .int .i64 r.reach, .slice A r.links.length c, .int .u16 (pins : Int)], .int .i64 (p : Int), .int .i64 b] W (Ans W (.bool false))) := fun W => hre ▸ reaches_c r A c pins p b W hr hp hb1' hb2'
          clear hrow hre
          go_wp2_with (go_at_call 103; refine (where_c p _ hp).mono ?_; rintro e w1 ⟨rfl, hb⟩; replace HBW := Lib.hid (HBW.out.trans (hb.mono HBW.out.size)); clear hb)
          refine (HRC.out _).mono ?_
          rintro e w2 ⟨rfl, hb⟩
          replace HBW := Lib.hid (HBW.out.trans (hb.mono HBW.out.size))
          clear hb
          go_wp2_with fail
          go_roundw
          case rel => exact ⟨k + 1, by omega, by go_num, by rw [HE.out], HBW.out⟩
          case measure => simp [intOf]; omega
        · have HE : Hid (ofS ((l.take (k + 1)).filter fun p => decide (rowP p = row) && reachB r p b) = s ||| 2 ^ p) := by show _ = _; rw [HS.out, hre]; simp [hrow]
          have HRC : Hid (∀ W, Calls Try.prog 102 #[.agg #[.int .i64 r.rows, .int .i64 r.mid, .int .i64 r.gap, .int .i64 r.reach, .slice A r.links.length c, .int .u16 (pins : Int)], .int .i64 (p : Int), .int .i64 b] W (Ans W (.bool true))) := fun W => hre ▸ reaches_c r A c pins p b W hr hp hb1' hb2'
          have hw := shl_u16 hp
          have HO := Lib.hid (or_u16 hlt hp)
          clear hrow hre
          go_wp2_with (go_at_call 103; refine (where_c p _ hp).mono ?_; rintro e w1 ⟨rfl, hb⟩; replace HBW := Lib.hid (HBW.out.trans (hb.mono HBW.out.size)); clear hb)
          refine (HRC.out _).mono ?_
          rintro e w2 ⟨rfl, hb⟩
          replace HBW := Lib.hid (HBW.out.trans (hb.mono HBW.out.size))
          clear hb
          go_wp2_with fail
          go_roundw
          case rel => exact ⟨k + 1, by omega, by go_num, by rw [HE.out]; exact congrArg _ HO.out, HBW.out⟩
          case measure => simp [intOf]; omega
      · have hrb : ((rowP p : Int) == (row : Int)) = false := by simp; omega
        have HE : Hid (ofS ((l.take (k + 1)).filter fun p => decide (rowP p = row) && reachB r p b) = s) := by show _ = _; rw [HS.out]; simp [hrow]
        clear hrow
        go_wp2_with (go_at_call 103; refine (where_c p _ hp).mono ?_; rintro e w1 ⟨rfl, hb⟩; replace HBW := Lib.hid (HBW.out.trans (hb.mono HBW.out.size)); clear hb)
        go_roundw
        case rel => exact ⟨k + 1, by omega, by go_num, by rw [HE.out], HBW.out⟩
        case measure => simp [intOf]; omega
    · obtain rfl : k = l.length := by omega
      rw [List.take_of_length_le (Nat.le_refl _), HT.out]
      go_wp2_with fail
      go_ret
      exact ⟨rfl, HB.out.trans (hb.mono HB.out.size)⟩

theorem filter_lt {f g : Nat → Bool} : ∀ {l : List Nat}, (∀ x ∈ l, f x = true → g x = true) → (∃ x ∈ l, g x = true ∧ f x = false) → (l.filter f).length < (l.filter g).length
  | [], _, h => by obtain ⟨x, hx, _⟩ := h; cases hx
  | y :: l, h1, h2 => by
    have hle : ∀ l : List Nat, (∀ x ∈ l, f x = true → g x = true) → (l.filter f).length ≤ (l.filter g).length := by
      intro l
      induction l with
      | nil => intro _; exact Nat.le_refl _
      | cons z l ih =>
        intro h
        have := ih fun x hx => h x (List.mem_cons_of_mem _ hx)
        have hz := h z (List.mem_cons_self ..)
        cases hf : f z <;> cases hg : g z <;> simp_all <;> omega
    have hl := hle l fun x hx => h1 x (List.mem_cons_of_mem _ hx)
    have hy := h1 y (List.mem_cons_self ..)
    by_cases h3 : g y = true ∧ f y = false
    · simp [List.filter_cons, h3.1, h3.2]; omega
    · have h4 : (l.filter f).length < (l.filter g).length := by
        refine filter_lt (fun x hx => h1 x (List.mem_cons_of_mem _ hx)) ?_
        obtain ⟨x, hx, h⟩ := h2
        rcases List.mem_cons.1 hx with rfl | hx
        · exact absurd h h3
        · exact ⟨x, hx, h⟩
      cases hf : f y <;> cases hg : g y <;> simp_all
theorem many_lt {a b : Nat} (ha : a < 2 ^ 10) (hb : b < 2 ^ 10) (h : Sub a b) (hne : a ≠ b) : many a < many b := by
  refine filter_lt (fun x _ hx => h x hx) ?_
  refine Classical.byContradiction fun hn => hne (Sub.antisymm ha hb h fun p hp => Classical.byContradiction fun hq => hn ⟨p, List.mem_range.2 (bit_lt hb hp), hp, by simpa using hq⟩)
theorem mem_or_pow {s p q : Nat} : (s ||| 2 ^ p).testBit q = true ↔ s.testBit q = true ∨ p = q := by rw [Nat.testBit_or, Bool.or_eq_true, Nat.testBit_two_pow]; simp
theorem fall_is {ls : List Lk} {cf : Nat → Bool} {pins s u : Nat} (hu : u < 2 ^ 10) (hs : s < 2 ^ 10) (hp : pins < 2 ^ 10) (h0 : Sub s u) (h1 : ∀ p, u.testBit p = true → Fall ls cf pins s p)
    (hcl : ∀ i, i < ls.length → cf i = true → u.testBit (lx ls i).f.toNat = true → pins.testBit (lx ls i).t.toNat = true → u.testBit (lx ls i).t.toNat = true) : u = fallS ls cf pins s :=
  set_ext hu (fallS_lt hs hp) fun p _ => by
    rw [mem_fallS (by omega) (by omega)]
    exact ⟨h1 p, fall_closed h0 hcl⟩
theorem link_pins {r : Rk} (hr : Ok r) {k : Nat} (hk : k < r.links.length) : ∃ f t : Nat, f < 10 ∧ t < 10 ∧ (lx r.links k).f = (f : Int) ∧ (lx r.links k).t = (t : Int) ∧ f < pn r.rows ∧ t < pn r.rows := by
  have h := hr.link k hk
  have hp := pn_le hr.rows1 hr.rows4
  simp only [linkB, Bool.and_eq_true, inB_eq] at h
  obtain ⟨⟨a, b⟩, ⟨c, d⟩, _⟩ := h
  exact ⟨(lx r.links k).f.toNat, (lx r.links k).t.toNat, by omega, by omega, by omega, by omega, by omega, by omega⟩

set_option maxRecDepth 100000 in
set_option maxHeartbeats 8000000 in
theorem falls_c (r : Rk) (A : Option Addr) (c pins s g : Nat) (bits : Int) (cf : Nat → Bool) (w : World) (hr : Ok r) (hp : pins < 2 ^ 10) (hs : s < 2 ^ 10) (hl : Lks w.heap.size w A r.links) (hc : r.links.length ≤ c ∧ c ≤ 9223372036854775807) (he : Enters g)
    (hg : ∀ i, i < r.links.length → ∀ W, Calls Try.prog g #[lV (lx r.links i), .int .i64 (i : Int), .int .i64 bits] W (Ans W (.bool (cf i)))) :
    Calls Try.prog 55 #[.agg #[.int .i64 r.rows, .int .i64 r.mid, .int .i64 r.gap, .int .i64 r.reach, .slice A r.links.length c, .int .u16 (pins : Int)], .int .u16 (s : Int), .agg #[.func (.func g) #[] #[]], .int .i64 bits] w (Ans w (.int .u16 (fallS r.links cf pins s : Int))) := by
  have HB := Lib.hid (Below.refl w.heap.size w)
  have HL := Lib.hid hl
  have HG := Lib.hid hg
  have hE := he
  unfold Enters at hE
  clear hl hg he
  have hb : Below w.heap.size w (w.alloc (.cells #[.int .i64 r.rows, .int .i64 r.mid, .int .i64 r.gap, .int .i64 r.reach, .slice A r.links.length c, .int .u16 (pins : Int)] 102)) := (Below.refl _ _).alloc (Nat.le_refl _) _
  replace HL := Lib.hid (HL.out.step hb)
  replace HB := Lib.hid (HB.out.trans (hb.mono HB.out.size))
  clear hb
  have k0 : (w.alloc (.cells #[.int .i64 r.rows, .int .i64 r.mid, .int .i64 r.gap, .int .i64 r.reach, .slice A r.links.length c, .int .u16 (pins : Int)] 102)).cell? ⟨w.heap.size, 0, none⟩ = some (.int .i64 r.rows) := by simp
  have k1 : (w.alloc (.cells #[.int .i64 r.rows, .int .i64 r.mid, .int .i64 r.gap, .int .i64 r.reach, .slice A r.links.length c, .int .u16 (pins : Int)] 102)).cell? ⟨w.heap.size, 1, none⟩ = some (.int .i64 r.mid) := by simp
  have k2 : (w.alloc (.cells #[.int .i64 r.rows, .int .i64 r.mid, .int .i64 r.gap, .int .i64 r.reach, .slice A r.links.length c, .int .u16 (pins : Int)] 102)).cell? ⟨w.heap.size, 2, none⟩ = some (.int .i64 r.gap) := by simp
  have k3 : (w.alloc (.cells #[.int .i64 r.rows, .int .i64 r.mid, .int .i64 r.gap, .int .i64 r.reach, .slice A r.links.length c, .int .u16 (pins : Int)] 102)).cell? ⟨w.heap.size, 3, none⟩ = some (.int .i64 r.reach) := by simp
  have k4 : (w.alloc (.cells #[.int .i64 r.rows, .int .i64 r.mid, .int .i64 r.gap, .int .i64 r.reach, .slice A r.links.length c, .int .u16 (pins : Int)] 102)).cell? ⟨w.heap.size, 4, none⟩ = some (.slice A r.links.length c) := by simp
  have k5 : (w.alloc (.cells #[.int .i64 r.rows, .int .i64 r.mid, .int .i64 r.gap, .int .i64 r.reach, .slice A r.links.length c, .int .u16 (pins : Int)] 102)).cell? ⟨w.heap.size, 5, none⟩ = some (.int .u16 (pins : Int)) := by simp
  have hb : Below (w.alloc (.cells #[.int .i64 r.rows, .int .i64 r.mid, .int .i64 r.gap, .int .i64 r.reach, .slice A r.links.length c, .int .u16 (pins : Int)] 102)).heap.size (w.alloc (.cells #[.int .i64 r.rows, .int .i64 r.mid, .int .i64 r.gap, .int .i64 r.reach, .slice A r.links.length c, .int .u16 (pins : Int)] 102)) ((w.alloc (.cells #[.int .i64 r.rows, .int .i64 r.mid, .int .i64 r.gap, .int .i64 r.reach, .slice A r.links.length c, .int .u16 (pins : Int)] 102)).alloc (.cells #[.func (.func g) #[] #[]] 112)) := (Below.refl _ _).alloc (Nat.le_refl _) _
  replace HL := Lib.hid (HL.out.step hb)
  replace k0 := cell_of_ans hb k0
  replace k1 := cell_of_ans hb k1
  replace k2 := cell_of_ans hb k2
  replace k3 := cell_of_ans hb k3
  replace k4 := cell_of_ans hb k4
  replace k5 := cell_of_ans hb k5
  replace HB := Lib.hid (HB.out.trans (hb.mono HB.out.size))
  clear hb
  have c0 : ((w.alloc (.cells #[.int .i64 r.rows, .int .i64 r.mid, .int .i64 r.gap, .int .i64 r.reach, .slice A r.links.length c, .int .u16 (pins : Int)] 102)).alloc (.cells #[.func (.func g) #[] #[]] 112)).cell? ⟨w.heap.size + 1, 0, none⟩ = some (.func (.func g) #[] #[]) := by simp
  go_enter Try.func55, Try.ntmps55
  go_wp2_with fail
  generalize ((w.alloc (.cells #[.int .i64 r.rows, .int .i64 r.mid, .int .i64 r.gap, .int .i64 r.reach, .slice A r.links.length c, .int .u16 (pins : Int)] 102)).alloc (.cells #[.func (.func g) #[] #[]] 112)) = x2 at *
  have ltk0 := World.block_lt_of_cell? _ _ k0
  dsimp only at ltk0
  have ltc0 := World.block_lt_of_cell? _ _ c0
  dsimp only at ltc0
  go_loopw [1] (fun t wr => ∃ u : Nat, u < 2 ^ 10 ∧ t = .int .u16 (u : Int) ∧ Sub s u ∧ (∀ p, u.testBit p = true → Fall r.links cf pins s p) ∧ Below x2.heap.size x2 wr) (fun t _ => 10 - many (intOf t).toNat)
  case atStart => exact ⟨s, hs, rfl, Sub.rfl, fun p h => .base h, Below.refl _ _⟩
  case round =>
    obtain ⟨u, hu, rfl, hsu, hfu, hb⟩ := hrel
    have HSU := Lib.hid hsu
    have HFU := Lib.hid hfu
    clear hsu hfu
    replace k0 := cell_of_ans hb k0
    replace k1 := cell_of_ans hb k1
    replace k2 := cell_of_ans hb k2
    replace k3 := cell_of_ans hb k3
    replace k4 := cell_of_ans hb k4
    replace k5 := cell_of_ans hb k5
    replace c0 := cell_of_ans hb c0
    replace HL := Lib.hid (HL.out.step hb)
    have HB1 := Lib.hid hb
    clear hb
    go_wp2_with fail
    go_loopw [1, 17] (fun t i wt => ∃ k v : Nat, k ≤ r.links.length ∧ v < 2 ^ 10 ∧ i = .int .i64 k ∧ t = .int .u16 (v : Int) ∧ Sub u v ∧ (∀ p, v.testBit p = true → Fall r.links cf pins s p) ∧ (∀ j, j < k → cf j = true → u.testBit (lx r.links j).f.toNat = true → pins.testBit (lx r.links j).t.toNat = true → v.testBit (lx r.links j).t.toNat = true) ∧ Below wr.heap.size wr wt) (fun _ i _ => r.links.length - (intOf i).toNat)
    case atStart => exact ⟨0, u, by omega, hu, rfl, rfl, Sub.rfl, HFU.out, fun j hj => by omega, Below.refl _ _⟩
    case round =>
      obtain ⟨k, v, hk, hv, rfl, rfl, huv, hfv, hdn, hb⟩ := hrel
      rename World => wt
      have HUV := Lib.hid huv
      have HFV := Lib.hid hfv
      have HDN := Lib.hid hdn
      have HBT := Lib.hid hb
      clear huv hfv hdn
      by_cases h1 : k < r.links.length
      · obtain ⟨b1, off, hA, hb1, c1, c2, c3⟩ := (HL.out.step hb).at_ h1
        obtain ⟨f, t, hf, ht, ef, et, -, -⟩ := link_pins hr h1
        have HGk := Lib.hid (HG.out k h1)
        replace c0 := cell_of_ans hb c0
        replace k5 := cell_of_ans hb k5
        clear hb
        have HX : Hid (∀ v', Sub v v' → (cf k = true → u.testBit f = true → pins.testBit t = true → v'.testBit t = true) → ∀ j, j < k + 1 → cf j = true → u.testBit (lx r.links j).f.toNat = true → pins.testBit (lx r.links j).t.toNat = true → v'.testBit (lx r.links j).t.toNat = true) := fun v' hvv hk' j hj hc h2 h3 => by
          by_cases e : j = k
          · subst e
            rw [ef] at h2
            rw [et] at h3 ⊢
            exact hk' hc h2 h3
          · exact hvv _ (HDN.out j (by omega) hc h2 h3)
        have HST : Hid (v.testBit f = true → pins.testBit t = true → cf k = true → Fall r.links cf pins s t) := fun h2 h3 h4 => by
          have := Fall.step (s := s) h1 h4 (by rw [ef]; exact HFV.out _ h2) (by rw [et]; exact h3)
          rw [et] at this
          exact this
        generalize hx : lx r.links k = x at *
        obtain ⟨xf, xt, xs⟩ := x
        dsimp only at c1 c2 c3 ef et
        subst ef et
        unfold lV at HGk
        dsimp only at HGk
        have h1i : (k : Int) < (r.links.length : Int) := by omega
        have hb2 : Below wr.heap.size wr (wt.alloc (.cells #[.int .i64 (f : Int), .int .i64 (t : Int), .bool xs] 99)) := HBT.out.alloc HBT.out.size _
        have HB2 := Lib.hid hb2
        have lt5 := World.block_lt_of_cell? _ _ k5
        have lt6 := World.block_lt_of_cell? _ _ c0
        dsimp only at lt5 lt6
        subst hA
        clear hb2 hx
        cases e1 : v.testBit f
        · go_wp2_with (go_at_call 85; refine (has_c _ _ _ (by omega) (by omega)).mono ?_; rintro e w1 ⟨rfl, rfl⟩)
          go_roundw
          case rel => exact ⟨k + 1, v, by omega, hv, by go_num, rfl, HUV.out, HFV.out, HX.out v Sub.rfl (fun _ h2 _ => by have := HUV.out _ h2; rw [e1] at this; cases this), HB2.out⟩
          case measure => simp [intOf]; omega
        · cases e2 : pins.testBit t
          · go_wp2_with (go_at_call 85; refine (has_c _ _ _ (by omega) (by omega)).mono ?_; rintro e w1 ⟨rfl, rfl⟩)
            go_roundw
            case rel => exact ⟨k + 1, v, by omega, hv, by go_num, rfl, HUV.out, HFV.out, HX.out v Sub.rfl (fun _ _ h3 => by rw [e2] at h3; cases h3), HB2.out⟩
            case measure => simp [intOf]; omega
          · cases e3 : cf k
            · rw [e3] at HGk
              go_wp2_with (go_at_call 85; refine (has_c _ _ _ (by omega) (by omega)).mono ?_; rintro e w1 ⟨rfl, rfl⟩)
              refine (HGk.out _).mono ?_
              rintro e w3 ⟨rfl, hb⟩
              have HB3 := Lib.hid (HB2.out.trans (hb.mono HB2.out.size))
              clear hb
              go_wp2_with fail
              go_roundw
              case rel => exact ⟨k + 1, v, by omega, hv, by go_num, rfl, HUV.out, HFV.out, HX.out v Sub.rfl (fun h2 _ _ => by rw [e3] at h2; cases h2), HB3.out⟩
              case measure => simp [intOf]; omega
            · rw [e3] at HGk
              have hw := shl_u16 ht
              have HO := Lib.hid (or_u16 hv ht)
              have y1 : (wt.alloc (.cells #[.int .i64 (f : Int), .int .i64 (t : Int), .bool xs] 99)).cell? ⟨wt.heap.size, 1, none⟩ = some (.int .i64 (t : Int)) := by simp
              go_wp2_with (go_at_call 85; refine (has_c _ _ _ (by omega) (by omega)).mono ?_; rintro e w1 ⟨rfl, rfl⟩)
              refine (HGk.out _).mono ?_
              rintro e w3 ⟨rfl, hb⟩
              have HB3 := Lib.hid (HB2.out.trans (hb.mono HB2.out.size))
              replace y1 := cell_of_ans hb y1
              clear hb
              go_wp2_with fail
              go_roundw
              case rel => exact ⟨k + 1, v ||| 2 ^ t, by omega, or_lt hv ht, by go_num, congrArg _ HO.out, fun p h => mem_or_pow.2 (.inl (HUV.out p h)), fun p h => (by
                rcases mem_or_pow.1 h with h | rfl
                · exact HFV.out p h
                · exact HST.out e1 e2 e3), HX.out _ (fun p h => mem_or_pow.2 (.inl h)) (fun _ _ _ => mem_or_pow.2 (.inr rfl)), HB3.out⟩
              case measure => simp [intOf]; omega
      · obtain rfl : k = r.links.length := by omega
        have h1i : ¬ ((r.links.length : Int) < (r.links.length : Int)) := by omega
        have HBB : Hid (Below w.heap.size w wt) := HB.out.trans ((HB1.out.trans (hb.mono HB1.out.size)).mono HB.out.size)
        have HBC : Hid (Below x2.heap.size x2 wt) := HB1.out.trans (hb.mono HB1.out.size)
        by_cases e : v = u
        · subst e
          have hv2 : ((v : Int) == (v : Int)) = true := by simp
          go_wp2_with fail
          go_ret
          exact ⟨ret_int (by rw [fall_is hv hs hp HSU.out HFV.out HDN.out]), HBB.out⟩
        · have hv2 : ((v : Int) == (u : Int)) = false := by simp; omega
          have hlt := many_lt hu hv HUV.out (fun e' => e e'.symm)
          have hml := many_le v
          go_wp2_with fail
          go_roundw
          case rel => exact ⟨v, hv, rfl, HSU.out.trans HUV.out, HFV.out, HBC.out⟩
          case measure => simp [intOf]; omega
end Go.Proofs.Ytpekajnjjhibjaa
