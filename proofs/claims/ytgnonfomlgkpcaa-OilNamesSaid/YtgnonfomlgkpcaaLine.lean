/-
  Lines: list, Line, IsLine, Few.
-/
import Derived.Test.YtgnonfomlgkpcaaPlayable
namespace Go.Proofs.Ytgnonfomlgkpcaa
open Go.RowKit

/-- A new own list of numbers. -/
def NewO (w : World) (xs : List Int) (e : Ending) (w' : World) : Prop := ∃ A c, e = .returned (.slice A xs.length c) ∧ OwnI w.heap.size w' (.slice A xs.length c) xs ∧ Below w.heap.size w w'

set_option maxHeartbeats 400000 in
theorem list43_c {B : Nat} (A : Option Addr) (xs : List Int) (c : Nat) (w : World) (hx : Ints B w A xs) (hl : xs.length ≤ 1000000) : Calls Try.prog 43 #[.slice A xs.length c] w (NewO w xs) := by
  obtain ⟨i0, hi, hz0, hz1, hz2⟩ := info_parts infoInt
  have hs := Lib.hid hx.isrc
  have h63 : Hid (0 + xs.length ≤ maxLen) := by show _ ≤ _; unfold maxLen; omega
  have hby : Hid ((0 + xs.length) * 8 ≤ 140737488355328) := by show _ ≤ _; omega
  clear hx
  go_enter Try.func43, Try.ntmps43
  go_wp2_with (at_builtin; refine wpList_append_src rfl (.const (.slice none 0 0)) (.tmp 3) 45 rfl w.heap.size 3 i0 (.int .i64 0) 1 8 Try.underlying45 hi hz0 hz1 hz2 rfl (by decide) (.slice none 0 0) 0 [] rfl (World.ownsRow_nil _ _ _ _) A xs.length c _ rfl hs.out (one_ints xs) h63.out hby.out (Nat.le_refl _) ?_; intro u w1 hown hgrow hob; rw [List.nil_append, Nat.zero_add] at hown; obtain ⟨Au, cu, rfl⟩ := ownsRow_form hown; have HO := Lib.hid hown; have HB := Lib.hid ((Below.refl w.heap.size w).grown hgrow (Nat.le_refl _) (fun k e => by cases e)); clear hown hgrow hob)
  go_ret
  exact ⟨_, _, rfl, HO.out, HB.out⟩

theorem OwnI.keptBy {base g : Nat} {w w' : World} {u : Value} {xs : List Int} (h : OwnI base w u xs) (hg : w.grownBy w' (some g)) (hb : g < base) : OwnI base w' u xs := World.ownsRow.kept h hg (.inr fun e => by
  have := (World.ownsRow.lt h g e).1
  omega)
theorem two {W0 w1 : World} {g : Nat} {a b : Value} {t : TypeId} (h : W0.heap[g]? = some (.cells #[a, b] t)) (hb : Below W0.heap.size W0 w1) :
    w1.cell? ⟨g, 0, none⟩ = some a ∧ w1.cell? ⟨g, 1, none⟩ = some b ∧ ∀ o, w1.frozen? ⟨g, o, none⟩ = false := by
  have h1 := (hb.block g (Array.getElem?_eq_some_iff.1 h).1).trans h
  simp [World.cell?, World.frozen?, h1]

def LinePost (w : World) (x nd : List Int) (e : Ending) (w' : World) : Prop :=
  ∃ A c A2 c2, e = .returned (.agg #[.slice A x.length c, .slice A2 nd.length c2]) ∧ (x.length ≤ c ∧ c ≤ 9223372036854775807) ∧ (nd.length ≤ c2 ∧ c2 ≤ 9223372036854775807) ∧ Ints w'.heap.size w' A x ∧ Ints w'.heap.size w' A2 nd ∧ Below w.heap.size w w'

theorem isInts_parts {B : Nat} {w : World} {A : Option Addr} {n c : Nat} {xs : List Int} (h : IsInts B w (.slice A n c) xs) : xs.length ≤ c ∧ c ≤ 9223372036854775807 ∧ Ints B w A xs := by
  obtain ⟨A', c', e, h1, h2, h3⟩ := h
  injection e with e1 e2 e3
  subst e1 e3
  exact ⟨h1, h2, h3⟩

set_option maxRecDepth 100000 in
set_option maxHeartbeats 4000000 in
theorem line35_c (A An : Option Addr) (x nd : List Int) (c cn : Nat) (w : World) (hx : Ints w.heap.size w A x) (hn : Ints w.heap.size w An nd) (hl : x.length ≤ 1000000) (hl' : nd.length ≤ 1000000) :
    Calls Try.prog 35 #[.agg #[.slice A x.length c, .slice An nd.length cn]] w (LinePost w x nd) := by
  have hb0 : Below w.heap.size w ((w.alloc (.cells #[.slice A x.length c, .slice An nd.length cn] 55)).alloc (.cells #[.slice none 0 0, .slice none 0 0] 60)) := ((Below.refl _ _).alloc (Nat.le_refl _) _).alloc (by simp) _
  have k0 : ((w.alloc (.cells #[.slice A x.length c, .slice An nd.length cn] 55)).alloc (.cells #[.slice none 0 0, .slice none 0 0] 60)).cell? ⟨w.heap.size, 0, none⟩ = some (.slice A x.length c) := by go_simp
  have k1 : ((w.alloc (.cells #[.slice A x.length c, .slice An nd.length cn] 55)).alloc (.cells #[.slice none 0 0, .slice none 0 0] 60)).cell? ⟨w.heap.size, 1, none⟩ = some (.slice An nd.length cn) := by go_simp
  have HE : Hid (((w.alloc (.cells #[.slice A x.length c, .slice An nd.length cn] 55)).alloc (.cells #[.slice none 0 0, .slice none 0 0] 60)).heap[w.heap.size + 1]? = some (.cells #[.slice none 0 0, .slice none 0 0] 60)) := by
    show _ = _
    have := World.alloc_heap_new (w.alloc (.cells #[.slice A x.length c, .slice An nd.length cn] 55)) (.cells #[.slice none 0 0, .slice none 0 0] 60)
    rwa [World.size_alloc] at this
  have HZ : Hid (((w.alloc (.cells #[.slice A x.length c, .slice An nd.length cn] 55)).alloc (.cells #[.slice none 0 0, .slice none 0 0] 60)).heap.size = w.heap.size + 1 + 1) := by show _ = _; simp
  have HX := Lib.hid (hx.step hb0)
  have HN := Lib.hid (hn.step hb0)
  have HB := Lib.hid hb0
  clear hb0 hx hn
  go_enter Try.func35, Try.ntmps35
  go_upto_region 1 with fail
  generalize ((w.alloc (.cells #[.slice A x.length c, .slice An nd.length cn] 55)).alloc (.cells #[.slice none 0 0, .slice none 0 0] 60)) = W0 at k0 k1 HX HN HB HE HZ ⊢
  have HT1 : Hid True := trivial
  go_region_held3 (fun w' => w'.cell? ⟨w.heap.size, 0, none⟩ = some (.slice A x.length c) ∧ w'.cell? ⟨w.heap.size, 1, none⟩ = some (.slice An nd.length cn)) (go_keep) (first | (go_at_call 43; have _t := HT1; refine (list43_c A x c _ (HX.out.step (Below.refl _ _).drew) hl).mono ?_; rintro e w1 ⟨A1, c1, rfl, h1, hb⟩; replace hb := below_drew_l hb; replace k0 := cell_of_ans hb k0; replace k1 := cell_of_ans hb k1; have HO1 := Lib.hid h1; have HB1 := Lib.hid hb; clear h1 hb HT1) | (go_at_call 43; refine (list43_c An nd cn _ (HN.out.step HB1.out) hl').mono ?_; rintro e w2 ⟨A2, c2, rfl, h2, hb⟩; replace k0 := cell_of_ans hb k0; replace k1 := cell_of_ans hb k1; have HO2 := Lib.hid h2; have HB2 := Lib.hid hb; obtain ⟨s0, s1, s4⟩ := two HE.out (HB1.out.trans (hb.mono HB1.out.size)); clear h2 hb))
  go_wp2_with fail
  have hz0 := HZ.out
  have hz1 := HB1.out.size
  have hz2 := HB2.out.size
  have hg := only_setCell (u := .slice A2 nd.length c2) (p := ⟨w.heap.size + 1, 1, none⟩) (only_setCell (u := .slice A1 x.length c1) (p := ⟨w.heap.size + 1, 0, none⟩) (World.grownBy.refl w2 (some (w.heap.size + 1))) (.inl rfl)) (.inl rfl)
  have ho1 : OwnI W0.drew.heap.size w1 (.slice A1 x.length c1) x := HO1.out
  rw [World.size_drew] at ho1
  have hi1 := (OwnI.isInts ((ho1.kept HB2.out).keptBy hg (by omega)))
  have hi2 := (OwnI.isInts (HO2.out.keptBy hg (by omega)))
  obtain ⟨a1, a2, a3⟩ := isInts_parts hi1
  obtain ⟨b1, b2, b3⟩ := isInts_parts hi2
  refine bodyPost_ret (v := .agg #[.slice A1 x.length c1, .slice A2 nd.length c2]) (by simp [results, Try.results35, go_sem, s0, s1]) rfl ⟨_, _, _, _, rfl, ⟨a1, a2⟩, ⟨b1, b2⟩, a3, b3, ?_⟩
  exact ((((HB.out.trans (HB1.out.mono HB.out.size)).trans (HB2.out.mono (by omega))).setCell (p := ⟨w.heap.size + 1, 0, none⟩) (by dsimp only; omega) _).setCell (p := ⟨w.heap.size + 1, 1, none⟩) (by dsimp only; omega) _)

set_option maxRecDepth 100000 in
set_option maxHeartbeats 4000000 in
theorem isLine_c (A A' An : Option Addr) (xss : List (List Int)) (x nd : List Int) (c c' cn : Nat) (lo hi ca : Int) (w : World) (hr : Grd w.heap.size w A xss) (hx : Ints w.heap.size w A' x) (hn : Ints w.heap.size w An nd) (h0 : 0 < xss.length) (hc' : x.length ≤ c' ∧ c' ≤ 9223372036854775807) (hcn : nd.length ≤ cn ∧ cn ≤ 9223372036854775807) :
    Calls Try.prog 37 #[.agg #[.slice A xss.length c, .int .i64 lo, .int .i64 hi, .int .i64 ca], .agg #[.slice A' x.length c', .slice An nd.length cn]] w (Ans w (.bool (lineB xss x nd))) := by
  have hb0 : Below w.heap.size w ((w.alloc (.cells #[.slice A xss.length c, .int .i64 lo, .int .i64 hi, .int .i64 ca] 26)).alloc (.cells #[.slice A' x.length c', .slice An nd.length cn] 55)) := ((Below.refl _ _).alloc (Nat.le_refl _) _).alloc (by simp) _
  have k0 : ((w.alloc (.cells #[.slice A xss.length c, .int .i64 lo, .int .i64 hi, .int .i64 ca] 26)).alloc (.cells #[.slice A' x.length c', .slice An nd.length cn] 55)).cell? ⟨w.heap.size, 0, none⟩ = some (.slice A xss.length c) := by go_simp
  have k1 : ((w.alloc (.cells #[.slice A xss.length c, .int .i64 lo, .int .i64 hi, .int .i64 ca] 26)).alloc (.cells #[.slice A' x.length c', .slice An nd.length cn] 55)).cell? ⟨w.heap.size, 1, none⟩ = some (.int .i64 lo) := by go_simp
  have k2 : ((w.alloc (.cells #[.slice A xss.length c, .int .i64 lo, .int .i64 hi, .int .i64 ca] 26)).alloc (.cells #[.slice A' x.length c', .slice An nd.length cn] 55)).cell? ⟨w.heap.size, 2, none⟩ = some (.int .i64 hi) := by go_simp
  have k3 : ((w.alloc (.cells #[.slice A xss.length c, .int .i64 lo, .int .i64 hi, .int .i64 ca] 26)).alloc (.cells #[.slice A' x.length c', .slice An nd.length cn] 55)).cell? ⟨w.heap.size, 3, none⟩ = some (.int .i64 ca) := by go_simp
  have j0 : ((w.alloc (.cells #[.slice A xss.length c, .int .i64 lo, .int .i64 hi, .int .i64 ca] 26)).alloc (.cells #[.slice A' x.length c', .slice An nd.length cn] 55)).cell? ⟨w.heap.size + 1, 0, none⟩ = some (.slice A' x.length c') := by go_simp
  have j1 : ((w.alloc (.cells #[.slice A xss.length c, .int .i64 lo, .int .i64 hi, .int .i64 ca] 26)).alloc (.cells #[.slice A' x.length c', .slice An nd.length cn] 55)).cell? ⟨w.heap.size + 1, 1, none⟩ = some (.slice An nd.length cn) := by go_simp
  have HX := Lib.hid (hr.step hb0)
  have HI := Lib.hid (hx.step hb0)
  have HN := Lib.hid (hn.step hb0)
  have HB := Lib.hid hb0
  clear hb0 hx hn hr
  go_enter Try.func37, Try.ntmps37
  go_wp2_with fail
  generalize ((w.alloc (.cells #[.slice A xss.length c, .int .i64 lo, .int .i64 hi, .int .i64 ca] 26)).alloc (.cells #[.slice A' x.length c', .slice An nd.length cn] 55)) = W0 at k0 k1 k2 k3 j0 j1 HX HI HN HB ⊢
  go_loop [5] (fun i => ∃ k : Nat, k ≤ nd.length ∧ i = .int .i64 k ∧ AllB k (fun j => inB (ix nd j) 0 100)) (fun i => nd.length - (intOf i).toNat)
  case atStart => exact ⟨0, by omega, rfl, fun j hj => by omega⟩
  case round =>
    obtain ⟨k, hk, rfl, hp⟩ := hrel
    by_cases h1 : k < nd.length
    · obtain ⟨b1, o1, rfl, _, e1⟩ := HN.out.at_ h1
      cases hin : inB (ix nd k) 0 100
      · have HR : Hid (lineB xss x nd = false) := by show _ = _; rw [lineB, allB_false h1 hin, Bool.and_false]
        have HI1 := Lib.hid hin
        clear hin
        go_wp2_with fail
        refine (in_c _ _ _ _).mono ?_
        rw [HI1.out]
        rintro e w1 ⟨rfl, rfl⟩
        go_wp2_with fail
        go_ret
        exact ⟨ret_bool HR.out.symm, HB.out⟩
      · have HI1 := Lib.hid hin
        clear hin
        go_wp2_with fail
        refine (in_c _ _ _ _).mono ?_
        rw [HI1.out]
        rintro e w1 ⟨rfl, rfl⟩
        go_wp2_with fail
        go_round
        case rel => exact ⟨k + 1, by omega, by go_num, hp.succ HI1.out⟩
        case measure => simp [intOf]; omega
    · obtain rfl : k = nd.length := by omega
      have HP : Hid (lineB xss x nd = (ballB xss x && decide (nd.length = xss.length))) := by show _ = _; rw [lineB, allB_true hp, Bool.and_true]
      clear hp
      cases hbl : ballB xss x
      · have HBL := Lib.hid hbl
        clear hbl
        go_wp2_with fail
        refine (isBall_c A A' xss x c c' lo hi ca _ (Nat.le_refl _) HX.out HI.out h0 hc').mono ?_
        rw [HBL.out]
        rintro e w1 ⟨rfl, hb⟩
        go_wp2_with fail
        go_ret
        exact ⟨ret_bool (by rw [HP.out, HBL.out, Bool.false_and]), HB.out.trans (hb.mono HB.out.size)⟩
      · have HBL := Lib.hid hbl
        clear hbl
        go_wp2_with fail
        refine (isBall_c A A' xss x c c' lo hi ca _ (Nat.le_refl _) HX.out HI.out h0 hc').mono ?_
        rw [HBL.out]
        rintro e w1 ⟨rfl, hb⟩
        replace k0 := cell_of_ans hb k0
        replace j1 := cell_of_ans hb j1
        go_wp2_with fail
        go_ret
        exact ⟨ret_bool (by rw [HP.out, HBL.out, Bool.true_and]; exact Bool.eq_iff_iff.2 (by simp; omega)), HB.out.trans (hb.mono HB.out.size)⟩

/-- A list of lines. -/
def lx (ls : List (List Int × List Int)) (k : Nat) : List Int × List Int := ls.getD k ([], [])
def Lns (B : Nat) (w : World) (A : Option Addr) (ls : List (List Int × List Int)) : Prop :=
  0 < ls.length → ∃ b off, A = some ⟨b, off, none⟩ ∧ b < B ∧ ∀ k, k < ls.length → ∃ v u, w.cell? ⟨b, off + k * 2, none⟩ = some v ∧ w.cell? ⟨b, off + k * 2 + 1, none⟩ = some u ∧ IsInts B w v (lx ls k).1 ∧ IsInts B w u (lx ls k).2
noncomputable def fewB (ls : List (List Int × List Int)) : Bool := decide (ls.length ≤ 25) && allB ls.length (fun k => decide ((lx ls k).1.length ≤ 16) && decide ((lx ls k).2.length ≤ 16))
theorem Lns.at_ {B : Nat} {w : World} {A : Option Addr} {ls : List (List Int × List Int)} (h : Lns B w A ls) {k : Nat} (hk : k < ls.length) : ∃ b off A1 c1 A2 c2, A = some ⟨b, off, none⟩ ∧ w.cell? ⟨b, off + k * 2, none⟩ = some (.slice A1 (lx ls k).1.length c1) ∧ w.cell? ⟨b, off + k * 2 + 1, none⟩ = some (.slice A2 (lx ls k).2.length c2) ∧
    ((lx ls k).1.length ≤ c1 ∧ c1 ≤ 9223372036854775807) ∧ ((lx ls k).2.length ≤ c2 ∧ c2 ≤ 9223372036854775807) ∧ Ints B w A1 (lx ls k).1 ∧ Ints B w A2 (lx ls k).2 := by
  obtain ⟨b, off, rfl, _, hc⟩ := h (by omega)
  obtain ⟨v, u, h1, h2, ⟨A1, c1, rfl, a1, a2, a3⟩, ⟨A2, c2, rfl, b1, b2, b3⟩⟩ := hc k hk
  exact ⟨b, off, A1, c1, A2, c2, rfl, h1, h2, ⟨a1, a2⟩, ⟨b1, b2⟩, a3, b3⟩

set_option maxRecDepth 100000 in
set_option maxHeartbeats 2000000 in
theorem few33_c {B : Nat} (A : Option Addr) (ls : List (List Int × List Int)) (c : Nat) (w : World) (h : Lns B w A ls) (_hc : ls.length ≤ c ∧ c ≤ 9223372036854775807) : Calls Try.prog 33 #[.slice A ls.length c] w (Same w (.bool (fewB ls))) := by
  have HL := Lib.hid h
  clear h
  go_enter Try.func33, Try.ntmps33
  go_wp2_with fail
  go_loop [3] (fun i => ∃ k : Nat, k ≤ ls.length ∧ k ≤ 26 ∧ i = .int .i64 k ∧ AllB k (fun j => decide ((lx ls j).1.length ≤ 16) && decide ((lx ls j).2.length ≤ 16))) (fun i => ls.length - (intOf i).toNat)
  case atStart => exact ⟨0, by omega, by omega, rfl, fun j hj => by omega⟩
  case round =>
    obtain ⟨k, hk, hk26, rfl, hp⟩ := hrel
    by_cases h1 : k < ls.length
    · by_cases h2 : k < 26
      · obtain ⟨b, off, A1, c1, A2, c2, rfl, e1, e2, l1, l2, _, _⟩ := HL.out.at_ h1
        by_cases q1 : (lx ls k).1.length ≤ 16
        · by_cases q2 : (lx ls k).2.length ≤ 16
          · go_wp2_with fail
            go_round
            case rel => exact ⟨k + 1, by omega, by omega, by go_num, hp.succ (by rw [decide_eq_true q1, decide_eq_true q2]; rfl)⟩
            case measure => simp [intOf]; omega
          · have HR : Hid (fewB ls = false) := by show _ = _; rw [fewB, allB_false h1 (by rw [decide_eq_false q2, Bool.and_false]), Bool.and_false]
            go_wp2_with fail
            go_ret
            exact ⟨ret_bool HR.out.symm, rfl⟩
        · have HR : Hid (fewB ls = false) := by show _ = _; rw [fewB, allB_false h1 (by rw [decide_eq_false q1, Bool.false_and]), Bool.and_false]
          go_wp2_with fail
          go_ret
          exact ⟨ret_bool HR.out.symm, rfl⟩
      · have HR : Hid (fewB ls = false) := by show _ = _; rw [fewB, decide_eq_false (by omega), Bool.false_and]
        have h3 : ¬ ((ls.length : Int) ≤ 25) := by omega
        go_wp2_with fail
        go_ret
        exact ⟨ret_bool HR.out.symm, rfl⟩
    · obtain rfl : k = ls.length := by omega
      have HR : Hid (fewB ls = decide (ls.length ≤ 25)) := by show _ = _; rw [fewB, allB_true hp, Bool.and_true]
      go_wp2_with fail
      go_ret
      exact ⟨by rw [HR.out]; exact ret_bool (decide_eq_decide.2 (by omega)), rfl⟩
end Go.Proofs.Ytgnonfomlgkpcaa
