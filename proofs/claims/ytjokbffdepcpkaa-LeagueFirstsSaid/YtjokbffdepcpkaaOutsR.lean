/-
  The reference's Outcomes.
-/
import Derived.Test.YtjokbffdepcpkaaEnds
namespace Go.Proofs.Ytjokbffdepcpkaa
open Go.RowKit
set_option linter.unusedSimpArgs false
set_option linter.unusedVariables false

attribute [local go_sem] Oper.semAt_some
/-- Readings as bytes. -/
def RdU (w : World) (u : Value) (xs : List Int) : Prop := ∃ A c, u = .slice A xs.length c ∧ xs.length ≤ c ∧ c ≤ 9223372036854775807 ∧ Byts w.heap.size w A xs
theorem rdU : RdK RdU where
  frame := by
    rintro w w' u xs ⟨A, c, rfl, h1, h2, h3⟩ hf
    refine ⟨A, c, rfl, h1, h2, fun hp => ?_⟩
    obtain ⟨b, off, rfl, hb, hc⟩ := h3 hp
    have hs : w'.heap[b]? = w.heap[b]? := hf b (by
      obtain ⟨n, hn⟩ : ∃ n, xs.length = n + 1 := ⟨xs.length - 1, by omega⟩
      rw [hn]; rfl)
    exact ⟨b, off, rfl, heap_same_lt hs hb, fun k hk => ⟨(cell_same hs).trans (hc k hk).1, (hc k hk).2⟩⟩
  lt := by
    rintro w u xs b ⟨A, c, rfl, h1, h2, h3⟩ hb
    obtain ⟨n, hn⟩ | h0 : (∃ n, xs.length = n + 1) ∨ xs.length = 0 := by
      rcases xs.length with _ | n
      · exact .inr rfl
      · exact .inl ⟨n, rfl⟩
    · obtain ⟨b', off, rfl, hb', _⟩ := h3 (by omega)
      rw [hn] at hb
      have hb2 : b' = b := by injection hb
      omega
    · rw [h0] at hb
      cases A <;> cases hb
  sl := by
    rintro w u xs ⟨A, c, rfl, -⟩
    exact ⟨_, _, _, rfl⟩
theorem blk_ownU {w : World} {base : Nat} {A : Option Addr} {n c : Nat} {xs : List Int} (h : OwnU base w (.slice A n c) xs) : ∀ b, blkOf (.slice A n c) = some b → base ≤ b := by
  intro b hb
  rcases h.2 with ⟨e, h0⟩ | ⟨g, cap, cur, e, h1, _⟩
  · injection e with e1 e2 e3
    subst e1
    cases hb
  · injection e with e1 e2 e3
    subst e1
    rcases n with _ | n
    · cases hb
    · injection hb with hb
      subst hb
      exact h1
theorem info25 : (Try.prog.info? 25).map (fun i => (i.zero, i.size, i.bytes)) = some (some (.slice none 0 0), 1, 24) := by kernel_rfl
theorem sty80 : STy 80 25 := by
  obtain ⟨i, a, b, c, d⟩ := info_parts info25
  exact ⟨by kernel_rfl, i, a, b, c, d⟩
/-- A new own list of lists, whose elements lie from lo on. -/
def NewRs {α : Type} (Rd : World → Value → α → Prop) (e : TypeId) (lo : Nat) (w : World) (xs : List α) (en : Ending) (w' : World) : Prop := ∃ A c, en = .returned (.slice A xs.length c) ∧ Rs Rd e w.heap.size lo w' (.slice A xs.length c) xs ∧ Below w.heap.size w w'
theorem OwnU.empty2 {base : Nat} {w : World} (h : base ≤ w.heap.size) : OwnU base (w.alloc (.cells #[] 5)) (.slice (some ⟨w.heap.size, 0, none⟩) 0 0) [] :=
  ⟨rfl, .inr ⟨w.heap.size, 0, #[], rfl, h, World.alloc_heap_new _ _, Nat.le_refl _, by unfold maxLen; omega, rfl, rfl⟩⟩
section
variable {ops : Array Oper} {rest : List Oper} {o : Oper} {a : Act} {Q : Exit → Act → World → Prop}
/-- append of a whole list to an empty one that has been made -/
theorem wpList_copyU (s x : Operand) (hgd : o.guard = none) (ho : o.op = .call { callee := .builtin .append, args := #[s, x], argTypes := #[25, 25] }) {B : Nat} (base : Nat) (w : World) (A : Option Addr) (xs : List Int) (c : Nat)
    (hv : a.eval s = .slice (some ⟨w.heap.size, 0, none⟩) 0 0) (hx : a.eval x = .slice A xs.length c) (hsrc : Hid (Byts B w A xs)) (hB : B ≤ w.heap.size) (hl : xs.length ≤ 1000000) (hb : base ≤ w.heap.size)
    (h : ∀ A' c' w', Hid (OwnU base w' (.slice A' xs.length c') xs) → Hid (Below base w w') → wpList Try.prog ops Q rest (a.put o.dst (.slice A' xs.length c')) w') :
    wpList Try.prog ops Q (o :: rest) a (w.alloc (.cells #[] 5)) := by
  obtain ⟨i0, hi, hz0, hz1, hz2⟩ := info_parts infoByt
  have hs : Src (w.alloc (.cells #[] 5)) 1 A xs.length (xs.map (Value.int .u8)) := (hsrc.out.below ((Below.refl B w).alloc hB _)).isrc
  refine wpList_append_src hgd s x 25 ho base 5 i0 (.int .u8 0) 1 1 Try.underlying25 hi hz0 hz1 hz2 rfl (by decide) _ 0 [] hv (OwnU.empty2 hb) A xs.length c _ hx hs (one_byts xs) (by unfold maxLen; omega) (by omega) (by simp; omega) ?_
  intro v' w' h1 h2 _
  rw [List.nil_append, Nat.zero_add] at h1
  obtain ⟨A', c', rfl⟩ := ownsRow_form h1
  refine h A' c' w' h1 ?_
  exact ((Below.refl base w).alloc hb _).grown h2 (by simp; omega) (fun k e => by injection e with e; subst e; exact hb)
end
/-- All outcomes that begin so, m more. -/
def ouL : Nat → List Int → List (List Int)
  | 0, bg => [bg]
  | m + 1, bg => ([1, 2, 3] : List Int).flatMap fun n => ouL m (bg ++ [n])
theorem ouL_len : ∀ m bg, (ouL m bg).length = 3 ^ m
  | 0, bg => rfl
  | m + 1, bg => by
    simp only [ouL, List.flatMap_cons, List.flatMap_nil, List.length_append, List.length_nil, ouL_len m, Nat.pow_succ]
    omega
theorem mem_ouL : ∀ (m : Nat) (bg os : List Int), os ∈ ouL m bg ↔ os.length = bg.length + m ∧ (∀ k, k < bg.length → ix os k = ix bg k) ∧ ∀ k, bg.length ≤ k → k < os.length → 1 ≤ ix os k ∧ ix os k ≤ 3
  | 0, bg, os => by
    rw [ouL, List.mem_singleton]
    constructor
    · rintro rfl
      exact ⟨rfl, fun k _ => rfl, fun k h1 h2 => by omega⟩
    · rintro ⟨h1, h2, -⟩
      refine List.ext_getElem (by omega) fun k a b => ?_
      have := h2 k b
      rwa [ix_lt a, ix_lt b] at this
  | m + 1, bg, os => by
    rw [ouL, List.mem_flatMap]
    have hx : ∀ (n : Int) k, k < bg.length → ix (bg ++ [n]) k = ix bg k := fun n k hk => by rw [ix_lt (by simp; omega), ix_lt hk, List.getElem_append_left]
    have hy : ∀ n : Int, ix (bg ++ [n]) bg.length = n := fun n => by rw [ix_lt (by simp)]; simp
    constructor
    · rintro ⟨n, hn, h⟩
      obtain ⟨h1, h2, h3⟩ := (mem_ouL m (bg ++ [n]) os).1 h
      rw [List.length_append] at h1 h2 h3
      simp only [List.length_cons, List.length_nil] at h1 h2 h3
      have hn' : 1 ≤ n ∧ n ≤ 3 := by simp at hn; omega
      refine ⟨by omega, fun k hk => ?_, fun k hk1 hk2 => ?_⟩
      · rw [h2 k (by omega), hx n k hk]
      · by_cases e : k = bg.length
        · subst e
          rw [h2 _ (by omega), hy]
          exact hn'
        · exact h3 k (by omega) hk2
    · rintro ⟨h1, h2, h3⟩
      have hr := h3 bg.length (Nat.le_refl _) (by omega)
      refine ⟨ix os bg.length, by simp; omega, (mem_ouL m _ os).2 ⟨by simp; omega, fun k hk => ?_, fun k hk1 hk2 => h3 k (by simp at hk1; omega) hk2⟩⟩
      simp only [List.length_append, List.length_cons, List.length_nil] at hk
      by_cases e : k = bg.length
      · subst e; rw [hy]
      · rw [hx _ k (by omega)]; exact h2 k (by omega)
/-- Those of the first j outcomes. -/
def partO (m : Nat) (bg : List Int) (j : Nat) : List (List Int) := (([1, 2, 3] : List Int).take j).flatMap fun n => ouL m (bg ++ [n])
theorem partO_succ {m : Nat} {bg : List Int} {j : Nat} (hj : j < 3) : partO m bg (j + 1) = partO m bg j ++ ouL m (bg ++ [1 + (j : Int)]) := by
  unfold partO
  have : j = 0 ∨ j = 1 ∨ j = 2 := by omega
  rcases this with rfl | rfl | rfl <;> simp
theorem partO_len {m : Nat} {bg : List Int} (j : Nat) : (partO m bg j).length ≤ 3 * 3 ^ m := by
  unfold partO
  have h : ∀ l : List Int, (l.flatMap fun n => ouL m (bg ++ [n])).length = l.length * 3 ^ m := by
    intro l
    induction l with
    | nil => simp
    | cons x l ih => rw [List.flatMap_cons, List.length_append, ih, ouL_len, List.length_cons, Nat.add_mul]; omega
  rw [h]
  refine Nat.mul_le_mul_right _ ?_
  have := List.length_take_le j ([1, 2, 3] : List Int)
  rw [List.length_take]
  exact Nat.min_le_right _ _
set_option maxRecDepth 100000 in
set_option maxHeartbeats 8000000 in
theorem outs48_c (n : Nat) (hn : n ≤ 6) :
    ∀ (m : Nat) (bg : List Int) (A : Option Addr) (c lo : Nat) (w : World), bg.length + m = n → Byts w.heap.size w A bg → bg.length ≤ c ∧ c ≤ 9223372036854775807 → (∀ b, blkOf (.slice A bg.length c) = some b → lo ≤ b) → lo ≤ w.heap.size → (∀ k, k < bg.length → 1 ≤ ix bg k ∧ ix bg k ≤ 3) →
    Calls Try.prog 48 #[.int .i64 (n : Int), .slice A bg.length c] w (NewRs RdU 25 lo w (ouL m bg))
  | 0, bg, A, c, lo, w, hm, hx, hc, hlo, hlw, hr => by
    have q1 : ((bg.length : Int) == (n : Int)) = true := by simp; omega
    have HX : Hid (RdU w (.slice A bg.length c) bg) := ⟨A, c, rfl, hc.1, hc.2, hx⟩
    have HLO := Lib.hid hlo
    clear hx hlo hm hr
    go_enter Try.func48, Try.ntmps48
    go_wp2_with fail
    go_ret
    exact ⟨_, _, rfl, Rs.lit (Nat.le_refl _) rdU HX.out HLO.out, (Below.refl _ _).alloc (Nat.le_refl _) _⟩
  | m + 1, bg, A, c, lo, w, hm, hx, hc, hlo, hlw, hr => by
    have q1 : ((bg.length : Int) == (n : Int)) = false := by rw [beq_eq_false_iff_ne]; omega
    have hr2 : ∀ (y : Int), 1 ≤ y ∧ y ≤ 3 → ∀ k, k < (bg ++ [y]).length → 1 ≤ ix (bg ++ [y]) k ∧ ix (bg ++ [y]) k ≤ 3 := fun y hy k hk => by
      by_cases e : k < bg.length
      · rw [ix_lt hk, List.getElem_append_left e, ← ix_lt e]; exact hr k e
      · have e2 : k = bg.length := by simp at hk; omega
        subst e2
        rw [ix_lt hk]
        simpa using hy
    have HIH : Hid (∀ (y : Int), 1 ≤ y ∧ y ≤ 3 → ∀ (A' : Option Addr) (c' : Nat) (lo' : Nat) (W : World), OwnU lo' W (.slice A' (bg.length + 1) c') (bg ++ [y]) → lo' ≤ W.heap.size → Calls Try.prog 48 #[.int .i64 (n : Int), .slice A' (bg.length + 1) c'] W (NewRs RdU 25 lo' W (ouL m (bg ++ [y])))) := fun y hy A' c' lo' W k2 k3 => by
      have hl : (bg ++ [y]).length = bg.length + 1 := by simp
      have k4 := blk_ownU k2
      obtain ⟨k5, k6, k7⟩ := k2.parts (fun k hk => by have := hr2 y hy k hk; omega)
      have := outs48_c n hn m (bg ++ [y]) A' c' lo' W (by simp; omega) k7 ⟨k5, k6⟩ (by rw [hl]; exact k4) k3 (hr2 y hy)
      rwa [hl] at this
    have HPL : Hid (∀ j, (partO m bg j).length ≤ 729) := fun j => by
      have a := partO_len (m := m) (bg := bg) j
      have : 3 ^ m ≤ 3 ^ 5 := Nat.pow_le_pow_right (by omega) (by omega)
      have : 3 ^ 5 = 243 := rfl
      omega
    have HP0 : Hid (partO m bg 0 = []) := rfl
    have HPA : Hid (partO m bg 3 = ouL (m + 1) bg) := rfl
    have HX := Lib.hid hx
    have hbgl : bg.length ≤ 1000000 := by omega
    clear hx hlo hr hr2
    have HB := Lib.hid (Below.refl w.heap.size w)
    obtain ⟨F, hF⟩ : ∃ F, F = fun n => ouL m (bg ++ [n]) := ⟨_, rfl⟩
    have HIH2 : Hid (∀ (y : Int), 1 ≤ y ∧ y ≤ 3 → ∀ (A' : Option Addr) (c' : Nat) (lo' : Nat) (W : World), OwnU lo' W (.slice A' (bg.length + 1) c') (bg ++ [y]) → lo' ≤ W.heap.size → Calls Try.prog 48 #[.int .i64 (n : Int), .slice A' (bg.length + 1) c'] W (NewRs RdU 25 lo' W (F y))) := by rw [hF]; exact HIH
    have HPS2 : Hid (∀ j, j < 3 → partO m bg (j + 1) = partO m bg j ++ F (1 + (j : Int))) := by rw [hF]; exact fun j hj => partO_succ hj
    clear HIH hF
    generalize ouL (m + 1) bg = all at *
    generalize partO m bg = part at *
    go_enter Try.func48, Try.ntmps48
    go_wp2_with fail
    go_loopw [5, 6] (fun v n wr => ∃ (j : Nat) (A' : Option Addr) (c' : Nat), j ≤ 3 ∧ n = .int .u8 (1 + (j : Int)) ∧ v = .slice A' (part j).length c' ∧ Rs RdU 25 w.heap.size lo wr (.slice A' (part j).length c') (part j) ∧ Below w.heap.size w wr) (fun _ n _ => 10 - (intOf n).toNat)
    case atStart => exact ⟨0, none, 0, by omega, by simp, by rw [HP0.out]; first | done | rfl, by rw [HP0.out]; exact Rs.nil, Below.refl _ _⟩
    case round =>
      obtain ⟨j, A', c', hj, rfl, rfl, hrs, hb⟩ := hrel
      have HRS := Lib.hid hrs
      have HBR := Lib.hid hb
      have HXr := Lib.hid (HX.out.below hb)
      have hwr := hb.size
      clear hrs hb
      by_cases hjl : j < 3
      · have q4 : 1 + (j : Int) ≤ 3 := by omega
        have hwi : IntKind.u8.wrap (1 + (j : Int) + 1) = 1 + (j : Int) + 1 := by simp [IntKind.wrap, IntKind.bits, IntKind.signed]; omega
        go_wp2_with (first | (at_builtin; refine wpList_copyU (.tmp 19) (.tmp 20) rfl rfl wr.heap.size wr A bg c rfl rfl HXr (by omega) hbgl (Nat.le_refl _) ?_; intro A0 c0 w0 HO0 HB0) | (at_builtin; refine wpList_app_byt (.tmp 21) (.tmp 23) rfl rfl wr.heap.size w0 _ bg (1 + (j : Int)) rfl rfl HO0 hbgl HB0.out.size ?_; intro A1 c1' w1 HO1 HB1))
        have HBw : Hid (Below wr.heap.size wr w1) := HB0.out.trans HB1.out
        have HLL := Lib.hid (HPL.out j)
        have HLM := Lib.hid (HPL.out (j + 1))
        have HPJ := Lib.hid (HPS2.out j hjl)
        have hwl := HBw.out.size
        refine (HIH2.out (1 + (j : Int)) (by omega) A1 c1' wr.heap.size w1 HO1.out hwl).mono ?_
        rintro e w2 ⟨A2, c2', rfl, hrs2, hb2⟩
        have HRS2 := Lib.hid hrs2
        have HB2 : Hid (Below wr.heap.size wr w2) := HBw.out.trans (hb2.mono hwl)
        clear hrs2 hb2 HO0 HB0 HO1 HB1 HBw hwl HPS2 HIH2
        generalize F (1 + (j : Int)) = Fn at *
        have hlen : (part j).length + Fn.length ≤ 1000000 := by
          have h := HLM.out
          rw [HPJ.out, List.length_append] at h
          omega
        go_wp2_with (at_builtin; refine wpList_appRs rdU sty80 (.tmp 17) (.tmp 25) rfl rfl (w0 := wr) rfl rfl HRS HB2 hwr HRS2 (Nat.le_refl _) (by omega) hlen ?_; intro A3 c3 w3 HRS3 HB3)
        go_roundw
        case rel => exact ⟨j + 1, A3, c3, by omega, by first | go_num | (congr 1; omega) | (congr 1), by rw [HPJ.out, List.length_append], by rw [HPJ.out, List.length_append]; exact HRS3.out, HBR.out.trans HB3.out⟩
        case measure => simp [intOf]; omega
      · obtain rfl : j = 3 := by omega
        have q4 : ¬ 1 + ((3 : Nat) : Int) ≤ 3 := by omega
        go_wp2_with fail
        go_ret
        rw [← HPA.out]
        exact ⟨A', c', rfl, HRS.out, HBR.out⟩
end Go.Proofs.Ytjokbffdepcpkaa
