/-
  The reference's copies: rows of one's own.
-/
import Derived.Test.YtgnonfomlgkpcaaO
namespace Go.Proofs.Ytgnonfomlgkpcaa
open Go.RowKit

/-- Value v is an own slice of n own slices; row j holds rows j. -/
def Rws (base : Nat) (w : World) (v : Value) (n : Nat) (vs : List Value) (rows : Nat → List Int) : Prop :=
  w.ownsRow base 45 1 v n vs ∧ (∀ j, j < n → ∃ u, vs[j]? = some u ∧ w.ownsRow base 3 1 u (rows j).length ((rows j).map (Value.int .i64)) ∧ (u.ownBlock = none ∨ u.ownBlock ≠ v.ownBlock)) ∧
    ∀ (i j : Nat) (u u' : Value), i < j → vs[i]? = some u → vs[j]? = some u' → (u.ownBlock = none ∨ u.ownBlock ≠ u'.ownBlock)

theorem Rws.len {base : Nat} {w : World} {v : Value} {n : Nat} {vs : List Value} {rows : Nat → List Int} (h : Rws base w v n vs rows) : vs.length = n := by have := h.1.1; omega

theorem Rws.nil (base : Nat) (w : World) (rows : Nat → List Int) : Rws base w (.slice none 0 0) 0 [] rows :=
  ⟨World.ownsRow_nil _ _ _ _, fun j hj => by omega, fun i j u u' _ h => by simp at h⟩

theorem grown_none {w w' : World} {B : Nat} (h : Below B w w') (hB : w.heap.size ≤ B) : w.grownBy w' none := only_below (h.mono hB) none

theorem Rws.kept {base : Nat} {w w' : World} {v : Value} {n : Nat} {vs : List Value} {rows : Nat → List Int} (h : Rws base w v n vs rows) (hg : Below w.heap.size w w') : Rws base w' v n vs rows := by
  obtain ⟨h1, h2, h3⟩ := h
  have k : ∀ {u : Value} {e : TypeId} {m : Nat} {us : List Value}, w.ownsRow base e 1 u m us → w'.ownsRow base e 1 u m us := fun {u e m us} hu => hu.kept (only_below hg none) (by cases u.ownBlock <;> simp)
  refine ⟨k h1, fun j hj => ?_, h3⟩
  obtain ⟨u, a, b, c⟩ := h2 j hj
  exact ⟨u, a, k b, c⟩

theorem Rws.push {base : Nat} {w w1 w2 : World} {v v' u : Value} {n : Nat} {vs : List Value} {rows : Nat → List Int} (h : Rws base w v n vs rows) (hb : Below w.heap.size w w1) (hB : base ≤ w.heap.size)
    (hu : w1.ownsRow w.heap.size 3 1 u (rows n).length ((rows n).map (Value.int .i64))) (hg : w1.grownBy w2 v.ownBlock) (hv : v'.ownBlock = v.ownBlock ∨ v'.ownBlock = some w1.heap.size)
    (ho : w2.ownsRow base 45 1 v' (n + 1) (vs ++ [u])) : Rws base w2 v' (n + 1) (vs ++ [u]) rows := by
  have hl := h.len
  have hvlt : ∀ k, v.ownBlock = some k → k < w.heap.size := fun k e => (h.1.lt k e).2
  have hult := hu.lt
  have hu2 : w2.ownsRow w.heap.size 3 1 u (rows n).length ((rows n).map (Value.int .i64)) := hu.kept hg (by
    cases e : u.ownBlock with
    | none => exact .inl rfl
    | some k =>
      refine .inr fun e' => ?_
      have a := hvlt k e'.symm
      have b := (hult k e).1
      omega)
  have hsz := hb.size
  refine ⟨ho, fun j hj => ?_, fun i j x y hij hx hy => ?_⟩
  · by_cases e : j = n
    · subst e
      refine ⟨u, by rw [List.getElem?_append_right (by omega)]; simp [hl], ownsRow_base hu2 hB, ?_⟩
      cases e : u.ownBlock with
      | none => exact .inl rfl
      | some k =>
        have a := hult k e
        refine .inr fun e' => ?_
        rcases hv with hv | hv
        · rw [hv] at e'
          have := hvlt k e'.symm
          omega
        · rw [hv] at e'
          injection e' with e'
          omega
    · obtain ⟨x, a, b, c⟩ := h.2.1 j (by omega)
      refine ⟨x, by rw [List.getElem?_append_left (by omega)]; exact a, (b.kept (only_below hb none) (by cases x.ownBlock <;> simp)).kept hg c, ?_⟩
      cases e : x.ownBlock with
      | none => exact .inl rfl
      | some k =>
        rcases hv with hv | hv
        · rw [hv]; rw [e] at c; exact c
        · have d := (b.lt k e).2
          rw [hv]
          refine .inr fun e' => ?_
          injection e' with e'
          omega
  · have hj : j < n + 1 := by
      have := (List.getElem?_eq_some_iff.1 hy).1
      rw [List.length_append] at this
      simp at this
      omega
    by_cases e : j = n
    · subst e
      rw [List.getElem?_append_right (by omega)] at hy
      rw [List.getElem?_append_left (by omega)] at hx
      simp [hl] at hy
      subst hy
      obtain ⟨x', a, b, c⟩ := h.2.1 i (by omega)
      rw [hx] at a
      injection a with a
      subst a
      cases e : x.ownBlock with
      | none => exact .inl rfl
      | some k =>
        have d := (b.lt k e).2
        refine .inr fun e' => ?_
        have := (hult k e'.symm).1
        omega
    · rw [List.getElem?_append_left (by omega)] at hy hx
      exact h.2.2 i j x y hij hx hy

theorem Rws.grd {base : Nat} {w : World} {v : Value} {vs : List Value} {yss : List (List Int)} (h : Rws base w v yss.length vs (rx yss)) : IsGrd w.heap.size w v yss := by
  obtain ⟨h1, h2, _⟩ := h
  rcases h1.2 with ⟨rfl, h0⟩ | ⟨g, cap, cur, rfl, hb, hg, hn, hm, hs, ht⟩
  · have : yss = [] := List.eq_nil_of_length_eq_zero h0
    subst this
    exact ⟨none, 0, rfl, by simp, by simp, fun hp => by simp at hp⟩
  · refine ⟨_, cap, rfl, hn, by unfold maxLen at hm; omega, fun hp => ⟨g, 0, rfl, (Array.getElem?_eq_some_iff.1 hg).1, fun k hk => ?_⟩⟩
    obtain ⟨u, a, b, c⟩ := h2 k hk
    refine ⟨u, ?_, ownsRow_isInts b⟩
    have := h1.cells (g := g) rfl k u a
    rwa [add_eq] at this

/-- A new copy. -/
def CopyPost (w : World) (xss : List (List Int)) (e : Ending) (w' : World) : Prop :=
  ∃ v vs, e = .returned v ∧ Rws w.heap.size w' v xss.length vs (rx xss) ∧ Below w.heap.size w w'

theorem src_one (w : World) (u : Value) : Src (w.alloc (.cells #[u] 45)) 1 (some ⟨w.heap.size, 0, none⟩) 1 [u] := by
  refine ⟨rfl, (fun h => by cases h), fun ad hA j x hx => ?_⟩
  injection hA with hA
  subst hA
  cases j with
  | zero =>
    simp at hx
    subst hx
    rw [add_eq]
    simp
  | succ j => simp at hx

theorem one_slices {base : Nat} {w : World} {e : TypeId} {u : Value} {n : Nat} {xs : List Value} (h : w.ownsRow base e 1 u n xs) : ∀ x ∈ [u], x.oneCell' = true := by
  obtain ⟨A, c, rfl⟩ := ownsRow_form h
  intro x hx
  simp at hx
  subst hx
  rfl

theorem le_alloc {b : Nat} {w w1 : World} {o : Obj} (h : b ≤ w.heap.size) (hb : Below w.heap.size w w1) : b ≤ (w1.alloc o).heap.size := by
  have := hb.size
  rw [World.size_alloc]
  omega
theorem own_ne (u : Value) : u.ownBlock = none ∨ u.ownBlock ≠ none := by cases u.ownBlock <;> simp
theorem below_lit {w w' : World} {n c : Nat} {o : Obj} (h : (w.alloc o).grownBy w' (Value.slice (some ⟨w.heap.size, 0, none⟩) n c).ownBlock) : Below w.heap.size w w' :=
  ((Below.refl w.heap.size w).alloc (Nat.le_refl _) o).grown h (by simp) (fun k e => by injection e with e; subst e; exact Nat.le_refl _)

set_option maxRecDepth 100000 in
set_option maxHeartbeats 2000000 in
theorem copied_c {B : Nat} (A : Option Addr) (xss : List (List Int)) (c : Nat) (w : World) (hB : B ≤ w.heap.size) (hx : Grd B w A xss) (hl : xss.length ≤ 1000000) (hr : ∀ k, k < xss.length → (rx xss k).length ≤ 1000000) :
    Calls Try.prog 21 #[.slice A xss.length c] w (CopyPost w xss) := by
  obtain ⟨i0, hi, hz0, hz1, hz2⟩ := info_parts infoInt
  obtain ⟨i1, hi', hy0, hy1, hy2⟩ := info_parts infoInts
  have HX := Lib.hid hx
  have HR := Lib.hid hr
  clear hx hr
  go_enter Try.func21, Try.ntmps21
  go_wp2_with fail
  go_loopw [4, 3] (fun i v wr => ∃ (k : Nat) (vs : List Value), k ≤ xss.length ∧ i = .int .i64 k ∧ Rws w.heap.size wr v k vs (rx xss) ∧ Below w.heap.size w wr) (fun i _ _ => xss.length - (intOf i).toNat)
  case atStart => exact ⟨0, [], by omega, rfl, Rws.nil _ _ _, Below.refl _ _⟩
  case round =>
    obtain ⟨k, vs, hk, rfl, hO, hb⟩ := hrel
    by_cases h1 : k < xss.length
    · have hz := hb.size
      obtain ⟨b, off, A', c', rfl, hbl, hc1, hc2, hc3, hi3⟩ := (HX.out.below (hb.mono hB)).at_ h1
      have hrk := HR.out k h1
      have hbw : b < wr.heap.size := by omega
      have HB := Lib.hid hb
      have HO := Lib.hid hO
      have hIs := Lib.hid hO.1
      have hs := Lib.hid ((hi3.alloc (by omega) (.cells #[] 3)).isrc)
      have ho : Hid ((wr.alloc (.cells #[] 3)).ownsRow wr.heap.size 3 1 (.slice (some ⟨wr.heap.size, 0, none⟩) 0 0) 0 []) := World.ownsRow_lit wr #[] 0 (Nat.le_refl _) (by simp [maxLen]) (by simp)
      have h63 : Hid (0 + (rx xss k).length ≤ maxLen) := by show _ ≤ _; unfold maxLen; omega
      have hby : Hid ((0 + (rx xss k).length) * 8 ≤ 140737488355328) := by show _ ≤ _; omega
      have h63' : Hid (k + 1 ≤ maxLen) := by show _ ≤ _; unfold maxLen; omega
      have hby' : Hid ((k + 1) * 24 ≤ 140737488355328) := by show _ ≤ _; omega
      clear hb hO hi3 hrk
      go_wp2_with (first | (at_builtin; refine wpList_append_src rfl (.tmp 12) (.tmp 16) 45 rfl wr.heap.size 3 i0 (.int .i64 0) 1 8 Try.underlying45 hi hz0 hz1 hz2 rfl (by decide) (.slice (some ⟨wr.heap.size, 0, none⟩) 0 0) 0 [] rfl ho.out A' (rx xss k).length c' _ rfl hs.out (one_ints (rx xss k)) h63.out hby.out (by simp) ?_; intro u w1 hown hgrow hob; rw [List.nil_append, Nat.zero_add] at hown; obtain ⟨Au, cu, rfl⟩ := ownsRow_form hown; have HO1 := Lib.hid hown; have HB1 := Lib.hid (below_lit hgrow); have hw2 := Lib.hid ((hIs.out.kept (only_below HB1.out none) (own_ne u3)).alloc (.cells #[.slice Au (rx xss k).length cu] 45)); have hs2 := Lib.hid (src_one w1 (.slice Au (rx xss k).length cu)); have hon := Lib.hid (one_slices hown); have hzz : Hid (w.heap.size ≤ (w1.alloc (.cells #[.slice Au (rx xss k).length cu] 45)).heap.size) := le_alloc hz HB1.out; clear hown hgrow hob) | (at_builtin; refine wpList_append_src rfl (.tmp 11) (.tmp 18) 22 rfl w.heap.size 45 i1 (.slice none 0 0) 1 24 Try.underlying22 hi' hy0 hy1 hy2 rfl (by decide) u3 k vs rfl hw2.out (some ⟨w1.heap.size, 0, none⟩) 1 1 [.slice Au (rx xss k).length cu] rfl hs2.out hon.out h63'.out hby'.out hzz.out ?_; intro v' w2 hown hgrow hob; have HO2 := Lib.hid hown; have HG2 := Lib.hid hgrow; have HV := Lib.hid hob; clear hown hgrow hob))
      go_roundw
      case rel =>
        have hu := HO1.out
        have hb1 : Below wr.heap.size wr (w1.alloc (.cells #[.slice Au (rx xss k).length cu] 45)) := HB1.out.alloc HB1.out.size _
        refine ⟨k + 1, vs ++ [.slice Au (rx xss k).length cu], by omega, by go_num, HO.out.push hb1 hz (hu.alloc _) HG2.out HV.out HO2.out, (HB.out.trans (hb1.mono hz)).grown HG2.out hzz.out (fun j e => (HO.out.1.lt j e).1)⟩
      case measure => simp [intOf]; omega
    · obtain rfl : k = xss.length := by omega
      go_wp2_with fail
      go_ret
      exact ⟨_, _, rfl, hO, hb⟩
end Go.Proofs.Ytgnonfomlgkpcaa
