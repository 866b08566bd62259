/-
  Whether a line has what it needs.
-/
import Derived.Test.YtgnonfomlgkpcaaR
namespace Go.Proofs.Ytgnonfomlgkpcaa
open Go.RowKit

attribute [local go_sem] Oper.semAt_some

/-- Has row k as much oil as is needed? -/
def enAt (xs ns : List Int) (o : Nat → Int) (k : Nat) : Bool := decide (ix ns k ≤ o (k * 12 + (ix xs k).toNat))

set_option maxRecDepth 100000 in
set_option maxHeartbeats 4000000 in
theorem enough_c {B : Nat} (g c c' : Nat) (A A' : Option Addr) (xs ns : List Int) (fv : Value) (lo hi ca : Int) (o : Nat → Int) (w : World) (hw : Worn w g fv lo hi ca o) (hB : B ≤ w.heap.size) (hx : Ints B w A xs) (hn : Ints B w A' ns) (hln : ns.length = xs.length)
    (h8 : xs.length ≤ 8) (hb : ∀ k, k < xs.length → 0 ≤ ix xs k ∧ ix xs k < 12) :
    Calls Try.prog 74 #[.pointer (some ⟨g, 0, none⟩), .agg #[.slice A xs.length c, .slice A' ns.length c']] w (Ans w (.bool ((List.range xs.length).all (enAt xs ns o)))) := by
  have hg := hw.lt
  have HW := Lib.hid hw
  have HX := Lib.hid hx
  have HN := Lib.hid hn
  have HLN := Lib.hid hln
  clear hw hx hn hln
  refine calls_marks Try.func74 rfl ?_
  simp only [Try.ntmps74, List.size_toArray, List.length_cons, List.length_nil, Nat.reduceAdd, Nat.reduceSub, Array.replicate_succ, Array.replicate_zero, List.push_toArray, List.append_toArray, List.nil_append, List.cons_append]
  go_wp2_with fail
  go_step3
  go_wp2_with fail
  go_step3
  go_wp2_with (go_at_call 62; refine (cells_c _ _ _ _).mono ?_; rintro e w2 ⟨rfl, rfl⟩)
  have hW1 : Worn ((((w.alloc (.cells #[.pointer (some ⟨g, 0, none⟩)] 90)).alloc (.cells #[.slice A xs.length c, .slice A' ns.length c'] 60)).alloc (.cells #[.bool true] 4)).alloc (.cells #[.slice A xs.length c] 45)) g fv lo hi ca o := (((HW.out.alloc _).alloc _).alloc _).alloc _
  have hbw : Below w.heap.size w ((((w.alloc (.cells #[.pointer (some ⟨g, 0, none⟩)] 90)).alloc (.cells #[.slice A xs.length c, .slice A' ns.length c'] 60)).alloc (.cells #[.bool true] 4)).alloc (.cells #[.slice A xs.length c] 45)) := ((((Below.refl _ _).alloc (Nat.le_refl _) _).alloc (by simp) _).alloc (by simp; omega) _).alloc (by simp; omega) _
  have hx1 : Ints B ((((w.alloc (.cells #[.pointer (some ⟨g, 0, none⟩)] 90)).alloc (.cells #[.slice A xs.length c, .slice A' ns.length c'] 60)).alloc (.cells #[.bool true] 4)).alloc (.cells #[.slice A xs.length c] 45)) A xs := HX.out.below (hbw.mono hB)
  have hn1 : Ints B ((((w.alloc (.cells #[.pointer (some ⟨g, 0, none⟩)] 90)).alloc (.cells #[.slice A xs.length c, .slice A' ns.length c'] 60)).alloc (.cells #[.bool true] 4)).alloc (.cells #[.slice A xs.length c] 45)) A' ns := HN.out.below (hbw.mono hB)
  have hsz : ((((w.alloc (.cells #[.pointer (some ⟨g, 0, none⟩)] 90)).alloc (.cells #[.slice A xs.length c, .slice A' ns.length c'] 60)).alloc (.cells #[.bool true] 4)).alloc (.cells #[.slice A xs.length c] 45)).heap.size = w.heap.size + 4 := by simp
  have hcb : ((((w.alloc (.cells #[.pointer (some ⟨g, 0, none⟩)] 90)).alloc (.cells #[.slice A xs.length c, .slice A' ns.length c'] 60)).alloc (.cells #[.bool true] 4)).alloc (.cells #[.slice A xs.length c] 45)).cell? ⟨w.heap.size + 1 + 1 + 1, 0, none⟩ = some (.slice A xs.length c) := by go_simp
  have k0 : ((((w.alloc (.cells #[.pointer (some ⟨g, 0, none⟩)] 90)).alloc (.cells #[.slice A xs.length c, .slice A' ns.length c'] 60)).alloc (.cells #[.bool true] 4)).alloc (.cells #[.slice A xs.length c] 45)).cell? ⟨w.heap.size, 0, none⟩ = some (.pointer (some ⟨g, 0, none⟩)) := by go_simp
  have k1 : ((((w.alloc (.cells #[.pointer (some ⟨g, 0, none⟩)] 90)).alloc (.cells #[.slice A xs.length c, .slice A' ns.length c'] 60)).alloc (.cells #[.bool true] 4)).alloc (.cells #[.slice A xs.length c] 45)).cell? ⟨w.heap.size + 1, 1, none⟩ = some (.slice A' ns.length c') := by go_simp
  have k2 : ((((w.alloc (.cells #[.pointer (some ⟨g, 0, none⟩)] 90)).alloc (.cells #[.slice A xs.length c, .slice A' ns.length c'] 60)).alloc (.cells #[.bool true] 4)).alloc (.cells #[.slice A xs.length c] 45)).heap[w.heap.size + 1 + 1]? = some (.cells #[.bool true] 4 (0, 0)) := by
    rw [Below.heap_alloc _ _ _ (by simp)]
    have := World.alloc_heap_new ((w.alloc (.cells #[.pointer (some ⟨g, 0, none⟩)] 90)).alloc (.cells #[.slice A xs.length c, .slice A' ns.length c'] 60)) (.cells #[.bool true] 4)
    simpa using this
  generalize ((((w.alloc (.cells #[.pointer (some ⟨g, 0, none⟩)] 90)).alloc (.cells #[.slice A xs.length c, .slice A' ns.length c'] 60)).alloc (.cells #[.bool true] 4)).alloc (.cells #[.slice A xs.length c] 45)) = W1 at hW1 hbw hx1 hn1 hsz hcb k0 k1 k2 ⊢
  refine wpIn_wide.1 (wpIn_rangeFunc_ownH (F := Fence.wide) (n := 5) (α := Fin xs.length) rfl (by omega) (gf := 89) (lb := #[.pointer (some ⟨w.heap.size + 1 + 1 + 1, 0, none⟩)]) rfl trivial (enters_of Try.func89 (by kernel_rfl) rfl)
    (cells_stops 4 (w.heap.size + 1 + 1 + 1) c A xs (by omega) (KpG W1.heap.size (w.heap.size + 1 + 1)) (fun h k => h.trans k) (fun _ => KpG.refl _ _ _) (fun W W' hk hi => hi.below (hk.below (by omega) (by omega))) W1 (by omega) (Nat.le_trans hB (by omega)) hcb hx1)
    (fun h k => h.trans k) ?keepPut (Below.refl _ _) (fun _ => rfl)
    (fun pre W => W.heap[w.heap.size + 1 + 1]? = some (.cells #[.bool true] 4 (0, 0)) ∧ (∀ k ∈ pre, enAt xs ns o k.1 = true) ∧ KpG W1.heap.size (w.heap.size + 1 + 1) W1 W)
    (fun cd pre W => cd = .exit 0 ∧ W.heap[w.heap.size + 1 + 1]? = some (.cells #[.bool false] 4 (0, 0)) ∧ (∃ k ∈ pre, enAt xs ns o k.1 = false) ∧ KpG W1.heap.size (w.heap.size + 1 + 1) W1 W) ?ownI ?ownX ⟨k2, (fun k hk => by cases hk), KpG.refl _ _ _⟩
    (fun x a' W => ∃ bb, W1.heap.size ≤ bb ∧ W.heap[bb]? = some (.cells #[.int .i64 (x.1 : Int), .int .i64 (ix xs x.1)] 96 (0, 0)) ∧ a' = { tmps := #[.pointer (some ⟨g, 0, none⟩), .agg #[.slice A xs.length c, .slice A' ns.length c'], .pointer (some ⟨w.heap.size, 0, none⟩), .pointer (some ⟨w.heap.size + 1, 0, none⟩), .bool false, .pointer (some ⟨w.heap.size + 1 + 1, 0, none⟩), .pointer (some ⟨bb, 0, none⟩), .pointer (some ⟨w.heap.size + 1, 0, none⟩), .slice A xs.length c, .func (.func 89) #[] #[.pointer (some ⟨w.heap.size + 1 + 1 + 1, 0, none⟩)], .agg #[.int .i64 (x.1 : Int), .int .i64 (ix xs x.1)], undef, undef, undef, undef, undef, undef, undef, undef, undef, undef, undef, undef, undef, undef, undef, undef, undef, undef], defers := [] })
    ?ownA ?assign ?body ?done ?stop)
  case keepPut =>
    intro W l x y hl hx _ _
    exact ⟨by simp, rfl, rfl, rfl, fun k hk _ => World.putObj_heap_other (by omega)⟩
  case ownI =>
    rintro pre W W' row ⟨hWo, hal, hKp⟩ hg' hrow
    refine ⟨(hg'.block _ (Array.getElem?_eq_some_iff.1 hWo).1 (fun e => ?_)).trans hWo, hal, hKp.trans ⟨hg'.size, hg'.os, hg'.tape, hg'.output, fun k hk _ => hg'.block k (Nat.lt_of_lt_of_le hk hKp.1) (fun e => ?_)⟩⟩
    · have := (hrow _ e.symm).1
      omega
    · have := (hrow _ e.symm).1
      omega
  case ownX =>
    rintro cd pre W W' row ⟨hcd, hWo, hal, hKp⟩ hg' hrow
    refine ⟨hcd, (hg'.block _ (Array.getElem?_eq_some_iff.1 hWo).1 (fun e => ?_)).trans hWo, hal, hKp.trans ⟨hg'.size, hg'.os, hg'.tape, hg'.output, fun k hk _ => hg'.block k (Nat.lt_of_lt_of_le hk hKp.1) (fun e => ?_)⟩⟩
    · have := (hrow _ e.symm).1
      omega
    · have := (hrow _ e.symm).1
      omega
  case ownA =>
    rintro x a' _ W W' row ⟨bb, hbb, hc, rfl⟩ hg' hrow
    refine ⟨bb, hbb, (hg'.block bb (Array.getElem?_eq_some_iff.1 hc).1 (fun e => ?_)).trans hc, rfl⟩
    obtain ⟨_, ob, ho, hno⟩ := hrow _ e.symm
    rw [hc] at ho
    cases ho
    cases hno
  case assign =>
    rintro l pre x W K ⟨hWo, hal, hKp⟩ hK
    simp only [cellEnc]
    gi_wp2
    exact hK _ _ ((KeepsOthers.alloc _ _).from _) ⟨by simp, rfl, rfl, rfl, fun k hk _ => Below.heap_alloc _ _ _ (Nat.lt_of_lt_of_le hk hKp.1)⟩ ⟨(Below.heap_alloc _ _ _ (Array.getElem?_eq_some_iff.1 hWo).1).trans hWo, hal, hKp.trans ⟨by simp, rfl, rfl, rfl, fun k hk _ => Below.heap_alloc _ _ _ (Nat.lt_of_lt_of_le hk hKp.1)⟩⟩ ⟨W.heap.size, hKp.1, World.alloc_heap_new _ _, rfl⟩
  case body =>
    rintro l pre x a' W hl ⟨r, hr⟩ ⟨hWo, hal, hKp⟩ ⟨bb, hbb, hcell, rfl⟩ hlt
    have j0 : W.cell? ⟨w.heap.size, 0, none⟩ = some (.pointer (some ⟨g, 0, none⟩)) := hKp.cell k0 (by dsimp only; omega) (by dsimp only; omega)
    have j1 : W.cell? ⟨w.heap.size + 1, 1, none⟩ = some (.slice A' ns.length c') := hKp.cell k1 (by dsimp only; omega) (by dsimp only; omega)
    have j2 : W.cell? ⟨w.heap.size + 1 + 1, 0, none⟩ = some (.bool true) := by simp [World.cell?, hWo]
    have j3 : W.cell? ⟨bb, 0, none⟩ = some (.int .i64 (x.1 : Int)) := by simp [World.cell?, hcell]
    have j4 : W.cell? ⟨bb, 1, none⟩ = some (.int .i64 (ix xs x.1)) := by simp [World.cell?, hcell]
    have j5 : W.frozen? ⟨w.heap.size + 1 + 1, 0, none⟩ = false := by simp [World.frozen?, hWo]
    obtain ⟨hb0, hb12⟩ := hb x.1 x.2
    have hx8 : x.1 < 8 := Nat.lt_of_lt_of_le x.2 h8
    obtain ⟨bn, offn, rfl, hbn, jn0⟩ := hn1.at_ (k := x.1) (by rw [HLN.out]; exact x.2)
    have jn : W.cell? ⟨bn, offn + x.1, none⟩ = some (.int .i64 (ix ns x.1)) := hKp.cell jn0 (by dsimp only; omega) (by dsimp only; omega)
    have jo0 := hW1.at_ (i := x.1 * 12 + (ix xs x.1).toNat) (j := 4 + x.1 * 12 + (ix xs x.1).toNat) (by omega) (by omega)
    have jo : W.cell? ⟨g, 4 + x.1 * 12 + (ix xs x.1).toNat, none⟩ = some (.int .i64 (o (x.1 * 12 + (ix xs x.1).toNat))) := hKp.cell jo0 (by dsimp only; omega) (by dsimp only; omega)
    have hnx : (x.1 : Int) < (ns.length : Int) := by have := HLN.out; omega
    have hx8i : ((x.1 : Nat) : Int) < 8 := by omega
    have hx0i : (0 : Int) ≤ ((x.1 : Nat) : Int) := by omega
    have HKp := Lib.hid hKp
    have HWo := Lib.hid hWo
    have HAL := Lib.hid hal
    clear hKp hcell hWo jn0 jo0 hal
    by_cases he : o (x.1 * 12 + (ix xs x.1).toNat) < ix ns x.1
    · have HE : Hid (enAt xs ns o x.1 = false) := by show _ = _; simp only [enAt]; exact decide_eq_false (by omega)
      gi_wp2
      refine round_quiet (by kernel_rfl) (by kernel_rfl) (by kernel_rfl) (by rintro ⟨_, _, h⟩; exact h) ?_
      repeat (first | go_big_quiet_step (fail) | quiet_step (fail))
      refine wpQuiet_nil ?_
      rintro _ ⟨nq, rfl⟩
      gi_wp2
      have hW2 := HWo.out
      refine ⟨⟨by simp, fun k ob hk hko hno => ?_⟩, rfl, ?_, ⟨x, by simp, HE.out⟩, HKp.out.trans ⟨by simp, rfl, rfl, rfl, fun k hk hne => ?_⟩⟩
      · rw [Below.heap_setCell _ _ _ _ (by dsimp only; omega)]
        exact hko
      · simp [World.setCell, Array.getElem?_modify, hW2]
      · rw [Below.heap_setCell _ _ _ _ (by dsimp only; omega)]
        rfl
    · have HE : Hid (enAt xs ns o x.1 = true) := by show _ = _; simp only [enAt]; exact decide_eq_true (by omega)
      gi_wp2
      refine round_quiet (by kernel_rfl) (by kernel_rfl) (by kernel_rfl) (by rintro ⟨_, _, h⟩; exact h) ?_
      repeat (first | go_big_quiet_step (fail) | quiet_step (fail))
      refine wpQuiet_nil ?_
      rintro _ ⟨nq, rfl⟩
      gi_wp2
      refine ⟨⟨Nat.le_refl _, fun k ob hk hko hno => hko⟩, ⟨Nat.le_refl _, rfl, rfl, rfl, fun k hk hne => rfl⟩, HWo.out, ?_, HKp.out.trans ⟨Nat.le_refl _, rfl, rfl, rfl, fun k hk hne => rfl⟩⟩
      intro k hk
      rcases List.mem_append.1 hk with h | h
      · exact HAL.out k h
      · rw [List.mem_singleton.1 h]
        exact HE.out
  case done =>
    rintro D ys W hD rfl ⟨hWo, hal, hKp⟩ hK
    have j2 : W.cell? ⟨w.heap.size + 1 + 1, 0, none⟩ = some (.bool true) := by simp [World.cell?, hWo]
    go_wp2_with fail
    rw [Exit.noGoto_ret]
    refine ⟨by simp, .inl ⟨_, _, rfl, run_takeDeferred hK, ?_⟩⟩
    have hbK : Below w.heap.size w (W.putObj D (.deferred none)) := (hbw.trans (hKp.below (by omega) (by omega))).trans ⟨rfl, rfl, rfl, by simp, fun k hk => World.putObj_heap_other (by omega)⟩
    refine ⟨_, results_tmp rfl _ _ _, ?_, hbK⟩
    show Ending.returned (.bool true) = _
    refine ret_bool ?_
    refine Eq.symm (List.all_eq_true.2 fun k hk => ?_)
    exact hal ⟨k, List.mem_range.1 hk⟩ (List.mem_finRange _)
  case stop =>
    rintro D cd pre W hD ⟨k, rfl⟩ ⟨rfl, hWo, hal, hKp⟩ hK
    have j2 : W.cell? ⟨w.heap.size + 1 + 1, 0, none⟩ = some (.bool false) := by simp [World.cell?, hWo]
    refine wpIn_wide.2 ?_
    go_wp2_with fail
    rw [Exit.noGoto_ret]
    refine ⟨by simp, .inl ⟨_, _, rfl, run_takeDeferred hK, ?_⟩⟩
    have hbK : Below w.heap.size w (W.putObj D (.deferred none)) := (hbw.trans (hKp.below (by omega) (by omega))).trans ⟨rfl, rfl, rfl, by simp, fun k hk => World.putObj_heap_other (by omega)⟩
    refine ⟨_, results_tmp rfl _ _ _, ?_, hbK⟩
    show Ending.returned (.bool false) = _
    refine ret_bool ?_
    refine Eq.symm (List.all_eq_false.2 ?_)
    obtain ⟨k, _, hk⟩ := hal
    exact ⟨k.1, List.mem_range.2 k.2, by simp [hk]⟩
end Go.Proofs.Ytgnonfomlgkpcaa
