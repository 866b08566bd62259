/-
  A point shifted away from a team.
-/
import Derived.Test.YtjokbffdepcpkaaPass
namespace Go.Proofs.Ytjokbffdepcpkaa
open Go.RowKit
set_option linter.unusedSimpArgs false
set_option linter.unusedVariables false

attribute [local go_sem] Oper.semAt_some
set_option maxRecDepth 100000 in
set_option maxHeartbeats 4000000 in
theorem shift106_c {k : KR} (hk : k.Ok) (w : World) (t : Nat) (s : Fl) (h : GH k w s) (ht : t < 6) (htm : t ≠ k.tm) (hrc : k.rc ≤ s.hv t) (hrg : ∀ j, j < k.gs.length → 0 ≤ s.gv j ∧ s.gv j ≤ 2) (hhv : ∀ u, -100 ≤ s.hv u ∧ s.hv u ≤ 200000) :
    Calls Try.prog 106 #[.pointer (some ⟨k.q, 0, none⟩), .int .i64 (t : Int), .pointer (some ⟨k.hq, 0, none⟩)] w (fun e w' => e = .returned (.bool (k.R.shiftF t s).1) ∧ GH k w' (k.R.shiftF t s).2) := by
  have hb : Below w.heap.size w ((((w.alloc (.cells #[.pointer (some ⟨k.q, 0, none⟩)] 116)).alloc (.cells #[.pointer (some ⟨k.hq, 0, none⟩)] 143)).alloc (.cells #[.bool false, .bool false, .bool false, .bool false, .bool false, .bool false] 137)).alloc (.cells #[(.func (.func 112) #[] #[.pointer (some ⟨w.heap.size + 2, 0, none⟩), .pointer (some ⟨w.heap.size, 0, none⟩), .pointer (some ⟨w.heap.size + 1, 0, none⟩), .pointer (some ⟨w.heap.size + 3, 0, none⟩)])] 86)) := ((((Below.refl _ _).alloc (Nat.le_refl _) _).alloc (by simp) _).alloc (by simp; omega) _).alloc (by simp; omega) _
  have hp : PSt k w.heap.size ((((w.alloc (.cells #[.pointer (some ⟨k.q, 0, none⟩)] 116)).alloc (.cells #[.pointer (some ⟨k.hq, 0, none⟩)] 143)).alloc (.cells #[.bool false, .bool false, .bool false, .bool false, .bool false, .bool false] 137)).alloc (.cells #[(.func (.func 112) #[] #[.pointer (some ⟨w.heap.size + 2, 0, none⟩), .pointer (some ⟨w.heap.size, 0, none⟩), .pointer (some ⟨w.heap.size + 1, 0, none⟩), .pointer (some ⟨w.heap.size + 3, 0, none⟩)])] 86)) { s with sn := fun _ => false } := by
    obtain ⟨l1, l2⟩ := h.lts
    refine ⟨⟨(h.step hk hb).low, (h.step hk hb).gv, (h.step hk hb).hv⟩, ?_, ?_, ?_, ?_, l1, l2⟩
    · have e := World.alloc_heap_new ((w.alloc (.cells #[.pointer (some ⟨k.q, 0, none⟩)] 116)).alloc (.cells #[.pointer (some ⟨k.hq, 0, none⟩)] 143)) (.cells #[.bool false, .bool false, .bool false, .bool false, .bool false, .bool false] 137)
      rw [World.size_alloc, World.size_alloc] at e
      have e2 : (dnB (fun _ => false) 6).toArray = #[.bool false, .bool false, .bool false, .bool false, .bool false, .bool false] := rfl
      unfold BAt
      rw [e2]
      exact (heap_alloc_old _ _ (by simp)).trans e
    · go_simp
    · go_simp
    · go_simp
  have HPC := Lib.hid (pass112_c hk w.heap.size 6 ((((w.alloc (.cells #[.pointer (some ⟨k.q, 0, none⟩)] 116)).alloc (.cells #[.pointer (some ⟨k.hq, 0, none⟩)] 143)).alloc (.cells #[.bool false, .bool false, .bool false, .bool false, .bool false, .bool false] 137)).alloc (.cells #[(.func (.func 112) #[] #[.pointer (some ⟨w.heap.size + 2, 0, none⟩), .pointer (some ⟨w.heap.size, 0, none⟩), .pointer (some ⟨w.heap.size + 1, 0, none⟩), .pointer (some ⟨w.heap.size + 3, 0, none⟩)])] 86)) t { s with sn := fun _ => false } hp ht htm rfl (Nat.le_of_eq (Rc.free_all 6)) hrc hrg hhv)
  clear hb hp h hrc hrg hhv htm
  go_enter Try.func106, Try.ntmps106
  go_upto_region 4 with fail
  try simp only [World.alloc_heap_size] at *
  go_wp2_with fail
  refine HPC.out.mono ?_
  rintro e w2 ⟨rfl, hp⟩
  go_wp2_with fail
  go_ret
  exact ⟨rfl, hp.gh⟩
end Go.Proofs.Ytjokbffdepcpkaa
