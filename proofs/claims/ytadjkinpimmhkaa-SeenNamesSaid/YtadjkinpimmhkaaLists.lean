/-
  All lists of so many tellers that explain the words; the least one; who is alone to blame.
-/
import Derived.Test.YtadjkinpimmhkaaFrom2
namespace Go.Proofs.Ytadjkinpimmhkaa
open Go.RowKit
set_option linter.unusedSimpArgs false
set_option linter.unusedVariables false

/-- The lists of so many tellers that explain. -/
def lstM (ex : (Nat → Bool) → Bool) (many : Nat) : List (List Int) := lstF ex many [] (fun _ => false) 0
def LPost (w : World) (B p b n : Nat) (m : Nat) (A : Option Addr) (c : Nat) (ws : List Wd) (rs : List (List Int)) (e : Ending) (w' : World) : Prop :=
  ∃ Ar cr vs n', e = .returned (.slice Ar rs.length cr) ∧ Rws w.heap.size w' (.slice Ar rs.length cr) rs.length vs (rx rs) ∧ n' ≤ n + 3125 ∧ Wat B w' p b n' (m : Int) A c ws ∧ w.grownBy w' (some b)

theorem Rws.lower {base base' : Nat} {w : World} {v : Value} {n : Nat} {vs : List Value} {rows : Nat → List Int} (h : Rws base w v n vs rows) (hb : base' ≤ base) : Rws base' w v n vs rows :=
  ⟨ownsRow_base h.1 hb, fun j hj => by
    obtain ⟨u, a, b, c⟩ := h.2.1 j hj
    exact ⟨u, a, ownsRow_base b hb, c⟩, h.2.2⟩
def MPost (w : World) (B p b n : Nat) (m : Nat) (A : Option Addr) (c : Nat) (ws : List Wd) (rs : List (List Int)) (q : Nat) (e : Ending) (w' : World) : Prop :=
  (∃ x, e = .returned x) ∧ ∃ Ar cr vs n', w'.heap[q]? = some (.cells #[.slice Ar rs.length cr] 66 (0, 0)) ∧ Rws w.heap.size w' (.slice Ar rs.length cr) rs.length vs (rx rs) ∧ n' ≤ n + 3125 ∧ Wat B w' p b n' (m : Int) A c ws ∧ w.grownBy w' (some b)
theorem lists_start {B : Nat} (p b n c m many : Nat) (A : Option Addr) (ws : List Wd) (w : World) (hB : B ≤ w.heap.size) (hp : p < w.heap.size) (hb : B ≤ b) (hW : Wat B w p b n (m : Int) A c ws)
    (hl9 : ws.length ≤ 1000000) (hok : ∀ k, k < ws.length → wordB (m : Int) (wx ws k) = true) (hm : m ≤ 5) (hn : n + 3125 ≤ 1000000) (hmany : many ≤ 4) :
    Calls Try.prog 75 #[.slice none 0 0, .agg #[.bool false, .bool false, .bool false, .bool false], .int .i64 0, .pointer (some ⟨w.heap.size + 1, 0, none⟩), .pointer (some ⟨w.heap.size, 0, none⟩), .pointer (some ⟨w.heap.size + 1 + 1, 0, none⟩), .pointer (some ⟨w.heap.size + 1 + 1 + 1, 0, none⟩)]
      ((((w.alloc (.cells #[.pointer (some ⟨p, 0, none⟩)] 90)).alloc (.cells #[.int .i64 (many : Int)] 3)).alloc (.cells #[.slice none 0 0] 66)).alloc (.cells #[.func (.func 75) #[] #[.pointer (some ⟨w.heap.size + 1, 0, none⟩), .pointer (some ⟨w.heap.size, 0, none⟩), .pointer (some ⟨w.heap.size + 1 + 1, 0, none⟩), .pointer (some ⟨w.heap.size + 1 + 1 + 1, 0, none⟩)]] 125))
      (MPost w B p b n m A c ws (lstM (explB (m : Int) ws) many) (w.heap.size + 1 + 1)) := by
  have hbl := hW.kn.lt
  have hpb := hW.pb
  have hb0 : Below w.heap.size w ((((w.alloc (.cells #[.pointer (some ⟨p, 0, none⟩)] 90)).alloc (.cells #[.int .i64 (many : Int)] 3)).alloc (.cells #[.slice none 0 0] 66)).alloc (.cells #[.func (.func 75) #[] #[.pointer (some ⟨w.heap.size + 1, 0, none⟩), .pointer (some ⟨w.heap.size, 0, none⟩), .pointer (some ⟨w.heap.size + 1 + 1, 0, none⟩), .pointer (some ⟨w.heap.size + 1 + 1 + 1, 0, none⟩)]] 125)) :=
    ((((Below.refl _ _).alloc (Nat.le_refl _) _).alloc (by simp) _).alloc (by simp; omega) _).alloc (by simp; omega) _
  have k1 : ((((w.alloc (.cells #[.pointer (some ⟨p, 0, none⟩)] 90)).alloc (.cells #[.int .i64 (many : Int)] 3)).alloc (.cells #[.slice none 0 0] 66)).alloc (.cells #[.func (.func 75) #[] #[.pointer (some ⟨w.heap.size + 1, 0, none⟩), .pointer (some ⟨w.heap.size, 0, none⟩), .pointer (some ⟨w.heap.size + 1 + 1, 0, none⟩), .pointer (some ⟨w.heap.size + 1 + 1 + 1, 0, none⟩)]] 125)).cell? ⟨w.heap.size, 0, none⟩ = some (.pointer (some ⟨p, 0, none⟩)) := by go_simp
  have k2 : ((((w.alloc (.cells #[.pointer (some ⟨p, 0, none⟩)] 90)).alloc (.cells #[.int .i64 (many : Int)] 3)).alloc (.cells #[.slice none 0 0] 66)).alloc (.cells #[.func (.func 75) #[] #[.pointer (some ⟨w.heap.size + 1, 0, none⟩), .pointer (some ⟨w.heap.size, 0, none⟩), .pointer (some ⟨w.heap.size + 1 + 1, 0, none⟩), .pointer (some ⟨w.heap.size + 1 + 1 + 1, 0, none⟩)]] 125)).cell? ⟨w.heap.size + 1, 0, none⟩ = some (.int .i64 (many : Int)) := by go_simp
  have k3 : ((((w.alloc (.cells #[.pointer (some ⟨p, 0, none⟩)] 90)).alloc (.cells #[.int .i64 (many : Int)] 3)).alloc (.cells #[.slice none 0 0] 66)).alloc (.cells #[.func (.func 75) #[] #[.pointer (some ⟨w.heap.size + 1, 0, none⟩), .pointer (some ⟨w.heap.size, 0, none⟩), .pointer (some ⟨w.heap.size + 1 + 1, 0, none⟩), .pointer (some ⟨w.heap.size + 1 + 1 + 1, 0, none⟩)]] 125)).heap[w.heap.size + 1 + 1]? = some (.cells #[.slice none 0 0] 66 (0, 0)) := by
    rw [heap_alloc_old _ _ (by simp)]
    have := World.alloc_heap_new ((w.alloc (.cells #[.pointer (some ⟨p, 0, none⟩)] 90)).alloc (.cells #[.int .i64 (many : Int)] 3)) (.cells #[.slice none 0 0] 66)
    simpa using this
  have k4 : ((((w.alloc (.cells #[.pointer (some ⟨p, 0, none⟩)] 90)).alloc (.cells #[.int .i64 (many : Int)] 3)).alloc (.cells #[.slice none 0 0] 66)).alloc (.cells #[.func (.func 75) #[] #[.pointer (some ⟨w.heap.size + 1, 0, none⟩), .pointer (some ⟨w.heap.size, 0, none⟩), .pointer (some ⟨w.heap.size + 1 + 1, 0, none⟩), .pointer (some ⟨w.heap.size + 1 + 1 + 1, 0, none⟩)]] 125)).cell? ⟨w.heap.size + 1 + 1 + 1, 0, none⟩ = some (.func (.func 75) #[] #[.pointer (some ⟨w.heap.size + 1, 0, none⟩), .pointer (some ⟨w.heap.size, 0, none⟩), .pointer (some ⟨w.heap.size + 1 + 1, 0, none⟩), .pointer (some ⟨w.heap.size + 1 + 1 + 1, 0, none⟩)]) := by go_simp
  have hsz : ((((w.alloc (.cells #[.pointer (some ⟨p, 0, none⟩)] 90)).alloc (.cells #[.int .i64 (many : Int)] 3)).alloc (.cells #[.slice none 0 0] 66)).alloc (.cells #[.func (.func 75) #[] #[.pointer (some ⟨w.heap.size + 1, 0, none⟩), .pointer (some ⟨w.heap.size, 0, none⟩), .pointer (some ⟨w.heap.size + 1 + 1, 0, none⟩), .pointer (some ⟨w.heap.size + 1 + 1 + 1, 0, none⟩)]] 125)).heap.size = w.heap.size + 1 + 1 + 1 + 1 := by simp
  generalize ((((w.alloc (.cells #[.pointer (some ⟨p, 0, none⟩)] 90)).alloc (.cells #[.int .i64 (many : Int)] 3)).alloc (.cells #[.slice none 0 0] 66)).alloc (.cells #[.func (.func 75) #[] #[.pointer (some ⟨w.heap.size + 1, 0, none⟩), .pointer (some ⟨w.heap.size, 0, none⟩), .pointer (some ⟨w.heap.size + 1 + 1, 0, none⟩), .pointer (some ⟨w.heap.size + 1 + 1 + 1, 0, none⟩)]] 125)) = W0 at *
  have hk : Ctx.Ok ⟨B, p, b, w.heap.size + 1, w.heap.size, w.heap.size + 1 + 1, w.heap.size + 1 + 1 + 1, m, c, many, w.heap.size + 1 + 1 + 1 + 1, A, ws⟩ :=
    ⟨⟨by dsimp only; omega, by dsimp only; omega, by dsimp only; omega, by dsimp only; omega, by dsimp only; omega, by dsimp only; omega⟩, ⟨hb, by dsimp only; omega, by dsimp only; omega⟩,
      ⟨by dsimp only; omega, by dsimp only; omega, by dsimp only; omega, by dsimp only; omega, by dsimp only; omega⟩, ⟨Ne.symm hpb, by dsimp only; omega, by dsimp only; omega, by dsimp only; omega⟩, hl9, hok, hm⟩
  have F : Fst ⟨B, p, b, w.heap.size + 1, w.heap.size, w.heap.size + 1 + 1, w.heap.size + 1 + 1 + 1, m, c, many, w.heap.size + 1 + 1 + 1 + 1, A, ws⟩ W0 (.slice none 0 0) (.slice none 0 0) [] [] [] n :=
    ⟨by dsimp only; omega, k2, k1, k3, k4, hW.step hb0 hB, World.ownsRow_nil _ _ _ _, Rws.nil _ _ _, .inl rfl, fun u hu => by cases hu⟩
  refine (from_c hk 4 0 rfl W0 _ _ [] [] [] n (fun _ => false) F (by simp) (by simp [costF]) hn).mono ?_
  rintro e w' ⟨hx, -, v', nw, n', F', hn', hC, hv, hnw⟩
  rw [List.nil_append, List.nil_append] at F'
  obtain ⟨Ar, cr, rfl⟩ := ownsRow_form F'.rws.1
  refine ⟨hx, Ar, cr, nw, n', F'.cq, F'.rws.lower (by dsimp only; omega), hn', F'.wat, ?_⟩
  refine ((Chg.ofBelow hb0 (fun i => i = b)).trans hC fun i hi h => ?_).grown fun i _ h => h
  rcases h with h | h | h | h
  · exact h
  · dsimp only at h; omega
  · cases h
  · cases h

set_option maxRecDepth 100000 in
set_option maxHeartbeats 8000000 in
theorem lists_c {B : Nat} (p b n c m many : Nat) (A : Option Addr) (ws : List Wd) (w : World) (hB : B ≤ w.heap.size) (hp : p < w.heap.size) (hb : B ≤ b) (hW : Wat B w p b n (m : Int) A c ws)
    (hl9 : ws.length ≤ 1000000) (hok : ∀ k, k < ws.length → wordB (m : Int) (wx ws k) = true) (hm : m ≤ 5) (hn : n + 3125 ≤ 1000000) (hmany : many ≤ 4) :
    Calls Try.prog 62 #[.pointer (some ⟨p, 0, none⟩), .int .i64 (many : Int)] w (LPost w B p b n m A c ws (lstM (explB (m : Int) ws) many)) := by
  have HS := Lib.hid (lists_start p b n c m many A ws w hB hp hb hW hl9 hok hm hn hmany)
  clear hW hok
  generalize lstM (explB (m : Int) ws) many = rs at *
  go_enter Try.func62, Try.ntmps62
  go_wp2_with fail
  refine HS.out.mono ?_
  rintro e w1 ⟨⟨x, rfl⟩, Ar, cr, vs, n', hq, hR, hn', hW, hg⟩
  have q1 : w1.cell? ⟨w.heap.size + 1 + 1, 0, none⟩ = some (.slice Ar rs.length cr) := by simp [World.cell?, hq]
  have q2 : w1.frozen? ⟨w.heap.size + 1 + 1, 0, none⟩ = false := by simp [World.frozen?, hq]
  have q3 : w1.setCell ⟨w.heap.size + 1 + 1, 0, none⟩ (.slice Ar rs.length cr) = w1 := set_same hq rfl
  have HR := Lib.hid hR
  have HWt := Lib.hid hW
  have HG := Lib.hid hg
  clear hR hW hg hq
  go_wp2_with fail
  exact bodyPost_ret (v := .slice Ar rs.length cr) (by simp [results, Try.results62, go_sem, q1]) rfl ⟨Ar, cr, vs, n', rfl, HR.out, hn', HWt.out, HG.out⟩
end Go.Proofs.Ytadjkinpimmhkaa
