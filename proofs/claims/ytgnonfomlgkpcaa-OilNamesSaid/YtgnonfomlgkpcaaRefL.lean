/-
  The reference's Lasts.
-/
import Derived.Test.YtgnonfomlgkpcaaRefP
namespace Go.Proofs.Ytgnonfomlgkpcaa
open Go.RowKit

/-- An own list of one and the same list. -/
def Reps (base : Nat) (w : World) (v u : Value) (k : Nat) : Prop := w.ownsRow base 45 1 v k (List.replicate k u)

theorem rx_rep (k j : Nat) (x : List Int) (h : j < k) : rx (List.replicate k x) j = x := by rw [rx_lt (by simpa using h)]; simp

theorem Reps.grd {base : Nat} {w : World} {v : Value} {A : Option Addr} {x : List Int} {c k : Nat} (h : Reps base w v (.slice A x.length c) k) (hc : x.length ≤ c ∧ c ≤ 9223372036854775807) (hx : Ints w.heap.size w A x) : ∃ A' c', v = .slice A' k c' ∧ (k ≤ c' ∧ c' ≤ 9223372036854775807) ∧ Grd w.heap.size w A' (List.replicate k x) := by
  unfold Reps at h
  rcases h.2 with ⟨rfl, rfl⟩ | ⟨g, cap, cur, rfl, hb, hg, hn, hm, hs, ht⟩
  · exact ⟨none, 0, rfl, by omega, fun hp => by simp at hp⟩
  · refine ⟨_, cap, rfl, ⟨hn, by unfold maxLen at hm; omega⟩, fun hp => ⟨g, 0, rfl, (Array.getElem?_eq_some_iff.1 hg).1, fun j hj => ?_⟩⟩
    rw [List.length_replicate] at hj
    refine ⟨_, ?_, A, c, rfl, ?_⟩
    · have := h.cells (g := g) rfl j (.slice A x.length c) (by simp [hj])
      rw [add_eq] at this
      rw [rx_rep k j x hj]
      exact this
    · rw [rx_rep k j x hj]
      exact ⟨hc.1, hc.2, hx⟩

theorem rep_balls {xss : List (List Int)} {x nd : List Int} {lo hi ca : Int} (h : laneErr xss lo hi ca = 0) (hl : lineB xss x nd = true) {k : Nat} (hk : k ≤ 20) : ballsErr xss lo hi ca (List.replicate k x) = 0 := by
  obtain ⟨⟨hxl, hxb⟩, _, _⟩ := lineOk hl
  refine mk_ballsErr h (by simpa using hk) fun j hj => ?_
  rw [rx_rep k j x (by simpa using hj)]
  exact ⟨hxl, hxb⟩

/-- How many balls from the k-th on, m at most, a line does, by the reference. -/
noncomputable def lastsRef (xss : List (List Int)) (x nd : List Int) (lo hi ca : Int) : Nat → Nat → Nat
  | _, 0 => 0
  | k, m + 1 => if refPlayB xss (List.replicate k x) x nd lo hi ca then lastsRef xss x nd lo hi ca (k + 1) m + 1 else 0

def lenV : Value → Nat
  | .slice _ n _ => n
  | _ => 0

set_option maxRecDepth 100000 in
set_option maxHeartbeats 8000000 in
theorem refLasts_c (A A' An : Option Addr) (xss : List (List Int)) (x nd : List Int) (c c' cn : Nat) (lo hi ca : Int) (w : World) (hr : Grd w.heap.size w A xss) (hx : Ints w.heap.size w A' x) (hn : Ints w.heap.size w An nd) (hc' : x.length ≤ c' ∧ c' ≤ 9223372036854775807) (h : laneErr xss lo hi ca = 0) (hl : lineB xss x nd = true) :
    Calls Try.prog 39 #[.agg #[.slice A xss.length c, .int .i64 lo, .int .i64 hi, .int .i64 ca], .agg #[.slice A' x.length c', .slice An nd.length cn]] w (Ans w (.int .i64 (lastsRef xss x nd lo hi ca 0 20))) := by
  have hb0 : Below w.heap.size w ((w.alloc (.cells #[.slice A xss.length c, .int .i64 lo, .int .i64 hi, .int .i64 ca] 26)).alloc (.cells #[.slice A' x.length c', .slice An nd.length cn] 55)) := ((Below.refl _ _).alloc (Nat.le_refl _) _).alloc (by simp) _
  have k0 : ((w.alloc (.cells #[.slice A xss.length c, .int .i64 lo, .int .i64 hi, .int .i64 ca] 26)).alloc (.cells #[.slice A' x.length c', .slice An nd.length cn] 55)).cell? ⟨w.heap.size, 0, none⟩ = some (.slice A xss.length c) := by go_simp
  have k1 : ((w.alloc (.cells #[.slice A xss.length c, .int .i64 lo, .int .i64 hi, .int .i64 ca] 26)).alloc (.cells #[.slice A' x.length c', .slice An nd.length cn] 55)).cell? ⟨w.heap.size, 1, none⟩ = some (.int .i64 lo) := by go_simp
  have k2 : ((w.alloc (.cells #[.slice A xss.length c, .int .i64 lo, .int .i64 hi, .int .i64 ca] 26)).alloc (.cells #[.slice A' x.length c', .slice An nd.length cn] 55)).cell? ⟨w.heap.size, 2, none⟩ = some (.int .i64 hi) := by go_simp
  have k3 : ((w.alloc (.cells #[.slice A xss.length c, .int .i64 lo, .int .i64 hi, .int .i64 ca] 26)).alloc (.cells #[.slice A' x.length c', .slice An nd.length cn] 55)).cell? ⟨w.heap.size, 3, none⟩ = some (.int .i64 ca) := by go_simp
  have j0 : ((w.alloc (.cells #[.slice A xss.length c, .int .i64 lo, .int .i64 hi, .int .i64 ca] 26)).alloc (.cells #[.slice A' x.length c', .slice An nd.length cn] 55)).cell? ⟨w.heap.size + 1, 0, none⟩ = some (.slice A' x.length c') := by go_simp
  have j1 : ((w.alloc (.cells #[.slice A xss.length c, .int .i64 lo, .int .i64 hi, .int .i64 ca] 26)).alloc (.cells #[.slice A' x.length c', .slice An nd.length cn] 55)).cell? ⟨w.heap.size + 1, 1, none⟩ = some (.slice An nd.length cn) := by go_simp
  have HX := Lib.hid (hr.step hb0)
  have HI := Lib.hid (hx.step hb0)
  have HN := Lib.hid (hn.step hb0)
  have HB := Lib.hid hb0
  have HE := Lib.hid h
  have HL := Lib.hid hl
  clear hb0 hx hn hr h hl
  obtain ⟨i1, hi', hy0, hy1, hy2⟩ := info_parts infoInts
  go_enter Try.func39, Try.ntmps39
  go_wp2_with fail
  generalize ((w.alloc (.cells #[.slice A xss.length c, .int .i64 lo, .int .i64 hi, .int .i64 ca] 26)).alloc (.cells #[.slice A' x.length c', .slice An nd.length cn] 55)) = W0 at k0 k1 k2 k3 j0 j1 HX HI HN HB ⊢
  go_loopw [5] (fun v wr => ∃ (k : Nat) (Av : Option Addr) (cv : Nat), v = .slice Av k cv ∧ k ≤ 20 ∧ Reps W0.heap.size wr (.slice Av k cv) (.slice A' x.length c') k ∧ Below W0.heap.size W0 wr ∧ lastsRef xss x nd lo hi ca 0 20 = k + lastsRef xss x nd lo hi ca k (20 - k)) (fun v _ => 20 - lenV v)
  case atStart => exact ⟨0, none, 0, rfl, by omega, World.ownsRow_nil _ _ _ _, Below.refl _ _, by simp⟩
  case round =>
    obtain ⟨k, Av, cv, rfl, hk, hO, hb, hls⟩ := hrel
    have p0 := cell_of_ans hb k0
    have p1 := cell_of_ans hb k1
    have p2 := cell_of_ans hb k2
    have p3 := cell_of_ans hb k3
    have q0 := cell_of_ans hb j0
    have q1 := cell_of_ans hb j1
    have HXr := Lib.hid (HX.out.step hb)
    have HIr := Lib.hid (HI.out.step hb)
    have HNr := Lib.hid (HN.out.step hb)
    have HBB := Lib.hid hb
    have HLS := Lib.hid hls
    have HO := Lib.hid hO
    have hz := hb.size
    clear hb hls hO
    by_cases h1 : k < 20
    · obtain ⟨Ag, cg, eg, lg, hg⟩ := HO.out.grd hc' HIr.out
      injection eg with e1 e2 e3
      subst e1 e3
      have HG := Lib.hid hg
      have HBE := Lib.hid (rep_balls (k := k) HE.out HL.out (by omega))
      have HLen : Hid ((List.replicate k x).length = k) := by show _ = _; simp
      clear hg e2
      have h20 : (k : Int) < 20 := by omega
      have H38 := Lib.hid (refPlayable_c A Av A' An xss (List.replicate k x) x nd c cv c' cn lo hi ca wr HXr.out HG.out HIr.out HNr.out HBE.out HL.out)
      rw [HLen.out] at H38
      cases hpl : refPlayB xss (List.replicate k x) x nd lo hi ca
      · have HR : Hid (lastsRef xss x nd lo hi ca 0 20 = k) := by
          show _ = _
          rw [HLS.out, show 20 - k = (19 - k) + 1 by omega, lastsRef, hpl]
          simp
        have HPL := Lib.hid hpl
        clear hpl
        go_wp2_with fail
        refine H38.out.mono ?_
        rw [HPL.out]
        rintro e w7 ⟨rfl, hb7⟩
        go_wp2_with fail
        go_ret
        exact ⟨ret_int (by rw [HR.out]), (HB.out.trans (HBB.out.mono HB.out.size)).trans (hb7.mono (Nat.le_trans HB.out.size hz))⟩
      · have HR : Hid (lastsRef xss x nd lo hi ca 0 20 = (k + 1 : Nat) + lastsRef xss x nd lo hi ca (k + 1) (20 - (k + 1))) := by
          show _ = _
          rw [HLS.out, show 20 - k = (20 - (k + 1)) + 1 by omega, lastsRef, hpl]
          simp
          omega
        have HPL := Lib.hid hpl
        clear hpl
        go_wp2_with fail
        refine H38.out.mono ?_
        rw [HPL.out]
        rintro e w7 ⟨rfl, hb7⟩
        replace q0 := cell_of_ans hb7 q0
        have HO7 : Hid (w7.ownsRow W0.heap.size 45 1 (.slice Av k cv) k (List.replicate k (.slice A' x.length c'))) := World.ownsRow.kept HO.out (only_below hb7 none) (own_ne _)
        have HB7 := Lib.hid hb7
        have hz7 := hb7.size
        clear hb7
        have hon : ∀ v ∈ [Value.slice A' x.length c'], v.oneCell' = true := by simp [Value.oneCell']
        have HON := Lib.hid hon
        clear hon
        go_wp2_with (at_builtin; refine wpList_append_src rfl (.tmp 15) (.tmp 18) 22 rfl W0.heap.size 45 i1 (.slice none 0 0) 1 24 Try.underlying22 hi' hy0 hy1 hy2 rfl (by decide) (.slice Av k cv) k _ rfl (HO7.out.alloc _) (some ⟨w7.heap.size, 0, none⟩) 1 1 [.slice A' x.length c'] rfl (src_one w7 _) HON.out (by unfold maxLen; omega) (by omega) (by simp; omega) ?_; intro v' w8 hown hgrow _hob; obtain ⟨A8, c8, rfl⟩ := ownsRow_form hown; have HO8 := Lib.hid hown; have HB8 := Lib.hid (own_below HO7.out (by omega) hgrow); clear hown hgrow _hob)
        go_roundw
        case rel => exact ⟨k + 1, A8, c8, rfl, by omega, by
            have := HO8.out
            show World.ownsRow _ _ _ _ _ _ _
            rw [List.replicate_succ']
            exact this, (HBB.out.trans (HB7.out.mono hz)).trans HB8.out, HR.out⟩
        case measure => simp [lenV]; omega
    · obtain rfl : k = 20 := by omega
      go_wp2_with fail
      go_ret
      exact ⟨ret_int (by rw [HLS.out]; simp [lastsRef]), HB.out.trans (HBB.out.mono HB.out.size)⟩
end Go.Proofs.Ytgnonfomlgkpcaa
