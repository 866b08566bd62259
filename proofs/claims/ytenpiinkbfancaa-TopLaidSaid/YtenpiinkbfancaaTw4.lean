/-
  TopLaid: contracts of oil in the forms that its walk uses; what holds of each cell.
-/
import Derived.Test.YtenpiinkbfancaaTw3
namespace Go.Proofs.Ytenpiinkbfancaa.Pa
open Go.RowKit
set_option linter.unusedSimpArgs false
set_option linter.unusedVariables false

theorem grd_addr {B : Nat} {w : World} {A : Option Addr} {xss : List (List Int)} (h : Grd B w A xss) (hp : 0 < xss.length) : ∃ b off, A = some ⟨b, off, none⟩ := by
  obtain ⟨b, off, hA, -⟩ := h hp
  exact ⟨b, off, hA⟩
theorem grd_at2 {B : Nat} {w : World} {b off k : Nat} {xss : List (List Int)} (h : Grd B w (some ⟨b, off, none⟩) xss) (hk : k < xss.length) : ∃ A' c', w.cell? ⟨b, off + k, none⟩ = some (.slice A' (rx xss k).length c') ∧ (rx xss k).length ≤ c' ∧ c' ≤ 9223372036854775807 ∧ Ints B w A' (rx xss k) := by
  obtain ⟨b', off', A', c', hA, hb, hc, h1, h2, h3⟩ := h.at_ hk
  cases hA
  exact ⟨A', c', hc, h1, h2, h3⟩
section
variable {xss bss wss : List (List Int)} {lo hi ca : Int}
theorem o36 (A : Option Addr) (c n : Nat) (w : World) (hx : Grd w.heap.size w A xss) (hle : Ol.laneErr xss lo hi ca = 0) (hn : xss.length = n) :
    Calls Try.prog 36 #[.agg #[.slice A n c, .int .i64 lo, .int .i64 hi, .int .i64 ca]] w fun e w' => ∃ A2 c2, e = .returned (.agg #[.slice A2 n c2, .int .i64 lo, .int .i64 hi, .int .i64 ca]) ∧ (n ≤ c2 ∧ c2 ≤ 9223372036854775807) ∧ Grd w'.heap.size w' A2 xss ∧ Below w.heap.size w w' := by
  subst hn
  exact Ol.lane_c A xss c lo hi ca w (Nat.le_refl _) hx (Ol.small_lane hle).1 (Ol.small_lane hle).2
theorem o37 (A : Option Addr) (c : Nat) (w : World) (hx : Grd w.heap.size w A bss) (hle : Ol.ballsErr xss lo hi ca bss = 0) :
    Calls Try.prog 37 #[.slice A bss.length c] w fun e w' => ∃ A2 c2, e = .returned (.slice A2 bss.length c2) ∧ (bss.length ≤ c2 ∧ c2 ≤ 9223372036854775807) ∧ Grd w'.heap.size w' A2 bss ∧ Below w.heap.size w w' :=
  Ol.copied_new_c A bss c w hx (Ol.small_balls hle).1 (Ol.small_balls hle).2
theorem o38 (A Ab Aw : Option Addr) (n m c cb cw : Nat) (ws : List Int) (w : World) (hws : W16 w.heap.size w Aw ws) (hcw : ws.length ≤ cw ∧ cw ≤ 9223372036854775807) (hn : n ≤ 1000) (hm : m ≤ 1000) (hl : 0 ≤ lo ∧ lo ≤ hi ∧ hi ≤ 9) :
    Calls Try.prog 38 #[.agg #[.slice A n c, .int .i64 lo, .int .i64 hi, .int .i64 ca], .slice Ab m cb, .slice Aw ws.length cw] w fun e w' => ∃ A2 c2, e = .returned (.slice A2 (Ol.pickedX n m lo hi ws).length c2) ∧ ((Ol.pickedX n m lo hi ws).length ≤ c2 ∧ c2 ≤ 9223372036854775807) ∧ Grd w'.heap.size w' A2 (Ol.pickedX n m lo hi ws) ∧ Below w.heap.size w w' :=
  Ol.picked_c A Ab Aw n m c cb cw ws lo hi ca w hws hcw hn hm hl.1 hl.2.1 hl.2.2
theorem o35 (A Ab Aw : Option Addr) (c cb cw n : Nat) (w : World) (hx : Grd w.heap.size w A xss) (hb : Grd w.heap.size w Ab bss) (hw : Grd w.heap.size w Aw wss) (hc : n ≤ c ∧ c ≤ 9223372036854775807) (hcb : bss.length ≤ cb ∧ cb ≤ 9223372036854775807) (hcw : wss.length ≤ cw ∧ cw ≤ 9223372036854775807) (hn : xss.length = n) (he : Ol.ballsErr xss lo hi ca bss = 0) (hwe : Ol.wearsB n lo hi bss wss = true) :
    Calls Try.prog 35 #[.agg #[.slice A n c, .int .i64 lo, .int .i64 hi, .int .i64 ca], .slice Ab bss.length cb, .slice Aw wss.length cw] w fun e w' => ∃ A2 c2, e = .returned (.tuple #[.slice A2 n c2, .int .i64 0]) ∧ Grd w'.heap.size w' A2 (Ol.playX xss bss wss ca) ∧ Below w.heap.size w w' := by
  subst hn
  refine (Ol.play_ok_c A Ab Aw xss bss wss c cb cw lo hi ca w hx hb hw hc hcb hcw (mk_playErr he hwe)).mono ?_
  rintro e w' ⟨A2, c2, rfl, hc2, hg, hb2⟩
  rw [playX_len] at *
  exact ⟨A2, c2, rfl, hg, hb2⟩
theorem o39 (A Ab : Option Addr) (c cb n : Nat) (w : World) (hx : Grd w.heap.size w A xss) (hb : Grd w.heap.size w Ab bss) (hc : n ≤ c ∧ c ≤ 9223372036854775807) (hcb : bss.length ≤ cb ∧ cb ≤ 9223372036854775807) (hn : xss.length = n) (he : Ol.ballsErr xss lo hi ca bss = 0) :
    Calls Try.prog 39 #[.agg #[.slice A n c, .int .i64 lo, .int .i64 hi, .int .i64 ca], .slice Ab bss.length cb] w fun e w' => ∃ A2 c2 A3 c3, e = .returned (.tuple #[.slice A2 n c2, .slice A3 n c3, .int .i64 0]) ∧ Grd w'.heap.size w' A2 (Ol.lowX xss bss lo hi ca) ∧ Grd w'.heap.size w' A3 (Ol.highX xss bss lo hi ca) ∧ Below w.heap.size w w' := by
  subst hn
  refine (Ol.bounds_ok_c A Ab xss bss c cb lo hi ca w hx hb hc hcb he).mono ?_
  rintro e w' ⟨A2, c2, A3, c3, rfl, hc2, hc3, hg2, hg3, hb2⟩
  rw [lowX_len, highX_len] at *
  exact ⟨A2, c2, A3, c3, rfl, hg2, hg3, hb2⟩
end
/-- What holds of the patterns. -/
structure LaidF (l : Ln) (s : Int × Int) (nb nr : Nat) (X P L D : List (List Int)) : Prop where
  xl : X.length = nr
  pl : P.length = nr
  ll : L.length = nr
  dl : D.length = nr
  xr : ∀ r, r < nr → (rx X r).length = nb
  pr : ∀ r, r < nr → (rx P r).length = nb
  lr : ∀ r, r < nr → (rx L r).length = nb
  dr : ∀ r, r < nr → (rx D r).length = nb
  bd : ∀ r x, r < nr → x < nb → ix (rx L r) x ≤ ix (rx P r) x ∧ ix (rx P r) x ≤ ix (rx D r) x
  no : ∀ r x, r < nr → x < nb → (∀ v, Can l s r v → v.1 - 1 ≠ (x : Int)) → ix (rx P r) x = ix (rx X r) x
theorem laid_all {l : Ln} {s : Int × Int} {os : List Int} {bss wss : List (List Int)} {nb nr : Nat} {lo hi ca : Int} (hg : AllGood l s bss) (hnb : (nb : Int) = l.nb) (hnr : (nr : Int) = l.nr) (h0 : 0 < nr) (he : Ol.ballsErr (freshX os nb nr) lo hi ca bss = 0) (hw : Ol.wearsB nr lo hi bss wss = true) :
    LaidF l s nb nr (freshX os nb nr) (Ol.playX (freshX os nb nr) bss wss ca) (Ol.lowX (freshX os nb nr) bss lo hi ca) (Ol.highX (freshX os nb nr) bss lo hi ca) := by
  have hX := freshX_len os nb nr
  have hr0 : (rx (freshX os nb nr) 0).length = nb := by rw [freshX_row _ _ h0, freshR_len]
  have hr : ∀ r, r < nr → (rx (freshX os nb nr) r).length = nb := fun r h => by rw [freshX_row _ _ h, freshR_len]
  refine ⟨hX, by rw [playX_len, hX], by rw [lowX_len, hX], by rw [highX_len, hX], hr, fun r h => by rw [playX_row (by omega), hr0], fun r h => by rw [lowX_row (by omega), hr0], fun r h => by rw [highX_row (by omega), hr0], fun r x h1 h2 => ?_, fun r x h1 h2 h3 => ?_⟩
  · have := Ol.truth_cell he (by rw [hX]; exact hw) (r := r) (b := x) (by omega) (by omega)
    exact ⟨this.1, this.2.1⟩
  · rw [laid_cell hg hnb hnr he h1 h2 h3, freshX_row _ _ h1, freshR_at _ h2]
end Go.Proofs.Ytenpiinkbfancaa.Pa
