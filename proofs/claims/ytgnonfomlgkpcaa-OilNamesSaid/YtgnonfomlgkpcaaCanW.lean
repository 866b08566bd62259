/-
  The reference's Can: the walk.
-/
import Derived.Test.YtgnonfomlgkpcaaCan
namespace Go.Proofs.Ytgnonfomlgkpcaa
open Go.RowKit

def CanR (w : World) (A : Option Addr) (n c : Nat) (lo hi ca : Int) (f : Nat → Bool) (wr : World) : Prop :=
  Below w.heap.size w wr ∧ wr.cell? ⟨w.heap.size, 0, none⟩ = some (.slice A n c) ∧ wr.cell? ⟨w.heap.size, 1, none⟩ = some (.int .i64 lo) ∧ wr.cell? ⟨w.heap.size, 2, none⟩ = some (.int .i64 hi) ∧ wr.cell? ⟨w.heap.size, 3, none⟩ = some (.int .i64 ca) ∧
    Bits wr (w.heap.size + 1) (fun _ => false) ∧ Bits wr (w.heap.size + 1 + 1) f
section
variable {w wr wr' : World} {A : Option Addr} {n c : Nat} {lo hi ca : Int} {f : Nat → Bool}
theorem CanR.step (h : CanR w A n c lo hi ca f wr) (hb : Below wr.heap.size wr wr') : CanR w A n c lo hi ca f wr' := by
  obtain ⟨h1, h2, h3, h4, h5, h6, h7⟩ := h
  exact ⟨h1.trans (hb.mono h1.size), cell_of_ans hb h2, cell_of_ans hb h3, cell_of_ans hb h4, cell_of_ans hb h5, h6.step hb, h7.step hb⟩
theorem CanR.far (h : CanR w A n c lo hi ca f wr) {p : Addr} (hp : w.heap.size + 3 ≤ p.block) (u : Value) : CanR w A n c lo hi ca f (wr.setCell p u) := by
  obtain ⟨h1, h2, h3, h4, h5, h6, h7⟩ := h
  have k : ∀ {i : Nat} {v : Value}, wr.cell? ⟨w.heap.size, i, none⟩ = some v → (wr.setCell p u).cell? ⟨w.heap.size, i, none⟩ = some v := fun hv => cell_set_keep hv (by dsimp only; omega)
  exact ⟨h1.setCell (by omega) _, k h2, k h3, k h4, k h5, h6.far (by omega) u, h7.far (by omega) u⟩
theorem CanR.row (h : CanR w A n c lo hi ca f wr) (g : Nat → Bool) : CanR w A n c lo hi ca g (wr.setRow (w.heap.size + 1 + 1) (bcells g).toArray) := by
  obtain ⟨h1, h2, h3, h4, h5, h6, h7⟩ := h
  have k : ∀ {i : Nat} {v : Value}, wr.cell? ⟨w.heap.size, i, none⟩ = some v → (wr.setRow (w.heap.size + 1 + 1) (bcells g).toArray).cell? ⟨w.heap.size, i, none⟩ = some v := fun {i v} hv => (cell_setRow_other wr (w.heap.size + 1 + 1) _ ⟨w.heap.size, i, none⟩ (by dsimp only; omega)).trans hv
  exact ⟨below_setRow h1 (by omega), k h2, k h3, k h4, k h5, h6.rowFar (by omega) _, h7.row g⟩
theorem CanR.size (h : CanR w A n c lo hi ca f wr) : w.heap.size + 3 ≤ wr.heap.size := by
  have := h.2.2.2.2.2.2.lt
  omega
end

/-- The least and the greatest number that can be. -/
def Bnd (f : Nat → Bool) (a b : Nat) : Prop := f a = true ∧ f b = true ∧ ∀ m, m ≤ 100 → f m = true → a ≤ m ∧ m ≤ b
def Nxt (g : Nat → Bool) (a b : Nat) : Prop := ∀ m, m ≤ 100 → g m = true → a ≤ m ∧ m ≤ b
theorem Nxt.set {g : Nat → Bool} {a b v : Nat} (h : Nxt g a b) (h1 : a ≤ v) (h2 : v ≤ b) : Nxt (setB g v) a b := fun m hm hg => by
  simp only [setB] at hg
  by_cases e : m = v
  · subst e; exact ⟨h1, h2⟩
  · rw [if_neg e] at hg; exact h m hm hg
theorem setB_self (g : Nat → Bool) (v : Nat) : setB g v v = true := by simp [setB]
theorem setB_true {g : Nat → Bool} {v m : Nat} (h : g m = true) : setB g v m = true := by simp only [setB]; split <;> simp [h]

def CanPost (w : World) (a b : Nat) (e : Ending) (w' : World) : Prop := ∃ f, e = .returned (.agg (bcells f).toArray) ∧ Bnd f a b ∧ Below w.heap.size w w'
noncomputable def aN (ca lo hi : Int) (bss : List (List Int)) (r b : Nat) (x : Int) (k : Nat) : Nat := (cellO ca bss r b (fun _ => if 0 < r then lo else 0) (fun _ => hi) x k).toNat

theorem aN_eq {ca lo hi x : Int} (bss : List (List Int)) (r b k : Nat) (hh : 0 ≤ hi) (h0 : 0 ≤ x) (h1 : x ≤ 100) : (aN ca lo hi bss r b x k : Int) = cellO ca bss r b (fun _ => if 0 < r then lo else 0) (fun _ => hi) x k ∧ aN ca lo hi bss r b x k ≤ 100 := by
  have := cellO_bd ca bss r b (bf := fun _ => if 0 < r then lo else 0) (ow := fun _ => hi) h0 h1 k (fun _ _ => hh)
  unfold aN
  omega
theorem aN_hit {ca lo hi x : Int} {bss : List (List Int)} {r b k : Nat} (hh : 0 ≤ hi) (h0 : 0 ≤ x) (h1 : x ≤ 100) (e : ix (rx bss k) r = (b : Int)) : (aN ca lo hi bss r b x (k + 1) : Int) = wornF ca (aN ca lo hi bss r b x k) (if 0 < r then lo else 0) hi := by
  rw [(aN_eq bss r b (k + 1) hh h0 h1).1, (aN_eq bss r b k hh h0 h1).1]
  simp only [cellO, if_pos e]
theorem aN_miss {ca lo hi x : Int} {bss : List (List Int)} {r b k : Nat} (e : ix (rx bss k) r ≠ (b : Int)) : aN ca lo hi bss r b x (k + 1) = aN ca lo hi bss r b x k := by
  simp only [aN, cellO, if_neg e]

set_option maxRecDepth 100000 in
set_option maxHeartbeats 8000000 in
theorem can_c (A Ab : Option Addr) (xss bss : List (List Int)) (c cb : Nat) (lo hi ca : Int) (r b : Nat) (w : World) (hx : Grd w.heap.size w A xss) (hbs : Grd w.heap.size w Ab bss) (h : ballsErr xss lo hi ca bss = 0) (hr : r < xss.length) (hb : b < (rx xss 0).length) :
    Calls Try.prog 71 #[.agg #[.slice A xss.length c, .int .i64 lo, .int .i64 hi, .int .i64 ca], .slice Ab bss.length cb, .int .i64 (r : Int), .int .i64 (b : Int)] w (CanPost w (aN ca lo hi bss r b (ix (rx xss r) b) bss.length) (aN ca hi lo bss r b (ix (rx xss r) b) bss.length)) := by
  obtain ⟨hle, h20, hbx⟩ := ballsOk h
  obtain ⟨h0, h8, hxr, hxv, hlo, hlh, hhi, hca, hca1⟩ := laneOk hle
  have hbr : b < (rx xss r).length := by rw [(hxr r hr).2.1]; exact hb
  obtain ⟨v0, v1⟩ := hxv r hr b hbr
  have HBX : Hid (∀ k, k < bss.length → (rx bss k).length = xss.length) := fun k hk => (hbx k hk).1
  clear hxv hxr hbx hle h
  have HC : Hid (CanR w A xss.length c lo hi ca (fun _ => false) (((w.alloc (.cells #[.slice A xss.length c, .int .i64 lo, .int .i64 hi, .int .i64 ca] 26)).alloc (.cells Try.zeroCells105 105)).alloc (.cells Try.zeroCells105 105))) := by
    have e1 := heap_alloc_new ((w.alloc (.cells #[.slice A xss.length c, .int .i64 lo, .int .i64 hi, .int .i64 ca] 26)).alloc (.cells Try.zeroCells105 105)) (.cells Try.zeroCells105 105)
    have e2 := heap_alloc2_new (w.alloc (.cells #[.slice A xss.length c, .int .i64 lo, .int .i64 hi, .int .i64 ca] 26)) (.cells Try.zeroCells105 105) (.cells Try.zeroCells105 105)
    refine ⟨(((Below.refl _ _).alloc (Nat.le_refl _) _).alloc (by simp) _).alloc (by simp; omega) _, by go_simp, by go_simp, by go_simp, by go_simp, ?_, ?_⟩
    · unfold Bits
      rw [← zero105]
      have e3 := heap_alloc_old ((w.alloc (.cells #[.slice A xss.length c, .int .i64 lo, .int .i64 hi, .int .i64 ca] 26)).alloc (.cells Try.zeroCells105 105)) (.cells Try.zeroCells105 105) (show w.heap.size + 1 < _ by simp)
      rw [e3]
      have e4 := heap_alloc_new (w.alloc (.cells #[.slice A xss.length c, .int .i64 lo, .int .i64 hi, .int .i64 ca] 26)) (.cells Try.zeroCells105 105)
      rwa [World.size_alloc] at e4
    · unfold Bits
      rw [← zero105]
      rwa [World.size_alloc] at e2
  obtain ⟨bx, ox, rfl⟩ := hx.addr h0
  obtain ⟨Ar, cr, er, lr, mr, ir⟩ := (hx.below HC.out.1).at2 hr
  obtain ⟨b2, o2, rfl, _, e2⟩ := ir.at_ hbr
  obtain ⟨xn, hxn⟩ : ∃ xn : Nat, ix (rx xss r) b = (xn : Int) := ⟨(ix (rx xss r) b).toNat, by omega⟩
  rw [hxn] at e2 v0 v1 ⊢
  clear ir hxn
  have HBs := Lib.hid hbs
  clear hx hbs
  have z1 := HC.out.2.2.2.2.2.2.cell (j := xn) (by omega)
  have z2 := HC.out.2.2.2.2.2.2.fz xn
  have z0 := HC.out.2.1
  have r1 : (r : Int) < (xss.length : Int) := by omega
  have r2 : (b : Int) < ((rx xss r).length : Int) := by omega
  have r3 : xn < 101 := by omega
  have r4 : (xn : Int) < 101 := by omega
  go_enter Try.func71, Try.ntmps71
  go_upto_region 2 with fail
  generalize (((w.alloc (.cells #[.slice (some ⟨bx, ox, none⟩) xss.length c, .int .i64 lo, .int .i64 hi, .int .i64 ca] 26)).alloc (.cells Try.zeroCells105 105)).alloc (.cells Try.zeroCells105 105)) = W0 at HC er e2 z0 z1 z2 ⊢
  go_wp2_with fail
  have HC1 : Hid (CanR w (some ⟨bx, ox, none⟩) xss.length c lo hi ca (setB (fun _ => false) xn) (W0.setCell ⟨w.heap.size + 1 + 1, xn, none⟩ (.bool true))) := by
    obtain ⟨h1, h2, h3, h4, h5, h6, h7⟩ := HC.out
    have k : ∀ {i : Nat} {v : Value}, W0.cell? ⟨w.heap.size, i, none⟩ = some v → (W0.setCell ⟨w.heap.size + 1 + 1, xn, none⟩ (.bool true)).cell? ⟨w.heap.size, i, none⟩ = some v := fun hv => cell_set_keep hv (by dsimp only; omega)
    exact ⟨h1.setCell (by dsimp only; omega) _, k h2, k h3, k h4, k h5, h6.far (by dsimp only; omega) _, h7.set xn⟩
  clear HC z0 z1 z2 er e2 r1 r2 r3 r4
  have HA : Hid (∀ k, aN ca lo hi bss r b xn k ≤ 100) := fun k => (aN_eq bss r b k (by omega) v0 v1).2
  have HB' : Hid (∀ k, aN ca hi lo bss r b xn k ≤ 100) := fun k => (aN_eq bss r b k (by omega) v0 v1).2
  go_loopw [10] (fun i wr => ∃ (k : Nat) (f : Nat → Bool), k ≤ bss.length ∧ i = .int .i64 k ∧ CanR w (some ⟨bx, ox, none⟩) xss.length c lo hi ca f wr ∧ Bnd f (aN ca lo hi bss r b xn k) (aN ca hi lo bss r b xn k)) (fun i _ => bss.length - (intOf i).toNat)
  case atStart =>
    refine ⟨0, _, by omega, rfl, HC1.out, ?_⟩
    have e1 : aN ca lo hi bss r b xn 0 = xn := by simp [aN, cellO]
    have e2 : aN ca hi lo bss r b xn 0 = xn := by simp [aN, cellO]
    rw [e1, e2]
    refine ⟨setB_self _ _, setB_self _ _, fun m _ hm => ?_⟩
    simp only [setB] at hm
    split at hm
    · omega
    · cases hm
  case round =>
    obtain ⟨k, f, hk, rfl, hC, hF⟩ := hrel
    clear HC1
    by_cases h1 : k < bss.length
    · obtain ⟨bb, ob, rfl⟩ := HBs.out.addr (by omega)
      obtain ⟨Ak, ck, ek, lk, mk, ik⟩ := (HBs.out.below hC.1).at2 h1
      obtain ⟨b4, o4, rfl, _, e4⟩ := ik.at_ (k := r) (by rw [HBX.out k h1]; exact hr)
      have q1 : (r : Int) < ((rx bss k).length : Int) := by rw [HBX.out k h1]; omega
      clear ik
      by_cases hit : ix (rx bss k) r = (b : Int)
      · have hit' : (ix (rx bss k) r != (b : Int)) = false := by simp [hit]
        have ea := aN_hit (ca := ca) (lo := lo) (hi := hi) (by omega) v0 v1 hit
        have eb := aN_hit (ca := ca) (lo := hi) (hi := lo) (by omega) v0 v1 hit
        have HEA := Lib.hid ea
        have HEB := Lib.hid eb
        clear ea eb hit
        have HK := Lib.hid hC
        have HFF := Lib.hid hF
        clear hC hF
        obtain ⟨wo, rfl⟩ : ∃ wo : World, wo = wr := ⟨_, rfl⟩
        go_wp2_with fail
        have HB1 : Hid (Below wo.heap.size wo (wo.alloc (.cells Try.zeroCells105 105))) := (Below.refl _ _).alloc (Nat.le_refl _) _
        have HN0 : Hid (Bits (wo.alloc (.cells Try.zeroCells105 105)) wo.heap.size (fun _ => false)) := by
          show Bits _ _ _
          unfold Bits
          rw [← zero105]
          exact heap_alloc_new wo _
        have HK1 := Lib.hid (HK.out.step HB1.out)
        have hsz := HK.out.size
        generalize eA1 : aN ca lo hi bss r b xn (k + 1) = a' at HEA
        generalize eB1 : aN ca hi lo bss r b xn (k + 1) = b' at HEB
        have EA := Lib.hid eA1
        have EB := Lib.hid eB1
        clear eA1 eB1
        have ha := HA.out k
        have hb' := HB'.out k
        generalize aN ca lo hi bss r b xn k = a at *
        generalize aN ca hi lo bss r b xn k = b0 at *
        clear ek e4 q1 hit'
        go_loopw [12] (fun i wr' => ∃ (n : Nat) (g : Nat → Bool), n ≤ 101 ∧ i = .int .i64 n ∧ CanR w (some ⟨bx, ox, none⟩) xss.length c lo hi ca f wr' ∧ Bits wr' wo.heap.size g ∧ Nxt g a' b' ∧ (a < n → g a' = true) ∧ (b0 < n → g b' = true)) (fun i _ => 101 - (intOf i).toNat)
        case atStart => exact ⟨0, _, by omega, rfl, HK1.out, HN0.out, (fun m _ hm => nomatch hm), (fun h => by omega), (fun h => by omega)⟩
        case round =>
          obtain ⟨n, g, hn, rfl, hC, hG, hX, hga, hgb⟩ := hrel
          clear HN0 HK1 HB1
          by_cases h2 : n < 101
          · have hn1 : (n : Int) ≤ 100 := by omega
            have t0 := hC.2.2.1
            have HCn := Lib.hid hC
            have HGn := Lib.hid hG
            have HXn := Lib.hid hX
            have HGA := Lib.hid hga
            have HGB := Lib.hid hgb
            clear hC hG hX hga hgb
            obtain ⟨wn, rfl⟩ : ∃ wn : World, wn = wr := ⟨_, rfl⟩
            go_wp2_with fail
            clear t0
            go_loopw [13] (fun i wr' => ∃ (o : Int) (g : Nat → Bool), lo ≤ o ∧ o ≤ hi + 1 ∧ i = .int .i64 o ∧ CanR w (some ⟨bx, ox, none⟩) xss.length c lo hi ca f wr' ∧ Bits wr' wo.heap.size g ∧ Nxt g a' b' ∧ (a < n → g a' = true) ∧ (b0 < n → g b' = true) ∧ (n = a → hi < o → g a' = true) ∧ (n = b0 → lo < o → g b' = true)) (fun i _ => (hi + 1 - intOf i).toNat)
            case atStart => exact ⟨lo, g, by omega, by omega, rfl, HCn.out, HGn.out, HXn.out, HGA.out, HGB.out, (fun _ h => by omega), (fun _ h => by omega)⟩
            case round =>
              obtain ⟨o, g, ho1, ho2, rfl, hC, hG, hX, hga, hgb, hoa, hob⟩ := hrel
              clear HCn HGn HXn HGA HGB
              have t1 := hC.2.2.2.1
              have t2 := hC.2.2.1
              have t3 := hC.2.2.2.2.2.2.cell (j := n) h2
              by_cases h3 : o ≤ hi
              · cases hfn : f n
                · rw [hfn] at t3
                  have HR : Hid (∀ m, m < n + 1 → (m = a ∨ m = b0) → m < n) := fun m hm he => by
                    by_cases e : m = n
                    · subst e
                      have := HFF.out.1
                      have := HFF.out.2.1
                      rcases he with rfl | rfl <;> simp_all
                    · omega
                  have HCo := Lib.hid hC
                  have HGo := Lib.hid hG
                  have HXo := Lib.hid hX
                  have HGA := Lib.hid hga
                  have HGB := Lib.hid hgb
                  clear hC hG hX hga hgb hoa hob hfn
                  go_wp2_with fail
                  go_roundw
                  case rel => exact ⟨n + 1, g, by omega, by go_num, HCo.out, HGo.out, HXo.out, (fun h => HGA.out (HR.out a h (.inl rfl))), (fun h => HGB.out (HR.out b0 h (.inr rfl)))⟩
                  case measure => simp [intOf]; omega
                · rw [hfn] at t3
                  have hnb := HFF.out.2.2 n (by omega) hfn
                  have HCo := Lib.hid hC
                  have HGo := Lib.hid hG
                  have HXo := Lib.hid hX
                  have HGA := Lib.hid hga
                  have HGB := Lib.hid hgb
                  have HOA := Lib.hid hoa
                  have HOB := Lib.hid hob
                  clear hC hG hX hga hgb hoa hob hfn
                  obtain ⟨wp, rfl⟩ : ∃ wp : World, wp = wr := ⟨_, rfl⟩
                  go_wp2_with fail
                  clear t1 t2 t3
                  go_loopw [14] (fun i wr' => ∃ (q : Int) (g : Nat → Bool), lo ≤ q ∧ q ≤ hi + 1 ∧ i = .int .i64 q ∧ CanR w (some ⟨bx, ox, none⟩) xss.length c lo hi ca f wr' ∧ Bits wr' wo.heap.size g ∧ Nxt g a' b' ∧ (a < n → g a' = true) ∧ (b0 < n → g b' = true) ∧ (n = a → hi < o → g a' = true) ∧ (n = b0 → lo < o → g b' = true) ∧ (n = a → o = hi → lo < q → g a' = true) ∧ (n = b0 → o = lo → hi < q → g b' = true)) (fun i _ => (hi + 1 - intOf i).toNat)
                  case atStart => exact ⟨lo, g, by omega, by omega, rfl, HCo.out, HGo.out, HXo.out, HGA.out, HGB.out, HOA.out, HOB.out, (fun _ _ h => by omega), (fun _ _ h => by omega)⟩
                  case round =>
                    obtain ⟨q, g, hq1, hq2, rfl, hC, hG, hX, hga, hgb, hoa, hob, hqa, hqb⟩ := hrel
                    clear HCo HGo HXo HGA HGB HOA HOB
                    have t0 := hC.2.1
                    have t1 := hC.2.2.1
                    have t2 := hC.2.2.2.1
                    have t3 := hC.2.2.2.2.1
                    have HCq := Lib.hid hC
                    have HGq := Lib.hid hG
                    have HXq := Lib.hid hX
                    have HGA := Lib.hid hga
                    have HGB := Lib.hid hgb
                    have HOA := Lib.hid hoa
                    have HOB := Lib.hid hob
                    have HQA := Lib.hid hqa
                    have HQB := Lib.hid hqb
                    clear hC hG hX hga hgb hoa hob hqa hqb
                    by_cases h4 : q ≤ hi
                    · obtain ⟨bf, hbf⟩ : ∃ bf : Int, bf = if 0 < r then q else 0 := ⟨_, rfl⟩
                      have hbf0 : 0 ≤ bf ∧ bf ≤ 9 := by subst hbf; split <;> omega
                      have hlv := wornF_lvl ca n bf o (by omega)
                      obtain ⟨v, hv⟩ : ∃ v : Nat, wornF ca n bf o = (v : Int) := ⟨(wornF ca n bf o).toNat, by omega⟩
                      have hv1 : a' ≤ v := by
                        have := wornF_mono (ca := ca) (x := a) (x' := n) (b := if 0 < r then lo else 0) (b' := bf) (o := hi) (o' := o) hca (by omega) (by subst hbf; split <;> omega) (by omega)
                        rw [← HEA.out, hv] at this
                        omega
                      have hv2 : v ≤ b' := by
                        have := wornF_mono (ca := ca) (x := n) (x' := b0) (b := bf) (b' := if 0 < r then hi else 0) (o := o) (o' := lo) hca (by omega) (by subst hbf; split <;> omega) (by omega)
                        rw [← HEB.out, hv] at this
                        omega
                      have HVA : Hid (n = a → o = hi → q = lo → v = a') := fun e1 e2 e3 => by
                        have := HEA.out
                        rw [← e1, ← e2, ← e3, ← hbf, hv] at this
                        omega
                      have HVB : Hid (n = b0 → o = lo → q = hi → v = b') := fun e1 e2 e3 => by
                        have := HEB.out
                        rw [← e1, ← e2, ← e3, ← hbf, hv] at this
                        omega
                      have HV := Lib.hid hv
                      have hv3 : v < 101 := by omega
                      have hv4 : (v : Int) < 101 := by omega
                      clear hv hlv
                      by_cases hr0 : r = 0
                      · obtain rfl : bf = 0 := by subst hbf; simp [hr0]
                        have hz : ((r : Int) == 0) = true := by simp [hr0]
                        clear hbf hr0
                        go_wp2_with fail
                        refine (worn_c _ lo hi ca n 0 o _ hca hca1 hbf0.1 hbf0.2 (by omega) (by omega) (by omega) (by omega)).mono ?_
                        rw [HV.out]
                        rintro e w7 ⟨rfl, hb7⟩
                        have s1 := (HGq.out.step hb7).cell hv3
                        have s2 := (HGq.out.step hb7).fz v
                        have HB7 := Lib.hid hb7
                        clear hb7
                        go_wp2_with fail
                        go_roundw
                        case rel => exact ⟨q + 1, setB g v, by omega, by omega, rfl, (HCq.out.step HB7.out).far (p := ⟨wo.heap.size, v, none⟩) hsz _, (HGq.out.step HB7.out).set v, HXq.out.set hv1 hv2, (fun h => setB_true (HGA.out h)), (fun h => setB_true (HGB.out h)), (fun e h => setB_true (HOA.out e h)), (fun e h => setB_true (HOB.out e h)), (fun e1 e2 h => by
                            by_cases e3 : lo < q
                            · exact setB_true (HQA.out e1 e2 e3)
                            · have := HVA.out e1 e2 (by omega)
                              subst this
                              exact setB_self _ _), (fun e1 e2 h => by
                            by_cases e3 : hi < q
                            · exact setB_true (HQB.out e1 e2 e3)
                            · have := HVB.out e1 e2 (by omega)
                              subst this
                              exact setB_self _ _)⟩
                        case measure => simp [intOf]; omega
                      · obtain rfl : bf = q := by subst hbf; rw [if_pos (by omega)]
                        have hz : ((r : Int) == 0) = false := by rw [beq_eq_false_iff_ne]; omega
                        clear hbf hr0
                        go_wp2_with fail
                        refine (worn_c _ lo hi ca n bf o _ hca hca1 hbf0.1 hbf0.2 (by omega) (by omega) (by omega) (by omega)).mono ?_
                        rw [HV.out]
                        rintro e w7 ⟨rfl, hb7⟩
                        have s1 := (HGq.out.step hb7).cell hv3
                        have s2 := (HGq.out.step hb7).fz v
                        have HB7 := Lib.hid hb7
                        clear hb7
                        go_wp2_with fail
                        go_roundw
                        case rel => exact ⟨bf + 1, setB g v, by omega, by omega, rfl, (HCq.out.step HB7.out).far (p := ⟨wo.heap.size, v, none⟩) hsz _, (HGq.out.step HB7.out).set v, HXq.out.set hv1 hv2, (fun h => setB_true (HGA.out h)), (fun h => setB_true (HGB.out h)), (fun e h => setB_true (HOA.out e h)), (fun e h => setB_true (HOB.out e h)), (fun e1 e2 h => by
                            by_cases e3 : lo < bf
                            · exact setB_true (HQA.out e1 e2 e3)
                            · have := HVA.out e1 e2 (by omega)
                              subst this
                              exact setB_self _ _), (fun e1 e2 h => by
                            by_cases e3 : hi < bf
                            · exact setB_true (HQB.out e1 e2 e3)
                            · have := HVB.out e1 e2 (by omega)
                              subst this
                              exact setB_self _ _)⟩
                        case measure => simp [intOf]; omega
                    · go_wp2_with fail
                      go_roundw
                      case rel => exact ⟨o + 1, g, by omega, by omega, rfl, HCq.out, HGq.out, HXq.out, HGA.out, HGB.out, (fun e h => by
                          by_cases e2 : hi < o
                          · exact HOA.out e e2
                          · exact HQA.out e (by omega) (by omega)), (fun e h => by
                          by_cases e2 : lo < o
                          · exact HOB.out e e2
                          · exact HQB.out e (by omega) (by omega))⟩
                      case measure => simp [intOf]; omega
              · have HCo := Lib.hid hC
                have HGo := Lib.hid hG
                have HXo := Lib.hid hX
                have HGA := Lib.hid hga
                have HGB := Lib.hid hgb
                have HOA := Lib.hid hoa
                have HOB := Lib.hid hob
                clear hC hG hX hga hgb hoa hob
                go_wp2_with fail
                go_roundw
                case rel => exact ⟨n + 1, g, by omega, by go_num, HCo.out, HGo.out, HXo.out, (fun h => by
                    by_cases e : n = a
                    · exact HOA.out e (by omega)
                    · exact HGA.out (by omega)), (fun h => by
                    by_cases e : n = b0
                    · exact HOB.out e (by omega)
                    · exact HGB.out (by omega))⟩
                case measure => simp [intOf]; omega
          · have hn1 : ¬ ((n : Int) ≤ 100) := by omega
            have HG9 : Hid (wr.heap[w.heap.size + 1 + 1]? = some (.cells (bcells f).toArray 105 (0, 0))) := hC.2.2.2.2.2.2
            have HGb : Hid (wr.heap[wo.heap.size]? = some (.cells (bcells g).toArray 105 (0, 0))) := hG
            have HCn := Lib.hid hC
            have HXn := Lib.hid hX
            have HGA := Lib.hid (hga (by omega))
            have HGB := Lib.hid (hgb (by omega))
            clear hC hG hX hga hgb
            go_wp2_with (first | (with_reducible refine wpList_load_row (o := ⟨some 81, _, _, _, _, _⟩) rfl 105 (.tmp 11) rfl wo.heap.size rfl 105 _ (0, 0) _ HGb.out Try.underlying105 rfl (info105 g) ?_) | (with_reducible refine wpList_store_row (o := ⟨none, .store 105 (.tmp 9) (.tmp 81), _, _, _, _⟩) rfl 105 (.tmp 9) (.tmp 81) rfl (w.heap.size + 1 + 1) (bcells g).toArray rfl rfl 105 _ HG9.out (info105 g) (by simp [bcells]) (bcells_one g) ?_))
            go_roundw
            case rel => exact ⟨k + 1, g, by omega, by go_num, HCn.out.row g, by rw [EA.out]; exact HGA.out, by rw [EB.out]; exact HGB.out, by rw [EA.out, EB.out]; exact HXn.out⟩
            case measure => simp [intOf]; omega
      · have hit' : (ix (rx bss k) r != (b : Int)) = true := by simp [hit]
        have HM1 := Lib.hid (aN_miss (ca := ca) (lo := lo) (hi := hi) (x := xn) hit)
        have HM2 := Lib.hid (aN_miss (ca := ca) (lo := hi) (hi := lo) (x := xn) hit)
        have HK := Lib.hid hC
        have HFF := Lib.hid hF
        clear hC hF hit
        go_wp2_with fail
        go_roundw
        case rel => exact ⟨k + 1, f, by omega, by go_num, HK.out, by rw [HM1.out, HM2.out]; exact HFF.out⟩
        case measure => simp [intOf]; omega
    · obtain rfl : k = bss.length := by omega
      have HG9 : Hid (wr.heap[w.heap.size + 1 + 1]? = some (.cells (bcells f).toArray 105 (0, 0))) := hC.2.2.2.2.2.2
      have HG8 : Hid (wr.heap[w.heap.size + 1]? = some (.cells (bcells fun _ => false).toArray 105 (0, 0))) := hC.2.2.2.2.2.1
      have HK := Lib.hid hC
      have HFF := Lib.hid hF
      clear hC hF
      go_wp2_with (first | (with_reducible refine wpList_load_row (o := ⟨some 82, _, _, _, _, _⟩) rfl 105 (.tmp 9) rfl (w.heap.size + 1 + 1) rfl 105 _ (0, 0) _ HG9.out Try.underlying105 rfl (info105 f) ?_) | (with_reducible refine wpList_store_row (o := ⟨none, .store 105 (.tmp 8) (.tmp 82), _, _, _, _⟩) rfl 105 (.tmp 8) (.tmp 82) rfl (w.heap.size + 1) (bcells f).toArray rfl rfl 105 _ HG8.out (info105 f) (by simp [bcells]) (bcells_one f) ?_))
      have hB : Bits (wr.setRow (w.heap.size + 1) (bcells f).toArray) (w.heap.size + 1) f := Bits.row (f := fun _ => false) HG8.out f
      exact bodyPost_ret (v := .agg (bcells f).toArray) (results_cell_row rfl _ _ (w.heap.size + 1) 105 _ (0, 0) _ rfl hB Try.underlying105 rfl (info105 f)) rfl ⟨f, rfl, HFF.out, below_setRow HK.out.1 (by omega)⟩
end Go.Proofs.Ytgnonfomlgkpcaa
