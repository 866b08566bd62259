/-
  The reference's Reason.
-/
import Derived.Test.YtjokbffdepcpkaaRefP
import Derived.Test.YtjokbffdepcpkaaShownM
namespace Go.Proofs.Ytjokbffdepcpkaa
open Go.RowKit
set_option linter.unusedSimpArgs false
set_option linter.unusedVariables false

attribute [local go_sem] Oper.semAt_some
theorem bits_succ (b t : Nat) : bitsL (t + 1) b = bitsL t b ++ if b.testBit t then [(t : Int)] else [] := by
  unfold bitsL
  rw [List.range_succ, List.filter_append, List.map_append]
  cases h : b.testBit t <;> simp [h]
theorem bits_len (b t : Nat) : (bitsL t b).length ≤ t := by
  unfold bitsL
  rw [List.length_map]
  have := List.length_filter_le (fun t => b.testBit t) (List.range t)
  rwa [List.length_range] at this
theorem bit_is (b t : Nat) : b.testBit t = decide (((b / 2 ^ t : Nat) : Int) % 2 = 1) := by
  rw [Nat.testBit_eq_decide_div_mod_eq]
  congr 1
  apply propext
  omega
theorem bit_int (k t : Nat) : ((((k : Int)) / 2 ^ t).tmod 2 == 1) = k.testBit t := by
  have e : ((k : Int)) / 2 ^ t = ((k / 2 ^ t : Nat) : Int) := by
    rw [Int.natCast_ediv]
    simp
  rw [e, Int.tmod_eq_emod_of_nonneg (Int.natCast_nonneg _), bit_is]
  refine Bool.eq_iff_iff.2 ?_
  rw [beq_iff_eq, decide_eq_true_eq]
theorem best_len {T : Nat} {p : List Int → Bool} (hT : T ≤ 6) : ∀ k, (refBest T p k).length ≤ 1000
  | 0 => by simp [refBest]
  | k + 1 => by
    have ih := best_len (p := p) hT k
    have := bits_len (k + 1) T
    rw [refBest]
    split <;> omega
theorem best_pos {T : Nat} {p : List Int → Bool} : ∀ k, 1 ≤ k → refBest T p k = if p (bitsL T k) && (decide (refBest T p (k - 1) = []) || lessL (bitsL T k) (refBest T p (k - 1))) then bitsL T k else refBest T p (k - 1)
  | 0, h => by omega
  | k + 1, _ => rfl
theorem pow_small {T : Nat} (h : T ≤ 6) : 2 ^ T ≤ 64 := by
  have : T = 0 ∨ T = 1 ∨ T = 2 ∨ T = 3 ∨ T = 4 ∨ T = 5 ∨ T = 6 := by omega
  rcases this with rfl | rfl | rfl | rfl | rfl | rfl | rfl <;> decide
set_option maxRecDepth 100000 in
set_option maxHeartbeats 8000000 in
theorem reason42_T (l : Lg) (T : Nat) (hT : l.teams = (T : Int)) (A : Option Addr) (c : Nat) (tm : Int) (w : World) (hv : Valid l) (ht : 0 ≤ tm) (hl : Gms w.heap.size w A l.games) (hc : l.games.length ≤ c ∧ c ≤ 9223372036854775807) :
    Calls Try.prog 42 #[.agg #[.int .i64 (T : Int), .slice A l.games.length c], .int .i64 tm] w (ListP w (refBest T (ref41B l tm) (2 ^ T - 1))) := by
  have hb : Below w.heap.size w (w.alloc (.cells #[.int .i64 (T : Int), .slice A l.games.length c] 24)) := (Below.refl _ _).alloc (Nat.le_refl _) _
  have HB := Lib.hid hb
  have HL := Lib.hid (hl.step hb)
  have k0 : (w.alloc (.cells #[.int .i64 (T : Int), .slice A l.games.length c] 24)).cell? ⟨w.heap.size, 0, none⟩ = some (.int .i64 (T : Int)) := by simp
  have k1 : (w.alloc (.cells #[.int .i64 (T : Int), .slice A l.games.length c] 24)).cell? ⟨w.heap.size, 1, none⟩ = some (.slice A l.games.length c) := by simp
  have hT2 := hv.t2
  have hT6 := hv.t6
  rw [hT] at hT2 hT6
  have HRO : Hid (∀ (SA : Option Addr) (sc : Nat) (xs : List Int) (W : World), Gms W.heap.size W A l.games → Ints W.heap.size W SA xs → (xs.length ≤ sc ∧ sc ≤ 9223372036854775807) → xs.length ≤ 1000 → Calls Try.prog 41 #[.agg #[.int .i64 (T : Int), .slice A l.games.length c], .int .i64 tm, .slice SA xs.length sc] W (Ans W (.bool (ref41B l tm xs)))) := fun SA sc xs W h1 h2 h3 h4 => by
    have h := ref41_c l A SA c sc tm xs W hv ht h1 hc h2 h3 h4
    rw [hT] at h
    exact h
  have hp64 := pow_small (T := T) (by omega)
  have hp4 : 4 ≤ 2 ^ T := by
    have : 2 ^ 2 ≤ 2 ^ T := Nat.pow_le_pow_right (by decide) (by omega)
    omega
  obtain ⟨P, hP⟩ : ∃ P, 2 ^ T = P := ⟨_, rfl⟩
  have HPT := Lib.hid hP
  rw [hP] at hp64 hp4
  have hsh : IntKind.i64.wrap ((2 : Int) ^ T) = (P : Int) := by
    have e : ((2 : Int) ^ T) = (P : Int) := by rw [← hP]; simp
    rw [e]
    exact IntWalk.i64_in _ (by omega)
  clear hP
  have hz1 : w.heap.size ≤ (w.alloc (.cells #[.int .i64 (T : Int), .slice A l.games.length c] 24)).heap.size := by simp
  clear hb hl hv ht hT
  go_enter Try.func42, Try.ntmps42
  go_wp2_with fail
  generalize (w.alloc (.cells #[.int .i64 (T : Int), .slice A l.games.length c] 24)) = x1 at *
  go_loopw [5, 6] (fun v i wr => ∃ (kb : Nat) (A' : Option Addr) (c' : Nat), (1 ≤ kb ∧ kb ≤ P) ∧ i = .int .i64 (kb : Int) ∧ v = .slice A' (refBest T (ref41B l tm) (kb - 1)).length c' ∧ (Ints wr.heap.size wr A' (refBest T (ref41B l tm) (kb - 1)) ∧ (refBest T (ref41B l tm) (kb - 1)).length ≤ c' ∧ c' ≤ 9223372036854775807) ∧ Below x1.heap.size x1 wr) (fun _ i _ => 100 - (intOf i).toNat)
  case atStart => exact ⟨1, none, 0, by omega, rfl, rfl, ⟨fun h => by simp [refBest] at h, by simp [refBest], by omega⟩, Below.refl _ _⟩
  case round =>
    obtain ⟨kb, A', c', hk, rfl, rfl, ⟨hbe, hbl, hbc⟩, hb⟩ := hrel
    generalize wr = wt at *
    have HBE := Lib.hid hbe
    have HBR := Lib.hid hb
    have j0 := cell_of_ans hb k0
    have j1 := cell_of_ans hb k1
    have HLr := Lib.hid (HL.out.step hb)
    clear hbe hb
    obtain ⟨be, hbe⟩ : ∃ be, refBest T (ref41B l tm) (kb - 1) = be := ⟨_, rfl⟩
    have HBEQ := Lib.hid hbe
    rw [hbe] at HBE hbl ⊢
    clear hbe
    by_cases h1 : kb < P
    · have h1i : (kb : Int) < (P : Int) := by omega
      have hwt : w.heap.size < wt.heap.size := by have := World.block_lt_of_cell? _ _ j0; exact this
      go_wp2_with fail
      go_loopw [7, 8] (fun v i wr => ∃ (t : Nat) (A2 : Option Addr) (c2 : Nat), t ≤ T ∧ i = .int .i64 (t : Int) ∧ v = .slice A2 (bitsL t kb).length c2 ∧ OwnI wt.heap.size wr (.slice A2 (bitsL t kb).length c2) (bitsL t kb) ∧ Below wt.heap.size wt wr) (fun _ i _ => T - (intOf i).toNat)
      case atStart => exact ⟨0, none, 0, by omega, rfl, rfl, OwnI.nil _ _, Below.refl _ _⟩
      case round =>
        obtain ⟨t, A2, c2, ht, rfl, rfl, ho, hb⟩ := hrel
        have HO := Lib.hid ho
        have HBW := Lib.hid hb
        have i0 := cell_of_ans hb j0
        have i1 := cell_of_ans hb j1
        clear ho hb
        by_cases h2 : t < T
        · have h2i : (t : Int) < (T : Int) := by omega
          have HBS := Lib.hid (bits_succ kb t)
          have hbt := bit_int kb t
          have hbn := bits_len kb t
          have hzw : wt.heap.size ≤ wr.heap.size := HBW.out.size
          obtain ⟨b0, hb0⟩ : ∃ b0, bitsL t kb = b0 := ⟨_, rfl⟩
          rw [hb0] at HBS HO hbn ⊢
          cases htb : kb.testBit t
          · rw [htb] at hbt HBS
            have HBE2 : Hid (bitsL (t + 1) kb = b0) := by show _ = _; rw [HBS.out]; simp
            clear HBS htb hb0
            go_wp2_with fail
            go_roundw
            case rel => exact ⟨t + 1, A2, c2, by omega, by go_num, by rw [HBE2.out], by rw [HBE2.out]; exact HO.out, HBW.out⟩
            case measure => simp [intOf]; omega
          · rw [htb] at hbt HBS
            have HBE2 : Hid (bitsL (t + 1) kb = b0 ++ [(t : Int)]) := by show _ = _; rw [HBS.out]; simp
            clear HBS htb hb0
            go_wp2_with (at_builtin; refine wpList_app_int (.tmp 29) (.tmp 31) rfl rfl wt.heap.size wr _ b0 (t : Int) rfl rfl HO (by omega) hzw ?_; intro A9 c9 w9 HO9 HB9)
            go_roundw
            case rel => exact ⟨t + 1, A9, c9, by omega, by go_num, by rw [HBE2.out]; simp, by rw [HBE2.out, List.length_append]; exact HO9.out, HBW.out.trans HB9.out⟩
            case measure => simp [intOf]; omega
        · obtain rfl : t = T := by omega
          have h2i : ¬ (t : Int) < (t : Int) := by omega
          obtain ⟨A3, c3, e3, hi1, hi2, hi3⟩ := HO.out.isInts
          injection e3 with e4 e5 e6
          subst e4 e6
          have HI := Lib.hid hi3
          have hbn := bits_len kb t
          replace HLr := Lib.hid (HLr.out.step HBW.out)
          replace HBE := Lib.hid (HBE.out.step HBW.out)
          replace HBR := Lib.hid (HBR.out.trans (HBW.out.mono HBR.out.size))
          replace k0 := i0
          have HRB : Hid (refBest t (ref41B l tm) kb = if ref41B l tm (bitsL t kb) && (decide (be = []) || lessL (bitsL t kb) be) then bitsL t kb else be) := by show _ = _; rw [best_pos kb (by omega), HBEQ.out]
          clear HO HBW hi3 e5 j0 j1
          obtain ⟨sm, hsm⟩ : ∃ sm, bitsL t kb = sm := ⟨_, rfl⟩
          rw [hsm] at HI hbn hi1 HRB ⊢
          clear hsm
          have HRO1 := Lib.hid (HRO.out A2 c2 sm wr HLr.out HI.out ⟨hi1, hi2⟩ (by omega))
          cases hr : ref41B l tm sm
          · rw [hr] at HRO1 HRB
            have HRX : Hid (refBest t (ref41B l tm) kb = be) := by show _ = _; rw [HRB.out]; rfl
            clear hr HRB
            go_wp2_with fail
            refine HRO1.out.mono ?_
            rintro e y1 ⟨rfl, hb⟩
            replace HBE := Lib.hid (HBE.out.step hb)
            replace HBR := Lib.hid (HBR.out.trans (hb.mono HBR.out.size))
            clear hb
            go_wp2_with fail
            go_roundw
            case rel => exact ⟨kb + 1, A', c', by omega, by go_num, by rw [show kb + 1 - 1 = kb by omega, HRX.out], by rw [show kb + 1 - 1 = kb by omega, HRX.out]; exact ⟨HBE.out, hbl, hbc⟩, HBR.out⟩
            case measure => simp [intOf]; omega
          · rw [hr] at HRO1 HRB
            by_cases hz : be.length = 0
            · have HRX : Hid (refBest t (ref41B l tm) kb = sm) := by show _ = _; rw [HRB.out, decide_eq_true (List.eq_nil_of_length_eq_zero hz)]; rfl
              have hzb : ((be.length : Int) == 0) = true := by rw [beq_iff_eq]; omega
              clear hr HRB hz
              go_wp2_with fail
              refine HRO1.out.mono ?_
              rintro e y1 ⟨rfl, hb⟩
              replace HI := Lib.hid (HI.out.step hb)
              replace HBR := Lib.hid (HBR.out.trans (hb.mono HBR.out.size))
              clear hb
              go_wp2_with fail
              go_roundw
              case rel => exact ⟨kb + 1, A2, c2, by omega, by go_num, by rw [show kb + 1 - 1 = kb by omega, HRX.out], by rw [show kb + 1 - 1 = kb by omega, HRX.out]; exact ⟨HI.out, hi1, hi2⟩, HBR.out⟩
              case measure => simp [intOf]; omega
            · have hzb : ((be.length : Int) == 0) = false := by rw [beq_eq_false_iff_ne]; omega
              have hne : decide (be = []) = false := decide_eq_false fun e => hz (by rw [e]; rfl)
              have HLS := Lib.hid (fun (W : World) (h1 : Ints W.heap.size W A2 sm) (h2 : Ints W.heap.size W A' be) h3 => less79_c A2 A' c2 c' sm be W h1 h2 (by omega) h3)
              have hbe6 := (by rw [← HBEQ.out]; exact best_len (by omega) _ : be.length ≤ 1000)
              cases hls : lessL sm be
              · have HRX : Hid (refBest t (ref41B l tm) kb = be) := by show _ = _; rw [HRB.out, hne, hls]; rfl
                rw [hls] at HLS
                clear hr HRB hz hne hls
                go_wp2_with fail
                refine HRO1.out.mono ?_
                rintro e y1 ⟨rfl, hb⟩
                replace HBE := Lib.hid (HBE.out.step hb)
                replace HI := Lib.hid (HI.out.step hb)
                replace HBR := Lib.hid (HBR.out.trans (hb.mono HBR.out.size))
                clear hb
                go_wp2_with fail
                refine (HLS.out _ HI.out HBE.out hbe6).mono ?_
                rintro e y2 ⟨rfl, hb⟩
                replace HBE := Lib.hid (HBE.out.step hb)
                replace HBR := Lib.hid (HBR.out.trans (hb.mono HBR.out.size))
                clear hb
                go_wp2_with fail
                go_roundw
                case rel => exact ⟨kb + 1, A', c', by omega, by go_num, by rw [show kb + 1 - 1 = kb by omega, HRX.out], by rw [show kb + 1 - 1 = kb by omega, HRX.out]; exact ⟨HBE.out, hbl, hbc⟩, HBR.out⟩
                case measure => simp [intOf]; omega
              · have HRX : Hid (refBest t (ref41B l tm) kb = sm) := by show _ = _; rw [HRB.out, hne, hls]; rfl
                rw [hls] at HLS
                clear hr HRB hz hne hls
                go_wp2_with fail
                refine HRO1.out.mono ?_
                rintro e y1 ⟨rfl, hb⟩
                replace HBE := Lib.hid (HBE.out.step hb)
                replace HI := Lib.hid (HI.out.step hb)
                replace HBR := Lib.hid (HBR.out.trans (hb.mono HBR.out.size))
                clear hb
                go_wp2_with fail
                refine (HLS.out _ HI.out HBE.out hbe6).mono ?_
                rintro e y2 ⟨rfl, hb⟩
                replace HI := Lib.hid (HI.out.step hb)
                replace HBR := Lib.hid (HBR.out.trans (hb.mono HBR.out.size))
                clear hb
                go_wp2_with fail
                go_roundw
                case rel => exact ⟨kb + 1, A2, c2, by omega, by go_num, by rw [show kb + 1 - 1 = kb by omega, HRX.out], by rw [show kb + 1 - 1 = kb by omega, HRX.out]; exact ⟨HI.out, hi1, hi2⟩, HBR.out⟩
                case measure => simp [intOf]; omega
    · obtain rfl : kb = P := by omega
      have h1i : ¬ (kb : Int) < (kb : Int) := by omega
      have HKE : Hid (2 ^ T - 1 = kb - 1) := by have := HPT.out; show _ = _; omega
      go_wp2_with fail
      go_ret
      rw [HKE.out, HBEQ.out]
      exact ⟨A', c', rfl, ⟨HBE.out, hbl, hbc⟩, HB.out.trans (HBR.out.mono HB.out.size)⟩
end Go.Proofs.Ytjokbffdepcpkaa
