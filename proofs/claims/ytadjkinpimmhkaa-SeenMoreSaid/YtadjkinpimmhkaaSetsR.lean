/-
  The reference's Sets and Least.
-/
import Derived.Test.YtadjkinpimmhkaaSetsM
import Derived.Test.YtadjkinpimmhkaaBlameR
import Derived.Test.YtadjkinpimmhkaaCopies
namespace Go.Proofs.Ytadjkinpimmhkaa
open Go.RowKit
set_option linter.unusedSimpArgs false
set_option linter.unusedVariables false

theorem sC_at {a b c : Nat} (h : b + 1 ≤ c) : sC a b (c + 1 - (b + 1)) = sC a b (c - (b + 1)) ++ [[(a : Int), (b : Int), (c : Int)]] := by
  obtain ⟨n, rfl⟩ : ∃ n, c = b + 1 + n := ⟨c - (b + 1), by omega⟩
  rw [show b + 1 + n + 1 - (b + 1) = n + 1 by omega, show b + 1 + n - (b + 1) = n by omega, sC_succ]
theorem sB_at {m a b : Nat} (h : a + 1 ≤ b) : sB m a (b + 1 - (a + 1)) = sB m a (b - (a + 1)) ++ sBp m a b := by
  obtain ⟨n, rfl⟩ : ∃ n, b = a + 1 + n := ⟨b - (a + 1), by omega⟩
  rw [show a + 1 + n + 1 - (a + 1) = n + 1 by omega, show a + 1 + n - (a + 1) = n by omega, sB_succ]
/-- A new row of numbers, then it is appended to the rows. -/
theorem wpList_newrows {ops : Array Oper} {rest : List Oper} {o : Oper} {a : Act} {Q : Exit → Act → World → Prop} (s x : Operand) (hgd : o.guard = none) (ho : o.op = .call { callee := .builtin .append, args := #[s, x], argTypes := #[66, 66] })
    (base : Nat) (w : World) (v : Value) (vs : List Value) (rows : List (List Int)) (xs : List Int) (cs : Array Value) (n : Nat) (hcs : cs = (xs.map (Value.int .i64)).toArray) (hn : n = xs.length) (h0 : xs.length ≤ 1000) (hv : a.eval s = v) (hx : a.eval x = .slice (some ⟨w.heap.size + 1, 0, none⟩) 1 1) (hR : Rws base w v rows.length vs (rx rows)) (hl : rows.length ≤ 1000000) (hb : base ≤ w.heap.size)
    (h : ∀ A c vs' w', Hid (Rws base w' (.slice A (rows.length + 1) c) (rows.length + 1) vs' (rx (rows ++ [xs]))) → Hid (Below base w w') → wpList Try.prog ops Q rest (a.put o.dst (.slice A (rows.length + 1) c)) w') :
    wpList Try.prog ops Q (o :: rest) a ((w.alloc (.cells cs 3)).alloc (.cells #[.slice (some ⟨w.heap.size, 0, none⟩) n n] 25)) := by
  subst hcs hn
  have hu : OwnI w.heap.size (w.alloc (.cells (xs.map (Value.int .i64)).toArray 3)) (.slice (some ⟨w.heap.size, 0, none⟩) xs.length xs.length) xs :=
    ⟨by simp, .inr ⟨w.heap.size, xs.length, (xs.map (Value.int .i64)).toArray, rfl, Nat.le_refl _, World.alloc_heap_new _ _, Nat.le_refl _, by unfold maxLen; omega, by simp, by simp [List.take_of_length_le]⟩⟩
  have hb1 : Below w.heap.size w (w.alloc (.cells (xs.map (Value.int .i64)).toArray 3)) := (Below.refl _ _).alloc (Nat.le_refl _) _
  have e : rx (rows ++ [xs]) rows.length = xs := rx_snoc
  refine wpList_app_row s x hgd ho base w (w.alloc (.cells (xs.map (Value.int .i64)).toArray 3)) v rows.length vs (rx (rows ++ [xs])) (some ⟨w.heap.size, 0, none⟩) xs.length xs.length hv (by rw [hx]; simp) (hR.congr fun j hj => rx_keep hj) (by rw [e]) (by show OwnI _ _ _ _; rw [e]; exact hu) hb1 hl hb h
def RwP (base : Nat) (w : World) (v : Value) (rows : List (List Int)) : Prop := rows.length ≤ 1000 ∧ ∃ vs, Rws base w v rows.length vs (rx rows)
theorem RwP.len {base : Nat} {w : World} {v : Value} {rows : List (List Int)} (h : RwP base w v rows) : rows.length ≤ 1000 := h.1
theorem RwP.app {base : Nat} {w : World} {v : Value} {rows rows' : List (List Int)} {n : Nat} {vs : List Value} (h : Rws base w v n vs (rx rows')) (e : rows = rows') (hn : n = rows'.length) (hl : rows'.length ≤ 1000) : RwP base w v rows := by
  subst e hn
  exact ⟨hl, vs, h⟩
theorem RwP.cast {base : Nat} {w : World} {v : Value} {rows rows' : List (List Int)} (h : RwP base w v rows') (e : rows = rows') : RwP base w v rows := by
  subst e
  exact h

set_option maxRecDepth 100000 in
set_option maxHeartbeats 16000000 in
theorem sets_c (w : World) : Calls Try.prog 63 #[] w (OwnRows w setsL) := by
  have hb0 : Below w.heap.size w (w.alloc (.cells #[.slice none 0 0] 25)) := (Below.refl _ _).alloc (Nat.le_refl _) _
  have hR0 : RwP w.heap.size (w.alloc (.cells #[.slice none 0 0] 25)) (.slice (some ⟨w.heap.size, 0, none⟩) 1 1) ([[]] ++ sM 0) := by
    refine ⟨by decide, [.slice none 0 0], ⟨rfl, .inr ⟨w.heap.size, 1, #[.slice none 0 0], rfl, Nat.le_refl _, World.alloc_heap_new _ _, by decide, by simp [maxLen, sM], rfl, rfl⟩⟩, fun j hj => ?_, fun i j u u' hij hi hj => ?_⟩
    · obtain rfl : j = 0 := by simpa [sM] using hj
      exact ⟨_, rfl, OwnI.nil _ _, .inl rfl⟩
    · have := (List.getElem?_eq_some_iff.1 hj).1
      simp at this
      omega
  go_enter Try.func63, Try.ntmps63
  go_wp2_with fail
  have HB0 := Lib.hid hb0
  have HR0 := Lib.hid hR0
  clear hb0 hR0
  generalize (w.alloc (.cells #[.slice none 0 0] 25)) = W0 at HB0 HR0 ⊢
  go_loopw [2, 1] (fun i v wr => ∃ m : Nat, m ≤ 4 ∧ i = .int .i64 (m + 1 : Nat) ∧ RwP w.heap.size wr v ([[]] ++ sM m) ∧ Below w.heap.size w wr) (fun i _ _ => 5 - (intOf i).toNat)
  case atStart => exact ⟨0, by omega, rfl, HR0.out, HB0.out⟩
  case round =>
    obtain ⟨m0, hm0, rfl, hR, hb⟩ := hrel
    have HSM := Lib.hid (sM_succ m0)
    have HLM := Lib.hid (sM_len m0)
    generalize hme : m0 + 1 = m at *
    have HME := Lib.hid hme
    have HM0 := Lib.hid hm0
    have hm1 : 1 ≤ m := by omega
    clear hme hm0
    by_cases h1 : m ≤ 4
    · have h1i : (m : Int) ≤ 4 := by omega
      have HR := Lib.hid hR
      have HB := Lib.hid hb
      obtain ⟨W1, rfl⟩ : ∃ W1 : World, W1 = wr := ⟨_, rfl⟩
      have HPL : Hid (([[]] ++ sM m0).length ≤ 300) := by show _ ≤ _; rw [List.length_append]; have := HLM.out; have := HME.out; simp; omega
      generalize hpre : [[]] ++ sM m0 = pre at *
      have HPRE := Lib.hid hpre
      clear hR hb hpre
      go_wp2_with fail
      go_loopw [3, 1] (fun i v wr => ∃ a : Nat, a ≤ 4 ∧ i = .int .i64 a ∧ RwP w.heap.size wr v (pre ++ sA m a) ∧ Below w.heap.size w wr) (fun i _ _ => 4 - (intOf i).toNat)
      case atStart => exact ⟨0, by omega, rfl, HR.out.cast (by simp [sA]), HB.out⟩
      case round =>
        obtain ⟨a, ha, rfl, hR2, hb2⟩ := hrel
        have HR2 := Lib.hid hR2
        have HB2 := Lib.hid hb2
        obtain ⟨W2, rfl⟩ : ∃ W2 : World, W2 = wr := ⟨_, rfl⟩
        have HSA := Lib.hid (sA_succ m a)
        have HLA := Lib.hid (sA_len m a)
        have HLB := Lib.hid (fun n => sB_len m a n)
        clear hR2 hb2
        by_cases h2 : a < 4
        · have h2i : (a : Int) < 4 := by omega
          have HPL2 : Hid ((pre ++ sA m a).length ≤ 400) := by show _ ≤ _; rw [List.length_append]; have := HLA.out; have := HPL.out; omega
          generalize hpre2 : pre ++ sA m a = pre2 at *
          have HPRE2 := Lib.hid hpre2
          clear hpre2
          by_cases g1 : m = 1
          · have t1 : ((m : Int) == 1) = true := by simp; omega
            have t2 : decide ((m : Int) > 1) = false := decide_eq_false (by omega)
            have HAP : Hid (sAp m a = [[(a : Int)]]) := by show _ = _; subst g1; simp [sAp]
            obtain ⟨hlp, vs, hRv⟩ := HR2.out
            have HRv := Lib.hid hRv
            have hzz : w.heap.size ≤ W2.heap.size := HB2.out.size
            clear g1 hRv
            go_wp2_with (at_builtin; refine wpList_newrows (.tmp 17) (.tmp 20) rfl rfl w.heap.size _ _ vs pre2 [(a : Int)] _ _ rfl rfl (by simp) rfl rfl HRv.out (by omega) hzz ?_; intro A' c' vs' w2 HR3 HB3)
            go_loopw [4, 1] (fun i v wr => i = .int .i64 ((a + 1 : Nat) : Int) ∧ RwP w.heap.size wr v (pre ++ sA m (a + 1)) ∧ Below w.heap.size w wr) (fun i _ _ => 0)
            case atStart => exact ⟨by go_num, RwP.app HR3.out (by rw [HSA.out, HAP.out, ← List.append_assoc, HPRE2.out]) (by simp) (by have := HPL2.out; simp; omega), HB2.out.trans HB3.out⟩
            case round =>
              obtain ⟨rfl, hR4, hb4⟩ := hrel
              have HR4 := Lib.hid hR4
              have HB4 := Lib.hid hb4
              clear hR4 hb4
              by_cases g2 : ((a + 1 : Nat) : Int) < 4
              all_goals
                go_wp2_with fail
                go_roundw
                case rel => exact ⟨a + 1, by omega, by go_num, HR4.out, HB4.out⟩
                case measure => simp [intOf]; omega
          · have t1 : ((m : Int) == 1) = false := by simp; omega
            have t2 : decide ((m : Int) > 1) = true := decide_eq_true (by omega)
            have HAP : Hid (sAp m a = sB m a (3 - a)) := by show _ = _; simp [sAp, g1, show 1 < m by omega]
            have hzz : w.heap.size ≤ W2.heap.size := HB2.out.size
            clear g1
            go_wp2_with fail
            go_loopw [4, 1] (fun i v wr => ∃ b : Nat, a + 1 ≤ b ∧ b ≤ 4 ∧ i = .int .i64 b ∧ RwP w.heap.size wr v (pre2 ++ sB m a (b - (a + 1))) ∧ Below w.heap.size w wr) (fun i _ _ => 4 - (intOf i).toNat)
            case atStart => exact ⟨a + 1, by omega, by omega, by go_num, HR2.out.cast (by simp [sB]), HB2.out⟩
            case round =>
              obtain ⟨b, hb1, hb4, rfl, hR3, hb3⟩ := hrel
              have HR3 := Lib.hid hR3
              have HB3 := Lib.hid hb3
              have HSB := Lib.hid (sB_at (m := m) hb1)
              have HLBb := Lib.hid (HLB.out (b - (a + 1)))
              obtain ⟨W3, rfl⟩ : ∃ W3 : World, W3 = wr := ⟨_, rfl⟩
              have hzz3 : w.heap.size ≤ W3.heap.size := HB3.out.size
              clear hR3 hb3
              by_cases h3 : b < 4
              · have h3i : (b : Int) < 4 := by omega
                have HPL3 : Hid ((pre2 ++ sB m a (b - (a + 1))).length ≤ 500) := by show _ ≤ _; rw [List.length_append]; have := HLBb.out; have := HPL2.out; omega
                generalize hpre3 : pre2 ++ sB m a (b - (a + 1)) = pre3 at *
                have HPRE3 := Lib.hid hpre3
                clear hpre3
                by_cases g3 : m = 2
                · have t3 : ((m : Int) == 2) = true := by simp; omega
                  have t4 : ((m : Int) == 3) = false := by simp; omega
                  have HBP : Hid (sBp m a b = [[(a : Int), (b : Int)]]) := by show _ = _; subst g3; simp [sBp]
                  obtain ⟨hlp, vs, hRv⟩ := HR3.out
                  have HRv := Lib.hid hRv
                  clear g3 hRv
                  go_wp2_with (at_builtin; refine wpList_newrows (.tmp 34) (.tmp 38) rfl rfl w.heap.size _ _ vs pre3 [(a : Int), (b : Int)] _ _ rfl rfl (by simp) rfl rfl HRv.out (by omega) hzz3 ?_; intro A' c' vs' w2 HR4 HB4)
                  go_loopw [5, 1] (fun i v wr => i = .int .i64 ((b + 1 : Nat) : Int) ∧ RwP w.heap.size wr v (pre2 ++ sB m a (b + 1 - (a + 1))) ∧ Below w.heap.size w wr) (fun i _ _ => 0)
                  case atStart => exact ⟨by go_num, RwP.app HR4.out (by rw [HSB.out, HBP.out, ← List.append_assoc, HPRE3.out]) (by simp) (by have := HPL3.out; simp; omega), HB3.out.trans HB4.out⟩
                  case round =>
                    obtain ⟨rfl, hR5, hb5⟩ := hrel
                    have HR5 := Lib.hid hR5
                    have HB5 := Lib.hid hb5
                    clear hR5 hb5
                    by_cases g2 : ((b + 1 : Nat) : Int) < 4
                    all_goals
                      go_wp2_with fail
                      go_roundw
                      case rel => exact ⟨b + 1, by omega, by omega, by go_num, HR5.out, HB5.out⟩
                      case measure => simp [intOf]; omega
                · have t3 : ((m : Int) == 2) = false := by simp; omega
                  by_cases g4 : m = 3
                  · have t4 : ((m : Int) == 3) = true := by simp; omega
                    have HBP : Hid (sBp m a b = sC a b (3 - b)) := by show _ = _; subst g4; simp [sBp]
                    clear g3 g4
                    go_wp2_with fail
                    go_loopw [5, 1] (fun i v wr => ∃ c : Nat, b + 1 ≤ c ∧ c ≤ 4 ∧ i = .int .i64 c ∧ RwP w.heap.size wr v (pre3 ++ sC a b (c - (b + 1))) ∧ Below w.heap.size w wr) (fun i _ _ => 4 - (intOf i).toNat)
                    case atStart => exact ⟨b + 1, by omega, by omega, by go_num, HR3.out.cast (by simp [sC]), HB3.out⟩
                    case round =>
                      obtain ⟨c, hc1, hc4, rfl, hR4, hb4⟩ := hrel
                      have HR4 := Lib.hid hR4
                      have HB4 := Lib.hid hb4
                      have HSC := Lib.hid (sC_at (a := a) hc1)
                      have HLC := Lib.hid (sC_len a b (c - (b + 1)))
                      have hzz4 : w.heap.size ≤ wr.heap.size := HB4.out.size
                      clear hR4 hb4
                      by_cases h4 : c < 4
                      · have h4i : (c : Int) < 4 := by omega
                        have HPL4 : Hid ((pre3 ++ sC a b (c - (b + 1))).length ≤ 600) := by show _ ≤ _; rw [List.length_append, HLC.out]; have := HPL3.out; omega
                        generalize hpre4 : pre3 ++ sC a b (c - (b + 1)) = pre4 at *
                        have HPRE4 := Lib.hid hpre4
                        obtain ⟨hlp, vs, hRv⟩ := HR4.out
                        have HRv := Lib.hid hRv
                        clear hpre4 hRv
                        go_wp2_with (at_builtin; refine wpList_newrows (.tmp 50) (.tmp 55) rfl rfl w.heap.size _ _ vs pre4 [(a : Int), (b : Int), (c : Int)] _ _ rfl rfl (by simp) rfl rfl HRv.out (by omega) hzz4 ?_; intro A' c' vs' w2 HR5 HB5)
                        go_roundw
                        case rel => exact ⟨c + 1, by omega, by omega, by go_num, RwP.app HR5.out (by rw [HSC.out, ← List.append_assoc, HPRE4.out]) (by simp) (by have := HPL4.out; simp; omega), HB4.out.trans HB5.out⟩
                        case measure => simp [intOf]; omega
                      · have h4i : ¬ (c : Int) < 4 := by omega
                        obtain rfl : c = 4 := by omega
                        go_wp2_with fail
                        go_roundw
                        case rel => exact ⟨b + 1, by omega, by omega, by go_num, HR4.out.cast (by rw [HSB.out, HBP.out, ← List.append_assoc, HPRE3.out, show 4 - (b + 1) = 3 - b by omega]), HB4.out⟩
                        case measure => simp [intOf]; omega
                  · have t4 : ((m : Int) == 3) = false := by simp; omega
                    have HBP : Hid (sBp m a b = []) := by show _ = _; simp [sBp, g3, g4]
                    clear g3 g4
                    go_wp2_with fail
                    go_loopw [5, 1] (fun i v wr => i = .int .i64 ((b + 1 : Nat) : Int) ∧ RwP w.heap.size wr v (pre2 ++ sB m a (b + 1 - (a + 1))) ∧ Below w.heap.size w wr) (fun i _ _ => 0)
                    case atStart => exact ⟨by go_num, HR3.out.cast (by rw [HSB.out, HBP.out, List.append_nil, HPRE3.out]), HB3.out⟩
                    case round =>
                      obtain ⟨rfl, hR5, hb5⟩ := hrel
                      have HR5 := Lib.hid hR5
                      have HB5 := Lib.hid hb5
                      clear hR5 hb5
                      by_cases g2 : ((b + 1 : Nat) : Int) < 4
                      all_goals
                        go_wp2_with fail
                        go_roundw
                        case rel => exact ⟨b + 1, by omega, by omega, by go_num, HR5.out, HB5.out⟩
                        case measure => simp [intOf]; omega
              · have h3i : ¬ (b : Int) < 4 := by omega
                obtain rfl : b = 4 := by omega
                go_wp2_with fail
                go_roundw
                case rel => exact ⟨a + 1, by omega, by go_num, HR3.out.cast (by rw [HSA.out, HAP.out, ← List.append_assoc, HPRE2.out, show 4 - (a + 1) = 3 - a by omega]), HB3.out⟩
                case measure => simp [intOf]; omega
        · have h2i : ¬ (a : Int) < 4 := by omega
          obtain rfl : a = 4 := by omega
          go_wp2_with fail
          go_roundw
          case rel => exact ⟨m, by omega, by go_num, HR2.out.cast (by have e := HME.out; subst e; rw [HSM.out, ← List.append_assoc, HPRE.out]), HB2.out⟩
          case measure => simp [intOf]; omega
    · have h1i : ¬ (m : Int) ≤ 4 := by omega
      obtain rfl : m0 = 4 := by have := HME.out; have := HM0.out; omega
      obtain ⟨hlp, vs, hRv⟩ := hR
      have HRv := Lib.hid hRv
      have HB := Lib.hid hb
      have hzz : w.heap.size ≤ wr.heap.size := HB.out.size
      have HST : Hid (setsL = ([[]] ++ sM 4) ++ [[0, 1, 2, 3]]) := rfl
      have HSL := Lib.hid setsL_len
      generalize [[]] ++ sM 4 = pre at *
      clear hRv hb
      go_wp2_with (at_builtin; refine wpList_newrows (.tmp 57) (.tmp 59) rfl rfl w.heap.size _ _ vs pre [0, 1, 2, 3] _ _ rfl rfl (by simp) rfl rfl HRv.out (by omega) hzz ?_; intro A' c' vs' w2 HR5 HB5)
      have e : setsL.length = pre.length + 1 := by rw [HST.out]; simp
      go_ret
      refine ⟨A', c', vs', ?_, ?_, HB.out.trans HB5.out⟩
      · rw [e]; rfl
      · rw [e, HST.out]; exact HR5.out
end Go.Proofs.Ytadjkinpimmhkaa
