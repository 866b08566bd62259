/-
  The law's number and True: a game by words.
-/
import Derived.Test.YtadjkinpimmhkaaFrames
import Derived.Test.YtadjkinpimmhkaaRef1
import Derived.IntWalk
namespace Go.Proofs.Ytadjkinpimmhkaa
open Go.RowKit
set_option linter.unusedSimpArgs false
set_option linter.unusedVariables false

/-- A new row of numbers, then it is appended to the rows. -/
theorem wpList_newrowsN {ops : Array Oper} {rest : List Oper} {o : Oper} {a : Act} {Q : Exit → Act → World → Prop} (s x : Operand) (hgd : o.guard = none) (ho : o.op = .call { callee := .builtin .append, args := #[s, x], argTypes := #[66, 66] })
    (base : Nat) (w : World) (v : Value) (vs : List Value) (rows : List (List Int)) (xs : List Int) (cs : Array Value) (n : Nat) (hcs : cs = (xs.map (Value.int .i64)).toArray) (hn : n = xs.length) (h0 : xs.length ≤ 1000) (hv : a.eval s = v) (hx : a.eval x = .slice (some ⟨w.heap.size + 1, 0, none⟩) 1 1) (hR : Rws base w v rows.length vs (rx rows)) (hl : rows.length ≤ 1000000) (hb : base ≤ w.heap.size)
    (h : ∀ A c vs' w', Hid (Rws base w' (.slice A (rows.length + 1) c) (rows.length + 1) vs' (rx (rows ++ [xs]))) → Hid (Below base w w') → wpList Try.prog ops Q rest (a.put o.dst (.slice A (rows.length + 1) c)) w') :
    wpList Try.prog ops Q (o :: rest) a ((w.alloc (.cells cs 3)).alloc (.cells #[.slice (some ⟨w.heap.size, 0, none⟩) n n] 25)) := by
  subst hcs hn
  have hu : OwnI w.heap.size (w.alloc (.cells (xs.map (Value.int .i64)).toArray 3)) (.slice (some ⟨w.heap.size, 0, none⟩) xs.length xs.length) xs :=
    ⟨by simp, .inr ⟨w.heap.size, xs.length, (xs.map (Value.int .i64)).toArray, rfl, Nat.le_refl _, World.alloc_heap_new _ _, Nat.le_refl _, by unfold maxLen; omega, by simp, by simp [List.take_of_length_le]⟩⟩
  have hb1 : Below w.heap.size w (w.alloc (.cells (xs.map (Value.int .i64)).toArray 3)) := (Below.refl _ _).alloc (Nat.le_refl _) _
  have e : rx (rows ++ [xs]) rows.length = xs := rx_snoc
  refine wpList_app_row s x hgd ho base w (w.alloc (.cells (xs.map (Value.int .i64)).toArray 3)) v rows.length vs (rx (rows ++ [xs])) (some ⟨w.heap.size, 0, none⟩) xs.length xs.length hv (by rw [hx]; simp) (hR.congr fun j hj => rx_keep hj) (by rw [e]) (by show OwnI _ _ _ _; rw [e]; exact hu) hb1 hl hb h
/-- A list of words of 16 bits. -/
def U16s (B : Nat) (w : World) (A : Option Addr) (ws : List Int) : Prop :=
  0 < ws.length → ∃ b off, A = some ⟨b, off, none⟩ ∧ b < B ∧ ∀ k, k < ws.length → w.cell? ⟨b, off + k, none⟩ = some (.int .u16 (ix ws k)) ∧ 0 ≤ ix ws k ∧ ix ws k ≤ 65535
theorem U16s.step {w w' : World} {A : Option Addr} {xs : List Int} (h : U16s w.heap.size w A xs) (hb : Below w.heap.size w w') : U16s w'.heap.size w' A xs := fun hp => by
  obtain ⟨b, off, hA, hlt, hc⟩ := h hp
  exact ⟨b, off, hA, Nat.lt_of_lt_of_le hlt hb.size, fun k hk => ⟨(hb.cell (p := ⟨b, off + k, none⟩) hlt).trans (hc k hk).1, (hc k hk).2⟩⟩
/-- One of some words. -/
def numF (ws : List Int) (k : Nat) : Int := if ws.length = 0 then 0 else ix ws (k % ws.length)
theorem numF_bd {B : Nat} {w : World} {A : Option Addr} {ws : List Int} (h : U16s B w A ws) (k : Nat) : 0 ≤ numF ws k ∧ numF ws k ≤ 65535 := by
  unfold numF
  split
  · omega
  · obtain ⟨b, off, _, _, hc⟩ := h (by omega)
    exact (hc _ (Nat.mod_lt _ (by omega))).2

set_option maxHeartbeats 400000 in
theorem number_c {B : Nat} (A : Option Addr) (ws : List Int) (c k : Nat) (w : World) (h : U16s B w A ws) (hk : k ≤ 1000000) (_hc : ws.length ≤ c ∧ c ≤ 9223372036854775807) :
    Calls Try.prog 64 #[.slice A ws.length c, .int .i64 (k : Int)] w (Same w (.int .i64 (numF ws k))) := by
  by_cases h0 : ws.length = 0
  · have h0' : ((ws.length : Int) == 0) = true := by simp [h0]
    have HR : Hid (numF ws k = 0) := by show _ = _; simp [numF, h0]
    clear h0
    go_enter Try.func64, Try.ntmps64
    go_wp2
    go_ret
    exact ⟨ret_int HR.out.symm, rfl⟩
  · have h0' : ((ws.length : Int) == 0) = false := by rw [beq_eq_false_iff_ne]; omega
    obtain ⟨b, off, rfl, _, hcl⟩ := h (by omega)
    have hlt := Nat.mod_lt k (show 0 < ws.length by omega)
    obtain ⟨h1, h2, h3⟩ := hcl _ hlt
    have HR : Hid (numF ws k = ix ws (k % ws.length)) := by show _ = _; simp [numF, h0]
    clear hcl
    have e : ((k : Int) % (ws.length : Int)) = ((k % ws.length : Nat) : Int) := by simp
    have hp : 0 < ws.length := by omega
    clear h0
    generalize hj : k % ws.length = j at *
    have HJ := Lib.hid hj
    clear hj
    go_enter Try.func64, Try.ntmps64
    go_wp2
    go_ret
    exact ⟨ret_int HR.out.symm, rfl⟩

/-- A frame by words; a game. -/
def trueA (ns : List Int) (f : Nat) : Int := numF ns (2 * f) % 11
def trueR (ns : List Int) (f : Nat) : List Int := if trueA ns f = 10 then [10] else [trueA ns f, numF ns (2 * f + 1) % (11 - trueA ns f)]
def trueG (ns : List Int) (m : Nat) : List (List Int) := (List.range m).map (trueR ns)
theorem trueG_succ (ns : List Int) (k : Nat) : trueG ns (k + 1) = trueG ns k ++ [trueR ns k] := by simp [trueG, List.range_succ]
theorem trueG_len (ns : List Int) (m : Nat) : (trueG ns m).length = m := by simp [trueG]

set_option maxRecDepth 100000 in
set_option maxHeartbeats 4000000 in
theorem true_c (An : Option Addr) (ns : List Int) (cn m : Nat) (w : World) (hn : U16s w.heap.size w An ns) (hcn : ns.length ≤ cn ∧ cn ≤ 9223372036854775807) (hm : m ≤ 1000) :
    Calls Try.prog 40 #[.int .i64 (m : Int), .slice An ns.length cn] w (OwnRows w (trueG ns m)) := by
  have HN := Lib.hid hn
  clear hn
  go_enter Try.func40, Try.ntmps40
  go_wp2_with fail
  go_loopw [6, 5] (fun i v wr => ∃ (k : Nat) (vs : List Value), k ≤ m ∧ i = .int .i64 k ∧ Rws w.heap.size wr v (trueG ns k).length vs (rx (trueG ns k)) ∧ Below w.heap.size w wr) (fun i _ _ => m - (intOf i).toNat)
  case atStart => exact ⟨0, [], by omega, rfl, Rws.nil _ _ _, Below.refl _ _⟩
  case round =>
    obtain ⟨k, vs, hk, rfl, hR, hb⟩ := hrel
    by_cases h1 : k < m
    · have h1i : (k : Int) < (m : Int) := by omega
      have HR := Lib.hid hR
      have HB := Lib.hid hb
      have hz := hb.size
      have HNk := Lib.hid (HN.out.step hb)
      obtain ⟨n0, n1⟩ := numF_bd HNk.out (2 * k)
      obtain ⟨n2, n3⟩ := numF_bd HNk.out (2 * k + 1)
      have H1 := Lib.hid (number_c An ns cn (2 * k) wr HNk.out (by omega) hcn)
      have H2 := Lib.hid (number_c An ns cn (2 * k + 1) wr HNk.out (by omega) hcn)
      have HX := Lib.hid (trueG_succ ns k)
      have HT : Hid (trueR ns k = if trueA ns k = 10 then [10] else [trueA ns k, numF ns (2 * k + 1) % (11 - trueA ns k)]) := rfl
      have HA : Hid (trueA ns k = numF ns (2 * k) % 11) := rfl
      have HL : Hid ((trueG ns k).length ≤ 1000000) := by show _ ≤ _; rw [trueG_len]; omega
      have HXL : Hid ((trueG ns (k + 1)).length = (trueG ns k).length + 1) := by show _ = _; rw [trueG_len, trueG_len]
      have HT1 : Hid True := trivial
      have z1 : IntKind.i64.wrap (2 * (k : Int)) = ((2 * k : Nat) : Int) := by rw [IntWalk.i64_in _ (by omega)]; omega
      have z2 : IntKind.i64.wrap (((2 * k : Nat) : Int) + 1) = ((2 * k + 1 : Nat) : Int) := by rw [IntWalk.i64_in _ (by omega)]; omega
      generalize hx1 : numF ns (2 * k) = x1 at *
      generalize hx2 : numF ns (2 * k + 1) = x2 at *
      generalize hj2 : 2 * k + 1 = j2 at *
      generalize hj1 : 2 * k = j1 at *
      have HJ1 := Lib.hid hj1
      have HJ2 := Lib.hid hj2
      have HX1 := Lib.hid hx1
      have HX2 := Lib.hid hx2
      have z3 : x1.tmod 11 = x1 % 11 := Int.tmod_eq_emod_of_nonneg n0
      obtain ⟨a, ha⟩ : ∃ a, a = x1 % 11 := ⟨_, rfl⟩
      have ha0 : 0 ≤ a := by omega
      have ha1 : a ≤ 10 := by omega
      have HAA : Hid (trueA ns k = a) := HA.out.trans ha.symm
      rw [← ha] at z3
      have z4 : IntKind.i64.wrap a = a := IntWalk.i64_in _ (by omega)
      clear hR hb hj1 hj2 hx1 hx2 ha
      by_cases h10 : a = 10
      · have h10b : (a == 10) = true := by simp [h10]
        have HTR : Hid (trueR ns k = [10]) := by show _ = _; rw [HT.out, HAA.out, if_pos h10]
        clear h10
        go_wp2_with (first | (clear HT1; go_at_call 64; refine H1.out.mono ?_; rintro e w1 ⟨rfl, rfl⟩) | (at_builtin; refine wpList_newrowsN (.tmp 20) (.tmp 22) rfl rfl w.heap.size _ _ vs (trueG ns k) [10] _ 1 rfl rfl (by decide) rfl rfl HR.out HL.out hz ?_; intro A' c' vs' w2 HR3 HB3))
        go_roundw
        case rel => exact ⟨k + 1, vs', by omega, by go_num, by rw [HXL.out, HX.out, HTR.out]; exact HR3.out, HB.out.trans HB3.out⟩
        case measure => simp [intOf]; omega
      · have h10b : (a == 10) = false := by simp [h10]
        have z5 : IntKind.i64.wrap (11 - a) = 11 - a := IntWalk.i64_in _ (by omega)
        have z6 : x2.tmod (11 - a) = x2 % (11 - a) := Int.tmod_eq_emod_of_nonneg n2
        have m0 := Int.emod_nonneg x2 (b := 11 - a) (by omega)
        have m1 := Int.emod_lt_of_pos x2 (b := 11 - a) (by omega)
        have z7 : IntKind.i64.wrap (x2 % (11 - a)) = x2 % (11 - a) := IntWalk.i64_in _ (by omega)
        have z8 : ¬ (11 - a = 0) := by omega
        have z9 : (11 - a == 0) = false := by rw [beq_eq_false_iff_ne]; omega
        have HTR : Hid (trueR ns k = [a, x2 % (11 - a)]) := by show _ = _; rw [HT.out, HAA.out, if_neg h10]
        clear h10 m0 m1
        go_wp2_with (first | (clear HT1; go_at_call 64; refine H1.out.mono ?_; rintro e w1 ⟨rfl, rfl⟩) | (go_at_call 64; refine H2.out.mono ?_; rintro e w1 ⟨rfl, rfl⟩) | (at_builtin; refine wpList_newrowsN (.tmp 24) (.tmp 35) rfl rfl w.heap.size _ _ vs (trueG ns k) [a, x2 % (11 - a)] _ 2 rfl rfl (by simp) rfl rfl HR.out HL.out hz ?_; intro A' c' vs' w2 HR3 HB3))
        go_roundw
        case rel => exact ⟨k + 1, vs', by omega, by go_num, by rw [HXL.out, HX.out, HTR.out]; exact HR3.out, HB.out.trans HB3.out⟩
        case measure => simp [intOf]; omega
    · obtain rfl : k = m := by omega
      have h1i : ¬ (k : Int) < (k : Int) := by omega
      obtain ⟨A, c, rfl⟩ := ownsRow_form hR.1
      go_wp2_with fail
      go_ret
      exact ⟨A, c, vs, rfl, hR, hb⟩
end Go.Proofs.Ytadjkinpimmhkaa
