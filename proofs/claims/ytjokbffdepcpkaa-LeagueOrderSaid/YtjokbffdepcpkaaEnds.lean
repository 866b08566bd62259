/-
  Own lists of bytes; a copy of one; how many games are open; outcomes by words.
-/
import Derived.Test.YtjokbffdepcpkaaPE
namespace Go.Proofs.Ytjokbffdepcpkaa
open Go.RowKit
set_option linter.unusedSimpArgs false
set_option linter.unusedVariables false

attribute [local go_sem] Oper.semAt_some
theorem infoByt : (Try.prog.info? 5).map (fun i => (i.zero, i.size, i.bytes)) = some (some (.int .u8 0), 1, 1) := by kernel_rfl
theorem one_byts (xs : List Int) : ∀ v ∈ xs.map (Value.int .u8), v.oneCell' = true := by
  intro v hv
  obtain ⟨x, _, rfl⟩ := List.mem_map.1 hv
  rfl
theorem Byts.isrc {B : Nat} {w : World} {A : Option Addr} {xs : List Int} (h : Byts B w A xs) : Src w 1 A xs.length (xs.map (Value.int .u8)) := by
  refine ⟨by simp, fun hA => ?_, fun ad hA j u hu => ?_⟩
  · rcases Nat.eq_zero_or_pos xs.length with h0 | h0
    · exact h0
    · obtain ⟨b, off, hA', _⟩ := h h0
      rw [hA] at hA'
      cases hA'
  · have hj : j < xs.length := by
      rcases Nat.lt_or_ge j xs.length with h | h
      · exact h
      · rw [List.getElem?_eq_none (by simpa using h)] at hu; cases hu
    obtain ⟨b, off, hA', _, hc, _⟩ := h.at_ hj
    rw [hA] at hA'
    injection hA' with hA'
    subst hA'
    rw [add_eq, hc, ix_lt hj]
    simpa [hj] using hu
/-- An own list of numbers, in a block from base on. -/
def OwnU (base : Nat) (w : World) (u : Value) (xs : List Int) : Prop := w.ownsRow base 5 1 u xs.length (xs.map (Value.int .u8))
theorem OwnU.nil (base : Nat) (w : World) : OwnU base w (.slice none 0 0) [] := World.ownsRow_nil _ _ _ _
theorem OwnU.form {base : Nat} {w : World} {u : Value} {xs : List Int} (h : OwnU base w u xs) : ∃ A c, u = .slice A xs.length c := ownsRow_form h
theorem OwnU.kept {base : Nat} {w w' : World} {u : Value} {xs : List Int} (h : OwnU base w u xs) (hb : Below w.heap.size w w') : OwnU base w' u xs := World.ownsRow.kept h (only_below hb none) (by cases u.ownBlock <;> simp)
theorem src_byt (w : World) (y : Int) : Src (w.alloc (.cells #[.int .u8 y] 5)) 1 (some ⟨w.heap.size, 0, none⟩) 1 [.int .u8 y] := by
  refine ⟨rfl, (fun h => by cases h), fun ad hA j x hx => ?_⟩
  injection hA with hA
  subst hA
  cases j with
  | zero =>
    simp at hx
    subst hx
    rw [add_eq]
    simp
  | succ j => simp at hx
section
variable {ops : Array Oper} {rest : List Oper} {o : Oper} {a : Act} {Q : Exit → Act → World → Prop}
theorem wpList_app_byt (s x : Operand) (hgd : o.guard = none) (ho : o.op = .call { callee := .builtin .append, args := #[s, x], argTypes := #[25, 25] }) (base : Nat) (w : World) (u : Value) (xs : List Int) (y : Int)
    (hv : a.eval s = u) (hx : a.eval x = .slice (some ⟨w.heap.size, 0, none⟩) 1 1) (hown : Hid (OwnU base w u xs)) (hl : xs.length ≤ 1000000) (hb : base ≤ w.heap.size)
    (h : ∀ A c w', Hid (OwnU base w' (.slice A (xs.length + 1) c) (xs ++ [y])) → Hid (Below base w w') → wpList Try.prog ops Q rest (a.put o.dst (.slice A (xs.length + 1) c)) w') :
    wpList Try.prog ops Q (o :: rest) a (w.alloc (.cells #[.int .u8 y] 5)) := by
  obtain ⟨i0, hi, hz0, hz1, hz2⟩ := info_parts infoByt
  have hO : w.ownsRow base 5 1 u xs.length (xs.map (Value.int .u8)) := hown
  refine wpList_append_src hgd s x 25 ho base 5 i0 (.int .u8 0) 1 1 Try.underlying25 hi hz0 hz1 hz2 rfl (by decide) u xs.length (xs.map (Value.int .u8)) hv (hO.alloc _) (some ⟨w.heap.size, 0, none⟩) 1 1 [.int .u8 y] hx (src_byt w y) (one_byts [y]) (by unfold maxLen; omega) (by omega) (by simp; omega) ?_
  intro v' w' h1 h2 _
  obtain ⟨A, c, rfl⟩ := ownsRow_form h1
  refine h A c w' ?_ (own_below hO hb h2)
  show OwnU _ _ _ _
  unfold OwnU
  simpa using h1
end
/-- A new own list of numbers. -/
def NewU (w : World) (xs : List Int) (e : Ending) (w' : World) : Prop := ∃ A c, e = .returned (.slice A xs.length c) ∧ OwnU w.heap.size w' (.slice A xs.length c) xs ∧ Below w.heap.size w w'
set_option maxHeartbeats 400000 in
theorem codes20_c {B : Nat} (A : Option Addr) (xs : List Int) (c : Nat) (w : World) (hx : Byts B w A xs) (hl : xs.length ≤ 1000000) : Calls Try.prog 20 #[.slice A xs.length c] w (NewU w xs) := by
  obtain ⟨i0, hi, hz0, hz1, hz2⟩ := info_parts infoByt
  have hs := Lib.hid hx.isrc
  have ho : Hid (w.ownsRow w.heap.size 5 1 (.slice none 0 0) 0 []) := World.ownsRow_nil _ _ _ _
  have h63 : Hid (0 + xs.length ≤ maxLen) := by show _ ≤ _; unfold maxLen; omega
  have hby : Hid ((0 + xs.length) * 1 ≤ 140737488355328) := by show _ ≤ _; omega
  clear hx
  go_enter Try.func20, Try.ntmps20
  go_wp2_with (at_builtin; refine wpList_append_src rfl (.const (.slice none 0 0)) (.tmp 3) 25 rfl w.heap.size 5 i0 (.int .u8 0) 1 1 Try.underlying25 hi hz0 hz1 hz2 rfl (by decide) (.slice none 0 0) 0 [] rfl ho.out A xs.length c _ rfl hs.out (one_byts xs) h63.out hby.out (Nat.le_refl _) ?_; intro v' w1 hown hgrow _; rw [List.nil_append, Nat.zero_add] at hown; obtain ⟨Au, cu, rfl⟩ := ownsRow_form hown; have HO := Lib.hid hown; have HG := Lib.hid hgrow; clear hown hgrow)
  go_ret
  exact ⟨_, _, rfl, HO.out, (Below.refl w.heap.size w).grown HG.out (Nat.le_refl _) (fun k e => by cases e)⟩
theorem OwnU.parts {base : Nat} {w : World} {A : Option Addr} {n c : Nat} {xs : List Int} (h : OwnU base w (.slice A n c) xs) (hx : ∀ k, k < xs.length → 0 ≤ ix xs k ∧ ix xs k ≤ 255) : xs.length ≤ c ∧ c ≤ 9223372036854775807 ∧ Byts w.heap.size w A xs := by
  rcases h.2 with ⟨e, h0⟩ | ⟨g, cap, cur, e, hb, hg, hn, hm, hs, ht⟩
  · injection e with e1 e2 e3
    subst e1 e3
    exact ⟨by omega, by omega, fun hp => by omega⟩
  · injection e with e1 e2 e3
    subst e1 e3
    refine ⟨hn, by unfold maxLen at hm; omega, fun hp => ⟨g, 0, rfl, (Array.getElem?_eq_some_iff.1 hg).1, fun k hk => ⟨?_, hx k hk⟩⟩⟩
    have := h.cells (g := g) rfl k (.int .u8 (ix xs k)) (by rw [List.getElem?_map, List.getElem?_eq_getElem hk, ix_lt hk]; rfl)
    rwa [add_eq] at this
theorem Byts.rng {B : Nat} {w : World} {A : Option Addr} {xs : List Int} (h : Byts B w A xs) : ∀ k, k < xs.length → 0 ≤ ix xs k ∧ ix xs k ≤ 255 := fun k hk => by
  obtain ⟨_, _, _, _, _, h⟩ := h.at_ hk
  exact h
/-- How many of the first k games are open. -/
def opK (gs : List Gm) (k : Nat) : Nat := (opensL (gs.take k)).length
theorem opK_succ {gs : List Gm} {k : Nat} (hk : k < gs.length) : opK gs (k + 1) = if (gmx gs k).op = true then opK gs k + 1 else opK gs k := by
  unfold opK opensL
  rw [List.take_succ_eq_append_getElem hk, List.filter_append, List.length_append, ← gmx_lt hk]
  by_cases h : (gmx gs k).op = true <;> simp [h]
theorem opK_le (gs : List Gm) (k : Nat) : opK gs k ≤ k := by
  unfold opK
  have h1 := opens_len (gs.take k)
  have h2 := List.length_take_le k gs
  omega
set_option maxRecDepth 100000 in
set_option maxHeartbeats 4000000 in
theorem open26_c (l : Lg) (A : Option Addr) (c : Nat) (w : World) (hl : Gms w.heap.size w A l.games) (hc : l.games.length ≤ c ∧ c ≤ 9223372036854775807) (hn : l.games.length ≤ 1000) :
    Calls Try.prog 26 #[.agg #[.int .i64 l.teams, .slice A l.games.length c]] w (Ans w (.int .i64 ((opensL l.games).length : Int))) := by
  have hb : Below w.heap.size w (w.alloc (.cells #[.int .i64 l.teams, .slice A l.games.length c] 24)) := (Below.refl _ _).alloc (Nat.le_refl _) _
  have HB := Lib.hid hb
  have HL := Lib.hid (hl.step hb)
  have k1 : (w.alloc (.cells #[.int .i64 l.teams, .slice A l.games.length c] 24)).cell? ⟨w.heap.size, 1, none⟩ = some (.slice A l.games.length c) := by simp
  clear hb hl
  go_enter Try.func26, Try.ntmps26
  go_wp2_with fail
  generalize (w.alloc (.cells #[.int .i64 l.teams, .slice A l.games.length c] 24)) = x1 at *
  go_loop [3, 4] (fun s i => ∃ k : Nat, k ≤ l.games.length ∧ i = .int .i64 k ∧ s = .int .i64 (opK l.games k : Nat)) (fun _ i => l.games.length - (intOf i).toNat)
  case atStart => exact ⟨0, by omega, rfl, rfl⟩
  case round =>
    obtain ⟨k, hk, rfl, rfl⟩ := hrel
    have hwk : IntKind.i64.wrap ((k : Int) + 1) = (k : Int) + 1 := IntWalk.i64_in _ (by omega)
    by_cases h1 : k < l.games.length
    · have h1i : (k : Int) < (l.games.length : Int) := by omega
      obtain ⟨b, off, rfl, hb0, -, -, -, -, c5⟩ := HL.out.at_ h1
      have HS := Lib.hid (opK_succ h1)
      have hle := opK_le l.games k
      have hwo : IntKind.i64.wrap ((opK l.games k : Int) + 1) = (opK l.games k : Int) + 1 := IntWalk.i64_in _ (by omega)
      cases hop : (gmx l.games k).op
      · rw [hop] at c5 HS
        clear hop
        generalize opK l.games k = ok at *
        go_wp2_with fail
        go_round
        case rel => exact ⟨k + 1, by omega, by go_num, by rw [HS.out]; rfl⟩
        case measure => simp [intOf]; omega
      · rw [hop] at c5 HS
        clear hop
        generalize opK l.games k = ok at *
        go_wp2_with fail
        go_round
        case rel => exact ⟨k + 1, by omega, by go_num, by rw [HS.out]; simp⟩
        case measure => simp [intOf]; omega
    · obtain rfl : k = l.games.length := by omega
      have h1i : ¬ (l.games.length : Int) < (l.games.length : Int) := by omega
      go_wp2_with fail
      go_ret
      exact ⟨ret_int (by unfold opK; rw [List.take_length]), HB.out⟩
/-- Outcomes by words. -/
def endL (ws : List Int) (n : Nat) : List Int := (List.range n).map fun i => 1 + wordV ws i % 3
theorem endL_succ (ws : List Int) (n : Nat) : endL ws (n + 1) = endL ws n ++ [1 + wordV ws n % 3] := by simp [endL, List.range_succ]
theorem endL_len (ws : List Int) (n : Nat) : (endL ws n).length = n := by simp [endL]
theorem endL_rng (ws : List Int) (n k : Nat) (hk : k < n) : 1 ≤ ix (endL ws n) k ∧ ix (endL ws n) k ≤ 3 := by
  have : ix (endL ws n) k = 1 + wordV ws k % 3 := by simp [endL, ix, hk]
  omega
set_option maxRecDepth 100000 in
set_option maxHeartbeats 4000000 in
theorem ended36_c (l : Lg) (A Aw : Option Addr) (c cw : Nat) (ws : List Int) (w : World) (hl : Gms w.heap.size w A l.games) (hc : l.games.length ≤ c ∧ c ≤ 9223372036854775807) (hn : l.games.length ≤ 1000) (hw : Wds w.heap.size w Aw ws) (hwl : ws.length ≤ cw ∧ cw ≤ 9223372036854775807) :
    Calls Try.prog 36 #[.agg #[.int .i64 l.teams, .slice A l.games.length c], .slice Aw ws.length cw] w (NewU w (endL ws (opensL l.games).length)) := by
  have hb : Below w.heap.size w (w.alloc (.cells #[.int .i64 l.teams, .slice A l.games.length c] 24)) := (Below.refl _ _).alloc (Nat.le_refl _) _
  have HB := Lib.hid hb
  have HL := Lib.hid (hl.step hb)
  have HW := Lib.hid (hw.step hb)
  have HOP := Lib.hid (fun (W : World) (h : Gms W.heap.size W A l.games) => open26_c l A c W h hc hn)
  have HRW := Lib.hid (fun i => wordV_rng hw i)
  have k0 : (w.alloc (.cells #[.int .i64 l.teams, .slice A l.games.length c] 24)).cell? ⟨w.heap.size, 0, none⟩ = some (.int .i64 l.teams) := by simp
  have k1 : (w.alloc (.cells #[.int .i64 l.teams, .slice A l.games.length c] 24)).cell? ⟨w.heap.size, 1, none⟩ = some (.slice A l.games.length c) := by simp
  have hol := opens_len l.games
  obtain ⟨n, hnn⟩ : ∃ n, (opensL l.games).length = n := ⟨_, rfl⟩
  rw [hnn] at HOP hol ⊢
  clear hb hl hw hnn
  go_enter Try.func36, Try.ntmps36
  go_wp2_with fail
  generalize (w.alloc (.cells #[.int .i64 l.teams, .slice A l.games.length c] 24)) = x1 at *
  go_loopw [5, 6] (fun v i wr => ∃ (k : Nat) (A' : Option Addr) (c' : Nat), k ≤ n ∧ i = .int .i64 k ∧ v = .slice A' k c' ∧ OwnU x1.heap.size wr (.slice A' k c') (endL ws k) ∧ Below x1.heap.size x1 wr) (fun _ i _ => n - (intOf i).toNat)
  case atStart => exact ⟨0, none, 0, by omega, rfl, rfl, OwnU.nil _ _, Below.refl _ _⟩
  case round =>
    rename_i vv _
    obtain ⟨k, A', c', hk, rfl, rfl, ho, hb⟩ := hrel
    have j0 := cell_of_ans hb k0
    have j1 := cell_of_ans hb k1
    have hz1 := HB.out.size
    have HO := Lib.hid ho
    have HBR := Lib.hid hb
    have HLr := Lib.hid (HL.out.step hb)
    clear ho hb
    by_cases h1 : k < n
    · have h1i : (k : Int) < (n : Int) := by omega
      have hwk : IntKind.i64.wrap ((k : Int) + 1) = (k : Int) + 1 := IntWalk.i64_in _ (by omega)
      go_wp2_with fail
      refine (HOP.out _ HLr.out).mono ?_
      rintro e x2 ⟨rfl, hb⟩
      have HBR2 : Hid (Below x1.heap.size x1 x2) := HBR.out.trans (hb.mono HBR.out.size)
      have HO2 := Lib.hid (World.ownsRow.kept HO.out (only_below hb none) (own_ne _) : OwnU x1.heap.size x2 (.slice A' k c') (endL ws k))
      have HW2 := Lib.hid (HW.out.step HBR2.out)
      have HC := Lib.hid (word33_c Aw cw ws k x2 HW2.out (by omega) (by omega))
      obtain ⟨m, hm⟩ : ∃ m, wordV ws k % 3 = m := ⟨_, rfl⟩
      have hr := HRW.out k
      have hm1 : (wordV ws k).tmod 3 = m := by rw [Int.tmod_eq_emod_of_nonneg hr.1]; exact hm
      have hm3 : IntKind.i64.wrap m = m := IntWalk.i64_in _ (by omega)
      have hm4 : IntKind.i64.wrap (1 + m) = 1 + m := IntWalk.i64_in _ (by omega)
      have hm5 : IntKind.u8.wrap (1 + m) = 1 + m := by simp [IntKind.wrap, IntKind.bits, IntKind.signed]; omega
      have HS : Hid (endL ws (k + 1) = endL ws k ++ [1 + m]) := by show _ = _; rw [endL_succ, hm]
      have HEL : Hid ((endL ws k).length = k) := endL_len ws k
      have hzx : x1.heap.size ≤ x2.heap.size := HBR2.out.size
      clear hb HO HBR HLr
      generalize wordV ws k = wv at *
      go_wp2_with fail
      refine HC.out.mono ?_
      rintro e x3 ⟨rfl, rfl⟩
      generalize endL ws k = ek at *
      go_wp2_with (at_builtin; refine wpList_app_byt (.tmp 13) (.tmp 20) rfl rfl x1.heap.size x2 _ ek (1 + m) rfl rfl HO2 (by have := HEL.out; omega) hzx ?_; intro A9 c9 w9 HO9 HB9)
      have h9 := HO9.out
      have h8 := HB9.out
      rw [HEL.out] at h9
      have HO10 := Lib.hid h9
      clear h9
      try simp only [HEL.out]
      go_roundw
      case rel => exact ⟨k + 1, A9, c9, by omega, by go_num, rfl, by rw [HS.out]; exact HO10.out, HBR2.out.trans HB9.out⟩
      case measure => simp [intOf]; omega
    · obtain rfl : k = n := by omega
      have h1i : ¬ (k : Int) < (k : Int) := by omega
      go_wp2_with fail
      refine (HOP.out _ HLr.out).mono ?_
      rintro e x2 ⟨rfl, hb⟩
      have HO2 := Lib.hid (World.ownsRow.kept HO.out (only_below hb none) (own_ne _) : OwnU x1.heap.size x2 (.slice A' k c') (endL ws k))
      have HBF : Hid (Below w.heap.size w x2) := HB.out.trans ((HBR.out.trans (hb.mono HBR.out.size)).mono HB.out.size)
      clear hb
      go_wp2_with fail
      go_ret
      exact ⟨A', c', by rw [endL_len]; rfl, by rw [endL_len]; exact ownsRow_base HO2.out hz1, HBF.out⟩
end Go.Proofs.Ytjokbffdepcpkaa
