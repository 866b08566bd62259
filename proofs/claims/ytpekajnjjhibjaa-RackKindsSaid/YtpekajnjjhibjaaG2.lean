/-
  The reference's Reached, Kind.
-/
import Derived.Test.YtpekajnjjhibjaaG1
namespace Go.Proofs.Ytpekajnjjhibjaa
open Go.RowKit
set_option linter.unusedSimpArgs false
set_option linter.unusedVariables false

attribute [local go_sem] Oper.semAt_some
def lenV : Value → Nat
  | .slice _ n _ => n
  | _ => 0
def bitV : Value → Nat
  | .bool true => 1
  | _ => 0
theorem OwnI.empty {base : Nat} {w : World} (h : base ≤ w.heap.size) : OwnI base (w.alloc (.cells #[] 3)) (.slice (some ⟨w.heap.size, 0, none⟩) 0 0) [] :=
  ⟨rfl, .inr ⟨w.heap.size, 0, #[], rfl, h, World.alloc_heap_new _ _, Nat.le_refl _, by unfold maxLen; omega, rfl, rfl⟩⟩
section
variable {ops : Array Oper} {rest : List Oper} {o : Oper} {a : Act} {Q : Exit → Act → World → Prop}
/-- append of a whole list to an empty one that has been made -/
theorem wpList_copyE (s x : Operand) (hgd : o.guard = none) (ho : o.op = .call { callee := .builtin .append, args := #[s, x], argTypes := #[25, 25] }) {B : Nat} (base : Nat) (w : World) (A : Option Addr) (xs : List Int) (c : Nat)
    (hv : a.eval s = .slice (some ⟨w.heap.size, 0, none⟩) 0 0) (hx : a.eval x = .slice A xs.length c) (hsrc : Hid (Ints B w A xs)) (hB : B ≤ w.heap.size) (hl : xs.length ≤ 1000000) (hb : base ≤ w.heap.size)
    (h : ∀ A' c' w', Hid (OwnI base w' (.slice A' xs.length c') xs) → Hid (Below base w w') → wpList Try.prog ops Q rest (a.put o.dst (.slice A' xs.length c')) w') :
    wpList Try.prog ops Q (o :: rest) a (w.alloc (.cells #[] 3)) := by
  obtain ⟨i0, hi, hz0, hz1, hz2⟩ := info_parts infoInt
  have hs : Src (w.alloc (.cells #[] 3)) 1 A xs.length (xs.map (Value.int .i64)) := (hsrc.out.alloc hB _).isrc
  refine wpList_append_src hgd s x 25 ho base 3 i0 (.int .i64 0) 1 8 Try.underlying25 hi hz0 hz1 hz2 rfl (by decide) _ 0 [] hv (OwnI.empty hb) A xs.length c _ hx hs (one_ints xs) (by unfold maxLen; omega) (by omega) (by simp; omega) ?_
  intro v' w' h1 h2 _
  rw [List.nil_append, Nat.zero_add] at h1
  obtain ⟨A', c', rfl⟩ := ownsRow_form h1
  refine h A' c' w' h1 ?_
  exact ((Below.refl base w).alloc hb _).grown h2 (by simp; omega) (fun k e => by injection e with e; subst e; exact hb)
end
/-- What the reference's Reached answers: a list of pins. -/
def ReachP (s a : Nat) (w : World) (e : Ending) (w' : World) : Prop := ∃ (ps : List Nat) (A : Option Addr) (c : Nat), e = .returned (.slice A ps.length c) ∧ RInv s a ps ∧ Shut s ps (listS s).length ∧ Below w.heap.size w w'
theorem mem_natsI {ps : List Nat} {y : Nat} : (y : Int) ∈ natsI ps ↔ y ∈ ps := by
  simp only [natsI, List.mem_map]
  constructor
  · rintro ⟨q, h, e⟩
    have e' : (q : Int) = (y : Int) := e
    rw [show y = q by omega]
    exact h
  · intro h
    exact ⟨y, h, rfl⟩
theorem natsI_app (ps : List Nat) (y : Nat) : natsI (ps ++ [y]) = natsI ps ++ [(y : Int)] := by simp [natsI]
theorem shut_succ {s i : Nat} {ps : List Nat} (h : Shut s ps i) (h2 : ∀ (hi : i < (listS s).length), ∀ x ∈ ps, nbB (listS s)[i] x = true → (listS s)[i] ∈ ps) : Shut s ps (i + 1) := fun j hj hji x hx hn => by
  by_cases e : j = i
  · subst e; exact h2 hj x hx hn
  · exact h j hj (by omega) x hx hn
theorem mem_upto {ps : List Nat} {y : Nat} {k : Nat} (hk : k = ps.length) (h : ∀ j (hj : j < ps.length), j < k → nbB y ps[j] = true → y ∈ ps) : ∀ x ∈ ps, nbB y x = true → y ∈ ps := fun x hx hn => by
  obtain ⟨j, hj, e⟩ := List.getElem_of_mem hx
  exact h j hj (by omega) (by rw [e]; exact hn)
set_option maxRecDepth 100000 in
set_option maxHeartbeats 16000000 in
theorem reached76_c (r : Rk) (A xA fA : Option Addr) (c cx cf s a : Nat) (w : World) (hr : Ok r) (hs : s < 2 ^ 10) (ha : s.testBit a = true) (hx : Ints w.heap.size w xA (natsI (listS s))) (hcx : (natsI (listS s)).length ≤ cx ∧ cx ≤ 9223372036854775807) (hf : Ints w.heap.size w fA [(a : Int)]) :
    Calls Try.prog 76 #[.agg #[.int .i64 r.rows, .int .i64 r.mid, .int .i64 r.gap, .int .i64 r.reach, .slice A r.links.length c], .slice xA (natsI (listS s)).length cx, .slice fA 1 cf] w (ReachP s a w) := by
  have HB := Lib.hid (Below.refl w.heap.size w)
  have HX := Lib.hid hx
  have HF := Lib.hid hf
  clear hx hf
  have hb : Below w.heap.size w (w.alloc (.cells #[.int .i64 r.rows, .int .i64 r.mid, .int .i64 r.gap, .int .i64 r.reach, .slice A r.links.length c] 24)) := (Below.refl _ _).alloc (Nat.le_refl _) _
  replace HX := Lib.hid (HX.out.step hb)
  replace HF := Lib.hid (HF.out.step hb)
  replace HB := Lib.hid (HB.out.trans (hb.mono HB.out.size))
  clear hb
  have k0 : (w.alloc (.cells #[.int .i64 r.rows, .int .i64 r.mid, .int .i64 r.gap, .int .i64 r.reach, .slice A r.links.length c] 24)).cell? ⟨w.heap.size, 0, none⟩ = some (.int .i64 r.rows) := by simp
  have k1 : (w.alloc (.cells #[.int .i64 r.rows, .int .i64 r.mid, .int .i64 r.gap, .int .i64 r.reach, .slice A r.links.length c] 24)).cell? ⟨w.heap.size, 1, none⟩ = some (.int .i64 r.mid) := by simp
  have k2 : (w.alloc (.cells #[.int .i64 r.rows, .int .i64 r.mid, .int .i64 r.gap, .int .i64 r.reach, .slice A r.links.length c] 24)).cell? ⟨w.heap.size, 2, none⟩ = some (.int .i64 r.gap) := by simp
  have k3 : (w.alloc (.cells #[.int .i64 r.rows, .int .i64 r.mid, .int .i64 r.gap, .int .i64 r.reach, .slice A r.links.length c] 24)).cell? ⟨w.heap.size, 3, none⟩ = some (.int .i64 r.reach) := by simp
  have k4 : (w.alloc (.cells #[.int .i64 r.rows, .int .i64 r.mid, .int .i64 r.gap, .int .i64 r.reach, .slice A r.links.length c] 24)).cell? ⟨w.heap.size, 4, none⟩ = some (.slice A r.links.length c) := by simp
  have HNB := Lib.hid (fun (a b : Nat) (W : World) ha hb => neighbours99_c r A c a b W hr ha hb)
  have HLn := Lib.hid (show (natsI (listS s)).length = (listS s).length from natsI_len _)
  have HL10 : Hid (∀ p ∈ listS s, p < 10 ∧ s.testBit p = true) := fun p hp => mem_listS.1 hp
  have hml : (listS s).length ≤ 10 := many_le s
  have HPL : Hid (∀ ps, RInv s a ps → ps.length ≤ (listS s).length) := fun ps h => h.len hs
  have HP10 : Hid (∀ ps, RInv s a ps → ∀ p ∈ ps, p < 10) := fun ps h p hp => bit_lt hs (h.inS p hp)
  have HR0 := Lib.hid (RInv.start ha)
  have hlt := World.block_lt_of_cell? _ _ k0
  clear hr hs ha
  go_enter Try.func76, Try.ntmps76
  go_upto_region 1 with fail
  generalize (w.alloc (.cells #[.int .i64 r.rows, .int .i64 r.mid, .int .i64 r.gap, .int .i64 r.reach, .slice A r.links.length c] 24)) = x1 at *
  go_wp2_with (at_builtin; refine wpList_copyE (.tmp 11) (.tmp 12) rfl rfl x1.heap.size x1 fA [(a : Int)] cf rfl rfl HF (Nat.le_refl _) (by simp) (Nat.le_refl _) ?_; intro A0 c0 w0 HO0 HB0)
  have hb0 := HB0.out
  replace k0 := cell_of_ans hb0 k0
  replace k1 := cell_of_ans hb0 k1
  replace k2 := cell_of_ans hb0 k2
  replace k3 := cell_of_ans hb0 k3
  replace k4 := cell_of_ans hb0 k4
  replace HX := Lib.hid (HX.out.below hb0)
  clear hb0 HF
  go_loopw [7, 8, 9, 10] (fun o g i k wr => ∃ (ps : List Nat) (ag : Bool), g = .bool ag ∧ RInv s a ps ∧ OwnI x1.heap.size wr o (natsI ps) ∧ Below x1.heap.size w0 wr ∧ (ag = false → Shut s ps (listS s).length)) (fun o g _ _ _ => 2 * ((listS s).length - lenV o) + bitV g)
  case atStart => exact ⟨[a], true, rfl, HR0.out, HO0.out, Below.refl _ _, fun h => by cases h⟩
  case round =>
    clear HO0 HR0
    obtain ⟨ps0, ag0, rfl, hri, ho, hbr, hsh⟩ := hrel
    have HRI := Lib.hid hri
    have HO := Lib.hid ho
    have HBR := Lib.hid hbr
    have HSH := Lib.hid hsh
    obtain ⟨Ao, co, rfl⟩ := ho.form
    clear hri ho hbr hsh
    cases ag0
    · have HSH0 := Lib.hid (HSH.out rfl)
      clear HNB HL10 HX HSH
      go_wp2_with fail
      go_ret
      have e : (natsI ps0).length = ps0.length := natsI_len _
      refine ⟨ps0, Ao, co, by rw [← e]; rfl, HRI.out, HSH0.out, HB.out.trans ((HB0.out.trans HBR.out).mono HB.out.size)⟩
    · clear HSH
      go_wp2_with fail
      generalize wr = wo at *
      go_loopw [7, 8, 9, 10] (fun o g i k wr => ∃ (ii : Nat) (ps : List Nat) (ag : Bool), ii ≤ (listS s).length ∧ i = .int .i64 ii ∧ g = .bool ag ∧ RInv s a ps ∧ OwnI x1.heap.size wr o (natsI ps) ∧ Below x1.heap.size w0 wr ∧ ps0.length ≤ ps.length ∧ (ag = true → ps0.length < ps.length) ∧ (ag = false → Shut s ps ii)) (fun _ _ i _ _ => (listS s).length - (intOf i).toNat)
      case atStart => exact ⟨0, ps0, false, by omega, rfl, rfl, HRI.out, HO.out, HBR.out, Nat.le_refl _, fun h => (by cases h), fun _ j hj h => absurd h (by omega)⟩
      case round =>
        clear HRI HO HBR
        obtain ⟨i, ps1, ag1, hi, rfl, rfl, hri, ho, hbr, hge, hgt, hsh⟩ := hrel
        have HRI := Lib.hid hri
        have HO := Lib.hid ho
        have HBR := Lib.hid hbr
        have HSH := Lib.hid hsh
        have HGT := Lib.hid hgt
        have HGE := Lib.hid hge
        obtain ⟨Ao1, co1, rfl⟩ := ho.form
        clear hri ho hbr hsh hgt hge
        by_cases h1 : i < (listS s).length
        · have hil : (i : Int) < ((natsI (listS s)).length : Int) := by have := HLn.out; omega
          obtain ⟨y, hy⟩ : ∃ y, y = (listS s)[i] := ⟨_, rfl⟩
          have hy2 := HL10.out _ (List.getElem_mem h1)
          rw [← hy] at hy2
          obtain ⟨hy10, hys⟩ := hy2
          have HYS := Lib.hid hys
          have HIX : Hid (ix (natsI (listS s)) i = (y : Int)) := by show _ = _; rw [ix_nats h1, hy]
          have HSUC : Hid (∀ ps, Shut s ps i → (∀ x ∈ ps, nbB y x = true → y ∈ ps) → Shut s ps (i + 1)) := fun ps h h2 => shut_succ h fun hi x hx hn => (by rw [← hy] at hn ⊢; exact h2 x hx hn)
          clear hy hys
          go_wp2_with fail
          generalize wr = wt at *
          go_loopw [7, 8, 10] (fun o g k wr => ∃ (kk : Nat) (ps : List Nat) (ag : Bool), kk ≤ ps.length ∧ k = .int .i64 kk ∧ g = .bool ag ∧ RInv s a ps ∧ OwnI x1.heap.size wr o (natsI ps) ∧ Below x1.heap.size w0 wr ∧ ps0.length ≤ ps.length ∧ (ag = true → ps0.length < ps.length) ∧ (ag = false → Shut s ps i ∧ ∀ j (hj : j < ps.length), j < kk → nbB y ps[j] = true → y ∈ ps)) (fun o _ k _ => 2 * ((listS s).length - lenV o) + (lenV o - (intOf k).toNat))
          case atStart => exact ⟨0, ps1, ag1, by omega, rfl, rfl, HRI.out, HO.out, HBR.out, HGE.out, HGT.out, fun h => ⟨HSH.out h, fun j hj h => absurd h (by omega)⟩⟩
          case round =>
            clear HRI HO HBR HSH HGE HGT
            obtain ⟨k, ps, ag, hk, rfl, rfl, hri, ho, hbr, hge, hgt, hsh⟩ := hrel
            have HRI := Lib.hid hri
            have HO := Lib.hid ho
            have HBR := Lib.hid hbr
            have HSH := Lib.hid hsh
            have HGT := Lib.hid hgt
            have HGE := Lib.hid hge
            obtain ⟨Ao2, co2, rfl⟩ := ho.form
            have HNL : Hid ((natsI ps).length = ps.length) := natsI_len _
            have hps := HPL.out ps hri
            clear hri ho hbr hsh hgt hge
            by_cases h2 : k < ps.length
            · have hkl : (k : Int) < ((natsI ps).length : Int) := by have := HNL.out; omega
              obtain ⟨z, hz⟩ : ∃ z, z = ps[k] := ⟨_, rfl⟩
              have hz10 : z < 10 := HP10.out ps HRI.out z (by rw [hz]; exact List.getElem_mem h2)
              have HZM : Hid (z ∈ ps) := by show z ∈ ps; rw [hz]; exact List.getElem_mem h2
              have HZX : Hid (ix (natsI ps) k = (z : Int)) := by show _ = _; rw [ix_nats h2, hz]
              have HKK : Hid (∀ b, (nbB y z = true → b) → (∀ j (hj : j < ps.length), j < k → nbB y ps[j] = true → b) → ∀ j (hj : j < ps.length), j < k + 1 → nbB y ps[j] = true → b) := fun b e1 e2 j hj hjk hn => (by
                by_cases e : j = k
                · subst e; exact e1 (by rw [hz]; exact hn)
                · exact e2 j hj (by omega) hn)
              have hwr : x1.heap.size ≤ wr.heap.size := by have := HBR.out.size; have := HB0.out.size; omega
              obtain ⟨hcl1, hcl2, hle⟩ := isInts_parts HO.out.isInts
              have HI := Lib.hid hle
              obtain ⟨b1, o1, hA1, hlt1, c1⟩ := (HX.out.below HBR.out).at_ (k := i) (by have := HLn.out; omega)
              obtain ⟨b2, o2, hA2, hlt2, c2⟩ := hle.at_ (k := k) (by have := HNL.out; omega)
              rw [HIX.out] at c1
              rw [HZX.out] at c2
              have HN := Lib.hid (fun W => HNB.out y z W hy10 hz10)
              have HHA := Lib.hid (fun (W : World) (h : Ints W.heap.size W Ao2 (natsI ps)) => has35_c (B := W.heap.size) Ao2 (natsI ps) co2 (y : Int) W h ⟨hcl1, hcl2⟩)
              have HHB : Hid (hasB (natsI ps) (y : Int) = decide (y ∈ ps)) := by show _ = _; rw [Bool.eq_iff_iff, hasB_iff, decide_eq_true_eq]; exact mem_natsI
              rw [HHB.out] at HHA
              clear hle hz HZX HHB
              replace k0 := (HBR.out.cell (p := ⟨w.heap.size, 0, none⟩) hlt).trans k0
              replace k1 := (HBR.out.cell (p := ⟨w.heap.size, 1, none⟩) hlt).trans k1
              replace k2 := (HBR.out.cell (p := ⟨w.heap.size, 2, none⟩) hlt).trans k2
              replace k3 := (HBR.out.cell (p := ⟨w.heap.size, 3, none⟩) hlt).trans k3
              replace k4 := (HBR.out.cell (p := ⟨w.heap.size, 4, none⟩) hlt).trans k4
              obtain ⟨pl, hpl⟩ : ∃ pl, pl = natsI ps := ⟨_, rfl⟩
              have HPLQ := Lib.hid hpl
              simp only [← hpl] at HO hkl HNL HI HHA hcl1 c2 ⊢
              clear hpl
              subst hA1 hA2
              cases en : nbB y z
              · rw [en] at HN
                go_upto_region 11 with fail
                refine wp_region_noPanic ?_
                have hS : (fun W' : World => Below wr.heap.size wr W') wr.drew := (Below.refl _ _).drew
                refine wp_region_any (by kernel_rfl) (wpAny_of_T (S := fun W' : World => Below wr.heap.size wr W') (m := 19) _ _ _ _ ?_)
                refine' T_take (i := 0) (v := _) rfl (by kernel_rfl) (by kernel_rfl) (by kernel_rfl) (by kernel_rfl) (fun _ _ _ h => h) (by kernel_rfl) hS ?_ ?_
                rotate_left 1
                · intro Wv hW
                  replace k0 := cell_of_ans hW k0
                  replace k1 := cell_of_ans hW k1
                  replace k2 := cell_of_ans hW k2
                  replace k3 := cell_of_ans hW k3
                  replace k4 := cell_of_ans hW k4
                  replace c1 := cell_of_ans hW c1
                  replace c2 := cell_of_ans hW c2
                  go_simp
                  first | done | with_reducible rfl | omega
                try simp only [Act.put, List.setIfInBounds_toArray, List.set_cons_zero, List.set_cons_succ]
                refine' T_take (i := 1) (v := _) rfl (by kernel_rfl) (by kernel_rfl) (by kernel_rfl) (by kernel_rfl) (fun _ _ _ h => h) (by kernel_rfl) hS ?_ ?_
                rotate_left 1
                · intro Wv hW
                  replace k0 := cell_of_ans hW k0
                  replace k1 := cell_of_ans hW k1
                  replace k2 := cell_of_ans hW k2
                  replace k3 := cell_of_ans hW k3
                  replace k4 := cell_of_ans hW k4
                  replace c1 := cell_of_ans hW c1
                  replace c2 := cell_of_ans hW c2
                  go_simp
                  first | done | with_reducible rfl | omega
                try simp only [Act.put, List.setIfInBounds_toArray, List.set_cons_zero, List.set_cons_succ]
                refine' T_take (i := 2) (v := _) rfl (by kernel_rfl) (by kernel_rfl) (by kernel_rfl) (by kernel_rfl) (fun _ _ _ h => h) (by kernel_rfl) hS ?_ ?_
                rotate_left 1
                · intro Wv hW
                  replace k0 := cell_of_ans hW k0
                  replace k1 := cell_of_ans hW k1
                  replace k2 := cell_of_ans hW k2
                  replace k3 := cell_of_ans hW k3
                  replace k4 := cell_of_ans hW k4
                  replace c1 := cell_of_ans hW c1
                  replace c2 := cell_of_ans hW c2
                  go_simp
                  first | done | with_reducible rfl | omega
                try simp only [Act.put, List.setIfInBounds_toArray, List.set_cons_zero, List.set_cons_succ]
                refine' T_take (i := 3) (v := _) rfl (by kernel_rfl) (by kernel_rfl) (by kernel_rfl) (by kernel_rfl) (fun _ _ _ h => h) (by kernel_rfl) hS ?_ ?_
                rotate_left 1
                · intro Wv hW
                  replace k0 := cell_of_ans hW k0
                  replace k1 := cell_of_ans hW k1
                  replace k2 := cell_of_ans hW k2
                  replace k3 := cell_of_ans hW k3
                  replace k4 := cell_of_ans hW k4
                  replace c1 := cell_of_ans hW c1
                  replace c2 := cell_of_ans hW c2
                  go_simp
                  first | done | with_reducible rfl | omega
                try simp only [Act.put, List.setIfInBounds_toArray, List.set_cons_zero, List.set_cons_succ]
                refine' T_take (i := 4) (v := _) rfl (by kernel_rfl) (by kernel_rfl) (by kernel_rfl) (by kernel_rfl) (fun _ _ _ h => h) (by kernel_rfl) hS ?_ ?_
                rotate_left 1
                · intro Wv hW
                  replace k0 := cell_of_ans hW k0
                  replace k1 := cell_of_ans hW k1
                  replace k2 := cell_of_ans hW k2
                  replace k3 := cell_of_ans hW k3
                  replace k4 := cell_of_ans hW k4
                  replace c1 := cell_of_ans hW c1
                  replace c2 := cell_of_ans hW c2
                  go_simp
                  first | done | with_reducible rfl | omega
                try simp only [Act.put, List.setIfInBounds_toArray, List.set_cons_zero, List.set_cons_succ]
                refine' T_take (i := 5) (v := _) rfl (by kernel_rfl) (by kernel_rfl) (by kernel_rfl) (by kernel_rfl) (fun _ _ _ h => h) (by kernel_rfl) hS ?_ ?_
                rotate_left 1
                · intro Wv hW
                  replace k0 := cell_of_ans hW k0
                  replace k1 := cell_of_ans hW k1
                  replace k2 := cell_of_ans hW k2
                  replace k3 := cell_of_ans hW k3
                  replace k4 := cell_of_ans hW k4
                  replace c1 := cell_of_ans hW c1
                  replace c2 := cell_of_ans hW c2
                  go_simp
                  first | done | with_reducible rfl | omega
                try simp only [Act.put, List.setIfInBounds_toArray, List.set_cons_zero, List.set_cons_succ]
                refine' T_take (i := 6) (v := _) rfl (by kernel_rfl) (by kernel_rfl) (by kernel_rfl) (by kernel_rfl) (fun _ _ _ h => h) (by kernel_rfl) hS ?_ ?_
                rotate_left 1
                · intro Wv hW
                  replace k0 := cell_of_ans hW k0
                  replace k1 := cell_of_ans hW k1
                  replace k2 := cell_of_ans hW k2
                  replace k3 := cell_of_ans hW k3
                  replace k4 := cell_of_ans hW k4
                  replace c1 := cell_of_ans hW c1
                  replace c2 := cell_of_ans hW c2
                  go_simp
                  first | done | with_reducible rfl | omega
                try simp only [Act.put, List.setIfInBounds_toArray, List.set_cons_zero, List.set_cons_succ]
                refine' T_take (i := 7) (v := _) rfl (by kernel_rfl) (by kernel_rfl) (by kernel_rfl) (by kernel_rfl) (fun _ _ _ h => h) (by kernel_rfl) hS ?_ ?_
                rotate_left 1
                · intro Wv hW
                  replace k0 := cell_of_ans hW k0
                  replace k1 := cell_of_ans hW k1
                  replace k2 := cell_of_ans hW k2
                  replace k3 := cell_of_ans hW k3
                  replace k4 := cell_of_ans hW k4
                  replace c1 := cell_of_ans hW c1
                  replace c2 := cell_of_ans hW c2
                  go_simp
                  first | done | with_reducible rfl | omega
                try simp only [Act.put, List.setIfInBounds_toArray, List.set_cons_zero, List.set_cons_succ]
                refine' T_take (i := 8) (v := _) rfl (by kernel_rfl) (by kernel_rfl) (by kernel_rfl) (by kernel_rfl) (fun _ _ _ h => h) (by kernel_rfl) hS ?_ ?_
                rotate_left 1
                · intro Wv hW
                  replace k0 := cell_of_ans hW k0
                  replace k1 := cell_of_ans hW k1
                  replace k2 := cell_of_ans hW k2
                  replace k3 := cell_of_ans hW k3
                  replace k4 := cell_of_ans hW k4
                  replace c1 := cell_of_ans hW c1
                  replace c2 := cell_of_ans hW c2
                  go_simp
                  first | done | with_reducible rfl | omega
                try simp only [Act.put, List.setIfInBounds_toArray, List.set_cons_zero, List.set_cons_succ]
                refine T_ready (rs := [9]) (by kernel_rfl) (by simp) ?_
                refine TReady.cons rfl (fun K hK => ?_) TReady.nil
                try go_simp
                refine (HN.out _).mono ?_
                rintro e v1 ⟨rfl, hb⟩
                have hS2 : Below wr.heap.size wr v1 := below_cat hb hS
                try go_simp
                refine hK.out _ _ (fun _ => hS2) (fun _ => ?_)
                clear hK K hS hb
                replace hS := hS2
                clear hS2
                try simp only [Act.put, List.setIfInBounds_toArray, List.set_cons_zero, List.set_cons_succ]
                refine' T_take (i := 10) (v := .bool false) rfl (by kernel_rfl) (by kernel_rfl) (by kernel_rfl) (by kernel_rfl) (fun _ _ _ h => h) (by kernel_rfl) hS ?_ ?_
                skip
                · intro Wv hW
                  replace k0 := cell_of_ans hW k0
                  replace k1 := cell_of_ans hW k1
                  replace k2 := cell_of_ans hW k2
                  replace k3 := cell_of_ans hW k3
                  replace k4 := cell_of_ans hW k4
                  replace c1 := cell_of_ans hW c1
                  replace c2 := cell_of_ans hW c2
                  go_simp
                  first | done | with_reducible rfl | omega
                try simp only [Act.put, List.setIfInBounds_toArray, List.set_cons_zero, List.set_cons_succ]
                refine' T_skip (i := 11) rfl (by kernel_rfl) (by kernel_rfl) (by kernel_rfl) (by kernel_rfl) (fun _ _ _ h => h) (by kernel_rfl) hS ?_
                try simp only [Act.put, List.setIfInBounds_toArray, List.set_cons_zero, List.set_cons_succ]
                refine' T_skip (i := 12) rfl (by kernel_rfl) (by kernel_rfl) (by kernel_rfl) (by kernel_rfl) (fun _ _ _ h => h) (by kernel_rfl) hS ?_
                try simp only [Act.put, List.setIfInBounds_toArray, List.set_cons_zero, List.set_cons_succ]
                refine' T_skip (i := 13) rfl (by kernel_rfl) (by kernel_rfl) (by kernel_rfl) (by kernel_rfl) (fun _ _ _ h => h) (by kernel_rfl) hS ?_
                try simp only [Act.put, List.setIfInBounds_toArray, List.set_cons_zero, List.set_cons_succ]
                refine' T_skip (i := 14) rfl (by kernel_rfl) (by kernel_rfl) (by kernel_rfl) (by kernel_rfl) (fun _ _ _ h => h) (by kernel_rfl) hS ?_
                try simp only [Act.put, List.setIfInBounds_toArray, List.set_cons_zero, List.set_cons_succ]
                refine' T_skip (i := 15) rfl (by kernel_rfl) (by kernel_rfl) (by kernel_rfl) (by kernel_rfl) (fun _ _ _ h => h) (by kernel_rfl) hS ?_
                try simp only [Act.put, List.setIfInBounds_toArray, List.set_cons_zero, List.set_cons_succ]
                refine' T_skip (i := 16) rfl (by kernel_rfl) (by kernel_rfl) (by kernel_rfl) (by kernel_rfl) (fun _ _ _ h => h) (by kernel_rfl) hS ?_
                try simp only [Act.put, List.setIfInBounds_toArray, List.set_cons_zero, List.set_cons_succ]
                refine' T_skip (i := 17) rfl (by kernel_rfl) (by kernel_rfl) (by kernel_rfl) (by kernel_rfl) (fun _ _ _ h => h) (by kernel_rfl) hS ?_
                try simp only [Act.put, List.setIfInBounds_toArray, List.set_cons_zero, List.set_cons_succ]
                refine' T_take (i := 18) (v := _) rfl (by kernel_rfl) (by kernel_rfl) (by kernel_rfl) (by kernel_rfl) (fun _ _ _ h => h) (by kernel_rfl) hS ?_ ?_
                rotate_left 1
                · intro Wv hW
                  replace k0 := cell_of_ans hW k0
                  replace k1 := cell_of_ans hW k1
                  replace k2 := cell_of_ans hW k2
                  replace k3 := cell_of_ans hW k3
                  replace k4 := cell_of_ans hW k4
                  replace c1 := cell_of_ans hW c1
                  replace c2 := cell_of_ans hW c2
                  go_simp
                  first | done | with_reducible rfl | omega
                try simp only [Act.put, List.setIfInBounds_toArray, List.set_cons_zero, List.set_cons_succ]
                refine T_done (by kernel_rfl) ?_ _
                refine NoPanic.normal ?_
                try go_simp
                have HBN : Hid (Below x1.heap.size w0 v1) := HBR.out.trans (hS.mono hwr)
                have HON := Lib.hid (HO.out.kept hS)
                go_wp2_with fail
                go_roundw
                case rel => exact ⟨k + 1, ps, ag, by omega, by go_num, rfl, HRI.out, by rw [← HPLQ.out]; exact HON.out, HBN.out, HGE.out, HGT.out, fun h => ⟨(HSH.out h).1, HKK.out _ (fun h2 => by rw [en] at h2; cases h2) (HSH.out h).2⟩⟩
                case measure => simp only [lenV, intOf]; have := HNL.out; omega
              · rw [en] at HN
                cases eh : decide (y ∈ ps)
                all_goals rw [eh] at HHA
                · go_upto_region 11 with fail
                  refine wp_region_noPanic ?_
                  have hS : (fun W' : World => Below wr.heap.size wr W') wr.drew := (Below.refl _ _).drew
                  refine wp_region_any (by kernel_rfl) (wpAny_of_T (S := fun W' : World => Below wr.heap.size wr W') (m := 19) _ _ _ _ ?_)
                  refine' T_take (i := 0) (v := _) rfl (by kernel_rfl) (by kernel_rfl) (by kernel_rfl) (by kernel_rfl) (fun _ _ _ h => h) (by kernel_rfl) hS ?_ ?_
                  rotate_left 1
                  · intro Wv hW
                    replace k0 := cell_of_ans hW k0
                    replace k1 := cell_of_ans hW k1
                    replace k2 := cell_of_ans hW k2
                    replace k3 := cell_of_ans hW k3
                    replace k4 := cell_of_ans hW k4
                    replace c1 := cell_of_ans hW c1
                    replace c2 := cell_of_ans hW c2
                    go_simp
                    first | done | with_reducible rfl | omega
                  try simp only [Act.put, List.setIfInBounds_toArray, List.set_cons_zero, List.set_cons_succ]
                  refine' T_take (i := 1) (v := _) rfl (by kernel_rfl) (by kernel_rfl) (by kernel_rfl) (by kernel_rfl) (fun _ _ _ h => h) (by kernel_rfl) hS ?_ ?_
                  rotate_left 1
                  · intro Wv hW
                    replace k0 := cell_of_ans hW k0
                    replace k1 := cell_of_ans hW k1
                    replace k2 := cell_of_ans hW k2
                    replace k3 := cell_of_ans hW k3
                    replace k4 := cell_of_ans hW k4
                    replace c1 := cell_of_ans hW c1
                    replace c2 := cell_of_ans hW c2
                    go_simp
                    first | done | with_reducible rfl | omega
                  try simp only [Act.put, List.setIfInBounds_toArray, List.set_cons_zero, List.set_cons_succ]
                  refine' T_take (i := 2) (v := _) rfl (by kernel_rfl) (by kernel_rfl) (by kernel_rfl) (by kernel_rfl) (fun _ _ _ h => h) (by kernel_rfl) hS ?_ ?_
                  rotate_left 1
                  · intro Wv hW
                    replace k0 := cell_of_ans hW k0
                    replace k1 := cell_of_ans hW k1
                    replace k2 := cell_of_ans hW k2
                    replace k3 := cell_of_ans hW k3
                    replace k4 := cell_of_ans hW k4
                    replace c1 := cell_of_ans hW c1
                    replace c2 := cell_of_ans hW c2
                    go_simp
                    first | done | with_reducible rfl | omega
                  try simp only [Act.put, List.setIfInBounds_toArray, List.set_cons_zero, List.set_cons_succ]
                  refine' T_take (i := 3) (v := _) rfl (by kernel_rfl) (by kernel_rfl) (by kernel_rfl) (by kernel_rfl) (fun _ _ _ h => h) (by kernel_rfl) hS ?_ ?_
                  rotate_left 1
                  · intro Wv hW
                    replace k0 := cell_of_ans hW k0
                    replace k1 := cell_of_ans hW k1
                    replace k2 := cell_of_ans hW k2
                    replace k3 := cell_of_ans hW k3
                    replace k4 := cell_of_ans hW k4
                    replace c1 := cell_of_ans hW c1
                    replace c2 := cell_of_ans hW c2
                    go_simp
                    first | done | with_reducible rfl | omega
                  try simp only [Act.put, List.setIfInBounds_toArray, List.set_cons_zero, List.set_cons_succ]
                  refine' T_take (i := 4) (v := _) rfl (by kernel_rfl) (by kernel_rfl) (by kernel_rfl) (by kernel_rfl) (fun _ _ _ h => h) (by kernel_rfl) hS ?_ ?_
                  rotate_left 1
                  · intro Wv hW
                    replace k0 := cell_of_ans hW k0
                    replace k1 := cell_of_ans hW k1
                    replace k2 := cell_of_ans hW k2
                    replace k3 := cell_of_ans hW k3
                    replace k4 := cell_of_ans hW k4
                    replace c1 := cell_of_ans hW c1
                    replace c2 := cell_of_ans hW c2
                    go_simp
                    first | done | with_reducible rfl | omega
                  try simp only [Act.put, List.setIfInBounds_toArray, List.set_cons_zero, List.set_cons_succ]
                  refine' T_take (i := 5) (v := _) rfl (by kernel_rfl) (by kernel_rfl) (by kernel_rfl) (by kernel_rfl) (fun _ _ _ h => h) (by kernel_rfl) hS ?_ ?_
                  rotate_left 1
                  · intro Wv hW
                    replace k0 := cell_of_ans hW k0
                    replace k1 := cell_of_ans hW k1
                    replace k2 := cell_of_ans hW k2
                    replace k3 := cell_of_ans hW k3
                    replace k4 := cell_of_ans hW k4
                    replace c1 := cell_of_ans hW c1
                    replace c2 := cell_of_ans hW c2
                    go_simp
                    first | done | with_reducible rfl | omega
                  try simp only [Act.put, List.setIfInBounds_toArray, List.set_cons_zero, List.set_cons_succ]
                  refine' T_take (i := 6) (v := _) rfl (by kernel_rfl) (by kernel_rfl) (by kernel_rfl) (by kernel_rfl) (fun _ _ _ h => h) (by kernel_rfl) hS ?_ ?_
                  rotate_left 1
                  · intro Wv hW
                    replace k0 := cell_of_ans hW k0
                    replace k1 := cell_of_ans hW k1
                    replace k2 := cell_of_ans hW k2
                    replace k3 := cell_of_ans hW k3
                    replace k4 := cell_of_ans hW k4
                    replace c1 := cell_of_ans hW c1
                    replace c2 := cell_of_ans hW c2
                    go_simp
                    first | done | with_reducible rfl | omega
                  try simp only [Act.put, List.setIfInBounds_toArray, List.set_cons_zero, List.set_cons_succ]
                  refine' T_take (i := 7) (v := _) rfl (by kernel_rfl) (by kernel_rfl) (by kernel_rfl) (by kernel_rfl) (fun _ _ _ h => h) (by kernel_rfl) hS ?_ ?_
                  rotate_left 1
                  · intro Wv hW
                    replace k0 := cell_of_ans hW k0
                    replace k1 := cell_of_ans hW k1
                    replace k2 := cell_of_ans hW k2
                    replace k3 := cell_of_ans hW k3
                    replace k4 := cell_of_ans hW k4
                    replace c1 := cell_of_ans hW c1
                    replace c2 := cell_of_ans hW c2
                    go_simp
                    first | done | with_reducible rfl | omega
                  try simp only [Act.put, List.setIfInBounds_toArray, List.set_cons_zero, List.set_cons_succ]
                  refine' T_take (i := 8) (v := _) rfl (by kernel_rfl) (by kernel_rfl) (by kernel_rfl) (by kernel_rfl) (fun _ _ _ h => h) (by kernel_rfl) hS ?_ ?_
                  rotate_left 1
                  · intro Wv hW
                    replace k0 := cell_of_ans hW k0
                    replace k1 := cell_of_ans hW k1
                    replace k2 := cell_of_ans hW k2
                    replace k3 := cell_of_ans hW k3
                    replace k4 := cell_of_ans hW k4
                    replace c1 := cell_of_ans hW c1
                    replace c2 := cell_of_ans hW c2
                    go_simp
                    first | done | with_reducible rfl | omega
                  try simp only [Act.put, List.setIfInBounds_toArray, List.set_cons_zero, List.set_cons_succ]
                  refine T_ready (rs := [9]) (by kernel_rfl) (by simp) ?_
                  refine TReady.cons rfl (fun K hK => ?_) TReady.nil
                  try go_simp
                  refine (HN.out _).mono ?_
                  rintro e v1 ⟨rfl, hb⟩
                  have hS2 : Below wr.heap.size wr v1 := below_cat hb hS
                  try go_simp
                  refine hK.out _ _ (fun _ => hS2) (fun _ => ?_)
                  clear hK K hS hb
                  replace hS := hS2
                  clear hS2
                  try simp only [Act.put, List.setIfInBounds_toArray, List.set_cons_zero, List.set_cons_succ]
                  refine' T_take (i := 10) (v := .bool true) rfl (by kernel_rfl) (by kernel_rfl) (by kernel_rfl) (by kernel_rfl) (fun _ _ _ h => h) (by kernel_rfl) hS ?_ ?_
                  skip
                  · intro Wv hW
                    replace k0 := cell_of_ans hW k0
                    replace k1 := cell_of_ans hW k1
                    replace k2 := cell_of_ans hW k2
                    replace k3 := cell_of_ans hW k3
                    replace k4 := cell_of_ans hW k4
                    replace c1 := cell_of_ans hW c1
                    replace c2 := cell_of_ans hW c2
                    go_simp
                    first | done | with_reducible rfl | omega
                  try simp only [Act.put, List.setIfInBounds_toArray, List.set_cons_zero, List.set_cons_succ]
                  refine' T_take (i := 11) (v := _) rfl (by kernel_rfl) (by kernel_rfl) (by kernel_rfl) (by kernel_rfl) (fun _ _ _ h => h) (by kernel_rfl) hS ?_ ?_
                  rotate_left 1
                  · intro Wv hW
                    replace k0 := cell_of_ans hW k0
                    replace k1 := cell_of_ans hW k1
                    replace k2 := cell_of_ans hW k2
                    replace k3 := cell_of_ans hW k3
                    replace k4 := cell_of_ans hW k4
                    replace c1 := cell_of_ans hW c1
                    replace c2 := cell_of_ans hW c2
                    go_simp
                    first | done | with_reducible rfl | omega
                  try simp only [Act.put, List.setIfInBounds_toArray, List.set_cons_zero, List.set_cons_succ]
                  refine' T_take (i := 12) (v := _) rfl (by kernel_rfl) (by kernel_rfl) (by kernel_rfl) (by kernel_rfl) (fun _ _ _ h => h) (by kernel_rfl) hS ?_ ?_
                  rotate_left 1
                  · intro Wv hW
                    replace k0 := cell_of_ans hW k0
                    replace k1 := cell_of_ans hW k1
                    replace k2 := cell_of_ans hW k2
                    replace k3 := cell_of_ans hW k3
                    replace k4 := cell_of_ans hW k4
                    replace c1 := cell_of_ans hW c1
                    replace c2 := cell_of_ans hW c2
                    go_simp
                    first | done | with_reducible rfl | omega
                  try simp only [Act.put, List.setIfInBounds_toArray, List.set_cons_zero, List.set_cons_succ]
                  refine' T_take (i := 13) (v := _) rfl (by kernel_rfl) (by kernel_rfl) (by kernel_rfl) (by kernel_rfl) (fun _ _ _ h => h) (by kernel_rfl) hS ?_ ?_
                  rotate_left 1
                  · intro Wv hW
                    replace k0 := cell_of_ans hW k0
                    replace k1 := cell_of_ans hW k1
                    replace k2 := cell_of_ans hW k2
                    replace k3 := cell_of_ans hW k3
                    replace k4 := cell_of_ans hW k4
                    replace c1 := cell_of_ans hW c1
                    replace c2 := cell_of_ans hW c2
                    go_simp
                    first | done | with_reducible rfl | omega
                  try simp only [Act.put, List.setIfInBounds_toArray, List.set_cons_zero, List.set_cons_succ]
                  refine' T_take (i := 14) (v := _) rfl (by kernel_rfl) (by kernel_rfl) (by kernel_rfl) (by kernel_rfl) (fun _ _ _ h => h) (by kernel_rfl) hS ?_ ?_
                  rotate_left 1
                  · intro Wv hW
                    replace k0 := cell_of_ans hW k0
                    replace k1 := cell_of_ans hW k1
                    replace k2 := cell_of_ans hW k2
                    replace k3 := cell_of_ans hW k3
                    replace k4 := cell_of_ans hW k4
                    replace c1 := cell_of_ans hW c1
                    replace c2 := cell_of_ans hW c2
                    go_simp
                    first | done | with_reducible rfl | omega
                  try simp only [Act.put, List.setIfInBounds_toArray, List.set_cons_zero, List.set_cons_succ]
                  refine' T_take (i := 15) (v := _) rfl (by kernel_rfl) (by kernel_rfl) (by kernel_rfl) (by kernel_rfl) (fun _ _ _ h => h) (by kernel_rfl) hS ?_ ?_
                  rotate_left 1
                  · intro Wv hW
                    replace k0 := cell_of_ans hW k0
                    replace k1 := cell_of_ans hW k1
                    replace k2 := cell_of_ans hW k2
                    replace k3 := cell_of_ans hW k3
                    replace k4 := cell_of_ans hW k4
                    replace c1 := cell_of_ans hW c1
                    replace c2 := cell_of_ans hW c2
                    go_simp
                    first | done | with_reducible rfl | omega
                  try simp only [Act.put, List.setIfInBounds_toArray, List.set_cons_zero, List.set_cons_succ]
                  refine T_ready (rs := [16]) (by kernel_rfl) (by simp) ?_
                  refine TReady.cons rfl (fun K hK => ?_) TReady.nil
                  try go_simp
                  refine (HHA.out _ (HI.out.step hS)).mono ?_
                  rintro e v1 ⟨rfl, rfl⟩
                  try go_simp
                  refine hK.out _ _ (fun _ => hS) (fun _ => ?_)
                  clear hK K
                  try simp only [Act.put, List.setIfInBounds_toArray, List.set_cons_zero, List.set_cons_succ]
                  refine' T_take (i := 17) (v := _) rfl (by kernel_rfl) (by kernel_rfl) (by kernel_rfl) (by kernel_rfl) (fun _ _ _ h => h) (by kernel_rfl) hS ?_ ?_
                  rotate_left 1
                  · intro Wv hW
                    replace k0 := cell_of_ans hW k0
                    replace k1 := cell_of_ans hW k1
                    replace k2 := cell_of_ans hW k2
                    replace k3 := cell_of_ans hW k3
                    replace k4 := cell_of_ans hW k4
                    replace c1 := cell_of_ans hW c1
                    replace c2 := cell_of_ans hW c2
                    go_simp
                    first | done | with_reducible rfl | omega
                  try simp only [Act.put, List.setIfInBounds_toArray, List.set_cons_zero, List.set_cons_succ]
                  refine' T_take (i := 18) (v := _) rfl (by kernel_rfl) (by kernel_rfl) (by kernel_rfl) (by kernel_rfl) (fun _ _ _ h => h) (by kernel_rfl) hS ?_ ?_
                  rotate_left 1
                  · intro Wv hW
                    replace k0 := cell_of_ans hW k0
                    replace k1 := cell_of_ans hW k1
                    replace k2 := cell_of_ans hW k2
                    replace k3 := cell_of_ans hW k3
                    replace k4 := cell_of_ans hW k4
                    replace c1 := cell_of_ans hW c1
                    replace c2 := cell_of_ans hW c2
                    go_simp
                    first | done | with_reducible rfl | omega
                  try simp only [Act.put, List.setIfInBounds_toArray, List.set_cons_zero, List.set_cons_succ]
                  refine T_done (by kernel_rfl) ?_ _
                  refine NoPanic.normal ?_
                  try go_simp
                  have HBN : Hid (Below x1.heap.size w0 v1) := HBR.out.trans (hS.mono hwr)
                  have HON := Lib.hid (HO.out.kept hS)
                  replace c1 := cell_of_ans hS c1
                  have hwv : x1.heap.size ≤ v1.heap.size := Nat.le_trans hwr hS.size
                  have HRN : Hid (RInv s a (ps ++ [y])) := HRI.out.push HZM.out HYS.out (by rw [nbB_symm z hz10 y hy10]; exact en) (of_decide_eq_false eh)
                  have hpn2 := HPL.out _ HRN.out
                  rw [List.length_append, List.length_singleton] at hpn2
                  have hpll : pl.length ≤ 1000000 := by have := HNL.out; omega
                  clear hS
                  go_wp2_with (at_builtin; refine wpList_app_int (.tmp 46) (.tmp 51) rfl rfl x1.heap.size _ _ pl (y : Int) rfl rfl HON hpll hwv ?_; intro A2 c2' wn HO2 HB2)
                  go_roundw
                  case rel => exact ⟨k + 1, ps ++ [y], true, by rw [List.length_append, List.length_singleton]; omega, by go_num, rfl, HRN.out, by rw [natsI_app, ← HPLQ.out]; exact HO2.out, HBN.out.trans HB2.out, by rw [List.length_append]; have := HGE.out; omega, fun _ => (by rw [List.length_append, List.length_singleton]; have := HGE.out; omega), fun h => (by cases h)⟩
                  case measure => simp only [lenV, intOf]; have := HNL.out; omega
                · go_upto_region 11 with fail
                  refine wp_region_noPanic ?_
                  have hS : (fun W' : World => Below wr.heap.size wr W') wr.drew := (Below.refl _ _).drew
                  refine wp_region_any (by kernel_rfl) (wpAny_of_T (S := fun W' : World => Below wr.heap.size wr W') (m := 19) _ _ _ _ ?_)
                  refine' T_take (i := 0) (v := _) rfl (by kernel_rfl) (by kernel_rfl) (by kernel_rfl) (by kernel_rfl) (fun _ _ _ h => h) (by kernel_rfl) hS ?_ ?_
                  rotate_left 1
                  · intro Wv hW
                    replace k0 := cell_of_ans hW k0
                    replace k1 := cell_of_ans hW k1
                    replace k2 := cell_of_ans hW k2
                    replace k3 := cell_of_ans hW k3
                    replace k4 := cell_of_ans hW k4
                    replace c1 := cell_of_ans hW c1
                    replace c2 := cell_of_ans hW c2
                    go_simp
                    first | done | with_reducible rfl | omega
                  try simp only [Act.put, List.setIfInBounds_toArray, List.set_cons_zero, List.set_cons_succ]
                  refine' T_take (i := 1) (v := _) rfl (by kernel_rfl) (by kernel_rfl) (by kernel_rfl) (by kernel_rfl) (fun _ _ _ h => h) (by kernel_rfl) hS ?_ ?_
                  rotate_left 1
                  · intro Wv hW
                    replace k0 := cell_of_ans hW k0
                    replace k1 := cell_of_ans hW k1
                    replace k2 := cell_of_ans hW k2
                    replace k3 := cell_of_ans hW k3
                    replace k4 := cell_of_ans hW k4
                    replace c1 := cell_of_ans hW c1
                    replace c2 := cell_of_ans hW c2
                    go_simp
                    first | done | with_reducible rfl | omega
                  try simp only [Act.put, List.setIfInBounds_toArray, List.set_cons_zero, List.set_cons_succ]
                  refine' T_take (i := 2) (v := _) rfl (by kernel_rfl) (by kernel_rfl) (by kernel_rfl) (by kernel_rfl) (fun _ _ _ h => h) (by kernel_rfl) hS ?_ ?_
                  rotate_left 1
                  · intro Wv hW
                    replace k0 := cell_of_ans hW k0
                    replace k1 := cell_of_ans hW k1
                    replace k2 := cell_of_ans hW k2
                    replace k3 := cell_of_ans hW k3
                    replace k4 := cell_of_ans hW k4
                    replace c1 := cell_of_ans hW c1
                    replace c2 := cell_of_ans hW c2
                    go_simp
                    first | done | with_reducible rfl | omega
                  try simp only [Act.put, List.setIfInBounds_toArray, List.set_cons_zero, List.set_cons_succ]
                  refine' T_take (i := 3) (v := _) rfl (by kernel_rfl) (by kernel_rfl) (by kernel_rfl) (by kernel_rfl) (fun _ _ _ h => h) (by kernel_rfl) hS ?_ ?_
                  rotate_left 1
                  · intro Wv hW
                    replace k0 := cell_of_ans hW k0
                    replace k1 := cell_of_ans hW k1
                    replace k2 := cell_of_ans hW k2
                    replace k3 := cell_of_ans hW k3
                    replace k4 := cell_of_ans hW k4
                    replace c1 := cell_of_ans hW c1
                    replace c2 := cell_of_ans hW c2
                    go_simp
                    first | done | with_reducible rfl | omega
                  try simp only [Act.put, List.setIfInBounds_toArray, List.set_cons_zero, List.set_cons_succ]
                  refine' T_take (i := 4) (v := _) rfl (by kernel_rfl) (by kernel_rfl) (by kernel_rfl) (by kernel_rfl) (fun _ _ _ h => h) (by kernel_rfl) hS ?_ ?_
                  rotate_left 1
                  · intro Wv hW
                    replace k0 := cell_of_ans hW k0
                    replace k1 := cell_of_ans hW k1
                    replace k2 := cell_of_ans hW k2
                    replace k3 := cell_of_ans hW k3
                    replace k4 := cell_of_ans hW k4
                    replace c1 := cell_of_ans hW c1
                    replace c2 := cell_of_ans hW c2
                    go_simp
                    first | done | with_reducible rfl | omega
                  try simp only [Act.put, List.setIfInBounds_toArray, List.set_cons_zero, List.set_cons_succ]
                  refine' T_take (i := 5) (v := _) rfl (by kernel_rfl) (by kernel_rfl) (by kernel_rfl) (by kernel_rfl) (fun _ _ _ h => h) (by kernel_rfl) hS ?_ ?_
                  rotate_left 1
                  · intro Wv hW
                    replace k0 := cell_of_ans hW k0
                    replace k1 := cell_of_ans hW k1
                    replace k2 := cell_of_ans hW k2
                    replace k3 := cell_of_ans hW k3
                    replace k4 := cell_of_ans hW k4
                    replace c1 := cell_of_ans hW c1
                    replace c2 := cell_of_ans hW c2
                    go_simp
                    first | done | with_reducible rfl | omega
                  try simp only [Act.put, List.setIfInBounds_toArray, List.set_cons_zero, List.set_cons_succ]
                  refine' T_take (i := 6) (v := _) rfl (by kernel_rfl) (by kernel_rfl) (by kernel_rfl) (by kernel_rfl) (fun _ _ _ h => h) (by kernel_rfl) hS ?_ ?_
                  rotate_left 1
                  · intro Wv hW
                    replace k0 := cell_of_ans hW k0
                    replace k1 := cell_of_ans hW k1
                    replace k2 := cell_of_ans hW k2
                    replace k3 := cell_of_ans hW k3
                    replace k4 := cell_of_ans hW k4
                    replace c1 := cell_of_ans hW c1
                    replace c2 := cell_of_ans hW c2
                    go_simp
                    first | done | with_reducible rfl | omega
                  try simp only [Act.put, List.setIfInBounds_toArray, List.set_cons_zero, List.set_cons_succ]
                  refine' T_take (i := 7) (v := _) rfl (by kernel_rfl) (by kernel_rfl) (by kernel_rfl) (by kernel_rfl) (fun _ _ _ h => h) (by kernel_rfl) hS ?_ ?_
                  rotate_left 1
                  · intro Wv hW
                    replace k0 := cell_of_ans hW k0
                    replace k1 := cell_of_ans hW k1
                    replace k2 := cell_of_ans hW k2
                    replace k3 := cell_of_ans hW k3
                    replace k4 := cell_of_ans hW k4
                    replace c1 := cell_of_ans hW c1
                    replace c2 := cell_of_ans hW c2
                    go_simp
                    first | done | with_reducible rfl | omega
                  try simp only [Act.put, List.setIfInBounds_toArray, List.set_cons_zero, List.set_cons_succ]
                  refine' T_take (i := 8) (v := _) rfl (by kernel_rfl) (by kernel_rfl) (by kernel_rfl) (by kernel_rfl) (fun _ _ _ h => h) (by kernel_rfl) hS ?_ ?_
                  rotate_left 1
                  · intro Wv hW
                    replace k0 := cell_of_ans hW k0
                    replace k1 := cell_of_ans hW k1
                    replace k2 := cell_of_ans hW k2
                    replace k3 := cell_of_ans hW k3
                    replace k4 := cell_of_ans hW k4
                    replace c1 := cell_of_ans hW c1
                    replace c2 := cell_of_ans hW c2
                    go_simp
                    first | done | with_reducible rfl | omega
                  try simp only [Act.put, List.setIfInBounds_toArray, List.set_cons_zero, List.set_cons_succ]
                  refine T_ready (rs := [9]) (by kernel_rfl) (by simp) ?_
                  refine TReady.cons rfl (fun K hK => ?_) TReady.nil
                  try go_simp
                  refine (HN.out _).mono ?_
                  rintro e v1 ⟨rfl, hb⟩
                  have hS2 : Below wr.heap.size wr v1 := below_cat hb hS
                  try go_simp
                  refine hK.out _ _ (fun _ => hS2) (fun _ => ?_)
                  clear hK K hS hb
                  replace hS := hS2
                  clear hS2
                  try simp only [Act.put, List.setIfInBounds_toArray, List.set_cons_zero, List.set_cons_succ]
                  refine' T_take (i := 10) (v := .bool true) rfl (by kernel_rfl) (by kernel_rfl) (by kernel_rfl) (by kernel_rfl) (fun _ _ _ h => h) (by kernel_rfl) hS ?_ ?_
                  skip
                  · intro Wv hW
                    replace k0 := cell_of_ans hW k0
                    replace k1 := cell_of_ans hW k1
                    replace k2 := cell_of_ans hW k2
                    replace k3 := cell_of_ans hW k3
                    replace k4 := cell_of_ans hW k4
                    replace c1 := cell_of_ans hW c1
                    replace c2 := cell_of_ans hW c2
                    go_simp
                    first | done | with_reducible rfl | omega
                  try simp only [Act.put, List.setIfInBounds_toArray, List.set_cons_zero, List.set_cons_succ]
                  refine' T_take (i := 11) (v := _) rfl (by kernel_rfl) (by kernel_rfl) (by kernel_rfl) (by kernel_rfl) (fun _ _ _ h => h) (by kernel_rfl) hS ?_ ?_
                  rotate_left 1
                  · intro Wv hW
                    replace k0 := cell_of_ans hW k0
                    replace k1 := cell_of_ans hW k1
                    replace k2 := cell_of_ans hW k2
                    replace k3 := cell_of_ans hW k3
                    replace k4 := cell_of_ans hW k4
                    replace c1 := cell_of_ans hW c1
                    replace c2 := cell_of_ans hW c2
                    go_simp
                    first | done | with_reducible rfl | omega
                  try simp only [Act.put, List.setIfInBounds_toArray, List.set_cons_zero, List.set_cons_succ]
                  refine' T_take (i := 12) (v := _) rfl (by kernel_rfl) (by kernel_rfl) (by kernel_rfl) (by kernel_rfl) (fun _ _ _ h => h) (by kernel_rfl) hS ?_ ?_
                  rotate_left 1
                  · intro Wv hW
                    replace k0 := cell_of_ans hW k0
                    replace k1 := cell_of_ans hW k1
                    replace k2 := cell_of_ans hW k2
                    replace k3 := cell_of_ans hW k3
                    replace k4 := cell_of_ans hW k4
                    replace c1 := cell_of_ans hW c1
                    replace c2 := cell_of_ans hW c2
                    go_simp
                    first | done | with_reducible rfl | omega
                  try simp only [Act.put, List.setIfInBounds_toArray, List.set_cons_zero, List.set_cons_succ]
                  refine' T_take (i := 13) (v := _) rfl (by kernel_rfl) (by kernel_rfl) (by kernel_rfl) (by kernel_rfl) (fun _ _ _ h => h) (by kernel_rfl) hS ?_ ?_
                  rotate_left 1
                  · intro Wv hW
                    replace k0 := cell_of_ans hW k0
                    replace k1 := cell_of_ans hW k1
                    replace k2 := cell_of_ans hW k2
                    replace k3 := cell_of_ans hW k3
                    replace k4 := cell_of_ans hW k4
                    replace c1 := cell_of_ans hW c1
                    replace c2 := cell_of_ans hW c2
                    go_simp
                    first | done | with_reducible rfl | omega
                  try simp only [Act.put, List.setIfInBounds_toArray, List.set_cons_zero, List.set_cons_succ]
                  refine' T_take (i := 14) (v := _) rfl (by kernel_rfl) (by kernel_rfl) (by kernel_rfl) (by kernel_rfl) (fun _ _ _ h => h) (by kernel_rfl) hS ?_ ?_
                  rotate_left 1
                  · intro Wv hW
                    replace k0 := cell_of_ans hW k0
                    replace k1 := cell_of_ans hW k1
                    replace k2 := cell_of_ans hW k2
                    replace k3 := cell_of_ans hW k3
                    replace k4 := cell_of_ans hW k4
                    replace c1 := cell_of_ans hW c1
                    replace c2 := cell_of_ans hW c2
                    go_simp
                    first | done | with_reducible rfl | omega
                  try simp only [Act.put, List.setIfInBounds_toArray, List.set_cons_zero, List.set_cons_succ]
                  refine' T_take (i := 15) (v := _) rfl (by kernel_rfl) (by kernel_rfl) (by kernel_rfl) (by kernel_rfl) (fun _ _ _ h => h) (by kernel_rfl) hS ?_ ?_
                  rotate_left 1
                  · intro Wv hW
                    replace k0 := cell_of_ans hW k0
                    replace k1 := cell_of_ans hW k1
                    replace k2 := cell_of_ans hW k2
                    replace k3 := cell_of_ans hW k3
                    replace k4 := cell_of_ans hW k4
                    replace c1 := cell_of_ans hW c1
                    replace c2 := cell_of_ans hW c2
                    go_simp
                    first | done | with_reducible rfl | omega
                  try simp only [Act.put, List.setIfInBounds_toArray, List.set_cons_zero, List.set_cons_succ]
                  refine T_ready (rs := [16]) (by kernel_rfl) (by simp) ?_
                  refine TReady.cons rfl (fun K hK => ?_) TReady.nil
                  try go_simp
                  refine (HHA.out _ (HI.out.step hS)).mono ?_
                  rintro e v1 ⟨rfl, rfl⟩
                  try go_simp
                  refine hK.out _ _ (fun _ => hS) (fun _ => ?_)
                  clear hK K
                  try simp only [Act.put, List.setIfInBounds_toArray, List.set_cons_zero, List.set_cons_succ]
                  refine' T_take (i := 17) (v := _) rfl (by kernel_rfl) (by kernel_rfl) (by kernel_rfl) (by kernel_rfl) (fun _ _ _ h => h) (by kernel_rfl) hS ?_ ?_
                  rotate_left 1
                  · intro Wv hW
                    replace k0 := cell_of_ans hW k0
                    replace k1 := cell_of_ans hW k1
                    replace k2 := cell_of_ans hW k2
                    replace k3 := cell_of_ans hW k3
                    replace k4 := cell_of_ans hW k4
                    replace c1 := cell_of_ans hW c1
                    replace c2 := cell_of_ans hW c2
                    go_simp
                    first | done | with_reducible rfl | omega
                  try simp only [Act.put, List.setIfInBounds_toArray, List.set_cons_zero, List.set_cons_succ]
                  refine' T_take (i := 18) (v := _) rfl (by kernel_rfl) (by kernel_rfl) (by kernel_rfl) (by kernel_rfl) (fun _ _ _ h => h) (by kernel_rfl) hS ?_ ?_
                  rotate_left 1
                  · intro Wv hW
                    replace k0 := cell_of_ans hW k0
                    replace k1 := cell_of_ans hW k1
                    replace k2 := cell_of_ans hW k2
                    replace k3 := cell_of_ans hW k3
                    replace k4 := cell_of_ans hW k4
                    replace c1 := cell_of_ans hW c1
                    replace c2 := cell_of_ans hW c2
                    go_simp
                    first | done | with_reducible rfl | omega
                  try simp only [Act.put, List.setIfInBounds_toArray, List.set_cons_zero, List.set_cons_succ]
                  refine T_done (by kernel_rfl) ?_ _
                  refine NoPanic.normal ?_
                  try go_simp
                  have HBN : Hid (Below x1.heap.size w0 v1) := HBR.out.trans (hS.mono hwr)
                  have HON := Lib.hid (HO.out.kept hS)
                  go_wp2_with fail
                  go_roundw
                  case rel => exact ⟨k + 1, ps, ag, by omega, by go_num, rfl, HRI.out, by rw [← HPLQ.out]; exact HON.out, HBN.out, HGE.out, HGT.out, fun h => ⟨(HSH.out h).1, HKK.out _ (fun _ => of_decide_eq_true eh) (HSH.out h).2⟩⟩
                  case measure => simp only [lenV, intOf]; have := HNL.out; omega
            · obtain rfl : k = ps.length := by omega
              have hkl : ¬ ((ps.length : Nat) : Int) < ((natsI ps).length : Int) := by have := HNL.out; omega
              have HSHN : Hid (ag = false → Shut s ps (i + 1)) := fun h => HSUC.out ps (HSH.out h).1 (mem_upto rfl (HSH.out h).2)
              clear HNB HL10 HX HNL HSH HSUC HPL HP10
              go_wp2_with fail
              go_roundw
              case rel => exact ⟨i + 1, ps, ag, by omega, by go_num, rfl, HRI.out, HO.out, HBR.out, HGE.out, HGT.out, HSHN.out⟩
              case measure => simp [intOf]; omega
        · obtain rfl : i = (listS s).length := by omega
          have hil : ¬ (((listS s).length : Nat) : Int) < ((natsI (listS s)).length : Int) := by have := HLn.out; omega
          have HM1 := Lib.hid (HPL.out _ HRI.out)
          have HNL1 : Hid ((natsI ps1).length = ps1.length) := natsI_len _
          have HNL0 : Hid ((natsI ps0).length = ps0.length) := natsI_len _
          clear HNB HL10 HX HPL HP10
          go_wp2_with fail
          go_roundw
          case rel => exact ⟨ps1, ag1, rfl, HRI.out, HO.out, HBR.out, HSH.out⟩
          case measure =>
            simp only [lenV]
            have q1 := HNL1.out
            have q0 := HNL0.out
            have q2 := HGE.out
            have q3 := HM1.out
            cases ag1
            · show 2 * _ + 0 < 2 * _ + 1; omega
            · have q4 := HGT.out rfl
              show 2 * _ + 1 < 2 * _ + 1; omega
set_option maxRecDepth 100000 in
set_option maxHeartbeats 8000000 in
theorem kind41_c (r : Rk) (A xA : Option Addr) (c cx s : Nat) (w : World) (hr : Ok r) (hs : s < 2 ^ 10) (hx : Ints w.heap.size w xA (natsI (listS s))) (hcx : (natsI (listS s)).length ≤ cx ∧ cx ≤ 9223372036854775807) :
    Calls Try.prog 41 #[.agg #[.int .i64 r.rows, .int .i64 r.mid, .int .i64 r.gap, .int .i64 r.reach, .slice A r.links.length c], .slice xA (natsI (listS s)).length cx] w (Ans w (.int .u8 (kindS s : Int))) := by
  have HB := Lib.hid (Below.refl w.heap.size w)
  have HX := Lib.hid hx
  clear hx
  have hb : Below w.heap.size w (w.alloc (.cells #[.int .i64 r.rows, .int .i64 r.mid, .int .i64 r.gap, .int .i64 r.reach, .slice A r.links.length c] 24)) := (Below.refl _ _).alloc (Nat.le_refl _) _
  replace HX := Lib.hid (HX.out.step hb)
  replace HB := Lib.hid (HB.out.trans (hb.mono HB.out.size))
  clear hb
  have k0 : (w.alloc (.cells #[.int .i64 r.rows, .int .i64 r.mid, .int .i64 r.gap, .int .i64 r.reach, .slice A r.links.length c] 24)).cell? ⟨w.heap.size, 0, none⟩ = some (.int .i64 r.rows) := by simp
  have k1 : (w.alloc (.cells #[.int .i64 r.rows, .int .i64 r.mid, .int .i64 r.gap, .int .i64 r.reach, .slice A r.links.length c] 24)).cell? ⟨w.heap.size, 1, none⟩ = some (.int .i64 r.mid) := by simp
  have k2 : (w.alloc (.cells #[.int .i64 r.rows, .int .i64 r.mid, .int .i64 r.gap, .int .i64 r.reach, .slice A r.links.length c] 24)).cell? ⟨w.heap.size, 2, none⟩ = some (.int .i64 r.gap) := by simp
  have k3 : (w.alloc (.cells #[.int .i64 r.rows, .int .i64 r.mid, .int .i64 r.gap, .int .i64 r.reach, .slice A r.links.length c] 24)).cell? ⟨w.heap.size, 3, none⟩ = some (.int .i64 r.reach) := by simp
  have k4 : (w.alloc (.cells #[.int .i64 r.rows, .int .i64 r.mid, .int .i64 r.gap, .int .i64 r.reach, .slice A r.links.length c] 24)).cell? ⟨w.heap.size, 4, none⟩ = some (.slice A r.links.length c) := by simp
  have HLn := Lib.hid (show (natsI (listS s)).length = (listS s).length from natsI_len _)
  have HM : Hid ((listS s).length = many s) := rfl
  have HRA := Lib.hid (fun (xA fA : Option Addr) (cx cf a : Nat) (W : World) ha hx hcx hf => reached76_c r A xA fA c cx cf s a W hr hs ha hx hcx hf)
  by_cases h0 : many s = 0
  · have hk : kindS s = 0 := by unfold kindS; rw [if_pos (by omega), h0]
    have hl0 : (((natsI (listS s)).length : Nat) : Int) = 0 := by have := HLn.out; have := HM.out; omega
    have hl1 : (((natsI (listS s)).length : Int) == 0) = true := by rw [beq_iff_eq]; exact hl0
    clear hl0
    generalize natsI (listS s) = xl at *
    go_enter Try.func41, Try.ntmps41
    go_wp2_with fail
    go_ret
    exact ⟨by rw [hk]; rfl, HB.out⟩
  by_cases h1 : many s = 1
  · have hk : kindS s = 1 := by unfold kindS; rw [if_pos (by omega), h1]
    have hl0 : (((natsI (listS s)).length : Int) == 0) = false := by rw [beq_eq_false_iff_ne]; have := HLn.out; have := HM.out; omega
    have hl1 : (((natsI (listS s)).length : Int) == 1) = true := by rw [beq_iff_eq]; have := HLn.out; have := HM.out; omega
    generalize natsI (listS s) = xl at *
    go_enter Try.func41, Try.ntmps41
    go_wp2_with fail
    go_ret
    exact ⟨by rw [hk]; rfl, HB.out⟩
  have hl0 : (((natsI (listS s)).length : Int) == 0) = false := by rw [beq_eq_false_iff_ne]; have := HLn.out; have := HM.out; omega
  have hl1 : (((natsI (listS s)).length : Int) == 1) = false := by rw [beq_eq_false_iff_ne]; have := HLn.out; have := HM.out; omega
  obtain ⟨hf0, hf10, hfin⟩ := first_mem (s := s) (by omega)
  have hlen0 : 0 < (listS s).length := by have := HM.out; omega
  have HIX : Hid (ix (natsI (listS s)) 0 = (firstS s : Int)) := by
    show _ = _
    rw [ix_nats hlen0]
    unfold firstS
    rw [List.headD_eq_head?_getD, List.head?_eq_getElem?, List.getElem?_eq_getElem hlen0]
    rfl
  have HF0 : Hid (s.testBit 0 = true ↔ firstS s = 0) := by
    show _ ↔ _
    constructor
    · intro hb
      have hm : (0 : Nat) ∈ listS s := mem_listS.2 ⟨by omega, hb⟩
      obtain ⟨k, hk, hke⟩ := List.getElem_of_mem hm
      have e0 : ((listS s)[0] : Int) = (firstS s : Int) := by have := HIX.out; rwa [ix_nats hlen0] at this
      by_cases ek : k = 0
      · subst ek; omega
      · have := List.pairwise_iff_getElem.1 (rising_listS s) 0 k hlen0 hk (by omega)
        omega
    · intro e
      rw [← e]
      exact hfin
  have HKS : Hid (∀ ps, RInv s (firstS s) ps → Shut s ps (listS s).length → kindS s = if ps.length = (listS s).length then 2 else if firstS s = 0 then 4 else 3) := by
    intro ps hri hsh
    have hra := reach_all hs hri hsh
    rw [← HM.out] at hra
    unfold kindS
    rw [if_neg (by omega)]
    by_cases e : ps.length = (listS s).length
    · rw [if_pos (hra.1 e), if_pos e]
    · rw [if_neg (fun h => e (hra.2 h)), if_neg e]
      by_cases e0 : s.testBit 0 = true
      · rw [if_pos e0, if_pos (HF0.out.1 e0)]
      · rw [if_neg e0, if_neg (fun h => e0 (HF0.out.2 h))]
  have hx2 : 2 ≤ (natsI (listS s)).length := by have := HLn.out; have := HM.out; omega
  have HFA : Hid (∀ w' : World, Below ((w.alloc (.cells #[.int .i64 r.rows, .int .i64 r.mid, .int .i64 r.gap, .int .i64 r.reach, .slice A r.links.length c] 24))).heap.size ((w.alloc (.cells #[.int .i64 r.rows, .int .i64 r.mid, .int .i64 r.gap, .int .i64 r.reach, .slice A r.links.length c] 24))) w' → Ints w'.heap.size w' xA [(firstS s : Int)]) := by
    intro w' hb hp
    obtain ⟨b', o', hA', hlt', hc⟩ := (HX.out.step hb).at_ (k := 0) (by omega)
    rw [HIX.out] at hc
    exact ⟨b', o', hA', hlt', fun k hk => (by
      have : k = 0 := by simp at hk; omega
      subst this
      exact hc)⟩
  obtain ⟨b, off, rfl, hltb, c0⟩ := HX.out.at_ (k := 0) (by omega)
  rw [HIX.out] at c0
  simp only [Nat.add_zero] at c0
  have hx1 : (1 : Int) ≤ (cx : Int) := by omega
  have h2i : (1 : Int) < ((natsI (listS s)).length : Int) := by omega
  generalize hfs : firstS s = fs at *
  clear hfs HF0 HIX
  go_enter Try.func41, Try.ntmps41
  go_upto_region 5 with fail
  generalize (w.alloc (.cells #[.int .i64 r.rows, .int .i64 r.mid, .int .i64 r.gap, .int .i64 r.reach, .slice A r.links.length c] 24)) = x1 at *
  refine wp_region_noPanic ?_
  have hS : (fun W' : World => Below x1.heap.size x1 W') x1.drew := (Below.refl _ _).drew
  refine wp_region_any (by kernel_rfl) (wpAny_of_T (S := fun W' : World => Below x1.heap.size x1 W') (m := 10) _ _ _ _ ?_)
  refine' T_take (i := 0) (v := _) rfl (by kernel_rfl) (by kernel_rfl) (by kernel_rfl) (by kernel_rfl) (fun _ _ _ h => h) (by kernel_rfl) hS ?_ ?_
  rotate_left 1
  · intro Wv hW
    replace k0 := cell_of_ans hW k0
    replace k1 := cell_of_ans hW k1
    replace k2 := cell_of_ans hW k2
    replace k3 := cell_of_ans hW k3
    replace k4 := cell_of_ans hW k4
    replace c0 := cell_of_ans hW c0
    go_simp
    first | done | with_reducible rfl | omega
  try simp only [Act.put, List.setIfInBounds_toArray, List.set_cons_zero, List.set_cons_succ]
  refine' T_take (i := 1) (v := _) rfl (by kernel_rfl) (by kernel_rfl) (by kernel_rfl) (by kernel_rfl) (fun _ _ _ h => h) (by kernel_rfl) hS ?_ ?_
  rotate_left 1
  · intro Wv hW
    replace k0 := cell_of_ans hW k0
    replace k1 := cell_of_ans hW k1
    replace k2 := cell_of_ans hW k2
    replace k3 := cell_of_ans hW k3
    replace k4 := cell_of_ans hW k4
    replace c0 := cell_of_ans hW c0
    go_simp
    first | done | with_reducible rfl | omega
  try simp only [Act.put, List.setIfInBounds_toArray, List.set_cons_zero, List.set_cons_succ]
  refine' T_take (i := 2) (v := _) rfl (by kernel_rfl) (by kernel_rfl) (by kernel_rfl) (by kernel_rfl) (fun _ _ _ h => h) (by kernel_rfl) hS ?_ ?_
  rotate_left 1
  · intro Wv hW
    replace k0 := cell_of_ans hW k0
    replace k1 := cell_of_ans hW k1
    replace k2 := cell_of_ans hW k2
    replace k3 := cell_of_ans hW k3
    replace k4 := cell_of_ans hW k4
    replace c0 := cell_of_ans hW c0
    go_simp
    first | done | with_reducible rfl | omega
  try simp only [Act.put, List.setIfInBounds_toArray, List.set_cons_zero, List.set_cons_succ]
  refine' T_take (i := 3) (v := _) rfl (by kernel_rfl) (by kernel_rfl) (by kernel_rfl) (by kernel_rfl) (fun _ _ _ h => h) (by kernel_rfl) hS ?_ ?_
  rotate_left 1
  · intro Wv hW
    replace k0 := cell_of_ans hW k0
    replace k1 := cell_of_ans hW k1
    replace k2 := cell_of_ans hW k2
    replace k3 := cell_of_ans hW k3
    replace k4 := cell_of_ans hW k4
    replace c0 := cell_of_ans hW c0
    go_simp
    first | done | with_reducible rfl | omega
  try simp only [Act.put, List.setIfInBounds_toArray, List.set_cons_zero, List.set_cons_succ]
  refine' T_take (i := 6) (v := _) rfl (by kernel_rfl) (by kernel_rfl) (by kernel_rfl) (by kernel_rfl) (fun _ _ _ h => h) (by kernel_rfl) hS ?_ ?_
  rotate_left 1
  · intro Wv hW
    replace k0 := cell_of_ans hW k0
    replace k1 := cell_of_ans hW k1
    replace k2 := cell_of_ans hW k2
    replace k3 := cell_of_ans hW k3
    replace k4 := cell_of_ans hW k4
    replace c0 := cell_of_ans hW c0
    go_simp
    first | done | with_reducible rfl | omega
  try simp only [Act.put, List.setIfInBounds_toArray, List.set_cons_zero, List.set_cons_succ]
  refine' T_take (i := 7) (v := _) rfl (by kernel_rfl) (by kernel_rfl) (by kernel_rfl) (by kernel_rfl) (fun _ _ _ h => h) (by kernel_rfl) hS ?_ ?_
  rotate_left 1
  · intro Wv hW
    replace k0 := cell_of_ans hW k0
    replace k1 := cell_of_ans hW k1
    replace k2 := cell_of_ans hW k2
    replace k3 := cell_of_ans hW k3
    replace k4 := cell_of_ans hW k4
    replace c0 := cell_of_ans hW c0
    go_simp
    first | done | with_reducible rfl | omega
  try simp only [Act.put, List.setIfInBounds_toArray, List.set_cons_zero, List.set_cons_succ]
  refine T_ready (rs := [4]) (by kernel_rfl) (by simp) ?_
  refine TReady.cons rfl (fun K hK => ?_) TReady.nil
  try go_simp
  refine (HRA.out _ _ _ _ _ _ hfin (HX.out.step hS) hcx (HFA.out _ hS)).mono ?_
  rintro e v1 ⟨ps, Ap, cp, rfl, hri, hsh, hb⟩
  have hS2 : Below x1.heap.size x1 v1 := below_cat hb hS
  have HK := Lib.hid (HKS.out ps hri hsh)
  clear hri hsh
  try go_simp
  refine hK.out _ _ (fun _ => hS2) (fun _ => ?_)
  clear hK K hS hb
  replace hS := hS2
  clear hS2
  try simp only [Act.put, List.setIfInBounds_toArray, List.set_cons_zero, List.set_cons_succ]
  refine' T_take (i := 5) (v := _) rfl (by kernel_rfl) (by kernel_rfl) (by kernel_rfl) (by kernel_rfl) (fun _ _ _ h => h) (by kernel_rfl) hS ?_ ?_
  rotate_left 1
  · intro Wv hW
    replace k0 := cell_of_ans hW k0
    replace k1 := cell_of_ans hW k1
    replace k2 := cell_of_ans hW k2
    replace k3 := cell_of_ans hW k3
    replace k4 := cell_of_ans hW k4
    replace c0 := cell_of_ans hW c0
    go_simp
    first | done | with_reducible rfl | omega
  try simp only [Act.put, List.setIfInBounds_toArray, List.set_cons_zero, List.set_cons_succ]
  refine' T_take (i := 8) (v := _) rfl (by kernel_rfl) (by kernel_rfl) (by kernel_rfl) (by kernel_rfl) (fun _ _ _ h => h) (by kernel_rfl) hS ?_ ?_
  rotate_left 1
  · intro Wv hW
    replace k0 := cell_of_ans hW k0
    replace k1 := cell_of_ans hW k1
    replace k2 := cell_of_ans hW k2
    replace k3 := cell_of_ans hW k3
    replace k4 := cell_of_ans hW k4
    replace c0 := cell_of_ans hW c0
    go_simp
    first | done | with_reducible rfl | omega
  try simp only [Act.put, List.setIfInBounds_toArray, List.set_cons_zero, List.set_cons_succ]
  refine' T_take (i := 9) (v := _) rfl (by kernel_rfl) (by kernel_rfl) (by kernel_rfl) (by kernel_rfl) (fun _ _ _ h => h) (by kernel_rfl) hS ?_ ?_
  rotate_left 1
  · intro Wv hW
    replace k0 := cell_of_ans hW k0
    replace k1 := cell_of_ans hW k1
    replace k2 := cell_of_ans hW k2
    replace k3 := cell_of_ans hW k3
    replace k4 := cell_of_ans hW k4
    replace c0 := cell_of_ans hW c0
    go_simp
    first | done | with_reducible rfl | omega
  try simp only [Act.put, List.setIfInBounds_toArray, List.set_cons_zero, List.set_cons_succ]
  refine T_done (by kernel_rfl) ?_ _
  refine NoPanic.normal ?_
  try go_simp
  have HB5 := Lib.hid (HB.out.trans (hS.mono HB.out.size))
  replace c0 := cell_of_ans hS c0
  clear hS HKS HFA HRA
  by_cases e : ps.length = (listS s).length
  · rw [if_pos e] at HK
    have hq : ((ps.length : Int) == ((natsI (listS s)).length : Int)) = true := by rw [beq_iff_eq]; have := HLn.out; omega
    clear e
    generalize natsI (listS s) = xl at *
    go_wp2_with fail
    go_ret
    exact ⟨by rw [HK.out]; rfl, HB5.out⟩
  rw [if_neg e] at HK
  have hq : ((ps.length : Int) == ((natsI (listS s)).length : Int)) = false := by rw [beq_eq_false_iff_ne]; have := HLn.out; omega
  clear e
  generalize natsI (listS s) = xl at *
  by_cases e : fs = 0
  · rw [if_pos e] at HK
    have hq2 : ((fs : Int) != 0) = false := by rw [e]; rfl
    skip
    go_wp2_with fail
    go_ret
    exact ⟨by rw [HK.out]; rfl, HB5.out⟩
  · rw [if_neg e] at HK
    have hq2 : ((fs : Int) != 0) = true := by simp; omega
    clear e
    go_wp2_with fail
    go_ret
    exact ⟨by rw [HK.out]; rfl, HB5.out⟩
end Go.Proofs.Ytpekajnjjhibjaa
