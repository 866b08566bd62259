/-
  path: slices.SortFunc at a list of states of one's own.
-/
import Derived.Test.YtenpiinkbfancaaSo1
namespace Go.Proofs.Ytenpiinkbfancaa.Pa
open Go.RowKit
set_option linter.unusedSimpArgs false
set_option linter.unusedVariables false

attribute [local go_sem] Oper.semAt_some
def recS (x : St) : List Int := [x.1.1, x.1.2]
theorem rx_recS {us : List St} {n : Nat} (h : n < us.length) : rx (us.map recS) n = recS us[n] := by
  rw [rx_lt (by rw [List.length_map]; exact h)]
  simp
theorem enc_rec (x : St) {c : Nat} (hc : c < 2) : (encS x)[c]! = .int .i64 (ix (recS x) c) := by
  rcases c with _ | _ | c
  · rfl
  · rfl
  · omega
theorem below_sort {α : Type} [Inhabited α] (enc : α → List Value) (k : Nat) (w : World) (blk off n : Nat) (d : Array α) (os : Array Obj) {B : Nat} (hB : B ≤ blk) (hb : blk < w.heap.size) : Below B w (Go.Proofs.sortWorldK enc k w blk off n d os) := by
  refine ⟨rfl, rfl, rfl, ?_, fun j hj => ?_⟩
  · exact Go.Proofs.size_sortWorldK_c enc k w blk off n d os
  · unfold Go.Proofs.sortWorldK Sort.putRowK Sort.putRow Sort.mapBlock Sort.grow Sort.ahead
    dsimp only
    rw [Array.getElem?_append_left (by simp; omega), Array.getElem?_modify, if_neg (by omega)]
def SortedC (base : Nat) (A : Option Addr) (us : List St) (w : World) (e : Ending) (w' : World) : Prop :=
  e = .returned (.tuple #[]) ∧ Below base w w' ∧ ∃ us' : List St, us'.length = us.length ∧ (∀ x, x ∈ us → x ∈ us') ∧ Recs 2 w'.heap.size w' A (us'.map recS)
theorem cmpLays143 (blk off size : Nat) (w : World) : Go.Proofs.CmpLays Try.prog 143 #[] encS 2 cmpS blk off size w := fun _ _ _ _ x y => ahead143_c x y _
theorem holds_own {base g c : Nat} {us : List St} {w : World} (hown : OwnK 105 2 base w (.slice (some ⟨g, 0, none⟩) us.length c) (us.map recS)) (hz : ∀ o, w.frozen? ⟨g, o, none⟩ = false) : Sort.HoldsK encS 2 w g 0 us.toArray := by
  intro j hj
  rw [Sort.size_flatK] at hj
  refine ⟨?_, hz _⟩
  have hj2 : j / 2 < us.length := by simp at hj; omega
  rw [Sort.get_flatK _ _ _ _ hj]
  have h1 := flatK_at hown.1 (j / 2) (by rw [List.length_map]; exact hj2) (j % 2) (by omega)
  have h2 := World.ownsRow.cells hown.2 (g := g) rfl _ _ h1
  rw [add_eq] at h2
  rw [show j / 2 * 2 + j % 2 = j by omega] at h2
  rw [h2, rx_recS hj2]
  have h3 : us.toArray[j / 2]! = us[j / 2] := by simp [hj2]
  rw [h3, enc_rec _ (by omega)]
  rfl
theorem recs_holds {g : Nat} {d : Array St} {w : World} (h : Sort.HoldsK encS 2 w g 0 d) (hg : g < w.heap.size) : Recs 2 w.heap.size w (some ⟨g, 0, none⟩) (d.toList.map recS) := fun hp => by
  refine ⟨g, 0, rfl, hg, fun n hn j hj => ?_⟩
  have hn' : n < d.size := by simpa using hn
  have h1 := (h (n * 2 + j) (by rw [Sort.size_flatK]; omega)).1
  rw [Sort.get_flatK _ _ _ _ (by omega), show (n * 2 + j) / 2 = n by omega, show (n * 2 + j) % 2 = j by omega, enc_rec _ hj] at h1
  rw [rx_recS (by simpa using hn')]
  rw [Nat.add_assoc]
  have h3 : d[n]! = d.toList[n]'(by simpa using hn') := by simp [hn']
  rw [h3] at h1
  exact h1
set_option maxRecDepth 100000 in
set_option maxHeartbeats 4000000 in
theorem sort142_c {base c : Nat} {A : Option Addr} {us : List St} {w : World} (hown : OwnK 105 2 base w (.slice A us.length c) (us.map recS)) (hn : us.length ≤ 4000000000) :
    Calls Try.prog 142 #[.slice A us.length c, .func (.func 143) #[] #[]] w (SortedC base A us w) := by
  have hform := hown.2.2
  rcases hform with ⟨e1, h0⟩ | ⟨g, cap, cur, e1, hb, hg, hr⟩
  · have hu : us = [] := by
      rw [List.length_map] at h0
      exact List.eq_nil_of_length_eq_zero h0
    subst hu
    injection e1 with e1 e2 e3
    subst e1 e3
    refine (sort142_nil (.func (.func 143) #[] #[]) w).mono ?_
    rintro e w' ⟨rfl, rfl⟩
    exact ⟨rfl, Below.refl _ _, [], rfl, fun x h => h, fun hp => by simp at hp⟩
  · injection e1 with e1 e2 e3
    subst e1
    have hz : ∀ o, w.frozen? ⟨g, o, none⟩ = false := fun o => by simp [World.frozen?, hg]
    have hgl := (Array.getElem?_eq_some_iff.1 hg).1
    have hH := holds_own hown hz
    have eg : ∀ args w, (callFunc 143 args).run Try.prog w = .ok (.enter 143 args) w := enters_of Try.func143 (by kernel_rfl) rfl
    have hcon := Go.Proofs.AnyQ.slices_SortFunc sortSt 2 Try.isAgg105 Try.sizeOf105 encS (fun _ => rfl) (fun x v hv => by simp [encS] at hv; rcases hv with rfl | rfl <;> rfl) cmpS swoS 143 #[] g 0 c us.toArray w eg (cmpLays143 g 0 us.toArray.size w) hH hgl (by simp; omega)
    change Calls Try.prog 142 _ _ _ at hcon
    rw [show us.toArray.size = us.length from rfl] at hcon
    refine hcon.mono ?_
    rintro e w' ⟨rfl, d', n, os, hp, -, rfl⟩
    have hsz := hp.1
    have hd := hp.2.2
    refine ⟨rfl, below_sort _ _ _ _ _ _ _ _ hb hgl, d'.toList, by simpa using hsz, fun x hx => ?_, recs_holds (Go.Proofs.holdsK_sortWorldK encS 2 w g 0 n us.toArray d' os hgl hH hsz) (Go.Proofs.lt_sortWorldK encS 2 w g 0 n d' os hgl)⟩
    have h1 : d'.extract 0 us.length = d' := by
      have : us.length = d'.size := by simpa using hsz.symm
      rw [this]
      simp
    have h2 : us.toArray.extract 0 us.length = us.toArray := by
      have : us.length = us.toArray.size := by simp
      rw [this, Array.extract_size]
    rw [h1, h2] at hd
    exact hd.mem_iff.2 (by simpa using hx)
end Go.Proofs.Ytenpiinkbfancaa.Pa
