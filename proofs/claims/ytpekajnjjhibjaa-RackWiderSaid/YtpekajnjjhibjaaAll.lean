/-
  all[T]: true just if the function says so of each element; numbers (with a function that may write a variable of its own), links, ranges.
-/
import Derived.Test.YtpekajnjjhibjaaA
import Derived.Test.YtpekajnjjhibjaaTruthM
namespace Go.Proofs.Ytpekajnjjhibjaa
open Go.RowKit

/-- The function g says p k of element k, in whatever world in which J k holds; then J (k + 1) holds. -/
structure RightJ (n g : Nat) (fs cs : Array Value) (vs : Nat → Value) (p : Nat → Bool) (A : Option Addr) (row : Option Nat) (J : Nat → World → Prop) : Prop where
  step : ∀ k, k < n → ∀ W, J k W → Calls Try.prog g (fs.push (vs k) ++ cs) W (fun e W' => e = .returned (.bool (p k)) ∧ J (k + 1) W' ∧ W.grownBy W' row)
  below : ∀ k W W', J k W → Below W.heap.size W W' → J k W'
  elem : ∀ k, k < n → ∀ W, J k W → ∃ b off, A = some ⟨b, off, none⟩ ∧ W.cell? ⟨b, off + k, none⟩ = some (vs k)
def FoundJ (w : World) (n : Nat) (p : Nat → Bool) (row : Option Nat) (J : Nat → World → Prop) (e : Ending) (w' : World) : Prop :=
  ((∃ k : Nat, e = .returned (.int .i64 k) ∧ allB n p = false) ∨ (e = .returned (.int .i64 (-1)) ∧ allB n p = true)) ∧ (∃ k, J k w') ∧ w.grownBy w' row
def AnsJ (w : World) (v : Value) (row : Option Nat) (J : Nat → World → Prop) (e : Ending) (w' : World) : Prop := e = .returned v ∧ (∃ k, J k w') ∧ w.grownBy w' row

set_option maxHeartbeats 400000 in
theorem clI (g bx : Nat) (fs cs : Array Value) (x : Value) (W : World) (b : Bool) (R : World → Prop) (he : Enters g)
    (hbx : W.cell? ⟨bx, 0, none⟩ = some (.func (.func g) fs cs)) (hc : Calls Try.prog g (fs.push x ++ cs) W (fun e W' => e = .returned (.bool b) ∧ R W')) :
    Calls Try.prog 105 #[x, .pointer (some ⟨bx, 0, none⟩)] W (fun e W' => e = .returned (.bool (!b)) ∧ R W') := by
  have H := Lib.hid hc
  clear hc
  unfold Enters at he
  go_enter Try.func105, Try.ntmps105
  go_wp2_with fail
  refine H.out.mono ?_
  rintro e w1 ⟨rfl, hb⟩
  go_wp2_with fail
  go_ret
  exact ⟨rfl, hb⟩

set_option maxHeartbeats 400000 in
theorem indexI (A : Option Addr) (n c g bx : Nat) (fs cs : Array Value) (vs : Nat → Value) (p : Nat → Bool) (row : Option Nat) (J : Nat → World → Prop) (w : World) (he : Enters g) (hn : n ≤ 9223372036854775807)
    (hcell : w.cell? ⟨bx, 0, none⟩ = some (.func (.func g) fs cs)) (hrow : some bx ≠ row) (hr : RightJ n g fs cs vs p A row J) (h0 : J 0 w) :
    Calls Try.prog 111 #[.slice A n c, .func (.func 105) #[] #[.pointer (some ⟨bx, 0, none⟩)]] w (FoundJ w n p row J) := by
  have HR := Lib.hid hr
  have HC := Lib.hid hcell
  have HE := Lib.hid he
  have HJ0 := Lib.hid h0
  have HNE := Lib.hid hrow
  clear hr hcell he h0 hrow
  go_enter Try.func111, Try.ntmps111
  go_wp2_with fail
  go_loopw [8] (fun i wr => ∃ k : Nat, k ≤ n ∧ i = .int .i64 k ∧ AllB k p ∧ J k wr ∧ w.grownBy wr row) (fun i _ => n - (intOf i).toNat)
  case atStart => exact ⟨0, by omega, rfl, fun j hj => by omega, HJ0.out, World.grownBy.refl _ _⟩
  case round =>
    obtain ⟨k, hk, rfl, hp, hj, hb⟩ := hrel
    have HP := Lib.hid hp
    have HJ := Lib.hid hj
    have HB := Lib.hid hb
    clear hp hj hb
    by_cases h1 : k < n
    · obtain ⟨b, off, rfl, hc⟩ := HR.out.elem k h1 wr HJ.out
      have hcl := clI g bx fs cs (vs k) wr (p k) _ HE.out (HB.out.cell HC.out HNE.out) (HR.out.step k h1 wr HJ.out)
      have HCL := Lib.hid hcl
      clear hcl
      cases hpk : p k
      · have HPK := Lib.hid hpk
        clear hpk
        go_wp2_with fail
        refine HCL.out.mono ?_
        rw [HPK.out]
        rintro e w1 ⟨rfl, hj2, hb2⟩
        have H2 := Lib.hid hj2
        have H3 := Lib.hid hb2
        clear hj2 hb2
        go_wp2_with fail
        go_ret
        exact ⟨.inl ⟨k, rfl, allB_false h1 HPK.out⟩, ⟨k + 1, H2.out⟩, HB.out.trans H3.out⟩
      · have HPK := Lib.hid hpk
        clear hpk
        go_wp2_with fail
        refine HCL.out.mono ?_
        rw [HPK.out]
        rintro e w1 ⟨rfl, hj2, hb2⟩
        have H2 := Lib.hid hj2
        have H3 := Lib.hid hb2
        clear hj2 hb2
        go_wp2_with fail
        go_roundw
        case rel => exact ⟨k + 1, by omega, by go_num, HP.out.succ HPK.out, H2.out, HB.out.trans H3.out⟩
        case measure => simp [intOf]; omega
    · go_wp2_with fail
      go_ret
      exact ⟨.inr ⟨rfl, allB_true (by have : k = n := by omega
                                      have h := HP.out
                                      rwa [this] at h)⟩, ⟨k, HJ.out⟩, HB.out⟩

set_option maxHeartbeats 400000 in
theorem containsI (A : Option Addr) (n c g bx : Nat) (fs cs : Array Value) (vs : Nat → Value) (p : Nat → Bool) (row : Option Nat) (J : Nat → World → Prop) (w : World) (he : Enters g) (hn : n ≤ 9223372036854775807)
    (hcell : w.cell? ⟨bx, 0, none⟩ = some (.func (.func g) fs cs)) (hrow : some bx ≠ row) (hr : RightJ n g fs cs vs p A row J) (h0 : J 0 w) :
    Calls Try.prog 104 #[.slice A n c, .func (.func 105) #[] #[.pointer (some ⟨bx, 0, none⟩)]] w (AnsJ w (.bool (!allB n p)) row J) := by
  have H := Lib.hid (indexI A n c g bx fs cs vs p row J w he hn hcell hrow hr h0)
  clear hcell hr he h0 hrow
  go_enter Try.func104, Try.ntmps104
  go_wp2_with fail
  refine H.out.mono ?_
  rintro e w1 ⟨⟨k, rfl, hk⟩ | ⟨rfl, hk⟩, hj, hg⟩
  all_goals
    have HJ := Lib.hid hj
    have HG := Lib.hid hg
    clear hj hg
    go_wp2_with fail
    go_ret
    exact ⟨ret_bool (by rw [hk]; simp), HJ.out, HG.out⟩

set_option maxHeartbeats 400000 in
theorem allJ (A : Option Addr) (n c g : Nat) (fs cs : Array Value) (vs : Nat → Value) (p : Nat → Bool) (row : Option Nat) (J : Nat → World → Prop) (w : World) (he : Enters g) (hn : n ≤ 9223372036854775807)
    (hrow : ∀ q, row = some q → q < w.heap.size) (hr : RightJ n g fs cs vs p A row J) (h0 : J 0 w) :
    Calls Try.prog 91 #[.slice A n c, .func (.func g) fs cs] w (AnsJ w (.bool (allB n p)) row J) := by
  have hw : Below w.heap.size w (w.alloc (.cells #[.func (.func g) fs cs] 138)) := (Below.refl _ _).alloc (Nat.le_refl _) _
  have H := Lib.hid (containsI A n c g w.heap.size fs cs vs p row J (w.alloc (.cells #[.func (.func g) fs cs] 138)) he hn (by simp) (fun e => by have := hrow _ e.symm; omega) hr (hr.below _ _ _ h0 hw))
  clear hr he h0 hrow
  go_enter Try.func91, Try.ntmps91
  go_wp2_with fail
  refine H.out.mono ?_
  rintro e w1 ⟨rfl, hj, hg⟩
  have HJ := Lib.hid hj
  have HG := Lib.hid hg
  clear hj hg
  go_wp2_with fail
  go_ret
  exact ⟨ret_bool (by simp), HJ.out, (only_below hw row).trans HG.out⟩

/-- Plain: a function that writes nothing of the old. -/
theorem allI {B : Nat} (A : Option Addr) (xs : List Int) (c g : Nat) (fs cs : Array Value) (p : Nat → Bool) (w : World) (he : Enters g) (hB : B ≤ w.heap.size) (hn : xs.length ≤ 9223372036854775807)
    (hel : Ints B w A xs) (hr : ∀ k, k < xs.length → ∀ W, Below w.heap.size w W → Calls Try.prog g (fs.push (.int .i64 (ix xs k)) ++ cs) W (Ans W (.bool (p k)))) :
    Calls Try.prog 91 #[.slice A xs.length c, .func (.func g) fs cs] w (Ans w (.bool (allB xs.length p))) := by
  refine (allJ A xs.length c g fs cs (fun k => .int .i64 (ix xs k)) p none (fun _ W => Below w.heap.size w W) w he hn (fun q e => by cases e) ⟨?_, ?_, ?_⟩ (Below.refl _ _)).mono ?_
  · intro k hk W hW
    refine (hr k hk W hW).mono ?_
    rintro e W' ⟨rfl, hb⟩
    exact ⟨rfl, hW.trans (hb.mono hW.size), only_below hb none⟩
  · intro _ W W' h hb; exact h.trans (hb.mono h.size)
  · intro k hk W hW
    obtain ⟨b, off, hA, _, hc⟩ := (hel.below (hW.mono hB)).at_ hk
    exact ⟨b, off, hA, hc⟩
  · rintro e W' ⟨rfl, ⟨_, hb⟩, _⟩
    exact ⟨rfl, hb⟩


/-- Elements of a slice of structs. -/
def W3 (w : World) (b p : Nat) (x : Lk) : Prop := w.cell? ⟨b, p, none⟩ = some (.int .i64 x.f) ∧ w.cell? ⟨b, p + 1, none⟩ = some (.int .i64 x.t) ∧ w.cell? ⟨b, p + 2, none⟩ = some (.bool x.s)
theorem W3.below {B : Nat} {w w' : World} {b p : Nat} {x : Lk} (h : W3 w b p x) (hb : Below B w w') (hlt : b < B) : W3 w' b p x := ⟨(hb.cell (p := ⟨b, p, none⟩) hlt).trans h.1, (hb.cell (p := ⟨b, p + 1, none⟩) hlt).trans h.2.1, (hb.cell (p := ⟨b, p + 2, none⟩) hlt).trans h.2.2⟩
def Lks (B : Nat) (w : World) (A : Option Addr) (ws : List Lk) : Prop :=
  0 < ws.length → ∃ b off, A = some ⟨b, off, none⟩ ∧ b < B ∧ ∀ k, k < ws.length → W3 w b (off + k * 3) (lx ws k)
theorem Lks.at_ {B : Nat} {w : World} {A : Option Addr} {ws : List Lk} (h : Lks B w A ws) {k : Nat} (hk : k < ws.length) : ∃ b off, A = some ⟨b, off, none⟩ ∧ b < B ∧ W3 w b (off + k * 3) (lx ws k) := by
  obtain ⟨b, off, hA, hb, hc⟩ := h (by omega)
  exact ⟨b, off, hA, hb, hc k hk⟩
theorem Lks.below {B : Nat} {w w' : World} {A : Option Addr} {ws : List Lk} (h : Lks B w A ws) (hb : Below B w w') : Lks B w' A ws := fun hp => by
  obtain ⟨b, off, hA, hlt, hc⟩ := h hp
  exact ⟨b, off, hA, hlt, fun k hk => (hc k hk).below hb hlt⟩
theorem Lks.more {B B' : Nat} {w : World} {A : Option Addr} {ws : List Lk} (h : Lks B w A ws) (hB : B ≤ B') : Lks B' w A ws := fun hp => by
  obtain ⟨b, off, hA, hlt, hc⟩ := h hp
  exact ⟨b, off, hA, by omega, hc⟩
theorem Lks.step {w w' : World} {A : Option Addr} {ws : List Lk} (h : Lks w.heap.size w A ws) (hb : Below w.heap.size w w') : Lks w'.heap.size w' A ws := (h.below hb).more hb.size
theorem Lks_nil (B : Nat) (w : World) : Lks B w none [] := fun h => by simp at h
/-- The value of one. -/
def lV (x : Lk) : Value := .agg #[.int .i64 x.f, .int .i64 x.t, .bool x.s]

set_option maxHeartbeats 400000 in
theorem clLk (g bx : Nat) (fs cs : Array Value) (x : Lk) (W : World) (b : Bool) (he : Enters g)
    (hbx : W.cell? ⟨bx, 0, none⟩ = some (.func (.func g) fs cs)) (hc : Calls Try.prog g (fs.push (lV x) ++ cs) (W.alloc (.cells #[.int .i64 x.f, .int .i64 x.t, .bool x.s] 99)) (Ans (W.alloc (.cells #[.int .i64 x.f, .int .i64 x.t, .bool x.s] 99)) (.bool b))) :
    Calls Try.prog 96 #[lV x, .pointer (some ⟨bx, 0, none⟩)] W (Ans W (.bool (!b))) := by
  have H := Lib.hid hc
  clear hc
  unfold Enters at he
  obtain ⟨xf, xt, xs⟩ := x
  unfold lV at H ⊢
  dsimp only at H ⊢
  have hbx2 := cell_alloc_keep (.cells #[.int .i64 xf, .int .i64 xt, .bool xs] 99) hbx
  have hb0 : Below W.heap.size W (W.alloc (.cells #[.int .i64 xf, .int .i64 xt, .bool xs] 99)) := (Below.refl _ _).alloc (Nat.le_refl _) _
  have hz0 := hb0.size
  go_enter Try.func96, Try.ntmps96
  go_wp2_with fail
  refine H.out.mono ?_
  rintro e w1 ⟨rfl, hb⟩
  go_wp2_with fail
  go_ret
  exact ⟨rfl, hb0.trans (hb.mono hz0)⟩

/-- The function g says p k of element k, in whatever world that has the old blocks. -/
def RightLk (B : Nat) (w : World) (n g : Nat) (fs cs : Array Value) (ws : List Lk) (p : Nat → Bool) : Prop :=
  ∀ k, k < n → ∀ W, Below B w W → Calls Try.prog g (fs.push (lV (lx ws k)) ++ cs) W (Ans W (.bool (p k)))
theorem RightLk.below {B : Nat} {w w' : World} {n g : Nat} {fs cs : Array Value} {ws : List Lk} {p : Nat → Bool} (h : RightLk B w n g fs cs ws p) (hb : Below B w w') : RightLk B w' n g fs cs ws p :=
  fun k hk W hW => h k hk W (hb.trans hW)

set_option maxHeartbeats 400000 in
theorem indexLk {B : Nat} (A : Option Addr) (c g bx : Nat) (fs cs : Array Value) (ws : List Lk) (p : Nat → Bool) (w : World) (he : Enters g) (hB : B ≤ w.heap.size) (hbx : bx < w.heap.size) (hn : ws.length ≤ 9223372036854775807)
    (hcell : w.cell? ⟨bx, 0, none⟩ = some (.func (.func g) fs cs)) (hel : Lks B w A ws) (hr : RightLk B w ws.length g fs cs ws p) :
    Calls Try.prog 106 #[.slice A ws.length c, .func (.func 96) #[] #[.pointer (some ⟨bx, 0, none⟩)]] w (Found w ws.length p) := by
  have HR := Lib.hid hr
  have HC := Lib.hid hcell
  have HE := Lib.hid he
  clear hr hcell he
  go_enter Try.func106, Try.ntmps106
  go_wp2_with fail
  go_loopw [8] (fun i wr => ∃ k : Nat, k ≤ ws.length ∧ i = .int .i64 k ∧ AllB k p ∧ Below w.heap.size w wr) (fun i _ => ws.length - (intOf i).toNat)
  case atStart => exact ⟨0, by omega, rfl, fun j hj => by omega, Below.refl _ _⟩
  case round =>
    obtain ⟨k, hk, rfl, hp, hb⟩ := hrel
    by_cases h1 : k < ws.length
    · obtain ⟨b, off, rfl, hb1, hc0⟩ := hel.at_ h1
      obtain ⟨c1, c2, c3⟩ := (hc0.below hb (by omega) : W3 wr b (off + k * 3) (lx ws k))
      clear hc0
      have hz := hb.size
      have hcl := clLk g bx fs cs (lx ws k) wr (p k) HE.out ((hb.cell (p := ⟨bx, 0, none⟩) hbx).trans HC.out) (HR.out k h1 _ ((hb.mono hB).alloc (by omega) _))
      unfold lV at hcl
      have HCL := Lib.hid hcl
      clear hcl
      cases hpk : p k
      · have HP := Lib.hid hpk
        clear hpk
        go_wp2_with fail
        refine HCL.out.mono ?_
        rw [HP.out]
        rintro e w1 ⟨rfl, hb2⟩
        go_wp2_with fail
        go_ret
        exact found_at h1 HP.out (hb.trans (hb2.mono hz))
      · have HP := Lib.hid hpk
        clear hpk
        go_wp2_with fail
        refine HCL.out.mono ?_
        rw [HP.out]
        rintro e w1 ⟨rfl, hb2⟩
        go_wp2_with fail
        go_roundw
        case rel => exact ⟨k + 1, by omega, by go_num, hp.succ HP.out, hb.trans (hb2.mono hz)⟩
        case measure => simp [intOf]; omega
    · go_wp2_with fail
      go_ret
      exact found_none (by have : k = ws.length := by omega
                           rwa [this] at hp) hb

set_option maxHeartbeats 400000 in
theorem containsLk {B : Nat} (A : Option Addr) (c g bx : Nat) (fs cs : Array Value) (ws : List Lk) (p : Nat → Bool) (w : World) (he : Enters g) (hB : B ≤ w.heap.size) (hbx : bx < w.heap.size) (hn : ws.length ≤ 9223372036854775807)
    (hcell : w.cell? ⟨bx, 0, none⟩ = some (.func (.func g) fs cs)) (hel : Lks B w A ws) (hr : RightLk B w ws.length g fs cs ws p) :
    Calls Try.prog 95 #[.slice A ws.length c, .func (.func 96) #[] #[.pointer (some ⟨bx, 0, none⟩)]] w (Ans w (.bool (!allB ws.length p))) := by
  have H := Lib.hid (indexLk A c g bx fs cs ws p w he hB hbx hn hcell hel hr)
  clear hcell hr he
  go_enter Try.func95, Try.ntmps95
  go_wp2_with fail
  refine H.out.mono ?_
  rintro e w1 (⟨k, rfl, hk, hb⟩ | ⟨rfl, hk, hb⟩)
  · go_wp2_with fail
    go_ret
    exact ⟨ret_bool (by rw [hk]; simp), hb⟩
  · go_wp2_with fail
    go_ret
    exact ⟨ret_bool (by rw [hk]; rfl), hb⟩

set_option maxHeartbeats 400000 in
theorem allLk {B : Nat} (A : Option Addr) (c g : Nat) (fs cs : Array Value) (ws : List Lk) (p : Nat → Bool) (w : World) (he : Enters g) (hB : B ≤ w.heap.size) (hn : ws.length ≤ 9223372036854775807)
    (hel : Lks B w A ws) (hr : RightLk B w ws.length g fs cs ws p) :
    Calls Try.prog 72 #[.slice A ws.length c, .func (.func g) fs cs] w (Ans w (.bool (allB ws.length p))) := by
  have hw : Below B w (w.alloc (.cells #[.func (.func g) fs cs] 125)) := (Below.refl _ _).alloc hB _
  have H := Lib.hid (containsLk (B := B) A c g w.heap.size fs cs ws p (w.alloc (.cells #[.func (.func g) fs cs] 125)) he (by simp; omega) (by simp) hn (by simp) (hel.below hw) (hr.below hw))
  clear hr he
  go_enter Try.func72, Try.ntmps72
  go_wp2_with fail
  refine H.out.mono ?_
  rintro e w1 ⟨rfl, hb⟩
  go_wp2_with fail
  go_ret
  exact ⟨ret_bool (by simp), (((Below.refl w.heap.size w).alloc (Nat.le_refl _) _).trans (hb.mono (by simp)))⟩

/-- Elements of a slice of structs. -/
def W2 (w : World) (b p : Nat) (x : Rg) : Prop := w.cell? ⟨b, p, none⟩ = some (.int .i64 x.lo) ∧ w.cell? ⟨b, p + 1, none⟩ = some (.int .i64 x.hi)
theorem W2.below {B : Nat} {w w' : World} {b p : Nat} {x : Rg} (h : W2 w b p x) (hb : Below B w w') (hlt : b < B) : W2 w' b p x := ⟨(hb.cell (p := ⟨b, p, none⟩) hlt).trans h.1, (hb.cell (p := ⟨b, p + 1, none⟩) hlt).trans h.2⟩
def Rgs (B : Nat) (w : World) (A : Option Addr) (ws : List Rg) : Prop :=
  0 < ws.length → ∃ b off, A = some ⟨b, off, none⟩ ∧ b < B ∧ ∀ k, k < ws.length → W2 w b (off + k * 2) (gx ws k)
theorem Rgs.at_ {B : Nat} {w : World} {A : Option Addr} {ws : List Rg} (h : Rgs B w A ws) {k : Nat} (hk : k < ws.length) : ∃ b off, A = some ⟨b, off, none⟩ ∧ b < B ∧ W2 w b (off + k * 2) (gx ws k) := by
  obtain ⟨b, off, hA, hb, hc⟩ := h (by omega)
  exact ⟨b, off, hA, hb, hc k hk⟩
theorem Rgs.below {B : Nat} {w w' : World} {A : Option Addr} {ws : List Rg} (h : Rgs B w A ws) (hb : Below B w w') : Rgs B w' A ws := fun hp => by
  obtain ⟨b, off, hA, hlt, hc⟩ := h hp
  exact ⟨b, off, hA, hlt, fun k hk => (hc k hk).below hb hlt⟩
theorem Rgs.more {B B' : Nat} {w : World} {A : Option Addr} {ws : List Rg} (h : Rgs B w A ws) (hB : B ≤ B') : Rgs B' w A ws := fun hp => by
  obtain ⟨b, off, hA, hlt, hc⟩ := h hp
  exact ⟨b, off, hA, by omega, hc⟩
theorem Rgs.step {w w' : World} {A : Option Addr} {ws : List Rg} (h : Rgs w.heap.size w A ws) (hb : Below w.heap.size w w') : Rgs w'.heap.size w' A ws := (h.below hb).more hb.size
theorem Rgs_nil (B : Nat) (w : World) : Rgs B w none [] := fun h => by simp at h
/-- The value of one. -/
def gV (x : Rg) : Value := .agg #[.int .i64 x.lo, .int .i64 x.hi]

set_option maxHeartbeats 400000 in
theorem clRg (g bx : Nat) (fs cs : Array Value) (x : Rg) (W : World) (b : Bool) (he : Enters g)
    (hbx : W.cell? ⟨bx, 0, none⟩ = some (.func (.func g) fs cs)) (hc : Calls Try.prog g (fs.push (gV x) ++ cs) (W.alloc (.cells #[.int .i64 x.lo, .int .i64 x.hi] 44)) (Ans (W.alloc (.cells #[.int .i64 x.lo, .int .i64 x.hi] 44)) (.bool b))) :
    Calls Try.prog 109 #[gV x, .pointer (some ⟨bx, 0, none⟩)] W (Ans W (.bool (!b))) := by
  have H := Lib.hid hc
  clear hc
  unfold Enters at he
  obtain ⟨xlo, xhi⟩ := x
  unfold gV at H ⊢
  dsimp only at H ⊢
  have hbx2 := cell_alloc_keep (.cells #[.int .i64 xlo, .int .i64 xhi] 44) hbx
  have hb0 : Below W.heap.size W (W.alloc (.cells #[.int .i64 xlo, .int .i64 xhi] 44)) := (Below.refl _ _).alloc (Nat.le_refl _) _
  have hz0 := hb0.size
  go_enter Try.func109, Try.ntmps109
  go_wp2_with fail
  refine H.out.mono ?_
  rintro e w1 ⟨rfl, hb⟩
  go_wp2_with fail
  go_ret
  exact ⟨rfl, hb0.trans (hb.mono hz0)⟩

/-- The function g says p k of element k, in whatever world that has the old blocks. -/
def RightRg (B : Nat) (w : World) (n g : Nat) (fs cs : Array Value) (ws : List Rg) (p : Nat → Bool) : Prop :=
  ∀ k, k < n → ∀ W, Below B w W → Calls Try.prog g (fs.push (gV (gx ws k)) ++ cs) W (Ans W (.bool (p k)))
theorem RightRg.below {B : Nat} {w w' : World} {n g : Nat} {fs cs : Array Value} {ws : List Rg} {p : Nat → Bool} (h : RightRg B w n g fs cs ws p) (hb : Below B w w') : RightRg B w' n g fs cs ws p :=
  fun k hk W hW => h k hk W (hb.trans hW)

set_option maxHeartbeats 400000 in
theorem indexRg {B : Nat} (A : Option Addr) (c g bx : Nat) (fs cs : Array Value) (ws : List Rg) (p : Nat → Bool) (w : World) (he : Enters g) (hB : B ≤ w.heap.size) (hbx : bx < w.heap.size) (hn : ws.length ≤ 9223372036854775807)
    (hcell : w.cell? ⟨bx, 0, none⟩ = some (.func (.func g) fs cs)) (hel : Rgs B w A ws) (hr : RightRg B w ws.length g fs cs ws p) :
    Calls Try.prog 112 #[.slice A ws.length c, .func (.func 109) #[] #[.pointer (some ⟨bx, 0, none⟩)]] w (Found w ws.length p) := by
  have HR := Lib.hid hr
  have HC := Lib.hid hcell
  have HE := Lib.hid he
  clear hr hcell he
  go_enter Try.func112, Try.ntmps112
  go_wp2_with fail
  go_loopw [8] (fun i wr => ∃ k : Nat, k ≤ ws.length ∧ i = .int .i64 k ∧ AllB k p ∧ Below w.heap.size w wr) (fun i _ => ws.length - (intOf i).toNat)
  case atStart => exact ⟨0, by omega, rfl, fun j hj => by omega, Below.refl _ _⟩
  case round =>
    obtain ⟨k, hk, rfl, hp, hb⟩ := hrel
    by_cases h1 : k < ws.length
    · obtain ⟨b, off, rfl, hb1, hc0⟩ := hel.at_ h1
      obtain ⟨c1, c2⟩ := (hc0.below hb (by omega) : W2 wr b (off + k * 2) (gx ws k))
      clear hc0
      have hz := hb.size
      have hcl := clRg g bx fs cs (gx ws k) wr (p k) HE.out ((hb.cell (p := ⟨bx, 0, none⟩) hbx).trans HC.out) (HR.out k h1 _ ((hb.mono hB).alloc (by omega) _))
      unfold gV at hcl
      have HCL := Lib.hid hcl
      clear hcl
      cases hpk : p k
      · have HP := Lib.hid hpk
        clear hpk
        go_wp2_with fail
        refine HCL.out.mono ?_
        rw [HP.out]
        rintro e w1 ⟨rfl, hb2⟩
        go_wp2_with fail
        go_ret
        exact found_at h1 HP.out (hb.trans (hb2.mono hz))
      · have HP := Lib.hid hpk
        clear hpk
        go_wp2_with fail
        refine HCL.out.mono ?_
        rw [HP.out]
        rintro e w1 ⟨rfl, hb2⟩
        go_wp2_with fail
        go_roundw
        case rel => exact ⟨k + 1, by omega, by go_num, hp.succ HP.out, hb.trans (hb2.mono hz)⟩
        case measure => simp [intOf]; omega
    · go_wp2_with fail
      go_ret
      exact found_none (by have : k = ws.length := by omega
                           rwa [this] at hp) hb

set_option maxHeartbeats 400000 in
theorem containsRg {B : Nat} (A : Option Addr) (c g bx : Nat) (fs cs : Array Value) (ws : List Rg) (p : Nat → Bool) (w : World) (he : Enters g) (hB : B ≤ w.heap.size) (hbx : bx < w.heap.size) (hn : ws.length ≤ 9223372036854775807)
    (hcell : w.cell? ⟨bx, 0, none⟩ = some (.func (.func g) fs cs)) (hel : Rgs B w A ws) (hr : RightRg B w ws.length g fs cs ws p) :
    Calls Try.prog 108 #[.slice A ws.length c, .func (.func 109) #[] #[.pointer (some ⟨bx, 0, none⟩)]] w (Ans w (.bool (!allB ws.length p))) := by
  have H := Lib.hid (indexRg A c g bx fs cs ws p w he hB hbx hn hcell hel hr)
  clear hcell hr he
  go_enter Try.func108, Try.ntmps108
  go_wp2_with fail
  refine H.out.mono ?_
  rintro e w1 (⟨k, rfl, hk, hb⟩ | ⟨rfl, hk, hb⟩)
  · go_wp2_with fail
    go_ret
    exact ⟨ret_bool (by rw [hk]; simp), hb⟩
  · go_wp2_with fail
    go_ret
    exact ⟨ret_bool (by rw [hk]; rfl), hb⟩

set_option maxHeartbeats 400000 in
theorem allRg {B : Nat} (A : Option Addr) (c g : Nat) (fs cs : Array Value) (ws : List Rg) (p : Nat → Bool) (w : World) (he : Enters g) (hB : B ≤ w.heap.size) (hn : ws.length ≤ 9223372036854775807)
    (hel : Rgs B w A ws) (hr : RightRg B w ws.length g fs cs ws p) :
    Calls Try.prog 101 #[.slice A ws.length c, .func (.func g) fs cs] w (Ans w (.bool (allB ws.length p))) := by
  have hw : Below B w (w.alloc (.cells #[.func (.func g) fs cs] 152)) := (Below.refl _ _).alloc hB _
  have H := Lib.hid (containsRg (B := B) A c g w.heap.size fs cs ws p (w.alloc (.cells #[.func (.func g) fs cs] 152)) he (by simp; omega) (by simp) hn (by simp) (hel.below hw) (hr.below hw))
  clear hr he
  go_enter Try.func101, Try.ntmps101
  go_wp2_with fail
  refine H.out.mono ?_
  rintro e w1 ⟨rfl, hb⟩
  go_wp2_with fail
  go_ret
  exact ⟨ret_bool (by simp), (((Below.refl w.heap.size w).alloc (Nat.le_refl _) _).trans (hb.mono (by simp)))⟩
end Go.Proofs.Ytpekajnjjhibjaa
