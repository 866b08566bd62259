/-
  An open game is played: who can be first, and who surely is. Plain facts.
-/
import Derived.Test.YtjokbffdepcpkaaTruthF
namespace Go.Proofs.Ytjokbffdepcpkaa
open Go.RowKit
set_option linter.unusedSimpArgs false
set_option linter.unusedVariables false

/-- A game, or the same one played. -/
def Pl (g x : Gm) : Prop := x = g ∨ (g.op = true ∧ ∃ pa pb : Int, 0 ≤ pa ∧ pa ≤ 3000 ∧ 0 ≤ pb ∧ pb ≤ 3000 ∧ x = ⟨g.a, g.b, pa, pb, false⟩)
def PlL : List Gm → List Gm → Prop
  | [], [] => True
  | g :: gs, x :: xs => Pl g x ∧ PlL gs xs
  | _, _ => False
theorem PlL.refl : ∀ gs : List Gm, PlL gs gs
  | [] => trivial
  | g :: gs => ⟨.inl rfl, PlL.refl gs⟩
theorem PlL.length : ∀ {gs xs : List Gm}, PlL gs xs → xs.length = gs.length
  | [], [], _ => rfl
  | g :: gs, x :: xs, h => by rw [List.length_cons, List.length_cons, PlL.length h.2]
  | [], _ :: _, h => h.elim
  | _ :: _, [], h => h.elim
theorem PlL.mem : ∀ {gs xs : List Gm}, PlL gs xs → ∀ x ∈ xs, ∃ g ∈ gs, Pl g x
  | [], [], _, x, h => by cases h
  | g :: gs, x :: xs, h, y, hy => by
    rcases List.mem_cons.1 hy with rfl | hy
    · exact ⟨g, by simp, h.1⟩
    · obtain ⟨g', h1, h2⟩ := PlL.mem h.2 y hy
      exact ⟨g', by simp [h1], h2⟩
  | [], _ :: _, h, _, _ => h.elim
  | _ :: _, [], h, _, _ => h.elim
theorem Pl.game {n : Int} {g x : Gm} (h : Pl g x) (hg : gameB n g = true) : gameB n x = true := by
  rcases h with rfl | ⟨ho, pa, pb, h1, h2, h3, h4, rfl⟩
  · exact hg
  · unfold gameB at hg ⊢
    simp only [Bool.and_eq_true, decide_eq_true_eq, Bool.or_eq_true, Bool.not_eq_true'] at hg ⊢
    refine ⟨⟨⟨⟨⟨hg.1.1.1.1.1, hg.1.1.1.1.2⟩, hg.1.1.1.2⟩, ⟨h1, h2⟩⟩, ⟨h3, h4⟩⟩, .inl trivial⟩
theorem valid_play {l : Lg} {xs : List Gm} (hv : Valid l) (h : PlL l.games xs) : Valid ⟨l.teams, xs⟩ := by
  have e := h.length
  refine ⟨by show xs.length ≤ 20; rw [e]; exact hv.len, hv.t2, hv.t6, fun k hk => ?_⟩
  have hk' : k < xs.length := hk
  show gameB l.teams (gmx xs k) = true
  rw [gmx_lt hk']
  obtain ⟨g, h1, h2⟩ := h.mem _ (List.getElem_mem hk')
  obtain ⟨j, hj, rfl⟩ := List.getElem_of_mem h1
  refine h2.game ?_
  rw [← gmx_lt hj]
  exact hv.game j hj
/-- The points of a team of a game: none, if it is open. -/
theorem vG_open {g : Gm} (h : g.op = true) (grp : Int → Bool) (t : Int) : vG 1 grp t g = 0 := by
  unfold vG
  rw [ruV_1, ruV_1]
  unfold gA gB
  rw [if_pos h]
  simp [h]
theorem vG_rng (g : Gm) (grp : Int → Bool) (t : Int) : 0 ≤ vG 1 grp t g ∧ vG 1 grp t g ≤ 2 := by
  unfold vG
  rw [ruV_1, ruV_1]
  unfold gA gB
  repeat' split
  all_goals omega
theorem vG_out {g : Gm} {grp : Int → Bool} {t : Int} (h : inG t g = false) : vG 1 grp t g = 0 := by
  unfold inG at h
  rw [Bool.or_eq_false_iff, decide_eq_false_iff_not, decide_eq_false_iff_not] at h
  unfold vG
  rw [if_neg h.2, if_neg h.1]
theorem opens_cons {g : Gm} {gs : List Gm} : opensL (g :: gs) = if g.op then g :: opensL gs else opensL gs := by
  unfold opensL
  rw [List.filter_cons]
theorem sums_up {t : Int} {grp : Int → Bool} : ∀ {gs xs : List Gm}, PlL gs xs → numS 1 grp t gs ≤ numS 1 grp t xs
  | [], [], _ => Int.le_refl _
  | g :: gs, x :: xs, h => by
    have ih := sums_up (t := t) (grp := grp) h.2
    rw [numS, numS]
    rcases h.1 with rfl | ⟨ho, pa, pb, h1, h2, h3, h4, rfl⟩
    · omega
    · have := vG_open ho grp t
      have := (vG_rng ⟨g.a, g.b, pa, pb, false⟩ grp t).1
      omega
  | [], _ :: _, h => h.elim
  | _ :: _, [], h => h.elim
theorem reach_down {t : Int} {grp : Int → Bool} : ∀ {gs xs : List Gm}, PlL gs xs → numS 1 grp t xs + 2 * ((opensL xs).countP (inG t) : Nat) ≤ numS 1 grp t gs + 2 * ((opensL gs).countP (inG t) : Nat)
  | [], [], _ => Int.le_refl _
  | g :: gs, x :: xs, h => by
    have ih := reach_down (t := t) (grp := grp) h.2
    rw [numS, numS, opens_cons, opens_cons]
    rcases h.1 with rfl | ⟨ho, pa, pb, h1, h2, h3, h4, rfl⟩
    · split
      · rw [List.countP_cons, List.countP_cons]; omega
      · omega
    · have e1 := vG_open ho grp t
      rw [ho, if_pos rfl, if_neg (by simp), List.countP_cons]
      cases hi : inG t g
      · have e2 : vG 1 grp t ⟨g.a, g.b, pa, pb, false⟩ = 0 := vG_out (by rw [← hi]; rfl)
        simp only [Bool.false_eq_true, if_false]
        omega
      · have e2 := (vG_rng ⟨g.a, g.b, pa, pb, false⟩ grp t).2
        simp only [if_true]
        omega
  | [], _ :: _, h => h.elim
  | _ :: _, [], h => h.elim
/-- What the teams of a set have together, with the games among them. -/
def phiS (S : Nat → Bool) (T : Nat) (gs : List Gm) : Int := Rc.sumS S (fun u => numS 1 (fun _ => true) (u : Int) gs) 6 + 2 * ((opensL gs).countP (bothG (setT S T)) : Nat)
theorem phi_cons (S : Nat → Bool) (T : Nat) (g : Gm) (gs : List Gm) : phiS S T (g :: gs) = (Rc.sumS S (fun u => vG 1 (fun _ => true) (u : Int) g) 6 + if g.op && bothG (setT S T) g then 2 else 0) + phiS S T gs := by
  unfold phiS
  rw [opens_cons]
  have e : Rc.sumS S (fun u => numS 1 (fun _ => true) (u : Int) (g :: gs)) 6 = Rc.sumS S (fun u => vG 1 (fun _ => true) (u : Int) g) 6 + Rc.sumS S (fun u => numS 1 (fun _ => true) (u : Int) gs) 6 := by
    rw [← Rc.sumS_add]
    rfl
  rw [e]
  cases ho : g.op
  · simp only [Bool.false_eq_true, if_false, Bool.false_and]
    omega
  · rw [if_pos rfl, List.countP_cons, Bool.true_and]
    split <;> omega
theorem phi_play {T : Nat} (S : Nat → Bool) {g : Gm} (hg : GmOk (T : Int) g) (hT : T ≤ 6) {pa pb : Int} : (if bothG (setT S T) g then 2 else 0) ≤ Rc.sumS S (fun u => vG 1 (fun _ => true) (u : Int) ⟨g.a, g.b, pa, pb, false⟩) 6 := by
  have a0 := hg.a0; have an := hg.an; have b0 := hg.b0; have bn := hg.bn; have hne := hg.ne
  have e : Rc.sumS S (fun u => vG 1 (fun _ => true) (u : Int) ⟨g.a, g.b, pa, pb, false⟩) 6 = Rc.sumS S (fun u => (if g.a.toNat = u then gA ⟨g.a, g.b, pa, pb, false⟩ else 0) + (if g.b.toNat = u then gB ⟨g.a, g.b, pa, pb, false⟩ else 0)) 6 := by
    congr 1
    funext u
    unfold vG
    rw [ruV_1, ruV_1]
    show (if g.b = (u : Int) then _ else if g.a = (u : Int) then _ else _) = _
    by_cases e1 : g.b = (u : Int)
    · have e2 : g.b.toNat = u := by omega
      have e3 : ¬ g.a.toNat = u := by omega
      rw [if_pos e1, if_neg e3, if_pos e2]; omega
    · have e2 : ¬ g.b.toNat = u := by omega
      rw [if_neg e1, if_neg e2]
      by_cases e3 : g.a = (u : Int)
      · have e4 : g.a.toNat = u := by omega
        rw [if_pos e3, if_pos e4]; omega
      · have e4 : ¬ g.a.toNat = u := by omega
        rw [if_neg e3, if_neg e4]; omega
  rw [e, Rc.sumS_add, Rc.sumS_one 6 (by omega), Rc.sumS_one 6 (by omega)]
  unfold bothG
  rw [setT_has a0 an, setT_has b0 bn]
  unfold gA gB
  cases S g.a.toNat <;> cases S g.b.toNat <;> simp <;> repeat' split
  all_goals omega
theorem phi_up {T : Nat} (S : Nat → Bool) (hT : T ≤ 6) : ∀ {gs xs : List Gm}, PlL gs xs → (∀ g ∈ gs, GmOk (T : Int) g) → phiS S T gs ≤ phiS S T xs
  | [], [], _, _ => Int.le_refl _
  | g :: gs, x :: xs, h, hg => by
    have ih := phi_up S hT h.2 (fun y hy => hg y (by simp [hy]))
    rw [phi_cons, phi_cons]
    rcases h.1 with rfl | ⟨ho, pa, pb, h1, h2, h3, h4, rfl⟩
    · omega
    · have hp := phi_play (T := T) S (hg g (by simp)) hT (pa := pa) (pb := pb)
      have e : Rc.sumS S (fun u => vG 1 (fun _ => true) (u : Int) g) 6 = 0 := Rc.sumS_zero 6 fun u _ _ => vG_open ho _ _
      rw [e, ho, Bool.true_and, Bool.false_and]
      simp only [Bool.false_eq_true, if_false]
      omega
  | [], _ :: _, h, _ => h.elim
  | _ :: _, [], h, _ => h.elim
section
variable {l : Lg} {xs : List Gm} {p : Nat}
theorem sumsF_is (l : Lg) (u : Nat) : sumsF l u = numS 1 (fun _ => true) (u : Int) l.games := by unfold sumsF sumsK; rw [List.take_length]
theorem reachF_is (l : Lg) (u : Nat) : reachF l (u : Int) = numS 1 (fun _ => true) (u : Int) l.games + 2 * ((opensL l.games).countP (inG (u : Int)) : Nat) := by
  unfold reachF reachK
  rw [List.take_length, Int.toNat_natCast, sumsF_is]
/-- Who cannot be first, still cannot when a game is played. -/
theorem can_play (hv : Valid l) (hp : (p : Int) < l.teams) (h : PlL l.games xs) (hc : canB ⟨l.teams, xs⟩ p = true) : canB l p = true := by
  have hT2 := hv.t2
  have hT6 := hv.t6
  cases hc2 : canB l p
  · exfalso
    cases hr : reasonF l (p : Int)
    · have := (can_reason hv hp).2 hr
      rw [hc2] at this
      cases this
    · next L =>
      obtain ⟨S, hL, hSu, hS⟩ := reason_set hv hp hr
      have hm : reachF l (p : Int) * Rc.sumS S (fun _ => 1) 6 < Rc.sumS S (sumsF l) 6 + 2 * (raceR l p).inS S (opensL l.games).length := hS.more
      rw [race_in hv p S _ (Nat.le_refl _), List.take_length] at hm
      have e1 : Rc.sumS S (sumsF l) 6 + 2 * (((opensL l.games).countP (bothG (setT S l.teams.toNat)) : Nat) : Int) = phiS S l.teams.toNat l.games := by
        unfold phiS
        rw [show sumsF l = fun u : Nat => numS 1 (fun _ => true) (u : Int) l.games from funext fun u => sumsF_is l u]
      rw [e1] at hm
      have hgs : ∀ g ∈ l.games, GmOk (l.teams.toNat : Int) g := fun g hg => by
        have := hv.mem hg
        rwa [show ((l.teams.toNat : Nat) : Int) = l.teams by omega]
      have hup := phi_up S (T := l.teams.toNat) (by omega) h hgs
      have hdn := reach_down (t := (p : Int)) (grp := fun _ => true) h
      have hle : reachF ⟨l.teams, xs⟩ (p : Int) ≤ reachF l (p : Int) := by rw [reachF_is, reachF_is]; exact hdn
      have h1 : 0 ≤ Rc.sumS S (fun _ => 1) 6 := by rw [← setT_len]; omega
      have hle2 := Int.mul_le_mul_of_nonneg_right hle h1
      have hvx := valid_play hv h
      have : (raceR ⟨l.teams, xs⟩ p).Rules (sumsF ⟨l.teams, xs⟩) S := by
        refine ⟨hS.tm, hS.u6, ?_⟩
        show reachF ⟨l.teams, xs⟩ (p : Int) * Rc.sumS S (fun _ => 1) 6 < Rc.sumS S (sumsF ⟨l.teams, xs⟩) 6 + 2 * (raceR ⟨l.teams, xs⟩ p).inS S (opensL xs).length
        have e2 : Rc.sumS S (sumsF ⟨l.teams, xs⟩) 6 + 2 * (((opensL xs).countP (bothG (setT S l.teams.toNat)) : Nat) : Int) = phiS S l.teams.toNat xs := by
          unfold phiS
          rw [show sumsF ⟨l.teams, xs⟩ = fun u : Nat => numS 1 (fun _ => true) (u : Int) xs from funext fun u => sumsF_is ⟨l.teams, xs⟩ u]
        have e3 := race_in hvx p S (opensL xs).length (Nat.le_refl _)
        rw [show (opensL (Lg.games ⟨l.teams, xs⟩)) = opensL xs from rfl, List.take_length] at e3
        rw [e3]
        rw [show (Lg.teams ⟨l.teams, xs⟩) = l.teams from rfl, e2]
        omega
      rw [can_false this] at hc
      cases hc
  · rfl
/-- Who surely is first, still is when a game is played. -/
theorem sure_play (h : PlL l.games xs) (hs : sureB l p = true) : sureB ⟨l.teams, xs⟩ p = true := by
  unfold sureB at hs ⊢
  refine allB_true fun o ho => ?_
  have h1 := allB_iff.1 hs o ho
  rw [Bool.or_eq_true, decide_eq_true_eq, decide_eq_true_eq] at h1 ⊢
  refine h1.imp id fun h2 => ?_
  rw [reachF_is, sumsF_is] at h2 ⊢
  have := reach_down (t := (o : Int)) (grp := fun _ => true) h
  have := sums_up (t := (p : Int)) (grp := fun _ => true) h
  show numS 1 (fun _ => true) (o : Int) xs + 2 * ((opensL xs).countP (inG (o : Int)) : Nat) ≤ numS 1 (fun _ => true) (p : Int) xs
  omega
theorem sumS_single {f : Nat → Int} {o : Nat} : ∀ k, o < k → Rc.sumS (fun u => decide (u = o)) f k = f o
  | 0, h => by omega
  | k + 1, h => by
    rw [Rc.sumS]
    by_cases e : o = k
    · subst e
      rw [Rc.sumS_zero o (fun u hu hs => by rw [decide_eq_true_eq] at hs; omega)]
      simp
    · rw [sumS_single k (by omega)]
      have : ¬ k = o := by omega
      simp [this]
theorem none_open (hv : Valid l) (hp : (p : Int) < l.teams) (h : opensL l.games = []) (hc : canB l p = true) : ∀ u, u < l.teams.toNat → sumsF l u ≤ sumsF l p := by
  intro u hu
  have hT6 := hv.t6
  apply Classical.byContradiction
  intro hn
  have hne : ¬ p = u := fun e => hn (by rw [e]; exact Int.le_refl _)
  have : (raceR l p).Rules (sumsF l) (fun v => decide (v = u)) := by
    refine ⟨decide_eq_false hne, fun v hv' => ?_, ?_⟩
    · rw [decide_eq_true_eq] at hv'
      show v < 6
      omega
    · show reachF l (p : Int) * Rc.sumS (fun v => decide (v = u)) (fun _ => 1) 6 < Rc.sumS (fun v => decide (v = u)) (sumsF l) 6 + 2 * (raceR l p).inS (fun v => decide (v = u)) (opensL l.games).length
      rw [sumS_single 6 (by omega), sumS_single 6 (by omega), reachF_is, h, ← sumsF_is]
      simp only [List.countP_nil, List.length_nil, Rc.inS]
      omega
  rw [can_false this] at hc
  cases hc
theorem none_sure (hv : Valid l) (hp : (p : Int) < l.teams) (h : opensL l.games = []) : canB l p = sureB l p ∧ (canB l p = true ↔ ∀ u, u < l.teams.toNat → sumsF l u ≤ sumsF l p) := by
  have a1 : sureB l p = true ↔ ∀ u, u < l.teams.toNat → sumsF l u ≤ sumsF l p := by
    unfold sureB
    rw [allB_iff]
    constructor
    · intro hs u hu
      have := hs u hu
      rw [Bool.or_eq_true, decide_eq_true_eq, decide_eq_true_eq, reachF_is, h, ← sumsF_is] at this
      rcases this with rfl | this
      · exact Int.le_refl _
      · simpa using this
    · intro hs u hu
      rw [Bool.or_eq_true, decide_eq_true_eq, decide_eq_true_eq, reachF_is, h, ← sumsF_is]
      exact .inr (by simpa using hs u hu)
  have a2 : sureB l p = true → canB l p = true := fun hs => first_can (os := []) hv (by rw [h]; rfl) (fun k hk => by simp at hk) fun u hu => sure_first (os := []) hv (by rw [h]; rfl) (fun k hk => by simp at hk) hs hu
  have a3 := none_open hv hp h
  refine ⟨?_, a3, fun hh => a2 (a1.2 hh)⟩
  cases e : sureB l p
  · cases e2 : canB l p
    · rfl
    · have := a1.2 (a3 e2)
      rw [e] at this
      cases this
  · rw [a2 e]
theorem rank1_ok (hv : Valid l) : rankErr l [1] = 0 := by
  unfold rankErr
  rw [if_pos (valid_iff.2 hv), if_neg (by simp), if_pos]
  refine allB_true fun k hk => ?_
  have : k = 0 := by simpa using hk
  subst this
  rw [inB_eq]
  simp [ix]
theorem rank1_is (hv : Valid l) : rankL l [1] = (List.range l.teams.toNat).map fun t : Nat => rankV l.teams.toNat l.games [1] 1 (t : Int) := by unfold rankL; rw [if_pos (rank1_ok hv)]; rfl
theorem rank1_len (hv : Valid l) : (rankL l [1]).length = l.teams.toNat := by rw [rank1_is hv]; simp
theorem rank_points (hv : Valid l) (hp : (p : Int) < l.teams) : ix (rankL l [1]) p = 1 ↔ ∀ u, u < l.teams.toNat → sumsF l u ≤ sumsF l p := by
  have hT2 := hv.t2
  have e1 := rank1_is hv
  have hgs : ∀ g ∈ l.games, GmOk (l.teams.toNat : Int) g := fun g hg => by
    have := hv.mem hg
    rwa [show ((l.teams.toNat : Nat) : Int) = l.teams by omega]
  have hn : 0 < l.teams.toNat := by omega
  have hm : ∀ k : Nat, k < l.teams.toNat → (k : Int) ∈ wholeL l.teams.toNat := fun k hk => mem_whole.2 ⟨by omega, by omega⟩
  have eN : ∀ u : Nat, NK l.teams.toNat l.games [1] 0 (u : Int) = sumsF l u := fun u => by
    rw [sumsF_is]
    unfold NK
    refine numS_congr fun g _ => ?_
    unfold vG ruV
    simp [ix]
  have ea : ∀ u : Nat, u < l.teams.toNat → (ahdK l.teams.toNat l.games [1] 1 (u : Int) (p : Int) = true ↔ sumsF l p < sumsF l u) := fun u hu => by
    rw [show (1 : Nat) = 0 + 1 from rfl, ahdK_succ, eN, eN]
    have c1 : ahdK l.teams.toNat l.games [1] 0 (u : Int) (p : Int) = false := rfl
    have c2 : clsK l.teams.toNat l.games [1] 0 (u : Int) (p : Int) = true := rfl
    rw [c1, c2, Bool.false_or, Bool.true_and, decide_eq_true_eq]
  rw [e1, ix_mapR _ (by omega), rank_count hn hgs (hm p (by omega))]
  constructor
  · intro hh u hu
    have h0 : (wholeL l.teams.toNat).countP (fun o => ahdK l.teams.toNat l.games [1] 1 o (p : Int)) = 0 := by omega
    have := List.countP_eq_zero.1 h0 (u : Int) (hm u hu)
    rw [ea u hu] at this
    omega
  · intro hh
    have h0 : (wholeL l.teams.toNat).countP (fun o => ahdK l.teams.toNat l.games [1] 1 o (p : Int)) = 0 := List.countP_eq_zero.2 fun o ho => by
      obtain ⟨o1, o2⟩ := mem_whole.1 ho
      obtain ⟨u, rfl⟩ : ∃ u : Nat, o = (u : Int) := ⟨o.toNat, by omega⟩
      rw [ea u (by omega)]
      have := hh u (by omega)
      omega
    rw [h0]
    rfl
end
/-- The k-th open game is played. -/
def plG (pa pb : Int) : List Gm → Int → List Gm
  | [], _ => []
  | g :: gs, k => if g.op then (if k = 0 then ⟨g.a, g.b, pa, pb, false⟩ else g) :: plG pa pb gs (k - 1) else g :: plG pa pb gs k
theorem plG_pl {pa pb : Int} (h1 : 0 ≤ pa ∧ pa ≤ 3000) (h2 : 0 ≤ pb ∧ pb ≤ 3000) : ∀ (gs : List Gm) (k : Int), PlL gs (plG pa pb gs k)
  | [], _ => trivial
  | g :: gs, k => by
    rw [plG]
    cases ho : g.op
    · exact ⟨.inl rfl, plG_pl h1 h2 gs k⟩
    · rw [if_pos rfl]
      refine ⟨?_, plG_pl h1 h2 gs (k - 1)⟩
      split
      · exact .inr ⟨ho, pa, pb, h1.1, h1.2, h2.1, h2.2, rfl⟩
      · exact .inl rfl
/-- What is told of a team, before and behind. -/
structure PlF (l x : Lg) (t : Nat) : Prop where
  canl : canL l (t : Int) = canB l t
  surel : sureL l (t : Int) = sureB l t
  canx : canL x (t : Int) = canB x t
  surex : sureL x (t : Int) = sureB x t
  asx : askedL x (t : Int) = 0
  asl : askedL l (t : Int) = 0
  can : canB x t = true → canB l t = true
  sure : sureB l t = true → sureB x t = true
  none : opensL l.games = [] → canB l t = sureB l t ∧ (canB l t = true ↔ ix (rankL l [1]) t = 1)
theorem plF {l : Lg} {xs : List Gm} (hv : Valid l) (h : PlL l.games xs) {t : Nat} (ht : (t : Int) < l.teams) : PlF l ⟨l.teams, xs⟩ t := by
  have ha := asked_ok hv ht
  have hb := asked_ok (l := ⟨l.teams, xs⟩) (valid_play hv h) (t := t) ht
  refine ⟨?_, ?_, ?_, ?_, hb, ha, can_play hv ht h, sure_play h, fun hn => ?_⟩
  · unfold canL; rw [decide_eq_true ha, Bool.true_and, Int.toNat_natCast]
  · unfold sureL; rw [decide_eq_true ha, Bool.true_and, Int.toNat_natCast]
  · unfold canL; rw [decide_eq_true hb, Bool.true_and, Int.toNat_natCast]
  · unfold sureL; rw [decide_eq_true hb, Bool.true_and, Int.toNat_natCast]
  · obtain ⟨h1, h2⟩ := none_sure hv ht hn
    exact ⟨h1, h2.trans (rank_points hv ht).symm⟩
/-- How many open games are still to go by, behind i games. -/
def kAt : List Gm → Int → Nat → Int
  | _, k, 0 => k
  | [], k, _ + 1 => k
  | g :: gs, k, i + 1 => kAt gs (if g.op then k - 1 else k) i
theorem kAt_succ : ∀ (gs : List Gm) (k : Int) (i : Nat), i < gs.length → kAt gs k (i + 1) = if (gmx gs i).op then kAt gs k i - 1 else kAt gs k i
  | [], k, i, h => by simp at h
  | g :: gs, k, 0, h => by simp [kAt, gmx]
  | g :: gs, k, i + 1, h => by
    have := kAt_succ gs (if g.op then k - 1 else k) i (by simpa using h)
    simpa [kAt, gmx] using this
theorem kAt_rng : ∀ (gs : List Gm) (k : Int) (i : Nat), k - i ≤ kAt gs k i ∧ kAt gs k i ≤ k
  | _, k, 0 => by simp [kAt]
  | [], k, i + 1 => by simp [kAt]; omega
  | g :: gs, k, i + 1 => by
    have := kAt_rng gs (if g.op then k - 1 else k) i
    rw [kAt]
    split at this <;> simp_all <;> omega
theorem plG_at {pa pb : Int} : ∀ (gs : List Gm) (k : Int) (i : Nat), i < gs.length → gmx (plG pa pb gs k) i = if (gmx gs i).op = true ∧ kAt gs k i = 0 then ⟨(gmx gs i).a, (gmx gs i).b, pa, pb, false⟩ else gmx gs i
  | [], k, i, h => by simp at h
  | g :: gs, k, 0, h => by
    rw [plG]
    cases ho : g.op
    · simp [gmx, ho]
    · by_cases hk : k = 0
      · simp [gmx, ho, hk, kAt]
      · simp [gmx, ho, hk, kAt]
  | g :: gs, k, i + 1, h => by
    rw [plG]
    cases ho : g.op
    · have := plG_at (pa := pa) (pb := pb) gs k i (by simpa using h)
      simpa [gmx, ho, kAt] using this
    · have := plG_at (pa := pa) (pb := pb) gs (k - 1) i (by simpa using h)
      simpa [gmx, ho, kAt] using this
theorem plG_len {pa pb : Int} : ∀ (gs : List Gm) (k : Int), (plG pa pb gs k).length = gs.length
  | [], _ => rfl
  | g :: gs, k => by
    rw [plG]
    split <;> simp [plG_len gs]
/-- The games of xs, as far as i, and then those of gs. -/
def mixL (xs gs : List Gm) (i : Nat) : List Gm := xs.take i ++ gs.drop i
theorem mix_zero {xs gs : List Gm} : mixL xs gs 0 = gs := by simp [mixL]
theorem mix_all {xs gs : List Gm} (h : xs.length = gs.length) : mixL xs gs gs.length = xs := by simp [mixL, ← h]
theorem mix_len {xs gs : List Gm} {i : Nat} (h : xs.length = gs.length) (hi : i ≤ gs.length) : (mixL xs gs i).length = gs.length := by simp [mixL]; omega
theorem mix_at {xs gs : List Gm} {i : Nat} (h : xs.length = gs.length) (hi : i < gs.length) : gmx (mixL xs gs i) i = gmx gs i := by
  unfold gmx mixL
  rw [List.getD_eq_getElem?_getD, List.getD_eq_getElem?_getD, List.getElem?_append_right (by rw [List.length_take]; omega)]
  congr 1
  rw [List.length_take, Nat.min_eq_left (by omega)]
  simp
theorem mix_succ {xs gs : List Gm} {i : Nat} (h : xs.length = gs.length) (hi : i < gs.length) : mixL xs gs (i + 1) = (mixL xs gs i).set i (gmx xs i) := by
  unfold mixL
  rw [List.set_append_right _ _ (by rw [List.length_take]; omega), List.length_take, Nat.min_eq_left (by omega), Nat.sub_self, List.drop_eq_getElem_cons hi, List.set_cons_zero, List.take_succ_eq_append_getElem (show i < xs.length by omega), gmx_lt (by omega), List.append_assoc]
  rfl
theorem mix_same {xs gs : List Gm} {i : Nat} (h : xs.length = gs.length) (hi : i < gs.length) (e : gmx xs i = gmx gs i) : mixL xs gs (i + 1) = mixL xs gs i := by
  rw [mix_succ h hi, e, ← mix_at h hi, gmx_lt (by rw [mix_len h (by omega)]; exact hi)]
  exact List.set_getElem_self _
theorem flatM_play : ∀ (ls : List Gm) (k : Nat) (pa pb : Int), k < ls.length → flatM (ls.set k ⟨(gmx ls k).a, (gmx ls k).b, pa, pb, false⟩) = (((flatM ls).set (k * 5 + 4) (.bool false)).set (k * 5 + 2) (.int .i64 pa)).set (k * 5 + 3) (.int .i64 pb)
  | y :: ys, 0, pa, pb, _ => by simp [flatM, cellsM, gmx]
  | y :: ys, k + 1, pa, pb, h => by
    have := flatM_play ys k pa pb (by simpa using h)
    simp only [flatM, cellsM, List.set_cons_succ, List.flatMap_cons, gmx, List.getD_cons_succ] at *
    rw [this, show (k + 1) * 5 + 4 = k * 5 + 4 + 5 by omega, show (k + 1) * 5 + 2 = k * 5 + 2 + 5 by omega, show (k + 1) * 5 + 3 = k * 5 + 3 + 5 by omega]
    simp
def setP (w : World) (g k : Nat) (pa pb : Int) : World := ((w.setCell ⟨g, k * 5 + 4, none⟩ (.bool false)).setCell ⟨g, k * 5 + 2, none⟩ (.int .i64 pa)).setCell ⟨g, k * 5 + 3, none⟩ (.int .i64 pb)
theorem OwnM.played {base : Nat} {w : World} {g n c : Nat} {ls : List Gm} (h : OwnM 70 base w (.slice (some ⟨g, 0, none⟩) n c) ls) {k : Nat} (hk : k < ls.length) (pa pb : Int) : OwnM 70 base (setP w g k pa pb) (.slice (some ⟨g, 0, none⟩) n c) (ls.set k ⟨(gmx ls k).a, (gmx ls k).b, pa, pb, false⟩) := by
  obtain ⟨A, c', e⟩ := h.form
  have hn : n = ls.length := by injection e
  subst hn
  unfold OwnM at h ⊢
  rw [flatM_play ls k pa pb hk, List.length_set]
  obtain ⟨h1, _⟩ := World.ownsRow.stored h (k * 5 + 4) (.bool false)
  obtain ⟨h2, _⟩ := World.ownsRow.stored h1 (k * 5 + 2) (.int .i64 pa)
  exact (World.ownsRow.stored h2 (k * 5 + 3) (.int .i64 pb)).1
theorem below_setP {B : Nat} {a w : World} (h : Below B a w) {g : Nat} (hg : B ≤ g) (k : Nat) (pa pb : Int) : Below B a (setP w g k pa pb) := ((h.setCell hg _).setCell hg _).setCell hg _
end Go.Proofs.Ytjokbffdepcpkaa
