/-
  Games in another order, their teams exchanged, teams numbered otherwise. Plain facts.
-/
import Derived.Test.YtjokbffdepcpkaaPlayedM
import Derived.Test.YtjokbffdepcpkaaRulesM
namespace Go.Proofs.Ytjokbffdepcpkaa
open Go.RowKit
set_option linter.unusedSimpArgs false
set_option linter.unusedVariables false

/-- Games of which all sums are the same. -/
structure SameG (gs xs : List Gm) : Prop where
  num : ∀ code grp t, numS code grp t xs = numS code grp t gs
  inn : ∀ t, (opensL xs).countP (inG t) = (opensL gs).countP (inG t)
  both : ∀ S, (opensL xs).countP (bothG S) = (opensL gs).countP (bothG S)
theorem SameG.trans {a b c : List Gm} (h1 : SameG a b) (h2 : SameG b c) : SameG a c := ⟨fun x y z => (h2.num x y z).trans (h1.num x y z), fun x => (h2.inn x).trans (h1.inn x), fun x => (h2.both x).trans (h1.both x)⟩
theorem numS_perm {code : Int} {grp : Int → Bool} {t : Int} {gs xs : List Gm} (h : gs.Perm xs) : numS code grp t gs = numS code grp t xs := by
  induction h with
  | nil => rfl
  | cons g _ ih => rw [numS, numS, ih]
  | swap a b l => simp only [numS]; omega
  | trans _ _ ih1 ih2 => rw [ih1, ih2]
theorem same_perm {gs xs : List Gm} (h : gs.Perm xs) : SameG gs xs := by
  have ho : (opensL gs).Perm (opensL xs) := h.filter _
  exact ⟨fun c g t => (numS_perm h).symm, fun t => (ho.countP_eq _).symm, fun S => (ho.countP_eq _).symm⟩
/-- A game, or its teams exchanged. -/
def swG (g : Gm) : Gm := ⟨g.b, g.a, g.pb, g.pa, g.op⟩
def Sw (g x : Gm) : Prop := x = g ∨ x = swG g
def SwL : List Gm → List Gm → Prop
  | [], [] => True
  | g :: gs, x :: xs => Sw g x ∧ SwL gs xs
  | _, _ => False
theorem gA_sw (g : Gm) : gA (swG g) = gB g ∧ gB (swG g) = gA g := by
  unfold gA gB swG
  constructor
  · show (if g.op = true then (0 : Int) else if g.pa < g.pb then 2 else if g.pb < g.pa then 0 else 1) = _
    split
    · rfl
    · by_cases h1 : g.pa < g.pb
      · have h2 : ¬ g.pb < g.pa := by omega
        simp [h1, h2]
      · by_cases h2 : g.pb < g.pa <;> simp [h1, h2]
  · show (if g.op = true then (0 : Int) else if g.pa < g.pb then 0 else if g.pb < g.pa then 2 else 1) = _
    split
    · rfl
    · by_cases h1 : g.pa < g.pb
      · have h2 : ¬ g.pb < g.pa := by omega
        simp [h1, h2]
      · by_cases h2 : g.pb < g.pa <;> simp [h1, h2]
theorem vG_sw {code : Int} {grp : Int → Bool} {t : Int} {g : Gm} (hne : g.a ≠ g.b) : vG code grp t (swG g) = vG code grp t g := by
  obtain ⟨e1, e2⟩ := gA_sw g
  unfold vG
  rw [e1, e2]
  show (if g.a = t then ruV code grp g.b (gA g) g.pa else if g.b = t then ruV code grp g.a (gB g) g.pb else 0) = _
  by_cases h1 : g.a = t
  · have h2 : ¬ g.b = t := fun e => hne (by rw [h1, e])
    rw [if_pos h1, if_neg h2, if_pos h1]
  · rw [if_neg h1, if_neg h1]
theorem same_sw : ∀ {gs xs : List Gm}, SwL gs xs → (∀ g ∈ gs, g.a ≠ g.b) → SameG gs xs
  | [], [], _, _ => ⟨fun _ _ _ => rfl, fun _ => rfl, fun _ => rfl⟩
  | g :: gs, x :: xs, h, hne => by
    have ih := same_sw h.2 (fun y hy => hne y (by simp [hy]))
    have hg := hne g (by simp)
    have e1 : ∀ code grp t, vG code grp t x = vG code grp t g := fun c r t => by
      rcases h.1 with rfl | rfl
      · rfl
      · exact vG_sw hg
    have e2 : x.op = g.op := by rcases h.1 with rfl | rfl <;> rfl
    have e3 : ∀ t, inG t x = inG t g := fun t => by
      rcases h.1 with rfl | rfl
      · rfl
      · unfold inG swG; exact Bool.or_comm _ _
    have e4 : ∀ S, bothG S x = bothG S g := fun S => by
      rcases h.1 with rfl | rfl
      · rfl
      · unfold bothG swG; exact Bool.and_comm _ _
    refine ⟨fun c r t => by rw [numS, numS, e1, ih.num], fun t => ?_, fun S => ?_⟩
    · rw [opens_cons, opens_cons, e2]
      split
      · rw [List.countP_cons, List.countP_cons, ih.inn, e3]
      · exact ih.inn t
    · rw [opens_cons, opens_cons, e2]
      split
      · rw [List.countP_cons, List.countP_cons, ih.both, e4]
      · exact ih.both S
  | [], _ :: _, h, _ => h.elim
  | _ :: _, [], h, _ => h.elim
section
variable {n : Nat} {gs xs : List Gm} {rules : List Int}
theorem sem_same (h : SameG gs xs) : ∀ k t o, clsK n xs rules k t o = clsK n gs rules k t o ∧ ahdK n xs rules k t o = ahdK n gs rules k t o
  | 0, _, _ => ⟨rfl, rfl⟩
  | k + 1, t, o => by
    have ih := sem_same h k
    have hN : ∀ t, NK n xs rules k t = NK n gs rules k t := fun t => by
      unfold NK
      rw [h.num]
      congr 1
      funext o
      rw [(ih t o).1]
    rw [clsK_succ, clsK_succ, ahdK_succ, ahdK_succ, hN, hN, (ih t o).1, (ih t o).2]
    exact ⟨rfl, rfl⟩
theorem rank_same_g (hn : 0 < n) (h1 : ∀ g ∈ gs, GmOk n g) (h2 : ∀ g ∈ xs, GmOk n g) (h : SameG gs xs) (k : Nat) {t : Int} (ht : t ∈ wholeL n) : rankV n xs rules k t = rankV n gs rules k t := by
  rw [rank_count hn h1 ht, rank_count hn h2 ht]
  congr 2
  refine List.countP_congr fun o _ => ?_
  rw [(sem_same h k o t).2]
end
theorem can_same {l : Lg} {xs : List Gm} (hv : Valid l) (hx : Valid ⟨l.teams, xs⟩) (h : SameG l.games xs) (p : Nat) : canB ⟨l.teams, xs⟩ p = canB l p := by
  have hs : ∀ u, sumsF ⟨l.teams, xs⟩ u = sumsF l u := fun u => by rw [sumsF_is, sumsF_is]; exact h.num 1 _ _
  have hr : reachF ⟨l.teams, xs⟩ (p : Int) = reachF l (p : Int) := by
    rw [reachF_is, reachF_is]
    show numS 1 _ _ xs + 2 * ((opensL xs).countP (inG (p : Int)) : Nat) = _
    rw [h.num, h.inn]
  have hi : ∀ S, (raceR ⟨l.teams, xs⟩ p).inS S (opensL xs).length = (raceR l p).inS S (opensL l.games).length := fun S => by
    have a := race_in hx p S (opensL xs).length (Nat.le_refl _)
    have b := race_in hv p S (opensL l.games).length (Nat.le_refl _)
    rw [show (opensL (Lg.games ⟨l.teams, xs⟩)) = opensL xs from rfl, List.take_length] at a
    rw [List.take_length] at b
    rw [a, b]
    show ((((opensL xs).countP (bothG (setT S l.teams.toNat))) : Nat) : Int) = _
    rw [h.both]
  have he : ∀ S, (raceR ⟨l.teams, xs⟩ p).Rules (sumsF ⟨l.teams, xs⟩) S ↔ (raceR l p).Rules (sumsF l) S := fun S => by
    have hsf : sumsF ⟨l.teams, xs⟩ = sumsF l := funext hs
    have e : ((raceR ⟨l.teams, xs⟩ p).rc * Rc.sumS S (fun _ => 1) (raceR ⟨l.teams, xs⟩ p).m < Rc.sumS S (sumsF ⟨l.teams, xs⟩) (raceR ⟨l.teams, xs⟩ p).m + 2 * (raceR ⟨l.teams, xs⟩ p).inS S (raceR ⟨l.teams, xs⟩ p).n) ↔ ((raceR l p).rc * Rc.sumS S (fun _ => 1) (raceR l p).m < Rc.sumS S (sumsF l) (raceR l p).m + 2 * (raceR l p).inS S (raceR l p).n) := by
      show (reachF ⟨l.teams, xs⟩ (p : Int) * Rc.sumS S (fun _ => 1) 6 < Rc.sumS S (sumsF ⟨l.teams, xs⟩) 6 + 2 * (raceR ⟨l.teams, xs⟩ p).inS S (opensL xs).length) ↔ (reachF l (p : Int) * Rc.sumS S (fun _ => 1) 6 < Rc.sumS S (sumsF l) 6 + 2 * (raceR l p).inS S (opensL l.games).length)
      rw [hr, hsf, hi]
    exact ⟨fun h => ⟨h.tm, h.u6, e.1 h.more⟩, fun h => ⟨h.tm, h.u6, e.2 h.more⟩⟩
  cases hc : canB l p
  · cases hx2 : canB ⟨l.teams, xs⟩ p
    · rfl
    · exfalso
      classical
      unfold canB at hc hx2
      rw [decide_eq_false_iff_not] at hc
      rw [decide_eq_true_eq] at hx2
      exact hc fun S hS => hx2 S ((he S).2 hS)
  · classical
    unfold canB at hc ⊢
    rw [decide_eq_true_eq] at hc
    exact decide_eq_true fun S hS => hc S ((he S).1 hS)
/-- Teams counted on. -/
def shI (T d : Nat) (t : Int) : Int := (t + d) % T
def shG (T d : Nat) (g : Gm) : Gm := ⟨shI T d g.a, shI T d g.b, g.pa, g.pb, g.op⟩
section
variable {T d e : Nat}
theorem shI_rng (hT : 0 < T) (t : Int) : 0 ≤ shI T d t ∧ shI T d t < T := ⟨Int.emod_nonneg _ (by omega), Int.emod_lt_of_pos _ (by omega)⟩
theorem shI_is (hd : d < T) {t : Int} (h : 0 ≤ t ∧ t < T) : shI T d t = if t + d < T then t + d else t + d - T := by
  unfold shI
  split
  · exact Int.emod_eq_of_lt (by omega) (by omega)
  · rw [← Int.sub_emod_right, Int.emod_eq_of_lt (by omega) (by omega)]
theorem shI_inj (hd : d < T) {t o : Int} (h : 0 ≤ t ∧ t < T) (h' : 0 ≤ o ∧ o < T) : shI T d t = shI T d o ↔ t = o := by
  rw [shI_is hd h, shI_is hd h']
  constructor
  · intro e
    split at e <;> split at e <;> omega
  · rintro rfl; rfl
/-- The number of the way back. -/
def bkN (T d : Nat) : Nat := (T - d) % T
theorem bk_lt (hT : 0 < T) : bkN T d < T := Nat.mod_lt _ hT
theorem bk_is (hd : d < T) : (bkN T d : Int) = if d = 0 then 0 else (T : Int) - d := by
  unfold bkN
  by_cases h : d = 0
  · subst h; simp
  · rw [if_neg h, Nat.mod_eq_of_lt (by omega)]; omega
theorem bk_sh (hd : d < T) {t : Int} (h : 0 ≤ t ∧ t < T) : shI T (bkN T d) (shI T d t) = t := by
  have hr := shI_rng (d := d) (show 0 < T by omega) t
  rw [shI_is (bk_lt (by omega)) hr, shI_is hd h, bk_is hd]
  by_cases h0 : d = 0
  · subst h0; simp; omega
  · rw [if_neg h0]
    split <;> split <;> omega
theorem sh_bk (hd : d < T) {t : Int} (h : 0 ≤ t ∧ t < T) : shI T d (shI T (bkN T d) t) = t := by
  have hr := shI_rng (d := bkN T d) (show 0 < T by omega) t
  rw [shI_is hd hr, shI_is (bk_lt (by omega)) h, bk_is hd]
  by_cases h0 : d = 0
  · subst h0; simp; omega
  · rw [if_neg h0]
    split <;> split <;> omega
variable {gs : List Gm} {rules : List Int}
theorem numS_sh (hd : d < T) (hgs : ∀ g ∈ gs, GmOk (T : Int) g) {code : Int} {grp grp' : Int → Bool} (hg : ∀ o, 0 ≤ o ∧ o < (T : Int) → grp' (shI T d o) = grp o) {t : Int} (ht : 0 ≤ t ∧ t < T) : numS code grp' (shI T d t) (gs.map (shG T d)) = numS code grp t gs := by
  induction gs with
  | nil => rfl
  | cons g gs ih =>
    rw [List.map_cons, numS, numS, ih (fun y hy => hgs y (by simp [hy]))]
    congr 1
    have ok := hgs g (by simp)
    have ha := And.intro ok.a0 ok.an
    have hb := And.intro ok.b0 ok.bn
    unfold vG
    have eA : gA (shG T d g) = gA g := rfl
    have eB : gB (shG T d g) = gB g := rfl
    rw [eA, eB]
    show (if shI T d g.b = shI T d t then ruV code grp' (shI T d g.a) (gB g) g.pb else if shI T d g.a = shI T d t then ruV code grp' (shI T d g.b) (gA g) g.pa else 0) = _
    by_cases h1 : g.b = t
    · rw [if_pos h1, if_pos ((shI_inj hd hb ht).2 h1)]
      unfold ruV
      rw [hg _ ha]
    · rw [if_neg h1, if_neg (fun e => h1 ((shI_inj hd hb ht).1 e))]
      by_cases h2 : g.a = t
      · rw [if_pos h2, if_pos ((shI_inj hd ha ht).2 h2)]
        unfold ruV
        rw [hg _ hb]
      · rw [if_neg h2, if_neg (fun e => h2 ((shI_inj hd ha ht).1 e))]
theorem sem_sh (hd : d < T) (hgs : ∀ g ∈ gs, GmOk (T : Int) g) : ∀ k t o, 0 ≤ t ∧ t < (T : Int) → 0 ≤ o ∧ o < (T : Int) → clsK T (gs.map (shG T d)) rules k (shI T d t) (shI T d o) = clsK T gs rules k t o ∧ ahdK T (gs.map (shG T d)) rules k (shI T d t) (shI T d o) = ahdK T gs rules k t o
  | 0, t, o, _, _ => ⟨rfl, rfl⟩
  | k + 1, t, o, ht, ho => by
    have ih := sem_sh hd hgs k
    have hN : ∀ t, 0 ≤ t ∧ t < (T : Int) → NK T (gs.map (shG T d)) rules k (shI T d t) = NK T gs rules k t := fun t ht => by
      unfold NK
      refine numS_sh hd hgs (fun o ho => ?_) ht
      rw [(ih t o ht ho).1]
      congr 1
      have a := shI_rng (d := d) (show 0 < T by omega) o
      have h1 : hasI (wholeL T) (shI T d o) = true := by unfold hasI; exact decide_eq_true (mem_whole.2 a)
      have h2 : hasI (wholeL T) o = true := by unfold hasI; exact decide_eq_true (mem_whole.2 ho)
      rw [h1, h2]
    rw [clsK_succ, clsK_succ, ahdK_succ, ahdK_succ, hN t ht, hN o ho, (ih t o ht ho).1, (ih t o ht ho).2]
    exact ⟨rfl, rfl⟩
theorem nodup_whole (n : Nat) : (wholeL n).Nodup := by
  unfold wholeL
  rw [List.nodup_iff_pairwise_ne, List.pairwise_map]
  exact (List.pairwise_lt_range (n := n)).imp (by intro a b h e; have : (a : Int) = (b : Int) := e; omega)
theorem whole_sh (hd : d < T) : ((wholeL T).map (shI T d)).Perm (wholeL T) := by
  refine (List.perm_ext_iff_of_nodup ?_ (nodup_whole T)).2 fun a => ?_
  · rw [List.nodup_iff_pairwise_ne, List.pairwise_map]
    refine List.Pairwise.imp_of_mem ?_ (List.nodup_iff_pairwise_ne.1 (nodup_whole T))
    intro a b ha hb hne e
    exact hne ((shI_inj hd (mem_whole.1 ha) (mem_whole.1 hb)).1 e)
  · rw [List.mem_map]
    constructor
    · rintro ⟨t, ht, rfl⟩
      exact mem_whole.2 (shI_rng (by omega) t)
    · intro ha
      have h := mem_whole.1 ha
      exact ⟨shI T (bkN T d) a, mem_whole.2 (shI_rng (by omega) a), sh_bk hd h⟩
theorem shG_ok (hT : 0 < T) (hd : d < T) {g : Gm} (h : GmOk (T : Int) g) : GmOk (T : Int) (shG T d g) := by
  have ha := And.intro h.a0 h.an
  have hb := And.intro h.b0 h.bn
  have r1 := shI_rng (d := d) hT g.a
  have r2 := shI_rng (d := d) hT g.b
  exact { a0 := r1.1, an := r1.2, b0 := r2.1, bn := r2.2, ne := fun e => h.ne ((shI_inj hd ha hb).1 e), pa0 := h.pa0, pa1 := h.pa1, pb0 := h.pb0, pb1 := h.pb1, op := h.op }
theorem rank_sh (hT : 0 < T) (hd : d < T) (hgs : ∀ g ∈ gs, GmOk (T : Int) g) (k : Nat) {t : Int} (ht : 0 ≤ t ∧ t < (T : Int)) : rankV T (gs.map (shG T d)) rules k (shI T d t) = rankV T gs rules k t := by
  have hgs' : ∀ g ∈ gs.map (shG T d), GmOk (T : Int) g := fun g hg => by
    obtain ⟨y, hy, rfl⟩ := List.mem_map.1 hg
    exact shG_ok hT hd (hgs y hy)
  rw [rank_count hT hgs (mem_whole.2 ht), rank_count hT hgs' (mem_whole.2 (shI_rng hT t)), ← (whole_sh hd).countP_eq, List.countP_map]
  congr 2
  refine List.countP_congr fun o ho => ?_
  show ahdK T (gs.map (shG T d)) rules k (shI T d o) (shI T d t) = true ↔ _
  rw [(sem_sh hd hgs k o t (mem_whole.1 ho) ht).2]
end
theorem sum_perm {a b : List Int} (h : a.Perm b) : a.sum = b.sum := by
  induction h with
  | nil => rfl
  | cons g _ ih => rw [List.sum_cons, List.sum_cons, ih]
  | swap a b l => simp only [List.sum_cons]; omega
  | trans _ _ ih1 ih2 => rw [ih1, ih2]
theorem sumS_list (S : Nat → Bool) (f : Nat → Int) : ∀ T, Rc.sumS S f T = ((List.range T).map fun u => if S u then f u else 0).sum
  | 0 => rfl
  | T + 1 => by
    rw [Rc.sumS, sumS_list S f T, List.range_succ, List.map_append, List.sum_append]
    simp
def shN (T d u : Nat) : Nat := (shI T d (u : Int)).toNat
section
variable {T d : Nat}
theorem shN_cast (hT : 0 < T) (u : Nat) : ((shN T d u : Nat) : Int) = shI T d (u : Int) := by
  have := shI_rng (d := d) hT (u : Int)
  unfold shN
  omega
theorem shN_lt (hT : 0 < T) (u : Nat) : shN T d u < T := by
  have := shI_rng (d := d) hT (u : Int)
  unfold shN
  omega
theorem range_sh (hd : d < T) : ((List.range T).map (shN T d)).Perm (List.range T) := by
  have h := (whole_sh hd).map Int.toNat
  have e1 : ((wholeL T).map (shI T d)).map Int.toNat = (List.range T).map (shN T d) := by
    unfold wholeL
    rw [List.map_map, List.map_map]
    rfl
  have e2 : (wholeL T).map Int.toNat = List.range T := by
    unfold wholeL
    rw [List.map_map]
    conv => rhs; rw [← List.map_id (List.range T)]
    exact List.map_congr_left fun u _ => Int.toNat_natCast u
  rwa [e1, e2] at h
theorem sumS_sh (hd : d < T) {S S' : Nat → Bool} {f f' : Nat → Int} (hS : ∀ u, u < T → S' (shN T d u) = S u) (hf : ∀ u, u < T → f' (shN T d u) = f u) : Rc.sumS S' f' T = Rc.sumS S f T := by
  rw [sumS_list, sumS_list, ← sum_perm ((range_sh hd).map _), List.map_map]
  congr 1
  refine List.map_congr_left fun u hu => ?_
  have hu' := List.mem_range.1 hu
  show (if S' (shN T d u) = true then f' (shN T d u) else 0) = _
  rw [hS u hu', hf u hu']
theorem opens_sh (gs : List Gm) : opensL (gs.map (shG T d)) = (opensL gs).map (shG T d) := by
  unfold opensL
  rw [List.filter_map]
  rfl
theorem valid_of {l : Lg} (hv : Valid l) {xs : List Gm} (hl : xs.length = l.games.length) (h : ∀ g ∈ xs, GmOk l.teams g) : Valid ⟨l.teams, xs⟩ :=
  ⟨by show xs.length ≤ 20; rw [hl]; exact hv.len, hv.t2, hv.t6, fun k hk => by
    have hk' : k < xs.length := hk
    show gameB l.teams (gmx xs k) = true
    rw [gmx_lt hk', gameB_iff]
    exact h _ (List.getElem_mem hk')⟩
theorem valid_sh {l : Lg} (hv : Valid l) (hT : l.teams = (T : Int)) (hd : d < T) : Valid ⟨l.teams, l.games.map (shG T d)⟩ := by
  refine valid_of hv (by simp) fun g hg => ?_
  obtain ⟨y, hy, rfl⟩ := List.mem_map.1 hg
  have := hv.mem hy
  rw [hT] at this ⊢
  exact shG_ok (by omega) hd this
theorem can_sh1 {l : Lg} (hv : Valid l) (hT : l.teams = (T : Int)) (hd : d < T) {p : Nat} (hp : p < T) (hc : canB l p = false) : canB ⟨l.teams, l.games.map (shG T d)⟩ (shN T d p) = false := by
  have hT0 : 0 < T := by omega
  have hT6 := hv.t6
  have hTN : l.teams.toNat = T := by omega
  have hp' : (p : Int) < l.teams := by omega
  have hvy := valid_sh hv hT hd
  have hgs : ∀ g ∈ l.games, GmOk (T : Int) g := fun g hg => by rw [← hT]; exact hv.mem hg
  cases hr : reasonF l (p : Int)
  · have := (can_reason hv hp').2 hr
    rw [hc] at this
    cases this
  · next L =>
    obtain ⟨S, hL, hSu, hS⟩ := reason_set hv hp' hr
    rw [hTN] at hSu
    have hSS : ∀ u, u < T → (fun v => decide (v < T) && S (shN T (bkN T d) v)) (shN T d u) = S u := fun u hu => by
      show (decide (shN T d u < T) && S (shN T (bkN T d) (shN T d u))) = S u
      have e : shN T (bkN T d) (shN T d u) = u := by
        have a := bk_sh hd (t := (u : Int)) (by omega)
        rw [← shN_cast hT0 u] at a
        have b := shN_cast (d := bkN T d) hT0 (shN T d u)
        omega
      rw [decide_eq_true (shN_lt hT0 u), e, Bool.true_and]
    generalize hS' : (fun v => decide (v < T) && S (shN T (bkN T d) v)) = S' at hSS
    have hu' : ∀ v, S' v = true → v < T := fun v hv => by
      rw [← hS'] at hv
      have : (decide (v < T) && S (shN T (bkN T d) v)) = true := hv
      rw [Bool.and_eq_true, decide_eq_true_eq] at this
      exact this.1
    have hgb : ∀ o, 0 ≤ o ∧ o < (T : Int) → (fun _ : Int => true) (shI T d o) = (fun _ : Int => true) o := fun o _ => rfl
    have hsum : ∀ u, u < T → sumsF ⟨l.teams, l.games.map (shG T d)⟩ (shN T d u) = sumsF l u := fun u hu => by
      rw [sumsF_is, sumsF_is, shN_cast hT0]
      exact numS_sh hd hgs hgb (by omega)
    have hreach : reachF ⟨l.teams, l.games.map (shG T d)⟩ ((shN T d p : Nat) : Int) = reachF l (p : Int) := by
      rw [reachF_is, reachF_is, ← sumsF_is l p, shN_cast hT0]
      have a : numS 1 (fun _ => true) (shI T d (p : Int)) (l.games.map (shG T d)) = sumsF l p := by rw [sumsF_is]; exact numS_sh hd hgs hgb (by omega)
      have b : (opensL (l.games.map (shG T d))).countP (inG (shI T d (p : Int))) = (opensL l.games).countP (inG (p : Int)) := by
        rw [opens_sh, List.countP_map]
        refine List.countP_congr fun g hg => ?_
        have ok := hgs g (List.mem_filter.1 hg).1
        have i1 := shI_inj (t := g.a) (o := (p : Int)) hd ⟨ok.a0, ok.an⟩ (by omega)
        have i2 := shI_inj (t := g.b) (o := (p : Int)) hd ⟨ok.b0, ok.bn⟩ (by omega)
        show inG (shI T d (p : Int)) (shG T d g) = true ↔ _
        unfold inG shG
        simp only [Bool.or_eq_true, decide_eq_true_eq, i1, i2]
      show numS 1 (fun _ => true) (shI T d (p : Int)) (l.games.map (shG T d)) + 2 * (((opensL (l.games.map (shG T d))).countP (inG (shI T d (p : Int))) : Nat) : Int) = _
      rw [a, b]
    have hin : (raceR ⟨l.teams, l.games.map (shG T d)⟩ (shN T d p)).inS S' (opensL (l.games.map (shG T d))).length = (raceR l p).inS S (opensL l.games).length := by
      have a := race_in hvy (shN T d p) S' (opensL (l.games.map (shG T d))).length (Nat.le_refl _)
      have b := race_in hv p S (opensL l.games).length (Nat.le_refl _)
      rw [show (opensL (Lg.games ⟨l.teams, l.games.map (shG T d)⟩)) = opensL (l.games.map (shG T d)) from rfl, List.take_length] at a
      rw [List.take_length] at b
      rw [a, b]
      show ((((opensL (l.games.map (shG T d))).countP (bothG (setT S' l.teams.toNat))) : Nat) : Int) = _
      rw [opens_sh, List.countP_map, hTN]
      congr 1
      refine List.countP_congr fun g hg => ?_
      have ok := hgs g (List.mem_filter.1 hg).1
      have ha := And.intro ok.a0 ok.an
      have hb := And.intro ok.b0 ok.bn
      have r1 := shI_rng (d := d) hT0 g.a
      have r2 := shI_rng (d := d) hT0 g.b
      show bothG (setT S' T) (shG T d g) = true ↔ bothG (setT S T) g = true
      unfold bothG shG
      show (hasI (setT S' T) (shI T d g.a) && hasI (setT S' T) (shI T d g.b)) = true ↔ _
      rw [setT_has r1.1 r1.2, setT_has r2.1 r2.2, setT_has ok.a0 ok.an, setT_has ok.b0 ok.bn]
      have e1 : (shI T d g.a).toNat = shN T d g.a.toNat := by unfold shN; rw [Int.toNat_of_nonneg ok.a0]
      have e2 : (shI T d g.b).toNat = shN T d g.b.toNat := by unfold shN; rw [Int.toNat_of_nonneg ok.b0]
      rw [e1, e2, hSS _ (by omega), hSS _ (by omega)]
    obtain ⟨x, hx⟩ : ∃ x, 6 = T + x := ⟨6 - T, by omega⟩
    have hx1 : ∀ f : Nat → Int, Rc.sumS S' f 6 = Rc.sumS S' f T := fun f => by
      rw [hx]
      exact sumS_ext x fun u h1 h2 h3 => absurd (hu' u h3) (by omega)
    have hx2 : ∀ f : Nat → Int, Rc.sumS S f 6 = Rc.sumS S f T := fun f => by
      rw [hx]
      exact sumS_ext x fun u h1 h2 h3 => absurd (hSu u h3) (by omega)
    have hm : reachF l (p : Int) * Rc.sumS S (fun _ => 1) 6 < Rc.sumS S (sumsF l) 6 + 2 * (raceR l p).inS S (opensL l.games).length := hS.more
    refine can_false (S := S') ⟨?_, fun u hu => ?_, ?_⟩
    · show S' (shN T d p) = false
      rw [hSS p hp]
      exact hS.tm
    · have := hu' u hu
      show u < 6
      omega
    · show reachF ⟨l.teams, l.games.map (shG T d)⟩ ((shN T d p : Nat) : Int) * Rc.sumS S' (fun _ => 1) 6 < Rc.sumS S' (sumsF ⟨l.teams, l.games.map (shG T d)⟩) 6 + 2 * (raceR ⟨l.teams, l.games.map (shG T d)⟩ (shN T d p)).inS S' (opensL (l.games.map (shG T d))).length
      rw [hreach, hin, hx1, hx1, sumS_sh hd hSS hsum, sumS_sh hd hSS (f := fun _ => 1) (f' := fun _ => 1) (fun _ _ => rfl), ← hx2, ← hx2]
      exact hm
theorem can_sh {l : Lg} (hv : Valid l) (hT : l.teams = (T : Int)) (hd : d < T) {p : Nat} (hp : p < T) : canB ⟨l.teams, l.games.map (shG T d)⟩ (shN T d p) = canB l p := by
  have hT0 : 0 < T := by omega
  cases hc : canB l p
  · exact can_sh1 hv hT hd hp hc
  · cases hy : canB ⟨l.teams, l.games.map (shG T d)⟩ (shN T d p)
    · have h := can_sh1 (l := ⟨l.teams, l.games.map (shG T d)⟩) (d := bkN T d) (valid_sh hv hT hd) hT (bk_lt hT0) (shN_lt hT0 p) hy
      have e1 : (l.games.map (shG T d)).map (shG T (bkN T d)) = l.games := by
        rw [List.map_map]
        conv => rhs; rw [← List.map_id l.games]
        refine List.map_congr_left fun g hg => ?_
        have ok := hv.mem hg
        rw [hT] at ok
        show shG T (bkN T d) (shG T d g) = g
        unfold shG
        show Gm.mk (shI T (bkN T d) (shI T d g.a)) (shI T (bkN T d) (shI T d g.b)) g.pa g.pb g.op = g
        rw [bk_sh hd ⟨ok.a0, ok.an⟩, bk_sh hd ⟨ok.b0, ok.bn⟩]
      have e2 : shN T (bkN T d) (shN T d p) = p := by
        have a := bk_sh hd (t := (p : Int)) (by omega)
        rw [← shN_cast hT0 p] at a
        have b := shN_cast (d := bkN T d) hT0 (shN T d p)
        omega
      have h' : canB ⟨l.teams, (l.games.map (shG T d)).map (shG T (bkN T d))⟩ (shN T (bkN T d) (shN T d p)) = false := h
      rw [e1, e2] at h'
      have : canB l p = false := h'
      rw [hc] at this
      cases this
    · rfl
end
/-- What LeagueOrder asks. -/
structure OrF (l : Lg) (rules : List Int) (xs ys : List Gm) (T d : Nat) : Prop where
  lx : xs.length = l.games.length
  ly : ys.length = l.games.length
  ex : rankErr ⟨l.teams, xs⟩ rules = 0
  ey : rankErr ⟨l.teams, ys⟩ rules = 0
  rx : rankL ⟨l.teams, xs⟩ rules = rankL l rules
  r1 : (rankL l rules).length = T
  r2 : (rankL ⟨l.teams, ys⟩ rules).length = T
  ry : ∀ t, t < T → ix (rankL ⟨l.teams, ys⟩ rules) (shN T d t) = ix (rankL l rules) t
  cl : ∀ t : Nat, t < T → canL l (t : Int) = canB l t ∧ askedL l (t : Int) = 0
  cx : ∀ t : Nat, t < T → canL ⟨l.teams, xs⟩ (t : Int) = canB l t ∧ askedL ⟨l.teams, xs⟩ (t : Int) = 0
  cy : ∀ t : Nat, t < T → canL ⟨l.teams, ys⟩ ((shN T d t : Nat) : Int) = canB l t ∧ askedL ⟨l.teams, ys⟩ ((shN T d t : Nat) : Int) = 0
theorem swL_len : ∀ {gs xs : List Gm}, SwL gs xs → xs.length = gs.length
  | [], [], _ => rfl
  | g :: gs, x :: xs, h => by rw [List.length_cons, List.length_cons, swL_len h.2]
  | [], _ :: _, h => h.elim
  | _ :: _, [], h => h.elim
theorem swL_mem : ∀ {gs xs : List Gm}, SwL gs xs → ∀ x ∈ xs, ∃ g ∈ gs, Sw g x
  | [], [], _, x, h => by cases h
  | g :: gs, x :: xs, h, y, hy => by
    rcases List.mem_cons.1 hy with rfl | hy
    · exact ⟨g, by simp, h.1⟩
    · obtain ⟨g', h1, h2⟩ := swL_mem h.2 y hy
      exact ⟨g', by simp [h1], h2⟩
  | [], _ :: _, h, _, _ => h.elim
  | _ :: _, [], h, _, _ => h.elim
theorem orF {l : Lg} {rules : List Int} {xs : List Gm} {T d k : Nat} (hv : Valid l) (hT : l.teams = (T : Int)) (hd : d < T) (he : rankErr l rules = 0) (hx : SwL (l.games.drop k ++ l.games.take k) xs) : OrF l rules xs ((l.games.drop k ++ l.games.take k).map (shG T d)) T d := by
  have hT0 : 0 < T := by omega
  have hTN : l.teams.toNat = T := by omega
  have hp : l.games.Perm (l.games.drop k ++ l.games.take k) := by
    have h := List.perm_append_comm (l₁ := l.games.take k) (l₂ := l.games.drop k)
    rwa [List.take_append_drop] at h
  generalize l.games.drop k ++ l.games.take k = rs at *
  have hmr : ∀ g ∈ rs, GmOk l.teams g := fun g hg => hv.mem (hp.mem_iff.2 hg)
  have hlr : rs.length = l.games.length := hp.length_eq.symm
  have hvr : Valid ⟨l.teams, rs⟩ := valid_of hv hlr hmr
  have hmx : ∀ g ∈ xs, GmOk l.teams g := fun g hg => by
    obtain ⟨y, hy, h⟩ := swL_mem hx g hg
    have ok := hmr y hy
    rcases h with rfl | rfl
    · exact ok
    · exact { a0 := ok.b0, an := ok.bn, b0 := ok.a0, bn := ok.an, ne := fun e => ok.ne e.symm, pa0 := ok.pb0, pa1 := ok.pb1, pb0 := ok.pa0, pb1 := ok.pa1, op := fun h => ⟨(ok.op h).2, (ok.op h).1⟩ }
  have hlx : xs.length = l.games.length := (swL_len hx).trans hlr
  have hvx : Valid ⟨l.teams, xs⟩ := valid_of hv hlx hmx
  have hvy : Valid ⟨l.teams, rs.map (shG T d)⟩ := valid_sh (l := ⟨l.teams, rs⟩) hvr hT hd
  have hsr : SameG l.games rs := same_perm hp
  have hsx : SameG l.games xs := hsr.trans (same_sw hx fun g hg => (hmr g hg).ne)
  have herr : ∀ l' : Lg, Valid l' → rankErr l' rules = 0 := fun l' hv' => by
    unfold rankErr at he ⊢
    rw [if_pos (valid_iff.2 hv)] at he
    rw [if_pos (valid_iff.2 hv')]
    exact he
  have hrk : ∀ l' : Lg, Valid l' → l'.teams = (T : Int) → rankL l' rules = (List.range T).map fun t : Nat => rankV T l'.games rules rules.length (t : Int) := fun l' hv' hT' => by
    unfold rankL
    rw [if_pos (herr l' hv'), show l'.teams.toNat = T by omega]
  have hokg : ∀ g ∈ l.games, GmOk (T : Int) g := fun g hg => by rw [← hT]; exact hv.mem hg
  have hokr : ∀ g ∈ rs, GmOk (T : Int) g := fun g hg => by rw [← hT]; exact hmr g hg
  have hokx : ∀ g ∈ xs, GmOk (T : Int) g := fun g hg => by rw [← hT]; exact hmx g hg
  have e1 := hrk l hv hT
  have e2 := hrk ⟨l.teams, xs⟩ hvx hT
  have e3 := hrk ⟨l.teams, rs.map (shG T d)⟩ hvy hT
  have hcanL : ∀ (l' : Lg), Valid l' → l'.teams = (T : Int) → ∀ t : Nat, t < T → canL l' (t : Int) = canB l' t ∧ askedL l' (t : Int) = 0 := fun l' hv' hT' t ht => by
    have ha := asked_ok hv' (t := t) (by omega)
    refine ⟨?_, ha⟩
    unfold canL
    rw [decide_eq_true ha, Bool.true_and, Int.toNat_natCast]
  refine ⟨hlx, by rw [List.length_map, hlr], herr _ hvx, herr _ hvy, ?_, by rw [e1]; simp, by rw [e3]; simp, fun t ht => ?_, hcanL l hv hT, fun t ht => ?_, fun t ht => ?_⟩
  · rw [e1, e2]
    refine List.map_congr_left fun t ht => ?_
    have ht' := List.mem_range.1 ht
    exact rank_same_g hT0 hokg hokx hsx _ (mem_whole.2 ⟨by omega, by omega⟩)
  · rw [e1, e3, ix_mapR _ (shN_lt hT0 t), ix_mapR _ ht, shN_cast hT0]
    show rankV T (rs.map (shG T d)) rules rules.length (shI T d (t : Int)) = _
    rw [rank_sh hT0 hd hokr _ (by omega)]
    exact rank_same_g hT0 hokg hokr hsr _ (mem_whole.2 ⟨by omega, by omega⟩)
  · obtain ⟨a, b⟩ := hcanL ⟨l.teams, xs⟩ hvx hT t ht
    exact ⟨a.trans (can_same hv hvx hsx t), b⟩
  · obtain ⟨a, b⟩ := hcanL ⟨l.teams, rs.map (shG T d)⟩ hvy hT (shN T d t) (shN_lt hT0 t)
    exact ⟨a.trans ((can_sh (l := ⟨l.teams, rs⟩) hvr hT hd ht).trans (can_same hv hvr hsr t)), b⟩
/-- Games, some of them with their teams exchanged. -/
def swapL : List Gm → (Nat → Bool) → List Gm
  | [], _ => []
  | g :: gs, f => (if f 0 then swG g else g) :: swapL gs (fun j => f (j + 1))
theorem swapL_len : ∀ (gs : List Gm) (f : Nat → Bool), (swapL gs f).length = gs.length
  | [], _ => rfl
  | g :: gs, f => by rw [swapL, List.length_cons, List.length_cons, swapL_len gs]
theorem swapL_sw : ∀ (gs : List Gm) (f : Nat → Bool), SwL gs (swapL gs f)
  | [], _ => trivial
  | g :: gs, f => by
    refine ⟨?_, swapL_sw gs _⟩
    cases f 0
    · exact .inl rfl
    · exact .inr rfl
theorem swapL_at : ∀ (gs : List Gm) (f : Nat → Bool) (j : Nat), j < gs.length → gmx (swapL gs f) j = if f j then swG (gmx gs j) else gmx gs j
  | [], _, _, h => by simp at h
  | g :: gs, f, 0, _ => by simp [swapL, gmx]
  | g :: gs, f, j + 1, h => by
    have := swapL_at gs (fun j => f (j + 1)) j (by simpa using h)
    simpa [swapL, gmx] using this
theorem sh_at {T d : Nat} {gs : List Gm} {j : Nat} (h : j < gs.length) : gmx (gs.map (shG T d)) j = shG T d (gmx gs j) := by
  rw [gmx_lt (by simpa using h), gmx_lt h, List.getElem_map]
end Go.Proofs.Ytjokbffdepcpkaa
