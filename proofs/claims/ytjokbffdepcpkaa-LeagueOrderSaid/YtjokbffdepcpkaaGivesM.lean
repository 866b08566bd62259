/-
  All games and outcomes give two points each. Plain facts; no program.
-/
import Derived.Test.YtjokbffdepcpkaaEnds
namespace Go.Proofs.Ytjokbffdepcpkaa
open Go.RowKit
set_option linter.unusedSimpArgs false
set_option linter.unusedVariables false

def sumT (f : Nat → Int) : Nat → Int
  | 0 => 0
  | n + 1 => sumT f n + f n
theorem sumT_same {f g : Nat → Int} : ∀ n, (∀ k, k < n → f k = g k) → sumT f n = sumT g n
  | 0, _ => rfl
  | n + 1, h => by simp only [sumT]; rw [sumT_same n (fun k hk => h k (by omega)), h n (by omega)]
theorem sumT_upd {f : Nat → Int} {a : Nat} {v : Int} : ∀ n, a < n → sumT (updI f a v) n = sumT f n + (v - f a)
  | 0, h => by omega
  | n + 1, h => by
    simp only [sumT]
    by_cases e : a = n
    · subst e
      rw [updI_eq, sumT_same (g := f) a (fun k hk => updI_ne (by omega))]
      omega
    · rw [updI_ne (by omega), sumT_upd n (by omega)]
      omega
theorem sumT_zero : ∀ n, sumT (fun _ => 0) n = 0
  | 0 => rfl
  | n + 1 => by simp [sumT, sumT_zero n]
theorem gAB (g : Gm) : gA g + gB g = if g.op then 0 else 2 := by
  unfold gA gB
  split
  · simp
  · split
    · simp
    · split <;> simp
theorem sumT_sums {l : Lg} (hv : Valid l) : ∀ k, k ≤ l.games.length → sumT (sumsK l.games k) l.teams.toNat + 2 * (opK l.games k : Int) = 2 * (k : Int)
  | 0, _ => by
    have : sumsK l.games 0 = fun _ => 0 := by funext t; simp [sumsK, numS]
    rw [this, sumT_zero]
    simp [opK, opensL]
  | k + 1, h => by
    have ih := sumT_sums hv k (by omega)
    have hg := hv.at (show k < l.games.length by omega)
    have a0 := hg.a0; have a1 := hg.an; have b0 := hg.b0; have b1 := hg.bn; have hne := hg.ne
    rw [sumsK_succ hv (by omega), sumT_upd _ (by omega), sumT_upd _ (by omega), updI_ne (by omega), opK_succ (by omega)]
    have := gAB (gmx l.games k)
    split <;> simp_all <;> omega
theorem sumT_aft {l : Lg} (hv : Valid l) (os : List Int) (f : Nat → Int) : ∀ k, k ≤ (opensL l.games).length → sumT (aftK (opensL l.games) os f k) l.teams.toNat = sumT f l.teams.toNat + 2 * (k : Int)
  | 0, _ => by simp [aftK]
  | k + 1, h => by
    have ih := sumT_aft hv os f k (by omega)
    have hg := opens_ok hv (show k < (opensL l.games).length by omega)
    have a0 := hg.a0; have a1 := hg.an; have b0 := hg.b0; have b1 := hg.bn; have hne := hg.ne
    rw [aftK, sumT_upd _ (by omega), sumT_upd _ (by omega), ih]
    omega
theorem gives_law {l : Lg} (hv : Valid l) (os : List Int) (hos : os.length = (opensL l.games).length) : sumT (aftF l os) l.teams.toNat = 2 * (l.games.length : Int) := by
  have h1 := sumT_aft hv os (sumsF l) os.length (by omega)
  have h2 := sumT_sums hv l.games.length (Nat.le_refl _)
  have h3 : opK l.games l.games.length = (opensL l.games).length := by unfold opK; rw [List.take_length]
  have h4 : sumT (sumsF l) l.teams.toNat = sumT (sumsK l.games l.games.length) l.teams.toNat := rfl
  unfold aftF
  omega
theorem outs_ok {l : Lg} {os : List Int} (h1 : os.length = (opensL l.games).length) (h2 : ∀ k, k < os.length → 1 ≤ ix os k ∧ ix os k ≤ 3) : outsB l os = true := by
  unfold outsB
  rw [decide_eq_true h1, Bool.true_and, allB_iff]
  intro k hk
  rw [inB_eq]
  exact h2 k hk
theorem af_ok {l : Lg} {os : List Int} (hv : Valid l) (h : outsB l os = true) : afErr l os = 0 ∧ afL l os = (List.range l.teams.toNat).map (aftF l os) := by
  have h0 : afErr l os = 0 := by unfold afErr; rw [if_pos (valid_iff.2 hv), if_pos h]
  exact ⟨h0, by unfold afL; rw [if_pos h0]⟩
theorem aftF_rng {l : Lg} {os : List Int} (hv : Valid l) (h1 : os.length = (opensL l.games).length) (h2 : ∀ k, k < os.length → 1 ≤ ix os k ∧ ix os k ≤ 3) (t : Nat) : 0 ≤ aftF l os t ∧ aftF l os t ≤ 60080 := by
  have := aftK_range (ops := opensL l.games) h2 (fun t => sumsF_range hv t) os.length (Nat.le_refl _) t
  have h3 := opens_len l.games
  have h4 := hv.len
  unfold aftF
  omega
theorem ix_mapR (F : Nat → Int) {n k : Nat} (h : k < n) : ix ((List.range n).map F) k = F k := by simp [ix, h]
end Go.Proofs.Ytjokbffdepcpkaa
