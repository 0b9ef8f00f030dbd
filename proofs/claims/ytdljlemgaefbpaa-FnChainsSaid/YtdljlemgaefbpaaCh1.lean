/- Chains, part 1: places that are joined with play, in plain words. -/
import Derived.Test.YtdljlemgaefbpaaLib
namespace Go.Proofs.Ytdljlemgaefbpaa

def mv (p q : Nat → Int) (to : Int) : Nat → Int
  | 0 => to
  | k + 1 => min (max (q (k + 1)) (mv p q to k - p k)) (mv p q to k + p k)
def tot (p : Nat → Int) : Nat → Int
  | 0 => 0
  | k + 1 => tot p k + p k
/-- a valid chain of n plays -/
def ChOk (n : Nat) (p q : Nat → Int) : Prop := ∀ k, k < n → 0 ≤ p k ∧ q (k + 1) - q k ≤ p k ∧ q k - q (k + 1) ≤ p k
theorem mv_ok {n : Nat} {p q : Nat → Int} (h : ChOk n p q) (to : Int) : ChOk n p (mv p q to) := by
  intro k hk
  have := h k hk
  refine ⟨this.1, ?_, ?_⟩
  · show min (max (q (k + 1)) (mv p q to k - p k)) (mv p q to k + p k) - mv p q to k ≤ p k
    omega
  · show mv p q to k - min (max (q (k + 1)) (mv p q to k - p k)) (mv p q to k + p k) ≤ p k
    omega
theorem mv_same {n : Nat} {p q : Nat → Int} (h : ChOk n p q) : ∀ k, k ≤ n → mv p q (q 0) k = q k
  | 0, _ => rfl
  | k + 1, hk => by
    have h1 := h k (by omega)
    show min (max (q (k + 1)) (mv p q (q 0) k - p k)) (mv p q (q 0) k + p k) = _
    rw [mv_same h k (by omega)]
    omega
theorem mv_again {n : Nat} {p q : Nat → Int} (h : ChOk n p q) (to : Int) (k : Nat) (hk : k ≤ n) : mv p (mv p q to) to k = mv p q to k := mv_same (mv_ok h to) k hk
theorem tot_mono {n : Nat} {p q : Nat → Int} (h : ChOk n p q) : ∀ k, k ≤ n → 0 ≤ tot p k ∧ ∀ j, j ≤ k → tot p j ≤ tot p k
  | 0, _ => ⟨Int.le_refl _, fun j hj => by rw [Nat.le_zero.1 hj]; exact Int.le_refl _⟩
  | k + 1, hk => by
    have h1 := h k (by omega)
    obtain ⟨h2, h3⟩ := tot_mono h k (by omega)
    refine ⟨by show 0 ≤ tot p k + p k; omega, fun j hj => ?_⟩
    show tot p j ≤ tot p k + p k
    by_cases e : j = k + 1
    · subst e; exact Int.le_refl _
    · have := h3 j (by omega); omega
theorem mv_near {n : Nat} {p q : Nat → Int} (h : ChOk n p q) (to : Int) : ∀ k, k ≤ n → mv p q to k - to ≤ tot p k ∧ to - mv p q to k ≤ tot p k
  | 0, _ => by show to - to ≤ 0 ∧ to - to ≤ 0; omega
  | k + 1, hk => by
    have h1 := mv_near h to k (by omega)
    have h2 := mv_ok h to k (by omega)
    show mv p q to (k + 1) - to ≤ tot p k + p k ∧ to - mv p q to (k + 1) ≤ tot p k + p k
    omega
theorem mv_near2 {n : Nat} {p q : Nat → Int} (h : ChOk n p q) (to : Int) (k : Nat) (hk : k ≤ n) : mv p q to k - to ≤ tot p n ∧ to - mv p q to k ≤ tot p n := by
  have h1 := mv_near h to k hk
  have h2 := (tot_mono h n (Nat.le_refl _)).2 k hk
  omega
theorem mv_up {n : Nat} {p q : Nat → Int} (h : ChOk n p q) (to : Int) (ht : q 0 ≤ to) : ∀ k, k ≤ n → mv p q to k = max (q k) (to - tot p k)
  | 0, _ => by show to = max (q 0) (to - 0); omega
  | k + 1, hk => by
    have h1 := h k (by omega)
    have h2 := mv_up h to ht k (by omega)
    show min (max (q (k + 1)) (mv p q to k - p k)) (mv p q to k + p k) = max _ (to - (tot p k + p k))
    omega
theorem mv_dn {n : Nat} {p q : Nat → Int} (h : ChOk n p q) (to : Int) (ht : to ≤ q 0) : ∀ k, k ≤ n → mv p q to k = min (q k) (to + tot p k)
  | 0, _ => by show to = min (q 0) (to + 0); omega
  | k + 1, hk => by
    have h1 := h k (by omega)
    have h2 := mv_dn h to ht k (by omega)
    show min (max (q (k + 1)) (mv p q to k - p k)) (mv p q to k + p k) = min _ (to + (tot p k + p k))
    omega
theorem q_near {n : Nat} {p q : Nat → Int} (h : ChOk n p q) (k : Nat) (hk : k ≤ n) : q k - q 0 ≤ tot p n ∧ q 0 - q k ≤ tot p n := by
  have := mv_near2 h (q 0) k hk
  rw [mv_same h k hk] at this
  exact this
/-- where the first place must go -/
def need (p q : Nat → Int) (n : Nat) (goal : Int) : Int := if q n < goal then goal + tot p n else if goal < q n then goal - tot p n else q 0
theorem mv_goal {n : Nat} {p q : Nat → Int} (h : ChOk n p q) (goal : Int) : mv p q (need p q n goal) n = goal := by
  have h1 := q_near h n (Nat.le_refl _)
  have h2 := (tot_mono h n (Nat.le_refl _)).1
  unfold need
  split
  · rw [mv_up h _ (by omega) n (Nat.le_refl _)]; omega
  · split
    · rw [mv_dn h _ (by omega) n (Nat.le_refl _)]; omega
    · rw [mv_same h n (Nat.le_refl _)]; omega
theorem need_bd {n : Nat} {p q : Nat → Int} {goal T M : Int} (ht : tot p n ≤ T) (h0 : 0 ≤ tot p n) (hg : -M ≤ goal ∧ goal ≤ M) (hq : -M ≤ q 0 ∧ q 0 ≤ M) : -(M + T) ≤ need p q n goal ∧ need p q n goal ≤ M + T := by
  unfold need
  split
  · omega
  · split <;> omega
end Go.Proofs.Ytdljlemgaefbpaa
