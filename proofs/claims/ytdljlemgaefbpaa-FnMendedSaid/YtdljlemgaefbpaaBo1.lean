/- Bounds of errors, part 1: binomial coefficients and sums in plain words. -/
import Derived.Test.YtdljlemgaefbpaaLib
namespace Go.Proofs.Ytdljlemgaefbpaa

def ch : Nat → Nat → Nat
  | _, 0 => 1
  | 0, _ + 1 => 0
  | n + 1, k + 1 => ch n k + ch n (k + 1)
theorem ch_0 (n : Nat) : ch n 0 = 1 := by cases n <;> rfl
theorem ch_gt : ∀ n k, n < k → ch n k = 0
  | _, 0, h => by omega
  | 0, _ + 1, _ => rfl
  | n + 1, k + 1, h => by show ch n k + ch n (k + 1) = 0; rw [ch_gt n k (by omega), ch_gt n (k + 1) (by omega)]
theorem ch_both : ∀ n k, ch n (k + 1) * (k + 1) = ch n k * (n - k) ∧ ch (n + 1) (k + 1) * (k + 1) = ch n k * (n + 1)
  | 0, k => by
    refine ⟨by show 0 * (k + 1) = _; rw [Nat.zero_sub, Nat.mul_zero, Nat.zero_mul], ?_⟩
    show (ch 0 k + ch 0 (k + 1)) * (k + 1) = _
    cases k with
    | zero => rfl
    | succ k => show (0 + 0) * _ = 0 * _; simp
  | n + 1, k => by
    have h1 := ch_both n k
    have h2 : ch (n + 1) (k + 1) * (k + 1) = ch (n + 1) k * (n + 1 - k) := by
      cases k with
      | zero => rw [h1.2, ch_0, ch_0]; simp
      | succ j =>
        have h3 := (ch_both n j).1
        rw [h1.2]
        show ch n (j + 1) * (n + 1) = (ch n j + ch n (j + 1)) * (n + 1 - (j + 1))
        by_cases hj : j ≤ n
        · rw [Nat.add_mul, show n + 1 - (j + 1) = n - j by omega, ← h3, ← Nat.mul_add]
          congr 1; omega
        · rw [ch_gt n j (by omega), ch_gt n (j + 1) (by omega)]; simp
    refine ⟨h2, ?_⟩
    show (ch (n + 1) k + ch (n + 1) (k + 1)) * (k + 1) = _
    rw [Nat.add_mul, h2, ← Nat.mul_add]
    by_cases hk : k ≤ n + 1
    · congr 1; omega
    · rw [ch_gt (n + 1) k (by omega)]; simp
theorem ch_next (n k : Nat) : ch n k * (n - k) / (k + 1) = ch n (k + 1) := by
  rw [← (ch_both n k).1]; exact Nat.mul_div_cancel _ (by omega)
theorem ch_diag (n k : Nat) : ch n k * (n + 1) / (k + 1) = ch (n + 1) (k + 1) := by
  rw [← (ch_both n k).2]; exact Nat.mul_div_cancel _ (by omega)
theorem ch_up (n k : Nat) : ch n k ≤ ch (n + 1) k := by
  cases k with
  | zero => rw [ch_0, ch_0]; exact Nat.le_refl _
  | succ k => show _ ≤ ch n k + ch n (k + 1); omega
theorem ch_dg (n k : Nat) : ch n k ≤ ch (n + 1) (k + 1) := by show _ ≤ ch n k + ch n (k + 1); omega
theorem ch_pow : ∀ n k, ch n k ≤ 2 ^ n
  | n, 0 => by rw [ch_0]; exact Nat.one_le_two_pow
  | 0, _ + 1 => by simp [ch]
  | n + 1, k + 1 => by
    have h1 := ch_pow n k
    have h2 := ch_pow n (k + 1)
    show ch n k + ch n (k + 1) ≤ _
    rw [Nat.pow_succ]; omega
theorem ch_big {n k : Nat} (h : 1000000000000 < ch n k) : 20 ≤ n := by
  refine Nat.le_of_not_lt fun hn => ?_
  have h1 := ch_pow n k
  have h2 : 2 ^ n ≤ 2 ^ 20 := Nat.pow_le_pow_right (by omega) (by omega)
  have : (2 : Nat) ^ 20 = 1048576 := by decide
  omega
/-- a great coefficient stays great -/
theorem ch_stay {n k : Nat} (h : 1000000000000 < ch n k) (hk : k ≤ 8) : 1000000000000 < ch n (k + 1) := by
  have h1 := ch_big h
  have h2 := (ch_both n k).1
  refine Nat.lt_of_lt_of_le h ?_
  have h3 : ch n k * (k + 1) ≤ ch n (k + 1) * (k + 1) := by rw [h2]; exact Nat.mul_le_mul_left _ (by omega)
  exact Nat.le_of_mul_le_mul_right h3 (by omega)
/-- the greatest value and one more -/
def top : Nat := 1000000000001
def cp (x : Nat) : Nat := min x top
theorem cp_le (x : Nat) : cp x ≤ top := Nat.min_le_right _ _
theorem cp_step (n k : Nat) (hk : k ≤ 8) : cp (ch n (k + 1)) = if cp (ch n k) ≤ 1000000000000 then min (cp (ch n k) * (n - k) / (k + 1)) top else cp (ch n k) := by
  unfold cp
  split
  · rename_i h
    have e : min (ch n k) top = ch n k := by unfold top at h ⊢; omega
    rw [e, ch_next]
  · rename_i h
    have h1 : 1000000000000 < ch n k := by unfold top at h; omega
    have h2 := ch_stay h1 hk
    unfold top; omega
/-- the errors of the first k differences after n steps -/
def sm (s : Nat → Nat) (n : Nat) : Nat → Nat
  | 0 => 0
  | k + 1 => sm s n k + s k * ch n k
theorem sm_mono (s : Nat → Nat) (n : Nat) : ∀ k, sm s n k ≤ sm s (n + 1) k
  | 0 => Nat.le_refl _
  | k + 1 => Nat.add_le_add (sm_mono s n k) (Nat.mul_le_mul_left _ (ch_up n k))
theorem sm_le (s : Nat → Nat) (n k : Nat) : ∀ j, sm s n k ≤ sm s n (k + j)
  | 0 => Nat.le_refl _
  | j + 1 => Nat.le_trans (sm_le s n k j) (Nat.le_add_right _ _)
def sb (s : Nat → Nat) (m n : Nat) : Nat := cp (sm s n m)
theorem sb_mono (s : Nat → Nat) (m n : Nat) : sb s m n ≤ sb s m (n + 1) := by
  have := sm_mono s n m
  unfold sb cp; omega
theorem sb_mono2 (s : Nat → Nat) (m n : Nat) : ∀ j, sb s m n ≤ sb s m (n + j)
  | 0 => Nat.le_refl _
  | j + 1 => Nat.le_trans (sb_mono2 s m n j) (sb_mono s m (n + j))
/-- a summand that is too great -/
theorem sb_over {s : Nat → Nat} {m n k : Nat} (hk : k < m) (h : 1000000000000 < sm s n k + s k * ch n k) : sb s m n = top := by
  have := sm_le s n (k + 1) (m - (k + 1))
  rw [show k + 1 + (m - (k + 1)) = m by omega] at this
  have e : sm s n (k + 1) = sm s n k + s k * ch n k := rfl
  unfold sb cp top; omega
theorem quo_gt {a c M : Nat} (ha : 0 < a) (h : M / a < c) : M < a * c := by
  rw [Nat.mul_comm]
  exact (Nat.div_lt_iff_lt_mul ha).1 h
theorem quo_le {a c M : Nat} (h : c ≤ M / a) : a * c ≤ M := by
  rw [Nat.mul_comm]
  by_cases ha : 0 < a
  · exact (Nat.le_div_iff_mul_le ha).1 h
  · obtain rfl : a = 0 := by omega
    simp
/-- the product with a capped coefficient -/
theorem cp_over {a x : Nat} (ha : 0 < a) (h : 1000000000000 / a < cp x) : 1000000000000 < a * x := by
  have h1 := quo_gt ha h
  exact Nat.lt_of_lt_of_le h1 (Nat.mul_le_mul_left _ (Nat.min_le_left _ _))
theorem cp_under {a x : Nat} (_ha : 0 < a) (h : cp x ≤ 1000000000000 / a) : cp x = x ∧ a * x ≤ 1000000000000 := by
  have h1 := quo_le h
  have h2 : cp x ≤ 1000000000000 := Nat.le_trans h (Nat.div_le_self _ _)
  have h3 : cp x = x := by unfold cp top at *; omega
  rw [h3] at h1
  exact ⟨h3, h1⟩
/-- the reference's step -/
def rs (s : Nat → Nat) (n : Nat) : Nat → Nat
  | 0 => 0
  | k + 1 => if 0 < s k then min top (rs s n k + s k * min (cp (ch n k)) (1000000000000 / s k + 1)) else rs s n k
theorem rs_eq (s : Nat → Nat) (n : Nat) : ∀ k, rs s n k = cp (sm s n k)
  | 0 => by simp [rs, sm, cp]
  | k + 1 => by
    have ih := rs_eq s n k
    show (if 0 < s k then min top (rs s n k + s k * min (cp (ch n k)) (1000000000000 / s k + 1)) else rs s n k) = cp (sm s n k + s k * ch n k)
    rw [ih]
    by_cases h : 0 < s k
    · rw [if_pos h]
      by_cases h2 : cp (ch n k) ≤ 1000000000000 / s k
      · obtain ⟨h3, h4⟩ := cp_under h h2
        rw [h3]
        rw [h3] at h2
        rw [show min (ch n k) (1000000000000 / s k + 1) = ch n k by omega]
        generalize s k * ch n k = x at *
        unfold cp top; omega
      · have h3 := cp_over h (Nat.lt_of_not_le h2)
        rw [show min (cp (ch n k)) (1000000000000 / s k + 1) = 1000000000000 / s k + 1 by omega]
        have h4 := quo_gt (c := 1000000000000 / s k + 1) h (Nat.lt_succ_self _)
        generalize s k * ch n k = x at *
        generalize s k * (1000000000000 / s k + 1) = y at *
        unfold cp top; omega
    · rw [if_neg h, show s k = 0 by omega]; simp
/-- the greatest number of steps -/
def SafeAt (s : Nat → Nat) (m limit r : Nat) : Prop := r ≤ 100000 ∧ sb s m r ≤ limit ∧ (r = 100000 ∨ limit < sb s m (r + 1))
theorem safe_one {s : Nat → Nat} {m limit r r' : Nat} (h : SafeAt s m limit r) (h' : SafeAt s m limit r') : r = r' := by
  obtain ⟨a, b, c⟩ := h
  obtain ⟨a', b', c'⟩ := h'
  by_cases h1 : r < r'
  · have := sb_mono2 s m (r + 1) (r' - (r + 1))
    rw [show r + 1 + (r' - (r + 1)) = r' by omega] at this
    omega
  · by_cases h2 : r' < r
    · have := sb_mono2 s m (r' + 1) (r - (r' + 1))
      rw [show r' + 1 + (r - (r' + 1)) = r by omega] at this
      omega
    · omega
end Go.Proofs.Ytdljlemgaefbpaa
