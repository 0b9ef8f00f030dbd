/- Differences, part 7: WrongEntry, TabulateNewton; what a wrong entry leaves behind, in plain words. -/
import Derived.Test.YtdljlemgaefbpaaDf6
import Derived.Test.YtdljlemgaefbpaaDf5
namespace Go.Proofs.Ytdljlemgaefbpaa
open Go.RowKit Go.Joins

abbrev one1 (a : Nat) : Nat → Int := put (fun _ => 0) a 1
theorem Dn_lin (f g : Nat → Int) (k : Int) : ∀ m, Dn m (fun x => f x + k * g x) = fun i => Dn m f i + k * Dn m g i
  | 0 => rfl
  | m + 1 => by
    show D (Dn m (fun x => f x + k * g x)) = _
    rw [Dn_lin f g k m]
    funext i
    show (Dn m f (i + 1) + k * Dn m g (i + 1)) - (Dn m f i + k * Dn m g i) = (Dn m f (i + 1) - Dn m f i) + k * (Dn m g (i + 1) - Dn m g i)
    rw [Int.mul_sub]; omega
theorem put_eq (f : Nat → Int) (a : Nat) (y : Int) : put f a y = fun x => f x + (y - f a) * one1 a x := by
  funext x
  show (if x = a then y else f x) = f x + (y - f a) * (if x = a then 1 else 0)
  by_cases h : x = a
  · subst h; simp; omega
  · simp [h]
theorem Dn_put (f : Nat → Int) (a : Nat) (y : Int) (m i : Nat) : Dn m (put f a y) i = Dn m f i + (y - f a) * Dn m (one1 a) i := by
  rw [put_eq, Dn_lin]
theorem chz : ∀ m, m < 6 → ∀ k, k < m → ∀ i, i < 14 → i + m < 14 → Dn m (fun x => (chb x k : Int)) i = 0 := by decide +kernel
theorem sone : ∀ m, m < 6 → ∀ L, L < 10 → 2 ≤ L → ∀ a, a < L + m → ∃ i, i < L ∧ Dn m (one1 a) i ≠ 0 := by decide +kernel
theorem Dn_nval (c : Nat → Int) (m : Nat) (hm : m < 6) (i : Nat) (hi : i + m < 14) : ∀ j, j ≤ m → Dn m (fun x => nval c x j) i = 0
  | 0, _ => by
    have : (fun x => nval c x 0) = fun x => (0 : Int) + 0 * (0 : Int) := by funext x; simp [nval]
    have h0 : ∀ m i, Dn m (fun _ => (0 : Int)) i = 0 := by
      intro m
      induction m with
      | zero => intro i; rfl
      | succ m ih => intro i; show Dn m _ (i + 1) - Dn m _ i = 0; rw [ih, ih]; rfl
    show Dn m (fun _ => (0 : Int)) i = 0
    exact h0 m i
  | j + 1, hj => by
    have e : (fun x => nval c x (j + 1)) = fun x => nval c x j + c j * (fun x => (chb x j : Int)) x := rfl
    rw [e, Dn_lin]
    show Dn m (fun x => nval c x j) i + c j * Dn m (fun x => (chb x j : Int)) i = 0
    rw [Dn_nval c m hm i hi j (by omega), chz m hm j (by omega) i (by omega) hi]; simp
/-- two places leave no proportional rows behind -/
def skew (m L a b : Nat) : Bool := (List.range L).any fun i => (List.range L).any fun j => Dn m (one1 a) i * Dn m (one1 b) j != Dn m (one1 a) j * Dn m (one1 b) i
def skewAll : Bool := (List.range 6).all fun m => (List.range 10).all fun L => (List.range (L + m)).all fun a => (List.range (L + m)).all fun b => decide (a = b) || decide (L < 2) || decide (m < 1) || skew m L a b
theorem skewAll_true : skewAll = true := by decide +kernel
theorem skew_all (m : Nat) (hm : m < 6) (h1 : 1 ≤ m) (L : Nat) (hL : L < 10) (h2 : 2 ≤ L) (a : Nat) (ha : a < L + m) (b : Nat) (hb : b < L + m) (hab : a ≠ b) : skew m L a b = true := by
  have h := List.all_eq_true.1 (List.all_eq_true.1 (List.all_eq_true.1 (List.all_eq_true.1 skewAll_true m (List.mem_range.2 hm)) L (List.mem_range.2 hL)) a (List.mem_range.2 ha)) b (List.mem_range.2 hb)
  rw [decide_eq_false hab, decide_eq_false (by omega : ¬ L < 2), decide_eq_false (by omega : ¬ m < 1)] at h
  simpa using h
theorem skew_at {m L a b : Nat} (h : skew m L a b = true) : ∃ i j, i < L ∧ j < L ∧ Dn m (one1 a) i * Dn m (one1 b) j ≠ Dn m (one1 a) j * Dn m (one1 b) i := by
  unfold skew at h
  obtain ⟨i, hi, h⟩ := List.any_eq_true.1 h
  obtain ⟨j, hj, h⟩ := List.any_eq_true.1 h
  exact ⟨i, j, List.mem_range.1 hi, List.mem_range.1 hj, by simpa using h⟩

theorem rep_ok (r s : Nat → Int) (v : Int) : ∀ n i due found, (∀ j, i ≤ j → j < i + n → r j = -v * s j) → (found = true → due = v) →
    (rep r s n i due found).2 = true ∧ ((found = true ∨ ∃ j, i ≤ j ∧ j < i + n ∧ s j ≠ 0) → (rep r s n i due found).1 = v)
  | 0, i, due, found, _, hf => ⟨rfl, fun h => by
      rcases h with h | ⟨j, h1, h2, _⟩
      · exact hf h
      · omega⟩
  | n + 1, i, due, found, h, hf => by
    have hi := h i (Nat.le_refl _) (by omega)
    have h' : ∀ j, i + 1 ≤ j → j < i + 1 + n → r j = -v * s j := fun j h1 h2 => h j (by omega) (by omega)
    rw [rep_succ]
    by_cases hs : s i = 0
    · have hr : r i = 0 := by rw [hi, hs, Int.mul_zero]
      rw [if_pos hs, if_pos hr]
      obtain ⟨k1, k2⟩ := rep_ok r s v n (i + 1) due found h' hf
      refine ⟨k1, fun hh => k2 ?_⟩
      rcases hh with hh | ⟨j, h1, h2, h3⟩
      · exact .inl hh
      · by_cases e : j = i
        · subst e; exact absurd hs h3
        · exact .inr ⟨j, by omega, by omega, h3⟩
    · have ht : (r i).tmod (s i) = 0 := by rw [hi]; exact Int.mul_tmod_left _ _
      have hd : (-(r i)).tdiv (s i) = v := by
        rw [hi, Int.neg_mul, Int.neg_neg]; exact Int.mul_tdiv_cancel _ hs
      rw [if_neg hs, if_pos ht, hd, if_neg (fun e => e.2 (hf e.1).symm)]
      obtain ⟨k1, k2⟩ := rep_ok r s v n (i + 1) v true h' (fun _ => rfl)
      exact ⟨k1, fun _ => k2 (.inl rfl)⟩
theorem rep_bad (r s : Nat → Int) : ∀ n i due found, (rep r s n i due found).2 = true → ∃ v, (found = true → v = due) ∧ ∀ j, i ≤ j → j < i + n → r j = -v * s j
  | 0, i, due, found, _ => ⟨due, fun _ => rfl, fun j h1 h2 => by omega⟩
  | n + 1, i, due, found, h => by
    rw [rep_succ] at h
    by_cases hs : s i = 0
    · rw [if_pos hs] at h
      by_cases hr : r i = 0
      · rw [if_pos hr] at h
        obtain ⟨v, h1, h2⟩ := rep_bad r s n (i + 1) due found h
        refine ⟨v, h1, fun j h3 h4 => ?_⟩
        by_cases e : j = i
        · subst e; rw [hr, hs, Int.mul_zero]
        · exact h2 j (by omega) (by omega)
      · rw [if_neg hr] at h; simp at h
    · rw [if_neg hs] at h
      by_cases ht : (r i).tmod (s i) = 0
      · rw [if_pos ht] at h
        by_cases hc : found = true ∧ (-(r i)).tdiv (s i) ≠ due
        · rw [if_pos hc] at h; simp at h
        · rw [if_neg hc] at h
          obtain ⟨v, h1, h2⟩ := rep_bad r s n (i + 1) _ true h
          have hv := h1 rfl
          refine ⟨v, fun hf => ?_, fun j h3 h4 => ?_⟩
          · rw [hv]
            exact Classical.byContradiction fun e => hc ⟨hf, e⟩
          · by_cases e : j = i
            · subst e
              have hm := Int.mul_tdiv_add_tmod (r j) (s j)
              rw [ht, Int.add_zero] at hm
              rw [hv, Int.neg_tdiv, Int.neg_neg, Int.mul_comm]
              exact hm.symm
            · exact h2 j (by omega) (by omega)
      · rw [if_neg ht] at h; simp at h

/-- what replacement finds for place a -/
def rp (f : Nat → Int) (d n a : Nat) : Int × Bool := rep (Dn (d + 1) (put f a 0)) (Dn (d + 1) (put (fun _ => 0) a 1)) (n - (d + 1)) 0 0 false

/-- one entry is wrong: all that the law asks -/
theorem wrong_one (f : Nat → Int) (d L a : Nat) (e : Int) (hd : d + 1 < 6) (hL : L < 10) (hL2 : 2 ≤ L) (ha : a < L + (d + 1)) (he : e ≠ 0) (hf : ∀ i, i < L → Dn (d + 1) f i = 0) :
    zer L (Dn (d + 1) f) = true ∧ zer L (Dn (d + 1) (put f a (f a + e))) = false ∧ (∀ b, b < a → (rp (put f a (f a + e)) d (L + (d + 1)) b).2 = false) ∧ rp (put f a (f a + e)) d (L + (d + 1)) a = (f a, true) := by
  have hg : ∀ i, i < L → Dn (d + 1) (put f a (f a + e)) i = e * Dn (d + 1) (one1 a) i := fun i hi => by
    rw [Dn_put, hf i hi, show f a + e - f a = e by omega, Int.zero_add]
  have hLm : L + (d + 1) - (d + 1) = L := by omega
  refine ⟨zer_all hf, ?_, fun b hb => ?_, ?_⟩
  · obtain ⟨i, hi, hs⟩ := sone (d + 1) hd L hL hL2 a ha
    exact zer_at i hi (by rw [hg i hi]; exact Int.mul_ne_zero he hs)
  · cases hr : (rp (put f a (f a + e)) d (L + (d + 1)) b).2 with
    | false => rfl
    | true =>
      unfold rp at hr
      rw [hLm] at hr
      obtain ⟨v, _, h2⟩ := rep_bad _ _ _ _ _ _ hr
      obtain ⟨i, j, hi, hj, hne⟩ := skew_at (skew_all (d + 1) hd (by omega) L hL hL2 a ha b (by omega) (by omega))
      have key : ∀ x, x < L → e * Dn (d + 1) (one1 a) x = (put f a (f a + e) b - v) * Dn (d + 1) (one1 b) x := fun x hx => by
        have h3 := h2 x (Nat.zero_le _) (by omega)
        rw [Dn_put, hg x hx] at h3
        have h4 : (0 - put f a (f a + e) b) * Dn (d + 1) (one1 b) x = -(put f a (f a + e) b * Dn (d + 1) (one1 b) x) := by rw [Int.zero_sub, Int.neg_mul]
        have h5 : -v * Dn (d + 1) (put (fun _ => 0) b 1) x = -(v * Dn (d + 1) (one1 b) x) := Int.neg_mul _ _
        rw [h4, h5] at h3
        rw [Int.sub_mul]
        omega
      have k1 := key i hi
      have k2 := key j hj
      exfalso
      apply hne
      refine Int.eq_of_mul_eq_mul_left he ?_
      rw [← Int.mul_assoc, ← Int.mul_assoc, k1, k2, Int.mul_assoc, Int.mul_assoc, Int.mul_comm (Dn (d + 1) (one1 b) i)]
  · unfold rp
    rw [hLm]
    have hr : ∀ j, 0 ≤ j → j < 0 + L → Dn (d + 1) (put (put f a (f a + e)) a 0) j = -(f a) * Dn (d + 1) (put (fun _ => 0) a 1) j := fun j _ hj => by
      rw [Dn_put, hg j (by omega)]
      have h0 : put f a (f a + e) a = f a + e := by simp [put]
      rw [h0, ← Int.add_mul]
      congr 1; omega
    obtain ⟨k1, k2⟩ := rep_ok _ _ (f a) L 0 0 false hr (by simp)
    obtain ⟨i, hi, hs⟩ := sone (d + 1) hd L hL hL2 a ha
    exact Prod.ext (k2 (.inr ⟨i, Nat.zero_le _, by omega, hs⟩)) k1
end Go.Proofs.Ytdljlemgaefbpaa
