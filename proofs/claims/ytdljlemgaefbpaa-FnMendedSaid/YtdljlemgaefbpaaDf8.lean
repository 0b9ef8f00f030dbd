/- Differences, part 8: Newton's differences, continued tables and shifts, in plain words. -/
import Derived.Test.YtdljlemgaefbpaaDf7
namespace Go.Proofs.Ytdljlemgaefbpaa
open Go.RowKit Go.Joins

theorem least (p : Nat → Bool) : ∀ n, p n = true → ∃ d, d ≤ n ∧ p d = true ∧ ∀ e, e < d → p e = false
  | 0, h => ⟨0, Nat.le_refl _, h, fun e he => by omega⟩
  | n + 1, h => by
    by_cases h2 : ∃ k, k ≤ n ∧ p k = true
    · obtain ⟨k, hk, h3⟩ := h2
      have : ∀ j, j ≤ n → p j = true → ∃ d, d ≤ n ∧ p d = true ∧ ∀ e, e < d → p e = false := by
        intro j
        induction j using Nat.strongRecOn with
        | ind j ih =>
          intro hj hp
          by_cases h4 : ∃ e, e < j ∧ p e = true
          · obtain ⟨e, he, hpe⟩ := h4
            exact ih e he (by omega) hpe
          · exact ⟨j, hj, hp, fun e he => by
              cases hpe : p e with
              | false => rfl
              | true => exact absurd ⟨e, he, hpe⟩ h4⟩
      obtain ⟨d, h5, h6, h7⟩ := this k hk h3
      exact ⟨d, by omega, h6, h7⟩
    · exact ⟨n + 1, Nat.le_refl _, h, fun e he => by
        cases hpe : p e with
        | false => rfl
        | true => exact absurd ⟨e, by omega, hpe⟩ h2⟩
theorem dn_table : ∀ k, k < 5 → ∀ j, j < 5 → Dn k (fun x => (chb x j : Int)) 0 = if j = k then 1 else 0 := by decide +kernel
theorem Dn_const (k i : Nat) : Dn k (fun _ => (0 : Int)) i = 0 := by
  induction k generalizing i with
  | zero => rfl
  | succ m ih => show Dn m _ (i + 1) - Dn m _ i = 0; rw [ih, ih]; rfl
theorem Dn_nval0 (c : Nat → Int) (k : Nat) (hk : k < 5) : ∀ j, j ≤ 5 → Dn k (fun x => nval c x j) 0 = if k < j then c k else 0
  | 0, _ => by
    show Dn k (fun _ => (0 : Int)) 0 = _
    rw [Dn_const]; simp
  | j + 1, hj => by
    have e : (fun x => nval c x (j + 1)) = fun x => nval c x j + c j * (fun x => (chb x j : Int)) x := rfl
    rw [e, Dn_lin]
    show Dn k (fun x => nval c x j) 0 + c j * Dn k (fun x => (chb x j : Int)) 0 = _
    rw [Dn_nval0 c k hk j (by omega), dn_table k hk j (by omega)]
    by_cases h1 : k < j
    · rw [if_pos h1, if_neg (by omega), if_pos (by omega)]; simp
    · by_cases h2 : j = k
      · subst h2; rw [if_neg h1, if_pos rfl, if_pos (by omega)]; simp
      · rw [if_neg h1, if_neg h2, if_neg (by omega)]; simp
theorem Dn_later (f : Nat → Int) (d L : Nat) (h : ∀ i, i < L → Dn d f i = 0) : ∀ t i, i + t < L → Dn (d + t) f i = 0
  | 0, i, hi => h i hi
  | t + 1, i, hi => by
    show Dn (d + t) f (i + 1) - Dn (d + t) f i = 0
    rw [Dn_later f d L h t (i + 1) (by omega), Dn_later f d L h t i (by omega)]; rfl
theorem zer_get {n : Nat} {f : Nat → Int} (h : zer n f = true) (i : Nat) (hi : i < n) : f i = 0 := by
  unfold zer at h
  have := List.all_eq_true.1 h i (List.mem_range.2 hi)
  simpa using this

def sg : Nat → Int
  | 0 => 1
  | j + 1 => -(sg j)
def exv (f : Nat → Int) (d n : Nat) : Nat → Int
  | 0 => 0
  | j + 1 => exv f d n j + sg j * (binV d (j + 1) : Int) * f (n - (j + 1))
theorem exv_eq (f : Nat → Int) (d i : Nat) (h1 : 1 ≤ d) (h5 : d ≤ 5) (h : Dn d f i = 0) : exv f d (i + d) d = f (i + d) := by
  obtain rfl | rfl | rfl | rfl | rfl : d = 1 ∨ d = 2 ∨ d = 3 ∨ d = 4 ∨ d = 5 := by omega
  all_goals
    simp [Dn, D, Nat.add_assoc] at h
    simp [exv, sg, binV, bin]
    omega
theorem sg_bd : ∀ j, -1 ≤ sg j ∧ sg j ≤ 1
  | 0 => by simp [sg]
  | j + 1 => by have := sg_bd j; show _ ≤ -(sg j) ∧ -(sg j) ≤ 1; omega

def shp (c : Nat → Int) (j : Nat) : Nat → Int := fun k => if k < j then c k + c (k + 1) else c k
theorem shp_put (c : Nat → Int) (j : Nat) : put (shp c j) j (c j + c (j + 1)) = shp c (j + 1) := by
  funext k
  show (if k = j then c j + c (j + 1) else if k < j then c k + c (k + 1) else c k) = if k < j + 1 then c k + c (k + 1) else c k
  by_cases h : k = j
  · subst h; simp
  · by_cases h2 : k < j
    · simp [h, h2, show k < j + 1 by omega]
    · simp [h, h2, show ¬ k < j + 1 by omega]
theorem Small.shp {M m : Nat} {c : Nat → Int} (h : Small M m c) (j : Nat) (hj : j < m) : Small (2 * M) m (shp c j) := by
  intro k hk
  have h1 := h k hk
  show _ ≤ (if k < j then c k + c (k + 1) else c k) ∧ (if k < j then c k + c (k + 1) else c k) ≤ _
  split
  · have h2 := h (k + 1) (by omega)
    omega
  · omega
def shn (m : Nat) (c : Nat → Int) : Nat → Nat → Int
  | 0 => c
  | t + 1 => Go.Proofs.Ytdljlemgaefbpaa.shp (shn m c t) (m - 1)
theorem shn_small {m : Nat} {c : Nat → Int} (h : Small 20 m c) (hm : 1 ≤ m) : ∀ t, Small (20 * 2 ^ t) m (shn m c t)
  | 0 => by simpa [shn] using h
  | t + 1 => by
    have := (shn_small h hm t).shp (m - 1) (by omega)
    rw [Nat.pow_succ, show 20 * (2 ^ t * 2) = 2 * (20 * 2 ^ t) by omega]
    exact this
theorem pascal1 : ∀ k, k < 4 → ∀ t, t < 14 → chb (t + 1) (k + 1) = chb t (k + 1) + chb t k := by decide +kernel
theorem sh_nval (c : Nat → Int) (m t : Nat) (h1 : 1 ≤ m) (hm : m ≤ 5) (ht : t < 14) : nval (shp c (m - 1)) t m = nval c (t + 1) m := by
  have p0 := pascal1 0 (by omega) t ht
  have p1 := pascal1 1 (by omega) t ht
  have p2 := pascal1 2 (by omega) t ht
  have p3 := pascal1 3 (by omega) t ht
  have z0 : chb t 0 = 1 := rfl
  have z1 : chb (t + 1) 0 = 1 := rfl
  simp only [Nat.zero_add] at p0 p1 p2 p3
  obtain rfl | rfl | rfl | rfl | rfl : m = 1 ∨ m = 2 ∨ m = 3 ∨ m = 4 ∨ m = 5 := by omega
  all_goals
    simp only [nval, shp, p0, p1, p2, p3, z0, z1, Nat.reduceAdd, Nat.reduceSub, Nat.reduceLT, Nat.zero_add, if_true, if_false, Int.natCast_add, Int.mul_add, Int.add_mul, Int.natCast_one, Int.mul_one, Int.zero_add, Nat.lt_irrefl]
    try omega
theorem nval_0 (c : Nat → Int) (m : Nat) (h1 : 1 ≤ m) (hm : m ≤ 5) : nval c 0 m = c 0 := by
  obtain rfl | rfl | rfl | rfl | rfl : m = 1 ∨ m = 2 ∨ m = 3 ∨ m = 4 ∨ m = 5 := by omega
  all_goals simp [nval, chb]
theorem shn_nval (c : Nat → Int) (m : Nat) (h1 : 1 ≤ m) (hm : m ≤ 5) : ∀ t s, t + s ≤ 14 → nval (shn m c t) s m = nval c (t + s) m
  | 0, s, _ => by rw [Nat.zero_add]; rfl
  | t + 1, s, h => by
    show nval (shp (shn m c t) (m - 1)) s m = _
    rw [sh_nval _ m s h1 hm (by omega), shn_nval c m h1 hm t (s + 1) (by omega), show t + (s + 1) = t + 1 + s by omega]
theorem shn_0 (c : Nat → Int) (m t : Nat) (h1 : 1 ≤ m) (hm : m ≤ 5) (ht : t ≤ 14) : shn m c t 0 = nval c t m := by
  rw [← nval_0 (shn m c t) m h1 hm, shn_nval c m h1 hm t 0 (by omega), Nat.add_zero]
end Go.Proofs.Ytdljlemgaefbpaa
