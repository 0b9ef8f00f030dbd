/- Rounding, part 1: rounded values and patterns of errors, in plain words. -/
import Derived.Test.YtdljlemgaefbpaaDf1
namespace Go.Proofs.Ytdljlemgaefbpaa

/-- how many units a value has, rounded -/
def ru (v u : Int) : Int := (2 * v + u) / (2 * u)
theorem ru_bd {v u : Int} (hu : 0 < u) : 2 * (ru v u * u) ≤ 2 * v + u ∧ 2 * v - u < 2 * (ru v u * u) := by
  have h1 := Int.mul_ediv_add_emod (2 * v + u) (2 * u)
  have h2 := Int.emod_nonneg (2 * v + u) (show 2 * u ≠ 0 by omega)
  have h3 := Int.emod_lt_of_pos (2 * v + u) (show 0 < 2 * u by omega)
  have e : 2 * u * ((2 * v + u) / (2 * u)) = 2 * (ru v u * u) := by
    unfold ru
    rw [Int.mul_assoc, Int.mul_comm u]
  rw [e] at h1
  omega
theorem ru_le {v u M : Int} (hu : 1 ≤ u) (hM : 0 ≤ M) (hv : v ≤ M) : ru v u ≤ M := by
  refine Int.le_of_lt_add_one (Int.ediv_lt_of_lt_mul (by omega) ?_)
  have h1 : M ≤ M * u := by
    have := Int.mul_le_mul_of_nonneg_left hu hM
    rwa [Int.mul_one] at this
  have e : (M + 1) * (2 * u) = 2 * (M * u) + 2 * u := by rw [Int.add_mul, ← Int.mul_assoc, Int.mul_comm M 2, Int.mul_assoc, Int.one_mul]
  rw [e]; omega
theorem ru_ge {v u M : Int} (hu : 1 ≤ u) (hM : 0 ≤ M) (hv : -M ≤ v) : -M ≤ ru v u := by
  refine Int.le_ediv_of_mul_le (by omega) ?_
  have h1 : M ≤ M * u := by
    have := Int.mul_le_mul_of_nonneg_left hu hM
    rwa [Int.mul_one] at this
  have e : -M * (2 * u) = -(2 * (M * u)) := by rw [Int.neg_mul, ← Int.mul_assoc, Int.mul_comm M 2, Int.mul_assoc]
  rw [e]; omega
/-- Go's quotient and remainder, turned to a quotient that is rounded down -/
theorem fl_div {a b : Int} (hb : 0 < b) : (if a.tmod b < 0 then a.tdiv b - 1 else a.tdiv b) = a / b := by
  have h1 := Int.tmod_add_mul_tdiv a b
  have h2 : -b < a.tmod b := by
    have h4 := Int.natAbs_tmod a b
    have h5 := Nat.mod_lt a.natAbs (show 0 < b.natAbs by omega)
    omega
  have h3 : a.tmod b < b := Int.tmod_lt_of_pos a hb
  split
  · rename_i h
    exact ((Int.ediv_emod_unique (q := a.tdiv b - 1) (r := a.tmod b + b) hb).2 ⟨by rw [Int.mul_sub, Int.mul_one]; omega, by omega, by omega⟩).1.symm
  · exact ((Int.ediv_emod_unique (q := a.tdiv b) (r := a.tmod b) hb).2 ⟨by omega, by omega, by omega⟩).1.symm
/-- errors that make the error of a difference greatest, for the error 1 -/
def wp (n : Nat) (k : Nat) : Int := if (n - k) % 2 = 1 then -1 else 1
theorem wp_top : ∀ n, n < 9 → Dn n (wp n) 0 = ((2 ^ n : Nat) : Int) := by decide +kernel
theorem Dn_mul (f : Nat → Int) (s : Int) : ∀ m, Dn m (fun x => s * f x) = fun i => s * Dn m f i
  | 0 => rfl
  | m + 1 => by
    show D (Dn m (fun x => s * f x)) = _
    rw [Dn_mul f s m]
    funext i
    show s * Dn m f (i + 1) - s * Dn m f i = s * (Dn m f (i + 1) - Dn m f i)
    rw [Int.mul_sub]
end Go.Proofs.Ytdljlemgaefbpaa
