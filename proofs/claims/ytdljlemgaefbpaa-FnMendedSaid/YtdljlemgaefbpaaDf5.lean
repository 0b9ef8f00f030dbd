/- Differences, part 5: polynomials of powers; BinomialOf. -/
import Derived.Test.YtdljlemgaefbpaaDf4
namespace Go.Proofs.Ytdljlemgaefbpaa
open Go.RowKit Go.Joins

/-- Horner's value, the last d coefficients of m -/
def hp (p : Nat → Int) (x m : Nat) : Nat → Int
  | 0 => 0
  | d + 1 => hp p x m d * (x : Int) + p (m - 1 - d)
theorem hp_bd {p : Nat → Int} {m x X : Nat} (hS : Small 20 m p) (hx : x ≤ X) : ∀ d, d ≤ m → -((20 * (X + 1) ^ d : Nat) : Int) ≤ hp p x m d ∧ hp p x m d ≤ ((20 * (X + 1) ^ d : Nat) : Int)
  | 0, _ => by simp [hp]
  | d + 1, hd => by
    have h1 := hp_bd hS hx d (by omega)
    have h2 := mul_bd h1 x X hx
    have h3 := hS (m - 1 - d) (by omega)
    have h4 : 1 ≤ (X + 1) ^ d := Nat.one_le_pow _ _ (by omega)
    have h5 : 20 * (X + 1) ^ (d + 1) = 20 * (X + 1) ^ d * X + 20 * (X + 1) ^ d := by rw [Nat.pow_succ, ← Nat.mul_assoc, Nat.mul_add, Nat.mul_one]
    show _ ≤ hp p x m d * (x : Int) + p (m - 1 - d) ∧ hp p x m d * (x : Int) + p (m - 1 - d) ≤ _
    rw [h5]
    omega
theorem hp_bd2 {p : Nat → Int} {m x X d : Nat} (hS : Small 20 m p) (hx : x ≤ X) (hX : X ≤ 8) (hm : m ≤ 5) (hd : d ≤ m) : -1180980 ≤ hp p x m d ∧ hp p x m d ≤ 1180980 := by
  have h1 := hp_bd hS hx d hd
  have h2 : 20 * (X + 1) ^ d ≤ 20 * 9 ^ 5 := Nat.mul_le_mul_left _ (Nat.le_trans (Nat.pow_le_pow_left (by omega) d) (Nat.pow_le_pow_right (by omega) (by omega)))
  omega
theorem vals_small {p : Nat → Int} {m : Nat} (hS : Small 20 m p) (hm : m ≤ 5) : Small 62500 m (fun x => hp p x m m) := by
  intro x hx
  have h1 := hp_bd (X := 4) hS (show x ≤ 4 by omega) m (Nat.le_refl _)
  have h2 : 20 * (4 + 1) ^ m ≤ 20 * 5 ^ 5 := Nat.mul_le_mul_left _ (Nat.pow_le_pow_right (by omega) (by omega))
  show _ ≤ hp p x m m ∧ hp p x m m ≤ _
  omega
theorem lead_small {p : Nat → Int} {m : Nat} (hS : Small 20 m p) (hm : m ≤ 5) : Small 1000000 m (fun j => Dn j (fun x => hp p x m m) 0) := by
  intro j hj
  have h1 := (vals_small hS hm).Dn j 0 (by omega)
  have h2 : 2 ^ j * 62500 ≤ 2 ^ 4 * 62500 := Nat.mul_le_mul_right _ (Nat.pow_le_pow_right (by omega) (by omega))
  show _ ≤ Dn j _ 0 ∧ Dn j _ 0 ≤ _
  omega

/-- a row of numbers of the call's own and the code 0 -/
def RetF0 (w : World) (n : Nat) (f : Nat → Int) (e : Ending) (w' : World) : Prop :=
  ∃ v, e = .returned (.tuple #[v, .int .i64 0]) ∧ w'.ownsRow w.heap.size 2 1 v n (tab n f) ∧ Below w.heap.size w w'

/-- Newton's formula for polynomials of up to five powers, up to 8 -/
theorem newton_pow (p : Nat → Int) (m x : Nat) (h1 : 1 ≤ m) (hm : m ≤ 5) (hx : x < 9) : nval (fun j => Dn j (fun i => hp p i m m) 0) x m = hp p x m m := by
  obtain rfl | rfl | rfl | rfl | rfl : m = 1 ∨ m = 2 ∨ m = 3 ∨ m = 4 ∨ m = 5 := by omega
  all_goals
    obtain rfl | rfl | rfl | rfl | rfl | rfl | rfl | rfl | rfl : x = 0 ∨ x = 1 ∨ x = 2 ∨ x = 3 ∨ x = 4 ∨ x = 5 ∨ x = 6 ∨ x = 7 ∨ x = 8 := by omega
    all_goals
      simp [nval, Dn, D, hp, chb]
      try omega
end Go.Proofs.Ytdljlemgaefbpaa
