/- Fewest turns, part 5: valid turns, their factor. -/
import Derived.Test.YtdljlemgaefbpaaFew4
namespace Go.Proofs.Ytdljlemgaefbpaa
open Go.RowKit Go.Joins

def TOk (b : Nat) (l : List Int) : Prop := 2 ≤ b ∧ b ≤ 16 ∧ l.length ≤ 40 ∧ (∀ k, k < l.length → -16 ≤ at0 l k ∧ at0 l k ≤ 16) ∧ (∀ k, k + 1 = l.length → at0 l k ≠ 0) ∧
  ∀ k, k ≤ l.length → -1000000000 ≤ val b (l.drop k) ∧ val b (l.drop k) ≤ 1000000000
theorem val_drop (b : Int) (l : List Int) (k : Nat) (hk : k < l.length) : val b (l.drop k) = val b (l.drop (k + 1)) * b + at0 l k := by
  rw [List.drop_eq_getElem_cons hk]
  show l[k] + val b (l.drop (k + 1)) * b = _
  simp [at0, List.getD, hk]; omega

end Go.Proofs.Ytdljlemgaefbpaa
