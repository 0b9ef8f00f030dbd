/- Registers, part 5: the program's value of a register. -/
import Derived.Test.YtplpeeienpaaeaaDoorReg4
namespace Go.Proofs.YtplpeeienpaaeaaDoor
open Go.RowKit Go.Joins

/-- where the value has become too great it stays so -/
theorem capV_top (b : Int) (hb : 2 ≤ b) (zs : List Int) (hd : digB b zs = true) : ∀ k, k ≤ zs.length → capV b (zs.drop k) = 1000000000001 → capV b zs = 1000000000001 := by
  intro k
  induction k with
  | zero => intro _ h; exact h
  | succ k ih =>
    intro hk h
    refine ih (by omega) ?_
    have hkl : k < zs.length := by omega
    have hz := digB_at hd k hkl
    rw [capV_at b zs k hkl, h]
    split
    · rfl
    · omega

end Go.Proofs.YtplpeeienpaaeaaDoor
