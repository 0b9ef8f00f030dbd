/- Programs of hand movements, unpacked, part 3: the reference's reading of a number. -/
import Derived.Test.YtplpeeienpaaeaaDoorPu2
namespace Go.Proofs.YtplpeeienpaaeaaDoor
open Go.RowKit Go.Joins

theorem pow7 : ∀ j : Nat, (2 : Int) ^ (7 * j) = ((128 ^ j : Nat) : Int)
  | 0 => by simp
  | j + 1 => by
    rw [Nat.mul_succ, Int.pow_add, pow7 j, Nat.pow_succ, Int.natCast_mul]
    simp

def numV (l : List UInt8) : Nat × Nat := match numF 6 1 0 l with
  | some x => x
  | none => (0, 0)

end Go.Proofs.YtplpeeienpaaeaaDoor
