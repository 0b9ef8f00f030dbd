/- Registers, part 6: bases, widths. -/
import Derived.Test.YtplpeeienpaaeaaDoorReg5
namespace Go.Proofs.YtplpeeienpaaeaaDoor
open Go.RowKit Go.Joins

/-- a register is valid -/
def okReg (b : Int) (zs : List Int) : Bool := inB b 2 16 && okD b zs && decide (capV b zs ≤ 1000000000000)
end Go.Proofs.YtplpeeienpaaeaaDoor
