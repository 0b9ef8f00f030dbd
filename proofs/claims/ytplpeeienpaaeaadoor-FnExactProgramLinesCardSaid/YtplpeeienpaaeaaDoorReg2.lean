/- Registers, part 2: toRegister. -/
import Derived.Test.YtplpeeienpaaeaaDoorReg1
namespace Go.Proofs.YtplpeeienpaaeaaDoor
open Go.RowKit Go.Joins

end Go.Proofs.YtplpeeienpaaeaaDoor
