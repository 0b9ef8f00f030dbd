/- Programs of hand movements, part 5: PackProgram on both sides. -/
import Derived.Test.YtplpeeienpaaeaaDoorPg4
namespace Go.Proofs.YtplpeeienpaaeaaDoor
open Go.RowKit Go.Joins

end Go.Proofs.YtplpeeienpaaeaaDoor
