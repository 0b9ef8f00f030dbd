/- Similar entries, part 4: the program's SimilarEntries. -/
import Derived.Test.YtplpeeienpaaeaaDoorSi3
namespace Go.Proofs.YtplpeeienpaaeaaDoor
open Go.RowKit Go.Joins

end Go.Proofs.YtplpeeienpaaeaaDoor
