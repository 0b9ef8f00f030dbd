/-
  DERIVED. GIVEN WITH THE SEED: THE CARDS: each row of YtepgfcjfdnakbaaDoorRows.lean that lists a variable, with what it lists TIED to the program's text (the seventh form; the later family's looks); each row that meets fmt, with fmt's text TOLD by the authors' own Lean function (tested against real Go, not proved from fmt's source: count such statements apart). THE CARD IS WHAT COUNTS. Prove the row's statement (the work); the ties are given (YtepgfcjfdnakbaaDoorTie.lean); close each card by the builder's one call (the guide's Derived/Test/ToyasCard.lean, 'card_holds'). Laid BY PROGRAM, IN A SANDBOX (cutbox-door.mjs). By AI agents, Wed Nov 11 2026. No macro, syntax, notation, axiom, sorry.
-/
import Derived.Test.YtepgfcjfdnakbaaDoorRows
import GoSem.ClaimSeven
namespace Go.Proofs.YtepgfcjfdnakbaaDoor
namespace Rows

/-- THE TIED CARD OF 'laws.FnPieces'. -/
def fnPiecesCard : Claim7 := { stood := { row := fnPiecesRow, standIns := [], harness := (true, "8d9d44bb48dd9fcec385fdecc1f4677fe74da4c08aa2ec3228aba1f6dab073e1"), looks := false }, kinds := [], alts := [], laidByText := true, laidKinds := [.data, .data, .data], laidTests := true, laidLooks := .later }
def FnPiecesCardSaid : Prop := Claim7.holds Tryd.pinned (.plain (OpenSpec.ofChange fnPiecesSpec)) fnPiecesCard

/-- THE TIED CARD OF 'laws.FnJobs'. -/
def fnJobsCard : Claim7 := { stood := { row := fnJobsRow, standIns := [], harness := (true, "8d9d44bb48dd9fcec385fdecc1f4677fe74da4c08aa2ec3228aba1f6dab073e1"), looks := false }, kinds := [], alts := [], laidByText := true, laidKinds := [.data, .data, .data], laidTests := true, laidLooks := .later }
def FnJobsCardSaid : Prop := Claim7.holds Tryd.pinned (.plain (OpenSpec.ofChange fnJobsSpec)) fnJobsCard

/-- THE SECOND FORM's CARD OF 'laws.FnPieces'. -/
def fnPiecesUptoCard : Claim7 := { stood := { row := fnPiecesUptoRow, standIns := [], harness := (true, "8d9d44bb48dd9fcec385fdecc1f4677fe74da4c08aa2ec3228aba1f6dab073e1"), looks := false }, kinds := [], alts := [], laidByText := true, laidKinds := [.data, .data, .data], laidTests := true, laidLooks := .later }
def FnPiecesUptoCardSaid : Prop := Claim7.holds Tryd.pinned (.plain (OpenSpec.upto fnPiecesSpec)) fnPiecesUptoCard

/-- THE SECOND FORM's CARD OF 'laws.FnJobs'. -/
def fnJobsUptoCard : Claim7 := { stood := { row := fnJobsUptoRow, standIns := [], harness := (true, "8d9d44bb48dd9fcec385fdecc1f4677fe74da4c08aa2ec3228aba1f6dab073e1"), looks := false }, kinds := [], alts := [], laidByText := true, laidKinds := [.data, .data, .data], laidTests := true, laidLooks := .later }
def FnJobsUptoCardSaid : Prop := Claim7.holds Tryd.pinned (.plain (OpenSpec.upto fnJobsSpec)) fnJobsUptoCard
end Rows
end Go.Proofs.YtepgfcjfdnakbaaDoor
