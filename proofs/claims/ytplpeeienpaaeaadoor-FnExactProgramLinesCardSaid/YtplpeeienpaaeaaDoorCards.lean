/-
  DERIVED. GIVEN WITH THE SEED: THE CARDS: each row of YtplpeeienpaaeaaDoorRows.lean that lists a variable, with what it lists TIED to the program's text (the seventh form; the later family's looks); each row that meets fmt, with fmt's text TOLD by the authors' own Lean function (tested against real Go, not proved from fmt's source: count such statements apart). THE CARD IS WHAT COUNTS. Prove the row's statement (the work); the ties are given (YtplpeeienpaaeaaDoorTie.lean); close each card by the builder's one call (the guide's Derived/Test/ToyasCard.lean, 'card_holds'). Laid BY PROGRAM, IN A SANDBOX (cutbox-door.mjs). By AI agents, Wed Nov 11 2026. No macro, syntax, notation, axiom, sorry.
-/
import Derived.Test.YtplpeeienpaaeaaDoorRows
import GoSem.ClaimSeven
namespace Go.Proofs.YtplpeeienpaaeaaDoor
namespace Rows

/-- THE TIED CARD OF 'laws.FnExactLoansText'. -/
def fnExactLoansTextCard : Claim7 := { stood := { row := fnExactLoansTextRow, standIns := [], harness := (true, "b1ed97ec1eb8b1b8c01db70788a68724f2bf42ec8ecdfe58ec776bf5f939ba60"), looks := false }, kinds := [], alts := [], laidByText := true, laidKinds := [.data, .data, .data], laidTests := true, laidLooks := .later }
def FnExactLoansTextCardSaid : Prop := Claim7.holds Tryd.pinned (.plain (OpenSpec.ofChange fnExactLoansTextSpec)) fnExactLoansTextCard

/-- THE TIED CARD OF 'laws.FnExactEntriesText'. -/
def fnExactEntriesTextCard : Claim7 := { stood := { row := fnExactEntriesTextRow, standIns := [], harness := (true, "b1ed97ec1eb8b1b8c01db70788a68724f2bf42ec8ecdfe58ec776bf5f939ba60"), looks := false }, kinds := [], alts := [], laidByText := true, laidKinds := [.data, .data, .data], laidTests := true, laidLooks := .later }
def FnExactEntriesTextCardSaid : Prop := Claim7.holds Tryd.pinned (.plain (OpenSpec.ofChange fnExactEntriesTextSpec)) fnExactEntriesTextCard

/-- THE TIED CARD OF 'laws.FnExactProgramLines'. -/
def fnExactProgramLinesCard : Claim7 := { stood := { row := fnExactProgramLinesRow, standIns := [], harness := (true, "b1ed97ec1eb8b1b8c01db70788a68724f2bf42ec8ecdfe58ec776bf5f939ba60"), looks := false }, kinds := [], alts := [], laidByText := true, laidKinds := [.data, .data, .data], laidTests := true, laidLooks := .later }
def FnExactProgramLinesCardSaid : Prop := Claim7.holds Tryd.pinned (.plain (OpenSpec.ofChange fnExactProgramLinesSpec)) fnExactProgramLinesCard

/-- THE SECOND FORM's CARD OF 'laws.FnExactLoansText'. -/
def fnExactLoansTextUptoCard : Claim7 := { stood := { row := fnExactLoansTextUptoRow, standIns := [], harness := (true, "b1ed97ec1eb8b1b8c01db70788a68724f2bf42ec8ecdfe58ec776bf5f939ba60"), looks := false }, kinds := [], alts := [], laidByText := true, laidKinds := [.data, .data, .data], laidTests := true, laidLooks := .later }
def FnExactLoansTextUptoCardSaid : Prop := Claim7.holds Tryd.pinned (.plain (OpenSpec.upto fnExactLoansTextSpec)) fnExactLoansTextUptoCard

/-- THE SECOND FORM's CARD OF 'laws.FnExactEntriesText'. -/
def fnExactEntriesTextUptoCard : Claim7 := { stood := { row := fnExactEntriesTextUptoRow, standIns := [], harness := (true, "b1ed97ec1eb8b1b8c01db70788a68724f2bf42ec8ecdfe58ec776bf5f939ba60"), looks := false }, kinds := [], alts := [], laidByText := true, laidKinds := [.data, .data, .data], laidTests := true, laidLooks := .later }
def FnExactEntriesTextUptoCardSaid : Prop := Claim7.holds Tryd.pinned (.plain (OpenSpec.upto fnExactEntriesTextSpec)) fnExactEntriesTextUptoCard

/-- THE SECOND FORM's CARD OF 'laws.FnExactProgramLines'. -/
def fnExactProgramLinesUptoCard : Claim7 := { stood := { row := fnExactProgramLinesUptoRow, standIns := [], harness := (true, "b1ed97ec1eb8b1b8c01db70788a68724f2bf42ec8ecdfe58ec776bf5f939ba60"), looks := false }, kinds := [], alts := [], laidByText := true, laidKinds := [.data, .data, .data], laidTests := true, laidLooks := .later }
def FnExactProgramLinesUptoCardSaid : Prop := Claim7.holds Tryd.pinned (.plain (OpenSpec.upto fnExactProgramLinesSpec)) fnExactProgramLinesUptoCard
end Rows
end Go.Proofs.YtplpeeienpaaeaaDoor
