/-
  DERIVED. GIVEN WITH THE SEED: THE CARDS: each row of YtjkjlpjeamifbaaDoorRows.lean that lists a variable, with what it lists TIED to the program's text (the seventh form; the later family's looks); each row that meets fmt, with fmt's text TOLD by the authors' own Lean function (tested against real Go, not proved from fmt's source: count such statements apart). THE CARD IS WHAT COUNTS. Prove the row's statement (the work); the ties are given (YtjkjlpjeamifbaaDoorTie.lean); close each card by the builder's one call (the guide's Derived/Test/ToyasCard.lean, 'card_holds'). Laid BY PROGRAM, IN A SANDBOX (cutbox-door.mjs). By AI agents, Wed Nov 11 2026. No macro, syntax, notation, axiom, sorry.
-/
import Derived.Test.YtjkjlpjeamifbaaDoorRows
import GoSem.ClaimSeven
namespace Go.Proofs.YtjkjlpjeamifbaaDoor
namespace Rows

/-- THE TIED CARD OF 'laws.FnExactReadLoans'. -/
def fnExactReadLoansCard : Claim7 := { stood := { row := fnExactReadLoansRow, standIns := [], harness := (true, "f12ea987a0bacf234790c56d27f048306aa0d2be619b8dcc3658f9b664950ba4"), looks := false }, kinds := [], alts := [], laidByText := true, laidKinds := [.data, .data, .data], laidTests := true, laidLooks := .later }
def FnExactReadLoansCardSaid : Prop := Claim7.holds Tryd.pinned (.plain (OpenSpec.ofChange fnExactReadLoansSpec)) fnExactReadLoansCard

/-- THE TIED CARD OF 'laws.FnExactReadEntries'. -/
def fnExactReadEntriesCard : Claim7 := { stood := { row := fnExactReadEntriesRow, standIns := [], harness := (true, "f12ea987a0bacf234790c56d27f048306aa0d2be619b8dcc3658f9b664950ba4"), looks := false }, kinds := [], alts := [], laidByText := true, laidKinds := [.data, .data, .data], laidTests := true, laidLooks := .later }
def FnExactReadEntriesCardSaid : Prop := Claim7.holds Tryd.pinned (.plain (OpenSpec.ofChange fnExactReadEntriesSpec)) fnExactReadEntriesCard

/-- THE TIED CARD OF 'laws.FnExactReadProgram'. -/
def fnExactReadProgramCard : Claim7 := { stood := { row := fnExactReadProgramRow, standIns := [], harness := (true, "f12ea987a0bacf234790c56d27f048306aa0d2be619b8dcc3658f9b664950ba4"), looks := false }, kinds := [], alts := [], laidByText := true, laidKinds := [.data, .data, .data], laidTests := true, laidLooks := .later }
def FnExactReadProgramCardSaid : Prop := Claim7.holds Tryd.pinned (.plain (OpenSpec.ofChange fnExactReadProgramSpec)) fnExactReadProgramCard

/-- THE TIED CARD OF 'laws.FnExactCheckProgram'. -/
def fnExactCheckProgramCard : Claim7 := { stood := { row := fnExactCheckProgramRow, standIns := [], harness := (true, "f12ea987a0bacf234790c56d27f048306aa0d2be619b8dcc3658f9b664950ba4"), looks := false }, kinds := [], alts := [], laidByText := true, laidKinds := [.data, .data, .data], laidTests := true, laidLooks := .later }
def FnExactCheckProgramCardSaid : Prop := Claim7.holds Tryd.pinned (.plain (OpenSpec.ofChange fnExactCheckProgramSpec)) fnExactCheckProgramCard

/-- THE SECOND FORM's CARD OF 'laws.FnExactReadLoans'. -/
def fnExactReadLoansUptoCard : Claim7 := { stood := { row := fnExactReadLoansUptoRow, standIns := [], harness := (true, "f12ea987a0bacf234790c56d27f048306aa0d2be619b8dcc3658f9b664950ba4"), looks := false }, kinds := [], alts := [], laidByText := true, laidKinds := [.data, .data, .data], laidTests := true, laidLooks := .later }
def FnExactReadLoansUptoCardSaid : Prop := Claim7.holds Tryd.pinned (.plain (OpenSpec.upto fnExactReadLoansSpec)) fnExactReadLoansUptoCard

/-- THE SECOND FORM's CARD OF 'laws.FnExactReadEntries'. -/
def fnExactReadEntriesUptoCard : Claim7 := { stood := { row := fnExactReadEntriesUptoRow, standIns := [], harness := (true, "f12ea987a0bacf234790c56d27f048306aa0d2be619b8dcc3658f9b664950ba4"), looks := false }, kinds := [], alts := [], laidByText := true, laidKinds := [.data, .data, .data], laidTests := true, laidLooks := .later }
def FnExactReadEntriesUptoCardSaid : Prop := Claim7.holds Tryd.pinned (.plain (OpenSpec.upto fnExactReadEntriesSpec)) fnExactReadEntriesUptoCard

/-- THE SECOND FORM's CARD OF 'laws.FnExactReadProgram'. -/
def fnExactReadProgramUptoCard : Claim7 := { stood := { row := fnExactReadProgramUptoRow, standIns := [], harness := (true, "f12ea987a0bacf234790c56d27f048306aa0d2be619b8dcc3658f9b664950ba4"), looks := false }, kinds := [], alts := [], laidByText := true, laidKinds := [.data, .data, .data], laidTests := true, laidLooks := .later }
def FnExactReadProgramUptoCardSaid : Prop := Claim7.holds Tryd.pinned (.plain (OpenSpec.upto fnExactReadProgramSpec)) fnExactReadProgramUptoCard

/-- THE SECOND FORM's CARD OF 'laws.FnExactCheckProgram'. -/
def fnExactCheckProgramUptoCard : Claim7 := { stood := { row := fnExactCheckProgramUptoRow, standIns := [], harness := (true, "f12ea987a0bacf234790c56d27f048306aa0d2be619b8dcc3658f9b664950ba4"), looks := false }, kinds := [], alts := [], laidByText := true, laidKinds := [.data, .data, .data], laidTests := true, laidLooks := .later }
def FnExactCheckProgramUptoCardSaid : Prop := Claim7.holds Tryd.pinned (.plain (OpenSpec.upto fnExactCheckProgramSpec)) fnExactCheckProgramUptoCard
end Rows
end Go.Proofs.YtjkjlpjeamifbaaDoor
