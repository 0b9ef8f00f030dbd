/-
  DERIVED. GIVEN WITH THE SEED: THE CARDS: each row of YtmheijnckmlbnaaDoorRows.lean that lists a variable, with what it lists TIED to the program's text (the seventh form; the later family's looks); each row that meets fmt, with fmt's text TOLD by the authors' own Lean function (tested against real Go, not proved from fmt's source: count such statements apart). THE CARD IS WHAT COUNTS. Prove the row's statement (the work); the ties are given (YtmheijnckmlbnaaDoorTie.lean); close each card by the builder's one call (the guide's Derived/Test/ToyasCard.lean, 'card_holds'). Laid BY PROGRAM, IN A SANDBOX (cutbox-door.mjs). By AI agents, Wed Nov 11 2026. No macro, syntax, notation, axiom, sorry.
-/
import Derived.Test.YtmheijnckmlbnaaDoorRows
import GoSem.ClaimSeven
namespace Go.Proofs.YtmheijnckmlbnaaDoor
namespace Rows

/-- THE TIED CARD OF 'laws.FnLoans'. -/
def fnLoansCard : Claim7 := { stood := { row := fnLoansRow, standIns := [], harness := (true, "8dfaacf02f8cbe714af89a5b8ea6b46c86b1722bb16542068fbcaa74c41156ef"), looks := false }, kinds := [], alts := [], laidByText := true, laidKinds := [.data, .data, .data], laidTests := true, laidLooks := .later }
def FnLoansCardSaid : Prop := Claim7.holds Tryd.pinned (.plain (OpenSpec.ofChange fnLoansSpec)) fnLoansCard

/-- THE TIED CARD OF 'laws.FnExactFindEntries'. -/
def fnExactFindEntriesCard : Claim7 := { stood := { row := fnExactFindEntriesRow, standIns := [], harness := (true, "8dfaacf02f8cbe714af89a5b8ea6b46c86b1722bb16542068fbcaa74c41156ef"), looks := false }, kinds := [], alts := [], laidByText := true, laidKinds := [.data, .data, .data], laidTests := true, laidLooks := .later }
def FnExactFindEntriesCardSaid : Prop := Claim7.holds Tryd.pinned (.plain (OpenSpec.ofChange fnExactFindEntriesSpec)) fnExactFindEntriesCard

/-- THE TIED CARD OF 'laws.FnExactWordIndex'. -/
def fnExactWordIndexCard : Claim7 := { stood := { row := fnExactWordIndexRow, standIns := [], harness := (true, "8dfaacf02f8cbe714af89a5b8ea6b46c86b1722bb16542068fbcaa74c41156ef"), looks := false }, kinds := [], alts := [], laidByText := true, laidKinds := [.data, .data, .data], laidTests := true, laidLooks := .later }
def FnExactWordIndexCardSaid : Prop := Claim7.holds Tryd.pinned (.plain (OpenSpec.ofChange fnExactWordIndexSpec)) fnExactWordIndexCard

/-- THE SECOND FORM's CARD OF 'laws.FnLoans'. -/
def fnLoansUptoCard : Claim7 := { stood := { row := fnLoansUptoRow, standIns := [], harness := (true, "8dfaacf02f8cbe714af89a5b8ea6b46c86b1722bb16542068fbcaa74c41156ef"), looks := false }, kinds := [], alts := [], laidByText := true, laidKinds := [.data, .data, .data], laidTests := true, laidLooks := .later }
def FnLoansUptoCardSaid : Prop := Claim7.holds Tryd.pinned (.plain (OpenSpec.upto fnLoansSpec)) fnLoansUptoCard

/-- THE SECOND FORM's CARD OF 'laws.FnExactFindEntries'. -/
def fnExactFindEntriesUptoCard : Claim7 := { stood := { row := fnExactFindEntriesUptoRow, standIns := [], harness := (true, "8dfaacf02f8cbe714af89a5b8ea6b46c86b1722bb16542068fbcaa74c41156ef"), looks := false }, kinds := [], alts := [], laidByText := true, laidKinds := [.data, .data, .data], laidTests := true, laidLooks := .later }
def FnExactFindEntriesUptoCardSaid : Prop := Claim7.holds Tryd.pinned (.plain (OpenSpec.upto fnExactFindEntriesSpec)) fnExactFindEntriesUptoCard

/-- THE SECOND FORM's CARD OF 'laws.FnExactWordIndex'. -/
def fnExactWordIndexUptoCard : Claim7 := { stood := { row := fnExactWordIndexUptoRow, standIns := [], harness := (true, "8dfaacf02f8cbe714af89a5b8ea6b46c86b1722bb16542068fbcaa74c41156ef"), looks := false }, kinds := [], alts := [], laidByText := true, laidKinds := [.data, .data, .data], laidTests := true, laidLooks := .later }
def FnExactWordIndexUptoCardSaid : Prop := Claim7.holds Tryd.pinned (.plain (OpenSpec.upto fnExactWordIndexSpec)) fnExactWordIndexUptoCard
end Rows
end Go.Proofs.YtmheijnckmlbnaaDoor
