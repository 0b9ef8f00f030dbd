/-
  DERIVED. GIVEN WITH THE SEED: THE CARDS: each row of YtiddhelabmaghaaDoorRows.lean that lists a variable, with what it lists TIED to the program's text (the seventh form; the later family's looks); each row that meets fmt, with fmt's text TOLD by the authors' own Lean function (tested against real Go, not proved from fmt's source: count such statements apart). THE CARD IS WHAT COUNTS. Prove the row's statement (the work); the ties are given (YtiddhelabmaghaaDoorTie.lean); close each card by the builder's one call (the guide's Derived/Test/ToyasCard.lean, 'card_holds'). Laid BY PROGRAM, IN A SANDBOX (cutbox-door.mjs). By AI agents, Wed Nov 11 2026. No macro, syntax, notation, axiom, sorry.
-/
import Derived.Test.YtiddhelabmaghaaDoorRows
import GoSem.ClaimSeven
namespace Go.Proofs.YtiddhelabmaghaaDoor
namespace Rows

/-- THE TIED CARD OF 'laws.FnExactReadLoans'. -/
def fnExactReadLoansCard : Claim7 := { stood := { row := fnExactReadLoansRow, standIns := [], harness := (true, "a7d5f67a25b64782a3e5c9a0f2856798bbb7e56893d787973cf9c8fb39e1d59f"), looks := false }, kinds := [], alts := [], laidByText := true, laidKinds := [.data, .data, .data], laidTests := true, laidLooks := .later }
def FnExactReadLoansCardSaid : Prop := Claim7.holds Tryd.pinned (.plain (OpenSpec.ofChange fnExactReadLoansSpec)) fnExactReadLoansCard

/-- THE TIED CARD OF 'laws.FnExactReadEntries'. -/
def fnExactReadEntriesCard : Claim7 := { stood := { row := fnExactReadEntriesRow, standIns := [], harness := (true, "a7d5f67a25b64782a3e5c9a0f2856798bbb7e56893d787973cf9c8fb39e1d59f"), looks := false }, kinds := [], alts := [], laidByText := true, laidKinds := [.data, .data, .data], laidTests := true, laidLooks := .later }
def FnExactReadEntriesCardSaid : Prop := Claim7.holds Tryd.pinned (.plain (OpenSpec.ofChange fnExactReadEntriesSpec)) fnExactReadEntriesCard

/-- THE TIED CARD OF 'laws.FnPrograms'. -/
def fnProgramsCard : Claim7 := { stood := { row := fnProgramsRow, standIns := [], harness := (true, "a7d5f67a25b64782a3e5c9a0f2856798bbb7e56893d787973cf9c8fb39e1d59f"), looks := false }, kinds := [], alts := [], laidByText := true, laidKinds := [.data, .data, .data], laidTests := true, laidLooks := .later }
def FnProgramsCardSaid : Prop := Claim7.holds Tryd.pinned (.plain (OpenSpec.ofChange fnProgramsSpec)) fnProgramsCard

/-- THE TIED CARD OF 'laws.FnLoans'. -/
def fnLoansCard : Claim7 := { stood := { row := fnLoansRow, standIns := [], harness := (true, "a7d5f67a25b64782a3e5c9a0f2856798bbb7e56893d787973cf9c8fb39e1d59f"), looks := false }, kinds := [], alts := [], laidByText := true, laidKinds := [.data, .data, .data], laidTests := true, laidLooks := .later }
def FnLoansCardSaid : Prop := Claim7.holds Tryd.pinned (.plain (OpenSpec.ofChange fnLoansSpec)) fnLoansCard

/-- THE SECOND FORM's CARD OF 'laws.FnExactReadLoans'. -/
def fnExactReadLoansUptoCard : Claim7 := { stood := { row := fnExactReadLoansUptoRow, standIns := [], harness := (true, "a7d5f67a25b64782a3e5c9a0f2856798bbb7e56893d787973cf9c8fb39e1d59f"), looks := false }, kinds := [], alts := [], laidByText := true, laidKinds := [.data, .data, .data], laidTests := true, laidLooks := .later }
def FnExactReadLoansUptoCardSaid : Prop := Claim7.holds Tryd.pinned (.plain (OpenSpec.upto fnExactReadLoansSpec)) fnExactReadLoansUptoCard

/-- THE SECOND FORM's CARD OF 'laws.FnExactReadEntries'. -/
def fnExactReadEntriesUptoCard : Claim7 := { stood := { row := fnExactReadEntriesUptoRow, standIns := [], harness := (true, "a7d5f67a25b64782a3e5c9a0f2856798bbb7e56893d787973cf9c8fb39e1d59f"), looks := false }, kinds := [], alts := [], laidByText := true, laidKinds := [.data, .data, .data], laidTests := true, laidLooks := .later }
def FnExactReadEntriesUptoCardSaid : Prop := Claim7.holds Tryd.pinned (.plain (OpenSpec.upto fnExactReadEntriesSpec)) fnExactReadEntriesUptoCard

/-- THE SECOND FORM's CARD OF 'laws.FnPrograms'. -/
def fnProgramsUptoCard : Claim7 := { stood := { row := fnProgramsUptoRow, standIns := [], harness := (true, "a7d5f67a25b64782a3e5c9a0f2856798bbb7e56893d787973cf9c8fb39e1d59f"), looks := false }, kinds := [], alts := [], laidByText := true, laidKinds := [.data, .data, .data], laidTests := true, laidLooks := .later }
def FnProgramsUptoCardSaid : Prop := Claim7.holds Tryd.pinned (.plain (OpenSpec.upto fnProgramsSpec)) fnProgramsUptoCard

/-- THE SECOND FORM's CARD OF 'laws.FnLoans'. -/
def fnLoansUptoCard : Claim7 := { stood := { row := fnLoansUptoRow, standIns := [], harness := (true, "a7d5f67a25b64782a3e5c9a0f2856798bbb7e56893d787973cf9c8fb39e1d59f"), looks := false }, kinds := [], alts := [], laidByText := true, laidKinds := [.data, .data, .data], laidTests := true, laidLooks := .later }
def FnLoansUptoCardSaid : Prop := Claim7.holds Tryd.pinned (.plain (OpenSpec.upto fnLoansSpec)) fnLoansUptoCard
end Rows
end Go.Proofs.YtiddhelabmaghaaDoor
