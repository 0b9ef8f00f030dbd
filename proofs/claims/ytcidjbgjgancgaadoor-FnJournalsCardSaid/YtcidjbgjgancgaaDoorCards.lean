/-
  DERIVED. GIVEN WITH THE SEED: THE CARDS: each row of YtcidjbgjgancgaaDoorRows.lean that lists a variable, with what it lists TIED to the program's text (the seventh form; the later family's looks); each row that meets fmt, with fmt's text TOLD by the authors' own Lean function (tested against real Go, not proved from fmt's source: count such statements apart). THE CARD IS WHAT COUNTS. Prove the row's statement (the work); the ties are given (YtcidjbgjgancgaaDoorTie.lean); close each card by the builder's one call (the guide's Derived/Test/ToyasCard.lean, 'card_holds'). Laid BY PROGRAM, IN A SANDBOX (cutbox-door.mjs). By AI agents, Wed Nov 11 2026. No macro, syntax, notation, axiom, sorry.
-/
import Derived.Test.YtcidjbgjgancgaaDoorRows
import GoSem.ClaimSeven
namespace Go.Proofs.YtcidjbgjgancgaaDoor
namespace Rows

/-- THE TIED CARD OF 'laws.FnExactCheckJournal'. -/
def fnExactCheckJournalCard : Claim7 := { stood := { row := fnExactCheckJournalRow, standIns := [], harness := (true, "45f1dab1916079f429cf2fcaf7cd202f896e3f069148cc2a48bef481868b5bec"), looks := false }, kinds := [], alts := [], laidByText := true, laidKinds := [.data, .data, .data], laidTests := true, laidLooks := .later }
def FnExactCheckJournalCardSaid : Prop := Claim7.holds Tryd.pinned (.plain (OpenSpec.ofChange fnExactCheckJournalSpec)) fnExactCheckJournalCard

/-- THE TIED CARD OF 'laws.FnExactRecoverJournal'. -/
def fnExactRecoverJournalCard : Claim7 := { stood := { row := fnExactRecoverJournalRow, standIns := [], harness := (true, "45f1dab1916079f429cf2fcaf7cd202f896e3f069148cc2a48bef481868b5bec"), looks := false }, kinds := [], alts := [], laidByText := true, laidKinds := [.data, .data, .data], laidTests := true, laidLooks := .later }
def FnExactRecoverJournalCardSaid : Prop := Claim7.holds Tryd.pinned (.plain (OpenSpec.ofChange fnExactRecoverJournalSpec)) fnExactRecoverJournalCard

/-- THE TIED CARD OF 'laws.FnExactJournalOf'. -/
def fnExactJournalOfCard : Claim7 := { stood := { row := fnExactJournalOfRow, standIns := [], harness := (true, "45f1dab1916079f429cf2fcaf7cd202f896e3f069148cc2a48bef481868b5bec"), looks := false }, kinds := [], alts := [], laidByText := true, laidKinds := [.data, .data, .data], laidTests := true, laidLooks := .later }
def FnExactJournalOfCardSaid : Prop := Claim7.holds Tryd.pinned (.plain (OpenSpec.ofChange fnExactJournalOfSpec)) fnExactJournalOfCard

/-- THE TIED CARD OF 'laws.FnExactAppendNote'. -/
def fnExactAppendNoteCard : Claim7 := { stood := { row := fnExactAppendNoteRow, standIns := [], harness := (true, "45f1dab1916079f429cf2fcaf7cd202f896e3f069148cc2a48bef481868b5bec"), looks := false }, kinds := [], alts := [], laidByText := true, laidKinds := [.data, .data, .data], laidTests := true, laidLooks := .later }
def FnExactAppendNoteCardSaid : Prop := Claim7.holds Tryd.pinned (.plain (OpenSpec.ofChange fnExactAppendNoteSpec)) fnExactAppendNoteCard

/-- THE TIED CARD OF 'laws.FnExactNotesOf'. -/
def fnExactNotesOfCard : Claim7 := { stood := { row := fnExactNotesOfRow, standIns := [], harness := (true, "45f1dab1916079f429cf2fcaf7cd202f896e3f069148cc2a48bef481868b5bec"), looks := false }, kinds := [], alts := [], laidByText := true, laidKinds := [.data, .data, .data], laidTests := true, laidLooks := .later }
def FnExactNotesOfCardSaid : Prop := Claim7.holds Tryd.pinned (.plain (OpenSpec.ofChange fnExactNotesOfSpec)) fnExactNotesOfCard

/-- THE TIED CARD OF 'laws.FnExactCompactJournal'. -/
def fnExactCompactJournalCard : Claim7 := { stood := { row := fnExactCompactJournalRow, standIns := [], harness := (true, "45f1dab1916079f429cf2fcaf7cd202f896e3f069148cc2a48bef481868b5bec"), looks := false }, kinds := [], alts := [], laidByText := true, laidKinds := [.data, .data, .data], laidTests := true, laidLooks := .later }
def FnExactCompactJournalCardSaid : Prop := Claim7.holds Tryd.pinned (.plain (OpenSpec.ofChange fnExactCompactJournalSpec)) fnExactCompactJournalCard

/-- THE TIED CARD OF 'laws.FnJournals'. -/
def fnJournalsCard : Claim7 := { stood := { row := fnJournalsRow, standIns := [], harness := (true, "45f1dab1916079f429cf2fcaf7cd202f896e3f069148cc2a48bef481868b5bec"), looks := false }, kinds := [], alts := [], laidByText := true, laidKinds := [.data, .data, .data], laidTests := true, laidLooks := .later }
def FnJournalsCardSaid : Prop := Claim7.holds Tryd.pinned (.plain (OpenSpec.ofChange fnJournalsSpec)) fnJournalsCard

/-- THE SECOND FORM's CARD OF 'laws.FnExactCheckJournal'. -/
def fnExactCheckJournalUptoCard : Claim7 := { stood := { row := fnExactCheckJournalUptoRow, standIns := [], harness := (true, "45f1dab1916079f429cf2fcaf7cd202f896e3f069148cc2a48bef481868b5bec"), looks := false }, kinds := [], alts := [], laidByText := true, laidKinds := [.data, .data, .data], laidTests := true, laidLooks := .later }
def FnExactCheckJournalUptoCardSaid : Prop := Claim7.holds Tryd.pinned (.plain (OpenSpec.upto fnExactCheckJournalSpec)) fnExactCheckJournalUptoCard

/-- THE SECOND FORM's CARD OF 'laws.FnExactRecoverJournal'. -/
def fnExactRecoverJournalUptoCard : Claim7 := { stood := { row := fnExactRecoverJournalUptoRow, standIns := [], harness := (true, "45f1dab1916079f429cf2fcaf7cd202f896e3f069148cc2a48bef481868b5bec"), looks := false }, kinds := [], alts := [], laidByText := true, laidKinds := [.data, .data, .data], laidTests := true, laidLooks := .later }
def FnExactRecoverJournalUptoCardSaid : Prop := Claim7.holds Tryd.pinned (.plain (OpenSpec.upto fnExactRecoverJournalSpec)) fnExactRecoverJournalUptoCard

/-- THE SECOND FORM's CARD OF 'laws.FnExactJournalOf'. -/
def fnExactJournalOfUptoCard : Claim7 := { stood := { row := fnExactJournalOfUptoRow, standIns := [], harness := (true, "45f1dab1916079f429cf2fcaf7cd202f896e3f069148cc2a48bef481868b5bec"), looks := false }, kinds := [], alts := [], laidByText := true, laidKinds := [.data, .data, .data], laidTests := true, laidLooks := .later }
def FnExactJournalOfUptoCardSaid : Prop := Claim7.holds Tryd.pinned (.plain (OpenSpec.upto fnExactJournalOfSpec)) fnExactJournalOfUptoCard

/-- THE SECOND FORM's CARD OF 'laws.FnExactAppendNote'. -/
def fnExactAppendNoteUptoCard : Claim7 := { stood := { row := fnExactAppendNoteUptoRow, standIns := [], harness := (true, "45f1dab1916079f429cf2fcaf7cd202f896e3f069148cc2a48bef481868b5bec"), looks := false }, kinds := [], alts := [], laidByText := true, laidKinds := [.data, .data, .data], laidTests := true, laidLooks := .later }
def FnExactAppendNoteUptoCardSaid : Prop := Claim7.holds Tryd.pinned (.plain (OpenSpec.upto fnExactAppendNoteSpec)) fnExactAppendNoteUptoCard

/-- THE SECOND FORM's CARD OF 'laws.FnExactNotesOf'. -/
def fnExactNotesOfUptoCard : Claim7 := { stood := { row := fnExactNotesOfUptoRow, standIns := [], harness := (true, "45f1dab1916079f429cf2fcaf7cd202f896e3f069148cc2a48bef481868b5bec"), looks := false }, kinds := [], alts := [], laidByText := true, laidKinds := [.data, .data, .data], laidTests := true, laidLooks := .later }
def FnExactNotesOfUptoCardSaid : Prop := Claim7.holds Tryd.pinned (.plain (OpenSpec.upto fnExactNotesOfSpec)) fnExactNotesOfUptoCard

/-- THE SECOND FORM's CARD OF 'laws.FnExactCompactJournal'. -/
def fnExactCompactJournalUptoCard : Claim7 := { stood := { row := fnExactCompactJournalUptoRow, standIns := [], harness := (true, "45f1dab1916079f429cf2fcaf7cd202f896e3f069148cc2a48bef481868b5bec"), looks := false }, kinds := [], alts := [], laidByText := true, laidKinds := [.data, .data, .data], laidTests := true, laidLooks := .later }
def FnExactCompactJournalUptoCardSaid : Prop := Claim7.holds Tryd.pinned (.plain (OpenSpec.upto fnExactCompactJournalSpec)) fnExactCompactJournalUptoCard

/-- THE SECOND FORM's CARD OF 'laws.FnJournals'. -/
def fnJournalsUptoCard : Claim7 := { stood := { row := fnJournalsUptoRow, standIns := [], harness := (true, "45f1dab1916079f429cf2fcaf7cd202f896e3f069148cc2a48bef481868b5bec"), looks := false }, kinds := [], alts := [], laidByText := true, laidKinds := [.data, .data, .data], laidTests := true, laidLooks := .later }
def FnJournalsUptoCardSaid : Prop := Claim7.holds Tryd.pinned (.plain (OpenSpec.upto fnJournalsSpec)) fnJournalsUptoCard
end Rows
end Go.Proofs.YtcidjbgjgancgaaDoor
