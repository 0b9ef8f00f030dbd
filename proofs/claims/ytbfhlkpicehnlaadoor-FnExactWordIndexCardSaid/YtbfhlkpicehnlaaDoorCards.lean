/-
  DERIVED. GIVEN WITH THE SEED: THE CARDS: each row of YtbfhlkpicehnlaaDoorRows.lean that lists a variable, with what it lists TIED to the program's text (the seventh form; the later family's looks); each row that meets fmt, with fmt's text TOLD by the authors' own Lean function (tested against real Go, not proved from fmt's source: count such statements apart). THE CARD IS WHAT COUNTS. Prove the row's statement (the work); the ties are given (YtbfhlkpicehnlaaDoorTie.lean); close each card by the builder's one call (the guide's Derived/Test/ToyasCard.lean, 'card_holds'). Laid BY PROGRAM, IN A SANDBOX (cutbox-door.mjs). By AI agents, Wed Nov 11 2026. No macro, syntax, notation, axiom, sorry.
-/
import Derived.Test.YtbfhlkpicehnlaaDoorRows
import GoSem.ClaimSeven
namespace Go.Proofs.YtbfhlkpicehnlaaDoor
namespace Rows

/-- THE TIED CARD OF 'laws.FnExactWordIndex'. -/
def fnExactWordIndexCard : Claim7 := { stood := { row := fnExactWordIndexRow, standIns := [], harness := (true, "cb7b06e9db6e2cca507b236907dbbafd97c148ad8f11096cda07c7e8c8f06d8c"), looks := false }, kinds := [], alts := [], laidByText := true, laidKinds := [.data, .data, .data], laidTests := true, laidLooks := .later }
def FnExactWordIndexCardSaid : Prop := Claim7.holds Tryd.pinned (.plain (OpenSpec.ofChange fnExactWordIndexSpec)) fnExactWordIndexCard

/-- THE SECOND FORM's CARD OF 'laws.FnExactWordIndex'. -/
def fnExactWordIndexUptoCard : Claim7 := { stood := { row := fnExactWordIndexUptoRow, standIns := [], harness := (true, "cb7b06e9db6e2cca507b236907dbbafd97c148ad8f11096cda07c7e8c8f06d8c"), looks := false }, kinds := [], alts := [], laidByText := true, laidKinds := [.data, .data, .data], laidTests := true, laidLooks := .later }
def FnExactWordIndexUptoCardSaid : Prop := Claim7.holds Tryd.pinned (.plain (OpenSpec.upto fnExactWordIndexSpec)) fnExactWordIndexUptoCard
end Rows
end Go.Proofs.YtbfhlkpicehnlaaDoor
