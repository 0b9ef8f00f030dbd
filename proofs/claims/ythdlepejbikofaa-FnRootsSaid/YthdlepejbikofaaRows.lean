/-
  No cell of these rows narrows 'for every input' (looked for: loops, veiled, ifaces, maps, wideKeys, modest, calm, conditions, laid).
  DERIVED. THE GIVEN ROWS OF THIS SEAT. 9 by the template 'for every input the law returns true; each argument reads behind the call as it read before'; 0 by the template 'total and deterministic' (their statements: YthdlepejbikofaaTotals.lean).
  GIVEN WITH THE SEED: the statements are not yours to turn. If you find one false, say at which input.
  Laid BY PROGRAM, IN A SANDBOX (cutbox-rows.mjs): the forced cells as the released guide's own fill.sh prints them over the translation 0b83b4b35c869b21… (all of the seat's roots in one cut). By AI agents, Wed Nov 11 2026. No macro, syntax, notation, axiom, sorry.
-/
import Derived.Test.YthdlepejbikofaaChecked
import GoSem.Claim
import GoSem.ClaimJoined
import GoSem.ClaimMapViews
import Derived.JoinedTies
import Derived.KernelRfl
namespace Go.Proofs.Ythdlepejbikofaa
/- THE CELL 'sum', in the pinned program and in every row, IS THE sha256 OF THE DUMP (.gsa) THAT YthdlepejbikofaaProg.lean LOADS. Nothing in Lean hashes anything: it is a label: what it is worth is what the hold of that sum in a sandbox is worth. -/
noncomputable def Try.pinned : Pinned := { name := "ythdlepejbikofaa", sum := "0b83b4b35c869b21a3468b4536e1ded3a85572d7b8129d30630f0e4e930252fe", checked := Try.checked }
namespace Rows
def none {H : Type} : Left H := { results := [], args := [] }

/-- 'laws.FnExactHexOf': WHATEVER THE INPUT: true; the input reads as it did. -/
def fnExactHexOfSpec : ChangeSpec := { name := "fnExactHexOf", fn := fun _ => fun
  | [d] => { results := [.lit (.bool true)], args := [d] }
  | _ => none }
def fnExactHexOfRow : OpenClaim := { program := "ythdlepejbikofaa", sum := "0b83b4b35c869b21a3468b4536e1ded3a85572d7b8129d30630f0e4e930252fe", func := "loop.example/g00930/laws.FnExactHexOf", spec := "fnExactHexOf", apart := false }
def FnExactHexOfSaid : Prop := fnExactHexOfRow.holds Try.pinned (OpenSpec.ofChange fnExactHexOfSpec)

/-- ITS FALSE NEIGHBOUR: 'it returns false'. Refute it at one input. -/
def fnExactHexOfWrong : ChangeSpec := { name := "fnExactHexOf", fn := fun _ => fun
  | [d] => { results := [.lit (.bool false)], args := [d] }
  | _ => none }
def FnExactHexOfWrongFalsely : Prop := fnExactHexOfRow.holds Try.pinned (OpenSpec.ofChange fnExactHexOfWrong)

/-- 'laws.FnExactSumOfBytes': WHATEVER THE INPUT: true; the input reads as it did. -/
def fnExactSumOfBytesSpec : ChangeSpec := { name := "fnExactSumOfBytes", fn := fun _ => fun
  | [d] => { results := [.lit (.bool true)], args := [d] }
  | _ => none }
def fnExactSumOfBytesRow : OpenClaim := { program := "ythdlepejbikofaa", sum := "0b83b4b35c869b21a3468b4536e1ded3a85572d7b8129d30630f0e4e930252fe", func := "loop.example/g00930/laws.FnExactSumOfBytes", spec := "fnExactSumOfBytes", apart := false }
def FnExactSumOfBytesSaid : Prop := fnExactSumOfBytesRow.holds Try.pinned (OpenSpec.ofChange fnExactSumOfBytesSpec)

/-- ITS FALSE NEIGHBOUR: 'it returns false'. Refute it at one input. -/
def fnExactSumOfBytesWrong : ChangeSpec := { name := "fnExactSumOfBytes", fn := fun _ => fun
  | [d] => { results := [.lit (.bool false)], args := [d] }
  | _ => none }
def FnExactSumOfBytesWrongFalsely : Prop := fnExactSumOfBytesRow.holds Try.pinned (OpenSpec.ofChange fnExactSumOfBytesWrong)

/-- 'laws.FnExactSessionFaultName': WHATEVER THE INPUT: true; the input reads as it did. -/
def fnExactSessionFaultNameSpec : ChangeSpec := { name := "fnExactSessionFaultName", fn := fun _ => fun
  | [d] => { results := [.lit (.bool true)], args := [d] }
  | _ => none }
def fnExactSessionFaultNameRow : OpenClaim := { program := "ythdlepejbikofaa", sum := "0b83b4b35c869b21a3468b4536e1ded3a85572d7b8129d30630f0e4e930252fe", func := "loop.example/g00930/laws.FnExactSessionFaultName", spec := "fnExactSessionFaultName", apart := false }
def FnExactSessionFaultNameSaid : Prop := fnExactSessionFaultNameRow.holds Try.pinned (OpenSpec.ofChange fnExactSessionFaultNameSpec)

/-- ITS FALSE NEIGHBOUR: 'it returns false'. Refute it at one input. -/
def fnExactSessionFaultNameWrong : ChangeSpec := { name := "fnExactSessionFaultName", fn := fun _ => fun
  | [d] => { results := [.lit (.bool false)], args := [d] }
  | _ => none }
def FnExactSessionFaultNameWrongFalsely : Prop := fnExactSessionFaultNameRow.holds Try.pinned (OpenSpec.ofChange fnExactSessionFaultNameWrong)

/-- 'laws.FnExactCutPower': WHATEVER THE INPUT: true; the input reads as it did. -/
def fnExactCutPowerSpec : ChangeSpec := { name := "fnExactCutPower", fn := fun _ => fun
  | [d1, d2] => { results := [.lit (.bool true)], args := [d1, d2] }
  | _ => none }
def fnExactCutPowerRow : OpenClaim := { program := "ythdlepejbikofaa", sum := "0b83b4b35c869b21a3468b4536e1ded3a85572d7b8129d30630f0e4e930252fe", func := "loop.example/g00930/laws.FnExactCutPower", spec := "fnExactCutPower", apart := false }
def FnExactCutPowerSaid : Prop := fnExactCutPowerRow.holds Try.pinned (OpenSpec.ofChange fnExactCutPowerSpec)

/-- ITS FALSE NEIGHBOUR: 'it returns false'. Refute it at one input. -/
def fnExactCutPowerWrong : ChangeSpec := { name := "fnExactCutPower", fn := fun _ => fun
  | [d1, d2] => { results := [.lit (.bool false)], args := [d1, d2] }
  | _ => none }
def FnExactCutPowerWrongFalsely : Prop := fnExactCutPowerRow.holds Try.pinned (OpenSpec.ofChange fnExactCutPowerWrong)

/-- 'laws.FnExactNoteSum': WHATEVER THE INPUT: true; the input reads as it did. -/
def fnExactNoteSumSpec : ChangeSpec := { name := "fnExactNoteSum", fn := fun _ => fun
  | [d1, d2, d3] => { results := [.lit (.bool true)], args := [d1, d2, d3] }
  | _ => none }
def fnExactNoteSumRow : OpenClaim := { program := "ythdlepejbikofaa", sum := "0b83b4b35c869b21a3468b4536e1ded3a85572d7b8129d30630f0e4e930252fe", func := "loop.example/g00930/laws.FnExactNoteSum", spec := "fnExactNoteSum", apart := false }
def FnExactNoteSumSaid : Prop := fnExactNoteSumRow.holds Try.pinned (OpenSpec.ofChange fnExactNoteSumSpec)

/-- ITS FALSE NEIGHBOUR: 'it returns false'. Refute it at one input. -/
def fnExactNoteSumWrong : ChangeSpec := { name := "fnExactNoteSum", fn := fun _ => fun
  | [d1, d2, d3] => { results := [.lit (.bool false)], args := [d1, d2, d3] }
  | _ => none }
def FnExactNoteSumWrongFalsely : Prop := fnExactNoteSumRow.holds Try.pinned (OpenSpec.ofChange fnExactNoteSumWrong)

/-- 'laws.FnExactDeskWords': WHATEVER THE INPUT: true; the input reads as it did. -/
def fnExactDeskWordsSpec : ChangeSpec := { name := "fnExactDeskWords", fn := fun _ => fun
  | [] => { results := [.lit (.bool true)], args := [] }
  | _ => none }
def fnExactDeskWordsRow : OpenClaim := { program := "ythdlepejbikofaa", sum := "0b83b4b35c869b21a3468b4536e1ded3a85572d7b8129d30630f0e4e930252fe", func := "loop.example/g00930/laws.FnExactDeskWords", spec := "fnExactDeskWords", apart := false }
def FnExactDeskWordsSaid : Prop := fnExactDeskWordsRow.holds Try.pinned (OpenSpec.ofChange fnExactDeskWordsSpec)

/-- ITS FALSE NEIGHBOUR: 'it returns false'. Refute it at one input. -/
def fnExactDeskWordsWrong : ChangeSpec := { name := "fnExactDeskWords", fn := fun _ => fun
  | [] => { results := [.lit (.bool false)], args := [] }
  | _ => none }
def FnExactDeskWordsWrongFalsely : Prop := fnExactDeskWordsRow.holds Try.pinned (OpenSpec.ofChange fnExactDeskWordsWrong)

/-- 'laws.FnExactReadHex': WHATEVER THE INPUT: true; the input reads as it did. -/
def fnExactReadHexSpec : ChangeSpec := { name := "fnExactReadHex", fn := fun _ => fun
  | [d] => { results := [.lit (.bool true)], args := [d] }
  | _ => none }
def fnExactReadHexRow : OpenClaim := { program := "ythdlepejbikofaa", sum := "0b83b4b35c869b21a3468b4536e1ded3a85572d7b8129d30630f0e4e930252fe", func := "loop.example/g00930/laws.FnExactReadHex", spec := "fnExactReadHex", apart := false }
def FnExactReadHexSaid : Prop := fnExactReadHexRow.holds Try.pinned (OpenSpec.ofChange fnExactReadHexSpec)

/-- ITS FALSE NEIGHBOUR: 'it returns false'. Refute it at one input. -/
def fnExactReadHexWrong : ChangeSpec := { name := "fnExactReadHex", fn := fun _ => fun
  | [d] => { results := [.lit (.bool false)], args := [d] }
  | _ => none }
def FnExactReadHexWrongFalsely : Prop := fnExactReadHexRow.holds Try.pinned (OpenSpec.ofChange fnExactReadHexWrong)

/-- 'laws.FnSignals': WHATEVER THE INPUT: true; the input reads as it did. -/
def fnSignalsSpec : ChangeSpec := { name := "fnSignals", fn := fun _ => fun
  | [d1, d2] => { results := [.lit (.bool true)], args := [d1, d2] }
  | _ => none }
def fnSignalsRow : OpenClaim := { program := "ythdlepejbikofaa", sum := "0b83b4b35c869b21a3468b4536e1ded3a85572d7b8129d30630f0e4e930252fe", func := "loop.example/g00930/laws.FnSignals", spec := "fnSignals", apart := false }
def FnSignalsSaid : Prop := fnSignalsRow.holds Try.pinned (OpenSpec.ofChange fnSignalsSpec)

/-- ITS FALSE NEIGHBOUR: 'it returns false'. Refute it at one input. -/
def fnSignalsWrong : ChangeSpec := { name := "fnSignals", fn := fun _ => fun
  | [d1, d2] => { results := [.lit (.bool false)], args := [d1, d2] }
  | _ => none }
def FnSignalsWrongFalsely : Prop := fnSignalsRow.holds Try.pinned (OpenSpec.ofChange fnSignalsWrong)

/-- 'laws.FnRoots': WHATEVER THE INPUT: true; the input reads as it did. -/
def fnRootsSpec : ChangeSpec := { name := "fnRoots", fn := fun _ => fun
  | [d] => { results := [.lit (.bool true)], args := [d] }
  | _ => none }
def fnRootsRow : OpenClaim := { program := "ythdlepejbikofaa", sum := "0b83b4b35c869b21a3468b4536e1ded3a85572d7b8129d30630f0e4e930252fe", func := "loop.example/g00930/laws.FnRoots", spec := "fnRoots", apart := false }
def FnRootsSaid : Prop := fnRootsRow.holds Try.pinned (OpenSpec.ofChange fnRootsSpec)

/-- ITS FALSE NEIGHBOUR: 'it returns false'. Refute it at one input. -/
def fnRootsWrong : ChangeSpec := { name := "fnRoots", fn := fun _ => fun
  | [d] => { results := [.lit (.bool false)], args := [d] }
  | _ => none }
def FnRootsWrongFalsely : Prop := fnRootsRow.holds Try.pinned (OpenSpec.ofChange fnRootsWrong)

/- THE SECOND FORM. 'bulk': how many values and letters a reading holds, each counted each time it is reached (what is shared counts as often as it is met; a slice's spare places count too). A statement '..UptoSaid' is the law's where the arguments, and the package variables that the reading takes, are together of bulk at most 1048576: NARROWER than '..Said'. Prove '..Said' where nothing that the law and all that it calls make is longer than what came in: it says more and counts as full. Else prove '..UptoSaid'. A law counts once. -/
mutual
def uptoBulk {H : Type} : DataW H → Nat
  | .lit (.string bytes) => bytes.length + 1
  | .lit _ => 1
  | .nil => 1
  | .ptr d => uptoBulk d + 1
  | .slice elems spare => uptoBulkAll elems + uptoBulkAll spare + 1
  | .agg parts => uptoBulkAll parts + 1
  | .iface _ d => uptoBulk d + 1
  | .map entries => uptoBulkEntries entries + 1
  | .held _ => 1
def uptoBulkAll {H : Type} : List (DataW H) → Nat
  | [] => 0
  | d :: r => uptoBulk d + uptoBulkAll r
def uptoBulkEntries {H : Type} : List (Lit × DataW H) → Nat
  | [] => 0
  | x :: r => uptoBulkEntry x + uptoBulkEntries r
def uptoBulkEntry {H : Type} : Lit × DataW H → Nat
  | (.string bytes, d) => bytes.length + uptoBulk d + 1
  | (_, d) => uptoBulk d + 1
 end
def uptoSmall : (H : Type) → List (DataW H) → Bool := fun _ ds => decide (uptoBulkAll ds ≤ 1048576)
def OpenSpec.upto (s : _root_.Go.ChangeSpec) : _root_.Go.OpenSpec := { _root_.Go.OpenSpec.ofChange s with cond := some uptoSmall }

/-- 'laws.FnExactHexOf', WHERE WHAT IT READS IS OF BULK AT MOST 1048576: true; the input reads as it did. -/
def fnExactHexOfUptoRow : OpenClaim := { program := "ythdlepejbikofaa", sum := "0b83b4b35c869b21a3468b4536e1ded3a85572d7b8129d30630f0e4e930252fe", func := "loop.example/g00930/laws.FnExactHexOf", spec := "fnExactHexOf", apart := false, narrowed := true }
def FnExactHexOfUptoSaid : Prop := fnExactHexOfUptoRow.holds Try.pinned (OpenSpec.upto fnExactHexOfSpec)

/-- 'laws.FnExactSumOfBytes', WHERE WHAT IT READS IS OF BULK AT MOST 1048576: true; the input reads as it did. -/
def fnExactSumOfBytesUptoRow : OpenClaim := { program := "ythdlepejbikofaa", sum := "0b83b4b35c869b21a3468b4536e1ded3a85572d7b8129d30630f0e4e930252fe", func := "loop.example/g00930/laws.FnExactSumOfBytes", spec := "fnExactSumOfBytes", apart := false, narrowed := true }
def FnExactSumOfBytesUptoSaid : Prop := fnExactSumOfBytesUptoRow.holds Try.pinned (OpenSpec.upto fnExactSumOfBytesSpec)

/-- 'laws.FnExactSessionFaultName', WHERE WHAT IT READS IS OF BULK AT MOST 1048576: true; the input reads as it did. -/
def fnExactSessionFaultNameUptoRow : OpenClaim := { program := "ythdlepejbikofaa", sum := "0b83b4b35c869b21a3468b4536e1ded3a85572d7b8129d30630f0e4e930252fe", func := "loop.example/g00930/laws.FnExactSessionFaultName", spec := "fnExactSessionFaultName", apart := false, narrowed := true }
def FnExactSessionFaultNameUptoSaid : Prop := fnExactSessionFaultNameUptoRow.holds Try.pinned (OpenSpec.upto fnExactSessionFaultNameSpec)

/-- 'laws.FnExactCutPower', WHERE WHAT IT READS IS OF BULK AT MOST 1048576: true; the input reads as it did. -/
def fnExactCutPowerUptoRow : OpenClaim := { program := "ythdlepejbikofaa", sum := "0b83b4b35c869b21a3468b4536e1ded3a85572d7b8129d30630f0e4e930252fe", func := "loop.example/g00930/laws.FnExactCutPower", spec := "fnExactCutPower", apart := false, narrowed := true }
def FnExactCutPowerUptoSaid : Prop := fnExactCutPowerUptoRow.holds Try.pinned (OpenSpec.upto fnExactCutPowerSpec)

/-- 'laws.FnExactNoteSum', WHERE WHAT IT READS IS OF BULK AT MOST 1048576: true; the input reads as it did. -/
def fnExactNoteSumUptoRow : OpenClaim := { program := "ythdlepejbikofaa", sum := "0b83b4b35c869b21a3468b4536e1ded3a85572d7b8129d30630f0e4e930252fe", func := "loop.example/g00930/laws.FnExactNoteSum", spec := "fnExactNoteSum", apart := false, narrowed := true }
def FnExactNoteSumUptoSaid : Prop := fnExactNoteSumUptoRow.holds Try.pinned (OpenSpec.upto fnExactNoteSumSpec)

/-- 'laws.FnExactDeskWords', WHERE WHAT IT READS IS OF BULK AT MOST 1048576: true; the input reads as it did. -/
def fnExactDeskWordsUptoRow : OpenClaim := { program := "ythdlepejbikofaa", sum := "0b83b4b35c869b21a3468b4536e1ded3a85572d7b8129d30630f0e4e930252fe", func := "loop.example/g00930/laws.FnExactDeskWords", spec := "fnExactDeskWords", apart := false, narrowed := true }
def FnExactDeskWordsUptoSaid : Prop := fnExactDeskWordsUptoRow.holds Try.pinned (OpenSpec.upto fnExactDeskWordsSpec)

/-- 'laws.FnExactReadHex', WHERE WHAT IT READS IS OF BULK AT MOST 1048576: true; the input reads as it did. -/
def fnExactReadHexUptoRow : OpenClaim := { program := "ythdlepejbikofaa", sum := "0b83b4b35c869b21a3468b4536e1ded3a85572d7b8129d30630f0e4e930252fe", func := "loop.example/g00930/laws.FnExactReadHex", spec := "fnExactReadHex", apart := false, narrowed := true }
def FnExactReadHexUptoSaid : Prop := fnExactReadHexUptoRow.holds Try.pinned (OpenSpec.upto fnExactReadHexSpec)

/-- 'laws.FnSignals', WHERE WHAT IT READS IS OF BULK AT MOST 1048576: true; the input reads as it did. -/
def fnSignalsUptoRow : OpenClaim := { program := "ythdlepejbikofaa", sum := "0b83b4b35c869b21a3468b4536e1ded3a85572d7b8129d30630f0e4e930252fe", func := "loop.example/g00930/laws.FnSignals", spec := "fnSignals", apart := false, narrowed := true }
def FnSignalsUptoSaid : Prop := fnSignalsUptoRow.holds Try.pinned (OpenSpec.upto fnSignalsSpec)

/-- 'laws.FnRoots', WHERE WHAT IT READS IS OF BULK AT MOST 1048576: true; the input reads as it did. -/
def fnRootsUptoRow : OpenClaim := { program := "ythdlepejbikofaa", sum := "0b83b4b35c869b21a3468b4536e1ded3a85572d7b8129d30630f0e4e930252fe", func := "loop.example/g00930/laws.FnRoots", spec := "fnRoots", apart := false, narrowed := true }
def FnRootsUptoSaid : Prop := fnRootsUptoRow.holds Try.pinned (OpenSpec.upto fnRootsSpec)

end Rows
end Go.Proofs.Ythdlepejbikofaa
