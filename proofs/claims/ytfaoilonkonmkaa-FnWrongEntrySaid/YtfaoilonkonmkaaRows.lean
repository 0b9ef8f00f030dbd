/-
  No cell of these rows narrows 'for every input' (looked for: loops, veiled, ifaces, maps, wideKeys, modest, calm, conditions, laid).
  DERIVED. THE GIVEN ROWS OF THIS SEAT. 12 by the template 'for every input the law returns true; each argument reads behind the call as it read before'; 0 by the template 'total and deterministic' (their statements: YtfaoilonkonmkaaTotals.lean).
  GIVEN WITH THE SEED: the statements are not yours to turn. If you find one false, say at which input.
  Laid BY PROGRAM, IN A SANDBOX (cutbox-rows.mjs): the forced cells as the released guide's own fill.sh prints them over the translation a94ce19085287104… (all of the seat's roots in one cut). By AI agents, Wed Nov 11 2026. No macro, syntax, notation, axiom, sorry.
-/
import Derived.Test.YtfaoilonkonmkaaChecked
import GoSem.Claim
import GoSem.ClaimJoined
import GoSem.ClaimMapViews
import Derived.JoinedTies
import Derived.KernelRfl
namespace Go.Proofs.Ytfaoilonkonmkaa
/- THE CELL 'sum', in the pinned program and in every row, IS THE sha256 OF THE DUMP (.gsa) THAT YtfaoilonkonmkaaProg.lean LOADS. Nothing in Lean hashes anything: it is a label: what it is worth is what the hold of that sum in a sandbox is worth. -/
noncomputable def Try.pinned : Pinned := { name := "ytfaoilonkonmkaa", sum := "a94ce19085287104aaf4f2a35bd1730751d5e54c17596f6217b735f6c8d01998", checked := Try.checked }
namespace Rows
def none {H : Type} : Left H := { results := [], args := [] }

/-- 'laws.FnExactCompareRegisters': WHATEVER THE INPUT: true; the input reads as it did. -/
def fnExactCompareRegistersSpec : ChangeSpec := { name := "fnExactCompareRegisters", fn := fun _ => fun
  | [d1, d2] => { results := [.lit (.bool true)], args := [d1, d2] }
  | _ => none }
def fnExactCompareRegistersRow : OpenClaim := { program := "ytfaoilonkonmkaa", sum := "a94ce19085287104aaf4f2a35bd1730751d5e54c17596f6217b735f6c8d01998", func := "loop.example/g00930/laws.FnExactCompareRegisters", spec := "fnExactCompareRegisters", apart := false }
def FnExactCompareRegistersSaid : Prop := fnExactCompareRegistersRow.holds Try.pinned (OpenSpec.ofChange fnExactCompareRegistersSpec)

/-- ITS FALSE NEIGHBOUR: 'it returns false'. Refute it at one input. -/
def fnExactCompareRegistersWrong : ChangeSpec := { name := "fnExactCompareRegisters", fn := fun _ => fun
  | [d1, d2] => { results := [.lit (.bool false)], args := [d1, d2] }
  | _ => none }
def FnExactCompareRegistersWrongFalsely : Prop := fnExactCompareRegistersRow.holds Try.pinned (OpenSpec.ofChange fnExactCompareRegistersWrong)

/-- 'laws.FnExactPackRegister': WHATEVER THE INPUT: true; the input reads as it did. -/
def fnExactPackRegisterSpec : ChangeSpec := { name := "fnExactPackRegister", fn := fun _ => fun
  | [d] => { results := [.lit (.bool true)], args := [d] }
  | _ => none }
def fnExactPackRegisterRow : OpenClaim := { program := "ytfaoilonkonmkaa", sum := "a94ce19085287104aaf4f2a35bd1730751d5e54c17596f6217b735f6c8d01998", func := "loop.example/g00930/laws.FnExactPackRegister", spec := "fnExactPackRegister", apart := false }
def FnExactPackRegisterSaid : Prop := fnExactPackRegisterRow.holds Try.pinned (OpenSpec.ofChange fnExactPackRegisterSpec)

/-- ITS FALSE NEIGHBOUR: 'it returns false'. Refute it at one input. -/
def fnExactPackRegisterWrong : ChangeSpec := { name := "fnExactPackRegister", fn := fun _ => fun
  | [d] => { results := [.lit (.bool false)], args := [d] }
  | _ => none }
def FnExactPackRegisterWrongFalsely : Prop := fnExactPackRegisterRow.holds Try.pinned (OpenSpec.ofChange fnExactPackRegisterWrong)

/-- 'laws.FnExactPackProgram': WHATEVER THE INPUT: true; the input reads as it did. -/
def fnExactPackProgramSpec : ChangeSpec := { name := "fnExactPackProgram", fn := fun _ => fun
  | [d] => { results := [.lit (.bool true)], args := [d] }
  | _ => none }
def fnExactPackProgramRow : OpenClaim := { program := "ytfaoilonkonmkaa", sum := "a94ce19085287104aaf4f2a35bd1730751d5e54c17596f6217b735f6c8d01998", func := "loop.example/g00930/laws.FnExactPackProgram", spec := "fnExactPackProgram", apart := false }
def FnExactPackProgramSaid : Prop := fnExactPackProgramRow.holds Try.pinned (OpenSpec.ofChange fnExactPackProgramSpec)

/-- ITS FALSE NEIGHBOUR: 'it returns false'. Refute it at one input. -/
def fnExactPackProgramWrong : ChangeSpec := { name := "fnExactPackProgram", fn := fun _ => fun
  | [d] => { results := [.lit (.bool false)], args := [d] }
  | _ => none }
def FnExactPackProgramWrongFalsely : Prop := fnExactPackProgramRow.holds Try.pinned (OpenSpec.ofChange fnExactPackProgramWrong)

/-- 'laws.FnExactUnpackProgram': WHATEVER THE INPUT: true; the input reads as it did. -/
def fnExactUnpackProgramSpec : ChangeSpec := { name := "fnExactUnpackProgram", fn := fun _ => fun
  | [d] => { results := [.lit (.bool true)], args := [d] }
  | _ => none }
def fnExactUnpackProgramRow : OpenClaim := { program := "ytfaoilonkonmkaa", sum := "a94ce19085287104aaf4f2a35bd1730751d5e54c17596f6217b735f6c8d01998", func := "loop.example/g00930/laws.FnExactUnpackProgram", spec := "fnExactUnpackProgram", apart := false }
def FnExactUnpackProgramSaid : Prop := fnExactUnpackProgramRow.holds Try.pinned (OpenSpec.ofChange fnExactUnpackProgramSpec)

/-- ITS FALSE NEIGHBOUR: 'it returns false'. Refute it at one input. -/
def fnExactUnpackProgramWrong : ChangeSpec := { name := "fnExactUnpackProgram", fn := fun _ => fun
  | [d] => { results := [.lit (.bool false)], args := [d] }
  | _ => none }
def FnExactUnpackProgramWrongFalsely : Prop := fnExactUnpackProgramRow.holds Try.pinned (OpenSpec.ofChange fnExactUnpackProgramWrong)

/-- 'laws.FnExactSameEntries': WHATEVER THE INPUT: true; the input reads as it did. -/
def fnExactSameEntriesSpec : ChangeSpec := { name := "fnExactSameEntries", fn := fun _ => fun
  | [d1, d2] => { results := [.lit (.bool true)], args := [d1, d2] }
  | _ => none }
def fnExactSameEntriesRow : OpenClaim := { program := "ytfaoilonkonmkaa", sum := "a94ce19085287104aaf4f2a35bd1730751d5e54c17596f6217b735f6c8d01998", func := "loop.example/g00930/laws.FnExactSameEntries", spec := "fnExactSameEntries", apart := false }
def FnExactSameEntriesSaid : Prop := fnExactSameEntriesRow.holds Try.pinned (OpenSpec.ofChange fnExactSameEntriesSpec)

/-- ITS FALSE NEIGHBOUR: 'it returns false'. Refute it at one input. -/
def fnExactSameEntriesWrong : ChangeSpec := { name := "fnExactSameEntries", fn := fun _ => fun
  | [d1, d2] => { results := [.lit (.bool false)], args := [d1, d2] }
  | _ => none }
def FnExactSameEntriesWrongFalsely : Prop := fnExactSameEntriesRow.holds Try.pinned (OpenSpec.ofChange fnExactSameEntriesWrong)

/-- 'laws.FnExactValidEntries': WHATEVER THE INPUT: true; the input reads as it did. -/
def fnExactValidEntriesSpec : ChangeSpec := { name := "fnExactValidEntries", fn := fun _ => fun
  | [d] => { results := [.lit (.bool true)], args := [d] }
  | _ => none }
def fnExactValidEntriesRow : OpenClaim := { program := "ytfaoilonkonmkaa", sum := "a94ce19085287104aaf4f2a35bd1730751d5e54c17596f6217b735f6c8d01998", func := "loop.example/g00930/laws.FnExactValidEntries", spec := "fnExactValidEntries", apart := false }
def FnExactValidEntriesSaid : Prop := fnExactValidEntriesRow.holds Try.pinned (OpenSpec.ofChange fnExactValidEntriesSpec)

/-- ITS FALSE NEIGHBOUR: 'it returns false'. Refute it at one input. -/
def fnExactValidEntriesWrong : ChangeSpec := { name := "fnExactValidEntries", fn := fun _ => fun
  | [d] => { results := [.lit (.bool false)], args := [d] }
  | _ => none }
def FnExactValidEntriesWrongFalsely : Prop := fnExactValidEntriesRow.holds Try.pinned (OpenSpec.ofChange fnExactValidEntriesWrong)

/-- 'laws.FnExactAddLoan': WHATEVER THE INPUT: true; the input reads as it did. -/
def fnExactAddLoanSpec : ChangeSpec := { name := "fnExactAddLoan", fn := fun _ => fun
  | [d1, d2] => { results := [.lit (.bool true)], args := [d1, d2] }
  | _ => none }
def fnExactAddLoanRow : OpenClaim := { program := "ytfaoilonkonmkaa", sum := "a94ce19085287104aaf4f2a35bd1730751d5e54c17596f6217b735f6c8d01998", func := "loop.example/g00930/laws.FnExactAddLoan", spec := "fnExactAddLoan", apart := false }
def FnExactAddLoanSaid : Prop := fnExactAddLoanRow.holds Try.pinned (OpenSpec.ofChange fnExactAddLoanSpec)

/-- ITS FALSE NEIGHBOUR: 'it returns false'. Refute it at one input. -/
def fnExactAddLoanWrong : ChangeSpec := { name := "fnExactAddLoan", fn := fun _ => fun
  | [d1, d2] => { results := [.lit (.bool false)], args := [d1, d2] }
  | _ => none }
def FnExactAddLoanWrongFalsely : Prop := fnExactAddLoanRow.holds Try.pinned (OpenSpec.ofChange fnExactAddLoanWrong)

/-- 'laws.FnExactReturnEarly': WHATEVER THE INPUT: true; the input reads as it did. -/
def fnExactReturnEarlySpec : ChangeSpec := { name := "fnExactReturnEarly", fn := fun _ => fun
  | [d1, d2, d3] => { results := [.lit (.bool true)], args := [d1, d2, d3] }
  | _ => none }
def fnExactReturnEarlyRow : OpenClaim := { program := "ytfaoilonkonmkaa", sum := "a94ce19085287104aaf4f2a35bd1730751d5e54c17596f6217b735f6c8d01998", func := "loop.example/g00930/laws.FnExactReturnEarly", spec := "fnExactReturnEarly", apart := false }
def FnExactReturnEarlySaid : Prop := fnExactReturnEarlyRow.holds Try.pinned (OpenSpec.ofChange fnExactReturnEarlySpec)

/-- ITS FALSE NEIGHBOUR: 'it returns false'. Refute it at one input. -/
def fnExactReturnEarlyWrong : ChangeSpec := { name := "fnExactReturnEarly", fn := fun _ => fun
  | [d1, d2, d3] => { results := [.lit (.bool false)], args := [d1, d2, d3] }
  | _ => none }
def FnExactReturnEarlyWrongFalsely : Prop := fnExactReturnEarlyRow.holds Try.pinned (OpenSpec.ofChange fnExactReturnEarlyWrong)

/-- 'laws.FnExactSimilarEntries': WHATEVER THE INPUT: true; the input reads as it did. -/
def fnExactSimilarEntriesSpec : ChangeSpec := { name := "fnExactSimilarEntries", fn := fun _ => fun
  | [d1, d2] => { results := [.lit (.bool true)], args := [d1, d2] }
  | _ => none }
def fnExactSimilarEntriesRow : OpenClaim := { program := "ytfaoilonkonmkaa", sum := "a94ce19085287104aaf4f2a35bd1730751d5e54c17596f6217b735f6c8d01998", func := "loop.example/g00930/laws.FnExactSimilarEntries", spec := "fnExactSimilarEntries", apart := false }
def FnExactSimilarEntriesSaid : Prop := fnExactSimilarEntriesRow.holds Try.pinned (OpenSpec.ofChange fnExactSimilarEntriesSpec)

/-- ITS FALSE NEIGHBOUR: 'it returns false'. Refute it at one input. -/
def fnExactSimilarEntriesWrong : ChangeSpec := { name := "fnExactSimilarEntries", fn := fun _ => fun
  | [d1, d2] => { results := [.lit (.bool false)], args := [d1, d2] }
  | _ => none }
def FnExactSimilarEntriesWrongFalsely : Prop := fnExactSimilarEntriesRow.holds Try.pinned (OpenSpec.ofChange fnExactSimilarEntriesWrong)

/-- 'laws.FnBinomials': WHATEVER THE INPUT: true; the input reads as it did. -/
def fnBinomialsSpec : ChangeSpec := { name := "fnBinomials", fn := fun _ => fun
  | [d1, d2] => { results := [.lit (.bool true)], args := [d1, d2] }
  | _ => none }
def fnBinomialsRow : OpenClaim := { program := "ytfaoilonkonmkaa", sum := "a94ce19085287104aaf4f2a35bd1730751d5e54c17596f6217b735f6c8d01998", func := "loop.example/g00930/laws.FnBinomials", spec := "fnBinomials", apart := false }
def FnBinomialsSaid : Prop := fnBinomialsRow.holds Try.pinned (OpenSpec.ofChange fnBinomialsSpec)

/-- ITS FALSE NEIGHBOUR: 'it returns false'. Refute it at one input. -/
def fnBinomialsWrong : ChangeSpec := { name := "fnBinomials", fn := fun _ => fun
  | [d1, d2] => { results := [.lit (.bool false)], args := [d1, d2] }
  | _ => none }
def FnBinomialsWrongFalsely : Prop := fnBinomialsRow.holds Try.pinned (OpenSpec.ofChange fnBinomialsWrong)

/-- 'laws.FnChains': WHATEVER THE INPUT: true; the input reads as it did. -/
def fnChainsSpec : ChangeSpec := { name := "fnChains", fn := fun _ => fun
  | [d1, d2] => { results := [.lit (.bool true)], args := [d1, d2] }
  | _ => none }
def fnChainsRow : OpenClaim := { program := "ytfaoilonkonmkaa", sum := "a94ce19085287104aaf4f2a35bd1730751d5e54c17596f6217b735f6c8d01998", func := "loop.example/g00930/laws.FnChains", spec := "fnChains", apart := false }
def FnChainsSaid : Prop := fnChainsRow.holds Try.pinned (OpenSpec.ofChange fnChainsSpec)

/-- ITS FALSE NEIGHBOUR: 'it returns false'. Refute it at one input. -/
def fnChainsWrong : ChangeSpec := { name := "fnChains", fn := fun _ => fun
  | [d1, d2] => { results := [.lit (.bool false)], args := [d1, d2] }
  | _ => none }
def FnChainsWrongFalsely : Prop := fnChainsRow.holds Try.pinned (OpenSpec.ofChange fnChainsWrong)

/-- 'laws.FnWrongEntry': WHATEVER THE INPUT: true; the input reads as it did. -/
def fnWrongEntrySpec : ChangeSpec := { name := "fnWrongEntry", fn := fun _ => fun
  | [d1, d2] => { results := [.lit (.bool true)], args := [d1, d2] }
  | _ => none }
def fnWrongEntryRow : OpenClaim := { program := "ytfaoilonkonmkaa", sum := "a94ce19085287104aaf4f2a35bd1730751d5e54c17596f6217b735f6c8d01998", func := "loop.example/g00930/laws.FnWrongEntry", spec := "fnWrongEntry", apart := false }
def FnWrongEntrySaid : Prop := fnWrongEntryRow.holds Try.pinned (OpenSpec.ofChange fnWrongEntrySpec)

/-- ITS FALSE NEIGHBOUR: 'it returns false'. Refute it at one input. -/
def fnWrongEntryWrong : ChangeSpec := { name := "fnWrongEntry", fn := fun _ => fun
  | [d1, d2] => { results := [.lit (.bool false)], args := [d1, d2] }
  | _ => none }
def FnWrongEntryWrongFalsely : Prop := fnWrongEntryRow.holds Try.pinned (OpenSpec.ofChange fnWrongEntryWrong)

/- THE SECOND FORM. 'bulk': how many values and letters a reading holds, each counted each time it is reached (what is shared counts as often as it is met; a slice's spare places count too). A statement '..UptoSaid' is the law's where the arguments, and the package variables that the reading takes, are together of bulk at most 1048576: NARROWER than '..Said'. Prove '..Said' where nothing that the law and all that it calls make is longer than what came in: it says more and counts as full. Else prove '..UptoSaid'. A law counts once. -/
mutual
def uptoBulk {H : Type} : DataW H → Nat
  | .lit (.string bytes) => bytes.length + 1
  | .lit _ => 1
  | .nil => 1
  | .ptr d => uptoBulk d + 1
  | .slice elems spare => uptoBulkAll elems + uptoBulkAll spare + 1
  | .agg parts => uptoBulkAll parts + 1
  | .iface _ d => uptoBulk d + 1
  | .map entries => uptoBulkEntries entries + 1
  | .held _ => 1
def uptoBulkAll {H : Type} : List (DataW H) → Nat
  | [] => 0
  | d :: r => uptoBulk d + uptoBulkAll r
def uptoBulkEntries {H : Type} : List (Lit × DataW H) → Nat
  | [] => 0
  | x :: r => uptoBulkEntry x + uptoBulkEntries r
def uptoBulkEntry {H : Type} : Lit × DataW H → Nat
  | (.string bytes, d) => bytes.length + uptoBulk d + 1
  | (_, d) => uptoBulk d + 1
 end
def uptoSmall : (H : Type) → List (DataW H) → Bool := fun _ ds => decide (uptoBulkAll ds ≤ 1048576)
def OpenSpec.upto (s : _root_.Go.ChangeSpec) : _root_.Go.OpenSpec := { _root_.Go.OpenSpec.ofChange s with cond := some uptoSmall }

/-- 'laws.FnExactCompareRegisters', WHERE WHAT IT READS IS OF BULK AT MOST 1048576: true; the input reads as it did. -/
def fnExactCompareRegistersUptoRow : OpenClaim := { program := "ytfaoilonkonmkaa", sum := "a94ce19085287104aaf4f2a35bd1730751d5e54c17596f6217b735f6c8d01998", func := "loop.example/g00930/laws.FnExactCompareRegisters", spec := "fnExactCompareRegisters", apart := false, narrowed := true }
def FnExactCompareRegistersUptoSaid : Prop := fnExactCompareRegistersUptoRow.holds Try.pinned (OpenSpec.upto fnExactCompareRegistersSpec)

/-- 'laws.FnExactPackRegister', WHERE WHAT IT READS IS OF BULK AT MOST 1048576: true; the input reads as it did. -/
def fnExactPackRegisterUptoRow : OpenClaim := { program := "ytfaoilonkonmkaa", sum := "a94ce19085287104aaf4f2a35bd1730751d5e54c17596f6217b735f6c8d01998", func := "loop.example/g00930/laws.FnExactPackRegister", spec := "fnExactPackRegister", apart := false, narrowed := true }
def FnExactPackRegisterUptoSaid : Prop := fnExactPackRegisterUptoRow.holds Try.pinned (OpenSpec.upto fnExactPackRegisterSpec)

/-- 'laws.FnExactPackProgram', WHERE WHAT IT READS IS OF BULK AT MOST 1048576: true; the input reads as it did. -/
def fnExactPackProgramUptoRow : OpenClaim := { program := "ytfaoilonkonmkaa", sum := "a94ce19085287104aaf4f2a35bd1730751d5e54c17596f6217b735f6c8d01998", func := "loop.example/g00930/laws.FnExactPackProgram", spec := "fnExactPackProgram", apart := false, narrowed := true }
def FnExactPackProgramUptoSaid : Prop := fnExactPackProgramUptoRow.holds Try.pinned (OpenSpec.upto fnExactPackProgramSpec)

/-- 'laws.FnExactUnpackProgram', WHERE WHAT IT READS IS OF BULK AT MOST 1048576: true; the input reads as it did. -/
def fnExactUnpackProgramUptoRow : OpenClaim := { program := "ytfaoilonkonmkaa", sum := "a94ce19085287104aaf4f2a35bd1730751d5e54c17596f6217b735f6c8d01998", func := "loop.example/g00930/laws.FnExactUnpackProgram", spec := "fnExactUnpackProgram", apart := false, narrowed := true }
def FnExactUnpackProgramUptoSaid : Prop := fnExactUnpackProgramUptoRow.holds Try.pinned (OpenSpec.upto fnExactUnpackProgramSpec)

/-- 'laws.FnExactSameEntries', WHERE WHAT IT READS IS OF BULK AT MOST 1048576: true; the input reads as it did. -/
def fnExactSameEntriesUptoRow : OpenClaim := { program := "ytfaoilonkonmkaa", sum := "a94ce19085287104aaf4f2a35bd1730751d5e54c17596f6217b735f6c8d01998", func := "loop.example/g00930/laws.FnExactSameEntries", spec := "fnExactSameEntries", apart := false, narrowed := true }
def FnExactSameEntriesUptoSaid : Prop := fnExactSameEntriesUptoRow.holds Try.pinned (OpenSpec.upto fnExactSameEntriesSpec)

/-- 'laws.FnExactValidEntries', WHERE WHAT IT READS IS OF BULK AT MOST 1048576: true; the input reads as it did. -/
def fnExactValidEntriesUptoRow : OpenClaim := { program := "ytfaoilonkonmkaa", sum := "a94ce19085287104aaf4f2a35bd1730751d5e54c17596f6217b735f6c8d01998", func := "loop.example/g00930/laws.FnExactValidEntries", spec := "fnExactValidEntries", apart := false, narrowed := true }
def FnExactValidEntriesUptoSaid : Prop := fnExactValidEntriesUptoRow.holds Try.pinned (OpenSpec.upto fnExactValidEntriesSpec)

/-- 'laws.FnExactAddLoan', WHERE WHAT IT READS IS OF BULK AT MOST 1048576: true; the input reads as it did. -/
def fnExactAddLoanUptoRow : OpenClaim := { program := "ytfaoilonkonmkaa", sum := "a94ce19085287104aaf4f2a35bd1730751d5e54c17596f6217b735f6c8d01998", func := "loop.example/g00930/laws.FnExactAddLoan", spec := "fnExactAddLoan", apart := false, narrowed := true }
def FnExactAddLoanUptoSaid : Prop := fnExactAddLoanUptoRow.holds Try.pinned (OpenSpec.upto fnExactAddLoanSpec)

/-- 'laws.FnExactReturnEarly', WHERE WHAT IT READS IS OF BULK AT MOST 1048576: true; the input reads as it did. -/
def fnExactReturnEarlyUptoRow : OpenClaim := { program := "ytfaoilonkonmkaa", sum := "a94ce19085287104aaf4f2a35bd1730751d5e54c17596f6217b735f6c8d01998", func := "loop.example/g00930/laws.FnExactReturnEarly", spec := "fnExactReturnEarly", apart := false, narrowed := true }
def FnExactReturnEarlyUptoSaid : Prop := fnExactReturnEarlyUptoRow.holds Try.pinned (OpenSpec.upto fnExactReturnEarlySpec)

/-- 'laws.FnExactSimilarEntries', WHERE WHAT IT READS IS OF BULK AT MOST 1048576: true; the input reads as it did. -/
def fnExactSimilarEntriesUptoRow : OpenClaim := { program := "ytfaoilonkonmkaa", sum := "a94ce19085287104aaf4f2a35bd1730751d5e54c17596f6217b735f6c8d01998", func := "loop.example/g00930/laws.FnExactSimilarEntries", spec := "fnExactSimilarEntries", apart := false, narrowed := true }
def FnExactSimilarEntriesUptoSaid : Prop := fnExactSimilarEntriesUptoRow.holds Try.pinned (OpenSpec.upto fnExactSimilarEntriesSpec)

/-- 'laws.FnBinomials', WHERE WHAT IT READS IS OF BULK AT MOST 1048576: true; the input reads as it did. -/
def fnBinomialsUptoRow : OpenClaim := { program := "ytfaoilonkonmkaa", sum := "a94ce19085287104aaf4f2a35bd1730751d5e54c17596f6217b735f6c8d01998", func := "loop.example/g00930/laws.FnBinomials", spec := "fnBinomials", apart := false, narrowed := true }
def FnBinomialsUptoSaid : Prop := fnBinomialsUptoRow.holds Try.pinned (OpenSpec.upto fnBinomialsSpec)

/-- 'laws.FnChains', WHERE WHAT IT READS IS OF BULK AT MOST 1048576: true; the input reads as it did. -/
def fnChainsUptoRow : OpenClaim := { program := "ytfaoilonkonmkaa", sum := "a94ce19085287104aaf4f2a35bd1730751d5e54c17596f6217b735f6c8d01998", func := "loop.example/g00930/laws.FnChains", spec := "fnChains", apart := false, narrowed := true }
def FnChainsUptoSaid : Prop := fnChainsUptoRow.holds Try.pinned (OpenSpec.upto fnChainsSpec)

/-- 'laws.FnWrongEntry', WHERE WHAT IT READS IS OF BULK AT MOST 1048576: true; the input reads as it did. -/
def fnWrongEntryUptoRow : OpenClaim := { program := "ytfaoilonkonmkaa", sum := "a94ce19085287104aaf4f2a35bd1730751d5e54c17596f6217b735f6c8d01998", func := "loop.example/g00930/laws.FnWrongEntry", spec := "fnWrongEntry", apart := false, narrowed := true }
def FnWrongEntryUptoSaid : Prop := fnWrongEntryUptoRow.holds Try.pinned (OpenSpec.upto fnWrongEntrySpec)

end Rows
end Go.Proofs.Ytfaoilonkonmkaa
