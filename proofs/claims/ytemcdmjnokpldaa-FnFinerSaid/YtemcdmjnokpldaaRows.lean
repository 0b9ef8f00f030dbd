/-
  No cell of these rows narrows 'for every input' (looked for: loops, veiled, ifaces, maps, wideKeys, modest, calm, conditions, laid).
  DERIVED. THE GIVEN ROWS OF THIS SEAT. 4 by the template 'for every input the law returns true; each argument reads behind the call as it read before'; 0 by the template 'total and deterministic' (their statements: YtemcdmjnokpldaaTotals.lean).
  GIVEN WITH THE SEED: the statements are not yours to turn. If you find one false, say at which input.
  Laid BY PROGRAM, IN A SANDBOX (cutbox-rows.mjs): the forced cells as the released guide's own fill.sh prints them over the translation 4eae809fcbbfc624… (all of the seat's roots in one cut). By AI agents, Wed Nov 11 2026. No macro, syntax, notation, axiom, sorry.
-/
import Derived.Test.YtemcdmjnokpldaaChecked
import GoSem.Claim
import GoSem.ClaimJoined
import GoSem.ClaimMapViews
import Derived.JoinedTies
import Derived.KernelRfl
namespace Go.Proofs.Ytemcdmjnokpldaa
/- THE CELL 'sum', in the pinned program and in every row, IS THE sha256 OF THE DUMP (.gsa) THAT YtemcdmjnokpldaaProg.lean LOADS. Nothing in Lean hashes anything: it is a label: what it is worth is what the hold of that sum in a sandbox is worth. -/
noncomputable def Try.pinned : Pinned := { name := "ytemcdmjnokpldaa", sum := "4eae809fcbbfc62448e4e5eda283b46c006ea7d6b3aba19219ae73d1aa016755", checked := Try.checked }
namespace Rows
def none {H : Type} : Left H := { results := [], args := [] }

/-- 'laws.FnBeads': WHATEVER THE INPUT: true; the input reads as it did. -/
def fnBeadsSpec : ChangeSpec := { name := "fnBeads", fn := fun _ => fun
  | [d] => { results := [.lit (.bool true)], args := [d] }
  | _ => none }
def fnBeadsRow : OpenClaim := { program := "ytemcdmjnokpldaa", sum := "4eae809fcbbfc62448e4e5eda283b46c006ea7d6b3aba19219ae73d1aa016755", func := "loop.example/g00930/laws.FnBeads", spec := "fnBeads", recurses := true, apart := false }
def FnBeadsSaid : Prop := fnBeadsRow.holds Try.pinned (OpenSpec.ofChange fnBeadsSpec)

/-- ITS FALSE NEIGHBOUR: 'it returns false'. Refute it at one input. -/
def fnBeadsWrong : ChangeSpec := { name := "fnBeads", fn := fun _ => fun
  | [d] => { results := [.lit (.bool false)], args := [d] }
  | _ => none }
def FnBeadsWrongFalsely : Prop := fnBeadsRow.holds Try.pinned (OpenSpec.ofChange fnBeadsWrong)

/-- 'laws.FnFiner': WHATEVER THE INPUT: true; the input reads as it did. -/
def fnFinerSpec : ChangeSpec := { name := "fnFiner", fn := fun _ => fun
  | [d] => { results := [.lit (.bool true)], args := [d] }
  | _ => none }
def fnFinerRow : OpenClaim := { program := "ytemcdmjnokpldaa", sum := "4eae809fcbbfc62448e4e5eda283b46c006ea7d6b3aba19219ae73d1aa016755", func := "loop.example/g00930/laws.FnFiner", spec := "fnFiner", apart := false }
def FnFinerSaid : Prop := fnFinerRow.holds Try.pinned (OpenSpec.ofChange fnFinerSpec)

/-- ITS FALSE NEIGHBOUR: 'it returns false'. Refute it at one input. -/
def fnFinerWrong : ChangeSpec := { name := "fnFiner", fn := fun _ => fun
  | [d] => { results := [.lit (.bool false)], args := [d] }
  | _ => none }
def FnFinerWrongFalsely : Prop := fnFinerRow.holds Try.pinned (OpenSpec.ofChange fnFinerWrong)

/-- 'laws.FnStocks': WHATEVER THE INPUT: true; the input reads as it did. -/
def fnStocksSpec : ChangeSpec := { name := "fnStocks", fn := fun _ => fun
  | [d] => { results := [.lit (.bool true)], args := [d] }
  | _ => none }
def fnStocksRow : OpenClaim := { program := "ytemcdmjnokpldaa", sum := "4eae809fcbbfc62448e4e5eda283b46c006ea7d6b3aba19219ae73d1aa016755", func := "loop.example/g00930/laws.FnStocks", spec := "fnStocks", recurses := true, apart := false }
def FnStocksSaid : Prop := fnStocksRow.holds Try.pinned (OpenSpec.ofChange fnStocksSpec)

/-- ITS FALSE NEIGHBOUR: 'it returns false'. Refute it at one input. -/
def fnStocksWrong : ChangeSpec := { name := "fnStocks", fn := fun _ => fun
  | [d] => { results := [.lit (.bool false)], args := [d] }
  | _ => none }
def FnStocksWrongFalsely : Prop := fnStocksRow.holds Try.pinned (OpenSpec.ofChange fnStocksWrong)

/-- 'laws.FnPlans': WHATEVER THE INPUT: true; the input reads as it did. -/
def fnPlansSpec : ChangeSpec := { name := "fnPlans", fn := fun _ => fun
  | [d] => { results := [.lit (.bool true)], args := [d] }
  | _ => none }
def fnPlansRow : OpenClaim := { program := "ytemcdmjnokpldaa", sum := "4eae809fcbbfc62448e4e5eda283b46c006ea7d6b3aba19219ae73d1aa016755", func := "loop.example/g00930/laws.FnPlans", spec := "fnPlans", apart := false }
def FnPlansSaid : Prop := fnPlansRow.holds Try.pinned (OpenSpec.ofChange fnPlansSpec)

/-- ITS FALSE NEIGHBOUR: 'it returns false'. Refute it at one input. -/
def fnPlansWrong : ChangeSpec := { name := "fnPlans", fn := fun _ => fun
  | [d] => { results := [.lit (.bool false)], args := [d] }
  | _ => none }
def FnPlansWrongFalsely : Prop := fnPlansRow.holds Try.pinned (OpenSpec.ofChange fnPlansWrong)

/- THE SECOND FORM. 'bulk': how many values and letters a reading holds, each counted each time it is reached (what is shared counts as often as it is met; a slice's spare places count too). A statement '..UptoSaid' is the law's where the arguments, and the package variables that the reading takes, are together of bulk at most 1048576: NARROWER than '..Said'. Prove '..Said' where nothing that the law and all that it calls make is longer than what came in: it says more and counts as full. Else prove '..UptoSaid'. A law counts once. -/
mutual
def uptoBulk {H : Type} : DataW H → Nat
  | .lit (.string bytes) => bytes.length + 1
  | .lit _ => 1
  | .nil => 1
  | .ptr d => uptoBulk d + 1
  | .slice elems spare => uptoBulkAll elems + uptoBulkAll spare + 1
  | .agg parts => uptoBulkAll parts + 1
  | .iface _ d => uptoBulk d + 1
  | .map entries => uptoBulkEntries entries + 1
  | .held _ => 1
def uptoBulkAll {H : Type} : List (DataW H) → Nat
  | [] => 0
  | d :: r => uptoBulk d + uptoBulkAll r
def uptoBulkEntries {H : Type} : List (Lit × DataW H) → Nat
  | [] => 0
  | x :: r => uptoBulkEntry x + uptoBulkEntries r
def uptoBulkEntry {H : Type} : Lit × DataW H → Nat
  | (.string bytes, d) => bytes.length + uptoBulk d + 1
  | (_, d) => uptoBulk d + 1
 end
def uptoSmall : (H : Type) → List (DataW H) → Bool := fun _ ds => decide (uptoBulkAll ds ≤ 1048576)
def OpenSpec.upto (s : _root_.Go.ChangeSpec) : _root_.Go.OpenSpec := { _root_.Go.OpenSpec.ofChange s with cond := some uptoSmall }

/-- 'laws.FnBeads', WHERE WHAT IT READS IS OF BULK AT MOST 1048576: true; the input reads as it did. -/
def fnBeadsUptoRow : OpenClaim := { program := "ytemcdmjnokpldaa", sum := "4eae809fcbbfc62448e4e5eda283b46c006ea7d6b3aba19219ae73d1aa016755", func := "loop.example/g00930/laws.FnBeads", spec := "fnBeads", recurses := true, apart := false, narrowed := true }
def FnBeadsUptoSaid : Prop := fnBeadsUptoRow.holds Try.pinned (OpenSpec.upto fnBeadsSpec)

/-- 'laws.FnFiner', WHERE WHAT IT READS IS OF BULK AT MOST 1048576: true; the input reads as it did. -/
def fnFinerUptoRow : OpenClaim := { program := "ytemcdmjnokpldaa", sum := "4eae809fcbbfc62448e4e5eda283b46c006ea7d6b3aba19219ae73d1aa016755", func := "loop.example/g00930/laws.FnFiner", spec := "fnFiner", apart := false, narrowed := true }
def FnFinerUptoSaid : Prop := fnFinerUptoRow.holds Try.pinned (OpenSpec.upto fnFinerSpec)

/-- 'laws.FnStocks', WHERE WHAT IT READS IS OF BULK AT MOST 1048576: true; the input reads as it did. -/
def fnStocksUptoRow : OpenClaim := { program := "ytemcdmjnokpldaa", sum := "4eae809fcbbfc62448e4e5eda283b46c006ea7d6b3aba19219ae73d1aa016755", func := "loop.example/g00930/laws.FnStocks", spec := "fnStocks", recurses := true, apart := false, narrowed := true }
def FnStocksUptoSaid : Prop := fnStocksUptoRow.holds Try.pinned (OpenSpec.upto fnStocksSpec)

/-- 'laws.FnPlans', WHERE WHAT IT READS IS OF BULK AT MOST 1048576: true; the input reads as it did. -/
def fnPlansUptoRow : OpenClaim := { program := "ytemcdmjnokpldaa", sum := "4eae809fcbbfc62448e4e5eda283b46c006ea7d6b3aba19219ae73d1aa016755", func := "loop.example/g00930/laws.FnPlans", spec := "fnPlans", apart := false, narrowed := true }
def FnPlansUptoSaid : Prop := fnPlansUptoRow.holds Try.pinned (OpenSpec.upto fnPlansSpec)

end Rows
end Go.Proofs.Ytemcdmjnokpldaa
