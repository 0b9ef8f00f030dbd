/- Contracts for the small helpers (l00In, between). -/
import Derived.Test.YtjkjlpjeamifbaaDoorRows
import Derived.WalkKit
import Derived.WalkSpells
import Derived.WalkLawsBesides
import Derived.Deep.QuietTactic
import Derived.BigQuiet
import Derived.Lib.Hide
namespace Go.Proofs.YtjkjlpjeamifbaaDoor
open Go.RowKit

def inB (n low high : Int) : Bool := decide (low ≤ n) && decide (n ≤ high)

set_option maxHeartbeats 400000 in
theorem l00In_any (n low high : Int) (w : World) :
    Calls Tryd.prog 69 #[.int .i64 n, .int .i64 low, .int .i64 high] w fun e w' => e = .returned (.bool (inB n low high)) ∧ w = w' := by
  go_enter Tryd.func69, Tryd.ntmps69
  go_wp2
  all_goals (first | go_ret | skip)
  all_goals (refine ⟨?_, rfl⟩; simp_all [inB] <;> omega)

set_option maxHeartbeats 400000 in
theorem between_any (n low high : Int) (w : World) :
    Calls Tryd.prog 70 #[.int .i64 n, .int .i64 low, .int .i64 high] w fun e w' => e = .returned (.bool (inB n low high)) ∧ w = w' := by
  go_enter Tryd.func70, Tryd.ntmps70
  go_wp2
  all_goals (first | go_ret | skip)
  all_goals (refine ⟨?_, rfl⟩; simp_all [inB] <;> omega)

end Go.Proofs.YtjkjlpjeamifbaaDoor
