/- Registers, part 6: bases, widths. -/
import Derived.Test.YtfaoilonkonmkaaReg5
namespace Go.Proofs.Ytfaoilonkonmkaa
open Go.RowKit Go.Joins

theorem isBase_any (b : Int) (w : World) : Calls Try.prog 140 #[.int .i64 b] w fun e w' => e = .returned (.bool (inB b 2 16)) ∧ w = w' := by
  go_enter Try.func140, Try.ntmps140
  go_wp2_with fail
  refine (between_any b 2 16 _).mono ?_; rintro e w1 ⟨rfl, rfl⟩
  go_wp2_with fail
  go_ret
  exact ⟨rfl, rfl⟩
theorem l02Base_any (b : Int) (w : World) : Calls Try.prog 137 #[.int .i64 b] w fun e w' => e = .returned (.bool (inB b 2 16)) ∧ w = w' := by
  go_enter Try.func137, Try.ntmps137
  go_wp2_with fail
  refine (l00In_any b 2 16 _).mono ?_; rintro e w1 ⟨rfl, rfl⟩
  go_wp2_with fail
  go_ret
  exact ⟨rfl, rfl⟩
theorem isWidth_any (n : Int) (w : World) : Calls Try.prog 141 #[.int .i64 n] w fun e w' => e = .returned (.bool (inB n 1 16)) ∧ w = w' := by
  go_enter Try.func141, Try.ntmps141
  go_wp2_with fail
  refine (between_any n 1 16 _).mono ?_; rintro e w1 ⟨rfl, rfl⟩
  go_wp2_with fail
  go_ret
  exact ⟨rfl, rfl⟩
/-- a register is valid -/
def okReg (b : Int) (zs : List Int) : Bool := inB b 2 16 && okD b zs && decide (capV b zs ≤ 1000000000000)
end Go.Proofs.Ytfaoilonkonmkaa
