/- Fewest turns, part 6: the factor and the number of turns; the reference's tests. -/
import Derived.Test.YtdljlemgaefbpaaFew5
namespace Go.Proofs.Ytdljlemgaefbpaa
open Go.RowKit Go.Joins

theorem l02Base_ok (b : Nat) (w : World) (h1 : 2 ≤ b) (h2 : b ≤ 16) : Calls Try.prog 106 #[.int .i64 (b : Int)] w fun e w' => e = .returned (.bool true) ∧ w = w' := by
  have HB := Lib.hid (fun wx => l00In_any (b : Int) 2 16 wx)
  rw [inB_true (by omega) (by omega)] at HB
  go_enter Try.func106, Try.ntmps106
  go_wp2_with fail
  refine (HB.out _).mono ?_; rintro e w1 ⟨rfl, rfl⟩
  go_wp2_with fail
  go_ret
  exact ⟨rfl, rfl⟩

end Go.Proofs.Ytdljlemgaefbpaa
