/- Fewest turns, part 4: the program's functions of turns. -/
import Derived.Test.YtdljlemgaefbpaaFew3
namespace Go.Proofs.Ytdljlemgaefbpaa
open Go.RowKit Go.Joins

/-- turns and a code are handed back -/
def RetT (b : Nat) (l : List Int) (w : World) (e : Ending) (w' : World) : Prop :=
  ∃ v, e = .returned (.tuple #[.agg #[.int .i64 (b : Int), v], .int .i64 0]) ∧ w'.ownsRow w.heap.size 2 1 v l.length (nmV l) ∧ Below w.heap.size w w'
theorem few_bd {b N k : Nat} (hb : 2 ≤ b) (hb2 : b ≤ 16) (h : k < (few b N).length) : -16 ≤ at0 (few b N) k ∧ at0 (few b N) k ≤ 16 := by
  obtain ⟨m, _, _, h3⟩ := gn_at (nxF_lt hb) k N h
  have h4 := dgF_bd hb m
  have : at0 (few b N) k = dgF b m := by unfold at0; rw [List.getD_eq_getElem?_getD, h3]; rfl
  omega
end Go.Proofs.Ytdljlemgaefbpaa
