/- Loans, part 7: heldLoanS. -/
import Derived.Test.YtplpeeienpaaeaaDoorLo6
namespace Go.Proofs.YtplpeeienpaaeaaDoor
open Go.RowKit Go.Joins

theorem marksL_at (k : Int) (n i : Nat) (h : i < n) : (marksL k n)[i]'(by rw [marksL_len]; exact h) = ⟨markT (k + 4 * (i : Int)), markT (k + 4 * (i : Int) + 1), k + 4 * (i : Int) + 1 + 1, k + 4 * (i : Int) + 1 + 1 + 1⟩ := by simp [marksL]

theorem four_kept {W w1 : World} {a b c d : Addr} {x y z t : Value} (hb : Below W.heap.size W w1) (h : W.cell? a = some x ∧ W.cell? b = some y ∧ W.cell? c = some z ∧ W.cell? d = some t) :
    w1.cell? a = some x ∧ w1.cell? b = some y ∧ w1.cell? c = some z ∧ w1.cell? d = some t :=
  have k {p : Addr} {v : Value} (h : W.cell? p = some v) : w1.cell? p = some v := (hb.cell (World.block_lt_of_cell? W _ h)).trans h
  ⟨k h.1, k h.2.1, k h.2.2.1, k h.2.2.2⟩

end Go.Proofs.YtplpeeienpaaeaaDoor
