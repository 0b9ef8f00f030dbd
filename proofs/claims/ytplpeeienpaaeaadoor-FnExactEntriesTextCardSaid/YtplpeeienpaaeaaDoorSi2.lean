/- Similar entries, part 2: the words two entries share; the reference's side. -/
import Derived.Test.YtplpeeienpaaeaaDoorSi1
import Derived.Test.YtplpeeienpaaeaaDoorReg1
namespace Go.Proofs.YtplpeeienpaaeaaDoor
open Go.RowKit Go.Joins

/-- how many words of the one list the other has -/
def comN : List ByteArray → List ByteArray → Nat
  | [], _ => 0
  | x :: l, b => if hasW b x = true then 1 + comN l b else comN l b
theorem comN_at (ws b : List ByteArray) (k : Nat) (hk : k < ws.length) : comN (ws.drop k) b = if hasW b ws[k] = true then 1 + comN (ws.drop (k + 1)) b else comN (ws.drop (k + 1)) b := by
  rw [List.drop_eq_getElem_cons hk]; rfl
theorem comN_end (ws b : List ByteArray) (k : Nat) (hk : ws.length ≤ k) : comN (ws.drop k) b = 0 := by rw [List.drop_of_length_le hk]; rfl
theorem comN_le : ∀ (ws b : List ByteArray), comN ws b ≤ ws.length := by
  intro ws b
  induction ws with
  | nil => exact Nat.le_refl _
  | cons x l ih => unfold comN; split <;> simp <;> omega

end Go.Proofs.YtplpeeienpaaeaaDoor
