/- Registers, part 9: CompareRegisters on both sides. -/
import Derived.Test.YtplpeeienpaaeaaDoorReg8
namespace Go.Proofs.YtplpeeienpaaeaaDoor
open Go.RowKit Go.Joins

def cmpV (b1 : Int) (z1 : List Int) (b2 : Int) (z2 : List Int) : Int :=
  if codeTwo b1 z1 b2 z2 ≠ 0 then 0 else if capV b1 z1 < capV b2 z2 then -1 else if capV b2 z2 < capV b1 z1 then 1 else 0

/-- two boxed registers at the blocks N and N + 1 -/
theorem two_boxes (w : World) (x1 y1 x2 y2 : Value) (t1 t2 : TypeId) (w0 : World) (h : (w.alloc (.cells #[x1, y1] t1)).alloc (.cells #[x2, y2] t2) = w0) :
    Below w.heap.size w w0 ∧ w0.heap[w.heap.size]? = some (.cells #[x1, y1] t1 (0, 0)) ∧ w0.heap[w.heap.size + 1]? = some (.cells #[x2, y2] t2 (0, 0)) ∧ w0.heap.size = w.heap.size + 2 := by
  subst h
  refine ⟨((Below.refl w.heap.size w).alloc (Nat.le_refl _) _).alloc (by simp) _, (Below.heap_alloc _ _ _ (by simp)).trans (heap_alloc_new w _), ?_, by simp⟩
  have := heap_alloc_new (w.alloc (.cells #[x1, y1] t1)) (.cells #[x2, y2] t2)
  simpa using this

end Go.Proofs.YtplpeeienpaaeaaDoor
