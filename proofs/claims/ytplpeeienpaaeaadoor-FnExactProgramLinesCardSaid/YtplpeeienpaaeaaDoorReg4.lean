/- Registers, part 4: the digits of a base, on the reference's side. -/
import Derived.Test.YtplpeeienpaaeaaDoorReg3
namespace Go.Proofs.YtplpeeienpaaeaaDoor
open Go.RowKit Go.Joins

def okD (b : Int) (zs : List Int) : Bool := digB b zs && inB (zs.length : Int) 1 16
theorem digB_bad (b : Int) (zs : List Int) (k : Nat) (hk : k < zs.length) (h : inB zs[k] 0 (b - 1) = false) : digB b zs = false := by
  unfold digB
  rw [List.all_eq_false]
  exact ⟨_, List.getElem_mem hk, by simp [h]⟩
theorem digB_step (b : Int) (zs : List Int) (k : Nat) (hk : k < zs.length) (h0 : digB b (zs.take k) = true) (h : inB zs[k] 0 (b - 1) = true) : digB b (zs.take (k + 1)) = true := by
  unfold digB at *
  rw [List.take_succ_eq_append_getElem hk, List.all_append, h0]
  simp [h]

end Go.Proofs.YtplpeeienpaaeaaDoor
