/- Registers, part 3: the reference's value of digits. -/
import Derived.Test.YtplpeeienpaaeaaDoorReg2
namespace Go.Proofs.YtplpeeienpaaeaaDoor
open Go.RowKit Go.Joins

/-- the value of digits, the least one first; at most one more than the greatest value -/
def capV (b : Int) : List Int → Int
  | [] => 0
  | d :: ds => if 1000000000001 < capV b ds * b + d then 1000000000001 else capV b ds * b + d
def digB (b : Int) (zs : List Int) : Bool := zs.all fun z => inB z 0 (b - 1)
theorem digB_at {b : Int} {zs : List Int} (h : digB b zs = true) (k : Nat) (hk : k < zs.length) : 0 ≤ zs[k] ∧ zs[k] ≤ b - 1 := by
  have := List.all_eq_true.1 h zs[k] (List.getElem_mem hk)
  simpa [inB] using this
theorem capV_bd (b : Int) (hb : 2 ≤ b) : ∀ zs : List Int, digB b zs = true → 0 ≤ capV b zs ∧ capV b zs ≤ 1000000000001 := by
  intro zs
  induction zs with
  | nil => intro _; simp [capV]
  | cons d ds ih =>
    intro h
    have h1 : 0 ≤ d := by
      have := digB_at h 0 (by simp)
      simpa using this.1
    have h2 := ih (by unfold digB at *; simp at h; simpa using h.2)
    have h3 := Int.mul_nonneg h2.1 (by omega : 0 ≤ b)
    unfold capV
    split <;> omega
theorem digB_drop {b : Int} {zs : List Int} (h : digB b zs = true) (k : Nat) : digB b (zs.drop k) = true := by
  unfold digB at *
  rw [List.all_eq_true] at *
  exact fun z hz => h z (List.mem_of_mem_drop hz)
theorem capV_at (b : Int) (zs : List Int) (k : Nat) (hk : k < zs.length) : capV b (zs.drop k) = if 1000000000001 < capV b (zs.drop (k + 1)) * b + zs[k] then 1000000000001 else capV b (zs.drop (k + 1)) * b + zs[k] := by
  rw [List.drop_eq_getElem_cons hk]; rfl

end Go.Proofs.YtplpeeienpaaeaaDoor
