/- The sum of bytes on both sides, without a law (for seats that lack FnExactSumOfBytes). -/
import Derived.Test.YtplpeeienpaaeaaDoorLib
import Derived.Test.YtplpeeienpaaeaaDoorBase
namespace Go.Proofs.YtplpeeienpaaeaaDoor
open Go.RowKit

theorem take_snocS (s : ByteArray) (k : Nat) (h : k < s.size) : s.data.toList.take (k + 1) = s.data.toList.take k ++ [s[k]] := by
  rw [List.take_succ_eq_append_getElem (by simpa using h)]; rfl
/-- the sum of bytes -/
def sumB (l : List UInt8) : Int := l.foldl (fun s c => (31 * s + (c.toNat : Int) + 1) % 65521) 7
theorem sumB_snoc (l : List UInt8) (c : UInt8) : sumB (l ++ [c]) = (31 * sumB l + (c.toNat : Int) + 1) % 65521 := by simp [sumB]
theorem sumB_bd (l : List UInt8) : 0 ≤ sumB l ∧ sumB l < 65521 := by
  have : ∀ (l : List UInt8) (s : Int), 0 ≤ s → s < 65521 → 0 ≤ l.foldl (fun s c => (31 * s + (c.toNat : Int) + 1) % 65521) s ∧ l.foldl (fun s c => (31 * s + (c.toNat : Int) + 1) % 65521) s < 65521 := by
    intro l
    induction l with
    | nil => intro s h0 h1; exact ⟨h0, h1⟩
    | cons c l ih => intro s h0 h1; exact ih _ (by simp only []; omega) (by simp only []; omega)
  exact this l 7 (by omega) (by omega)

end Go.Proofs.YtplpeeienpaaeaaDoor
