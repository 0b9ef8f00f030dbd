/- NoteSum: the walks of both sides. -/
import Derived.Test.YtjkjlpjeamifbaaDoorBase
namespace Go.Proofs.YtjkjlpjeamifbaaDoor
open Go.RowKit

theorem take_snoc (s : ByteArray) (k : Nat) (h : k < s.size) : s.data.toList.take (k + 1) = s.data.toList.take k ++ [s[k]] := by
  rw [List.take_succ_eq_append_getElem (by simpa using h)]; rfl

/-- the checksum's fold -/
def sumF (s0 : Int) (l : List UInt8) : Int := l.foldl (fun s c => (31 * s + (c.toNat : Int)) % 65521) s0
theorem sumF_snoc (s0 : Int) (l : List UInt8) (c : UInt8) : sumF s0 (l ++ [c]) = (31 * sumF s0 l + (c.toNat : Int)) % 65521 := by simp [sumF]
theorem sumF_bd (s0 : Int) (h0 : 0 ≤ s0) (h1 : s0 < 65521) (l : List UInt8) : 0 ≤ sumF s0 l ∧ sumF s0 l < 65521 := by
  unfold sumF
  induction l generalizing s0 with
  | nil => exact ⟨h0, h1⟩
  | cons c l ih => exact ih _ (by simp only []; omega) (by simp only []; omega)

def noteSum (before number : Int) (l : List UInt8) : Int :=
  if inB before 0 65520 && inB number 0 1000000 then sumF ((before + 7 * number) % 65521) l else 0

end Go.Proofs.YtjkjlpjeamifbaaDoor
