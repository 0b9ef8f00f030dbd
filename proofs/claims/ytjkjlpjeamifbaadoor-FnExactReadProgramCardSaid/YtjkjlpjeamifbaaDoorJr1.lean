/- Journals, part 1: what a note and a line is; isNote, l26Note, l26Head, l26Line, next. -/
import Derived.Test.YtjkjlpjeamifbaaDoorDec
import Derived.Test.YtjkjlpjeamifbaaDoorNote
namespace Go.Proofs.YtjkjlpjeamifbaaDoor
open Go.RowKit Go.Joins

/-- every byte can be printed -/
def okByte (c : UInt8) : Bool := decide (32 ≤ (c.toNat : Int)) && decide ((c.toNat : Int) ≤ 126)
def noteOk (l : List UInt8) : Bool := l.all okByte && decide (l.length ≤ 60)

theorem ba_mem (s : ByteArray) (k : Nat) (h : k < s.size) : s[k] ∈ s.data.toList := List.getElem_mem (l := s.data.toList) (n := k) (by simpa using h)
theorem noteOk_no (s : ByteArray) (c : UInt8) (hc : c ∈ s.data.toList) (h : okByte c = false) : noteOk s.data.toList = false := by
  unfold noteOk
  rw [Bool.and_eq_false_iff]; left
  rw [List.all_eq_false]
  exact ⟨c, hc, by simp [h]⟩
theorem noteOk_end (s : ByteArray) (k : Nat) (hk : s.size ≤ k) (h : (s.data.toList.take k).all okByte = true) : noteOk s.data.toList = decide ((s.size : Int) ≤ 60) := by
  unfold noteOk
  rw [List.take_of_length_le (by simpa using hk)] at h
  rw [h, Bool.true_and, show s.data.toList.length = s.size from rfl, Bool.eq_iff_iff]
  simp; omega
theorem all_snoc (s : ByteArray) (k : Nat) (hlt : k < s.size) (h : (s.data.toList.take k).all okByte = true) (hc : okByte s[k] = true) : (s.data.toList.take (k + 1)).all okByte = true := by
  rw [take_snoc s k hlt, List.all_append, h]; simpa using hc

end Go.Proofs.YtjkjlpjeamifbaaDoor
