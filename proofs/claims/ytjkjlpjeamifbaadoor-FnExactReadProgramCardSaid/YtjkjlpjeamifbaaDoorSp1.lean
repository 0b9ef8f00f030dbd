/- Texts cut at a byte, part 1: plain laws. -/
import Derived.Test.YtjkjlpjeamifbaaDoorJr3
namespace Go.Proofs.YtjkjlpjeamifbaaDoor

/-- the parts of a text between bytes c -/
def splitB (c : UInt8) (s : ByteArray) : List ByteArray :=
  if h : fnd c s < s.size then s.extract 0 (fnd c s) :: splitB c (s.extract (fnd c s + 1) s.size) else [s]
termination_by s.size
decreasing_by rw [ByteArray.size_extract]; omega
theorem splitB_yes {c : UInt8} {s : ByteArray} (h : fnd c s < s.size) : splitB c s = s.extract 0 (fnd c s) :: splitB c (s.extract (fnd c s + 1) s.size) := by
  rw [splitB, dif_pos h]
theorem splitB_no {c : UInt8} {s : ByteArray} (h : s.size ≤ fnd c s) : splitB c s = [s] := by
  rw [splitB, dif_neg (by omega)]
theorem tail_sizeS (s : ByteArray) (f : Nat) : (s.extract f s.size).size = s.size - f := by rw [ByteArray.size_extract]; omega
theorem tail_cut (s : ByteArray) (f i : Nat) (h : f ≤ i) (hi : i ≤ s.size) : (s.extract f s.size).extract 0 (i - f) = s.extract f i := by
  rw [ByteArray.extract_extract, Nat.add_zero, show f + (i - f) = i by omega, Nat.min_eq_left hi]
theorem tail_tail (s : ByteArray) (f i : Nat) (h : f ≤ i) (hf : f ≤ s.size) : (s.extract f s.size).extract (i - f) (s.size - f) = s.extract i s.size := by
  rw [ByteArray.extract_extract, show f + (i - f) = i by omega, show f + (s.size - f) = s.size by omega, Nat.min_self]
/-- the walk of the reference: a byte c at i, the part begins at f -/
theorem sp_hit {c : UInt8} {s : ByteArray} {f i : Nat} (h : f ≤ i) (hi : i < s.size) (hf : i - f ≤ fnd c (s.extract f s.size)) (hc : s[i] = c) :
    splitB c (s.extract f s.size) = s.extract f i :: splitB c (s.extract (i + 1) s.size) := by
  have hz := tail_sizeS s f
  have he : fnd c (s.extract f s.size) = i - f := by
    refine fnd_eq c _ (i - f) hf (by omega) ?_
    rw [ByteArray.getElem_extract]
    simp only [show f + (i - f) = i by omega]
    exact hc
  rw [splitB_yes (by omega), he, tail_cut s f i h (by omega), hz, show i - f + 1 = i + 1 - f by omega, tail_tail s f (i + 1) (by omega) (by omega)]
theorem sp_miss {c : UInt8} {s : ByteArray} {f i : Nat} (h : f ≤ i) (hi : i < s.size) (hf : i - f ≤ fnd c (s.extract f s.size)) (hc : s[i] ≠ c) :
    i + 1 - f ≤ fnd c (s.extract f s.size) := by
  have hz := tail_sizeS s f
  have he := fnd_ne c (s.extract f s.size) (i - f) hf (by omega) (by
    rw [ByteArray.getElem_extract]
    simp only [show f + (i - f) = i by omega]
    exact hc)
  omega
theorem sp_end {c : UInt8} {s : ByteArray} {f : Nat} (hf : s.size - f ≤ fnd c (s.extract f s.size)) : splitB c (s.extract f s.size) = [s.extract f s.size] :=
  splitB_no (by rw [tail_sizeS]; exact hf)
theorem splitB_ne (c : UInt8) (s : ByteArray) : splitB c s ≠ [] := by
  rw [splitB]; split <;> simp
theorem splitB_len (c : UInt8) : ∀ (n : Nat) (s : ByteArray), s.size ≤ n → (splitB c s).length ≤ s.size + 1 := by
  intro n
  induction n with
  | zero =>
    intro s h
    have := fnd_le c s
    rw [splitB_no (by omega)]; simp
  | succ n ih =>
    intro s h
    rcases Nat.lt_or_ge (fnd c s) s.size with h1 | h1
    · rw [splitB_yes h1, List.length_cons]
      have hz := tail_sizeS s (fnd c s + 1)
      have := ih (s.extract (fnd c s + 1) s.size) (by omega)
      omega
    · rw [splitB_no h1]; simp
/-- the lines of a text that ends with c, none where it does not -/
def linesB (c : UInt8) (s : ByteArray) : Option (List ByteArray) := if (splitB c s).getLast? = some ⟨#[]⟩ then some (splitB c s).dropLast else none
end Go.Proofs.YtjkjlpjeamifbaaDoor
