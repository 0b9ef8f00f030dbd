/- A program's line, read: the plain law. -/
import Derived.Test.YtjkjlpjeamifbaaDoorPl1
import Derived.Test.YtjkjlpjeamifbaaDoorSp1
import Derived.Test.YtjkjlpjeamifbaaDoorRn2
namespace Go.Proofs.YtjkjlpjeamifbaaDoor

/-- the number of a word: the last one that fits -/
def opF (x : ByteArray) : Nat → Nat
  | 0 => 0
  | k + 1 => if 0 < k ∧ wordP k = x then k else opF x k
theorem opF_yes {x : ByteArray} {k : Nat} (h : 0 < k) (hw : wordP k = x) : opF x (k + 1) = k := if_pos ⟨h, hw⟩
theorem opF_no {x : ByteArray} {k : Nat} (hw : wordP k ≠ x) : opF x (k + 1) = opF x k := if_neg fun h => hw h.2
theorem opF_le (x : ByteArray) : ∀ k, opF x k ≤ k - 1 := by
  intro k
  induction k with
  | zero => simp [opF]
  | succ k ih =>
    unfold opF
    split
    · omega
    · omega
theorem opF_word (x : ByteArray) : ∀ k, opF x k ≠ 0 → wordP (opF x k) = x := by
  intro k
  induction k with
  | zero => intro h; exact absurd rfl h
  | succ k ih =>
    intro h
    by_cases hc : 0 < k ∧ wordP k = x
    · rw [show opF x (k + 1) = k from if_pos hc]; exact hc.2
    · rw [show opF x (k + 1) = opF x k from if_neg hc] at h ⊢; exact ih h
def opW (x : ByteArray) : Nat := opF x 11
theorem opW_le (x : ByteArray) : opW x ≤ 10 := opF_le x 11
def wordL (s : ByteArray) : ByteArray := s.extract 0 (fnd 32 s)
def restL (s : ByteArray) : ByteArray := s.extract (fnd 32 s + 1) s.size
def argW (n : Nat) (r : ByteArray) : Int := if n = 1 ∨ n = 8 then (readN r).getD 0 else if n = 2 ∨ n = 3 ∨ n = 4 ∨ n = 5 then (readN r).getD 1 else 0
/-- a line, read: operation, number, fault -/
def rl (s : ByteArray) : Int × Int × Int :=
  if opW (wordL s) = 0 then (0, 0, 1)
  else if okIns (opW (wordL s)) (argW (opW (wordL s)) (restL s)) = true ∧ lineP (opW (wordL s)) (argW (opW (wordL s)) (restL s)) = s then ((opW (wordL s) : Int), argW (opW (wordL s)) (restL s), 0)
  else (0, 0, 2)
theorem rl_none {s : ByteArray} (h : opW (wordL s) = 0) : rl s = (0, 0, 1) := if_pos h
theorem rl_bad {s : ByteArray} {n : Nat} {a : Int} (hn : opW (wordL s) = n) (h0 : n ≠ 0) (ha : argW n (restL s) = a) (h : ¬(okIns n a = true ∧ lineP n a = s)) : rl s = (0, 0, 2) := by
  subst hn; subst ha
  unfold rl; rw [if_neg h0, if_neg h]
theorem rl_good {s : ByteArray} {n : Nat} {a : Int} (hn : opW (wordL s) = n) (h0 : n ≠ 0) (ha : argW n (restL s) = a) (h : okIns n a = true ∧ lineP n a = s) : rl s = ((n : Int), a, 0) := by
  subst hn; subst ha
  unfold rl; rw [if_neg h0, if_pos h]
theorem word_of {s : ByteArray} {n : Nat} (hn : opW (wordL s) = n) (h0 : n ≠ 0) : wordP n = wordL s := by
  subst hn; exact opF_word _ _ h0
/- numbers -/
theorem readN_dec {r : ByteArray} {a : Int} (h : readN r = some a) : decS a = r := by
  unfold readN at h
  split at h
  · cases h
  · split at h
    · split at h
      · rename_i he
        rw [← Option.some.inj h]; exact he
      · cases h
    · cases h
theorem readN_none_of {r : ByteArray} (k : Nat) (hk : k < r.size) (h1 : isDg r[k] = false) (h2 : r[k] ≠ 45) : readN r = none := by
  by_cases hh : r.data.toList.head? = some 45
  · obtain ⟨h0, he⟩ := head_sizeN hh
    have hT : bodyN r = r.extract 1 r.size := by unfold bodyN; rw [if_pos hh]
    have hk0 : k ≠ 0 := by
      intro e; subst e; exact h2 he
    have hz : (bodyN r).size = r.size - 1 := by rw [hT, ByteArray.size_extract]; omega
    refine readN_bad (k - 1) (by omega) ?_
    have : (bodyN r)[k - 1]'(by omega) = r[k] := by
      simp only [hT]
      rw [ByteArray.getElem_extract]
      simp only [show 1 + (k - 1) = k by omega]
    rw [this]; exact h1
  · have hT : bodyN r = r := by unfold bodyN; rw [if_neg hh]
    refine readN_bad k (by rw [hT]; exact hk) ?_
    simp only [hT]; exact h1
theorem fnd_at (c : UInt8) (s : ByteArray) (h : fnd c s < s.size) : s[fnd c s] = c := by
  have := List.findIdx_getElem (p := (· == c)) (xs := s.data.toList) (w := by show fnd c s < s.data.toList.length; simpa using h)
  have hh : s.data.toList[fnd c s]'(by simpa using h) = c := by simpa [fnd] using this
  exact hh
theorem readN_blank {r : ByteArray} (h : fnd 32 r < r.size) : readN r = none := by
  have he := fnd_at 32 r h
  exact readN_none_of (fnd 32 r) h (by rw [he]; decide) (by rw [he]; decide)
theorem readN_nil : readN ⟨#[]⟩ = none := by
  refine readN_none (.inl ?_)
  unfold bodyN
  rw [if_neg (by simp)]
  rfl
theorem dec_zero : decS 0 = ⟨#[48]⟩ := by
  unfold decS
  rw [show (0 : Int) = ((0 : Nat) : Int) from rfl, Lib.itoa_nonneg, Lib.decDigits_one (by omega)]; rfl
theorem readN_zero : readN ⟨#[48]⟩ = some 0 := by
  have h1 : bodyN ⟨#[48]⟩ = ⟨#[48]⟩ := by decide
  have h2 : valN ⟨#[48]⟩ = 0 := by decide
  unfold readN
  rw [h1, h2, dec_zero]
  decide
/- the shape of a line -/
theorem line_cut {s : ByteArray} (h : fnd 32 s < s.size) : s = wordL s ++ ⟨#[32]⟩ ++ restL s := by
  have he := fnd_at 32 s h
  unfold wordL restL
  have h1 : (⟨#[32]⟩ : ByteArray) = s.extract (fnd 32 s) (fnd 32 s + 1) := by rw [one_byte s _ h, he]
  rw [h1]
  apply ByteArray.ext
  simp only [ByteArray.data_append, ByteArray.data_extract]
  have hz : s.size = s.data.size := rfl
  rw [Array.extract_append_extract, show min 0 (fnd 32 s) = 0 by omega, show max (fnd 32 s) (fnd 32 s + 1) = fnd 32 s + 1 by omega, Array.extract_append_extract, show min 0 (fnd 32 s + 1) = 0 by omega, show max (fnd 32 s + 1) s.size = s.size by omega, ← ByteArray.data_extract, ext_all]
theorem wordL_size {s : ByteArray} : (wordL s).size = fnd 32 s := by
  have := fnd_le 32 s
  unfold wordL; rw [ByteArray.size_extract]; omega
theorem wordL_all {s : ByteArray} (h : fnd 32 s = s.size) : wordL s = s := by unfold wordL; rw [h, ext_all]
theorem restL_none {s : ByteArray} (h : fnd 32 s = s.size) : restL s = ⟨#[]⟩ := by unfold restL; rw [h, ext_none]
end Go.Proofs.YtjkjlpjeamifbaaDoor
