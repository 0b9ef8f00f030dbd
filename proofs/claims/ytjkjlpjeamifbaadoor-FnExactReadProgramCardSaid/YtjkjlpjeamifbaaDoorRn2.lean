/- Numbers read from texts, part 2: ReadDecimal and l01Number (under way). -/
import Derived.Test.YtjkjlpjeamifbaaDoorRn1
namespace Go.Proofs.YtjkjlpjeamifbaaDoor
open Go.RowKit Go.Joins

def RetN1 (w : World) (s : ByteArray) (e : Ending) (w' : World) : Prop := e = .returned (.tuple #[.int .i64 ((readN s).getD 0), .bool (readN s).isSome]) ∧ Below w.heap.size w w'
theorem head_sizeN {s : ByteArray} (h : s.data.toList.head? = some 45) : ∃ h0 : 0 < s.size, s[0] = 45 := by
  have h0 : 0 < s.size := by
    rcases Nat.eq_zero_or_pos s.size with h1 | h1
    · have : s.data.toList = [] := List.eq_nil_of_length_eq_zero (by simpa using h1)
      rw [this] at h; simp at h
    · exact h1
  refine ⟨h0, ?_⟩
  have h2 : s.data.toList.head? = some s[0] := by
    rw [List.head?_eq_getElem?, List.getElem?_eq_getElem (by simpa using h0)]
    rfl
  rw [h2] at h
  exact Option.some.inj h
theorem head_not {s : ByteArray} (h : ¬ s.data.toList.head? = some 45) (h0 : 0 < s.size) : s[0] ≠ 45 := by
  intro e
  refine h ?_
  rw [List.head?_eq_getElem?, List.getElem?_eq_getElem (by simpa using h0)]
  rw [← e]; rfl
theorem take_at (s : ByteArray) (k : Nat) (hk : k < s.size) : numVN (s.data.toList.take (k + 1)) = 10 * numVN (s.data.toList.take k) + (s[k].toNat - 48) := by
  rw [List.take_succ_eq_append_getElem (by simpa using hk), numVN_snoc]
  rfl
theorem readN_none {s : ByteArray} (h : (bodyN s).size = 0 ∨ 18 < (bodyN s).size) : readN s = none := by unfold readN; rw [if_pos h]
theorem readN_bad {s : ByteArray} (k : Nat) (hk : k < (bodyN s).size) (h : isDg (bodyN s)[k] = false) : readN s = none := by
  unfold readN
  split
  · rfl
  · rw [if_neg]
    intro ha
    have := List.all_eq_true.1 ha (bodyN s)[k] (List.getElem_mem (l := (bodyN s).data.toList) (n := k) (by simpa using hk))
    rw [h] at this; cases this
theorem readN_val {s : ByteArray} (h1 : ¬((bodyN s).size = 0 ∨ 18 < (bodyN s).size)) (h2 : ∀ c ∈ (bodyN s).data.toList, isDg c = true) : readN s = if decS (valN s) = s then some (valN s) else none := by
  unfold readN
  rw [if_neg h1, if_pos (List.all_eq_true.2 h2)]
theorem valN_bd {s : ByteArray} (h1 : ¬((bodyN s).size = 0 ∨ 18 < (bodyN s).size)) (h2 : ∀ c ∈ (bodyN s).data.toList, isDg c = true) : numVN (bodyN s).data.toList < 1000000000000000000 := by
  have h := numVN_lt _ h2
  have h3 : (10 : Nat) ^ (bodyN s).data.toList.length ≤ 10 ^ 18 := Nat.pow_le_pow_right (by omega) (by
    have : (bodyN s).data.toList.length = (bodyN s).size := by simp
    omega)
  have h4 : (10 : Nat) ^ 18 = 1000000000000000000 := by decide
  omega
end Go.Proofs.YtjkjlpjeamifbaaDoor
