/- Fewest turns, part 3: the rule in the program; the number of turns. -/
import Derived.Test.YtdljlemgaefbpaaFew2
namespace Go.Proofs.Ytdljlemgaefbpaa
open Go.RowKit Go.Joins

theorem few_step {b m N : Nat} (hb : 2 ≤ b) (hm : 0 < m) {acc : List Int} (h : acc ++ few b m = few b N) : (acc ++ [dgF b m]) ++ few b (nxF b m) = few b N := by
  rw [← h, List.append_assoc]; congr 1; exact (gn_pos (nxF_lt hb) hm).symm
theorem low_cases (b m : Nat) : (2 * (m % b) < b ∧ dgF b m = ((m % b : Nat) : Int) ∧ nxF b m = m / b) ∨ (2 * (m % b) = b ∧ 2 * (m / b % b) + 1 < b ∧ dgF b m = ((m % b : Nat) : Int) ∧ nxF b m = m / b) ∨
    (2 * (m % b) = b ∧ b ≤ 2 * (m / b % b) + 1 ∧ dgF b m = ((m % b : Nat) : Int) - (b : Int) ∧ nxF b m = m / b + 1) ∨ (b < 2 * (m % b) ∧ dgF b m = ((m % b : Nat) : Int) - (b : Int) ∧ nxF b m = m / b + 1) := by
  unfold dgF nxF
  by_cases h1 : 2 * (m % b) < b
  · rw [if_pos (lowT_iff.2 (.inl h1)), if_pos (lowT_iff.2 (.inl h1))]; exact .inl ⟨h1, rfl, rfl⟩
  · by_cases h2 : 2 * (m % b) = b
    · by_cases h3 : 2 * (m / b % b) + 1 < b
      · rw [if_pos (lowT_iff.2 (.inr ⟨h2, h3⟩)), if_pos (lowT_iff.2 (.inr ⟨h2, h3⟩))]; exact .inr (.inl ⟨h2, h3, rfl, rfl⟩)
      · rw [if_neg (by rw [lowT_iff]; omega), if_neg (by rw [lowT_iff]; omega)]; exact .inr (.inr (.inl ⟨h2, by omega, rfl, rfl⟩))
    · rw [if_neg (by rw [lowT_iff]; omega), if_neg (by rw [lowT_iff]; omega)]; exact .inr (.inr (.inr ⟨by omega, rfl, rfl⟩))

/-- a list of numbers, read -/
def RdI (w : World) (B : Nat) (v : Value) (l : List Int) : Prop := Rd w B v l.length 1 (nmV l)
theorem RdI.tab {w : World} {B : Nat} {v : Value} {l : List Int} (h : RdI w B v l) : Rd w B v l.length 1 (tab l.length (at0 l)) := by rw [← nmV_tab]; exact h
theorem cnt_take (l : List Int) (k : Nat) (hk : k < l.length) : cnt (l.take (k + 1)) = cnt (l.take k) + (at0 l k).natAbs := by
  rw [List.take_succ_eq_append_getElem hk, cnt_app]
  simp [cnt, at0, List.getD, hk]
theorem cnt_le {l : List Int} {M : Nat} (h : ∀ k, k < l.length → (at0 l k).natAbs ≤ M) : ∀ k, k ≤ l.length → cnt (l.take k) ≤ k * M
  | 0, _ => by simp [cnt]
  | k + 1, hk => by
    have h1 := cnt_le h k (by omega)
    have h2 := h k (by omega)
    rw [cnt_take l k (by omega), Nat.add_mul]; omega

end Go.Proofs.Ytdljlemgaefbpaa
