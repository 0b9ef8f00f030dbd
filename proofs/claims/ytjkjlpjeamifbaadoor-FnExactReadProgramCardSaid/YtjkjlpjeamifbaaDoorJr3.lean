/- Journals, part 3: cut. -/
import Derived.Test.YtjkjlpjeamifbaaDoorJr2
namespace Go.Proofs.YtjkjlpjeamifbaaDoor
open Go.RowKit Go.Joins

/-- the first place of a byte in a text; its size if there is none -/
def fnd (c : UInt8) (s : ByteArray) : Nat := s.data.toList.findIdx (· == c)
theorem fnd_le (c : UInt8) (s : ByteArray) : fnd c s ≤ s.size := by
  have : fnd c s ≤ s.data.toList.length := List.findIdx_le_length
  simpa using this
theorem fnd_eq (c : UInt8) (s : ByteArray) (k : Nat) (hk : k ≤ fnd c s) (hlt : k < s.size) (h : s[k] = c) : fnd c s = k := by
  refine Nat.le_antisymm (Nat.le_of_not_lt fun hl => ?_) hk
  have := List.not_of_lt_findIdx (p := (· == c)) (xs := s.data.toList) (i := k) hl
  have h' : s.data.toList[k]'(by simpa using hlt) = c := by rw [← h]; rfl
  simp [h'] at this
theorem fnd_ne (c : UInt8) (s : ByteArray) (k : Nat) (hk : k ≤ fnd c s) (hlt : k < s.size) (h : s[k] ≠ c) : k + 1 ≤ fnd c s := by
  rcases Nat.lt_or_ge k (fnd c s) with hl | hg
  · exact hl
  · exfalso
    have he : fnd c s = k := Nat.le_antisymm hg hk
    have := List.findIdx_getElem (p := (· == c)) (xs := s.data.toList) (w := by show fnd c s < s.data.toList.length; rw [he]; simpa using hlt)
    have hh : s.data.toList[fnd c s]'(by rw [he]; simpa using hlt) = c := by simpa [fnd] using this
    simp only [he] at hh
    exact h (by rw [← hh]; rfl)
theorem ext_all (s : ByteArray) : s.extract 0 s.size = s := by
  apply ByteArray.ext; simp
theorem ext_none (s : ByteArray) : s.extract (s.size + 1) s.size = ⟨#[]⟩ := by
  apply ByteArray.ext; simp
theorem one_byte (s : ByteArray) (k : Nat) (hlt : k < s.size) : s.extract k (k + 1) = ⟨#[s[k]]⟩ := by
  apply ByteArray.ext
  have hl : k < s.data.size := hlt
  apply Array.ext
  · simp; omega
  · intro i h1 h2
    have hi : i = 0 := by simp at h2; omega
    subst hi
    simp; rfl

set_option maxRecDepth 100000 in
set_option maxHeartbeats 1000000 in
theorem cut_any (s : ByteArray) (c : UInt8) (w : World) (hs : s.size ≤ 1073741824) :
    Calls Tryd.prog 33 #[.string s, .string ⟨#[c]⟩] w fun e w' => e = .returned (.tuple #[.string (s.extract 0 (fnd c s)), .string (s.extract (fnd c s + 1) s.size), .bool (decide (fnd c s < s.size))]) ∧ ∃ n, w' = w.drewN n := by
  have h1 : (⟨#[c]⟩ : ByteArray).size = 1 := rfl
  go_enter Tryd.func33, Tryd.ntmps33
  go_wp2_with fail
  go_loop [7] (fun i => ∃ k : Nat, k ≤ fnd c s ∧ i = .int .i64 k) (fun i => s.size - (intOf i).toNat)
  case atStart => exact ⟨0, Nat.zero_le _, rfl⟩
  case round =>
    obtain ⟨k, hk, rfl⟩ := hrel
    have hfl := fnd_le c s
    by_cases hlt : k < s.size
    · have hsl := one_byte s k hlt
      by_cases he : s[k] = c
      · have hf := Lib.hid (fnd_eq c s k hk hlt he)
        rw [he] at hsl
        clear he
        go_wp2_with fail
        go_quiet (fail)
        go_wp2_with fail
        go_ret3
        rw [hf.out]; exact ⟨by simp [hlt], _, rfl⟩
      · have hf := Lib.hid (fnd_ne c s k hk hlt he)
        have hb : ((⟨#[s[k]]⟩ : ByteArray).toList == [c]) = false := by
          rw [beq_eq_false_iff_ne]; exact fun h => he (by rw [ByteArray.toList_eq] at h; simpa using h)
        generalize (⟨#[s[k]]⟩ : ByteArray) = o at *
        go_wp2_with fail
        go_round
        case rel => exact ⟨k + 1, hf.out, by go_num⟩
        case measure => simp [intOf]; omega
    · have hf := Lib.hid (show fnd c s = s.size by omega)
      have he1 := ext_all s
      have he2 := ext_none s
      go_wp2_with fail
      go_ret3
      rw [hf.out]; exact ⟨by rw [he1, he2]; simp, 0, rfl⟩
end Go.Proofs.YtjkjlpjeamifbaaDoor
