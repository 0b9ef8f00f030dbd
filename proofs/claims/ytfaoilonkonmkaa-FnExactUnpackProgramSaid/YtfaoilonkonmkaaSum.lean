/- The sum of bytes on both sides, without a law (for seats that lack FnExactSumOfBytes). -/
import Derived.Test.YtfaoilonkonmkaaLib
import Derived.Test.YtfaoilonkonmkaaBase
namespace Go.Proofs.Ytfaoilonkonmkaa
open Go.RowKit

theorem take_snoc (s : ByteArray) (k : Nat) (h : k < s.size) : s.data.toList.take (k + 1) = s.data.toList.take k ++ [s[k]] := by
  rw [List.take_succ_eq_append_getElem (by simpa using h)]; rfl
/-- the sum of bytes -/
def sumB (l : List UInt8) : Int := l.foldl (fun s c => (31 * s + (c.toNat : Int) + 1) % 65521) 7
theorem sumB_snoc (l : List UInt8) (c : UInt8) : sumB (l ++ [c]) = (31 * sumB l + (c.toNat : Int) + 1) % 65521 := by simp [sumB]
theorem sumB_bd (l : List UInt8) : 0 ≤ sumB l ∧ sumB l < 65521 := by
  have : ∀ (l : List UInt8) (s : Int), 0 ≤ s → s < 65521 → 0 ≤ l.foldl (fun s c => (31 * s + (c.toNat : Int) + 1) % 65521) s ∧ l.foldl (fun s c => (31 * s + (c.toNat : Int) + 1) % 65521) s < 65521 := by
    intro l
    induction l with
    | nil => intro s h0 h1; exact ⟨h0, h1⟩
    | cons c l ih => intro s h0 h1; exact ih _ (by simp only []; omega) (by simp only []; omega)
  exact this l 7 (by omega) (by omega)

set_option maxHeartbeats 400000 in
theorem l27Sum_any (s : ByteArray) (w : World) (hs : s.size ≤ maxLen) :
    Calls Try.prog 139 #[.string s] w fun e w' => e = .returned (.int .i64 (sumB s.data.toList)) ∧ w = w' := by
  unfold maxLen at hs
  have hbd := sumB_bd
  go_enter Try.func139, Try.ntmps139
  go_wp2_with fail
  go_loop [3, 4] (fun n i => ∃ k : Nat, k ≤ s.size ∧ i = .int .i64 k ∧ n = .int .i64 (sumB (s.data.toList.take k))) (fun _ i => s.size - (intOf i).toNat)
  case atStart => exact ⟨0, Nat.zero_le _, rfl, rfl⟩
  case round =>
    obtain ⟨k, hk, rfl, rfl⟩ := hrel
    have hbk := hbd (s.data.toList.take k)
    by_cases hlt : k < s.size
    · have HS := Lib.hid (sumB_snoc (s.data.toList.take k) s[k])
      have HT := Lib.hid (take_snoc s k hlt)
      have hc : (s[k].toNat : Int) < 256 := by have := s[k].toNat_lt; omega
      obtain ⟨hbk1, hbk2⟩ := hbk
      clear hbd
      generalize sumB (s.data.toList.take k) = q at *
      go_wp2_with fail
      go_round
      case rel => exact ⟨k + 1, by omega, by go_num, by rw [HT.out, HS.out]⟩
      case measure => simp [intOf]; omega
    · go_wp2_with fail
      go_ret
      rw [List.take_of_length_le (by simp; omega)]; simp

set_option maxHeartbeats 400000 in
theorem SumI_any (s : ByteArray) (w : World) (hs : s.size ≤ maxLen) :
    Calls Try.prog 142 #[.string s] w fun e w' => e = .returned (.int .i64 (sumB s.data.toList)) ∧ w = w' := by
  unfold maxLen at hs
  have hbd := sumB_bd
  go_enter Try.func142, Try.ntmps142
  go_wp2_with fail
  go_loop [3, 7] (fun n i => ∃ k : Nat, k ≤ s.size ∧ i = .int .i64 k ∧ n = .int .i64 (sumB (s.data.toList.take k))) (fun _ i => s.size - (intOf i).toNat)
  case atStart => exact ⟨0, Nat.zero_le _, rfl, rfl⟩
  case round =>
    obtain ⟨k, hk, rfl, rfl⟩ := hrel
    have hbk := hbd (s.data.toList.take k)
    by_cases hlt : k < s.size
    · have HS := Lib.hid (sumB_snoc (s.data.toList.take k) s[k])
      have HT := Lib.hid (take_snoc s k hlt)
      have hc : (s[k].toNat : Int) < 256 := by have := s[k].toNat_lt; omega
      obtain ⟨hbk1, hbk2⟩ := hbk
      clear hbd
      generalize sumB (s.data.toList.take k) = q at *
      go_wp2_with fail
      go_round
      case rel => exact ⟨k + 1, by omega, by go_num, by rw [HT.out, HS.out]⟩
      case measure => simp [intOf]; omega
    · go_wp2_with fail
      go_ret
      rw [List.take_of_length_le (by simp; omega)]; simp

end Go.Proofs.Ytfaoilonkonmkaa
