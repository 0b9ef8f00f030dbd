/- NoteSum: the walks of both sides. -/
import Derived.Test.YtcidjbgjgancgaaDoorBase
namespace Go.Proofs.YtcidjbgjgancgaaDoor
open Go.RowKit

theorem take_snoc (s : ByteArray) (k : Nat) (h : k < s.size) : s.data.toList.take (k + 1) = s.data.toList.take k ++ [s[k]] := by
  rw [List.take_succ_eq_append_getElem (by simpa using h)]; rfl

/-- the checksum's fold -/
def sumF (s0 : Int) (l : List UInt8) : Int := l.foldl (fun s c => (31 * s + (c.toNat : Int)) % 65521) s0
theorem sumF_snoc (s0 : Int) (l : List UInt8) (c : UInt8) : sumF s0 (l ++ [c]) = (31 * sumF s0 l + (c.toNat : Int)) % 65521 := by simp [sumF]
theorem sumF_bd (s0 : Int) (h0 : 0 ≤ s0) (h1 : s0 < 65521) (l : List UInt8) : 0 ≤ sumF s0 l ∧ sumF s0 l < 65521 := by
  unfold sumF
  induction l generalizing s0 with
  | nil => exact ⟨h0, h1⟩
  | cons c l ih => exact ih _ (by simp only []; omega) (by simp only []; omega)

def noteSum (before number : Int) (l : List UInt8) : Int :=
  if inB before 0 65520 && inB number 0 1000000 then sumF ((before + 7 * number) % 65521) l else 0

set_option maxHeartbeats 400000 in
theorem specNoteSum (before number : Int) (s : ByteArray) (w : World) (hs : s.size ≤ 1048576) :
    Calls Tryd.prog 49 #[.int .i64 before, .int .i64 number, .string s] w fun e w' => e = .returned (.int .i64 (noteSum before number s.data.toList)) ∧ w = w' := by
  cases hb1 : inB before 0 65520
  · go_enter Tryd.func49, Tryd.ntmps49
    go_wp2_with (go_at_call 58; refine (l00In_any _ _ _ _).mono ?_; rintro e w' ⟨rfl, rfl⟩)
    go_ret
    simp [noteSum, hb1]
  cases hb2 : inB number 0 1000000
  · go_enter Tryd.func49, Tryd.ntmps49
    go_wp2_with (go_at_call 58; refine (l00In_any _ _ _ _).mono ?_; rintro e w' ⟨rfl, rfl⟩)
    go_ret
    simp [noteSum, hb1, hb2]
  have hfin : noteSum before number s.data.toList = sumF ((before + 7 * number) % 65521) s.data.toList := by simp [noteSum, hb1, hb2]
  have Hfin := Lib.hid hfin; clear hfin
  have h1 : 0 ≤ before ∧ before ≤ 65520 := by simpa [inB] using hb1
  have h2 : 0 ≤ number ∧ number ≤ 1000000 := by simpa [inB] using hb2
  obtain ⟨h1a, h1b⟩ := h1
  obtain ⟨h2a, h2b⟩ := h2
  have hbd := sumF_bd ((before + 7 * number) % 65521) (by omega) (by omega)
  go_enter Tryd.func49, Tryd.ntmps49
  go_wp2_with (go_at_call 58; refine (l00In_any _ _ _ _).mono ?_; rintro e w' ⟨rfl, rfl⟩)
  go_loop [7, 8] (fun n i => ∃ k : Nat, k ≤ s.size ∧ i = .int .i64 k ∧ n = .int .i64 (sumF ((before + 7 * number) % 65521) (s.data.toList.take k))) (fun _ i => s.size - (intOf i).toNat)
  case atStart => exact ⟨0, Nat.zero_le _, rfl, rfl⟩
  case round =>
    obtain ⟨k, hk, rfl, rfl⟩ := hrel
    have hbk := hbd (s.data.toList.take k)
    by_cases hlt : k < s.size
    · have HS := Lib.hid (sumF_snoc ((before + 7 * number) % 65521) (s.data.toList.take k) s[k])
      have HT := Lib.hid (take_snoc s k hlt)
      have hc : (s[k].toNat : Int) < 256 := by have := s[k].toNat_lt; omega
      obtain ⟨hbk1, hbk2⟩ := hbk
      clear hbd hb1 hb2
      generalize sumF ((before + 7 * number) % 65521) (s.data.toList.take k) = q at *
      go_wp2
      go_round
      case rel => exact ⟨k + 1, by omega, by go_num, by rw [HT.out, HS.out]⟩
      case measure => simp [intOf]; omega
    · clear hb1 hb2
      go_wp2
      go_ret
      rw [Hfin.out, List.take_of_length_le (by simp; omega)]; simp

set_option maxHeartbeats 400000 in
theorem implNoteSum (before number : Int) (s : ByteArray) (w : World) (hs : s.size ≤ 1048576) :
    Calls Tryd.prog 51 #[.int .i64 before, .int .i64 number, .string s] w fun e w' => e = .returned (.int .i64 (noteSum before number s.data.toList)) ∧ w = w' := by
  cases hb1 : inB before 0 65520
  · go_enter Tryd.func51, Tryd.ntmps51
    go_wp2_with (go_at_call 46; refine (between_any _ _ _ _).mono ?_; rintro e w' ⟨rfl, rfl⟩)
    go_ret
    simp [noteSum, hb1]
  cases hb2 : inB number 0 1000000
  · go_enter Tryd.func51, Tryd.ntmps51
    go_wp2_with (go_at_call 46; refine (between_any _ _ _ _).mono ?_; rintro e w' ⟨rfl, rfl⟩)
    go_ret
    simp [noteSum, hb1, hb2]
  have hfin : noteSum before number s.data.toList = sumF ((before + 7 * number) % 65521) s.data.toList := by simp [noteSum, hb1, hb2]
  have Hfin := Lib.hid hfin; clear hfin
  have h1 : 0 ≤ before ∧ before ≤ 65520 := by simpa [inB] using hb1
  have h2 : 0 ≤ number ∧ number ≤ 1000000 := by simpa [inB] using hb2
  obtain ⟨h1a, h1b⟩ := h1
  obtain ⟨h2a, h2b⟩ := h2
  have hbd := sumF_bd ((before + 7 * number) % 65521) (by omega) (by omega)
  go_enter Tryd.func51, Tryd.ntmps51
  go_wp2_with (go_at_call 46; refine (between_any _ _ _ _).mono ?_; rintro e w' ⟨rfl, rfl⟩)
  go_loop [7, 24] (fun n i => ∃ k : Nat, k ≤ s.size ∧ i = .int .i64 k ∧ n = .int .i64 (sumF ((before + 7 * number) % 65521) (s.data.toList.take k))) (fun _ i => s.size - (intOf i).toNat)
  case atStart => exact ⟨0, Nat.zero_le _, rfl, rfl⟩
  case round =>
    obtain ⟨k, hk, rfl, rfl⟩ := hrel
    have hbk := hbd (s.data.toList.take k)
    by_cases hlt : k < s.size
    · have HS := Lib.hid (sumF_snoc ((before + 7 * number) % 65521) (s.data.toList.take k) s[k])
      have HT := Lib.hid (take_snoc s k hlt)
      have hc : (s[k].toNat : Int) < 256 := by have := s[k].toNat_lt; omega
      obtain ⟨hbk1, hbk2⟩ := hbk
      clear hbd hb1 hb2
      generalize sumF ((before + 7 * number) % 65521) (s.data.toList.take k) = q at *
      go_wp2
      go_round
      case rel => exact ⟨k + 1, by omega, by go_num, by rw [HT.out, HS.out]⟩
      case measure => simp [intOf]; omega
    · clear hb1 hb2
      go_wp2
      go_ret
      rw [Hfin.out, List.take_of_length_le (by simp; omega)]; simp

end Go.Proofs.YtcidjbgjgancgaaDoor
