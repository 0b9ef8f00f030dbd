/- SumOfBytes, CutPower, SessionFaultName: the walks of both sides and of the laws. -/
import Derived.Test.YthdlepejbikofaaLib
import Derived.Test.YthdlepejbikofaaBase
import Derived.Test.YthdlepejbikofaaNote
namespace Go.Proofs.Ythdlepejbikofaa
open Go.RowKit

/-- the sum of bytes -/
def sumB (l : List UInt8) : Int := l.foldl (fun s c => (31 * s + (c.toNat : Int) + 1) % 65521) 7
theorem sumB_snoc (l : List UInt8) (c : UInt8) : sumB (l ++ [c]) = (31 * sumB l + (c.toNat : Int) + 1) % 65521 := by simp [sumB]
theorem sumB_bd (l : List UInt8) : 0 ≤ sumB l ∧ sumB l < 65521 := by
  have : ∀ (l : List UInt8) (s : Int), 0 ≤ s → s < 65521 → 0 ≤ l.foldl (fun s c => (31 * s + (c.toNat : Int) + 1) % 65521) s ∧ l.foldl (fun s c => (31 * s + (c.toNat : Int) + 1) % 65521) s < 65521 := by
    intro l
    induction l with
    | nil => intro s h0 h1; exact ⟨h0, h1⟩
    | cons c l ih => intro s h0 h1; exact ih _ (by simp only []; omega) (by simp only []; omega)
  exact this l 7 (by omega) (by omega)

set_option maxHeartbeats 400000 in
theorem l27Sum_any (s : ByteArray) (w : World) (hs : s.size ≤ maxLen) :
    Calls Try.prog 43 #[.string s] w fun e w' => e = .returned (.int .i64 (sumB s.data.toList)) ∧ w = w' := by
  unfold maxLen at hs
  have hbd := sumB_bd
  go_enter Try.func43, Try.ntmps43
  go_wp2_with fail
  go_loop [3, 4] (fun n i => ∃ k : Nat, k ≤ s.size ∧ i = .int .i64 k ∧ n = .int .i64 (sumB (s.data.toList.take k))) (fun _ i => s.size - (intOf i).toNat)
  case atStart => exact ⟨0, Nat.zero_le _, rfl, rfl⟩
  case round =>
    obtain ⟨k, hk, rfl, rfl⟩ := hrel
    have hbk := hbd (s.data.toList.take k)
    by_cases hlt : k < s.size
    · have HS := Lib.hid (sumB_snoc (s.data.toList.take k) s[k])
      have HT := Lib.hid (take_snoc s k hlt)
      have hc : (s[k].toNat : Int) < 256 := by have := s[k].toNat_lt; omega
      obtain ⟨hbk1, hbk2⟩ := hbk
      clear hbd
      generalize sumB (s.data.toList.take k) = q at *
      go_wp2_with fail
      go_round
      case rel => exact ⟨k + 1, by omega, by go_num, by rw [HT.out, HS.out]⟩
      case measure => simp [intOf]; omega
    · go_wp2_with fail
      go_ret
      rw [List.take_of_length_le (by simp; omega)]; simp

theorem SumS_any (s : ByteArray) (w : World) (hs : s.size ≤ maxLen) :
    Calls Try.prog 14 #[.string s] w fun e w' => e = .returned (.int .i64 (sumB s.data.toList)) ∧ w = w' := by
  go_enter Try.func14, Try.ntmps14
  go_wp2_with fail
  refine (l27Sum_any s _ hs).mono ?_; rintro e w' ⟨rfl, rfl⟩
  go_wp2_with fail
  go_ret
  exact ⟨rfl, rfl⟩

set_option maxHeartbeats 400000 in
theorem SumI_any (s : ByteArray) (w : World) (hs : s.size ≤ maxLen) :
    Calls Try.prog 15 #[.string s] w fun e w' => e = .returned (.int .i64 (sumB s.data.toList)) ∧ w = w' := by
  unfold maxLen at hs
  have hbd := sumB_bd
  go_enter Try.func15, Try.ntmps15
  go_wp2_with fail
  go_loop [3, 7] (fun n i => ∃ k : Nat, k ≤ s.size ∧ i = .int .i64 k ∧ n = .int .i64 (sumB (s.data.toList.take k))) (fun _ i => s.size - (intOf i).toNat)
  case atStart => exact ⟨0, Nat.zero_le _, rfl, rfl⟩
  case round =>
    obtain ⟨k, hk, rfl, rfl⟩ := hrel
    have hbk := hbd (s.data.toList.take k)
    by_cases hlt : k < s.size
    · have HS := Lib.hid (sumB_snoc (s.data.toList.take k) s[k])
      have HT := Lib.hid (take_snoc s k hlt)
      have hc : (s[k].toNat : Int) < 256 := by have := s[k].toNat_lt; omega
      obtain ⟨hbk1, hbk2⟩ := hbk
      clear hbd
      generalize sumB (s.data.toList.take k) = q at *
      go_wp2_with fail
      go_round
      case rel => exact ⟨k + 1, by omega, by go_num, by rw [HT.out, HS.out]⟩
      case measure => simp [intOf]; omega
    · go_wp2_with fail
      go_ret
      rw [List.take_of_length_le (by simp; omega)]; simp

set_option maxHeartbeats 400000 in
theorem walkFnExactSumOfBytes (s : ByteArray) (ws : s.size ≤ maxLen) (w : World) :
    Calls Try.prog 4 #[.string s] w fun e w' => e = .returned (.bool true) ∧ Below w.heap.size w w' := by
  have hb0 := Below.refl w.heap.size w
  by_cases h : s.size ≤ 1048576
  · go_enter Try.func4, Try.ntmps4
    go_wp2_with fail
    refine (SumS_any s _ ws).mono ?_; rintro e w1 ⟨rfl, rfl⟩
    go_wp2_with fail
    refine (SumI_any s _ ws).mono ?_; rintro e w2 ⟨rfl, rfl⟩
    generalize sumB s.data.toList = n at *
    go_wp2_with fail
    go_ret
    exact ⟨rfl, hb0⟩
  · have h' : 1048576 < s.size := by omega
    go_enter Try.func4, Try.ntmps4
    go_wp2_with fail
    go_ret
    exact ⟨rfl, hb0⟩

/-- what is left of a journal -/
def cutS (s : ByteArray) (n : Int) : ByteArray := if 4000 < s.size then ByteArray.empty else if inB n 0 s.size then s.extract 0 n.toNat else ByteArray.empty
def cutE (s : ByteArray) (n : Int) : Int := if 4000 < s.size then 5 else if inB n 0 s.size then 0 else 2

set_option maxHeartbeats 400000 in
theorem CutS_any (s : ByteArray) (n : Int) (w : World) (hs : s.size ≤ 1048576) :
    Calls Try.prog 18 #[.string s, .int .i64 n] w fun e w' => e = .returned (.tuple #[.string (cutS s n), .int .i64 (cutE s n)]) ∧ w = w' := by
  by_cases h : 4000 < s.size
  · have e1 := Lib.hid (show cutS s n = ByteArray.empty by simp [cutS, h])
    have e2 := Lib.hid (show cutE s n = 5 by simp [cutE, h])
    go_enter Try.func18, Try.ntmps18
    go_wp2_with fail
    go_ret2
    rw [e1.out, e2.out]; exact ⟨rfl, rfl⟩
  · cases hb : inB n 0 s.size
    · have e1 := Lib.hid (show cutS s n = ByteArray.empty by simp [cutS, h, hb])
      have e2 := Lib.hid (show cutE s n = 2 by simp [cutE, h, hb])
      go_enter Try.func18, Try.ntmps18
      go_wp2_with fail
      refine (l00In_any _ _ _ _).mono ?_; rintro e w1 ⟨rfl, rfl⟩
      go_wp2_with fail
      go_ret2
      rw [e1.out, e2.out]; exact ⟨rfl, rfl⟩
    · have e1 := Lib.hid (show cutS s n = s.extract 0 n.toNat by simp [cutS, h, hb])
      have e2 := Lib.hid (show cutE s n = 0 by simp [cutE, h, hb])
      obtain ⟨h1, h2⟩ : 0 ≤ n ∧ n ≤ s.size := by simpa [inB] using hb
      go_enter Try.func18, Try.ntmps18
      go_wp2_with fail
      refine (l00In_any _ _ _ _).mono ?_; rintro e w1 ⟨rfl, rfl⟩
      go_wp2_with fail
      go_ret2
      rw [e1.out, e2.out]; exact ⟨rfl, rfl⟩

set_option maxHeartbeats 400000 in
theorem CutI_any (s : ByteArray) (n : Int) (w : World) (hs : s.size ≤ 1048576) :
    Calls Try.prog 19 #[.string s, .int .i64 n] w fun e w' => e = .returned (.tuple #[.string (cutS s n), .int .i64 (cutE s n)]) ∧ w = w' := by
  by_cases h : 4000 < s.size
  · have e1 := Lib.hid (show cutS s n = ByteArray.empty by simp [cutS, h])
    have e2 := Lib.hid (show cutE s n = 5 by simp [cutE, h])
    go_enter Try.func19, Try.ntmps19
    go_wp2_with fail
    go_ret2
    rw [e1.out, e2.out]; exact ⟨rfl, rfl⟩
  · cases hb : inB n 0 s.size
    · have e1 := Lib.hid (show cutS s n = ByteArray.empty by simp [cutS, h, hb])
      have e2 := Lib.hid (show cutE s n = 2 by simp [cutE, h, hb])
      go_enter Try.func19, Try.ntmps19
      go_wp2_with fail
      refine (between_any _ _ _ _).mono ?_; rintro e w1 ⟨rfl, rfl⟩
      go_wp2_with fail
      go_ret2
      rw [e1.out, e2.out]; exact ⟨rfl, rfl⟩
    · have e1 := Lib.hid (show cutS s n = s.extract 0 n.toNat by simp [cutS, h, hb])
      have e2 := Lib.hid (show cutE s n = 0 by simp [cutE, h, hb])
      obtain ⟨h1, h2⟩ : 0 ≤ n ∧ n ≤ s.size := by simpa [inB] using hb
      go_enter Try.func19, Try.ntmps19
      go_wp2_with fail
      refine (between_any _ _ _ _).mono ?_; rintro e w1 ⟨rfl, rfl⟩
      go_wp2_with fail
      go_ret2
      rw [e1.out, e2.out]; exact ⟨rfl, rfl⟩

set_option maxHeartbeats 400000 in
theorem walkFnExactCutPower (s : ByteArray) (_ws : s.size ≤ maxLen) (n : Int) (_wn : (Lit.int .i64 n).wf = true) (w : World) :
    Calls Try.prog 6 #[.string s, .int .i64 n] w fun e w' => e = .returned (.bool true) ∧ Below w.heap.size w w' := by
  have hb0 := Below.refl w.heap.size w
  by_cases h : s.size ≤ 1048576
  · go_enter Try.func6, Try.ntmps6
    go_wp2_with fail
    refine (CutS_any s n _ h).mono ?_; rintro e w1 ⟨rfl, rfl⟩
    go_wp2_with fail
    refine (CutI_any s n _ h).mono ?_; rintro e w2 ⟨rfl, rfl⟩
    generalize cutS s n = a at *
    generalize cutE s n = b at *
    go_wp2_with fail
    go_ret
    exact ⟨rfl, hb0⟩
  · have h' : 1048576 < s.size := by omega
    go_enter Try.func6, Try.ntmps6
    go_wp2_with fail
    go_ret
    exact ⟨rfl, hb0⟩

/-- the names of faults -/
def faultS (n : Int) : ByteArray := if n = 0 then ⟨#[110, 111, 110, 101]⟩ else if n = 1 then ⟨#[115, 116, 97, 114, 116]⟩ else if n = 2 then ⟨#[119, 111, 114, 100]⟩ else if n = 3 then ⟨#[118, 97, 108, 117, 101]⟩
  else if n = 4 then ⟨#[115, 104, 111, 119]⟩ else if n = 5 then ⟨#[101, 110, 100]⟩ else ⟨#[]⟩

set_option maxHeartbeats 800000 in
theorem FaultS_any (n : Int) (w : World) :
    Calls Try.prog 16 #[.int .i64 n] w fun e w' => e = .returned (.string (faultS n)) ∧ Below w.heap.size w w' := by
  have hb0 := (Below.refl w.heap.size w).alloc (Nat.le_refl _)
  by_cases h : 0 ≤ n ∧ n ≤ 5
  · obtain rfl | rfl | rfl | rfl | rfl | rfl : n = 0 ∨ n = 1 ∨ n = 2 ∨ n = 3 ∨ n = 4 ∨ n = 5 := by omega
    all_goals
      go_enter Try.func16, Try.ntmps16
      go_wp2
      go_ret
      exact ⟨rfl, hb0 _⟩
  · have e1 := Lib.hid (show faultS n = ⟨#[]⟩ by unfold faultS; rw [if_neg (by omega), if_neg (by omega), if_neg (by omega), if_neg (by omega), if_neg (by omega), if_neg (by omega)])
    have e2 : inB n 0 5 = false := by simp [inB]; omega
    go_enter Try.func16, Try.ntmps16
    go_wp2_with fail
    refine (l00In_any _ _ _ _).mono ?_; rintro e w1 ⟨rfl, rfl⟩
    go_wp2_with fail
    go_ret
    rw [e1.out]; exact ⟨rfl, hb0 _⟩

set_option maxHeartbeats 800000 in
theorem FaultI_any (n : Int) (w : World) :
    Calls Try.prog 17 #[.int .i64 n] w fun e w' => e = .returned (.string (faultS n)) ∧ Below w.heap.size w w' := by
  have hb0 := (Below.refl w.heap.size w).alloc (Nat.le_refl _)
  by_cases h : 0 ≤ n ∧ n ≤ 5
  · obtain rfl | rfl | rfl | rfl | rfl | rfl : n = 0 ∨ n = 1 ∨ n = 2 ∨ n = 3 ∨ n = 4 ∨ n = 5 := by omega
    all_goals
      go_enter Try.func17, Try.ntmps17
      go_wp2
      go_ret
      exact ⟨rfl, hb0 _⟩
  · have e1 := Lib.hid (show faultS n = ⟨#[]⟩ by unfold faultS; rw [if_neg (by omega), if_neg (by omega), if_neg (by omega), if_neg (by omega), if_neg (by omega), if_neg (by omega)])
    have e2 : inB n 0 5 = false := by simp [inB]; omega
    go_enter Try.func17, Try.ntmps17
    go_wp2_with fail
    refine (between_any _ _ _ _).mono ?_; rintro e w1 ⟨rfl, rfl⟩
    go_wp2_with fail
    go_ret
    rw [e1.out]; exact ⟨rfl, hb0 _⟩

set_option maxHeartbeats 400000 in
theorem walkFnExactSessionFaultName (n : Int) (_wn : (Lit.int .i64 n).wf = true) (w : World) :
    Calls Try.prog 5 #[.int .i64 n] w fun e w' => e = .returned (.bool true) ∧ Below w.heap.size w w' := by
  go_enter Try.func5, Try.ntmps5
  go_wp2_with fail
  refine (FaultS_any n _).mono ?_; rintro e w1 ⟨rfl, hb1⟩
  go_wp2_with fail
  refine (FaultI_any n _).mono ?_; rintro e w2 ⟨rfl, hb2⟩
  have hb := hb1.trans (hb2.mono hb1.size)
  generalize faultS n = a at *
  go_wp2_with fail
  go_ret
  exact ⟨rfl, hb⟩

end Go.Proofs.Ythdlepejbikofaa
