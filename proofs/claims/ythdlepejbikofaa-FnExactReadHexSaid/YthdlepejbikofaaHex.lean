/- HexOf on both sides: the walks. -/
import Derived.Test.YthdlepejbikofaaLib
import Derived.Test.YthdlepejbikofaaBase
import Derived.Test.YthdlepejbikofaaNote
namespace Go.Proofs.Ythdlepejbikofaa
open Go.RowKit

theorem infoB : (Try.prog.info? 5).map (fun i => (i.zero, i.size, i.bytes)) = some (some (.int .u8 0), 1, 1) := by kernel_rfl

def hexT : List UInt8 := [48, 49, 50, 51, 52, 53, 54, 55, 56, 57, 97, 98, 99, 100, 101, 102]
def hexD (n : Nat) : UInt8 := hexT.getD n 0
def hexB (l : List UInt8) : List UInt8 := l.flatMap fun c => [hexD (c.toNat / 16), hexD (c.toNat % 16)]
theorem hexB_snoc (l : List UInt8) (c : UInt8) : hexB (l ++ [c]) = hexB l ++ [hexD (c.toNat / 16), hexD (c.toNat % 16)] := by simp [hexB]
theorem hexB_len (l : List UInt8) : (hexB l).length = 2 * l.length := by
  induction l with
  | nil => rfl
  | cons c l ih => simp only [hexB, List.flatMap_cons, List.length_append, List.length_cons, List.length_nil] at *; omega

theorem u8wrap (n : Nat) (h : n < 256) : IntKind.u8.wrap (n : Int) = n := by
  rw [IntKind.wrap_u8]; omega
theorem hexD_ix (n : Nat) (h : n < 16) : ((#[48, 49, 50, 51, 52, 53, 54, 55, 56, 57, 97, 98, 99, 100, 101, 102] : Array UInt8)[n]'(h)) = hexD n := by
  unfold hexD hexT
  rw [List.getD_eq_getElem?_getD, List.getElem?_eq_getElem (by exact h)]
  rfl
theorem hexN (n : Nat) (h : n < 16) (w : World) : (Instr.index 9 (.string ⟨#[48, 49, 50, 51, 52, 53, 54, 55, 56, 57, 97, 98, 99, 100, 101, 102]⟩) (.int .u8 (n : Int))).run Try.prog w = .ok (.int .u8 ((hexD n).toNat : Int)) w := by
  rw [run_index_string _ _ _ _ _ Try.underlying9, dif_pos ⟨by omega, by show (n : Int) < 16; omega⟩]
  congr 1
  rw [← hexD_ix n h]
  rfl
theorem hexN64 (n : Nat) (h : n < 16) (w : World) : (Instr.index 9 (.string ⟨#[48, 49, 50, 51, 52, 53, 54, 55, 56, 57, 97, 98, 99, 100, 101, 102]⟩) (.int .i64 (n : Int))).run Try.prog w = .ok (.int .u8 ((hexD n).toNat : Int)) w := by
  rw [run_index_string _ _ _ _ _ Try.underlying9, dif_pos ⟨by omega, by show (n : Int) < 16; omega⟩]
  congr 1
  rw [← hexD_ix n h]
  rfl
theorem hexI (c : UInt8) (w : World) : (Instr.index 9 (.string ⟨#[48, 49, 50, 51, 52, 53, 54, 55, 56, 57, 97, 98, 99, 100, 101, 102]⟩) (.int .u8 (IntKind.u8.wrap ((c.toNat : Int) / 16)))).run Try.prog w = .ok (.int .u8 ((hexD (c.toNat / 16)).toNat : Int)) w := by
  have hc := c.toNat_lt
  have e : IntKind.u8.wrap ((c.toNat : Int) / 16) = ((c.toNat / 16 : Nat) : Int) := u8wrap (c.toNat / 16) (by omega)
  rw [e]; exact hexN _ (by omega) w
theorem hexJ (c : UInt8) (w : World) : (Instr.index 9 (.string ⟨#[48, 49, 50, 51, 52, 53, 54, 55, 56, 57, 97, 98, 99, 100, 101, 102]⟩) (.int .u8 ((c.toNat : Int).tmod 16))).run Try.prog w = .ok (.int .u8 ((hexD (c.toNat % 16)).toNat : Int)) w := by
  have hc := c.toNat_lt
  have e : ((c.toNat : Int).tmod 16) = ((c.toNat % 16 : Nat) : Int) := by rw [Int.tmod_eq_emod_of_nonneg (by omega)]; omega
  rw [e]; exact hexN _ (by omega) w

set_option maxHeartbeats 400000 in
theorem implHexOf (s : ByteArray) (w : World) (hs : s.size ≤ 1048576) :
    Calls Try.prog 13 #[.string s] w fun e w' => e = .returned (.string ⟨(hexB s.data.toList).toArray⟩) ∧ Below w.heap.size w w' := by
  go_enter Try.func13, Try.ntmps13
  go_wp2_with fail
  go_loopw [3, 8] (fun v i wr => ∃ k : Nat, k ≤ s.size ∧ i = .int .i64 k ∧ wr.ownsRow w.heap.size 5 1 v (2 * k) ((hexB (s.data.toList.take k)).map byV) ∧ Below w.heap.size w wr) (fun _ i _ => s.size - (intOf i).toNat)
  case atStart => exact ⟨0, Nat.zero_le _, rfl, World.ownsRow_made w #[] 0 (Nat.le_refl _) (by simp [maxLen]) rfl, (Below.refl _ _).alloc (Nat.le_refl _) _⟩
  case round =>
    obtain ⟨k, hk, rfl, hown, hbl⟩ := hrel
    by_cases hlt : k < s.size
    · have hlt' : (k : Int) < (s.size : Int) := by omega
      have hI := hexI s[k]
      have hJ := hexJ s[k]
      go_wp2_with fail
      go_region_held3 (fun _ => True) (trivial) ((refine step_apd 39 5 _ 1 1 Try.underlying39 infoB rfl (by omega) _ _ (by rfl) (by rfl) w.heap.size u3 (2 * k) _ (by rfl) hown #[_, _] 2 2 (by rfl) (by rfl) (by simp [Value.oneCell']) (by simp [maxLen]; omega) (by omega) (hbl.size) ?_; intro v' w1 hown1 hg1))
      all_goals
        have HT := Lib.hid (take_snoc s k hlt)
        have HS := Lib.hid (hexB_snoc (s.data.toList.take k) s[k])
        have hb1 := below_apd hbl hown hg1 (Nat.le_refl _) hbl.size
        go_wp2
        go_roundw
        case rel => exact ⟨k + 1, by omega, by go_num, by rw [HT.out, HS.out]; simpa [byV, Nat.mul_add] using hown1, hb1⟩
        case measure => simp [intOf]; omega
    · have hconv := run_conv_own (P := Try.prog) 39 9 5 Try.underlying39 Try.underlying5 Try.underlying9 _ _ _ _ hown
      rw [show s.data.toList.take k = s.data.toList from List.take_of_length_le (by simp; omega)] at hconv
      go_wp2_with fail
      go_ret
      exact ⟨rfl, hbl⟩
set_option maxHeartbeats 400000 in
theorem specHexOf (s : ByteArray) (w : World) (hs : s.size ≤ 1048576) :
    Calls Try.prog 12 #[.string s] w fun e w' => e = .returned (.string ⟨(hexB s.data.toList).toArray⟩) ∧ Below w.heap.size w w' := by
  go_enter Try.func12, Try.ntmps12
  go_wp2_with fail
  go_loopw [4, 5] (fun v i wr => ∃ k : Nat, k ≤ s.size ∧ i = .int .i64 k ∧ wr.ownsRow w.heap.size 5 1 v (2 * k) ((hexB (s.data.toList.take k)).map byV) ∧ Below w.heap.size w wr) (fun _ i _ => s.size - (intOf i).toNat)
  case atStart => exact ⟨0, Nat.zero_le _, rfl, World.ownsRow_made w #[] 0 (Nat.le_refl _) (by simp [maxLen]) rfl, (Below.refl _ _).alloc (Nat.le_refl _) _⟩
  case round =>
    obtain ⟨k, hk, rfl, hown, hbl⟩ := hrel
    by_cases hlt : k < s.size
    · have hlt' : (k : Int) < (s.size : Int) := by omega
      have hI := hexI s[k]
      have hJ := hexJ s[k]
      go_wp2_with fail
      go_region_held3 (fun _ => True) (trivial) ((refine step_apd 39 5 _ 1 1 Try.underlying39 infoB rfl (by omega) _ _ (by rfl) (by rfl) w.heap.size u4 (2 * k) _ (by rfl) hown #[_, _] 2 2 (by rfl) (by rfl) (by simp [Value.oneCell']) (by simp [maxLen]; omega) (by omega) (hbl.size) ?_; intro v' w1 hown1 hg1))
      all_goals
        have HT := Lib.hid (take_snoc s k hlt)
        have HS := Lib.hid (hexB_snoc (s.data.toList.take k) s[k])
        have hb1 := below_apd hbl hown hg1 (Nat.le_refl _) hbl.size
        go_wp2
        go_roundw
        case rel => exact ⟨k + 1, by omega, by go_num, by rw [HT.out, HS.out]; simpa [byV, Nat.mul_add] using hown1, hb1⟩
        case measure => simp [intOf]; omega
    · have hconv := run_conv_own (P := Try.prog) 39 9 5 Try.underlying39 Try.underlying5 Try.underlying9 _ _ _ _ hown
      rw [show s.data.toList.take k = s.data.toList from List.take_of_length_le (by simp; omega)] at hconv
      go_wp2_with fail
      go_ret
      exact ⟨rfl, hbl⟩
set_option maxHeartbeats 400000 in
theorem walkFnExactHexOf (s : ByteArray) (_ws : s.size ≤ maxLen) (w : World) :
    Calls Try.prog 3 #[.string s] w fun e w' => e = .returned (.bool true) ∧ Below w.heap.size w w' := by
  by_cases h : s.size ≤ 1048576
  · go_enter Try.func3, Try.ntmps3
    go_wp2_with fail
    refine (specHexOf s _ h).mono ?_; rintro e w1 ⟨rfl, hb1⟩
    go_wp2_with fail
    refine (implHexOf s _ h).mono ?_; rintro e w2 ⟨rfl, hb2⟩
    have hb := hb1.trans (hb2.mono hb1.size)
    clear hb1 hb2
    generalize (⟨(hexB s.data.toList).toArray⟩ : ByteArray) = n at *
    go_wp2_with fail
    go_ret
    exact ⟨rfl, hb⟩
  · have h' : 1048576 < s.size := by omega
    have hb0 := Below.refl w.heap.size w
    go_enter Try.func3, Try.ntmps3
    go_wp2_with fail
    go_ret
    exact ⟨rfl, hb0⟩
end Go.Proofs.Ythdlepejbikofaa
