/- Journals, part 1: what a note and a line is; isNote, l26Note, l26Head, l26Line, next. -/
import Derived.Test.YtcidjbgjgancgaaDoorDec
import Derived.Test.YtcidjbgjgancgaaDoorNote
namespace Go.Proofs.YtcidjbgjgancgaaDoor
open Go.RowKit Go.Joins

/-- every byte can be printed -/
def okByte (c : UInt8) : Bool := decide (32 ≤ (c.toNat : Int)) && decide ((c.toNat : Int) ≤ 126)
def noteOk (l : List UInt8) : Bool := l.all okByte && decide (l.length ≤ 60)

theorem ba_mem (s : ByteArray) (k : Nat) (h : k < s.size) : s[k] ∈ s.data.toList := List.getElem_mem (l := s.data.toList) (n := k) (by simpa using h)
theorem noteOk_no (s : ByteArray) (c : UInt8) (hc : c ∈ s.data.toList) (h : okByte c = false) : noteOk s.data.toList = false := by
  unfold noteOk
  rw [Bool.and_eq_false_iff]; left
  rw [List.all_eq_false]
  exact ⟨c, hc, by simp [h]⟩
theorem noteOk_end (s : ByteArray) (k : Nat) (hk : s.size ≤ k) (h : (s.data.toList.take k).all okByte = true) : noteOk s.data.toList = decide ((s.size : Int) ≤ 60) := by
  unfold noteOk
  rw [List.take_of_length_le (by simpa using hk)] at h
  rw [h, Bool.true_and, show s.data.toList.length = s.size from rfl, Bool.eq_iff_iff]
  simp; omega
theorem all_snoc (s : ByteArray) (k : Nat) (hlt : k < s.size) (h : (s.data.toList.take k).all okByte = true) (hc : okByte s[k] = true) : (s.data.toList.take (k + 1)).all okByte = true := by
  rw [take_snoc s k hlt, List.all_append, h]; simpa using hc

set_option maxRecDepth 100000 in
set_option maxHeartbeats 1000000 in
theorem isNote_any (s : ByteArray) (w : World) (hs : s.size ≤ 1073741824) :
    Calls Tryd.prog 35 #[.string s] w fun e w' => e = .returned (.bool (noteOk s.data.toList)) ∧ w = w' := by
  go_enter Tryd.func35, Tryd.ntmps35
  go_wp2_with fail
  go_loop [6] (fun i => ∃ k : Nat, k ≤ s.size ∧ i = .int .i64 k ∧ (s.data.toList.take k).all okByte = true) (fun i => s.size - (intOf i).toNat)
  case atStart => exact ⟨0, Nat.zero_le _, rfl, rfl⟩
  case round =>
    obtain ⟨k, hk, rfl, hall⟩ := hrel
    have Hall := Lib.hid hall; clear hall
    by_cases hlt : k < s.size
    · have hb : (s[k].toNat : Int) < 256 := by have := s[k].toNat_lt; omega
      by_cases h1 : (s[k].toNat : Int) < 32
      · have hno := Lib.hid (noteOk_no s s[k] (ba_mem s k hlt) (by simp [okByte]; omega))
        go_wp2_with fail
        go_ret
        rw [hno.out]; exact ⟨rfl, rfl⟩
      · by_cases h2 : 126 < (s[k].toNat : Int)
        · have hno := Lib.hid (noteOk_no s s[k] (ba_mem s k hlt) (by simp [okByte]; omega))
          go_wp2_with fail
          go_ret
          rw [hno.out]; exact ⟨rfl, rfl⟩
        · have hst := Lib.hid (all_snoc s k hlt Hall.out (by simp [okByte]; omega))
          go_wp2_with fail
          go_round
          case rel => exact ⟨k + 1, by omega, by go_num, hst.out⟩
          case measure => simp [intOf]; omega
    · have he := Lib.hid (noteOk_end s k (by omega) Hall.out)
      go_wp2_with fail
      go_ret
      rw [he.out]; exact ⟨rfl, rfl⟩

set_option maxRecDepth 100000 in
set_option maxHeartbeats 1000000 in
theorem l26Note_any (s : ByteArray) (w : World) (hs : s.size ≤ 1073741824) :
    Calls Tryd.prog 33 #[.string s] w fun e w' => e = .returned (.bool (noteOk s.data.toList)) ∧ w = w' := by
  go_enter Tryd.func33, Tryd.ntmps33
  go_wp2_with fail
  go_loop [3] (fun i => ∃ k : Nat, k ≤ s.size ∧ i = .int .i64 k ∧ (s.data.toList.take k).all okByte = true) (fun i => s.size - (intOf i).toNat)
  case atStart => exact ⟨0, Nat.zero_le _, rfl, rfl⟩
  case round =>
    obtain ⟨k, hk, rfl, hall⟩ := hrel
    have Hall := Lib.hid hall; clear hall
    by_cases hlt : k < s.size
    · have hb : (s[k].toNat : Int) < 256 := by have := s[k].toNat_lt; omega
      by_cases h1 : (s[k].toNat : Int) < 32
      · have hno := Lib.hid (noteOk_no s s[k] (ba_mem s k hlt) (by simp [okByte]; omega))
        go_wp2_with fail
        go_ret
        rw [hno.out]; exact ⟨rfl, rfl⟩
      · by_cases h2 : 126 < (s[k].toNat : Int)
        · have hno := Lib.hid (noteOk_no s s[k] (ba_mem s k hlt) (by simp [okByte]; omega))
          go_wp2_with fail
          go_ret
          rw [hno.out]; exact ⟨rfl, rfl⟩
        · have hst := Lib.hid (all_snoc s k hlt Hall.out (by simp [okByte]; omega))
          go_wp2_with fail
          go_round
          case rel => exact ⟨k + 1, by omega, by go_num, hst.out⟩
          case measure => simp [intOf]; omega
    · have he := Lib.hid (noteOk_end s k (by omega) Hall.out)
      go_wp2_with fail
      go_ret
      rw [he.out]; exact ⟨rfl, rfl⟩

end Go.Proofs.YtcidjbgjgancgaaDoor
