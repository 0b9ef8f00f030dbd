/- The tests of the drawn laws' arguments: a2Long, a2At. -/
import Derived.Test.YtdljlemgaefbpaaLib
import Derived.Test.YtdljlemgaefbpaaBase
import Derived.Lib.SmallJoins
namespace Go.Proofs.Ytdljlemgaefbpaa
open Go.RowKit Go.Joins

set_option maxHeartbeats 400000 in
theorem a2Long_any (B1 B2 n m : Nat) (v1 v2 : Value) (xs ys : List Value) (w : World) (h1 : Rd w B1 v1 n 1 xs) (h2 : Rd w B2 v2 m 1 ys) :
    Calls Try.prog 9 #[v1, v2] w fun e w' => e = .returned (.bool (decide (3000 < n) || decide (3000 < m))) ∧ w = w' := by
  obtain ⟨_, A1, c1, rfl, _⟩ := h1
  obtain ⟨_, A2, c2, rfl, _⟩ := h2
  by_cases h : 3000 < n
  · have hh : (3000 : Int) < (n : Int) := by omega
    go_enter Try.func9, Try.ntmps9
    go_wp2
    go_ret
    simp [h]
  · by_cases h' : 3000 < m
    all_goals
      go_enter Try.func9, Try.ntmps9
      go_wp2
      go_ret
      simp [h, h']
      omega

set_option maxRecDepth 100000 in
set_option maxHeartbeats 400000 in
theorem a2At_any (B : Nat) (v : Value) (bs : List UInt8) (n : Int) (at_ : Int) (w : World) (h : Rd w B v bs.length 1 (bs.map byV)) (h0 : 0 ≤ at_) :
    Calls Try.prog 11 #[v, .int .i64 at_, .int .i64 n] w fun e w' => (∃ x, e = .returned (.int .i64 x) ∧ 0 ≤ x ∧ (1 ≤ n → x < n) ∧ (n < 1 → x = 0)) ∧ w = w' := by
  obtain ⟨_, A, c, rfl, h1⟩ := h
  have H1 := Lib.hid h1; clear h1
  by_cases h : at_ < bs.length
  · by_cases hn : n < 1
    · go_enter Try.func11, Try.ntmps11
      go_wp2
      go_ret
      exact ⟨⟨0, rfl, by omega, by omega, by omega⟩, rfl⟩
    · obtain ⟨k, rfl⟩ : ∃ k : Nat, at_ = k := ⟨at_.toNat, by omega⟩
      have hk : k < bs.length := by omega
      obtain ⟨b1, o1, rfl, _, hcc⟩ := H1.out (by omega)
      have hx := hcc k (byV bs[k]) (by simp [hk])
      clear hcc
      unfold byV at hx
      have hx8 := bs[k].toNat_lt
      generalize bs[k].toNat = x at *
      have hxb : (x : Int) < 256 := by omega
      clear hx8
      go_enter Try.func11, Try.ntmps11
      go_wp2
      go_ret
      have := Int.emod_nonneg (x : Int) (by omega : n ≠ 0)
      have := Int.emod_lt_of_pos (x : Int) (by omega : 0 < n)
      exact ⟨⟨_, rfl, by omega, by omega, by omega⟩, rfl⟩
  · have h' : (bs.length : Int) ≤ at_ := by omega
    go_enter Try.func11, Try.ntmps11
    go_wp2
    go_ret
    exact ⟨⟨0, rfl, by omega, by omega, by omega⟩, rfl⟩

end Go.Proofs.Ytdljlemgaefbpaa
