/- Names, part 3: the reference's IsName. -/
import Derived.Test.YtplpeeienpaaeaaDoorNm2
namespace Go.Proofs.YtplpeeienpaaeaaDoor
open Go.RowKit Go.Joins

theorem toList_ne {s : ByteArray} (h : s.size ≠ 0) : s.toList.isEmpty = false := by
  cases hs : s.toList.isEmpty with
  | false => rfl
  | true =>
    have h1 : s.toList = [] := by simpa using hs
    have h2 := congrArg List.length h1
    rw [ByteArray.toList_eq] at h2
    simp at h2
    exact absurd h2 (by simpa using h)

set_option maxRecDepth 100000 in
set_option maxHeartbeats 1600000 in
theorem IsNameS_any (s : ByteArray) (w : World) (hs : s.size ≤ 1048576) :
    Calls Tryd.prog 64 #[.string s] w fun e w' => e = .returned (.bool (isNm s.data.toList)) ∧ w = w' := by
  have hsz : s.data.toList.length = s.size := by simp
  have Hsz := Lib.hid hsz; clear hsz
  by_cases h0 : s.size = 0
  · obtain rfl : s = ⟨#[]⟩ := by
      obtain ⟨⟨l⟩⟩ := s
      have : l = [] := List.eq_nil_of_length_eq_zero h0
      rw [this]
    clear h0
    go_enter Tryd.func64, Tryd.ntmps64
    go_wp2_with fail
    go_ret
    exact ⟨rfl, rfl⟩
  · have he := toList_ne h0
    have hp : 0 < s.data.toList.length := by rw [Hsz.out]; omega
    have hp0 : 0 < s.size := by omega
    have hp1 : (0 : Int) < (s.size : Int) := by omega
    by_cases h12 : 12 < s.size
    · have hfin := Lib.hid (isNm_long s.data.toList (by rw [Hsz.out]; exact h12))
      have hq2 : (12 : Int) < (s.size : Int) := by omega
      clear h0
      go_enter Tryd.func64, Tryd.ntmps64
      go_wp2_with fail
      go_ret
      rw [hfin.out]; exact ⟨rfl, rfl⟩
    · have hq2 : (s.size : Int) ≤ 12 := by omega
      have HS := Lib.hid (fun wx => l01Small_any s[0].toNat wx)
      have hx8 := s[0].toNat_lt
      cases hsm : smC s[0].toNat with
      | false =>
        have hfin := Lib.hid (isNm_first s.data.toList hp hsm)
        rw [hsm] at HS
        clear hsm h0
        go_enter Tryd.func64, Tryd.ntmps64
        go_wp2_with fail
        refine (HS.out _).mono ?_; rintro e w1 ⟨rfl, rfl⟩
        go_wp2_with fail
        go_ret
        rw [hfin.out]; exact ⟨rfl, rfl⟩
      | true =>
        have Hyes := Lib.hid (fun h => isNm_yes s.data.toList hp (by rw [Hsz.out]; omega) hsm h)
        rw [hsm] at HS
        clear hsm h0
        go_enter Tryd.func64, Tryd.ntmps64
        go_wp2_with fail
        refine (HS.out _).mono ?_; rintro e w1 ⟨rfl, rfl⟩
        go_wp2_with fail
        go_loop [3] (fun i => ∃ k : Nat, k ≤ s.size ∧ ((s.data.toList.take k).all fun c => okC c.toNat) = true ∧ i = .int .i64 k) (fun i => s.size - (intOf i).toNat)
        case atStart => exact ⟨0, Nat.zero_le _, rfl, rfl⟩
        case round =>
          obtain ⟨k, hk, hall, rfl⟩ := hrel
          have Hall := Lib.hid hall; clear hall
          by_cases hlt : k < s.size
          · have hkl : k < s.data.toList.length := by rw [Hsz.out]; exact hlt
            have Hbad := Lib.hid (show okC s[k].toNat = false → isNm s.data.toList = false from fun h => isNm_bad s.data.toList k hkl h)
            have Hst := Lib.hid (show okC s[k].toNat = true → ((s.data.toList.take (k + 1)).all fun c => okC c.toNat) = true from fun h => all_step s.data.toList k hkl Hall.out h)
            have hx8 := s[k].toNat_lt
            have hx9 : (s[k].toNat : Int) < 256 := by omega
            have HC := Lib.hid (fun wx => l01Small_any s[k].toNat wx)
            have HD := Lib.hid (fun wx => l01Digit_any s[k].toNat wx)
            clear hx8
            have hlt' : (k : Int) < (s.size : Int) := by omega
            cases c1 : smC s[k].toNat with
            | true =>
              have hst := Lib.hid (Hst.out (okC_sm c1))
              rw [c1] at HC
              clear Hbad Hst c1
              go_wp2_with fail
              refine (HC.out _).mono ?_; rintro e w1 ⟨rfl, rfl⟩
              go_wp2_with fail
              go_round
              case rel => exact ⟨k + 1, by omega, hst.out, by go_num⟩
              case measure => simp [intOf]; omega
            | false =>
              rw [c1] at HC
              cases c2 : dgC s[k].toNat with
              | true =>
                have hst := Lib.hid (Hst.out (okC_dg c2))
                rw [c2] at HD
                clear Hbad Hst c1 c2
                go_wp2_with fail
                refine (HC.out _).mono ?_; rintro e w1 ⟨rfl, rfl⟩
                go_wp2_with fail
                refine (HD.out _).mono ?_; rintro e w1 ⟨rfl, rfl⟩
                go_wp2_with fail
                go_round
                case rel => exact ⟨k + 1, by omega, hst.out, by go_num⟩
                case measure => simp [intOf]; omega
              | false =>
                rw [c2] at HD
                by_cases c3 : s[k].toNat = 45
                · have hst := Lib.hid (Hst.out (okC_da c3))
                  have d3 : ((s[k].toNat : Int) != 45) = false := by simp [c3]
                  clear Hbad Hst c1 c2 c3
                  go_wp2_with fail
                  refine (HC.out _).mono ?_; rintro e w1 ⟨rfl, rfl⟩
                  go_wp2_with fail
                  refine (HD.out _).mono ?_; rintro e w1 ⟨rfl, rfl⟩
                  go_wp2_with fail
                  go_round
                  case rel => exact ⟨k + 1, by omega, hst.out, by go_num⟩
                  case measure => simp [intOf]; omega
                · have hfin := Lib.hid (Hbad.out (okC_no c1 c2 c3))
                  have d3 : ((s[k].toNat : Int) != 45) = true := by rw [bne_iff_ne]; omega
                  clear Hbad Hst c1 c2 c3
                  go_wp2_with fail
                  refine (HC.out _).mono ?_; rintro e w1 ⟨rfl, rfl⟩
                  go_wp2_with fail
                  refine (HD.out _).mono ?_; rintro e w1 ⟨rfl, rfl⟩
                  go_wp2_with fail
                  go_ret
                  rw [hfin.out]; exact ⟨rfl, rfl⟩
          · have hfin := Lib.hid (Hyes.out (by
              have := Hall.out
              rwa [List.take_of_length_le (by rw [Hsz.out]; omega)] at this))
            have hlt' : (s.size : Int) ≤ (k : Int) := by omega
            go_wp2_with fail
            go_ret
            rw [hfin.out]; exact ⟨rfl, rfl⟩
end Go.Proofs.YtplpeeienpaaeaaDoor
