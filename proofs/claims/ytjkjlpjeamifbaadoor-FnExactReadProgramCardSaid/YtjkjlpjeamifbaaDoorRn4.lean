/- Numbers read from texts, part 4 (printed by gen_rn4.py): l01Number (reference). -/
import Derived.Test.YtjkjlpjeamifbaaDoorRn3
namespace Go.Proofs.YtjkjlpjeamifbaaDoor
open Go.RowKit Go.Joins

theorem ne_some {s : ByteArray} (h : 0 < s.size) : s.toList.isEmpty = false := by
  rw [ByteArray.toList_eq, List.isEmpty_eq_false_iff]
  intro e
  have h1 : s.data.toList.length = s.size := by simp
  rw [e] at h1
  simp at h1; omega
theorem ne_none {s : ByteArray} (h : s.size = 0) : s.toList.isEmpty = true := by
  rw [ByteArray.toList_eq, List.isEmpty_iff]
  exact List.eq_nil_of_length_eq_zero (by simpa using h)

set_option maxRecDepth 100000 in
set_option maxHeartbeats 3200000 in
theorem l01Number_any (s : ByteArray) (w : World) (hs : s.size ≤ 1073741824) : Calls Tryd.prog 39 #[.string s] w (RetN1 w s) := by
  have Hnone := Lib.hid (fun h => readN_none (s := s) h)
  have Hbad := Lib.hid (fun k hk h => readN_bad (s := s) k hk h)
  have Hval := Lib.hid (fun h1 h2 => readN_val (s := s) h1 h2)
  have Hbd := Lib.hid (fun h1 h2 => valN_bd (s := s) h1 h2)
  have HD := Lib.hid (fun n wx h0 h1 => l01Dec_any n wx h0 h1)
  have hb0 := Below.refl w.heap.size w
  have HV := Lib.hid (show valN s = if (bodyN s).size < s.size then -(numVN (bodyN s).data.toList : Int) else numVN (bodyN s).data.toList from rfl)
  by_cases hh : s.data.toList.head? = some 45
  · obtain ⟨h0, he⟩ := head_sizeN hh
    have HT := Lib.hid (show bodyN s = s.extract 1 s.size by unfold bodyN; rw [if_pos hh])
    have hb : ((s[0].toNat : Int) == 45) = true := by rw [he]; rfl
    have hz0 := tail_size1 s
    have hpos : (0 : Int) < (s.size : Int) := by omega
    have hne := ne_some h0
    obtain ⟨T, hT⟩ : ∃ T, s.extract 1 s.size = T := ⟨_, rfl⟩
    rw [HT.out, hT] at Hbad Hbd Hval Hnone HV
    rw [hT] at hz0
    have hlt : T.size < s.size := by omega
    rw [if_pos hlt] at HV
    have hlt' : (T.size : Int) < (s.size : Int) := by omega
    clear HT he hh hz0
    by_cases t0 : T.size = 0
    · have hn := Hnone.out (.inl t0)
      have t0' : (T.size : Int) < 1 := by omega
      go_enter Tryd.func39, Tryd.ntmps39
      go_wp2_with fail
      go_ret2
      unfold RetN1; rw [hn]; exact ⟨rfl, hb0⟩
    · have t0' : ¬ (T.size : Int) < 1 := by omega
      by_cases t1 : 18 < T.size
      · have hn := Hnone.out (.inr t1)
        have t1' : (18 : Int) < (T.size : Int) := by omega
        go_enter Tryd.func39, Tryd.ntmps39
        go_wp2_with fail
        go_ret2
        unfold RetN1; rw [hn]; exact ⟨rfl, hb0⟩
      · have t1' : ¬ (18 : Int) < (T.size : Int) := by omega
        have hno : ¬(T.size = 0 ∨ 18 < T.size) := by omega
        have Hval2 := Lib.hid (Hval.out hno)
        have Hbd2 := Lib.hid (Hbd.out hno)
        clear Hval Hbd Hnone
        go_enter Tryd.func39, Tryd.ntmps39
        go_wp2_with fail
        go_loop [5, 6] (fun n i => ∃ k : Nat, k ≤ T.size ∧ i = .int .i64 (k : Int) ∧ n = .int .i64 (numVN (T.data.toList.take k) : Int) ∧ ∀ c ∈ T.data.toList.take k, isDg c = true) (fun _ i => T.size - (intOf i).toNat)
        case atStart => exact ⟨0, Nat.zero_le _, rfl, rfl, by simp⟩
        case round =>
          obtain ⟨k, hk, rfl, rfl, hall⟩ := hrel
          have Hall := Lib.hid hall
          by_cases hlk : k < T.size
          · have hlk' : (k : Int) < (T.size : Int) := by omega
            have HDg := Lib.hid (fun wx => l01Digit_any (T)[k] wx)
            have HK := Lib.hid (take_at T k hlk)
            have hN : numVN (T.data.toList.take k) < 100000000000000000 := by
              have h := numVN_lt _ hall
              have h3 : (10 : Nat) ^ (T.data.toList.take k).length ≤ 10 ^ 17 := Nat.pow_le_pow_right (by omega) (by rw [List.length_take]; omega)
              have h4 : (10 : Nat) ^ 17 = 100000000000000000 := by decide
              omega
            have Hsn := Lib.hid (fun (h : isDg (T)[k] = true) => (show ∀ c ∈ T.data.toList.take (k + 1), isDg c = true from fun c hc => by
              rw [List.take_succ_eq_append_getElem (by simpa using hlk)] at hc
              rcases List.mem_append.1 hc with h1 | h1
              · exact Hall.out c h1
              · rw [List.mem_singleton.1 h1]; exact h))
            generalize numVN (T.data.toList.take k) = N at *
            clear hall
            cases hdg : isDg (T)[k] with
            | false =>
              have hn := Hbad.out k hlk hdg
              rw [hdg] at HDg
              clear hdg
              go_wp2_with fail
              refine (HDg.out _).mono ?_; rintro e w1 ⟨rfl, rfl⟩
              go_wp2_with fail
              go_ret2
              unfold RetN1; rw [hn]; exact ⟨rfl, hb0⟩
            | true =>
              obtain ⟨hw, h9⟩ := dig_wrap (T)[k] hdg
              have Hs2 := Lib.hid (Hsn.out hdg)
              rw [hdg] at HDg
              clear hdg Hsn
              generalize (T)[k].toNat - 48 = d at *
              go_wp2_with fail
              refine (HDg.out _).mono ?_; rintro e w1 ⟨rfl, rfl⟩
              go_wp2_with fail
              go_round
              case rel => exact ⟨k + 1, by omega, by go_num, by rw [HK.out]; go_num, Hs2.out⟩
              case measure => simp [intOf]; omega
          · have hd : T.data.toList.take k = T.data.toList := List.take_of_length_le (by simp; omega)
            rw [hd] at hall
            rw [hd]
            have hM := Hbd2.out hall
            have HR := Lib.hid (Hval2.out hall)
            generalize numVN T.data.toList = M at *
            rw [HV.out] at HR
            have hlk' : (T.size : Int) ≤ (k : Int) := by omega
            have HDx := Lib.hid (HD.out (-(M : Int)) w (by omega) (by omega))
            have hwn : IntKind.i64.wrap (-(M : Int)) = -(M : Int) := IntWalk.i64_in _ (by omega)
            clear hall hd Hall
            by_cases hq : decS (-(M : Int)) = s
            · have HQ := Lib.hid (show readN s = some (-(M : Int)) by rw [HR.out, if_pos hq])
              rw [hq] at HDx
              clear hq HR
              go_wp2_with fail
              refine HDx.out.mono ?_; rintro e w5 ⟨rfl, hb5⟩
              go_wp2_with fail
              go_ret2
              unfold RetN1; rw [HQ.out]; exact ⟨rfl, hb5⟩
            · have HQ := Lib.hid (show readN s = none by rw [HR.out, if_neg hq])
              have hbn : ((decS (-(M : Int))).toList != s.toList) = true := bne_iff_ne.2 fun e => hq (ba_inj e)
              have hbq : ((decS (-(M : Int))).toList == s.toList) = false := beq_eq_false_iff_ne.2 fun e => hq (ba_inj e)
              generalize decS (-(M : Int)) = Y at *
              clear hq HR
              go_wp2_with fail
              refine HDx.out.mono ?_; rintro e w5 ⟨rfl, hb5⟩
              go_wp2_with fail
              go_ret2
              unfold RetN1; rw [HQ.out]; exact ⟨rfl, hb5⟩
  · have HT := Lib.hid (show bodyN s = s by unfold bodyN; rw [if_neg hh])
    rw [HT.out] at Hbad Hbd Hval Hnone HV
    rw [if_neg (Nat.lt_irrefl _)] at HV
    clear HT
    by_cases t0 : s.size = 0
    · have hn := Hnone.out (.inl t0)
      have t0' : (s.size : Int) < 1 := by omega
      have hne := ne_none t0
      go_enter Tryd.func39, Tryd.ntmps39
      go_wp2_with fail
      go_ret2
      unfold RetN1; rw [hn]; exact ⟨rfl, hb0⟩
    · have t0' : ¬ (s.size : Int) < 1 := by omega
      have h0 : 0 < s.size := by omega
      have hpos : (0 : Int) < (s.size : Int) := by omega
      have hne := ne_some h0
      have hb : ((s[0].toNat : Int) == 45) = false := by
        rw [beq_eq_false_iff_ne]; intro h
        exact head_not hh h0 (UInt8.toNat_inj.1 (by have : (45 : UInt8).toNat = 45 := rfl
                                                    omega))
      by_cases t1 : 18 < s.size
      · have hn := Hnone.out (.inr t1)
        have t1' : (18 : Int) < (s.size : Int) := by omega
        go_enter Tryd.func39, Tryd.ntmps39
        go_wp2_with fail
        go_ret2
        unfold RetN1; rw [hn]; exact ⟨rfl, hb0⟩
      · have t1' : ¬ (18 : Int) < (s.size : Int) := by omega
        have hno : ¬(s.size = 0 ∨ 18 < s.size) := by omega
        have Hval2 := Lib.hid (Hval.out hno)
        have Hbd2 := Lib.hid (Hbd.out hno)
        clear Hval Hbd Hnone
        go_enter Tryd.func39, Tryd.ntmps39
        go_wp2_with fail
        go_loop [5, 6] (fun n i => ∃ k : Nat, k ≤ s.size ∧ i = .int .i64 (k : Int) ∧ n = .int .i64 (numVN (s.data.toList.take k) : Int) ∧ ∀ c ∈ s.data.toList.take k, isDg c = true) (fun _ i => s.size - (intOf i).toNat)
        case atStart => exact ⟨0, Nat.zero_le _, rfl, rfl, by simp⟩
        case round =>
          obtain ⟨k, hk, rfl, rfl, hall⟩ := hrel
          have Hall := Lib.hid hall
          by_cases hlk : k < s.size
          · have hlk' : (k : Int) < (s.size : Int) := by omega
            have HDg := Lib.hid (fun wx => l01Digit_any (s)[k] wx)
            have HK := Lib.hid (take_at s k hlk)
            have hN : numVN (s.data.toList.take k) < 100000000000000000 := by
              have h := numVN_lt _ hall
              have h3 : (10 : Nat) ^ (s.data.toList.take k).length ≤ 10 ^ 17 := Nat.pow_le_pow_right (by omega) (by rw [List.length_take]; omega)
              have h4 : (10 : Nat) ^ 17 = 100000000000000000 := by decide
              omega
            have Hsn := Lib.hid (fun (h : isDg (s)[k] = true) => (show ∀ c ∈ s.data.toList.take (k + 1), isDg c = true from fun c hc => by
              rw [List.take_succ_eq_append_getElem (by simpa using hlk)] at hc
              rcases List.mem_append.1 hc with h1 | h1
              · exact Hall.out c h1
              · rw [List.mem_singleton.1 h1]; exact h))
            generalize numVN (s.data.toList.take k) = N at *
            clear hall
            cases hdg : isDg (s)[k] with
            | false =>
              have hn := Hbad.out k hlk hdg
              rw [hdg] at HDg
              clear hdg
              go_wp2_with fail
              refine (HDg.out _).mono ?_; rintro e w1 ⟨rfl, rfl⟩
              go_wp2_with fail
              go_ret2
              unfold RetN1; rw [hn]; exact ⟨rfl, hb0⟩
            | true =>
              obtain ⟨hw, h9⟩ := dig_wrap (s)[k] hdg
              have Hs2 := Lib.hid (Hsn.out hdg)
              rw [hdg] at HDg
              clear hdg Hsn
              generalize (s)[k].toNat - 48 = d at *
              go_wp2_with fail
              refine (HDg.out _).mono ?_; rintro e w1 ⟨rfl, rfl⟩
              go_wp2_with fail
              go_round
              case rel => exact ⟨k + 1, by omega, by go_num, by rw [HK.out]; go_num, Hs2.out⟩
              case measure => simp [intOf]; omega
          · have hd : s.data.toList.take k = s.data.toList := List.take_of_length_le (by simp; omega)
            rw [hd] at hall
            rw [hd]
            have hM := Hbd2.out hall
            have HR := Lib.hid (Hval2.out hall)
            generalize numVN s.data.toList = M at *
            rw [HV.out] at HR
            have hlk' : (s.size : Int) ≤ (k : Int) := by omega
            have HDx := Lib.hid (HD.out ((M : Int)) w (by omega) (by omega))
            have hwn : IntKind.i64.wrap ((M : Int)) = (M : Int) := IntWalk.i64_in _ (by omega)
            clear hall hd Hall
            by_cases hq : decS ((M : Int)) = s
            · have HQ := Lib.hid (show readN s = some ((M : Int)) by rw [HR.out, if_pos hq])
              rw [hq] at HDx
              clear hq HR
              go_wp2_with fail
              refine HDx.out.mono ?_; rintro e w5 ⟨rfl, hb5⟩
              go_wp2_with fail
              go_ret2
              unfold RetN1; rw [HQ.out]; exact ⟨rfl, hb5⟩
            · have HQ := Lib.hid (show readN s = none by rw [HR.out, if_neg hq])
              have hbn : ((decS ((M : Int))).toList != s.toList) = true := bne_iff_ne.2 fun e => hq (ba_inj e)
              have hbq : ((decS ((M : Int))).toList == s.toList) = false := beq_eq_false_iff_ne.2 fun e => hq (ba_inj e)
              generalize decS ((M : Int)) = Y at *
              clear hq HR
              go_wp2_with fail
              refine HDx.out.mono ?_; rintro e w5 ⟨rfl, hb5⟩
              go_wp2_with fail
              go_ret2
              unfold RetN1; rw [HQ.out]; exact ⟨rfl, hb5⟩
end Go.Proofs.YtjkjlpjeamifbaaDoor
