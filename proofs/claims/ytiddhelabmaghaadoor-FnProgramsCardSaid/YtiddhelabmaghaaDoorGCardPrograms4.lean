/- Merged texts: Rn4, Sp2, Cp3, Cp4. -/
import Derived.Test.YtiddhelabmaghaaDoorGCardPrograms3
/- Numbers read from texts, part 4 (printed by gen_rn4.py): l01Number (reference). -/
namespace Go.Proofs.YtiddhelabmaghaaDoor
open Go.RowKit Go.Joins

theorem ne_some {s : ByteArray} (h : 0 < s.size) : s.toList.isEmpty = false := by
  rw [ByteArray.toList_eq, List.isEmpty_eq_false_iff]
  intro e
  have h1 : s.data.toList.length = s.size := by simp
  rw [e] at h1
  simp at h1; omega
theorem ne_none {s : ByteArray} (h : s.size = 0) : s.toList.isEmpty = true := by
  rw [ByteArray.toList_eq, List.isEmpty_iff]
  exact List.eq_nil_of_length_eq_zero (by simpa using h)

set_option maxRecDepth 100000 in
set_option maxHeartbeats 3200000 in
theorem l01Number_any (s : ByteArray) (w : World) (hs : s.size ≤ 1073741824) : Calls Tryd.prog 64 #[.string s] w (RetN1 w s) := by
  have Hnone := Lib.hid (fun h => readN_none (s := s) h)
  have Hbad := Lib.hid (fun k hk h => readN_bad (s := s) k hk h)
  have Hval := Lib.hid (fun h1 h2 => readN_val (s := s) h1 h2)
  have Hbd := Lib.hid (fun h1 h2 => valN_bd (s := s) h1 h2)
  have HD := Lib.hid (fun n wx h0 h1 => l01Dec_any n wx h0 h1)
  have hb0 := Below.refl w.heap.size w
  have HV := Lib.hid (show valN s = if (bodyN s).size < s.size then -(numVN (bodyN s).data.toList : Int) else numVN (bodyN s).data.toList from rfl)
  by_cases hh : s.data.toList.head? = some 45
  · obtain ⟨h0, he⟩ := head_sizeN hh
    have HT := Lib.hid (show bodyN s = s.extract 1 s.size by unfold bodyN; rw [if_pos hh])
    have hb : ((s[0].toNat : Int) == 45) = true := by rw [he]; rfl
    have hz0 := tail_size1 s
    have hpos : (0 : Int) < (s.size : Int) := by omega
    have hne := ne_some h0
    obtain ⟨T, hT⟩ : ∃ T, s.extract 1 s.size = T := ⟨_, rfl⟩
    rw [HT.out, hT] at Hbad Hbd Hval Hnone HV
    rw [hT] at hz0
    have hlt : T.size < s.size := by omega
    rw [if_pos hlt] at HV
    have hlt' : (T.size : Int) < (s.size : Int) := by omega
    clear HT he hh hz0
    by_cases t0 : T.size = 0
    · have hn := Hnone.out (.inl t0)
      have t0' : (T.size : Int) < 1 := by omega
      go_enter Tryd.func64, Tryd.ntmps64
      go_wp2_with fail
      go_ret2
      unfold RetN1; rw [hn]; exact ⟨rfl, hb0⟩
    · have t0' : ¬ (T.size : Int) < 1 := by omega
      by_cases t1 : 18 < T.size
      · have hn := Hnone.out (.inr t1)
        have t1' : (18 : Int) < (T.size : Int) := by omega
        go_enter Tryd.func64, Tryd.ntmps64
        go_wp2_with fail
        go_ret2
        unfold RetN1; rw [hn]; exact ⟨rfl, hb0⟩
      · have t1' : ¬ (18 : Int) < (T.size : Int) := by omega
        have hno : ¬(T.size = 0 ∨ 18 < T.size) := by omega
        have Hval2 := Lib.hid (Hval.out hno)
        have Hbd2 := Lib.hid (Hbd.out hno)
        clear Hval Hbd Hnone
        go_enter Tryd.func64, Tryd.ntmps64
        go_wp2_with fail
        go_loop [5, 6] (fun n i => ∃ k : Nat, k ≤ T.size ∧ i = .int .i64 (k : Int) ∧ n = .int .i64 (numVN (T.data.toList.take k) : Int) ∧ ∀ c ∈ T.data.toList.take k, isDg c = true) (fun _ i => T.size - (intOf i).toNat)
        case atStart => exact ⟨0, Nat.zero_le _, rfl, rfl, by simp⟩
        case round =>
          obtain ⟨k, hk, rfl, rfl, hall⟩ := hrel
          have Hall := Lib.hid hall
          by_cases hlk : k < T.size
          · have hlk' : (k : Int) < (T.size : Int) := by omega
            have HDg := Lib.hid (fun wx => l01DigitN_any (T)[k] wx)
            have HK := Lib.hid (take_at T k hlk)
            have hN : numVN (T.data.toList.take k) < 100000000000000000 := by
              have h := numVN_lt _ hall
              have h3 : (10 : Nat) ^ (T.data.toList.take k).length ≤ 10 ^ 17 := Nat.pow_le_pow_right (by omega) (by rw [List.length_take]; omega)
              have h4 : (10 : Nat) ^ 17 = 100000000000000000 := by decide
              omega
            have Hsn := Lib.hid (fun (h : isDg (T)[k] = true) => (show ∀ c ∈ T.data.toList.take (k + 1), isDg c = true from fun c hc => by
              rw [List.take_succ_eq_append_getElem (by simpa using hlk)] at hc
              rcases List.mem_append.1 hc with h1 | h1
              · exact Hall.out c h1
              · rw [List.mem_singleton.1 h1]; exact h))
            generalize numVN (T.data.toList.take k) = N at *
            clear hall
            cases hdg : isDg (T)[k] with
            | false =>
              have hn := Hbad.out k hlk hdg
              rw [hdg] at HDg
              clear hdg
              go_wp2_with fail
              refine (HDg.out _).mono ?_; rintro e w1 ⟨rfl, rfl⟩
              go_wp2_with fail
              go_ret2
              unfold RetN1; rw [hn]; exact ⟨rfl, hb0⟩
            | true =>
              obtain ⟨hw, h9⟩ := dig_wrap (T)[k] hdg
              have Hs2 := Lib.hid (Hsn.out hdg)
              rw [hdg] at HDg
              clear hdg Hsn
              generalize (T)[k].toNat - 48 = d at *
              go_wp2_with fail
              refine (HDg.out _).mono ?_; rintro e w1 ⟨rfl, rfl⟩
              go_wp2_with fail
              go_round
              case rel => exact ⟨k + 1, by omega, by go_num, by rw [HK.out]; go_num, Hs2.out⟩
              case measure => simp [intOf]; omega
          · have hd : T.data.toList.take k = T.data.toList := List.take_of_length_le (by simp; omega)
            rw [hd] at hall
            rw [hd]
            have hM := Hbd2.out hall
            have HR := Lib.hid (Hval2.out hall)
            generalize numVN T.data.toList = M at *
            rw [HV.out] at HR
            have hlk' : (T.size : Int) ≤ (k : Int) := by omega
            have HDx := Lib.hid (HD.out (-(M : Int)) w (by omega) (by omega))
            have hwn : IntKind.i64.wrap (-(M : Int)) = -(M : Int) := IntWalk.i64_in _ (by omega)
            clear hall hd Hall
            by_cases hq : decS (-(M : Int)) = s
            · have HQ := Lib.hid (show readN s = some (-(M : Int)) by rw [HR.out, if_pos hq])
              rw [hq] at HDx
              clear hq HR
              go_wp2_with fail
              refine HDx.out.mono ?_; rintro e w5 ⟨rfl, hb5⟩
              go_wp2_with fail
              go_ret2
              unfold RetN1; rw [HQ.out]; exact ⟨rfl, hb5⟩
            · have HQ := Lib.hid (show readN s = none by rw [HR.out, if_neg hq])
              have hbn : ((decS (-(M : Int))).toList != s.toList) = true := bne_iff_ne.2 fun e => hq (ba_inj e)
              have hbq : ((decS (-(M : Int))).toList == s.toList) = false := beq_eq_false_iff_ne.2 fun e => hq (ba_inj e)
              generalize decS (-(M : Int)) = Y at *
              clear hq HR
              go_wp2_with fail
              refine HDx.out.mono ?_; rintro e w5 ⟨rfl, hb5⟩
              go_wp2_with fail
              go_ret2
              unfold RetN1; rw [HQ.out]; exact ⟨rfl, hb5⟩
  · have HT := Lib.hid (show bodyN s = s by unfold bodyN; rw [if_neg hh])
    rw [HT.out] at Hbad Hbd Hval Hnone HV
    rw [if_neg (Nat.lt_irrefl _)] at HV
    clear HT
    by_cases t0 : s.size = 0
    · have hn := Hnone.out (.inl t0)
      have t0' : (s.size : Int) < 1 := by omega
      have hne := ne_none t0
      go_enter Tryd.func64, Tryd.ntmps64
      go_wp2_with fail
      go_ret2
      unfold RetN1; rw [hn]; exact ⟨rfl, hb0⟩
    · have t0' : ¬ (s.size : Int) < 1 := by omega
      have h0 : 0 < s.size := by omega
      have hpos : (0 : Int) < (s.size : Int) := by omega
      have hne := ne_some h0
      have hb : ((s[0].toNat : Int) == 45) = false := by
        rw [beq_eq_false_iff_ne]; intro h
        exact head_not hh h0 (UInt8.toNat_inj.1 (by have : (45 : UInt8).toNat = 45 := rfl
                                                    omega))
      by_cases t1 : 18 < s.size
      · have hn := Hnone.out (.inr t1)
        have t1' : (18 : Int) < (s.size : Int) := by omega
        go_enter Tryd.func64, Tryd.ntmps64
        go_wp2_with fail
        go_ret2
        unfold RetN1; rw [hn]; exact ⟨rfl, hb0⟩
      · have t1' : ¬ (18 : Int) < (s.size : Int) := by omega
        have hno : ¬(s.size = 0 ∨ 18 < s.size) := by omega
        have Hval2 := Lib.hid (Hval.out hno)
        have Hbd2 := Lib.hid (Hbd.out hno)
        clear Hval Hbd Hnone
        go_enter Tryd.func64, Tryd.ntmps64
        go_wp2_with fail
        go_loop [5, 6] (fun n i => ∃ k : Nat, k ≤ s.size ∧ i = .int .i64 (k : Int) ∧ n = .int .i64 (numVN (s.data.toList.take k) : Int) ∧ ∀ c ∈ s.data.toList.take k, isDg c = true) (fun _ i => s.size - (intOf i).toNat)
        case atStart => exact ⟨0, Nat.zero_le _, rfl, rfl, by simp⟩
        case round =>
          obtain ⟨k, hk, rfl, rfl, hall⟩ := hrel
          have Hall := Lib.hid hall
          by_cases hlk : k < s.size
          · have hlk' : (k : Int) < (s.size : Int) := by omega
            have HDg := Lib.hid (fun wx => l01DigitN_any (s)[k] wx)
            have HK := Lib.hid (take_at s k hlk)
            have hN : numVN (s.data.toList.take k) < 100000000000000000 := by
              have h := numVN_lt _ hall
              have h3 : (10 : Nat) ^ (s.data.toList.take k).length ≤ 10 ^ 17 := Nat.pow_le_pow_right (by omega) (by rw [List.length_take]; omega)
              have h4 : (10 : Nat) ^ 17 = 100000000000000000 := by decide
              omega
            have Hsn := Lib.hid (fun (h : isDg (s)[k] = true) => (show ∀ c ∈ s.data.toList.take (k + 1), isDg c = true from fun c hc => by
              rw [List.take_succ_eq_append_getElem (by simpa using hlk)] at hc
              rcases List.mem_append.1 hc with h1 | h1
              · exact Hall.out c h1
              · rw [List.mem_singleton.1 h1]; exact h))
            generalize numVN (s.data.toList.take k) = N at *
            clear hall
            cases hdg : isDg (s)[k] with
            | false =>
              have hn := Hbad.out k hlk hdg
              rw [hdg] at HDg
              clear hdg
              go_wp2_with fail
              refine (HDg.out _).mono ?_; rintro e w1 ⟨rfl, rfl⟩
              go_wp2_with fail
              go_ret2
              unfold RetN1; rw [hn]; exact ⟨rfl, hb0⟩
            | true =>
              obtain ⟨hw, h9⟩ := dig_wrap (s)[k] hdg
              have Hs2 := Lib.hid (Hsn.out hdg)
              rw [hdg] at HDg
              clear hdg Hsn
              generalize (s)[k].toNat - 48 = d at *
              go_wp2_with fail
              refine (HDg.out _).mono ?_; rintro e w1 ⟨rfl, rfl⟩
              go_wp2_with fail
              go_round
              case rel => exact ⟨k + 1, by omega, by go_num, by rw [HK.out]; go_num, Hs2.out⟩
              case measure => simp [intOf]; omega
          · have hd : s.data.toList.take k = s.data.toList := List.take_of_length_le (by simp; omega)
            rw [hd] at hall
            rw [hd]
            have hM := Hbd2.out hall
            have HR := Lib.hid (Hval2.out hall)
            generalize numVN s.data.toList = M at *
            rw [HV.out] at HR
            have hlk' : (s.size : Int) ≤ (k : Int) := by omega
            have HDx := Lib.hid (HD.out ((M : Int)) w (by omega) (by omega))
            have hwn : IntKind.i64.wrap ((M : Int)) = (M : Int) := IntWalk.i64_in _ (by omega)
            clear hall hd Hall
            by_cases hq : decS ((M : Int)) = s
            · have HQ := Lib.hid (show readN s = some ((M : Int)) by rw [HR.out, if_pos hq])
              rw [hq] at HDx
              clear hq HR
              go_wp2_with fail
              refine HDx.out.mono ?_; rintro e w5 ⟨rfl, hb5⟩
              go_wp2_with fail
              go_ret2
              unfold RetN1; rw [HQ.out]; exact ⟨rfl, hb5⟩
            · have HQ := Lib.hid (show readN s = none by rw [HR.out, if_neg hq])
              have hbn : ((decS ((M : Int))).toList != s.toList) = true := bne_iff_ne.2 fun e => hq (ba_inj e)
              have hbq : ((decS ((M : Int))).toList == s.toList) = false := beq_eq_false_iff_ne.2 fun e => hq (ba_inj e)
              generalize decS ((M : Int)) = Y at *
              clear hq HR
              go_wp2_with fail
              refine HDx.out.mono ?_; rintro e w5 ⟨rfl, hb5⟩
              go_wp2_with fail
              go_ret2
              unfold RetN1; rw [HQ.out]; exact ⟨rfl, hb5⟩
end Go.Proofs.YtiddhelabmaghaaDoor
/- Texts cut at a byte, part 2: parts (program) and l01Split (reference). -/
namespace Go.Proofs.YtiddhelabmaghaaDoor
open Go.RowKit Go.Joins

theorem infoStr : (Tryd.prog.info? 9).map (fun i => (i.zero, i.size, i.bytes)) = some (some (.string ⟨#[]⟩), 1, 16) := by kernel_rfl
/-- a new list of texts -/
def RetPs (w : World) (l : List ByteArray) (e : Ending) (w' : World) : Prop := ∃ v, e = .returned v ∧ w'.ownsRow w.heap.size 9 1 v l.length (l.map Value.string) ∧ Below w.heap.size w w'
def szV : Value → Nat
  | .string s => s.size
  | _ => 0
theorem str_snoc (l : List ByteArray) (x : ByteArray) : (l ++ [x]).map Value.string = l.map Value.string ++ [.string x] := by simp
theorem own_snoc {w : World} {base : Nat} {e : TypeId} {v : Value} {l : List ByteArray} {x : ByteArray} (h : w.ownsRow base e 1 v (l.length + 1) (l.map Value.string ++ [.string x])) : w.ownsRow base e 1 v (l ++ [x]).length ((l ++ [x]).map Value.string) := by
  rw [str_snoc, List.length_append]; exact h

set_option maxRecDepth 100000 in
set_option maxHeartbeats 1600000 in
theorem parts_any (s : ByteArray) (w : World) (hs : s.size ≤ 1073741824) : Calls Tryd.prog 59 #[.string s] w (RetPs w (splitB 32 s)) := by
  have hlen := splitB_len 32 s.size s (Nat.le_refl _)
  have hb0 := Lib.hid ((Below.refl w.heap.size w).alloc (Nat.le_refl _) (.cells #[] 9))
  have ho0 := Lib.hid (World.ownsRow_made (base := w.heap.size) (e := 9) (size := 1) w #[] 0 (Nat.le_refl _) (by simp [maxLen]) rfl)
  generalize hR : splitB 32 s = R at *
  have HR := Lib.hid hR; clear hR
  go_enter Tryd.func59, Tryd.ntmps59
  go_wp2_with fail
  go_loopw [0, 3] (fun l o wr => ∃ (ln : ByteArray) (out : List ByteArray), l = .string ln ∧ ln.size ≤ s.size ∧ R = out ++ splitB 32 ln ∧ wr.ownsRow w.heap.size 9 1 o out.length (out.map Value.string) ∧ Below w.heap.size w wr) (fun l _ _ => szV l)
  case atStart => exact ⟨s, [], rfl, Nat.le_refl _, by rw [← HR.out]; rfl, ho0.out, hb0.out⟩
  case round =>
    obtain ⟨ln, out, rfl, hz, hsp, hown, hbl⟩ := hrel
    have HC := Lib.hid (fun wx => cut_any ln 32 wx (by omega))
    have hfl := fnd_le 32 ln
    have hll : out.length ≤ s.size + 1 := by
      have h1 := congrArg List.length hsp
      rw [List.length_append] at h1
      omega
    have Hsp := Lib.hid hsp; clear hsp
    have Hyes := Lib.hid (fun h => splitB_yes (c := 32) (s := ln) h)
    have Hno := Lib.hid (fun h => splitB_no (c := 32) (s := ln) h)
    have Hz := Lib.hid (tail_sizeS ln (fnd 32 ln + 1))
    have Hall := Lib.hid (ext_all ln)
    have Hown := Lib.hid hown
    have Hbl := Lib.hid hbl
    clear hown hbl
    by_cases hf : fnd 32 ln < ln.size
    · rw [decide_eq_true hf] at HC
      have hy := Hyes.out hf
      generalize fnd 32 ln = k at *
      generalize ln.extract 0 k = x at *
      generalize ln.extract (k + 1) ln.size = y at *
      have Hy := Lib.hid hy; clear hy
      clear Hyes Hno Hall
      go_wp2_with fail
      refine (HC.out _).mono ?_; rintro e w5 ⟨rfl, n5, hw5⟩
      have hb5 : Below w.heap.size w w5 := by rw [hw5]; exact below_drewN Hbl.out n5
      have ho5 := Hown.out.drewN n5
      rw [← hw5] at ho5
      have Hb5 := Lib.hid hb5
      have Ho5 := Lib.hid ho5
      have hz5 := hb5.size
      clear hw5 hb5 ho5 Hown Hbl HC
      go_wp2_with (at_builtin; refine wpList_apd 37 9 _ 1 16 Tryd.underlying37 infoStr rfl (by omega) _ _ rfl rfl w.heap.size _ out.length _ rfl Ho5.out #[.string x] 1 1 rfl rfl (by simp [Value.oneCell']) (by simp [maxLen]; omega) (by omega) hz5 ?_; intro v7 w7 hown7 hg7; have Hb7 := Lib.hid (below_apd Hb5.out Ho5.out hg7 (Nat.le_refl _) hz5); have Ho7 := Lib.hid (own_snoc hown7); clear hown7 hg7)
      go_roundw
      case rel => exact ⟨y, out ++ [x], rfl, by have := Hz.out; omega, by rw [Hsp.out, Hy.out]; simp, Ho7.out, Hb7.out⟩
      case measure => simp [szV]; have := Hz.out; omega
    · rw [decide_eq_false hf] at HC
      have hy := Hno.out (by omega)
      have hk : fnd 32 ln = ln.size := by omega
      rw [hk, Hall.out] at HC
      generalize ln.extract (ln.size + 1) ln.size = y at *
      have Hy := Lib.hid hy; clear hy
      clear Hyes Hno Hall
      go_wp2_with fail
      refine (HC.out _).mono ?_; rintro e w5 ⟨rfl, n5, hw5⟩
      have hb5 : Below w.heap.size w w5 := by rw [hw5]; exact below_drewN Hbl.out n5
      have ho5 := Hown.out.drewN n5
      rw [← hw5] at ho5
      have Hb5 := Lib.hid hb5
      have Ho5 := Lib.hid ho5
      have hz5 := hb5.size
      clear hw5 hb5 ho5 Hown Hbl HC
      go_wp2_with (at_builtin; refine wpList_apd 37 9 _ 1 16 Tryd.underlying37 infoStr rfl (by omega) _ _ rfl rfl w.heap.size _ out.length _ rfl Ho5.out #[.string ln] 1 1 rfl rfl (by simp [Value.oneCell']) (by simp [maxLen]; omega) (by omega) hz5 ?_; intro v7 w7 hown7 hg7; have Hb7 := Lib.hid (below_apd Hb5.out Ho5.out hg7 (Nat.le_refl _) hz5); have Ho7 := Lib.hid (own_snoc hown7); clear hown7 hg7)
      go_ret
      have hfin : R = out ++ [ln] := by rw [Hsp.out, Hy.out]
      rw [hfin]; exact ⟨_, rfl, Ho7.out, Hb7.out⟩

set_option maxRecDepth 100000 in
set_option maxHeartbeats 1600000 in
theorem l01Split_any (s : ByteArray) (c : UInt8) (w : World) (hs : s.size ≤ 1073741824) : Calls Tryd.prog 55 #[.string s, .int .u8 (c.toNat : Int)] w (RetPs w (splitB c s)) := by
  have hlen := splitB_len c s.size s (Nat.le_refl _)
  have hb0 := Lib.hid ((Below.refl w.heap.size w).alloc (Nat.le_refl _) (.cells #[] 9))
  have ho0 := Lib.hid (World.ownsRow_made (base := w.heap.size) (e := 9) (size := 1) w #[] 0 (Nat.le_refl _) (by simp [maxLen]) rfl)
  generalize hR : splitB c s = R at *
  have HR := Lib.hid hR; clear hR
  have h00 := Lib.hid (ext_all s)
  go_enter Tryd.func55, Tryd.ntmps55
  go_wp2_with fail
  go_loopw [5, 6, 7] (fun o f i wr => ∃ (out : List ByteArray) (a k : Nat), f = .int .i64 a ∧ i = .int .i64 k ∧ a ≤ k ∧ k ≤ s.size ∧ R = out ++ splitB c (s.extract a s.size) ∧ k - a ≤ fnd c (s.extract a s.size) ∧ wr.ownsRow w.heap.size 9 1 o out.length (out.map Value.string) ∧ Below w.heap.size w wr) (fun _ _ i _ => s.size - (intOf i).toNat)
  case atStart => exact ⟨[], 0, 0, rfl, rfl, Nat.le_refl _, Nat.zero_le _, by rw [h00.out, HR.out]; rfl, Nat.zero_le _, ho0.out, hb0.out⟩
  case round =>
    obtain ⟨out, a, k, rfl, rfl, hak, hks, hsp, hfd, hown, hbl⟩ := hrel
    have hll : out.length ≤ s.size + 1 := by
      have h1 := congrArg List.length hsp
      rw [List.length_append] at h1
      omega
    have Hsp := Lib.hid hsp; clear hsp
    have Hown := Lib.hid hown
    have Hbl := Lib.hid hbl
    have hz5 := hbl.size
    clear hown hbl
    by_cases hlt : k < s.size
    · have hlt' : (k : Int) < (s.size : Int) := by omega
      by_cases he : s[k] = c
      · have hit := sp_hit hak hlt hfd he
        have Hit := Lib.hid hit; clear hit
        have hb : ((s[k].toNat : Int) == (c.toNat : Int)) = true := by rw [he]; simp
        clear he hfd
        have hx : (a : Int) ≤ (k : Int) := by omega
        go_wp2_with (at_builtin; refine wpList_apd 37 9 _ 1 16 Tryd.underlying37 infoStr rfl (by omega) _ _ rfl rfl w.heap.size _ out.length _ rfl Hown.out #[.string (s.extract a k)] 1 1 rfl rfl (by simp [Value.oneCell']) (by simp [maxLen]; omega) (by omega) hz5 ?_; intro v7 w7 hown7 hg7; have Hb7 := Lib.hid (below_apd Hbl.out Hown.out hg7 (Nat.le_refl _) hz5); have Ho7 := Lib.hid (own_snoc hown7); clear hown7 hg7)
        go_roundw
        case rel => exact ⟨out ++ [s.extract a k], k + 1, k + 1, by go_num, by go_num, Nat.le_refl _, by omega, by rw [Hsp.out, Hit.out]; simp, by omega, Ho7.out, Hb7.out⟩
        case measure => simp [intOf]; omega
      · have hm := sp_miss hak hlt hfd he
        have hb : ((s[k].toNat : Int) == (c.toNat : Int)) = false := by
          rw [beq_eq_false_iff_ne]
          intro h
          exact he (UInt8.toNat_inj.1 (by omega))
        clear he hfd
        go_wp2_with fail
        go_roundw
        case rel => exact ⟨out, a, k + 1, rfl, by go_num, by omega, by omega, Hsp.out, hm, Hown.out, Hbl.out⟩
        case measure => simp [intOf]; omega
    · have hend := sp_end (c := c) (s := s) (f := a) (by omega)
      have Hend := Lib.hid hend; clear hend hfd
      have hlt' : (s.size : Int) ≤ (k : Int) := by omega
      have hx : (a : Int) ≤ (s.size : Int) := by omega
      go_wp2_with (at_builtin; refine wpList_apd 37 9 _ 1 16 Tryd.underlying37 infoStr rfl (by omega) _ _ rfl rfl w.heap.size _ out.length _ rfl Hown.out #[.string (s.extract a s.size)] 1 1 rfl rfl (by simp [Value.oneCell']) (by simp [maxLen]; omega) (by omega) hz5 ?_; intro v7 w7 hown7 hg7; have Hb7 := Lib.hid (below_apd Hbl.out Hown.out hg7 (Nat.le_refl _) hz5); have Ho7 := Lib.hid (own_snoc hown7); clear hown7 hg7)
      go_ret
      have hfin : R = out ++ [s.extract a s.size] := by rw [Hsp.out, Hend.out]
      rw [hfin]; exact ⟨_, rfl, Ho7.out, Hb7.out⟩
end Go.Proofs.YtiddhelabmaghaaDoor
/- A program's line, read, part 3: the words of the operations, the two blocks of a reader. -/
namespace Go.Proofs.YtiddhelabmaghaaDoor
open Go.RowKit Go.Joins

def WdAt (b m : Nat) (f : Nat → ByteArray) (w : World) : Prop := ∀ n, n < m → w.cell? ⟨b, n, none⟩ = some (.string (f n))
theorem WdAt.next {b m : Nat} {f : Nat → ByteArray} {w w' : World} (h : WdAt b m f w) (hb : Below w.heap.size w w') : WdAt b m f w' := fun n hn =>
  (hb.cell (p := ⟨b, n, none⟩) (World.block_lt_of_cell? w _ (h n hn))).trans (h n hn)
theorem WdAt.set {b m g i : Nat} {f : Nat → ByteArray} {w : World} (h : WdAt b m f w) (hg : b ≠ g) (v : Value) : WdAt b m f (w.setCell ⟨g, i, none⟩ v) := fun n hn =>
  (World.cell?_of_block (a := ⟨b, n, none⟩) (Below.heap_setCell _ _ _ _ hg)).trans (h n hn)
theorem opWords_all (w : World) : Calls Tryd.prog 109 #[] w fun e w' => e = .returned (.slice (some ⟨w.heap.size, 0, none⟩) 11 11) ∧ WdAt w.heap.size 11 wordP w' ∧ Below w.heap.size w w' := by
  have hb := (Below.refl w.heap.size w).alloc (Nat.le_refl _)
  have hc := fun (cs : Array Value) (n : Nat) (h : cs.toList[n]? = some (.string (wordP n))) => (add0 w.heap.size n) ▸ new_cells w cs 9 n _ h
  have hw := fun n hn => wordP_at n hn
  go_enter Tryd.func109, Tryd.ntmps109
  go_wp2_with fail
  go_ret
  exact ⟨rfl, fun n hn => hc _ n (hw n hn), hb _⟩
theorem l11Words_all (w : World) : Calls Tryd.prog 112 #[] w fun e w' => e = .returned (.slice (some ⟨w.heap.size, 0, none⟩) 10 10) ∧ WdAt w.heap.size 10 (fun k => wordP (k + 1)) w' ∧ Below w.heap.size w w' := by
  have hb := (Below.refl w.heap.size w).alloc (Nat.le_refl _)
  have hc := fun (cs : Array Value) (n : Nat) (h : cs.toList[n]? = some (.string (wordP (n + 1)))) => (add0 w.heap.size n) ▸ new_cells w cs 9 n _ h
  have hw := fun n (hn : n < 10) => wordP_at (n + 1) (by omega)
  go_enter Tryd.func112, Tryd.ntmps112
  go_wp2_with fail
  go_ret
  exact ⟨rfl, fun n hn => hc _ n (hw n hn), hb _⟩

/-- a result's block r and a block g of the function's own, two numbers each -/
structure Rl (W : World) (r g : Nat) (a b : Int) (w : World) : Prop where
  acc : Below W.heap.size W w
  r0 : W.heap.size ≤ r
  ne : r < g
  gs : g < w.heap.size
  res : w.heap[r]? = some (.cells #[.int .i64 0, .int .i64 0] 91 (0, 0))
  own : w.heap[g]? = some (.cells #[.int .i64 a, .int .i64 b] 91 (0, 0))
theorem Rl.cells {W : World} {r g : Nat} {a b : Int} {w : World} (h : Rl W r g a b w) : w.cell? ⟨g, 0, none⟩ = some (.int .i64 a) ∧ w.cell? ⟨g, 1, none⟩ = some (.int .i64 b) ∧ w.frozen? ⟨g, 0, none⟩ = false ∧ w.frozen? ⟨g, 1, none⟩ = false := blk2 h.own
theorem Rl.rcells {W : World} {r g : Nat} {a b : Int} {w : World} (h : Rl W r g a b w) : w.cell? ⟨r, 0, none⟩ = some (.int .i64 0) ∧ w.cell? ⟨r, 1, none⟩ = some (.int .i64 0) ∧ w.frozen? ⟨r, 0, none⟩ = false ∧ w.frozen? ⟨r, 1, none⟩ = false := blk2 h.res
theorem Rl.next {W : World} {r g : Nat} {a b : Int} {w w' : World} (h : Rl W r g a b w) (hb : Below w.heap.size w w') : Rl W r g a b w' :=
  ⟨h.acc.trans (hb.mono h.acc.size), h.r0, h.ne, Nat.lt_of_lt_of_le h.gs hb.size, (hb.block r (Nat.lt_trans h.ne h.gs)).trans h.res, (hb.block g h.gs).trans h.own⟩
theorem Rl.set0 {W : World} {r g : Nat} {a b : Int} {w : World} (h : Rl W r g a b w) (x : Int) : Rl W r g x b (w.setCell ⟨g, 0, none⟩ (.int .i64 x)) :=
  ⟨h.acc.setCell (p := ⟨g, 0, none⟩) (Nat.le_of_lt (Nat.lt_of_le_of_lt h.r0 h.ne)) _, h.r0, h.ne, by simpa [World.setCell] using h.gs, (Below.heap_setCell _ _ _ _ (Nat.ne_of_lt h.ne)).trans h.res, heap_setCell_same w g 0 _ _ _ h.own⟩
theorem Rl.set1 {W : World} {r g : Nat} {a b : Int} {w : World} (h : Rl W r g a b w) (x : Int) : Rl W r g a x (w.setCell ⟨g, 1, none⟩ (.int .i64 x)) :=
  ⟨h.acc.setCell (p := ⟨g, 1, none⟩) (Nat.le_of_lt (Nat.lt_of_le_of_lt h.r0 h.ne)) _, h.r0, h.ne, by simpa [World.setCell] using h.gs, (Below.heap_setCell _ _ _ _ (Nat.ne_of_lt h.ne)).trans h.res, heap_setCell_same w g 1 _ _ _ h.own⟩
theorem Rl.done {W : World} {r g : Nat} {a b : Int} {w : World} (h : Rl W r g a b w) (x y : Int) :
    ((w.setCell ⟨r, 0, none⟩ (.int .i64 x)).setCell ⟨r, 1, none⟩ (.int .i64 y)).cell? ⟨r, 0, none⟩ = some (.int .i64 x) ∧ ((w.setCell ⟨r, 0, none⟩ (.int .i64 x)).setCell ⟨r, 1, none⟩ (.int .i64 y)).cell? ⟨r, 1, none⟩ = some (.int .i64 y) ∧
    Below W.heap.size W ((w.setCell ⟨r, 0, none⟩ (.int .i64 x)).setCell ⟨r, 1, none⟩ (.int .i64 y)) := by
  have hq := heap_setCell_same _ r 1 _ _ (.int .i64 y) (heap_setCell_same w r 0 _ _ (.int .i64 x) h.res)
  obtain ⟨p, q, _, _⟩ := blk2 hq
  exact ⟨p, q, (h.acc.setCell (p := ⟨r, 0, none⟩) h.r0 _).setCell (p := ⟨r, 1, none⟩) h.r0 _⟩
theorem Rl.start {W w : World} (o : World) (hb : Below (W.alloc (.cells #[.int .i64 0, .int .i64 0] 91)).heap.size (W.alloc (.cells #[.int .i64 0, .int .i64 0] 91)) w) (a b : Int)
    (ho : o = w.alloc (.cells #[.int .i64 a, .int .i64 b] 91)) : Rl W W.heap.size w.heap.size a b o := by
  have hz := hb.size
  simp at hz
  have h1 := (hb.block W.heap.size (by simp)).trans (heap_alloc_new W (.cells #[.int .i64 0, .int .i64 0] 91))
  have h0 : Below W.heap.size W w := ((Below.refl _ _).alloc (Nat.le_refl _) _).trans (hb.mono (by simp))
  subst ho
  exact ⟨h0.alloc h0.size _, Nat.le_refl _, by omega, by simp, (((Below.refl w.heap.size w).alloc (Nat.le_refl _) _).block W.heap.size (by omega)).trans h1, heap_alloc_new w _⟩
end Go.Proofs.YtiddhelabmaghaaDoor
/- A program's line, read, part 4: readLine (program). -/
namespace Go.Proofs.YtiddhelabmaghaaDoor
open Go.RowKit Go.Joins

def RetRl (w : World) (x : Int × Int × Int) (e : Ending) (w' : World) : Prop := e = .returned (.tuple #[.agg #[.int .i64 x.1, .int .i64 x.2.1], .int .i64 x.2.2]) ∧ Below w.heap.size w w'
theorem opW_step (x : ByteArray) (k : Nat) : opF x (k + 1) = if 0 < k ∧ wordP k = x then k else opF x k := rfl

set_option maxRecDepth 100000 in
set_option maxHeartbeats 3200000 in
theorem readLine_any (s : ByteArray) (w : World) (hs : s.size ≤ 1073741824) (ht : Tab w) : Calls Tryd.prog 114 #[.string s] w (RetRl w (rl s)) := by
  have HC := Lib.hid (fun wx => cut_any s 32 wx hs)
  have HO := Lib.hid (fun wx => opWords_all wx)
  have Hz := Lib.hid (show (restL s).size ≤ 1073741824 by unfold restL; rw [ByteArray.size_extract]; omega)
  have HR := Lib.hid (fun wx hx => ReadDecimal_any (restL s) wx Hz.out hx)
  have Ht := Lib.hid ht
  have Hn := Lib.hid (fun h => rl_none (s := s) h)
  have Hb := Lib.hid (fun n a h1 h2 h3 h4 => rl_bad (s := s) (n := n) (a := a) h1 h2 h3 h4)
  have Hg := Lib.hid (fun n a h1 h2 h3 h4 => rl_good (s := s) (n := n) (a := a) h1 h2 h3 h4)
  have hle := opW_le (wordL s)
  have HX := Lib.hid (fun k => opW_step (wordL s) k)
  have H11 := Lib.hid (show opW (wordL s) = opF (wordL s) 11 from rfl)
  have hX : s.extract 0 (fnd 32 s) = wordL s := rfl
  have hY : s.extract (fnd 32 s + 1) s.size = restL s := rfl
  rw [hX, hY] at HC
  generalize wordL s = X at *
  generalize restL s = Y at *
  generalize decide (fnd 32 s < s.size) = ok at *
  clear ht hX hY
  have HB0 := Lib.hid (fun n => below_drewN (Below.refl (w.alloc (.cells #[.int .i64 0, .int .i64 0] 91)).heap.size (w.alloc (.cells #[.int .i64 0, .int .i64 0] 91))) n)
  go_enter Tryd.func114, Tryd.ntmps114
  go_wp2_with fail
  refine (HC.out _).mono ?_; rintro e w5 ⟨rfl, n5, hw5⟩
  have HS := HB0.out n5
  rw [← hw5] at HS
  have R1 := Lib.hid (Rl.start _ HS 0 0 rfl)
  clear hw5 HS HB0 HC
  go_wp2_with fail
  generalize hwa : w5.alloc (.cells #[.int .i64 0, .int .i64 0] 91) = wa at *
  clear hwa
  refine (HO.out _).mono ?_; rintro e w6 ⟨rfl, hw6, hb6⟩
  have R6 := Lib.hid (R1.out.next hb6)
  have hne : wa.heap.size ≠ w5.heap.size := Nat.ne_of_gt R1.out.gs
  have W6 := Lib.hid hw6
  generalize wa.heap.size = b at *
  generalize w5.heap.size = g at *
  clear R1 hb6 hw6 HO
  go_wp2_with fail
  go_loopw [8, 9, 21] (fun _ _ i wr => ∃ k : Nat, k ≤ 11 ∧ i = .int .i64 (k : Int) ∧ Rl w w.heap.size g (opF X k : Int) 0 wr ∧ WdAt b 11 wordP wr) (fun _ _ i _ => 11 - (intOf i).toNat)
  case atStart => exact ⟨0, by omega, rfl, R6.out, W6.out⟩
  case round =>
    obtain ⟨k, hk, rfl, hr, hw⟩ := hrel
    have Hr := Lib.hid hr
    have Hw := Lib.hid hw
    clear R6 W6
    by_cases hlt : k < 11
    · have hlt' : (k : Int) < 11 := by omega
      have hc := hw k hlt
      obtain ⟨c0, c1, f0, f1⟩ := hr.cells
      have hst := HX.out k
      clear hw hr
      by_cases hk0 : 0 < k
      · have hk0' : (0 : Int) < (k : Int) := by omega
        by_cases he : wordP k = X
        · have Hst := Lib.hid (show opF X (k + 1) = k by rw [hst, if_pos ⟨hk0, he⟩])
          rw [he] at hc
          clear he hst hk0
          go_wp2_with fail
          go_roundw
          case rel => exact ⟨k + 1, by omega, by go_num, by rw [Hst.out]; exact Hr.out.set0 k, Hw.out.set hne _⟩
          case measure => simp [intOf]; omega
        · have Hst := Lib.hid (show opF X (k + 1) = opF X k by rw [hst, if_neg fun h => he h.2])
          have hbq : ((wordP k).toList == X.toList) = false := beq_eq_false_iff_ne.2 fun e => he (ba_inj e)
          generalize wordP k = Wk at *
          clear he hst hk0
          go_wp2_with fail
          go_roundw
          case rel => exact ⟨k + 1, by omega, by go_num, by rw [Hst.out]; exact Hr.out, Hw.out⟩
          case measure => simp [intOf]; omega
      · have Hst := Lib.hid (show opF X (k + 1) = opF X k by rw [hst, if_neg fun h => hk0 h.1])
        have hk0' : ¬ (0 : Int) < (k : Int) := by omega
        clear hst hk0
        go_wp2_with fail
        go_roundw
        case rel => exact ⟨k + 1, by omega, by go_num, by rw [Hst.out]; exact Hr.out, Hw.out⟩
        case measure => simp [intOf]; omega
    · have hk11 : k = 11 := by omega
      subst hk11
      rw [← H11.out] at Hr
      have R7 := Lib.hid Hr.out
      clear Hr Hw hr hw HX H11 hlt hk hne
      generalize opW X = n at *
      obtain ⟨c0, c1, f0, f1⟩ := R7.out.cells
      obtain ⟨d0, d1, e0, e1⟩ := R7.out.rcells
      by_cases h0 : n = 0
      · subst h0
        have HD := Lib.hid (R7.out.done 0 0)
        have hn := Hn.out rfl
        clear Hb Hg Hn
        go_wp2_with fail
        obtain ⟨p0, p1, hbz⟩ := HD.out
        refine bodyPost_ret (v := .tuple #[.agg #[.int .i64 0, .int .i64 0], .int .i64 1]) (by simp [results, Tryd.results114, go_sem, p0, p1]) rfl ?_
        unfold RetRl; rw [hn]; exact ⟨rfl, hbz⟩
      · have hcs : n = 1 ∨ n = 8 ∨ n = 2 ∨ n = 3 ∨ n = 4 ∨ n = 5 ∨ n = 6 ∨ n = 7 ∨ n = 9 ∨ n = 10 := by omega
        have Ht7 := Lib.hid (Ht.out.below R7.out.acc)
        clear Hn hle h0
        unfold RetN1 at HR
        have HI := Lib.hid (fun op a wx => isInstr_any op a wx)
        have HL := Lib.hid (fun n a wx h hx => lineIns_any n a wx h hx)
        rcases hcs with rfl | rfl | rfl | rfl | rfl | rfl | rfl | rfl | rfl | rfl
        · have hE : (readN Y).getD 0 = argW 1 Y := rfl
          rw [hE] at HR
          generalize hA : argW 1 Y = a at *
          have Ha := Lib.hid hA; clear hA hE
          generalize (readN Y).isSome = okb at *
          go_wp2_with fail
          refine (HR.out _ Ht7.out).mono ?_; rintro e w8 ⟨rfl, hb8⟩
          have R8 := Lib.hid (R7.out.next hb8)
          clear hb8 c0 c1 f0 f1 d0 d1 e0 e1
          obtain ⟨c0, c1, f0, f1⟩ := R8.out.cells
          have R9 := Lib.hid (R8.out.set1 a)
          have HtN := Lib.hid (Ht.out.below R9.out.acc)
          cases hok : okIns ((1 : Nat) : Int) a with
          | false =>
            have HIx := Lib.hid (fun wx => HI.out ((1 : Nat) : Int) a wx)
            have hfin := Hb.out 1 a rfl (by decide) Ha.out (by rw [hok]; exact fun h => Bool.noConfusion h.1)
            rw [hok] at HIx
            clear hok
            go_wp2_with fail
            refine (HIx.out _).mono ?_; rintro e w9 ⟨rfl, hb9⟩
            have R9 := Lib.hid (R9.out.next hb9)
            clear c0 c1 f0 f1
            obtain ⟨d0, d1, e0, e1⟩ := R9.out.rcells
            have HD := Lib.hid (R9.out.done 0 0)
            clear hb9
            go_wp2_with fail
            obtain ⟨p0, p1, hbz⟩ := HD.out
            refine bodyPost_ret (v := .tuple #[.agg #[.int .i64 0, .int .i64 0], .int .i64 2]) (by simp [results, Tryd.results114, go_sem, p0, p1]) rfl ?_
            unfold RetRl; rw [hfin]; exact ⟨rfl, hbz⟩
          | true =>
            have HIx := Lib.hid (fun wx => HI.out ((1 : Nat) : Int) a wx)
            have HLx := Lib.hid (fun wx hx => HL.out 1 a wx hok hx)
            rw [hok] at HIx
            by_cases hl : lineP 1 a = s
            · have hfin := Hg.out 1 a rfl (by decide) Ha.out ⟨hok, hl⟩
              rw [hl] at HLx
              clear hok hl
              go_wp2_with fail
              refine (HIx.out _).mono ?_; rintro e w9 ⟨rfl, hb9⟩
              have R9 := Lib.hid (R9.out.next hb9)
              have Ht9 := Lib.hid (HtN.out.below hb9)
              clear c0 c1 f0 f1
              obtain ⟨c90, c91, f90, f91⟩ := R9.out.cells
              clear hb9
              go_wp2_with fail
              refine (HLx.out _ Ht9.out).mono ?_; rintro e w10 ⟨rfl, hb10⟩
              have R10 := Lib.hid (R9.out.next hb10)
              clear c90 c91 f90 f91
              obtain ⟨d0, d1, e0, e1⟩ := R10.out.rcells
              obtain ⟨c100, c101, f100, f101⟩ := R10.out.cells
              have HD := Lib.hid (R10.out.done (1 : Int) a)
              clear hb10
              go_wp2_with fail
              obtain ⟨p0, p1, hbz⟩ := HD.out
              refine bodyPost_ret (v := .tuple #[.agg #[.int .i64 (1 : Int), .int .i64 a], .int .i64 0]) (by simp [results, Tryd.results114, go_sem, p0, p1]) rfl ?_
              unfold RetRl; rw [hfin]; exact ⟨rfl, hbz⟩
            · have hfin := Hb.out 1 a rfl (by decide) Ha.out (fun h => hl h.2)
              have hbn : ((lineP 1 a).toList != s.toList) = true := bne_iff_ne.2 fun e => hl (ba_inj e)
              have hbq : ((lineP 1 a).toList == s.toList) = false := beq_eq_false_iff_ne.2 fun e => hl (ba_inj e)
              generalize lineP 1 a = D at *
              clear hok hl
              go_wp2_with fail
              refine (HIx.out _).mono ?_; rintro e w9 ⟨rfl, hb9⟩
              have R9 := Lib.hid (R9.out.next hb9)
              have Ht9 := Lib.hid (HtN.out.below hb9)
              clear c0 c1 f0 f1
              obtain ⟨c90, c91, f90, f91⟩ := R9.out.cells
              clear hb9
              go_wp2_with fail
              refine (HLx.out _ Ht9.out).mono ?_; rintro e w10 ⟨rfl, hb10⟩
              have R10 := Lib.hid (R9.out.next hb10)
              clear c90 c91 f90 f91
              obtain ⟨d0, d1, e0, e1⟩ := R10.out.rcells
              have HD := Lib.hid (R10.out.done 0 0)
              clear hb10
              go_wp2_with fail
              obtain ⟨p0, p1, hbz⟩ := HD.out
              refine bodyPost_ret (v := .tuple #[.agg #[.int .i64 0, .int .i64 0], .int .i64 2]) (by simp [results, Tryd.results114, go_sem, p0, p1]) rfl ?_
              unfold RetRl; rw [hfin]; exact ⟨rfl, hbz⟩
        · have hE : (readN Y).getD 0 = argW 8 Y := rfl
          rw [hE] at HR
          generalize hA : argW 8 Y = a at *
          have Ha := Lib.hid hA; clear hA hE
          generalize (readN Y).isSome = okb at *
          go_wp2_with fail
          refine (HR.out _ Ht7.out).mono ?_; rintro e w8 ⟨rfl, hb8⟩
          have R8 := Lib.hid (R7.out.next hb8)
          clear hb8 c0 c1 f0 f1 d0 d1 e0 e1
          obtain ⟨c0, c1, f0, f1⟩ := R8.out.cells
          have R9 := Lib.hid (R8.out.set1 a)
          have HtN := Lib.hid (Ht.out.below R9.out.acc)
          cases hok : okIns ((8 : Nat) : Int) a with
          | false =>
            have HIx := Lib.hid (fun wx => HI.out ((8 : Nat) : Int) a wx)
            have hfin := Hb.out 8 a rfl (by decide) Ha.out (by rw [hok]; exact fun h => Bool.noConfusion h.1)
            rw [hok] at HIx
            clear hok
            go_wp2_with fail
            refine (HIx.out _).mono ?_; rintro e w9 ⟨rfl, hb9⟩
            have R9 := Lib.hid (R9.out.next hb9)
            clear c0 c1 f0 f1
            obtain ⟨d0, d1, e0, e1⟩ := R9.out.rcells
            have HD := Lib.hid (R9.out.done 0 0)
            clear hb9
            go_wp2_with fail
            obtain ⟨p0, p1, hbz⟩ := HD.out
            refine bodyPost_ret (v := .tuple #[.agg #[.int .i64 0, .int .i64 0], .int .i64 2]) (by simp [results, Tryd.results114, go_sem, p0, p1]) rfl ?_
            unfold RetRl; rw [hfin]; exact ⟨rfl, hbz⟩
          | true =>
            have HIx := Lib.hid (fun wx => HI.out ((8 : Nat) : Int) a wx)
            have HLx := Lib.hid (fun wx hx => HL.out 8 a wx hok hx)
            rw [hok] at HIx
            by_cases hl : lineP 8 a = s
            · have hfin := Hg.out 8 a rfl (by decide) Ha.out ⟨hok, hl⟩
              rw [hl] at HLx
              clear hok hl
              go_wp2_with fail
              refine (HIx.out _).mono ?_; rintro e w9 ⟨rfl, hb9⟩
              have R9 := Lib.hid (R9.out.next hb9)
              have Ht9 := Lib.hid (HtN.out.below hb9)
              clear c0 c1 f0 f1
              obtain ⟨c90, c91, f90, f91⟩ := R9.out.cells
              clear hb9
              go_wp2_with fail
              refine (HLx.out _ Ht9.out).mono ?_; rintro e w10 ⟨rfl, hb10⟩
              have R10 := Lib.hid (R9.out.next hb10)
              clear c90 c91 f90 f91
              obtain ⟨d0, d1, e0, e1⟩ := R10.out.rcells
              obtain ⟨c100, c101, f100, f101⟩ := R10.out.cells
              have HD := Lib.hid (R10.out.done (8 : Int) a)
              clear hb10
              go_wp2_with fail
              obtain ⟨p0, p1, hbz⟩ := HD.out
              refine bodyPost_ret (v := .tuple #[.agg #[.int .i64 (8 : Int), .int .i64 a], .int .i64 0]) (by simp [results, Tryd.results114, go_sem, p0, p1]) rfl ?_
              unfold RetRl; rw [hfin]; exact ⟨rfl, hbz⟩
            · have hfin := Hb.out 8 a rfl (by decide) Ha.out (fun h => hl h.2)
              have hbn : ((lineP 8 a).toList != s.toList) = true := bne_iff_ne.2 fun e => hl (ba_inj e)
              have hbq : ((lineP 8 a).toList == s.toList) = false := beq_eq_false_iff_ne.2 fun e => hl (ba_inj e)
              generalize lineP 8 a = D at *
              clear hok hl
              go_wp2_with fail
              refine (HIx.out _).mono ?_; rintro e w9 ⟨rfl, hb9⟩
              have R9 := Lib.hid (R9.out.next hb9)
              have Ht9 := Lib.hid (HtN.out.below hb9)
              clear c0 c1 f0 f1
              obtain ⟨c90, c91, f90, f91⟩ := R9.out.cells
              clear hb9
              go_wp2_with fail
              refine (HLx.out _ Ht9.out).mono ?_; rintro e w10 ⟨rfl, hb10⟩
              have R10 := Lib.hid (R9.out.next hb10)
              clear c90 c91 f90 f91
              obtain ⟨d0, d1, e0, e1⟩ := R10.out.rcells
              have HD := Lib.hid (R10.out.done 0 0)
              clear hb10
              go_wp2_with fail
              obtain ⟨p0, p1, hbz⟩ := HD.out
              refine bodyPost_ret (v := .tuple #[.agg #[.int .i64 0, .int .i64 0], .int .i64 2]) (by simp [results, Tryd.results114, go_sem, p0, p1]) rfl ?_
              unfold RetRl; rw [hfin]; exact ⟨rfl, hbz⟩
        · have R8 := Lib.hid (R7.out.set1 1)
          have Ht8 := Lib.hid (Ht.out.below R8.out.acc)
          have HRx := Lib.hid (HR.out _ Ht8.out)
          cases hq : readN Y with
          | none =>
            rw [hq] at HRx
            have Ha := Lib.hid (show argW 2 Y = 1 by unfold argW; rw [if_neg (by decide), if_pos (by decide), hq]; rfl)
            generalize ha1 : (1 : Int) = a at Ha
            have Ha1 := Lib.hid ha1; clear ha1 hq
            go_wp2_with fail
            refine HRx.out.mono ?_; rintro e w88 ⟨rfl, hb8⟩
            have R9 := Lib.hid (R8.out.next hb8)
            rw [Ha1.out] at R9
            clear hb8 c0 c1 f0 f1 d0 d1 e0 e1 HRx R8
            obtain ⟨c0, c1, f0, f1⟩ := R9.out.cells
            have HtN := Lib.hid (Ht.out.below R9.out.acc)
            cases hok : okIns ((2 : Nat) : Int) a with
            | false =>
              have HIx := Lib.hid (fun wx => HI.out ((2 : Nat) : Int) a wx)
              have hfin := Hb.out 2 a rfl (by decide) Ha.out (by rw [hok]; exact fun h => Bool.noConfusion h.1)
              rw [hok] at HIx
              clear hok
              go_wp2_with fail
              refine (HIx.out _).mono ?_; rintro e w9 ⟨rfl, hb9⟩
              have R9 := Lib.hid (R9.out.next hb9)
              clear c0 c1 f0 f1
              obtain ⟨d0, d1, e0, e1⟩ := R9.out.rcells
              have HD := Lib.hid (R9.out.done 0 0)
              clear hb9
              go_wp2_with fail
              obtain ⟨p0, p1, hbz⟩ := HD.out
              refine bodyPost_ret (v := .tuple #[.agg #[.int .i64 0, .int .i64 0], .int .i64 2]) (by simp [results, Tryd.results114, go_sem, p0, p1]) rfl ?_
              unfold RetRl; rw [hfin]; exact ⟨rfl, hbz⟩
            | true =>
              have HIx := Lib.hid (fun wx => HI.out ((2 : Nat) : Int) a wx)
              have HLx := Lib.hid (fun wx hx => HL.out 2 a wx hok hx)
              rw [hok] at HIx
              by_cases hl : lineP 2 a = s
              · have hfin := Hg.out 2 a rfl (by decide) Ha.out ⟨hok, hl⟩
                rw [hl] at HLx
                clear hok hl
                go_wp2_with fail
                refine (HIx.out _).mono ?_; rintro e w9 ⟨rfl, hb9⟩
                have R9 := Lib.hid (R9.out.next hb9)
                have Ht9 := Lib.hid (HtN.out.below hb9)
                clear c0 c1 f0 f1
                obtain ⟨c90, c91, f90, f91⟩ := R9.out.cells
                clear hb9
                go_wp2_with fail
                refine (HLx.out _ Ht9.out).mono ?_; rintro e w10 ⟨rfl, hb10⟩
                have R10 := Lib.hid (R9.out.next hb10)
                clear c90 c91 f90 f91
                obtain ⟨d0, d1, e0, e1⟩ := R10.out.rcells
                obtain ⟨c100, c101, f100, f101⟩ := R10.out.cells
                have HD := Lib.hid (R10.out.done (2 : Int) a)
                clear hb10
                go_wp2_with fail
                obtain ⟨p0, p1, hbz⟩ := HD.out
                refine bodyPost_ret (v := .tuple #[.agg #[.int .i64 (2 : Int), .int .i64 a], .int .i64 0]) (by simp [results, Tryd.results114, go_sem, p0, p1]) rfl ?_
                unfold RetRl; rw [hfin]; exact ⟨rfl, hbz⟩
              · have hfin := Hb.out 2 a rfl (by decide) Ha.out (fun h => hl h.2)
                have hbn : ((lineP 2 a).toList != s.toList) = true := bne_iff_ne.2 fun e => hl (ba_inj e)
                have hbq : ((lineP 2 a).toList == s.toList) = false := beq_eq_false_iff_ne.2 fun e => hl (ba_inj e)
                generalize lineP 2 a = D at *
                clear hok hl
                go_wp2_with fail
                refine (HIx.out _).mono ?_; rintro e w9 ⟨rfl, hb9⟩
                have R9 := Lib.hid (R9.out.next hb9)
                have Ht9 := Lib.hid (HtN.out.below hb9)
                clear c0 c1 f0 f1
                obtain ⟨c90, c91, f90, f91⟩ := R9.out.cells
                clear hb9
                go_wp2_with fail
                refine (HLx.out _ Ht9.out).mono ?_; rintro e w10 ⟨rfl, hb10⟩
                have R10 := Lib.hid (R9.out.next hb10)
                clear c90 c91 f90 f91
                obtain ⟨d0, d1, e0, e1⟩ := R10.out.rcells
                have HD := Lib.hid (R10.out.done 0 0)
                clear hb10
                go_wp2_with fail
                obtain ⟨p0, p1, hbz⟩ := HD.out
                refine bodyPost_ret (v := .tuple #[.agg #[.int .i64 0, .int .i64 0], .int .i64 2]) (by simp [results, Tryd.results114, go_sem, p0, p1]) rfl ?_
                unfold RetRl; rw [hfin]; exact ⟨rfl, hbz⟩
          | some a =>
            rw [hq] at HRx
            have Ha := Lib.hid (show argW 2 Y = a by unfold argW; rw [if_neg (by decide), if_pos (by decide), hq]; rfl)
            clear hq
            go_wp2_with fail
            refine HRx.out.mono ?_; rintro e w88 ⟨rfl, hb8⟩
            have R89 := Lib.hid (R8.out.next hb8)
            clear hb8 c0 c1 f0 f1 d0 d1 e0 e1 HRx R8
            obtain ⟨c0, c1, f0, f1⟩ := R89.out.cells
            have R9 := Lib.hid (R89.out.set1 a)
            have HtN := Lib.hid (Ht.out.below R9.out.acc)
            cases hok : okIns ((2 : Nat) : Int) a with
            | false =>
              have HIx := Lib.hid (fun wx => HI.out ((2 : Nat) : Int) a wx)
              have hfin := Hb.out 2 a rfl (by decide) Ha.out (by rw [hok]; exact fun h => Bool.noConfusion h.1)
              rw [hok] at HIx
              clear hok
              go_wp2_with fail
              refine (HIx.out _).mono ?_; rintro e w9 ⟨rfl, hb9⟩
              have R9 := Lib.hid (R9.out.next hb9)
              clear c0 c1 f0 f1
              obtain ⟨d0, d1, e0, e1⟩ := R9.out.rcells
              have HD := Lib.hid (R9.out.done 0 0)
              clear hb9
              go_wp2_with fail
              obtain ⟨p0, p1, hbz⟩ := HD.out
              refine bodyPost_ret (v := .tuple #[.agg #[.int .i64 0, .int .i64 0], .int .i64 2]) (by simp [results, Tryd.results114, go_sem, p0, p1]) rfl ?_
              unfold RetRl; rw [hfin]; exact ⟨rfl, hbz⟩
            | true =>
              have HIx := Lib.hid (fun wx => HI.out ((2 : Nat) : Int) a wx)
              have HLx := Lib.hid (fun wx hx => HL.out 2 a wx hok hx)
              rw [hok] at HIx
              by_cases hl : lineP 2 a = s
              · have hfin := Hg.out 2 a rfl (by decide) Ha.out ⟨hok, hl⟩
                rw [hl] at HLx
                clear hok hl
                go_wp2_with fail
                refine (HIx.out _).mono ?_; rintro e w9 ⟨rfl, hb9⟩
                have R9 := Lib.hid (R9.out.next hb9)
                have Ht9 := Lib.hid (HtN.out.below hb9)
                clear c0 c1 f0 f1
                obtain ⟨c90, c91, f90, f91⟩ := R9.out.cells
                clear hb9
                go_wp2_with fail
                refine (HLx.out _ Ht9.out).mono ?_; rintro e w10 ⟨rfl, hb10⟩
                have R10 := Lib.hid (R9.out.next hb10)
                clear c90 c91 f90 f91
                obtain ⟨d0, d1, e0, e1⟩ := R10.out.rcells
                obtain ⟨c100, c101, f100, f101⟩ := R10.out.cells
                have HD := Lib.hid (R10.out.done (2 : Int) a)
                clear hb10
                go_wp2_with fail
                obtain ⟨p0, p1, hbz⟩ := HD.out
                refine bodyPost_ret (v := .tuple #[.agg #[.int .i64 (2 : Int), .int .i64 a], .int .i64 0]) (by simp [results, Tryd.results114, go_sem, p0, p1]) rfl ?_
                unfold RetRl; rw [hfin]; exact ⟨rfl, hbz⟩
              · have hfin := Hb.out 2 a rfl (by decide) Ha.out (fun h => hl h.2)
                have hbn : ((lineP 2 a).toList != s.toList) = true := bne_iff_ne.2 fun e => hl (ba_inj e)
                have hbq : ((lineP 2 a).toList == s.toList) = false := beq_eq_false_iff_ne.2 fun e => hl (ba_inj e)
                generalize lineP 2 a = D at *
                clear hok hl
                go_wp2_with fail
                refine (HIx.out _).mono ?_; rintro e w9 ⟨rfl, hb9⟩
                have R9 := Lib.hid (R9.out.next hb9)
                have Ht9 := Lib.hid (HtN.out.below hb9)
                clear c0 c1 f0 f1
                obtain ⟨c90, c91, f90, f91⟩ := R9.out.cells
                clear hb9
                go_wp2_with fail
                refine (HLx.out _ Ht9.out).mono ?_; rintro e w10 ⟨rfl, hb10⟩
                have R10 := Lib.hid (R9.out.next hb10)
                clear c90 c91 f90 f91
                obtain ⟨d0, d1, e0, e1⟩ := R10.out.rcells
                have HD := Lib.hid (R10.out.done 0 0)
                clear hb10
                go_wp2_with fail
                obtain ⟨p0, p1, hbz⟩ := HD.out
                refine bodyPost_ret (v := .tuple #[.agg #[.int .i64 0, .int .i64 0], .int .i64 2]) (by simp [results, Tryd.results114, go_sem, p0, p1]) rfl ?_
                unfold RetRl; rw [hfin]; exact ⟨rfl, hbz⟩
        · have R8 := Lib.hid (R7.out.set1 1)
          have Ht8 := Lib.hid (Ht.out.below R8.out.acc)
          have HRx := Lib.hid (HR.out _ Ht8.out)
          cases hq : readN Y with
          | none =>
            rw [hq] at HRx
            have Ha := Lib.hid (show argW 3 Y = 1 by unfold argW; rw [if_neg (by decide), if_pos (by decide), hq]; rfl)
            generalize ha1 : (1 : Int) = a at Ha
            have Ha1 := Lib.hid ha1; clear ha1 hq
            go_wp2_with fail
            refine HRx.out.mono ?_; rintro e w88 ⟨rfl, hb8⟩
            have R9 := Lib.hid (R8.out.next hb8)
            rw [Ha1.out] at R9
            clear hb8 c0 c1 f0 f1 d0 d1 e0 e1 HRx R8
            obtain ⟨c0, c1, f0, f1⟩ := R9.out.cells
            have HtN := Lib.hid (Ht.out.below R9.out.acc)
            cases hok : okIns ((3 : Nat) : Int) a with
            | false =>
              have HIx := Lib.hid (fun wx => HI.out ((3 : Nat) : Int) a wx)
              have hfin := Hb.out 3 a rfl (by decide) Ha.out (by rw [hok]; exact fun h => Bool.noConfusion h.1)
              rw [hok] at HIx
              clear hok
              go_wp2_with fail
              refine (HIx.out _).mono ?_; rintro e w9 ⟨rfl, hb9⟩
              have R9 := Lib.hid (R9.out.next hb9)
              clear c0 c1 f0 f1
              obtain ⟨d0, d1, e0, e1⟩ := R9.out.rcells
              have HD := Lib.hid (R9.out.done 0 0)
              clear hb9
              go_wp2_with fail
              obtain ⟨p0, p1, hbz⟩ := HD.out
              refine bodyPost_ret (v := .tuple #[.agg #[.int .i64 0, .int .i64 0], .int .i64 2]) (by simp [results, Tryd.results114, go_sem, p0, p1]) rfl ?_
              unfold RetRl; rw [hfin]; exact ⟨rfl, hbz⟩
            | true =>
              have HIx := Lib.hid (fun wx => HI.out ((3 : Nat) : Int) a wx)
              have HLx := Lib.hid (fun wx hx => HL.out 3 a wx hok hx)
              rw [hok] at HIx
              by_cases hl : lineP 3 a = s
              · have hfin := Hg.out 3 a rfl (by decide) Ha.out ⟨hok, hl⟩
                rw [hl] at HLx
                clear hok hl
                go_wp2_with fail
                refine (HIx.out _).mono ?_; rintro e w9 ⟨rfl, hb9⟩
                have R9 := Lib.hid (R9.out.next hb9)
                have Ht9 := Lib.hid (HtN.out.below hb9)
                clear c0 c1 f0 f1
                obtain ⟨c90, c91, f90, f91⟩ := R9.out.cells
                clear hb9
                go_wp2_with fail
                refine (HLx.out _ Ht9.out).mono ?_; rintro e w10 ⟨rfl, hb10⟩
                have R10 := Lib.hid (R9.out.next hb10)
                clear c90 c91 f90 f91
                obtain ⟨d0, d1, e0, e1⟩ := R10.out.rcells
                obtain ⟨c100, c101, f100, f101⟩ := R10.out.cells
                have HD := Lib.hid (R10.out.done (3 : Int) a)
                clear hb10
                go_wp2_with fail
                obtain ⟨p0, p1, hbz⟩ := HD.out
                refine bodyPost_ret (v := .tuple #[.agg #[.int .i64 (3 : Int), .int .i64 a], .int .i64 0]) (by simp [results, Tryd.results114, go_sem, p0, p1]) rfl ?_
                unfold RetRl; rw [hfin]; exact ⟨rfl, hbz⟩
              · have hfin := Hb.out 3 a rfl (by decide) Ha.out (fun h => hl h.2)
                have hbn : ((lineP 3 a).toList != s.toList) = true := bne_iff_ne.2 fun e => hl (ba_inj e)
                have hbq : ((lineP 3 a).toList == s.toList) = false := beq_eq_false_iff_ne.2 fun e => hl (ba_inj e)
                generalize lineP 3 a = D at *
                clear hok hl
                go_wp2_with fail
                refine (HIx.out _).mono ?_; rintro e w9 ⟨rfl, hb9⟩
                have R9 := Lib.hid (R9.out.next hb9)
                have Ht9 := Lib.hid (HtN.out.below hb9)
                clear c0 c1 f0 f1
                obtain ⟨c90, c91, f90, f91⟩ := R9.out.cells
                clear hb9
                go_wp2_with fail
                refine (HLx.out _ Ht9.out).mono ?_; rintro e w10 ⟨rfl, hb10⟩
                have R10 := Lib.hid (R9.out.next hb10)
                clear c90 c91 f90 f91
                obtain ⟨d0, d1, e0, e1⟩ := R10.out.rcells
                have HD := Lib.hid (R10.out.done 0 0)
                clear hb10
                go_wp2_with fail
                obtain ⟨p0, p1, hbz⟩ := HD.out
                refine bodyPost_ret (v := .tuple #[.agg #[.int .i64 0, .int .i64 0], .int .i64 2]) (by simp [results, Tryd.results114, go_sem, p0, p1]) rfl ?_
                unfold RetRl; rw [hfin]; exact ⟨rfl, hbz⟩
          | some a =>
            rw [hq] at HRx
            have Ha := Lib.hid (show argW 3 Y = a by unfold argW; rw [if_neg (by decide), if_pos (by decide), hq]; rfl)
            clear hq
            go_wp2_with fail
            refine HRx.out.mono ?_; rintro e w88 ⟨rfl, hb8⟩
            have R89 := Lib.hid (R8.out.next hb8)
            clear hb8 c0 c1 f0 f1 d0 d1 e0 e1 HRx R8
            obtain ⟨c0, c1, f0, f1⟩ := R89.out.cells
            have R9 := Lib.hid (R89.out.set1 a)
            have HtN := Lib.hid (Ht.out.below R9.out.acc)
            cases hok : okIns ((3 : Nat) : Int) a with
            | false =>
              have HIx := Lib.hid (fun wx => HI.out ((3 : Nat) : Int) a wx)
              have hfin := Hb.out 3 a rfl (by decide) Ha.out (by rw [hok]; exact fun h => Bool.noConfusion h.1)
              rw [hok] at HIx
              clear hok
              go_wp2_with fail
              refine (HIx.out _).mono ?_; rintro e w9 ⟨rfl, hb9⟩
              have R9 := Lib.hid (R9.out.next hb9)
              clear c0 c1 f0 f1
              obtain ⟨d0, d1, e0, e1⟩ := R9.out.rcells
              have HD := Lib.hid (R9.out.done 0 0)
              clear hb9
              go_wp2_with fail
              obtain ⟨p0, p1, hbz⟩ := HD.out
              refine bodyPost_ret (v := .tuple #[.agg #[.int .i64 0, .int .i64 0], .int .i64 2]) (by simp [results, Tryd.results114, go_sem, p0, p1]) rfl ?_
              unfold RetRl; rw [hfin]; exact ⟨rfl, hbz⟩
            | true =>
              have HIx := Lib.hid (fun wx => HI.out ((3 : Nat) : Int) a wx)
              have HLx := Lib.hid (fun wx hx => HL.out 3 a wx hok hx)
              rw [hok] at HIx
              by_cases hl : lineP 3 a = s
              · have hfin := Hg.out 3 a rfl (by decide) Ha.out ⟨hok, hl⟩
                rw [hl] at HLx
                clear hok hl
                go_wp2_with fail
                refine (HIx.out _).mono ?_; rintro e w9 ⟨rfl, hb9⟩
                have R9 := Lib.hid (R9.out.next hb9)
                have Ht9 := Lib.hid (HtN.out.below hb9)
                clear c0 c1 f0 f1
                obtain ⟨c90, c91, f90, f91⟩ := R9.out.cells
                clear hb9
                go_wp2_with fail
                refine (HLx.out _ Ht9.out).mono ?_; rintro e w10 ⟨rfl, hb10⟩
                have R10 := Lib.hid (R9.out.next hb10)
                clear c90 c91 f90 f91
                obtain ⟨d0, d1, e0, e1⟩ := R10.out.rcells
                obtain ⟨c100, c101, f100, f101⟩ := R10.out.cells
                have HD := Lib.hid (R10.out.done (3 : Int) a)
                clear hb10
                go_wp2_with fail
                obtain ⟨p0, p1, hbz⟩ := HD.out
                refine bodyPost_ret (v := .tuple #[.agg #[.int .i64 (3 : Int), .int .i64 a], .int .i64 0]) (by simp [results, Tryd.results114, go_sem, p0, p1]) rfl ?_
                unfold RetRl; rw [hfin]; exact ⟨rfl, hbz⟩
              · have hfin := Hb.out 3 a rfl (by decide) Ha.out (fun h => hl h.2)
                have hbn : ((lineP 3 a).toList != s.toList) = true := bne_iff_ne.2 fun e => hl (ba_inj e)
                have hbq : ((lineP 3 a).toList == s.toList) = false := beq_eq_false_iff_ne.2 fun e => hl (ba_inj e)
                generalize lineP 3 a = D at *
                clear hok hl
                go_wp2_with fail
                refine (HIx.out _).mono ?_; rintro e w9 ⟨rfl, hb9⟩
                have R9 := Lib.hid (R9.out.next hb9)
                have Ht9 := Lib.hid (HtN.out.below hb9)
                clear c0 c1 f0 f1
                obtain ⟨c90, c91, f90, f91⟩ := R9.out.cells
                clear hb9
                go_wp2_with fail
                refine (HLx.out _ Ht9.out).mono ?_; rintro e w10 ⟨rfl, hb10⟩
                have R10 := Lib.hid (R9.out.next hb10)
                clear c90 c91 f90 f91
                obtain ⟨d0, d1, e0, e1⟩ := R10.out.rcells
                have HD := Lib.hid (R10.out.done 0 0)
                clear hb10
                go_wp2_with fail
                obtain ⟨p0, p1, hbz⟩ := HD.out
                refine bodyPost_ret (v := .tuple #[.agg #[.int .i64 0, .int .i64 0], .int .i64 2]) (by simp [results, Tryd.results114, go_sem, p0, p1]) rfl ?_
                unfold RetRl; rw [hfin]; exact ⟨rfl, hbz⟩
        · have R8 := Lib.hid (R7.out.set1 1)
          have Ht8 := Lib.hid (Ht.out.below R8.out.acc)
          have HRx := Lib.hid (HR.out _ Ht8.out)
          cases hq : readN Y with
          | none =>
            rw [hq] at HRx
            have Ha := Lib.hid (show argW 4 Y = 1 by unfold argW; rw [if_neg (by decide), if_pos (by decide), hq]; rfl)
            generalize ha1 : (1 : Int) = a at Ha
            have Ha1 := Lib.hid ha1; clear ha1 hq
            go_wp2_with fail
            refine HRx.out.mono ?_; rintro e w88 ⟨rfl, hb8⟩
            have R9 := Lib.hid (R8.out.next hb8)
            rw [Ha1.out] at R9
            clear hb8 c0 c1 f0 f1 d0 d1 e0 e1 HRx R8
            obtain ⟨c0, c1, f0, f1⟩ := R9.out.cells
            have HtN := Lib.hid (Ht.out.below R9.out.acc)
            cases hok : okIns ((4 : Nat) : Int) a with
            | false =>
              have HIx := Lib.hid (fun wx => HI.out ((4 : Nat) : Int) a wx)
              have hfin := Hb.out 4 a rfl (by decide) Ha.out (by rw [hok]; exact fun h => Bool.noConfusion h.1)
              rw [hok] at HIx
              clear hok
              go_wp2_with fail
              refine (HIx.out _).mono ?_; rintro e w9 ⟨rfl, hb9⟩
              have R9 := Lib.hid (R9.out.next hb9)
              clear c0 c1 f0 f1
              obtain ⟨d0, d1, e0, e1⟩ := R9.out.rcells
              have HD := Lib.hid (R9.out.done 0 0)
              clear hb9
              go_wp2_with fail
              obtain ⟨p0, p1, hbz⟩ := HD.out
              refine bodyPost_ret (v := .tuple #[.agg #[.int .i64 0, .int .i64 0], .int .i64 2]) (by simp [results, Tryd.results114, go_sem, p0, p1]) rfl ?_
              unfold RetRl; rw [hfin]; exact ⟨rfl, hbz⟩
            | true =>
              have HIx := Lib.hid (fun wx => HI.out ((4 : Nat) : Int) a wx)
              have HLx := Lib.hid (fun wx hx => HL.out 4 a wx hok hx)
              rw [hok] at HIx
              by_cases hl : lineP 4 a = s
              · have hfin := Hg.out 4 a rfl (by decide) Ha.out ⟨hok, hl⟩
                rw [hl] at HLx
                clear hok hl
                go_wp2_with fail
                refine (HIx.out _).mono ?_; rintro e w9 ⟨rfl, hb9⟩
                have R9 := Lib.hid (R9.out.next hb9)
                have Ht9 := Lib.hid (HtN.out.below hb9)
                clear c0 c1 f0 f1
                obtain ⟨c90, c91, f90, f91⟩ := R9.out.cells
                clear hb9
                go_wp2_with fail
                refine (HLx.out _ Ht9.out).mono ?_; rintro e w10 ⟨rfl, hb10⟩
                have R10 := Lib.hid (R9.out.next hb10)
                clear c90 c91 f90 f91
                obtain ⟨d0, d1, e0, e1⟩ := R10.out.rcells
                obtain ⟨c100, c101, f100, f101⟩ := R10.out.cells
                have HD := Lib.hid (R10.out.done (4 : Int) a)
                clear hb10
                go_wp2_with fail
                obtain ⟨p0, p1, hbz⟩ := HD.out
                refine bodyPost_ret (v := .tuple #[.agg #[.int .i64 (4 : Int), .int .i64 a], .int .i64 0]) (by simp [results, Tryd.results114, go_sem, p0, p1]) rfl ?_
                unfold RetRl; rw [hfin]; exact ⟨rfl, hbz⟩
              · have hfin := Hb.out 4 a rfl (by decide) Ha.out (fun h => hl h.2)
                have hbn : ((lineP 4 a).toList != s.toList) = true := bne_iff_ne.2 fun e => hl (ba_inj e)
                have hbq : ((lineP 4 a).toList == s.toList) = false := beq_eq_false_iff_ne.2 fun e => hl (ba_inj e)
                generalize lineP 4 a = D at *
                clear hok hl
                go_wp2_with fail
                refine (HIx.out _).mono ?_; rintro e w9 ⟨rfl, hb9⟩
                have R9 := Lib.hid (R9.out.next hb9)
                have Ht9 := Lib.hid (HtN.out.below hb9)
                clear c0 c1 f0 f1
                obtain ⟨c90, c91, f90, f91⟩ := R9.out.cells
                clear hb9
                go_wp2_with fail
                refine (HLx.out _ Ht9.out).mono ?_; rintro e w10 ⟨rfl, hb10⟩
                have R10 := Lib.hid (R9.out.next hb10)
                clear c90 c91 f90 f91
                obtain ⟨d0, d1, e0, e1⟩ := R10.out.rcells
                have HD := Lib.hid (R10.out.done 0 0)
                clear hb10
                go_wp2_with fail
                obtain ⟨p0, p1, hbz⟩ := HD.out
                refine bodyPost_ret (v := .tuple #[.agg #[.int .i64 0, .int .i64 0], .int .i64 2]) (by simp [results, Tryd.results114, go_sem, p0, p1]) rfl ?_
                unfold RetRl; rw [hfin]; exact ⟨rfl, hbz⟩
          | some a =>
            rw [hq] at HRx
            have Ha := Lib.hid (show argW 4 Y = a by unfold argW; rw [if_neg (by decide), if_pos (by decide), hq]; rfl)
            clear hq
            go_wp2_with fail
            refine HRx.out.mono ?_; rintro e w88 ⟨rfl, hb8⟩
            have R89 := Lib.hid (R8.out.next hb8)
            clear hb8 c0 c1 f0 f1 d0 d1 e0 e1 HRx R8
            obtain ⟨c0, c1, f0, f1⟩ := R89.out.cells
            have R9 := Lib.hid (R89.out.set1 a)
            have HtN := Lib.hid (Ht.out.below R9.out.acc)
            cases hok : okIns ((4 : Nat) : Int) a with
            | false =>
              have HIx := Lib.hid (fun wx => HI.out ((4 : Nat) : Int) a wx)
              have hfin := Hb.out 4 a rfl (by decide) Ha.out (by rw [hok]; exact fun h => Bool.noConfusion h.1)
              rw [hok] at HIx
              clear hok
              go_wp2_with fail
              refine (HIx.out _).mono ?_; rintro e w9 ⟨rfl, hb9⟩
              have R9 := Lib.hid (R9.out.next hb9)
              clear c0 c1 f0 f1
              obtain ⟨d0, d1, e0, e1⟩ := R9.out.rcells
              have HD := Lib.hid (R9.out.done 0 0)
              clear hb9
              go_wp2_with fail
              obtain ⟨p0, p1, hbz⟩ := HD.out
              refine bodyPost_ret (v := .tuple #[.agg #[.int .i64 0, .int .i64 0], .int .i64 2]) (by simp [results, Tryd.results114, go_sem, p0, p1]) rfl ?_
              unfold RetRl; rw [hfin]; exact ⟨rfl, hbz⟩
            | true =>
              have HIx := Lib.hid (fun wx => HI.out ((4 : Nat) : Int) a wx)
              have HLx := Lib.hid (fun wx hx => HL.out 4 a wx hok hx)
              rw [hok] at HIx
              by_cases hl : lineP 4 a = s
              · have hfin := Hg.out 4 a rfl (by decide) Ha.out ⟨hok, hl⟩
                rw [hl] at HLx
                clear hok hl
                go_wp2_with fail
                refine (HIx.out _).mono ?_; rintro e w9 ⟨rfl, hb9⟩
                have R9 := Lib.hid (R9.out.next hb9)
                have Ht9 := Lib.hid (HtN.out.below hb9)
                clear c0 c1 f0 f1
                obtain ⟨c90, c91, f90, f91⟩ := R9.out.cells
                clear hb9
                go_wp2_with fail
                refine (HLx.out _ Ht9.out).mono ?_; rintro e w10 ⟨rfl, hb10⟩
                have R10 := Lib.hid (R9.out.next hb10)
                clear c90 c91 f90 f91
                obtain ⟨d0, d1, e0, e1⟩ := R10.out.rcells
                obtain ⟨c100, c101, f100, f101⟩ := R10.out.cells
                have HD := Lib.hid (R10.out.done (4 : Int) a)
                clear hb10
                go_wp2_with fail
                obtain ⟨p0, p1, hbz⟩ := HD.out
                refine bodyPost_ret (v := .tuple #[.agg #[.int .i64 (4 : Int), .int .i64 a], .int .i64 0]) (by simp [results, Tryd.results114, go_sem, p0, p1]) rfl ?_
                unfold RetRl; rw [hfin]; exact ⟨rfl, hbz⟩
              · have hfin := Hb.out 4 a rfl (by decide) Ha.out (fun h => hl h.2)
                have hbn : ((lineP 4 a).toList != s.toList) = true := bne_iff_ne.2 fun e => hl (ba_inj e)
                have hbq : ((lineP 4 a).toList == s.toList) = false := beq_eq_false_iff_ne.2 fun e => hl (ba_inj e)
                generalize lineP 4 a = D at *
                clear hok hl
                go_wp2_with fail
                refine (HIx.out _).mono ?_; rintro e w9 ⟨rfl, hb9⟩
                have R9 := Lib.hid (R9.out.next hb9)
                have Ht9 := Lib.hid (HtN.out.below hb9)
                clear c0 c1 f0 f1
                obtain ⟨c90, c91, f90, f91⟩ := R9.out.cells
                clear hb9
                go_wp2_with fail
                refine (HLx.out _ Ht9.out).mono ?_; rintro e w10 ⟨rfl, hb10⟩
                have R10 := Lib.hid (R9.out.next hb10)
                clear c90 c91 f90 f91
                obtain ⟨d0, d1, e0, e1⟩ := R10.out.rcells
                have HD := Lib.hid (R10.out.done 0 0)
                clear hb10
                go_wp2_with fail
                obtain ⟨p0, p1, hbz⟩ := HD.out
                refine bodyPost_ret (v := .tuple #[.agg #[.int .i64 0, .int .i64 0], .int .i64 2]) (by simp [results, Tryd.results114, go_sem, p0, p1]) rfl ?_
                unfold RetRl; rw [hfin]; exact ⟨rfl, hbz⟩
        · have R8 := Lib.hid (R7.out.set1 1)
          have Ht8 := Lib.hid (Ht.out.below R8.out.acc)
          have HRx := Lib.hid (HR.out _ Ht8.out)
          cases hq : readN Y with
          | none =>
            rw [hq] at HRx
            have Ha := Lib.hid (show argW 5 Y = 1 by unfold argW; rw [if_neg (by decide), if_pos (by decide), hq]; rfl)
            generalize ha1 : (1 : Int) = a at Ha
            have Ha1 := Lib.hid ha1; clear ha1 hq
            go_wp2_with fail
            refine HRx.out.mono ?_; rintro e w88 ⟨rfl, hb8⟩
            have R9 := Lib.hid (R8.out.next hb8)
            rw [Ha1.out] at R9
            clear hb8 c0 c1 f0 f1 d0 d1 e0 e1 HRx R8
            obtain ⟨c0, c1, f0, f1⟩ := R9.out.cells
            have HtN := Lib.hid (Ht.out.below R9.out.acc)
            cases hok : okIns ((5 : Nat) : Int) a with
            | false =>
              have HIx := Lib.hid (fun wx => HI.out ((5 : Nat) : Int) a wx)
              have hfin := Hb.out 5 a rfl (by decide) Ha.out (by rw [hok]; exact fun h => Bool.noConfusion h.1)
              rw [hok] at HIx
              clear hok
              go_wp2_with fail
              refine (HIx.out _).mono ?_; rintro e w9 ⟨rfl, hb9⟩
              have R9 := Lib.hid (R9.out.next hb9)
              clear c0 c1 f0 f1
              obtain ⟨d0, d1, e0, e1⟩ := R9.out.rcells
              have HD := Lib.hid (R9.out.done 0 0)
              clear hb9
              go_wp2_with fail
              obtain ⟨p0, p1, hbz⟩ := HD.out
              refine bodyPost_ret (v := .tuple #[.agg #[.int .i64 0, .int .i64 0], .int .i64 2]) (by simp [results, Tryd.results114, go_sem, p0, p1]) rfl ?_
              unfold RetRl; rw [hfin]; exact ⟨rfl, hbz⟩
            | true =>
              have HIx := Lib.hid (fun wx => HI.out ((5 : Nat) : Int) a wx)
              have HLx := Lib.hid (fun wx hx => HL.out 5 a wx hok hx)
              rw [hok] at HIx
              by_cases hl : lineP 5 a = s
              · have hfin := Hg.out 5 a rfl (by decide) Ha.out ⟨hok, hl⟩
                rw [hl] at HLx
                clear hok hl
                go_wp2_with fail
                refine (HIx.out _).mono ?_; rintro e w9 ⟨rfl, hb9⟩
                have R9 := Lib.hid (R9.out.next hb9)
                have Ht9 := Lib.hid (HtN.out.below hb9)
                clear c0 c1 f0 f1
                obtain ⟨c90, c91, f90, f91⟩ := R9.out.cells
                clear hb9
                go_wp2_with fail
                refine (HLx.out _ Ht9.out).mono ?_; rintro e w10 ⟨rfl, hb10⟩
                have R10 := Lib.hid (R9.out.next hb10)
                clear c90 c91 f90 f91
                obtain ⟨d0, d1, e0, e1⟩ := R10.out.rcells
                obtain ⟨c100, c101, f100, f101⟩ := R10.out.cells
                have HD := Lib.hid (R10.out.done (5 : Int) a)
                clear hb10
                go_wp2_with fail
                obtain ⟨p0, p1, hbz⟩ := HD.out
                refine bodyPost_ret (v := .tuple #[.agg #[.int .i64 (5 : Int), .int .i64 a], .int .i64 0]) (by simp [results, Tryd.results114, go_sem, p0, p1]) rfl ?_
                unfold RetRl; rw [hfin]; exact ⟨rfl, hbz⟩
              · have hfin := Hb.out 5 a rfl (by decide) Ha.out (fun h => hl h.2)
                have hbn : ((lineP 5 a).toList != s.toList) = true := bne_iff_ne.2 fun e => hl (ba_inj e)
                have hbq : ((lineP 5 a).toList == s.toList) = false := beq_eq_false_iff_ne.2 fun e => hl (ba_inj e)
                generalize lineP 5 a = D at *
                clear hok hl
                go_wp2_with fail
                refine (HIx.out _).mono ?_; rintro e w9 ⟨rfl, hb9⟩
                have R9 := Lib.hid (R9.out.next hb9)
                have Ht9 := Lib.hid (HtN.out.below hb9)
                clear c0 c1 f0 f1
                obtain ⟨c90, c91, f90, f91⟩ := R9.out.cells
                clear hb9
                go_wp2_with fail
                refine (HLx.out _ Ht9.out).mono ?_; rintro e w10 ⟨rfl, hb10⟩
                have R10 := Lib.hid (R9.out.next hb10)
                clear c90 c91 f90 f91
                obtain ⟨d0, d1, e0, e1⟩ := R10.out.rcells
                have HD := Lib.hid (R10.out.done 0 0)
                clear hb10
                go_wp2_with fail
                obtain ⟨p0, p1, hbz⟩ := HD.out
                refine bodyPost_ret (v := .tuple #[.agg #[.int .i64 0, .int .i64 0], .int .i64 2]) (by simp [results, Tryd.results114, go_sem, p0, p1]) rfl ?_
                unfold RetRl; rw [hfin]; exact ⟨rfl, hbz⟩
          | some a =>
            rw [hq] at HRx
            have Ha := Lib.hid (show argW 5 Y = a by unfold argW; rw [if_neg (by decide), if_pos (by decide), hq]; rfl)
            clear hq
            go_wp2_with fail
            refine HRx.out.mono ?_; rintro e w88 ⟨rfl, hb8⟩
            have R89 := Lib.hid (R8.out.next hb8)
            clear hb8 c0 c1 f0 f1 d0 d1 e0 e1 HRx R8
            obtain ⟨c0, c1, f0, f1⟩ := R89.out.cells
            have R9 := Lib.hid (R89.out.set1 a)
            have HtN := Lib.hid (Ht.out.below R9.out.acc)
            cases hok : okIns ((5 : Nat) : Int) a with
            | false =>
              have HIx := Lib.hid (fun wx => HI.out ((5 : Nat) : Int) a wx)
              have hfin := Hb.out 5 a rfl (by decide) Ha.out (by rw [hok]; exact fun h => Bool.noConfusion h.1)
              rw [hok] at HIx
              clear hok
              go_wp2_with fail
              refine (HIx.out _).mono ?_; rintro e w9 ⟨rfl, hb9⟩
              have R9 := Lib.hid (R9.out.next hb9)
              clear c0 c1 f0 f1
              obtain ⟨d0, d1, e0, e1⟩ := R9.out.rcells
              have HD := Lib.hid (R9.out.done 0 0)
              clear hb9
              go_wp2_with fail
              obtain ⟨p0, p1, hbz⟩ := HD.out
              refine bodyPost_ret (v := .tuple #[.agg #[.int .i64 0, .int .i64 0], .int .i64 2]) (by simp [results, Tryd.results114, go_sem, p0, p1]) rfl ?_
              unfold RetRl; rw [hfin]; exact ⟨rfl, hbz⟩
            | true =>
              have HIx := Lib.hid (fun wx => HI.out ((5 : Nat) : Int) a wx)
              have HLx := Lib.hid (fun wx hx => HL.out 5 a wx hok hx)
              rw [hok] at HIx
              by_cases hl : lineP 5 a = s
              · have hfin := Hg.out 5 a rfl (by decide) Ha.out ⟨hok, hl⟩
                rw [hl] at HLx
                clear hok hl
                go_wp2_with fail
                refine (HIx.out _).mono ?_; rintro e w9 ⟨rfl, hb9⟩
                have R9 := Lib.hid (R9.out.next hb9)
                have Ht9 := Lib.hid (HtN.out.below hb9)
                clear c0 c1 f0 f1
                obtain ⟨c90, c91, f90, f91⟩ := R9.out.cells
                clear hb9
                go_wp2_with fail
                refine (HLx.out _ Ht9.out).mono ?_; rintro e w10 ⟨rfl, hb10⟩
                have R10 := Lib.hid (R9.out.next hb10)
                clear c90 c91 f90 f91
                obtain ⟨d0, d1, e0, e1⟩ := R10.out.rcells
                obtain ⟨c100, c101, f100, f101⟩ := R10.out.cells
                have HD := Lib.hid (R10.out.done (5 : Int) a)
                clear hb10
                go_wp2_with fail
                obtain ⟨p0, p1, hbz⟩ := HD.out
                refine bodyPost_ret (v := .tuple #[.agg #[.int .i64 (5 : Int), .int .i64 a], .int .i64 0]) (by simp [results, Tryd.results114, go_sem, p0, p1]) rfl ?_
                unfold RetRl; rw [hfin]; exact ⟨rfl, hbz⟩
              · have hfin := Hb.out 5 a rfl (by decide) Ha.out (fun h => hl h.2)
                have hbn : ((lineP 5 a).toList != s.toList) = true := bne_iff_ne.2 fun e => hl (ba_inj e)
                have hbq : ((lineP 5 a).toList == s.toList) = false := beq_eq_false_iff_ne.2 fun e => hl (ba_inj e)
                generalize lineP 5 a = D at *
                clear hok hl
                go_wp2_with fail
                refine (HIx.out _).mono ?_; rintro e w9 ⟨rfl, hb9⟩
                have R9 := Lib.hid (R9.out.next hb9)
                have Ht9 := Lib.hid (HtN.out.below hb9)
                clear c0 c1 f0 f1
                obtain ⟨c90, c91, f90, f91⟩ := R9.out.cells
                clear hb9
                go_wp2_with fail
                refine (HLx.out _ Ht9.out).mono ?_; rintro e w10 ⟨rfl, hb10⟩
                have R10 := Lib.hid (R9.out.next hb10)
                clear c90 c91 f90 f91
                obtain ⟨d0, d1, e0, e1⟩ := R10.out.rcells
                have HD := Lib.hid (R10.out.done 0 0)
                clear hb10
                go_wp2_with fail
                obtain ⟨p0, p1, hbz⟩ := HD.out
                refine bodyPost_ret (v := .tuple #[.agg #[.int .i64 0, .int .i64 0], .int .i64 2]) (by simp [results, Tryd.results114, go_sem, p0, p1]) rfl ?_
                unfold RetRl; rw [hfin]; exact ⟨rfl, hbz⟩
        · obtain ⟨a, Ha0⟩ : ∃ a : Int, a = 0 := ⟨_, rfl⟩
          have Ha := Lib.hid (show argW 6 Y = a by unfold argW; rw [if_neg (by decide), if_neg (by decide), Ha0])
          have R9 := R7
          rw [← Ha0] at R9 c1
          clear Ha0
          have HtN := Lib.hid (Ht.out.below R9.out.acc)
          cases hok : okIns ((6 : Nat) : Int) a with
          | false =>
            have HIx := Lib.hid (fun wx => HI.out ((6 : Nat) : Int) a wx)
            have hfin := Hb.out 6 a rfl (by decide) Ha.out (by rw [hok]; exact fun h => Bool.noConfusion h.1)
            rw [hok] at HIx
            clear hok
            go_wp2_with fail
            refine (HIx.out _).mono ?_; rintro e w9 ⟨rfl, hb9⟩
            have R9 := Lib.hid (R9.out.next hb9)
            clear c0 c1 f0 f1
            obtain ⟨d0, d1, e0, e1⟩ := R9.out.rcells
            have HD := Lib.hid (R9.out.done 0 0)
            clear hb9
            go_wp2_with fail
            obtain ⟨p0, p1, hbz⟩ := HD.out
            refine bodyPost_ret (v := .tuple #[.agg #[.int .i64 0, .int .i64 0], .int .i64 2]) (by simp [results, Tryd.results114, go_sem, p0, p1]) rfl ?_
            unfold RetRl; rw [hfin]; exact ⟨rfl, hbz⟩
          | true =>
            have HIx := Lib.hid (fun wx => HI.out ((6 : Nat) : Int) a wx)
            have HLx := Lib.hid (fun wx hx => HL.out 6 a wx hok hx)
            rw [hok] at HIx
            by_cases hl : lineP 6 a = s
            · have hfin := Hg.out 6 a rfl (by decide) Ha.out ⟨hok, hl⟩
              rw [hl] at HLx
              clear hok hl
              go_wp2_with fail
              refine (HIx.out _).mono ?_; rintro e w9 ⟨rfl, hb9⟩
              have R9 := Lib.hid (R9.out.next hb9)
              have Ht9 := Lib.hid (HtN.out.below hb9)
              clear c0 c1 f0 f1
              obtain ⟨c90, c91, f90, f91⟩ := R9.out.cells
              clear hb9
              go_wp2_with fail
              refine (HLx.out _ Ht9.out).mono ?_; rintro e w10 ⟨rfl, hb10⟩
              have R10 := Lib.hid (R9.out.next hb10)
              clear c90 c91 f90 f91
              obtain ⟨d0, d1, e0, e1⟩ := R10.out.rcells
              obtain ⟨c100, c101, f100, f101⟩ := R10.out.cells
              have HD := Lib.hid (R10.out.done (6 : Int) a)
              clear hb10
              go_wp2_with fail
              obtain ⟨p0, p1, hbz⟩ := HD.out
              refine bodyPost_ret (v := .tuple #[.agg #[.int .i64 (6 : Int), .int .i64 a], .int .i64 0]) (by simp [results, Tryd.results114, go_sem, p0, p1]) rfl ?_
              unfold RetRl; rw [hfin]; exact ⟨rfl, hbz⟩
            · have hfin := Hb.out 6 a rfl (by decide) Ha.out (fun h => hl h.2)
              have hbn : ((lineP 6 a).toList != s.toList) = true := bne_iff_ne.2 fun e => hl (ba_inj e)
              have hbq : ((lineP 6 a).toList == s.toList) = false := beq_eq_false_iff_ne.2 fun e => hl (ba_inj e)
              generalize lineP 6 a = D at *
              clear hok hl
              go_wp2_with fail
              refine (HIx.out _).mono ?_; rintro e w9 ⟨rfl, hb9⟩
              have R9 := Lib.hid (R9.out.next hb9)
              have Ht9 := Lib.hid (HtN.out.below hb9)
              clear c0 c1 f0 f1
              obtain ⟨c90, c91, f90, f91⟩ := R9.out.cells
              clear hb9
              go_wp2_with fail
              refine (HLx.out _ Ht9.out).mono ?_; rintro e w10 ⟨rfl, hb10⟩
              have R10 := Lib.hid (R9.out.next hb10)
              clear c90 c91 f90 f91
              obtain ⟨d0, d1, e0, e1⟩ := R10.out.rcells
              have HD := Lib.hid (R10.out.done 0 0)
              clear hb10
              go_wp2_with fail
              obtain ⟨p0, p1, hbz⟩ := HD.out
              refine bodyPost_ret (v := .tuple #[.agg #[.int .i64 0, .int .i64 0], .int .i64 2]) (by simp [results, Tryd.results114, go_sem, p0, p1]) rfl ?_
              unfold RetRl; rw [hfin]; exact ⟨rfl, hbz⟩
        · obtain ⟨a, Ha0⟩ : ∃ a : Int, a = 0 := ⟨_, rfl⟩
          have Ha := Lib.hid (show argW 7 Y = a by unfold argW; rw [if_neg (by decide), if_neg (by decide), Ha0])
          have R9 := R7
          rw [← Ha0] at R9 c1
          clear Ha0
          have HtN := Lib.hid (Ht.out.below R9.out.acc)
          cases hok : okIns ((7 : Nat) : Int) a with
          | false =>
            have HIx := Lib.hid (fun wx => HI.out ((7 : Nat) : Int) a wx)
            have hfin := Hb.out 7 a rfl (by decide) Ha.out (by rw [hok]; exact fun h => Bool.noConfusion h.1)
            rw [hok] at HIx
            clear hok
            go_wp2_with fail
            refine (HIx.out _).mono ?_; rintro e w9 ⟨rfl, hb9⟩
            have R9 := Lib.hid (R9.out.next hb9)
            clear c0 c1 f0 f1
            obtain ⟨d0, d1, e0, e1⟩ := R9.out.rcells
            have HD := Lib.hid (R9.out.done 0 0)
            clear hb9
            go_wp2_with fail
            obtain ⟨p0, p1, hbz⟩ := HD.out
            refine bodyPost_ret (v := .tuple #[.agg #[.int .i64 0, .int .i64 0], .int .i64 2]) (by simp [results, Tryd.results114, go_sem, p0, p1]) rfl ?_
            unfold RetRl; rw [hfin]; exact ⟨rfl, hbz⟩
          | true =>
            have HIx := Lib.hid (fun wx => HI.out ((7 : Nat) : Int) a wx)
            have HLx := Lib.hid (fun wx hx => HL.out 7 a wx hok hx)
            rw [hok] at HIx
            by_cases hl : lineP 7 a = s
            · have hfin := Hg.out 7 a rfl (by decide) Ha.out ⟨hok, hl⟩
              rw [hl] at HLx
              clear hok hl
              go_wp2_with fail
              refine (HIx.out _).mono ?_; rintro e w9 ⟨rfl, hb9⟩
              have R9 := Lib.hid (R9.out.next hb9)
              have Ht9 := Lib.hid (HtN.out.below hb9)
              clear c0 c1 f0 f1
              obtain ⟨c90, c91, f90, f91⟩ := R9.out.cells
              clear hb9
              go_wp2_with fail
              refine (HLx.out _ Ht9.out).mono ?_; rintro e w10 ⟨rfl, hb10⟩
              have R10 := Lib.hid (R9.out.next hb10)
              clear c90 c91 f90 f91
              obtain ⟨d0, d1, e0, e1⟩ := R10.out.rcells
              obtain ⟨c100, c101, f100, f101⟩ := R10.out.cells
              have HD := Lib.hid (R10.out.done (7 : Int) a)
              clear hb10
              go_wp2_with fail
              obtain ⟨p0, p1, hbz⟩ := HD.out
              refine bodyPost_ret (v := .tuple #[.agg #[.int .i64 (7 : Int), .int .i64 a], .int .i64 0]) (by simp [results, Tryd.results114, go_sem, p0, p1]) rfl ?_
              unfold RetRl; rw [hfin]; exact ⟨rfl, hbz⟩
            · have hfin := Hb.out 7 a rfl (by decide) Ha.out (fun h => hl h.2)
              have hbn : ((lineP 7 a).toList != s.toList) = true := bne_iff_ne.2 fun e => hl (ba_inj e)
              have hbq : ((lineP 7 a).toList == s.toList) = false := beq_eq_false_iff_ne.2 fun e => hl (ba_inj e)
              generalize lineP 7 a = D at *
              clear hok hl
              go_wp2_with fail
              refine (HIx.out _).mono ?_; rintro e w9 ⟨rfl, hb9⟩
              have R9 := Lib.hid (R9.out.next hb9)
              have Ht9 := Lib.hid (HtN.out.below hb9)
              clear c0 c1 f0 f1
              obtain ⟨c90, c91, f90, f91⟩ := R9.out.cells
              clear hb9
              go_wp2_with fail
              refine (HLx.out _ Ht9.out).mono ?_; rintro e w10 ⟨rfl, hb10⟩
              have R10 := Lib.hid (R9.out.next hb10)
              clear c90 c91 f90 f91
              obtain ⟨d0, d1, e0, e1⟩ := R10.out.rcells
              have HD := Lib.hid (R10.out.done 0 0)
              clear hb10
              go_wp2_with fail
              obtain ⟨p0, p1, hbz⟩ := HD.out
              refine bodyPost_ret (v := .tuple #[.agg #[.int .i64 0, .int .i64 0], .int .i64 2]) (by simp [results, Tryd.results114, go_sem, p0, p1]) rfl ?_
              unfold RetRl; rw [hfin]; exact ⟨rfl, hbz⟩
        · obtain ⟨a, Ha0⟩ : ∃ a : Int, a = 0 := ⟨_, rfl⟩
          have Ha := Lib.hid (show argW 9 Y = a by unfold argW; rw [if_neg (by decide), if_neg (by decide), Ha0])
          have R9 := R7
          rw [← Ha0] at R9 c1
          clear Ha0
          have HtN := Lib.hid (Ht.out.below R9.out.acc)
          cases hok : okIns ((9 : Nat) : Int) a with
          | false =>
            have HIx := Lib.hid (fun wx => HI.out ((9 : Nat) : Int) a wx)
            have hfin := Hb.out 9 a rfl (by decide) Ha.out (by rw [hok]; exact fun h => Bool.noConfusion h.1)
            rw [hok] at HIx
            clear hok
            go_wp2_with fail
            refine (HIx.out _).mono ?_; rintro e w9 ⟨rfl, hb9⟩
            have R9 := Lib.hid (R9.out.next hb9)
            clear c0 c1 f0 f1
            obtain ⟨d0, d1, e0, e1⟩ := R9.out.rcells
            have HD := Lib.hid (R9.out.done 0 0)
            clear hb9
            go_wp2_with fail
            obtain ⟨p0, p1, hbz⟩ := HD.out
            refine bodyPost_ret (v := .tuple #[.agg #[.int .i64 0, .int .i64 0], .int .i64 2]) (by simp [results, Tryd.results114, go_sem, p0, p1]) rfl ?_
            unfold RetRl; rw [hfin]; exact ⟨rfl, hbz⟩
          | true =>
            have HIx := Lib.hid (fun wx => HI.out ((9 : Nat) : Int) a wx)
            have HLx := Lib.hid (fun wx hx => HL.out 9 a wx hok hx)
            rw [hok] at HIx
            by_cases hl : lineP 9 a = s
            · have hfin := Hg.out 9 a rfl (by decide) Ha.out ⟨hok, hl⟩
              rw [hl] at HLx
              clear hok hl
              go_wp2_with fail
              refine (HIx.out _).mono ?_; rintro e w9 ⟨rfl, hb9⟩
              have R9 := Lib.hid (R9.out.next hb9)
              have Ht9 := Lib.hid (HtN.out.below hb9)
              clear c0 c1 f0 f1
              obtain ⟨c90, c91, f90, f91⟩ := R9.out.cells
              clear hb9
              go_wp2_with fail
              refine (HLx.out _ Ht9.out).mono ?_; rintro e w10 ⟨rfl, hb10⟩
              have R10 := Lib.hid (R9.out.next hb10)
              clear c90 c91 f90 f91
              obtain ⟨d0, d1, e0, e1⟩ := R10.out.rcells
              obtain ⟨c100, c101, f100, f101⟩ := R10.out.cells
              have HD := Lib.hid (R10.out.done (9 : Int) a)
              clear hb10
              go_wp2_with fail
              obtain ⟨p0, p1, hbz⟩ := HD.out
              refine bodyPost_ret (v := .tuple #[.agg #[.int .i64 (9 : Int), .int .i64 a], .int .i64 0]) (by simp [results, Tryd.results114, go_sem, p0, p1]) rfl ?_
              unfold RetRl; rw [hfin]; exact ⟨rfl, hbz⟩
            · have hfin := Hb.out 9 a rfl (by decide) Ha.out (fun h => hl h.2)
              have hbn : ((lineP 9 a).toList != s.toList) = true := bne_iff_ne.2 fun e => hl (ba_inj e)
              have hbq : ((lineP 9 a).toList == s.toList) = false := beq_eq_false_iff_ne.2 fun e => hl (ba_inj e)
              generalize lineP 9 a = D at *
              clear hok hl
              go_wp2_with fail
              refine (HIx.out _).mono ?_; rintro e w9 ⟨rfl, hb9⟩
              have R9 := Lib.hid (R9.out.next hb9)
              have Ht9 := Lib.hid (HtN.out.below hb9)
              clear c0 c1 f0 f1
              obtain ⟨c90, c91, f90, f91⟩ := R9.out.cells
              clear hb9
              go_wp2_with fail
              refine (HLx.out _ Ht9.out).mono ?_; rintro e w10 ⟨rfl, hb10⟩
              have R10 := Lib.hid (R9.out.next hb10)
              clear c90 c91 f90 f91
              obtain ⟨d0, d1, e0, e1⟩ := R10.out.rcells
              have HD := Lib.hid (R10.out.done 0 0)
              clear hb10
              go_wp2_with fail
              obtain ⟨p0, p1, hbz⟩ := HD.out
              refine bodyPost_ret (v := .tuple #[.agg #[.int .i64 0, .int .i64 0], .int .i64 2]) (by simp [results, Tryd.results114, go_sem, p0, p1]) rfl ?_
              unfold RetRl; rw [hfin]; exact ⟨rfl, hbz⟩
        · obtain ⟨a, Ha0⟩ : ∃ a : Int, a = 0 := ⟨_, rfl⟩
          have Ha := Lib.hid (show argW 10 Y = a by unfold argW; rw [if_neg (by decide), if_neg (by decide), Ha0])
          have R9 := R7
          rw [← Ha0] at R9 c1
          clear Ha0
          have HtN := Lib.hid (Ht.out.below R9.out.acc)
          cases hok : okIns ((10 : Nat) : Int) a with
          | false =>
            have HIx := Lib.hid (fun wx => HI.out ((10 : Nat) : Int) a wx)
            have hfin := Hb.out 10 a rfl (by decide) Ha.out (by rw [hok]; exact fun h => Bool.noConfusion h.1)
            rw [hok] at HIx
            clear hok
            go_wp2_with fail
            refine (HIx.out _).mono ?_; rintro e w9 ⟨rfl, hb9⟩
            have R9 := Lib.hid (R9.out.next hb9)
            clear c0 c1 f0 f1
            obtain ⟨d0, d1, e0, e1⟩ := R9.out.rcells
            have HD := Lib.hid (R9.out.done 0 0)
            clear hb9
            go_wp2_with fail
            obtain ⟨p0, p1, hbz⟩ := HD.out
            refine bodyPost_ret (v := .tuple #[.agg #[.int .i64 0, .int .i64 0], .int .i64 2]) (by simp [results, Tryd.results114, go_sem, p0, p1]) rfl ?_
            unfold RetRl; rw [hfin]; exact ⟨rfl, hbz⟩
          | true =>
            have HIx := Lib.hid (fun wx => HI.out ((10 : Nat) : Int) a wx)
            have HLx := Lib.hid (fun wx hx => HL.out 10 a wx hok hx)
            rw [hok] at HIx
            by_cases hl : lineP 10 a = s
            · have hfin := Hg.out 10 a rfl (by decide) Ha.out ⟨hok, hl⟩
              rw [hl] at HLx
              clear hok hl
              go_wp2_with fail
              refine (HIx.out _).mono ?_; rintro e w9 ⟨rfl, hb9⟩
              have R9 := Lib.hid (R9.out.next hb9)
              have Ht9 := Lib.hid (HtN.out.below hb9)
              clear c0 c1 f0 f1
              obtain ⟨c90, c91, f90, f91⟩ := R9.out.cells
              clear hb9
              go_wp2_with fail
              refine (HLx.out _ Ht9.out).mono ?_; rintro e w10 ⟨rfl, hb10⟩
              have R10 := Lib.hid (R9.out.next hb10)
              clear c90 c91 f90 f91
              obtain ⟨d0, d1, e0, e1⟩ := R10.out.rcells
              obtain ⟨c100, c101, f100, f101⟩ := R10.out.cells
              have HD := Lib.hid (R10.out.done (10 : Int) a)
              clear hb10
              go_wp2_with fail
              obtain ⟨p0, p1, hbz⟩ := HD.out
              refine bodyPost_ret (v := .tuple #[.agg #[.int .i64 (10 : Int), .int .i64 a], .int .i64 0]) (by simp [results, Tryd.results114, go_sem, p0, p1]) rfl ?_
              unfold RetRl; rw [hfin]; exact ⟨rfl, hbz⟩
            · have hfin := Hb.out 10 a rfl (by decide) Ha.out (fun h => hl h.2)
              have hbn : ((lineP 10 a).toList != s.toList) = true := bne_iff_ne.2 fun e => hl (ba_inj e)
              have hbq : ((lineP 10 a).toList == s.toList) = false := beq_eq_false_iff_ne.2 fun e => hl (ba_inj e)
              generalize lineP 10 a = D at *
              clear hok hl
              go_wp2_with fail
              refine (HIx.out _).mono ?_; rintro e w9 ⟨rfl, hb9⟩
              have R9 := Lib.hid (R9.out.next hb9)
              have Ht9 := Lib.hid (HtN.out.below hb9)
              clear c0 c1 f0 f1
              obtain ⟨c90, c91, f90, f91⟩ := R9.out.cells
              clear hb9
              go_wp2_with fail
              refine (HLx.out _ Ht9.out).mono ?_; rintro e w10 ⟨rfl, hb10⟩
              have R10 := Lib.hid (R9.out.next hb10)
              clear c90 c91 f90 f91
              obtain ⟨d0, d1, e0, e1⟩ := R10.out.rcells
              have HD := Lib.hid (R10.out.done 0 0)
              clear hb10
              go_wp2_with fail
              obtain ⟨p0, p1, hbz⟩ := HD.out
              refine bodyPost_ret (v := .tuple #[.agg #[.int .i64 0, .int .i64 0], .int .i64 2]) (by simp [results, Tryd.results114, go_sem, p0, p1]) rfl ?_
              unfold RetRl; rw [hfin]; exact ⟨rfl, hbz⟩
end Go.Proofs.YtiddhelabmaghaaDoor
